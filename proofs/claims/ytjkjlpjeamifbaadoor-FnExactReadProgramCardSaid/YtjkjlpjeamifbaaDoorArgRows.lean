/- What a law's arguments read as: slices of structs, as rows of cells. -/
import Derived.Test.YtjkjlpjeamifbaaDoorArgs
import Derived.Deep.Slices
namespace Go.Proofs.YtjkjlpjeamifbaaDoor
open Go.ChangeShapes Go.WideShapes Go.ChangeAt Go.RowKit

/-- rows of equal width: cell j of row k -/
theorem flat_at {α : Type} (cells : α → List Value) (sz : Nat) (hc : ∀ x, (cells x).length = sz) : ∀ (xs : List α) (k j : Nat) (hk : k < xs.length), j < sz → (xs.flatMap cells)[k * sz + j]? = (cells xs[k])[j]?
  | [], k, j, hk, _ => by simp at hk
  | x :: xs, 0, j, _, hj => by
    rw [List.flatMap_cons, Nat.zero_mul, Nat.zero_add, List.getElem?_append_left (by rw [hc]; exact hj)]; rfl
  | x :: xs, k + 1, j, hk, hj => by
    rw [List.flatMap_cons, List.getElem?_append_right (by rw [hc, Nat.succ_mul]; omega), hc]
    have e : (k + 1) * sz + j - sz = k * sz + j := by rw [Nat.succ_mul]; omega
    rw [e, flat_at cells sz hc xs k j (by simpa using hk) hj]
    simp
theorem flat_len {α : Type} (cells : α → List Value) (sz : Nat) (hc : ∀ x, (cells x).length = sz) : ∀ xs : List α, (xs.flatMap cells).length = xs.length * sz
  | [] => by simp
  | x :: xs => by
    rw [List.flatMap_cons, List.length_append, hc, flat_len cells sz hc xs, List.length_cons, Nat.succ_mul]; omega

section
variable {H : Type} {enc : TypeId × Value → H} {P : Program} {W : World}

theorem rd_rows {α : Type} (cells : α → List Value) (good : α → Prop) {T E base sz : Nat} {r : Reach} {v : Value} {d : DataW H} {p : List MemPlace} (hT : P.underlying T = some (.slice E)) (hC : P.cellsOf E = sz) (hsz : 0 < sz) (hc : ∀ x, (cells x).length = sz)
    (elem : ∀ n cs y, DataW.trod enc P W 0 (fun _ => true) true n E cs = some y → ∃ x, cs = cells x ∧ good x)
    (ok : Value.okWide P W r base T v) (h : DataW.Trod enc P W 0 (fun _ => true) true T v d p) :
    ∃ xs : List α, Rd W W.heap.size v xs.length sz (xs.flatMap cells) ∧ xs.length ≤ maxLen ∧ ∀ x ∈ xs, good x := by
  obtain ⟨a0, len, cap, rfl⟩ := okWide_slice hT ok
  obtain ⟨fuel, hf⟩ := h
  rcases Go.Deep.open_slice hT hf with ⟨hcs, hx⟩ | ⟨a, len', cap', m, n, D, Pl, hcs, _, hl, hm, hmm, hx, hi⟩
  · simp [Value.cells] at hcs
    obtain ⟨rfl, rfl, rfl⟩ := hcs
    exact ⟨[], ⟨by simp, none, 0, rfl, fun h => by simp at h⟩, by simp [maxLen], by simp⟩
  · simp [Value.cells] at hcs
    obtain ⟨rfl, rfl, rfl⟩ := hcs
    have hm' : m = cap := by simpa using hmm
    subst hm'
    have hel : ∀ i : Nat, i < m → ∃ x, good x ∧ W.cells? 0 (a.add (i * sz)) sz = some (cells x) := fun i hi' => by
      obtain ⟨cs', h1, h2⟩ := hi i hi'
      obtain ⟨x, rfl, hg⟩ := elem _ _ _ h2
      rw [hC] at h1
      exact ⟨x, hg, h1⟩
    have hch : ∃ f : Fin len → α, ∀ i : Fin len, good (f i) ∧ W.cells? 0 (a.add (i * sz)) sz = some (cells (f i)) :=
      ⟨fun i => Classical.choose (hel i (by have := i.2; omega)), fun i => Classical.choose_spec (hel i (by have := i.2; omega))⟩
    obtain ⟨f, hff⟩ := hch
    have hlen : (List.ofFn f).length = len := List.length_ofFn
    refine ⟨List.ofFn f, ?_, by rw [hlen]; omega, fun x hx => ?_⟩
    · rw [hlen]
      refine ⟨by rw [flat_len cells sz hc, hlen], some a, m, rfl, fun hn => ?_⟩
      have hl0 : 0 < len := by
        rcases Nat.eq_zero_or_pos len with h | h
        · subst h; simp at hn
        · exact h
      have hcell : ∀ (k : Nat) (hk : k < len) (j : Nat), j < sz → W.cell? ((a.add (k * sz)).add j) = (cells (f ⟨k, hk⟩))[j]? := fun k hk j hj =>
        (World.cells?_some (hff ⟨k, hk⟩).2).2.2 j hj
      obtain ⟨b, off, spot⟩ := a
      have h00 := hcell 0 hl0 0 hsz
      rw [List.getElem?_eq_getElem (by rw [hc]; exact hsz)] at h00
      have hspot : spot = none := by simpa [Addr.add] using World.cell?_spot h00
      subst hspot
      have hadd : ∀ k j, ((⟨b, off, none⟩ : Addr).add (k * sz)).add j = ⟨b, off + (k * sz + j), none⟩ := fun k j => by
        rw [Go.WideShapes.add_plain, Go.WideShapes.add_plain, Nat.add_assoc]
      rw [hadd] at h00
      refine ⟨b, off, rfl, World.block_lt_of_cell? W _ h00, fun i u hu => ?_⟩
      have hil : i < len * sz := by
        have := (List.getElem?_eq_some_iff.1 hu).1
        rwa [flat_len cells sz hc, hlen] at this
      have hk : i / sz < len := by rw [Nat.div_lt_iff_lt_mul hsz]; exact hil
      have hj : i % sz < sz := Nat.mod_lt _ hsz
      have hdm : i / sz * sz + i % sz = i := by rw [Nat.mul_comm]; exact Nat.div_add_mod i sz
      have h1 := hcell (i / sz) hk (i % sz) hj
      rw [hadd, hdm] at h1
      have h2 := flat_at cells sz hc (List.ofFn f) (i / sz) (i % sz) (by rw [hlen]; exact hk) hj
      rw [hdm, List.getElem_ofFn] at h2
      rw [h1, ← h2, hu]
    · obtain ⟨i, rfl⟩ := List.mem_ofFn.1 hx
      exact (hff i).1
end
end Go.Proofs.YtjkjlpjeamifbaaDoor
