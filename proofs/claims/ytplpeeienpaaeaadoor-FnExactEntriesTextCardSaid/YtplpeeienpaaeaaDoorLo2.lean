/- Loans, part 2: sizes of lists, one loan's copy and equality. -/
import Derived.Test.YtplpeeienpaaeaaDoorLo1
namespace Go.Proofs.YtplpeeienpaaeaaDoor
open Go.RowKit Go.Joins

theorem toLoan_any (x : Ln) (w : World) :
    Calls Tryd.prog 28 #[aggL x] w fun e w' => e = .returned (aggL x) ∧ Below w.heap.size w w' := by
  obtain ⟨a, b, f, t⟩ := x
  have hb := fun o1 o2 o3 => Lib.hid ((((Below.refl w.heap.size w).alloc (Nat.le_refl _) o1).alloc (by simp) o2).alloc (by simp; omega) o3)
  go_enter Tryd.func28, Tryd.ntmps28
  go_wp2_with fail
  exact bodyPost_ret (v := .agg #[.string a, .string b, .int .i64 f, .int .i64 t]) (by simp [results, Tryd.results28, go_sem]) rfl ⟨rfl, (hb _ _ _).out⟩

theorem eqLoan_same (x : Ln) (w : World) :
    Calls Tryd.prog 31 #[aggL x, aggL x] w fun e w' => e = .returned (.bool true) ∧ Below w.heap.size w w' := by
  obtain ⟨a, b, f, t⟩ := x
  have hb := fun o1 o2 => Lib.hid (((Below.refl w.heap.size w).alloc (Nat.le_refl _) o1).alloc (by simp) o2)
  go_enter Tryd.func31, Tryd.ntmps31
  go_wp2_with fail
  go_ret
  exact ⟨rfl, (hb _ _).out⟩

def SzLs (xs : List Ln) (left : Int) (w : World) (e : Ending) (w' : World) : Prop := ∃ r : Int, e = .returned (.int .i64 r) ∧ r ≤ left ∧ (0 ≤ r → xs.length ≤ 1048576 ∧ ∀ x ∈ xs, smL x) ∧ Below w.heap.size w w'
set_option maxRecDepth 100000 in
set_option maxHeartbeats 1600000 in
theorem szLoanS_any (B : Nat) (v : Value) (xs : List Ln) (left : Int) (w : World) (h : RdL w B v xs) (hB : B ≤ w.heap.size) (hl : xs.length ≤ maxLen) (hx : ∀ x ∈ xs, lenL x) (q0 : 0 ≤ left) (q1 : left ≤ 1048576) :
    Calls Tryd.prog 6 #[v, .int .i64 left] w (SzLs xs left w) := by
  have H := Lib.hid h
  have Hx := Lib.hid hx
  obtain ⟨A, c, rfl⟩ := h.slice
  clear h hx
  simp only [maxLen] at hl
  have hb0 := Lib.hid (Below.refl w.heap.size w)
  by_cases hbig : left - (xs.length : Int) < 0
  · go_enter Tryd.func6, Tryd.ntmps6
    go_wp2_with fail
    go_ret
    exact ⟨_, rfl, by omega, by omega, hb0.out⟩
  · have hb1 : (0 : Int) ≤ left - (xs.length : Int) := by omega
    go_enter Tryd.func6, Tryd.ntmps6
    go_wp2_with fail
    go_loopw [1, 5] (fun l i wr => ∃ (k : Nat) (r : Int), k ≤ xs.length ∧ 0 ≤ r ∧ r ≤ left ∧ (∀ x ∈ xs.take k, smL x) ∧ l = .int .i64 r ∧ i = .int .i64 k ∧ Below w.heap.size w wr) (fun _ i _ => xs.length - (intOf i).toNat)
    case atStart => exact ⟨0, _, Nat.zero_le _, hb1, by omega, by simp, rfl, rfl, hb0.out⟩
    case round =>
      obtain ⟨k, r, hk, hr0, hr1, hall, rfl, rfl, hbl⟩ := hrel
      have Hall := Lib.hid hall; clear hall
      by_cases hlt : k < xs.length
      · obtain ⟨b1, o1, hA, hE⟩ := (H.out.below (hbl.mono hB)).at k hlt
        subst hA
        have hlt' : (k : Int) < (xs.length : Int) := by omega
        have Hle := Lib.hid (Hx.out xs[k] (List.getElem_mem hlt))
        have Hst := Lib.hid (show smL xs[k] → ∀ x ∈ xs.take (k + 1), smL x from fun h x hx => by
          rw [List.take_succ_eq_append_getElem hlt] at hx
          rcases List.mem_append.1 hx with h1 | h1
          · exact Hall.out x h1
          · rw [List.mem_singleton.1 h1]; exact h)
        generalize xs[k] = x at *
        obtain ⟨a, b, f, t⟩ := x
        have HZ := Lib.hid (szLoan_any ⟨a, b, f, t⟩ r wr Hle.out hr0 (by omega))
        obtain ⟨hbB, e0, e1, e2, e3⟩ := hE
        dsimp only at e0 e1 e2 e3
        go_wp2_with fail
        refine HZ.out.mono ?_; rintro e w1 ⟨r', rfl, hr1', hr2', hb1'⟩
        have hbl1 := hbl.trans (hb1'.mono hbl.size)
        have Hr2 := Lib.hid hr2'; clear hr2' hbl hb1'
        by_cases n1 : r' < 0
        · go_wp2_with fail
          go_ret
          exact ⟨_, rfl, by omega, by omega, hbl1⟩
        · go_wp2_with fail
          go_roundw
          case rel => exact ⟨k + 1, r', by omega, by omega, by omega, Hst.out (Hr2.out (by omega)), rfl, by go_num, hbl1⟩
          case measure => simp [intOf]; omega
      · have hfin := Hall.out
        rw [List.take_of_length_le (by omega)] at hfin
        have Hfin := Lib.hid hfin; clear hfin
        have hlt' : (xs.length : Int) ≤ (k : Int) := by omega
        go_wp2_with fail
        go_ret
        exact ⟨_, rfl, hr1, fun _ => ⟨by omega, Hfin.out⟩, hbl⟩
end Go.Proofs.YtplpeeienpaaeaaDoor
