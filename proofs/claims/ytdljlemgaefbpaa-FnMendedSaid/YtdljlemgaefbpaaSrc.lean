/- The source of draws (l00Src): what each draw hands back, and that only its own block turns. -/
import Derived.Test.YtdljlemgaefbpaaLib
import Derived.Test.YtdljlemgaefbpaaBase
import Derived.Lib.SmallJoins
import Derived.Laws.BitsAllLaws
namespace Go.Proofs.Ytdljlemgaefbpaa
open Go.RowKit Go.Joins

/-- block g is a source over the bytes bs, at most k of its draws are done; the bytes lie below block B -/
def SrcAt (w : World) (B g k : Nat) (bs : List UInt8) : Prop :=
  ∃ (cv : Value) (p s : Nat), w.heap[g]? = some (.cells #[cv, .int .i64 p, .int .u64 s] 133 (0, 0)) ∧ Rd w B cv bs.length 1 (bs.map byV) ∧ p ≤ k ∧ s < 18446744073709551616 ∧ B ≤ g

theorem SrcAt.lt {w : World} {B g k : Nat} {bs : List UInt8} (h : SrcAt w B g k bs) : g < w.heap.size := by
  obtain ⟨cv, p, s, h, _⟩ := h
  exact (Array.getElem?_eq_some_iff.1 h).1
theorem SrcAt.more {w : World} {B g k k' : Nat} {bs : List UInt8} (h : SrcAt w B g k bs) (hk : k ≤ k') : SrcAt w B g k' bs := by
  obtain ⟨cv, p, s, h1, h2, h3, h4, h5⟩ := h
  exact ⟨cv, p, s, h1, h2, by omega, h4, h5⟩
/-- kept by all that leaves its blocks alone -/
theorem SrcAt.grown {w w' : World} {B g k : Nat} {bs : List UInt8} {r : Option Nat} (h : SrcAt w B g k bs) (hg : w.grownBy w' r) (hr : ∀ x, r = some x → g < x) : SrcAt w' B g k bs := by
  obtain ⟨cv, p, s, h1, h2, h3, h4, h5⟩ := h
  have hlt := (Array.getElem?_eq_some_iff.1 h1).1
  refine ⟨cv, p, s, (hg.block g hlt (fun e => by have := hr g e.symm; omega)).trans h1, h2.keep fun q hq => World.cell?_of_block (hg.block q.block (by omega) (fun e => by have := hr _ e.symm; omega)), h3, h4, h5⟩
theorem SrcAt.below {w w' : World} {B g k : Nat} {bs : List UInt8} (h : SrcAt w B g k bs) (hb : Below w.heap.size w w') : SrcAt w' B g k bs := h.grown (grown_of_below hb none) (fun x hx => by cases hx)
theorem SrcAt.drewN {w : World} {B g k : Nat} {bs : List UInt8} (h : SrcAt w B g k bs) (n : Nat) : SrcAt (w.drewN n) B g k bs := h
theorem SrcAt.drew {w : World} {B g k : Nat} {bs : List UInt8} (h : SrcAt w B g k bs) : SrcAt w.drew B g k bs := h

/-- a draw: a number with a property is handed back, only block g has turned -/
def Drawn (w : World) (B g k : Nat) (bs : List UInt8) (p : Int → Prop) (e : Ending) (w' : World) : Prop :=
  ∃ x, e = .returned (.int .i64 x) ∧ p x ∧ SrcAt w' B g k bs ∧ w.grownBy w' (some g)

theorem src_cells {w : World} {g : Nat} {a b c : Value} {t : TypeId} (h : w.heap[g]? = some (.cells #[a, b, c] t (0, 0))) :
    w.cell? ⟨g, 0, none⟩ = some a ∧ w.cell? ⟨g, 1, none⟩ = some b ∧ w.cell? ⟨g, 2, none⟩ = some c ∧ ∀ i, w.frozen? ⟨g, i, none⟩ = false := by
  refine ⟨?_, ?_, ?_, fun i => ?_⟩
  · rw [cell_of_row w g 0 _ _ _ h]; rfl
  · rw [cell_of_row w g 1 _ _ _ h]; rfl
  · rw [cell_of_row w g 2 _ _ _ h]; rfl
  · exact frozen_of_row w g i _ _ h

theorem u64_bd (x : Int) : 0 ≤ IntKind.u64.wrap x ∧ IntKind.u64.wrap x < 18446744073709551616 := by
  rw [IntKind.wrap_u64]; omega

theorem src_step {w : World} {B g k p : Nat} {c0 c2 : Value} {bs : List UInt8} (h1 : w.heap[g]? = some (.cells #[c0, .int .i64 p, c2] 133 (0, 0))) (h2 : Rd w B c0 bs.length 1 (bs.map byV)) (h3 : p ≤ k) (h5 : B ≤ g) (X : Int) (a b : Nat) :
    SrcAt ((((w.drewN a).setCell ⟨g, 1, none⟩ (.int .i64 ((p : Int) + 1))).setCell ⟨g, 2, none⟩ (.int .u64 (IntKind.u64.wrap X))).drewN b) B g (k + 1) bs ∧
    w.grownBy ((((w.drewN a).setCell ⟨g, 1, none⟩ (.int .i64 ((p : Int) + 1))).setCell ⟨g, 2, none⟩ (.int .u64 (IntKind.u64.wrap X))).drewN b) (some g) := by
  have hh := u64_bd X
  have e1 := heap_setCell_same (w.drewN a) g 1 _ _ (.int .i64 ((p : Int) + 1)) h1
  have e2 := heap_setCell_same _ g 2 _ _ (.int .u64 (IntKind.u64.wrap X)) e1
  have hg : w.grownBy ((((w.drewN a).setCell ⟨g, 1, none⟩ (.int .i64 ((p : Int) + 1))).setCell ⟨g, 2, none⟩ (.int .u64 (IntKind.u64.wrap X))).drewN b) (some g) := by
    refine ⟨rfl, rfl, rfl, by simp [World.setCell, World.drewN], fun i _ hne => ?_⟩
    have hi : i ≠ g := fun e => hne (by rw [e])
    show ((((w.drewN a).setCell ⟨g, 1, none⟩ _).setCell ⟨g, 2, none⟩ _)).heap[i]? = _
    rw [Below.heap_setCell _ _ _ _ hi, Below.heap_setCell _ _ _ _ hi]
    rfl
  refine ⟨⟨c0, p + 1, (IntKind.u64.wrap X).toNat, ?_, ?_, by omega, by omega, h5⟩, hg⟩
  · rw [Int.toNat_of_nonneg hh.1]
    exact e2
  · refine h2.keep fun q hq => World.cell?_of_block ?_
    have hlt : g < w.heap.size := (Array.getElem?_eq_some_iff.1 h1).1
    exact hg.block q.block (by omega) (fun e => by injection e with e; omega)

theorem and255 (X : Int) (h0 : 0 ≤ X) (h1 : X < 18446744073709551616) : 0 ≤ wrap64 (bits .and .u64 X 255) ∧ wrap64 (bits .and .u64 X 255) ≤ 255 := by
  rw [u64_and X 255 h0 h1 (by omega) (by omega)]
  have h := Nat.and_le_right (n := X.toNat) (m := (255 : Int).toNat)
  have h' : (255 : Int).toNat = 255 := rfl
  rw [IntWalk.wrap64_in _ ⟨by omega, by omega⟩]
  omega

set_option maxRecDepth 100000 in
set_option maxHeartbeats 800000 in
theorem next_any (B g k : Nat) (bs : List UInt8) (w : World) (h : SrcAt w B g k bs) (hk : k < 4611686018427387904) :
    Calls Try.prog 165 #[.pointer (some ⟨g, 0, none⟩)] w (Drawn w B g (k + 1) bs fun x => 0 ≤ x ∧ x ≤ 255) := by
  obtain ⟨cv, p, s, h1, hRd, h3, h4, h5⟩ := h
  have hRd' := hRd
  obtain ⟨_, A, c, rfl, h2⟩ := hRd'
  have hRd := Lib.hid hRd
  obtain ⟨hc0, hc1, hc2, hfz⟩ := src_cells h1
  have hf1 := hfz 1
  have hf2 := hfz 2
  clear hfz
  have H1 := Lib.hid h1; clear h1
  have H2 := Lib.hid h2; clear h2
  by_cases hlt : p < bs.length
  · obtain ⟨b1, o1, rfl, hb1, hcc⟩ := H2.out (by omega)
    have hx := hcc p (byV bs[p]) (by simp [hlt])
    have hne : b1 ≠ g := by omega
    have hlt' : (p : Int) < (bs.length : Int) := by omega
    clear hcc
    unfold byV at hx
    have hx8 := bs[p].toNat_lt
    generalize bs[p].toNat = x at *
    have hxb : (x : Int) < 256 := by omega
    have hxi : (0 : Int) ≤ (x : Int) := by omega
    clear hx8
    have hwx : IntKind.i64.wrap (x : Int) = x := IntWalk.i64_in _ (by omega)
    go_enter Try.func165, Try.ntmps165
    go_wp2_with fail
    go_quiet (fail)
    go_wp2_with fail
    go_quiet (fail)
    clear hwx
    go_wp2_with fail
    go_quiet (fail)
    go_wp2_with fail
    go_ret
    have hs := src_step H1.out (hRd.out) h3 h5
    exact ⟨_, rfl, ⟨by omega, by omega⟩, (hs _ _ _).1, (hs _ _ _).2⟩
  · have hge : (bs.length : Int) ≤ (p : Int) := by omega
    go_enter Try.func165, Try.ntmps165
    go_wp2_with fail
    go_quiet (fail)
    go_wp2_with fail
    go_quiet (fail)
    go_wp2_with fail
    go_ret
    have hs := src_step H1.out (hRd.out) h3 h5
    exact ⟨_, rfl, and255 _ (by have := u64_bd (IntKind.u64.wrap (IntKind.u64.wrap ((s : Int) * 6364136223846793005)) + 1442695040888963407); omega) (by have := u64_bd (IntKind.u64.wrap (IntKind.u64.wrap ((s : Int) * 6364136223846793005)) + 1442695040888963407); omega), (hs _ _ _).1, (hs _ _ _).2⟩
/-- a draw: a bool is handed back -/
def DrawnB (w : World) (B g k : Nat) (bs : List UInt8) (e : Ending) (w' : World) : Prop :=
  ∃ x : Bool, e = .returned (.bool x) ∧ SrcAt w' B g k bs ∧ w.grownBy w' (some g)

set_option maxRecDepth 100000 in
set_option maxHeartbeats 800000 in
theorem pick_any (B g k : Nat) (bs : List UInt8) (n : Int) (w : World) (h : SrcAt w B g k bs) (hk : k < 4611686018427387900) :
    Calls Try.prog 94 #[.pointer (some ⟨g, 0, none⟩), .int .i64 n] w (Drawn w B g (k + 2) bs fun x => 0 ≤ x ∧ (2 ≤ n → x < n) ∧ (n ≤ 1 → x = 0)) := by
  by_cases h1 : n ≤ 1
  · have hg0 : w.grownBy w (some g) := ⟨rfl, rfl, rfl, Nat.le_refl _, fun _ _ _ => rfl⟩
    have H := Lib.hid h; clear h
    go_enter Try.func94, Try.ntmps94
    go_wp2_with fail
    go_ret
    exact ⟨0, rfl, ⟨by omega, by omega, by omega⟩, H.out.more (by omega), hg0⟩
  · by_cases h2 : n ≤ 200
    · have H := Lib.hid h; clear h
      go_enter Try.func94, Try.ntmps94
      go_wp2_with fail
      refine (next_any B g k bs _ H.out (by omega)).mono ?_; rintro e w1 ⟨x, rfl, ⟨hx0, hx1⟩, hs1, hg1⟩
      have Hs1 := Lib.hid hs1; clear hs1
      go_wp2_with fail
      go_ret
      have := Int.emod_nonneg x (by omega : n ≠ 0)
      have := Int.emod_lt_of_pos x (by omega : 0 < n)
      exact ⟨_, rfl, ⟨by omega, by omega, by omega⟩, Hs1.out.more (by omega), hg1⟩
    · have H := Lib.hid h; clear h
      go_enter Try.func94, Try.ntmps94
      go_wp2_with fail
      refine (next_any B g k bs _ H.out (by omega)).mono ?_; rintro e w1 ⟨x, rfl, ⟨hx0, hx1⟩, hs1, hg1⟩
      have Hs1 := Lib.hid hs1; clear hs1
      go_wp2_with fail
      refine (next_any B g (k + 1) bs _ Hs1.out (by omega)).mono ?_; rintro e w2 ⟨y, rfl, ⟨hy0, hy1⟩, hs2, hg2⟩
      have Hs2 := Lib.hid hs2; clear hs2
      have hg := grown_trans hg1 hg2
      go_wp2_with fail
      go_ret
      have := Int.emod_nonneg (x * 256 + y) (by omega : n ≠ 0)
      have := Int.emod_lt_of_pos (x * 256 + y) (by omega : 0 < n)
      exact ⟨_, rfl, ⟨by omega, by omega, by omega⟩, Hs2.out, hg⟩

set_option maxHeartbeats 400000 in
theorem l00From_any (B : Nat) (cv : Value) (bs : List UInt8) (w : World) (h : Rd w B cv bs.length 1 (bs.map byV)) (hB : B ≤ w.heap.size) :
    Calls Try.prog 84 #[cv] w fun e w' => e = .returned (.pointer (some ⟨w.heap.size, 0, none⟩)) ∧ SrcAt w' B w.heap.size 0 bs ∧ Below w.heap.size w w' ∧ w.heap.size < w'.heap.size := by
  have hb := (Below.refl w.heap.size w).alloc (Nat.le_refl _)
  have hs : ∀ t, SrcAt (w.alloc (.cells #[cv, .int .i64 0, .int .u64 0] t)) B w.heap.size 0 bs ∨ t ≠ 133 := fun t => by
    by_cases ht : t = 133
    · subst ht
      exact .inl ⟨cv, 0, 0, heap_alloc_new w _, h.below ((hb _).mono hB), Nat.le_refl _, by omega, hB⟩
    · exact .inr ht
  obtain ⟨_, A, c, rfl, h2⟩ := h
  clear h2
  have Hs := Lib.hid hs; clear hs
  go_enter Try.func84, Try.ntmps84
  go_wp2_with fail
  go_ret
  exact ⟨rfl, (Hs.out _).resolve_right (by simp), hb _, by simp⟩

end Go.Proofs.Ytdljlemgaefbpaa
