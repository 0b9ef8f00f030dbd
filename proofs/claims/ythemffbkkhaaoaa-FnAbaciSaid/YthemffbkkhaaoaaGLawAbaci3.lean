/- Merged texts: Src, One, Dg1, Dr1, Dm8, Dm9, Dm10, Dm11, Dm12, Ab1, Ab2, Ab3, Ab5. -/
import Derived.Test.YthemffbkkhaaoaaGLawAbaci1
import Derived.Lib.SmallJoins
import Derived.Laws.BitsAllLaws
import Derived.Test.YthemffbkkhaaoaaGLawAbaci2
import Derived.Deep.DeepCutAuto
import Derived.Deep.CutRange
/- The source of draws (l00Src): what each draw hands back, and that only its own block turns. -/
namespace Go.Proofs.Ythemffbkkhaaoaa
open Go.RowKit Go.Joins

/-- block g is a source over the bytes bs, at most k of its draws are done; the bytes lie below block B -/
def SrcAt (w : World) (B g k : Nat) (bs : List UInt8) : Prop :=
  ∃ (cv : Value) (p s : Nat), w.heap[g]? = some (.cells #[cv, .int .i64 p, .int .u64 s] 198 (0, 0)) ∧ Rd w B cv bs.length 1 (bs.map byV) ∧ p ≤ k ∧ s < 18446744073709551616 ∧ B ≤ g

theorem SrcAt.lt {w : World} {B g k : Nat} {bs : List UInt8} (h : SrcAt w B g k bs) : g < w.heap.size := by
  obtain ⟨cv, p, s, h, _⟩ := h
  exact (Array.getElem?_eq_some_iff.1 h).1
theorem SrcAt.more {w : World} {B g k k' : Nat} {bs : List UInt8} (h : SrcAt w B g k bs) (hk : k ≤ k') : SrcAt w B g k' bs := by
  obtain ⟨cv, p, s, h1, h2, h3, h4, h5⟩ := h
  exact ⟨cv, p, s, h1, h2, by omega, h4, h5⟩
/-- kept by all that leaves its blocks alone -/
theorem SrcAt.grown {w w' : World} {B g k : Nat} {bs : List UInt8} {r : Option Nat} (h : SrcAt w B g k bs) (hg : w.grownBy w' r) (hr : ∀ x, r = some x → g < x) : SrcAt w' B g k bs := by
  obtain ⟨cv, p, s, h1, h2, h3, h4, h5⟩ := h
  have hlt := (Array.getElem?_eq_some_iff.1 h1).1
  refine ⟨cv, p, s, (hg.block g hlt (fun e => by have := hr g e.symm; omega)).trans h1, h2.keep fun q hq => World.cell?_of_block (hg.block q.block (by omega) (fun e => by have := hr _ e.symm; omega)), h3, h4, h5⟩
theorem SrcAt.below {w w' : World} {B g k : Nat} {bs : List UInt8} (h : SrcAt w B g k bs) (hb : Below w.heap.size w w') : SrcAt w' B g k bs := h.grown (grown_of_below hb none) (fun x hx => by cases hx)
theorem SrcAt.drewN {w : World} {B g k : Nat} {bs : List UInt8} (h : SrcAt w B g k bs) (n : Nat) : SrcAt (w.drewN n) B g k bs := h
theorem SrcAt.drew {w : World} {B g k : Nat} {bs : List UInt8} (h : SrcAt w B g k bs) : SrcAt w.drew B g k bs := h

/-- a draw: a number with a property is handed back, only block g has turned -/
def Drawn (w : World) (B g k : Nat) (bs : List UInt8) (p : Int → Prop) (e : Ending) (w' : World) : Prop :=
  ∃ x, e = .returned (.int .i64 x) ∧ p x ∧ SrcAt w' B g k bs ∧ w.grownBy w' (some g)

theorem src_cells {w : World} {g : Nat} {a b c : Value} {t : TypeId} (h : w.heap[g]? = some (.cells #[a, b, c] t (0, 0))) :
    w.cell? ⟨g, 0, none⟩ = some a ∧ w.cell? ⟨g, 1, none⟩ = some b ∧ w.cell? ⟨g, 2, none⟩ = some c ∧ ∀ i, w.frozen? ⟨g, i, none⟩ = false := by
  refine ⟨?_, ?_, ?_, fun i => ?_⟩
  · rw [cell_of_row w g 0 _ _ _ h]; rfl
  · rw [cell_of_row w g 1 _ _ _ h]; rfl
  · rw [cell_of_row w g 2 _ _ _ h]; rfl
  · exact frozen_of_row w g i _ _ h

theorem u64_bd (x : Int) : 0 ≤ IntKind.u64.wrap x ∧ IntKind.u64.wrap x < 18446744073709551616 := by
  rw [IntKind.wrap_u64]; omega

theorem src_step {w : World} {B g k p : Nat} {c0 c2 : Value} {bs : List UInt8} (h1 : w.heap[g]? = some (.cells #[c0, .int .i64 p, c2] 198 (0, 0))) (h2 : Rd w B c0 bs.length 1 (bs.map byV)) (h3 : p ≤ k) (h5 : B ≤ g) (X : Int) (a b : Nat) :
    SrcAt ((((w.drewN a).setCell ⟨g, 1, none⟩ (.int .i64 ((p : Int) + 1))).setCell ⟨g, 2, none⟩ (.int .u64 (IntKind.u64.wrap X))).drewN b) B g (k + 1) bs ∧
    w.grownBy ((((w.drewN a).setCell ⟨g, 1, none⟩ (.int .i64 ((p : Int) + 1))).setCell ⟨g, 2, none⟩ (.int .u64 (IntKind.u64.wrap X))).drewN b) (some g) := by
  have hh := u64_bd X
  have e1 := heap_setCell_same (w.drewN a) g 1 _ _ (.int .i64 ((p : Int) + 1)) h1
  have e2 := heap_setCell_same _ g 2 _ _ (.int .u64 (IntKind.u64.wrap X)) e1
  have hg : w.grownBy ((((w.drewN a).setCell ⟨g, 1, none⟩ (.int .i64 ((p : Int) + 1))).setCell ⟨g, 2, none⟩ (.int .u64 (IntKind.u64.wrap X))).drewN b) (some g) := by
    refine ⟨rfl, rfl, rfl, by simp [World.setCell, World.drewN], fun i _ hne => ?_⟩
    have hi : i ≠ g := fun e => hne (by rw [e])
    show ((((w.drewN a).setCell ⟨g, 1, none⟩ _).setCell ⟨g, 2, none⟩ _)).heap[i]? = _
    rw [Below.heap_setCell _ _ _ _ hi, Below.heap_setCell _ _ _ _ hi]
    rfl
  refine ⟨⟨c0, p + 1, (IntKind.u64.wrap X).toNat, ?_, ?_, by omega, by omega, h5⟩, hg⟩
  · rw [Int.toNat_of_nonneg hh.1]
    exact e2
  · refine h2.keep fun q hq => World.cell?_of_block ?_
    have hlt : g < w.heap.size := (Array.getElem?_eq_some_iff.1 h1).1
    exact hg.block q.block (by omega) (fun e => by injection e with e; omega)

theorem and255 (X : Int) (h0 : 0 ≤ X) (h1 : X < 18446744073709551616) : 0 ≤ wrap64 (bits .and .u64 X 255) ∧ wrap64 (bits .and .u64 X 255) ≤ 255 := by
  rw [u64_and X 255 h0 h1 (by omega) (by omega)]
  have h := Nat.and_le_right (n := X.toNat) (m := (255 : Int).toNat)
  have h' : (255 : Int).toNat = 255 := rfl
  rw [IntWalk.wrap64_in _ ⟨by omega, by omega⟩]
  omega

set_option maxRecDepth 100000 in
set_option maxHeartbeats 800000 in
theorem next_any (B g k : Nat) (bs : List UInt8) (w : World) (h : SrcAt w B g k bs) (hk : k < 4611686018427387904) :
    Calls Try.prog 196 #[.pointer (some ⟨g, 0, none⟩)] w (Drawn w B g (k + 1) bs fun x => 0 ≤ x ∧ x ≤ 255) := by
  obtain ⟨cv, p, s, h1, hRd, h3, h4, h5⟩ := h
  have hRd' := hRd
  obtain ⟨_, A, c, rfl, h2⟩ := hRd'
  have hRd := Lib.hid hRd
  obtain ⟨hc0, hc1, hc2, hfz⟩ := src_cells h1
  have hf1 := hfz 1
  have hf2 := hfz 2
  clear hfz
  have H1 := Lib.hid h1; clear h1
  have H2 := Lib.hid h2; clear h2
  by_cases hlt : p < bs.length
  · obtain ⟨b1, o1, rfl, hb1, hcc⟩ := H2.out (by omega)
    have hx := hcc p (byV bs[p]) (by simp [hlt])
    have hne : b1 ≠ g := by omega
    have hlt' : (p : Int) < (bs.length : Int) := by omega
    clear hcc
    unfold byV at hx
    have hx8 := bs[p].toNat_lt
    generalize bs[p].toNat = x at *
    have hxb : (x : Int) < 256 := by omega
    have hxi : (0 : Int) ≤ (x : Int) := by omega
    clear hx8
    have hwx : IntKind.i64.wrap (x : Int) = x := IntWalk.i64_in _ (by omega)
    go_enter Try.func196, Try.ntmps196
    go_wp2_with fail
    go_quiet (fail)
    go_wp2_with fail
    go_quiet (fail)
    clear hwx
    go_wp2_with fail
    go_quiet (fail)
    go_wp2_with fail
    go_ret
    have hs := src_step H1.out (hRd.out) h3 h5
    exact ⟨_, rfl, ⟨by omega, by omega⟩, (hs _ _ _).1, (hs _ _ _).2⟩
  · have hge : (bs.length : Int) ≤ (p : Int) := by omega
    go_enter Try.func196, Try.ntmps196
    go_wp2_with fail
    go_quiet (fail)
    go_wp2_with fail
    go_quiet (fail)
    go_wp2_with fail
    go_ret
    have hs := src_step H1.out (hRd.out) h3 h5
    exact ⟨_, rfl, and255 _ (by have := u64_bd (IntKind.u64.wrap (IntKind.u64.wrap ((s : Int) * 6364136223846793005)) + 1442695040888963407); omega) (by have := u64_bd (IntKind.u64.wrap (IntKind.u64.wrap ((s : Int) * 6364136223846793005)) + 1442695040888963407); omega), (hs _ _ _).1, (hs _ _ _).2⟩
/-- a draw: a bool is handed back -/
def DrawnB (w : World) (B g k : Nat) (bs : List UInt8) (e : Ending) (w' : World) : Prop :=
  ∃ x : Bool, e = .returned (.bool x) ∧ SrcAt w' B g k bs ∧ w.grownBy w' (some g)

set_option maxRecDepth 100000 in
set_option maxHeartbeats 800000 in
theorem pick_any (B g k : Nat) (bs : List UInt8) (n : Int) (w : World) (h : SrcAt w B g k bs) (hk : k < 4611686018427387900) :
    Calls Try.prog 108 #[.pointer (some ⟨g, 0, none⟩), .int .i64 n] w (Drawn w B g (k + 2) bs fun x => 0 ≤ x ∧ (2 ≤ n → x < n) ∧ (n ≤ 1 → x = 0)) := by
  by_cases h1 : n ≤ 1
  · have hg0 : w.grownBy w (some g) := ⟨rfl, rfl, rfl, Nat.le_refl _, fun _ _ _ => rfl⟩
    have H := Lib.hid h; clear h
    go_enter Try.func108, Try.ntmps108
    go_wp2_with fail
    go_ret
    exact ⟨0, rfl, ⟨by omega, by omega, by omega⟩, H.out.more (by omega), hg0⟩
  · by_cases h2 : n ≤ 200
    · have H := Lib.hid h; clear h
      go_enter Try.func108, Try.ntmps108
      go_wp2_with fail
      refine (next_any B g k bs _ H.out (by omega)).mono ?_; rintro e w1 ⟨x, rfl, ⟨hx0, hx1⟩, hs1, hg1⟩
      have Hs1 := Lib.hid hs1; clear hs1
      go_wp2_with fail
      go_ret
      have := Int.emod_nonneg x (by omega : n ≠ 0)
      have := Int.emod_lt_of_pos x (by omega : 0 < n)
      exact ⟨_, rfl, ⟨by omega, by omega, by omega⟩, Hs1.out.more (by omega), hg1⟩
    · have H := Lib.hid h; clear h
      go_enter Try.func108, Try.ntmps108
      go_wp2_with fail
      refine (next_any B g k bs _ H.out (by omega)).mono ?_; rintro e w1 ⟨x, rfl, ⟨hx0, hx1⟩, hs1, hg1⟩
      have Hs1 := Lib.hid hs1; clear hs1
      go_wp2_with fail
      refine (next_any B g (k + 1) bs _ Hs1.out (by omega)).mono ?_; rintro e w2 ⟨y, rfl, ⟨hy0, hy1⟩, hs2, hg2⟩
      have Hs2 := Lib.hid hs2; clear hs2
      have hg := grown_trans hg1 hg2
      go_wp2_with fail
      go_ret
      have := Int.emod_nonneg (x * 256 + y) (by omega : n ≠ 0)
      have := Int.emod_lt_of_pos (x * 256 + y) (by omega : 0 < n)
      exact ⟨_, rfl, ⟨by omega, by omega, by omega⟩, Hs2.out, hg⟩

set_option maxHeartbeats 400000 in
theorem l00From_any (B : Nat) (cv : Value) (bs : List UInt8) (w : World) (h : Rd w B cv bs.length 1 (bs.map byV)) (hB : B ≤ w.heap.size) :
    Calls Try.prog 102 #[cv] w fun e w' => e = .returned (.pointer (some ⟨w.heap.size, 0, none⟩)) ∧ SrcAt w' B w.heap.size 0 bs ∧ Below w.heap.size w w' ∧ w.heap.size < w'.heap.size := by
  have hb := (Below.refl w.heap.size w).alloc (Nat.le_refl _)
  have hs : ∀ t, SrcAt (w.alloc (.cells #[cv, .int .i64 0, .int .u64 0] t)) B w.heap.size 0 bs ∨ t ≠ 198 := fun t => by
    by_cases ht : t = 198
    · subst ht
      exact .inl ⟨cv, 0, 0, heap_alloc_new w _, h.below ((hb _).mono hB), Nat.le_refl _, by omega, hB⟩
    · exact .inr ht
  obtain ⟨_, A, c, rfl, h2⟩ := h
  clear h2
  have Hs := Lib.hid hs; clear hs
  go_enter Try.func102, Try.ntmps102
  go_wp2_with fail
  go_ret
  exact ⟨rfl, (Hs.out _).resolve_right (by simp), hb _, by simp⟩

end Go.Proofs.Ythemffbkkhaaoaa
/- The draw 'one'. -/
namespace Go.Proofs.Ythemffbkkhaaoaa
open Go.RowKit Go.Joins

set_option maxHeartbeats 400000 in
theorem one_any (B g k : Nat) (bs : List UInt8) (n : Int) (w : World) (h : SrcAt w B g k bs) (hk : k < 4611686018427387900) :
    Calls Try.prog 105 #[.pointer (some ⟨g, 0, none⟩), .int .i64 n] w (DrawnB w B g (k + 2) bs) := by
  have H := Lib.hid h; clear h
  go_enter Try.func105, Try.ntmps105
  go_wp2_with fail
  refine (pick_any B g k bs n _ H.out (by omega)).mono ?_; rintro e w1 ⟨x, rfl, _, hs1, hg1⟩
  have Hs1 := Lib.hid hs1; clear hs1
  go_wp2_with fail
  go_ret
  exact ⟨_, rfl, Hs1.out, hg1⟩

end Go.Proofs.Ythemffbkkhaaoaa
/- Draws: a row of the call's own that grows while numbers are drawn; a text is spoilt (l01Spoil). -/
namespace Go.Proofs.Ythemffbkkhaaoaa
open Go.RowKit Go.Joins

/-- in the world w, reached from W: the source g has done at most k draws, v is a row of the call's own, and of what was there only the source has turned -/
structure DrR (W w : World) (B g k : Nat) (bs : List UInt8) (e : TypeId) (sz : Nat) (v : Value) (n : Nat) (cs : List Value) : Prop where
  lt : g < W.heap.size
  src : SrcAt w B g k bs
  row : w.ownsRow W.heap.size e sz v n cs
  gr : W.grownBy w (some g)
theorem DrR.draw {W w w' : World} {B g k k' : Nat} {bs : List UInt8} {e : TypeId} {sz n : Nat} {v : Value} {cs : List Value} (h : DrR W w B g k bs e sz v n cs) (hs : SrcAt w' B g k' bs) (hg : w.grownBy w' (some g)) : DrR W w' B g k' bs e sz v n cs :=
  ⟨h.lt, hs, h.row.kept hg (by
    cases hv : v.ownBlock with
    | none => exact .inl rfl
    | some x => exact .inr fun e => by have := (h.row.lt x hv).1; have := h.lt; injection e; omega), grown_trans h.gr hg⟩
theorem DrR.below {W w w' : World} {B g k : Nat} {bs : List UInt8} {e : TypeId} {sz n : Nat} {v : Value} {cs : List Value} (h : DrR W w B g k bs e sz v n cs) (hb : Below w.heap.size w w') : DrR W w' B g k bs e sz v n cs :=
  ⟨h.lt, h.src.below hb, own_below h.row hb, grown_below h.gr hb⟩
theorem DrR.more {W w : World} {B g k k' : Nat} {bs : List UInt8} {e : TypeId} {sz n : Nat} {v : Value} {cs : List Value} (h : DrR W w B g k bs e sz v n cs) (hk : k ≤ k') : DrR W w B g k' bs e sz v n cs :=
  ⟨h.lt, h.src.more hk, h.row, h.gr⟩
theorem grownBy_row {W w w' : World} {g : Nat} {ob : Option Nat} (h : W.grownBy w (some g)) (hg : w.grownBy w' ob) (ho : ∀ x, ob = some x → W.heap.size ≤ x) : W.grownBy w' (some g) :=
  ⟨hg.os.trans h.os, hg.tape.trans h.tape, hg.output.trans h.output, Nat.le_trans h.size hg.size, fun i hi hne => (hg.block i (Nat.lt_of_lt_of_le hi h.size) (fun e => by have := ho i e.symm; omega)).trans (h.block i hi hne)⟩
theorem DrR.app {W w w' : World} {B g k : Nat} {bs : List UInt8} {e : TypeId} {sz n n' : Nat} {v v' : Value} {cs cs' : List Value} (h : DrR W w B g k bs e sz v n cs) (hr : w'.ownsRow W.heap.size e sz v' n' cs') (hg : w.grownBy w' v.ownBlock) : DrR W w' B g k bs e sz v' n' cs' :=
  ⟨h.lt, h.src.grown hg (fun x hx => Nat.lt_of_lt_of_le h.lt (h.row.lt x hx).1), hr, grownBy_row h.gr hg (fun x hx => (h.row.lt x hx).1)⟩
theorem DrR.drewN {W w : World} {B g k : Nat} {bs : List UInt8} {e : TypeId} {sz n : Nat} {v : Value} {cs : List Value} (h : DrR W w B g k bs e sz v n cs) (m : Nat) : DrR W (w.drewN m) B g k bs e sz v n cs :=
  ⟨h.lt, h.src.drewN m, h.row.drewN m, grown_below h.gr (below_drewN (Below.refl _ _) m)⟩
theorem DrR.size {W w : World} {B g k : Nat} {bs : List UInt8} {e : TypeId} {sz n : Nat} {v : Value} {cs : List Value} (h : DrR W w B g k bs e sz v n cs) : W.heap.size ≤ w.heap.size := h.gr.size
theorem DrR.nil {W : World} {B g k : Nat} {bs : List UInt8} (h : SrcAt W B g k bs) (e : TypeId) (sz : Nat) : DrR W W B g k bs e sz (.slice none 0 0) 0 [] :=
  ⟨h.lt, h, ⟨by simp, .inl ⟨rfl, rfl⟩⟩, ⟨rfl, rfl, rfl, Nat.le_refl _, fun _ _ _ => rfl⟩⟩
theorem DrR.made {W : World} {B g k : Nat} {bs : List UInt8} (h : SrcAt W B g k bs) (e : TypeId) (sz : Nat) : DrR W (W.alloc (.cells #[] e)) B g k bs e sz (.slice (some ⟨W.heap.size, 0, none⟩) 0 0) 0 [] :=
  have hb := (Below.refl W.heap.size W).alloc (Nat.le_refl _) (.cells #[] e)
  ⟨h.lt, h.below hb, World.ownsRow_made (base := W.heap.size) (e := e) (size := sz) W #[] 0 (Nat.le_refl _) (by simp [maxLen]) (by simp), grown_of_below hb _⟩
/-- what a later call sees: the row's owner has gone on -/
theorem DrR.from {W W' w : World} {B g k : Nat} {bs : List UInt8} {e : TypeId} {sz n : Nat} {v : Value} {cs : List Value} (h : DrR W' w B g k bs e sz v n cs) (hg : W.grownBy W' (some g)) (hl : g < W.heap.size) : DrR W w B g k bs e sz v n cs :=
  ⟨hl, h.src, ownsRow_le h.row hg.size, grown_trans hg h.gr⟩

set_option maxRecDepth 100000 in
set_option maxHeartbeats 400000 in
theorem text_in (B g k b m : Nat) (l : List ByteArray) (bs : List UInt8) (w : World) (h : SrcAt w B g k bs) (hk : k < 4611686018427387800) (hm : l.length = m) (hm2 : 2 ≤ m) (hm3 : m ≤ 200) (hb : b ≠ g) (hbl : b < w.heap.size)
    (hc : ∀ i (hi : i < l.length), w.cell? ⟨b, i, none⟩ = some (.string l[i])) :
    Calls Try.prog 207 #[.pointer (some ⟨g, 0, none⟩), .slice (some ⟨b, 0, none⟩) m m] w fun e w' => ∃ z, z ∈ l ∧ e = .returned (.string z) ∧ SrcAt w' B g (k + 2) bs ∧ w.grownBy w' (some g) := by
  have H := Lib.hid h; clear h
  have Hc := Lib.hid hc; clear hc
  have hm4 : (m : Int) ≤ 200 := by omega
  go_enter Try.func207, Try.ntmps207
  go_wp2_with fail
  refine (pick_any B g k bs m _ H.out (by omega)).mono ?_; rintro e w1 ⟨x, rfl, ⟨hx0, hx1, _⟩, hs1, hg1⟩
  have Hs1 := Lib.hid hs1; clear hs1
  obtain ⟨i, rfl⟩ : ∃ i : Nat, x = i := ⟨x.toNat, by omega⟩
  have hx2 := hx1 (by omega)
  have hi : i < l.length := by omega
  have hcell := (World.cell?_of_block (a := ⟨b, i, none⟩) (hg1.block b hbl (fun e => hb (by injection e)))).trans (Hc.out i hi)
  have hmem := Lib.hid (List.getElem_mem hi)
  generalize l[i] = z at *
  clear hx1
  go_wp2_with fail
  go_ret
  exact ⟨z, hmem.out, rfl, Hs1.out, hg1⟩
theorem alloc_strs (w : World) (l : List ByteArray) (t : TypeId) : ∀ i (hi : i < l.length), (w.alloc (.cells (l.map Value.string).toArray t)).cell? ⟨w.heap.size, i, none⟩ = some (.string l[i]) := fun i hi => by
  have := new_cells w (l.map Value.string).toArray t i (.string l[i]) (by simp [hi])
  rwa [show (⟨w.heap.size, 0, none⟩ : Addr).add i = ⟨w.heap.size, i, none⟩ by unfold Addr.add; split <;> simp_all] at this
/-- .. from texts just laid out, in a region that draws its order -/
theorem text_new (B g k m : Nat) (l : List ByteArray) (bs : List UInt8) (w : World) (h : SrcAt w B g k bs) (hk : k < 4611686018427387800) (hm : l.length = m) (hm2 : 2 ≤ m) (hm3 : m ≤ 200) :
    Calls Try.prog 207 #[.pointer (some ⟨g, 0, none⟩), .slice (some ⟨w.heap.size, 0, none⟩) m m] (w.alloc (.cells (l.map Value.string).toArray 9)) fun e w' => ∃ z, z ∈ l ∧ e = .returned (.string z) ∧ SrcAt w' B g (k + 2) bs ∧ w.grownBy w' (some g) := by
  have hlt := h.lt
  refine (text_in B g k w.heap.size m l bs _ (h.below ((Below.refl w.heap.size w).alloc (Nat.le_refl _) _)) hk hm hm2 hm3 (by omega) (by simp) (alloc_strs w l _)).mono ?_
  rintro e w' ⟨z, h1, h2, h3, h4⟩
  exact ⟨z, h1, h2, h3, grown_from_alloc h4⟩
theorem text_newd (B g k m : Nat) (l : List ByteArray) (bs : List UInt8) (w : World) (h : SrcAt w B g k bs) (hk : k < 4611686018427387800) (hm : l.length = m) (hm2 : 2 ≤ m) (hm3 : m ≤ 200) :
    Calls Try.prog 207 #[.pointer (some ⟨g, 0, none⟩), .slice (some ⟨w.heap.size, 0, none⟩) m m] (w.alloc (.cells (l.map Value.string).toArray 9)).drew fun e w' => ∃ z, z ∈ l ∧ e = .returned (.string z) ∧ SrcAt w' B g (k + 2) bs ∧ w.grownBy w' (some g) := by
  have hlt := h.lt
  refine (text_in B g k w.heap.size m l bs _ (SrcAt.drew (h.below ((Below.refl w.heap.size w).alloc (Nat.le_refl _) _))) hk hm hm2 hm3 (by omega) (by simp) (fun i hi => alloc_strs w l 9 i hi)).mono ?_
  rintro e w' ⟨z, h1, h2, h3, h4⟩
  exact ⟨z, h1, h2, h3, grown_from_alloc (grown_undrew h4)⟩

theorem ne_some0 {s : ByteArray} (h : 0 < s.size) : s.toList.isEmpty = false := by
  rw [ByteArray.toList_eq, List.isEmpty_eq_false_iff]
  intro e
  have h1 : s.data.toList.length = s.size := by simp
  rw [e] at h1
  simp at h1; omega
theorem ne_none0 {s : ByteArray} (h : s.size = 0) : s.toList.isEmpty = true := by
  rw [ByteArray.toList_eq, List.isEmpty_iff]
  exact List.eq_nil_of_length_eq_zero (by simpa using h)
def spoilL : List ByteArray := [⟨#[32]⟩, ⟨#[48]⟩, ⟨#[45]⟩, ⟨#[120]⟩, ⟨#[49]⟩, ⟨#[57]⟩, ⟨#[46]⟩]
theorem spoilL_one : ∀ z ∈ spoilL, z.size = 1 := by decide
def RetSp (w : World) (B g k : Nat) (bs : List UInt8) (n : Nat) (e : Ending) (w' : World) : Prop := ∃ z : ByteArray, e = .returned (.string z) ∧ z.size ≤ n ∧ SrcAt w' B g k bs ∧ w.grownBy w' (some g)

end Go.Proofs.Ythemffbkkhaaoaa
/- Draws: one of some numbers is drawn. -/
namespace Go.Proofs.Ythemffbkkhaaoaa
open Go.RowKit Go.Joins

set_option maxHeartbeats 400000 in
theorem among_in (B g k m : Nat) (l : List Int) (bs : List UInt8) (w : World) (h : SrcAt w B g k bs) (hk : k < 4611686018427387800) (hm : l.length = m) (hm2 : 2 ≤ m) (hm3 : m ≤ 200) :
    Calls Try.prog 149 #[.pointer (some ⟨g, 0, none⟩), .slice (some ⟨w.heap.size, 0, none⟩) m m] (w.alloc (.cells (l.map (Value.int .i64)).toArray 2)) fun e w' => ∃ x : Int, x ∈ l ∧ e = .returned (.int .i64 x) ∧ SrcAt w' B g (k + 2) bs ∧ w.grownBy w' (some g) := by
  have hlt := h.lt
  have hbk := (Below.refl w.heap.size w).alloc (Nat.le_refl _) (.cells (l.map (Value.int .i64)).toArray 2)
  have hnc : ∀ i (hi : i < l.length), (w.alloc (.cells (l.map (Value.int .i64)).toArray 2)).cell? ⟨w.heap.size, i, none⟩ = some (.int .i64 l[i]) := fun i hi => by
    have := new_cells w (l.map (Value.int .i64)).toArray 2 i (.int .i64 l[i]) (by simp [hi])
    rwa [show (⟨w.heap.size, 0, none⟩ : Addr).add i = ⟨w.heap.size, i, none⟩ by unfold Addr.add; split <;> simp_all] at this
  have H := Lib.hid (h.below hbk); clear h
  have Hc := Lib.hid hnc; clear hnc
  have Hg := Lib.hid (fun w' (h : (w.alloc (.cells (l.map (Value.int .i64)).toArray 2)).grownBy w' (some g)) => grown_from_alloc h)
  have hsz : w.heap.size < (w.alloc (.cells (l.map (Value.int .i64)).toArray 2)).heap.size := by simp
  have hm4 : (m : Int) ≤ 200 := by omega
  clear hbk
  generalize w.alloc (.cells (l.map (Value.int .i64)).toArray 2) = wl at *
  go_enter Try.func149, Try.ntmps149
  go_wp2_with fail
  refine (pick_any B g k bs m _ H.out (by omega)).mono ?_; rintro e w1 ⟨x, rfl, ⟨hx0, hx1, _⟩, hs1, hg1⟩
  have Hs1 := Lib.hid hs1; clear hs1
  obtain ⟨i, rfl⟩ : ∃ i : Nat, x = i := ⟨x.toNat, by omega⟩
  have hx2 := hx1 (by omega)
  have hi : i < l.length := by omega
  have hcell := (World.cell?_of_block (a := ⟨w.heap.size, i, none⟩) (hg1.block w.heap.size hsz (fun e => by injection e; omega))).trans (Hc.out i hi)
  have hg2 := Hg.out _ hg1
  have hin := Lib.hid (show l[i] ∈ l from List.getElem_mem hi)
  generalize l[i] = z at *
  clear hx1 hg1
  go_wp2_with fail
  go_ret
  exact ⟨z, hin.out, rfl, Hs1.out, hg2⟩
end Go.Proofs.Ythemffbkkhaaoaa
/- Drums that are drawn: l05Draw. -/
namespace Go.Proofs.Ythemffbkkhaaoaa
open Go.RowKit Go.Joins

abbrev put4D (w : World) (g : Nat) (d : Dm) : World := put4 w g (.int .i64 d.k) (.int .i64 d.b) (.int .i64 d.t) (.int .i64 d.f)
/-- a drum under way: the result's block is fresh, the drum lies in block q -/
structure NwD (W w : World) (B g k : Nat) (bs : List UInt8) (q : Nat) (d : Dm) : Prop where
  lt : g < W.heap.size
  src : SrcAt w B g k bs
  gr : W.grownBy w (some g)
  hr : w.heap[W.heap.size]? = some (.cells #[.int .i64 0, .int .i64 0, .int .i64 0, .int .i64 0] 25 (0, 0))
  hq : w.heap[q]? = some (.cells #[.int .i64 d.k, .int .i64 d.b, .int .i64 d.t, .int .i64 d.f] 25 (0, 0))
  rq : W.heap.size < q
theorem NwD.draw {W w w' : World} {B g k k' q : Nat} {bs : List UInt8} {d : Dm} (h : NwD W w B g k bs q d) (hs : SrcAt w' B g k' bs) (hg : w.grownBy w' (some g)) : NwD W w' B g k' bs q d :=
  have hq := (Array.getElem?_eq_some_iff.1 h.hq).1
  ⟨h.lt, hs, grown_trans h.gr hg, (hg.block _ (by have := h.rq; omega) (fun e => by have := h.lt; injection e; omega)).trans h.hr, (hg.block q hq (fun e => by have := h.lt; have := h.rq; injection e; omega)).trans h.hq, h.rq⟩
theorem NwD.set {W w : World} {B g k q : Nat} {bs : List UInt8} {d : Dm} (h : NwD W w B g k bs q d) (i : Nat) (u : Value) (d' : Dm) (hc : (#[.int .i64 d.k, .int .i64 d.b, .int .i64 d.t, .int .i64 d.f] : Array Value).setIfInBounds i u = #[.int .i64 d'.k, .int .i64 d'.b, .int .i64 d'.t, .int .i64 d'.f]) : NwD W (w.setCell ⟨q, i, none⟩ u) B g k bs q d' := by
  have h1 := heap_setCell_same w q i _ _ u h.hq
  rw [hc] at h1
  have hg : w.grownBy (w.setCell ⟨q, i, none⟩ u) (some q) := grown_setCell (a := w) (p := ⟨q, i, none⟩) ⟨rfl, rfl, rfl, Nat.le_refl _, fun _ _ _ => rfl⟩ (.inl rfl) u
  exact ⟨h.lt, h.src.grown hg (fun x hx => by cases hx; exact Nat.lt_trans h.lt h.rq), grownBy_row h.gr hg (fun x hx => by cases hx; exact Nat.le_of_lt h.rq), (Below.heap_setCell _ _ _ _ (Nat.ne_of_lt h.rq)).trans h.hr, h1, h.rq⟩
/-- the result is stored -/
theorem done4 {W w : World} {B g k : Nat} {bs : List UInt8} (hlt : g < W.heap.size) (hs : SrcAt w B g k bs) (hgr : W.grownBy w (some g)) (hr : w.heap[W.heap.size]? = some (.cells #[.int .i64 0, .int .i64 0, .int .i64 0, .int .i64 0] 25 (0, 0))) (d : Dm) :
    DmAt (put4D w W.heap.size d) W.heap.size d ∧ SrcAt (put4D w W.heap.size d) B g k bs ∧ W.grownBy (put4D w W.heap.size d) (some g) := by
  have g4 := heap_setCell_same _ W.heap.size 3 _ _ (.int .i64 d.f) (heap_setCell_same _ W.heap.size 2 _ _ (.int .i64 d.t) (heap_setCell_same _ W.heap.size 1 _ _ (.int .i64 d.b) (heap_setCell_same w W.heap.size 0 _ _ (.int .i64 d.k) hr)))
  have g0 : w.grownBy w (some W.heap.size) := ⟨rfl, rfl, rfl, Nat.le_refl _, fun _ _ _ => rfl⟩
  have hg : w.grownBy (put4D w W.heap.size d) (some W.heap.size) := grown_setCell (grown_setCell (grown_setCell (grown_setCell g0 (p := ⟨W.heap.size, 0, none⟩) (.inl rfl) _) (p := ⟨W.heap.size, 1, none⟩) (.inl rfl) _) (p := ⟨W.heap.size, 2, none⟩) (.inl rfl) _) (p := ⟨W.heap.size, 3, none⟩) (.inl rfl) _
  exact ⟨DmAt.of g4, hs.grown hg (fun x hx => by cases hx; exact hlt), grownBy_row hgr hg (fun x hx => by cases hx; exact Nat.le_refl _)⟩
theorem NwD.done {W w : World} {B g k q : Nat} {bs : List UInt8} {d : Dm} (h : NwD W w B g k bs q d) (d' : Dm) :
    DmAt (put4D w W.heap.size d') W.heap.size d' ∧ SrcAt (put4D w W.heap.size d') B g k bs ∧ W.grownBy (put4D w W.heap.size d') (some g) := done4 h.lt h.src h.gr h.hr d'
/-- the drum made from a draw -/
theorem NwD.made {W w : World} {B g k : Nat} {bs : List UInt8} (d : Dm) (hlt : g < W.heap.size) (hs : SrcAt w B g k bs) (hg : W.grownBy w (some g)) (hr : w.heap[W.heap.size]? = some (.cells #[.int .i64 0, .int .i64 0, .int .i64 0, .int .i64 0] 25 (0, 0))) : NwD W (w.alloc (objDm d)) B g k bs w.heap.size d := by
  have hz := (Array.getElem?_eq_some_iff.1 hr).1
  have hb := (Below.refl w.heap.size w).alloc (Nat.le_refl _) (objDm d)
  exact ⟨hlt, hs.below hb, grown_below hg hb, (hb.block _ hz).trans hr, heap_alloc_new w _, hz⟩

def RetDw (w : World) (B g k : Nat) (bs : List UInt8) (e : Ending) (w' : World) : Prop := ∃ d : Dm, e = .returned (aggDm d) ∧ (2 ≤ d.b ∧ d.b ≤ 16 ∧ d.b ≤ d.t ∧ d.t ≤ 36 ∧ 0 ≤ d.f ∧ d.f ≤ 40) ∧ SrcAt w' B g k bs ∧ w.grownBy w' (some g)
set_option maxRecDepth 100000 in
set_option maxHeartbeats 3200000 in
theorem l05Draw_any (B g k : Nat) (bs : List UInt8) (w : World) (hs : SrcAt w B g k bs) (hk : k < 4611686018427380000) : Calls Try.prog 199 #[.pointer (some ⟨g, 0, none⟩)] w (RetDw w B g (k + 10) bs) := by
  have hlt := hs.lt
  have hb0 := (Below.refl w.heap.size w).alloc (Nat.le_refl _) (.cells #[.int .i64 0, .int .i64 0, .int .i64 0, .int .i64 0] 25)
  have H0 := Lib.hid (hs.below hb0)
  have Hr0 := Lib.hid (heap_alloc_new w (.cells #[.int .i64 0, .int .i64 0, .int .i64 0, .int .i64 0] 25))
  have Hg0 := Lib.hid (grown_of_below hb0 (some g))
  have hz0 : w.heap.size < (w.alloc (.cells #[.int .i64 0, .int .i64 0, .int .i64 0, .int .i64 0] 25)).heap.size := by simp
  clear hb0 hs
  go_enter Try.func199, Try.ntmps199
  go_wp2_with fail
  generalize w.alloc (.cells #[.int .i64 0, .int .i64 0, .int .i64 0, .int .i64 0] 25) = w1 at *
  refine (pick_any B g _ bs 3 w1 H0.out (by omega)).mono ?_; rintro e w2 ⟨x, rfl, ⟨hx0, hx1, _⟩, hs2, hg2⟩
  have hx3 := hx1 (by omega)
  have HN2 := Lib.hid (NwD.made ⟨1 + x, 10, 0, 0⟩ hlt hs2 (grown_trans Hg0.out hg2) ((hg2.block w.heap.size hz0 (fun e => by injection e; omega)).trans Hr0.out))
  have hwx : IntKind.i64.wrap (1 + x) = 1 + x := IntWalk.i64_in _ (by omega)
  clear hs2 hg2 hx1 H0 Hr0 Hg0
  go_upto_region 2 with (fail)
  generalize w2.heap.size = q at *
  generalize w2.alloc (.cells #[.int .i64 (1 + x), .int .i64 10, .int .i64 0, .int .i64 0] 25) = w3 at *
  obtain ⟨kk, hkk⟩ : ∃ kk, kk = 1 + x := ⟨_, rfl⟩
  rw [← hkk] at HN2
  rw [← hkk]
  have hk1 : 1 ≤ kk := by omega
  have hk2 : kk ≤ 3 := by omega
  clear hkk hwx
  go_wp2_with fail
  refine (one_any B g _ bs 3 w3 HN2.out.src (by omega)).mono ?_; rintro e w4 ⟨y, rfl, hs4, hg4⟩
  have HN4 := Lib.hid (HN2.out.draw hs4 hg4)
  clear hs4 hg4 HN2
  cases y with
  | false =>
    have HN := HN4
    clear HN4
    obtain ⟨b, hb⟩ : ∃ b : Int, b = 10 := ⟨_, rfl⟩
    rw [← hb] at HN
    have hb1 : 2 ≤ b := by omega
    have hb2 : b ≤ 16 := by omega
    clear hb
    go_upto_region 4 with (fail)
    obtain ⟨⟨_, q1, _, _⟩, _, _, f2, _⟩ := blk4 HN.out.hq
    dsimp only at q1
    have HP := Lib.hid (pick_any B g _ bs 20 w4.drew (SrcAt.drew HN.out.src) (by omega))
    refine wp_region_noPanic ?_
    refine wp_region_L [6,5] (fun w' => w'.cell? ⟨q, 1, none⟩ = some (.int .i64 b)) (by kernel_rfl) (q1) (fun hHeld => ?_)
    refine take_F (i := 0) (d := some 14) (v := ?_) (by kernel_rfl) (by kernel_rfl) rfl rfl (by kernel_rfl) (by kernel_rfl) (by kernel_rfl) (fun _ _ _ h => h) (Or.inl ⟨by rfl, ?_⟩) (by assumption) ?_
    rotate_left
    · (intro w hSw; (try dsimp only at hSw); go_simp; (try rw [if_neg (by omega)]); (try (with_reducible rfl)))
    simp only [Act.put, List.setIfInBounds_toArray, List.set_cons_zero, List.set_cons_succ]
    refine take_L [1] (i := 1) (d := some 15) (v := ?_) (by kernel_rfl) (by kernel_rfl) (by kernel_rfl) (by kernel_rfl) rfl rfl (by kernel_rfl) (by kernel_rfl) (by kernel_rfl) (fun _ _ _ h => h) (Or.inl ⟨by rfl, ?_⟩) (by assumption) ?_
    rotate_left
    · (intro w hSw; (try dsimp only at hSw); go_simp; (try rw [if_neg (by omega)]); (try (with_reducible rfl)))
    simp only [Act.put, List.setIfInBounds_toArray, List.set_cons_zero, List.set_cons_succ]
    refine take_F (i := 2) (d := some 16) (v := ?_) (by kernel_rfl) (by kernel_rfl) rfl rfl (by kernel_rfl) (by kernel_rfl) (by kernel_rfl) (fun _ _ _ h => h) (Or.inl ⟨by rfl, ?_⟩) (by assumption) ?_
    rotate_left
    · (intro w hSw; (try dsimp only at hSw); go_simp; (try rw [if_neg (by omega)]); (try (with_reducible rfl)))
    simp only [Act.put, List.setIfInBounds_toArray, List.set_cons_zero, List.set_cons_succ]
    refine call_L (i := 3) (d := (some 17)) rfl rfl (by kernel_rfl) (fun Kq hKq => ?_)
    go_simp
    go_at_call 108
    refine HP.out.mono ?_; rintro e w5 ⟨y, rfl, ⟨hy0, hy1, _⟩, hs5, hg5⟩
    have hy20 := hy1 (by omega)
    have HN5 := Lib.hid (HN.out.draw hs5 (grown_undrew hg5))
    obtain ⟨⟨_, q5, p5, _⟩, _, _, f5, _⟩ := blk4 HN5.out.hq
    dsimp only at q5 p5
    have hwr : IntKind.i64.wrap (b + y) = b + y := IntWalk.i64_in _ (by omega)
    clear hs5 hg5 hy1 q1 f2
    (try go_wp2_with fail)
    refine hKq.out _ _ (q5) (fun hHeld => ?_)
    clear hKq Kq
    (try simp only [Act.put, List.setIfInBounds_toArray, List.set_cons_zero, List.set_cons_succ])
    refine take_F (i := 4) (d := some 18) (v := ?_) (by kernel_rfl) (by kernel_rfl) rfl rfl (by kernel_rfl) (by kernel_rfl) (by kernel_rfl) (fun _ _ _ h => h) (Or.inl ⟨by rfl, ?_⟩) (by assumption) ?_
    rotate_left
    · (intro w hSw; (try dsimp only at hSw); go_simp; (try rw [if_neg (by omega)]); (try (with_reducible rfl)))
    simp only [Act.put, List.setIfInBounds_toArray, List.set_cons_zero, List.set_cons_succ]
    refine late_L (i := 5) (d := (some 19)) (by kernel_rfl) rfl rfl (by kernel_rfl) (fun Kq hKq => ?_)
    go_simp
    refine hKq.out _ _ ?_
    clear hKq Kq
    refine late_L (i := 6) (d := none) (by kernel_rfl) rfl rfl (by kernel_rfl) (fun Kq hKq => ?_)
    go_simp
    refine hKq.out _ _ ?_
    clear hKq Kq
    refine done_L (by kernel_rfl) ?_ _
    refine NoPanic.normal ?_
    have HN6 := Lib.hid (HN5.out.set 2 (.int .i64 (b + y)) ⟨kk, b, b + y, 0⟩ rfl)
    have ht1 : b ≤ b + y := by omega
    have ht2 : b + y ≤ b + 19 := by omega
    clear q5 p5 f5 HN HN5 HP hwr hy0 hy20
    generalize w5.setCell ⟨q, 2, none⟩ (.int .i64 (b + y)) = w6 at *
    generalize b + y = t at *
    by_cases h3 : kk = 3
    · subst h3
      have HN := HN6
      obtain ⟨⟨p0, p1, p2, p3⟩, _⟩ := blk4 HN.out.hq
      dsimp only at p0 p1 p2 p3
      obtain ⟨⟨r0, r1, r2, r3⟩, s0, s1, s2, s3⟩ := blk4 HN.out.hr
      have HD := Lib.hid (HN.out.done ⟨3, b, t, 0⟩)
      go_wp2_with fail
      obtain ⟨⟨k0, k1, k2, k3⟩, hsz, hgz⟩ := HD.out
      dsimp only at k0 k1 k2 k3
      refine bodyPost_ret (v := aggDm ⟨3, b, t, 0⟩) (by simp [results, Try.results199, go_sem, k0, k1, k2, k3]) rfl ?_
      exact ⟨⟨3, b, t, 0⟩, rfl, ⟨by (try dsimp only); omega, by (try dsimp only); omega, by (try dsimp only); omega, by (try dsimp only); omega, by (try dsimp only); omega, by (try dsimp only); omega⟩, hsz.more (by omega), hgz⟩
    · have hb3 : (kk == 3) = false := by rw [beq_eq_false_iff_ne]; exact h3
      obtain ⟨⟨p0, p1, p2, p3⟩, _⟩ := blk4 HN6.out.hq
      dsimp only at p0 p1 p2 p3
      have hw1 : IntKind.i64.wrap (t - b) = t - b := IntWalk.i64_in _ (by omega)
      have hw2 : IntKind.i64.wrap (t - b + 2) = t - b + 2 := IntWalk.i64_in _ (by omega)
      (try go_wp2_with fail)
      refine (pick_any B g _ bs (t - b + 2) _ HN6.out.src (by omega)).mono ?_; rintro e w7 ⟨z, rfl, ⟨hz0', hz1, _⟩, hs7, hg7⟩
      have hz2 := hz1 (by omega)
      have HN7 := Lib.hid (HN6.out.draw hs7 hg7)
      obtain ⟨⟨_, _, _, p3⟩, _, _, _, f3⟩ := blk4 HN7.out.hq
      have hwz : IntKind.i64.wrap (1 + z) = 1 + z := IntWalk.i64_in _ (by omega)
      have HN := Lib.hid (HN7.out.set 3 (.int .i64 (1 + z)) ⟨kk, b, t, 1 + z⟩ rfl)
      clear hs7 hg7 hz1 HN6 p0 p1 p2
      go_upto_region 7 with (fail)
      generalize w7.setCell ⟨q, 3, none⟩ (.int .i64 (1 + z)) = w8 at *
      clear HN7 p3 f3
      obtain ⟨⟨p0, p1, p2, p3⟩, _⟩ := blk4 HN.out.hq
      dsimp only at p0 p1 p2 p3
      obtain ⟨⟨r0, r1, r2, r3⟩, s0, s1, s2, s3⟩ := blk4 HN.out.hr
      have HD := Lib.hid (HN.out.done ⟨kk, b, t, 1 + z⟩)
      go_wp2_with fail
      obtain ⟨⟨k0, k1, k2, k3⟩, hsz, hgz⟩ := HD.out
      dsimp only at k0 k1 k2 k3
      refine bodyPost_ret (v := aggDm ⟨kk, b, t, 1 + z⟩) (by simp [results, Try.results199, go_sem, k0, k1, k2, k3]) rfl ?_
      exact ⟨⟨kk, b, t, 1 + z⟩, rfl, ⟨by (try dsimp only); omega, by (try dsimp only); omega, by (try dsimp only); omega, by (try dsimp only); omega, by (try dsimp only); omega, by (try dsimp only); omega⟩, hsz.more (by omega), hgz⟩
  | true =>
    go_wp2_with fail
    refine (pick_any B g _ bs 15 w4 HN4.out.src (by omega)).mono ?_; rintro e w4b ⟨z, rfl, ⟨hz0', hz1, _⟩, hs5, hg5⟩
    have hz15 := hz1 (by omega)
    have HN5 := Lib.hid (HN4.out.draw hs5 hg5)
    obtain ⟨⟨_, p1, _, _⟩, _, f1, _, _⟩ := blk4 HN5.out.hq
    obtain ⟨b, hb⟩ : ∃ b : Int, b = 2 + z := ⟨_, rfl⟩
    have hwb : IntKind.i64.wrap (2 + z) = b := by rw [hb]; exact IntWalk.i64_in _ (by omega)
    have hb1 : 2 ≤ b := by omega
    have hb2 : b ≤ 16 := by omega
    have HN := Lib.hid (HN5.out.set 1 (.int .i64 b) ⟨kk, b, 0, 0⟩ rfl)
    clear hs5 hg5 hz1 HN4 hb
    go_upto_region 4 with (fail)
    generalize w4b.setCell ⟨q, 1, none⟩ (.int .i64 b) = w4 at *
    clear HN5 p1 f1 hwb hz0' hz15
    go_upto_region 4 with (fail)
    obtain ⟨⟨_, q1, _, _⟩, _, _, f2, _⟩ := blk4 HN.out.hq
    dsimp only at q1
    have HP := Lib.hid (pick_any B g _ bs 20 w4.drew (SrcAt.drew HN.out.src) (by omega))
    refine wp_region_noPanic ?_
    refine wp_region_L [6,5] (fun w' => w'.cell? ⟨q, 1, none⟩ = some (.int .i64 b)) (by kernel_rfl) (q1) (fun hHeld => ?_)
    refine take_F (i := 0) (d := some 14) (v := ?_) (by kernel_rfl) (by kernel_rfl) rfl rfl (by kernel_rfl) (by kernel_rfl) (by kernel_rfl) (fun _ _ _ h => h) (Or.inl ⟨by rfl, ?_⟩) (by assumption) ?_
    rotate_left
    · (intro w hSw; (try dsimp only at hSw); go_simp; (try rw [if_neg (by omega)]); (try (with_reducible rfl)))
    simp only [Act.put, List.setIfInBounds_toArray, List.set_cons_zero, List.set_cons_succ]
    refine take_L [1] (i := 1) (d := some 15) (v := ?_) (by kernel_rfl) (by kernel_rfl) (by kernel_rfl) (by kernel_rfl) rfl rfl (by kernel_rfl) (by kernel_rfl) (by kernel_rfl) (fun _ _ _ h => h) (Or.inl ⟨by rfl, ?_⟩) (by assumption) ?_
    rotate_left
    · (intro w hSw; (try dsimp only at hSw); go_simp; (try rw [if_neg (by omega)]); (try (with_reducible rfl)))
    simp only [Act.put, List.setIfInBounds_toArray, List.set_cons_zero, List.set_cons_succ]
    refine take_F (i := 2) (d := some 16) (v := ?_) (by kernel_rfl) (by kernel_rfl) rfl rfl (by kernel_rfl) (by kernel_rfl) (by kernel_rfl) (fun _ _ _ h => h) (Or.inl ⟨by rfl, ?_⟩) (by assumption) ?_
    rotate_left
    · (intro w hSw; (try dsimp only at hSw); go_simp; (try rw [if_neg (by omega)]); (try (with_reducible rfl)))
    simp only [Act.put, List.setIfInBounds_toArray, List.set_cons_zero, List.set_cons_succ]
    refine call_L (i := 3) (d := (some 17)) rfl rfl (by kernel_rfl) (fun Kq hKq => ?_)
    go_simp
    go_at_call 108
    refine HP.out.mono ?_; rintro e w5 ⟨y, rfl, ⟨hy0, hy1, _⟩, hs5, hg5⟩
    have hy20 := hy1 (by omega)
    have HN5 := Lib.hid (HN.out.draw hs5 (grown_undrew hg5))
    obtain ⟨⟨_, q5, p5, _⟩, _, _, f5, _⟩ := blk4 HN5.out.hq
    dsimp only at q5 p5
    have hwr : IntKind.i64.wrap (b + y) = b + y := IntWalk.i64_in _ (by omega)
    clear hs5 hg5 hy1 q1 f2
    (try go_wp2_with fail)
    refine hKq.out _ _ (q5) (fun hHeld => ?_)
    clear hKq Kq
    (try simp only [Act.put, List.setIfInBounds_toArray, List.set_cons_zero, List.set_cons_succ])
    refine take_F (i := 4) (d := some 18) (v := ?_) (by kernel_rfl) (by kernel_rfl) rfl rfl (by kernel_rfl) (by kernel_rfl) (by kernel_rfl) (fun _ _ _ h => h) (Or.inl ⟨by rfl, ?_⟩) (by assumption) ?_
    rotate_left
    · (intro w hSw; (try dsimp only at hSw); go_simp; (try rw [if_neg (by omega)]); (try (with_reducible rfl)))
    simp only [Act.put, List.setIfInBounds_toArray, List.set_cons_zero, List.set_cons_succ]
    refine late_L (i := 5) (d := (some 19)) (by kernel_rfl) rfl rfl (by kernel_rfl) (fun Kq hKq => ?_)
    go_simp
    refine hKq.out _ _ ?_
    clear hKq Kq
    refine late_L (i := 6) (d := none) (by kernel_rfl) rfl rfl (by kernel_rfl) (fun Kq hKq => ?_)
    go_simp
    refine hKq.out _ _ ?_
    clear hKq Kq
    refine done_L (by kernel_rfl) ?_ _
    refine NoPanic.normal ?_
    have HN6 := Lib.hid (HN5.out.set 2 (.int .i64 (b + y)) ⟨kk, b, b + y, 0⟩ rfl)
    have ht1 : b ≤ b + y := by omega
    have ht2 : b + y ≤ b + 19 := by omega
    clear q5 p5 f5 HN HN5 HP hwr hy0 hy20
    generalize w5.setCell ⟨q, 2, none⟩ (.int .i64 (b + y)) = w6 at *
    generalize b + y = t at *
    by_cases h3 : kk = 3
    · subst h3
      have HN := HN6
      obtain ⟨⟨p0, p1, p2, p3⟩, _⟩ := blk4 HN.out.hq
      dsimp only at p0 p1 p2 p3
      obtain ⟨⟨r0, r1, r2, r3⟩, s0, s1, s2, s3⟩ := blk4 HN.out.hr
      have HD := Lib.hid (HN.out.done ⟨3, b, t, 0⟩)
      go_wp2_with fail
      obtain ⟨⟨k0, k1, k2, k3⟩, hsz, hgz⟩ := HD.out
      dsimp only at k0 k1 k2 k3
      refine bodyPost_ret (v := aggDm ⟨3, b, t, 0⟩) (by simp [results, Try.results199, go_sem, k0, k1, k2, k3]) rfl ?_
      exact ⟨⟨3, b, t, 0⟩, rfl, ⟨by (try dsimp only); omega, by (try dsimp only); omega, by (try dsimp only); omega, by (try dsimp only); omega, by (try dsimp only); omega, by (try dsimp only); omega⟩, hsz.more (by omega), hgz⟩
    · have hb3 : (kk == 3) = false := by rw [beq_eq_false_iff_ne]; exact h3
      obtain ⟨⟨p0, p1, p2, p3⟩, _⟩ := blk4 HN6.out.hq
      dsimp only at p0 p1 p2 p3
      have hw1 : IntKind.i64.wrap (t - b) = t - b := IntWalk.i64_in _ (by omega)
      have hw2 : IntKind.i64.wrap (t - b + 2) = t - b + 2 := IntWalk.i64_in _ (by omega)
      (try go_wp2_with fail)
      refine (pick_any B g _ bs (t - b + 2) _ HN6.out.src (by omega)).mono ?_; rintro e w7 ⟨z, rfl, ⟨hz0', hz1, _⟩, hs7, hg7⟩
      have hz2 := hz1 (by omega)
      have HN7 := Lib.hid (HN6.out.draw hs7 hg7)
      obtain ⟨⟨_, _, _, p3⟩, _, _, _, f3⟩ := blk4 HN7.out.hq
      have hwz : IntKind.i64.wrap (1 + z) = 1 + z := IntWalk.i64_in _ (by omega)
      have HN := Lib.hid (HN7.out.set 3 (.int .i64 (1 + z)) ⟨kk, b, t, 1 + z⟩ rfl)
      clear hs7 hg7 hz1 HN6 p0 p1 p2
      go_upto_region 7 with (fail)
      generalize w7.setCell ⟨q, 3, none⟩ (.int .i64 (1 + z)) = w8 at *
      clear HN7 p3 f3
      obtain ⟨⟨p0, p1, p2, p3⟩, _⟩ := blk4 HN.out.hq
      dsimp only at p0 p1 p2 p3
      obtain ⟨⟨r0, r1, r2, r3⟩, s0, s1, s2, s3⟩ := blk4 HN.out.hr
      have HD := Lib.hid (HN.out.done ⟨kk, b, t, 1 + z⟩)
      go_wp2_with fail
      obtain ⟨⟨k0, k1, k2, k3⟩, hsz, hgz⟩ := HD.out
      dsimp only at k0 k1 k2 k3
      refine bodyPost_ret (v := aggDm ⟨kk, b, t, 1 + z⟩) (by simp [results, Try.results199, go_sem, k0, k1, k2, k3]) rfl ?_
      exact ⟨⟨kk, b, t, 1 + z⟩, rfl, ⟨by (try dsimp only); omega, by (try dsimp only); omega, by (try dsimp only); omega, by (try dsimp only); omega, by (try dsimp only); omega, by (try dsimp only); omega⟩, hsz.more (by omega), hgz⟩
end Go.Proofs.Ythemffbkkhaaoaa
/- Drums that are drawn: l05Bent, l05Clock. -/
namespace Go.Proofs.Ythemffbkkhaaoaa
open Go.RowKit Go.Joins

def RetDb (w : World) (B g k : Nat) (bs : List UInt8) (e : Ending) (w' : World) : Prop := ∃ d : Dm, e = .returned (aggDm d) ∧ SrcAt w' B g k bs ∧ w.grownBy w' (some g)
set_option maxRecDepth 100000 in
set_option maxHeartbeats 3200000 in
theorem l05Bent_any (B g k : Nat) (bs : List UInt8) (w : World) (hs : SrcAt w B g k bs) (hk : k < 4611686018427370000) : Calls Try.prog 120 #[.pointer (some ⟨g, 0, none⟩)] w (RetDb w B g (k + 14) bs) := by
  have hlt := hs.lt
  have hb0 := (Below.refl w.heap.size w).alloc (Nat.le_refl _) (.cells #[.int .i64 0, .int .i64 0, .int .i64 0, .int .i64 0] 25)
  have H0 := Lib.hid (hs.below hb0)
  have Hr0 := Lib.hid (heap_alloc_new w (.cells #[.int .i64 0, .int .i64 0, .int .i64 0, .int .i64 0] 25))
  have Hg0 := Lib.hid (grown_of_below hb0 (some g))
  have hz0 : w.heap.size < (w.alloc (.cells #[.int .i64 0, .int .i64 0, .int .i64 0, .int .i64 0] 25)).heap.size := by simp
  clear hb0 hs
  go_enter Try.func120, Try.ntmps120
  go_wp2_with fail
  generalize w.alloc (.cells #[.int .i64 0, .int .i64 0, .int .i64 0, .int .i64 0] 25) = w1 at *
  refine (l05Draw_any B g _ bs w1 H0.out (by omega)).mono ?_; rintro e w2 ⟨⟨kk, b, t, f⟩, rfl, hbd, hs2, hg2⟩
  have HN2 := Lib.hid (NwD.made ⟨kk, b, t, f⟩ hlt hs2 (grown_trans Hg0.out hg2) ((hg2.block w.heap.size hz0 (fun e => by injection e; omega)).trans Hr0.out))
  dsimp only at hbd
  obtain ⟨b1, b2, b3, b4, b5, b6⟩ := hbd
  clear hs2 hg2 H0 Hr0 Hg0
  go_upto_region 2 with (fail)
  generalize w2.heap.size = q at *
  generalize w2.alloc (.cells #[.int .i64 kk, .int .i64 b, .int .i64 t, .int .i64 f] 25) = w3 at *
  go_wp2_with fail
  refine (pick_any B g _ bs 24 w3 HN2.out.src (by omega)).mono ?_; rintro e w4 ⟨x, rfl, ⟨hx0, hx1, _⟩, hs4, hg4⟩
  have HN4 := Lib.hid (HN2.out.draw hs4 hg4)
  clear hs4 hg4 hx1 HN2
  by_cases e0 : x = 0
  · subst e0
    go_wp2_with fail
    refine (among_in B g _ 4 [0, 1, 4, -9223372036854775808] bs w4 HN4.out.src (by omega) rfl (by omega) (by omega)).mono ?_; rintro e w5 ⟨z, _, rfl, hs5, hg5⟩
    have HN5 := Lib.hid (HN4.out.draw hs5 hg5)
    obtain ⟨⟨q0, q1, q2, q3⟩, f0, f1, f2, f3⟩ := blk4 HN5.out.hq
    have HN := Lib.hid (HN5.out.set 0 (.int .i64 z) ⟨z, b, t, f⟩ rfl)
    clear hs5 hg5 HN4
    go_upto_region 11 with (fail)
    generalize w5.setCell ⟨q, 0, none⟩ (.int .i64 z) = w6 at *
    clear HN5 q0 q1 q2 q3 f0 f1 f2 f3
    obtain ⟨⟨p0, p1, p2, p3⟩, _⟩ := blk4 HN.out.hq
    dsimp only at p0 p1 p2 p3
    obtain ⟨⟨r0, r1, r2, r3⟩, s0, s1, s2, s3⟩ := blk4 HN.out.hr
    have HD := Lib.hid (HN.out.done ⟨z, b, t, f⟩)
    go_wp2_with fail
    obtain ⟨⟨k0, k1, k2, k3⟩, hsz, hgz⟩ := HD.out
    dsimp only at k0 k1 k2 k3
    refine bodyPost_ret (v := aggDm ⟨z, b, t, f⟩) (by simp [results, Try.results120, go_sem, k0, k1, k2, k3]) rfl ?_
    exact ⟨⟨z, b, t, f⟩, rfl, hsz.more (by omega), hgz⟩
  have b0' : (x == 0) = false := by simpa using e0
  by_cases e1 : x = 1
  · subst e1
    go_wp2_with fail
    refine (among_in B g _ 4 [1, 2, 16, 17] bs w4 HN4.out.src (by omega) rfl (by omega) (by omega)).mono ?_; rintro e w5 ⟨z, _, rfl, hs5, hg5⟩
    have HN5 := Lib.hid (HN4.out.draw hs5 hg5)
    obtain ⟨⟨q0, q1, q2, q3⟩, f0, f1, f2, f3⟩ := blk4 HN5.out.hq
    have HN := Lib.hid (HN5.out.set 1 (.int .i64 z) ⟨kk, z, t, f⟩ rfl)
    clear hs5 hg5 HN4
    go_upto_region 11 with (fail)
    generalize w5.setCell ⟨q, 1, none⟩ (.int .i64 z) = w6 at *
    clear HN5 q0 q1 q2 q3 f0 f1 f2 f3
    obtain ⟨⟨p0, p1, p2, p3⟩, _⟩ := blk4 HN.out.hq
    dsimp only at p0 p1 p2 p3
    obtain ⟨⟨r0, r1, r2, r3⟩, s0, s1, s2, s3⟩ := blk4 HN.out.hr
    have HD := Lib.hid (HN.out.done ⟨kk, z, t, f⟩)
    go_wp2_with fail
    obtain ⟨⟨k0, k1, k2, k3⟩, hsz, hgz⟩ := HD.out
    dsimp only at k0 k1 k2 k3
    refine bodyPost_ret (v := aggDm ⟨kk, z, t, f⟩) (by simp [results, Try.results120, go_sem, k0, k1, k2, k3]) rfl ?_
    exact ⟨⟨kk, z, t, f⟩, rfl, hsz.more (by omega), hgz⟩
  have b1' : (x == 1) = false := by simpa using e1
  by_cases e2 : x = 2
  · subst e2
    obtain ⟨⟨p0, p1, p2, p3⟩, _⟩ := blk4 HN4.out.hq
    dsimp only at p0 p1 p2 p3
    have hw : IntKind.i64.wrap (b - 1) = b - 1 := IntWalk.i64_in _ (by omega)
    go_wp2_with fail
    refine (among_in B g _ 4 [b - 1, 60, 61, -9223372036854775808] bs w4 HN4.out.src (by omega) rfl (by omega) (by omega)).mono ?_; rintro e w5 ⟨z, _, rfl, hs5, hg5⟩
    have HN5 := Lib.hid (HN4.out.draw hs5 hg5)
    obtain ⟨⟨q0, q1, q2, q3⟩, f0, f1, f2, f3⟩ := blk4 HN5.out.hq
    have HN := Lib.hid (HN5.out.set 2 (.int .i64 z) ⟨kk, b, z, f⟩ rfl)
    clear hs5 hg5 HN4
    go_upto_region 11 with (fail)
    generalize w5.setCell ⟨q, 2, none⟩ (.int .i64 z) = w6 at *
    clear HN5 q0 q1 q2 q3 f0 f1 f2 f3 p0 p1 p2 p3
    obtain ⟨⟨p0, p1, p2, p3⟩, _⟩ := blk4 HN.out.hq
    dsimp only at p0 p1 p2 p3
    obtain ⟨⟨r0, r1, r2, r3⟩, s0, s1, s2, s3⟩ := blk4 HN.out.hr
    have HD := Lib.hid (HN.out.done ⟨kk, b, z, f⟩)
    go_wp2_with fail
    obtain ⟨⟨k0, k1, k2, k3⟩, hsz, hgz⟩ := HD.out
    dsimp only at k0 k1 k2 k3
    refine bodyPost_ret (v := aggDm ⟨kk, b, z, f⟩) (by simp [results, Try.results120, go_sem, k0, k1, k2, k3]) rfl ?_
    exact ⟨⟨kk, b, z, f⟩, rfl, hsz.more (by omega), hgz⟩
  have b2' : (x == 2) = false := by simpa using e2
  by_cases e3 : x = 3
  · subst e3
    obtain ⟨⟨p0, p1, p2, p3⟩, _⟩ := blk4 HN4.out.hq
    dsimp only at p0 p1 p2 p3
    have hw : IntKind.i64.wrap (t - b) = t - b := IntWalk.i64_in _ (by omega)
    have hw2 : IntKind.i64.wrap (t - b + 2) = t - b + 2 := IntWalk.i64_in _ (by omega)
    have hw3 : IntKind.i64.wrap (t - b + 3) = t - b + 3 := IntWalk.i64_in _ (by omega)
    go_wp2_with fail
    refine (among_in B g _ 5 [0, 1, t - b + 2, t - b + 3, -1] bs w4 HN4.out.src (by omega) rfl (by omega) (by omega)).mono ?_; rintro e w5 ⟨z, _, rfl, hs5, hg5⟩
    have HN5 := Lib.hid (HN4.out.draw hs5 hg5)
    obtain ⟨⟨q0, q1, q2, q3⟩, f0, f1, f2, f3⟩ := blk4 HN5.out.hq
    have HN := Lib.hid (HN5.out.set 3 (.int .i64 z) ⟨kk, b, t, z⟩ rfl)
    clear hs5 hg5 HN4
    go_upto_region 11 with (fail)
    generalize w5.setCell ⟨q, 3, none⟩ (.int .i64 z) = w6 at *
    clear HN5 q0 q1 q2 q3 f0 f1 f2 f3 p0 p1 p2 p3
    obtain ⟨⟨p0, p1, p2, p3⟩, _⟩ := blk4 HN.out.hq
    dsimp only at p0 p1 p2 p3
    obtain ⟨⟨r0, r1, r2, r3⟩, s0, s1, s2, s3⟩ := blk4 HN.out.hr
    have HD := Lib.hid (HN.out.done ⟨kk, b, t, z⟩)
    go_wp2_with fail
    obtain ⟨⟨k0, k1, k2, k3⟩, hsz, hgz⟩ := HD.out
    dsimp only at k0 k1 k2 k3
    refine bodyPost_ret (v := aggDm ⟨kk, b, t, z⟩) (by simp [results, Try.results120, go_sem, k0, k1, k2, k3]) rfl ?_
    exact ⟨⟨kk, b, t, z⟩, rfl, hsz.more (by omega), hgz⟩
  have b3' : (x == 3) = false := by simpa using e3
  have HN := HN4
  clear HN4
  obtain ⟨⟨p0, p1, p2, p3⟩, _⟩ := blk4 HN.out.hq
  dsimp only at p0 p1 p2 p3
  obtain ⟨⟨r0, r1, r2, r3⟩, s0, s1, s2, s3⟩ := blk4 HN.out.hr
  have HD := Lib.hid (HN.out.done ⟨kk, b, t, f⟩)
  go_wp2_with fail
  obtain ⟨⟨k0, k1, k2, k3⟩, hsz, hgz⟩ := HD.out
  dsimp only at k0 k1 k2 k3
  refine bodyPost_ret (v := aggDm ⟨kk, b, t, f⟩) (by simp [results, Try.results120, go_sem, k0, k1, k2, k3]) rfl ?_
  exact ⟨⟨kk, b, t, f⟩, rfl, hsz.more (by omega), hgz⟩
set_option maxRecDepth 100000 in
set_option maxHeartbeats 800000 in
theorem l05Clock_any (B g k : Nat) (bs : List UInt8) (w : World) (hs : SrcAt w B g k bs) (hk : k < 4611686018427380000) : Calls Try.prog 104 #[.pointer (some ⟨g, 0, none⟩)] w (Drawn w B g (k + 4) bs fun x => -1 ≤ x ∧ x ≤ 100001) := by
  have H := Lib.hid hs; clear hs
  go_enter Try.func104, Try.ntmps104
  go_wp2_with fail
  refine (one_any B g _ bs 12 w H.out (by omega)).mono ?_; rintro e w2 ⟨y, rfl, hs2, hg2⟩
  have H2 := Lib.hid hs2
  have Hg2 := Lib.hid hg2
  clear hs2 hg2
  cases y with
  | true =>
    go_wp2_with fail
    refine (among_in B g _ 4 [-1, 0, 100000, 100001] bs w2 H2.out (by omega) rfl (by omega) (by omega)).mono ?_; rintro e w3 ⟨z, hz, rfl, hs3, hg3⟩
    have hz2 : -1 ≤ z ∧ z ≤ 100001 := by
      simp only [List.mem_cons, List.not_mem_nil, or_false] at hz
      omega
    have H3 := Lib.hid hs3
    have Hg3 := Lib.hid (grown_trans Hg2.out hg3)
    clear hs3 hg3 hz
    go_wp2_with fail
    go_ret
    exact ⟨z, rfl, hz2, H3.out, Hg3.out⟩
  | false =>
    go_wp2_with fail
    refine (pick_any B g _ bs 100 w2 H2.out (by omega)).mono ?_; rintro e w3 ⟨z, rfl, ⟨hz0, hz1, _⟩, hs3, hg3⟩
    have hz2 := hz1 (by omega)
    have H3 := Lib.hid hs3
    have Hg3 := Lib.hid (grown_trans Hg2.out hg3)
    clear hs3 hg3 hz1
    go_wp2_with fail
    go_ret
    exact ⟨z, rfl, ⟨by omega, by omega⟩, H3.out, Hg3.out⟩
end Go.Proofs.Ythemffbkkhaaoaa
/- Drums that are drawn: l05Digit. -/
namespace Go.Proofs.Ythemffbkkhaaoaa
open Go.RowKit Go.Joins

theorem l00MinD_any (a b : Int) (w : World) : Calls Try.prog 106 #[.int .i64 a, .int .i64 b] w fun e w' => e = .returned (.int .i64 (if a < b then a else b)) ∧ w = w' := by
  by_cases h : a < b
  · rw [if_pos h]
    go_enter Try.func106, Try.ntmps106
    go_wp2_with fail
    go_ret
    exact ⟨rfl, rfl⟩
  · rw [if_neg h]
    go_enter Try.func106, Try.ntmps106
    go_wp2_with fail
    go_ret
    exact ⟨rfl, rfl⟩
theorem l00MaxD_any (a b : Int) (w : World) : Calls Try.prog 107 #[.int .i64 a, .int .i64 b] w fun e w' => e = .returned (.int .i64 (if b < a then a else b)) ∧ w = w' := by
  by_cases h : b < a
  · rw [if_pos h]
    go_enter Try.func107, Try.ntmps107
    go_wp2_with fail
    go_ret
    exact ⟨rfl, rfl⟩
  · rw [if_neg h]
    go_enter Try.func107, Try.ntmps107
    go_wp2_with fail
    go_ret
    exact ⟨rfl, rfl⟩
theorem blk_ltN {w : World} {q : Nat} {o : Obj} (h : w.heap[q]? = some o) : q < w.heap.size := (Array.getElem?_eq_some_iff.1 h).1
def RetDg (w : World) (B g k : Nat) (bs : List UInt8) (e : Ending) (w' : World) : Prop := ∃ (d : Dm) (x : Int), e = .returned (.tuple #[aggDm d, .int .i64 x]) ∧ SrcAt w' B g k bs ∧ w.grownBy w' (some g)
set_option maxRecDepth 100000 in
set_option maxHeartbeats 3200000 in
theorem l05Digit_any (B g k : Nat) (bs : List UInt8) (w : World) (hs : SrcAt w B g k bs) (hk : k < 4611686018427360000) : Calls Try.prog 103 #[.pointer (some ⟨g, 0, none⟩)] w (RetDg w B g (k + 18) bs) := by
  have hlt := hs.lt
  have hb0 := (Below.refl w.heap.size w).alloc (Nat.le_refl _) (.cells #[.int .i64 0, .int .i64 0, .int .i64 0, .int .i64 0] 25)
  have H0 := Lib.hid (hs.below hb0)
  have Hr0 := Lib.hid (heap_alloc_new w (.cells #[.int .i64 0, .int .i64 0, .int .i64 0, .int .i64 0] 25))
  have Hg0 := Lib.hid (grown_of_below hb0 (some g))
  have hz0 : w.heap.size < (w.alloc (.cells #[.int .i64 0, .int .i64 0, .int .i64 0, .int .i64 0] 25)).heap.size := by simp
  clear hb0 hs
  go_enter Try.func103, Try.ntmps103
  go_wp2_with fail
  generalize w.alloc (.cells #[.int .i64 0, .int .i64 0, .int .i64 0, .int .i64 0] 25) = w1 at *
  refine (l05Bent_any B g _ bs w1 H0.out (by omega)).mono ?_; rintro e w2 ⟨⟨kk, b, t, f⟩, rfl, hs2, hg2⟩
  have HN2 := Lib.hid (NwD.made ⟨kk, b, t, f⟩ hlt hs2 (grown_trans Hg0.out hg2) ((hg2.block w.heap.size hz0 (fun e => by injection e; omega)).trans Hr0.out))
  clear hs2 hg2 H0 Hr0 Hg0
  go_upto_region 2 with (fail)
  generalize w2.heap.size = q at *
  generalize w2.alloc (.cells #[.int .i64 kk, .int .i64 b, .int .i64 t, .int .i64 f] 25) = w3 at *
  go_wp2_with fail
  refine (one_any B g _ bs 12 w3 HN2.out.src (by omega)).mono ?_; rintro e w4 ⟨y, rfl, hs4, hg4⟩
  have HN4 := Lib.hid (HN2.out.draw hs4 hg4)
  obtain ⟨⟨p0, p1, p2, p3⟩, _⟩ := blk4 HN4.out.hq
  dsimp only at p0 p1 p2 p3
  clear hs4 hg4 HN2
  cases y with
  | true =>
    go_upto_region 3 with (fail)
    refine wp_region_noPanic ?_
    refine wp_region_L [7,6] (fun w' => w'.cell? ⟨q, 0, none⟩ = some (.int .i64 kk) ∧ w'.cell? ⟨q, 1, none⟩ = some (.int .i64 b) ∧ w'.cell? ⟨q, 2, none⟩ = some (.int .i64 t) ∧ w'.cell? ⟨q, 3, none⟩ = some (.int .i64 f)) (by kernel_rfl) (⟨p0, p1, p2, p3⟩) (fun hHeld => ?_)
    refine take_L [0] (i := 0) (d := some 9) (v := ?_) (by kernel_rfl) (by kernel_rfl) (by kernel_rfl) (by kernel_rfl) rfl rfl (by kernel_rfl) (by kernel_rfl) (by kernel_rfl) (fun _ _ _ h => h) (Or.inl ⟨by rfl, ?_⟩) (by assumption) ?_
    rotate_left
    · (intro w hSw; (try dsimp only at hSw); go_simp; (try rw [if_neg (by omega)]); (try (with_reducible rfl)))
    simp only [Act.put, List.setIfInBounds_toArray, List.set_cons_zero, List.set_cons_succ]
    refine take_F (i := 1) (d := some 10) (v := ?_) (by kernel_rfl) (by kernel_rfl) rfl rfl (by kernel_rfl) (by kernel_rfl) (by kernel_rfl) (fun _ _ _ h => h) (Or.inl ⟨by rfl, ?_⟩) (by assumption) ?_
    rotate_left
    · (intro w hSw; (try dsimp only at hSw); go_simp; (try rw [if_neg (by omega)]); (try (with_reducible rfl)))
    simp only [Act.put, List.setIfInBounds_toArray, List.set_cons_zero, List.set_cons_succ]
    refine take_F (i := 2) (d := some 11) (v := ?_) (by kernel_rfl) (by kernel_rfl) rfl rfl (by kernel_rfl) (by kernel_rfl) (by kernel_rfl) (fun _ _ _ h => h) (Or.inl ⟨by rfl, ?_⟩) (by assumption) ?_
    rotate_left
    · (intro w hSw; (try dsimp only at hSw); go_simp; (try rw [if_neg (by omega)]); (try (with_reducible rfl)))
    simp only [Act.put, List.setIfInBounds_toArray, List.set_cons_zero, List.set_cons_succ]
    refine take_L [5,4,3] (i := 3) (d := some 12) (v := ?_) (by kernel_rfl) (by kernel_rfl) (by kernel_rfl) (by kernel_rfl) rfl rfl (by kernel_rfl) (by kernel_rfl) (by kernel_rfl) (fun _ _ _ h => h) (Or.inl ⟨by rfl, ?_⟩) (by assumption) ?_
    rotate_left
    · (intro w hSw; (try dsimp only at hSw); go_simp; (try rw [if_neg (by omega)]); (try (with_reducible rfl)))
    simp only [Act.put, List.setIfInBounds_toArray, List.set_cons_zero, List.set_cons_succ]
    refine call_L (i := 4) (d := (some 13)) rfl rfl (by kernel_rfl) (fun Kq hKq => ?_)
    go_simp
    have hba := (Below.refl w4.heap.size w4).alloc (Nat.le_refl _) (.cells #[.int .i64 (-1), .int .i64 b, .int .i64 9223372036854775807] 2)
    have hS5 := (blk4 ((hba.block q (blk_ltN HN4.out.hq)).trans HN4.out.hq)).1
    dsimp only at hS5
    clear hba
    refine hKq.out _ _ (hS5) (fun hHeld => ?_)
    clear hKq Kq
    (try simp only [Act.put, List.setIfInBounds_toArray, List.set_cons_zero, List.set_cons_succ])
    refine call_L (i := 5) (d := (some 14)) rfl rfl (by kernel_rfl) (fun Kq hKq => ?_)
    go_simp
    go_at_call 149
    refine (among_in B g _ 3 [-1, b, 9223372036854775807] bs w4.drew (SrcAt.drew HN4.out.src) (by omega) rfl (by omega) (by omega)).mono ?_; rintro e w5 ⟨z, _, rfl, hs5, hg5⟩
    have HN5 := Lib.hid (HN4.out.draw hs5 (grown_undrew hg5))
    obtain ⟨⟨m0, m1, m2, m3⟩, _⟩ := blk4 HN5.out.hq
    dsimp only at m0 m1 m2 m3
    obtain ⟨⟨r0, r1, r2, r3⟩, s0, s1, s2, s3⟩ := blk4 HN5.out.hr
    have HD := Lib.hid (HN5.out.done ⟨kk, b, t, f⟩)
    clear hs5 hg5 p0 p1 p2 p3
    (try go_wp2_with fail)
    refine hKq.out _ _ (⟨m0, m1, m2, m3⟩) (fun hHeld => ?_)
    clear hKq Kq
    (try simp only [Act.put, List.setIfInBounds_toArray, List.set_cons_zero, List.set_cons_succ])
    refine late_L (i := 6) (d := none) (by kernel_rfl) rfl rfl (by kernel_rfl) (fun Kq hKq => ?_)
    go_simp
    refine hKq.out _ _ ?_
    clear hKq Kq
    refine late_L (i := 7) (d := (some 3)) (by kernel_rfl) rfl rfl (by kernel_rfl) (fun Kq hKq => ?_)
    go_simp
    refine hKq.out _ _ ?_
    clear hKq Kq
    refine done_L (by kernel_rfl) ?_ _
    refine NoPanic.normal ?_
    go_wp2_with fail
    obtain ⟨⟨k0, k1, k2, k3⟩, hsz, hgz⟩ := HD.out
    dsimp only at k0 k1 k2 k3
    refine bodyPost_ret (v := .tuple #[aggDm ⟨kk, b, t, f⟩, .int .i64 z]) (by simp [results, Try.results103, go_sem, k0, k1, k2, k3]) rfl ?_
    first | exact ⟨⟨kk, b, t, f⟩, z, rfl, (SrcAt.drew hsz).more (by omega), hgz⟩ | exact ⟨⟨kk, b, t, f⟩, z, rfl, hsz.more (by omega), hgz⟩
  | false =>
    have HM1 := Lib.hid (fun wx => l00MinD_any 16 b wx)
    have HM2 := Lib.hid (fun x wx => l00MaxD_any 1 x wx)
    generalize (if 16 < b then (16 : Int) else b) = mn at *
    have HM2 := Lib.hid (HM2.out mn)
    generalize (if mn < 1 then (1 : Int) else mn) = mx at *
    have HP := Lib.hid (pick_any B g _ bs mx w4.drew (SrcAt.drew HN4.out.src) (by omega))
    go_upto_region 4 with (fail)
    refine wp_region_noPanic ?_
    refine wp_region_L [8,7] (fun w' => w'.cell? ⟨q, 0, none⟩ = some (.int .i64 kk) ∧ w'.cell? ⟨q, 1, none⟩ = some (.int .i64 b) ∧ w'.cell? ⟨q, 2, none⟩ = some (.int .i64 t) ∧ w'.cell? ⟨q, 3, none⟩ = some (.int .i64 f)) (by kernel_rfl) (⟨p0, p1, p2, p3⟩) (fun hHeld => ?_)
    refine take_L [0] (i := 0) (d := some 15) (v := ?_) (by kernel_rfl) (by kernel_rfl) (by kernel_rfl) (by kernel_rfl) rfl rfl (by kernel_rfl) (by kernel_rfl) (by kernel_rfl) (fun _ _ _ h => h) (Or.inl ⟨by rfl, ?_⟩) (by assumption) ?_
    rotate_left
    · (intro w hSw; (try dsimp only at hSw); go_simp; (try rw [if_neg (by omega)]); (try (with_reducible rfl)))
    simp only [Act.put, List.setIfInBounds_toArray, List.set_cons_zero, List.set_cons_succ]
    refine take_F (i := 1) (d := some 16) (v := ?_) (by kernel_rfl) (by kernel_rfl) rfl rfl (by kernel_rfl) (by kernel_rfl) (by kernel_rfl) (fun _ _ _ h => h) (Or.inl ⟨by rfl, ?_⟩) (by assumption) ?_
    rotate_left
    · (intro w hSw; (try dsimp only at hSw); go_simp; (try rw [if_neg (by omega)]); (try (with_reducible rfl)))
    simp only [Act.put, List.setIfInBounds_toArray, List.set_cons_zero, List.set_cons_succ]
    refine take_F (i := 2) (d := some 17) (v := ?_) (by kernel_rfl) (by kernel_rfl) rfl rfl (by kernel_rfl) (by kernel_rfl) (by kernel_rfl) (fun _ _ _ h => h) (Or.inl ⟨by rfl, ?_⟩) (by assumption) ?_
    rotate_left
    · (intro w hSw; (try dsimp only at hSw); go_simp; (try rw [if_neg (by omega)]); (try (with_reducible rfl)))
    simp only [Act.put, List.setIfInBounds_toArray, List.set_cons_zero, List.set_cons_succ]
    refine take_L [6,5,4,3] (i := 3) (d := some 18) (v := ?_) (by kernel_rfl) (by kernel_rfl) (by kernel_rfl) (by kernel_rfl) rfl rfl (by kernel_rfl) (by kernel_rfl) (by kernel_rfl) (fun _ _ _ h => h) (Or.inl ⟨by rfl, ?_⟩) (by assumption) ?_
    rotate_left
    · (intro w hSw; (try dsimp only at hSw); go_simp; (try rw [if_neg (by omega)]); (try (with_reducible rfl)))
    simp only [Act.put, List.setIfInBounds_toArray, List.set_cons_zero, List.set_cons_succ]
    refine call_L (i := 4) (d := (some 19)) rfl rfl (by kernel_rfl) (fun Kq hKq => ?_)
    go_simp
    go_at_call 106
    refine (HM1.out _).mono ?_; rintro e w6 ⟨rfl, rfl⟩
    (try go_wp2_with fail)
    refine hKq.out _ _ (⟨p0, p1, p2, p3⟩) (fun hHeld => ?_)
    clear hKq Kq
    (try simp only [Act.put, List.setIfInBounds_toArray, List.set_cons_zero, List.set_cons_succ])
    refine call_L (i := 5) (d := (some 20)) rfl rfl (by kernel_rfl) (fun Kq hKq => ?_)
    go_simp
    go_at_call 107
    refine (HM2.out _).mono ?_; rintro e w6 ⟨rfl, rfl⟩
    (try go_wp2_with fail)
    refine hKq.out _ _ (⟨p0, p1, p2, p3⟩) (fun hHeld => ?_)
    clear hKq Kq
    (try simp only [Act.put, List.setIfInBounds_toArray, List.set_cons_zero, List.set_cons_succ])
    refine call_L (i := 6) (d := (some 21)) rfl rfl (by kernel_rfl) (fun Kq hKq => ?_)
    go_simp
    go_at_call 108
    refine HP.out.mono ?_; rintro e w5 ⟨z, rfl, _, hs5, hg5⟩
    have HN5 := Lib.hid (HN4.out.draw hs5 (grown_undrew hg5))
    obtain ⟨⟨m0, m1, m2, m3⟩, _⟩ := blk4 HN5.out.hq
    dsimp only at m0 m1 m2 m3
    obtain ⟨⟨r0, r1, r2, r3⟩, s0, s1, s2, s3⟩ := blk4 HN5.out.hr
    have HD := Lib.hid (HN5.out.done ⟨kk, b, t, f⟩)
    clear hs5 hg5 p0 p1 p2 p3
    (try go_wp2_with fail)
    refine hKq.out _ _ (⟨m0, m1, m2, m3⟩) (fun hHeld => ?_)
    clear hKq Kq
    (try simp only [Act.put, List.setIfInBounds_toArray, List.set_cons_zero, List.set_cons_succ])
    refine late_L (i := 7) (d := none) (by kernel_rfl) rfl rfl (by kernel_rfl) (fun Kq hKq => ?_)
    go_simp
    refine hKq.out _ _ ?_
    clear hKq Kq
    refine late_L (i := 8) (d := (some 3)) (by kernel_rfl) rfl rfl (by kernel_rfl) (fun Kq hKq => ?_)
    go_simp
    refine hKq.out _ _ ?_
    clear hKq Kq
    refine done_L (by kernel_rfl) ?_ _
    refine NoPanic.normal ?_
    go_wp2_with fail
    obtain ⟨⟨k0, k1, k2, k3⟩, hsz, hgz⟩ := HD.out
    dsimp only at k0 k1 k2 k3
    refine bodyPost_ret (v := .tuple #[aggDm ⟨kk, b, t, f⟩, .int .i64 z]) (by simp [results, Try.results103, go_sem, k0, k1, k2, k3]) rfl ?_
    first | exact ⟨⟨kk, b, t, f⟩, z, rfl, (SrcAt.drew hsz).more (by omega), hgz⟩ | exact ⟨⟨kk, b, t, f⟩, z, rfl, hsz.more (by omega), hgz⟩
end Go.Proofs.Ythemffbkkhaaoaa
/- Drums: the law's draws, from the code. -/
namespace Go.Proofs.Ythemffbkkhaaoaa
open Go.RowKit Go.Joins

/-- a draw from the code under way: the result's block is fresh, the source lies behind it, the drum lies in block q -/
structure CdD (w wx : World) (B g k : Nat) (bs : List UInt8) (q : Nat) (d : Dm) : Prop where
  hr : wx.heap[w.heap.size]? = some (.cells #[.int .i64 0, .int .i64 0, .int .i64 0, .int .i64 0] 25 (0, 0))
  src : SrcAt wx B g k bs
  hq : wx.heap[q]? = some (.cells #[.int .i64 d.k, .int .i64 d.b, .int .i64 d.t, .int .i64 d.f] 25 (0, 0))
  rg : w.heap.size < g
  gq : g < q
  bel : Below w.heap.size w wx
theorem CdD.draw {w wx wy : World} {B g k k' q : Nat} {bs : List UInt8} {d : Dm} (h : CdD w wx B g k bs q d) (hs : SrcAt wy B g k' bs) (hg : wx.grownBy wy (some g)) : CdD w wy B g k' bs q d :=
  have hq := blk_ltN h.hq
  have hr := blk_ltN h.hr
  ⟨(hg.block _ hr (fun e => by have := h.rg; injection e; omega)).trans h.hr, hs, (hg.block q hq (fun e => by have := h.gq; injection e; omega)).trans h.hq, h.rg, h.gq, h.bel.grown hg h.bel.size (fun x hx => by cases hx; exact Nat.le_of_lt h.rg)⟩
theorem CdD.below {w wx wy : World} {B g k q : Nat} {bs : List UInt8} {d : Dm} (h : CdD w wx B g k bs q d) (hb : Below wx.heap.size wx wy) : CdD w wy B g k bs q d :=
  ⟨(hb.block _ (blk_ltN h.hr)).trans h.hr, h.src.below hb, (hb.block q (blk_ltN h.hq)).trans h.hq, h.rg, h.gq, h.bel.trans (hb.mono h.bel.size)⟩
theorem doneC {w wx : World} (hr : wx.heap[w.heap.size]? = some (.cells #[.int .i64 0, .int .i64 0, .int .i64 0, .int .i64 0] 25 (0, 0))) (hb : Below w.heap.size w wx) (d : Dm) :
    DmAt (put4D wx w.heap.size d) w.heap.size d ∧ Below w.heap.size w (put4D wx w.heap.size d) := by
  have g4 := heap_setCell_same _ w.heap.size 3 _ _ (.int .i64 d.f) (heap_setCell_same _ w.heap.size 2 _ _ (.int .i64 d.t) (heap_setCell_same _ w.heap.size 1 _ _ (.int .i64 d.b) (heap_setCell_same wx w.heap.size 0 _ _ (.int .i64 d.k) hr)))
  exact ⟨DmAt.of g4, (((hb.setCell (p := ⟨w.heap.size, 0, none⟩) (Nat.le_refl _) _).setCell (p := ⟨w.heap.size, 1, none⟩) (Nat.le_refl _) _).setCell (p := ⟨w.heap.size, 2, none⟩) (Nat.le_refl _) _).setCell (p := ⟨w.heap.size, 3, none⟩) (Nat.le_refl _) _⟩
theorem CdD.done {w wx : World} {B g k q : Nat} {bs : List UInt8} {d : Dm} (h : CdD w wx B g k bs q d) (d' : Dm) : DmAt (put4D wx w.heap.size d') w.heap.size d' ∧ Below w.heap.size w (put4D wx w.heap.size d') := doneC h.hr h.bel d'
set_option maxRecDepth 100000 in
set_option maxHeartbeats 800000 in
theorem drawDN_any (B : Nat) (cv : Value) (bs : List UInt8) (w : World) (h : Rd w B cv bs.length 1 (bs.map byV)) (hB : B ≤ w.heap.size) : Calls Try.prog 25 #[cv] w fun e w' => ∃ x : Int, e = .returned (.int .i64 x) ∧ Below w.heap.size w w' := by
  have HF := Lib.hid (l00From_any B cv bs w h hB)
  obtain ⟨_, A, c, rfl, _⟩ := h
  go_enter Try.func25, Try.ntmps25
  go_wp2_with fail
  refine HF.out.mono ?_; rintro e w1 ⟨rfl, hs1, hb1, hl1⟩
  have Hs1 := Lib.hid hs1
  have Hb1 := Lib.hid hb1
  clear hs1 hb1 HF
  go_wp2_with fail
  refine (pick_any B _ _ bs 6 _ Hs1.out (by omega)).mono ?_; rintro e w2 ⟨x, rfl, ⟨hx0, hx1, _⟩, hs2, hg2⟩
  have hx6 := hx1 (by omega)
  have Hb2 := Lib.hid (Hb1.out.grown hg2 Hb1.out.size (fun x hx => by cases hx; exact Nat.le_refl _))
  have hw : IntKind.i64.wrap (x - 1) = x - 1 := IntWalk.i64_in _ (by omega)
  clear hs2 hg2
  go_wp2_with fail
  go_ret
  exact ⟨x - 1, rfl, Hb2.out⟩
set_option maxRecDepth 100000 in
set_option maxHeartbeats 3200000 in
theorem drawDL_any (B : Nat) (cv : Value) (bs : List UInt8) (w : World) (h : Rd w B cv bs.length 1 (bs.map byV)) (hB : B ≤ w.heap.size) : Calls Try.prog 22 #[cv] w fun e w' => ∃ d : Dm, e = .returned (aggDm d) ∧ Below w.heap.size w w' := by
  have hb0 := (Below.refl w.heap.size w).alloc (Nat.le_refl _) (.cells #[.int .i64 0, .int .i64 0, .int .i64 0, .int .i64 0] 25)
  have Hr0 := Lib.hid (heap_alloc_new w (.cells #[.int .i64 0, .int .i64 0, .int .i64 0, .int .i64 0] 25))
  have HB0 := Lib.hid hb0
  have HF := Lib.hid (l00From_any B cv bs (w.alloc (.cells #[.int .i64 0, .int .i64 0, .int .i64 0, .int .i64 0] 25)) (h.below (hb0.mono hB)) (Nat.le_trans hB hb0.size))
  have hz0 : w.heap.size < (w.alloc (.cells #[.int .i64 0, .int .i64 0, .int .i64 0, .int .i64 0] 25)).heap.size := by simp
  obtain ⟨_, A, c, rfl, _⟩ := h
  clear hb0
  go_enter Try.func22, Try.ntmps22
  go_wp2_with fail
  generalize w.alloc (.cells #[.int .i64 0, .int .i64 0, .int .i64 0, .int .i64 0] 25) = w1 at *
  refine HF.out.mono ?_; rintro e w2 ⟨rfl, hs2, hb2, hl2⟩
  have H2 := Lib.hid hs2
  have Hr2 := Lib.hid ((hb2.block _ hz0).trans Hr0.out)
  have HB2 := Lib.hid (HB0.out.trans (hb2.mono HB0.out.size))
  clear hs2 hb2 HF Hr0 HB0
  go_wp2_with fail
  refine (l05Bent_any B _ _ bs w2 H2.out (by omega)).mono ?_; rintro e w3 ⟨⟨kk, b, t, f⟩, rfl, hs3, hg3⟩
  have hb3 := HB2.out.grown hg3 HB2.out.size (fun x hx => by cases hx; exact Nat.le_of_lt hz0)
  have hr3 := (hg3.block _ (blk_ltN Hr2.out) (fun e => by injection e; omega)).trans Hr2.out
  obtain ⟨⟨r0, r1, r2, r3⟩, s0, s1, s2, s3⟩ := blk4 hr3
  have HD := Lib.hid (doneC hr3 hb3 ⟨kk, b, t, f⟩)
  clear hs3 hg3 hb3 hr3 H2 Hr2 HB2
  go_wp2_with fail
  obtain ⟨⟨k0, k1, k2, k3⟩, hbz⟩ := HD.out
  dsimp only at k0 k1 k2 k3
  refine bodyPost_ret (v := aggDm ⟨kk, b, t, f⟩) (by simp [results, Try.results22, go_sem, k0, k1, k2, k3]) rfl ?_
  first | exact ⟨⟨kk, b, t, f⟩, rfl, hbz.drew⟩ | exact ⟨⟨kk, b, t, f⟩, rfl, hbz⟩
set_option maxRecDepth 100000 in
set_option maxHeartbeats 3200000 in
theorem drawST_any (B : Nat) (cv : Value) (bs : List UInt8) (w : World) (h : Rd w B cv bs.length 1 (bs.map byV)) (hB : B ≤ w.heap.size) : Calls Try.prog 16 #[cv] w fun e w' => ∃ (d : Dm) (x : Int), e = .returned (.tuple #[aggDm d, .int .i64 x]) ∧ Below w.heap.size w w' := by
  have hb0 := (Below.refl w.heap.size w).alloc (Nat.le_refl _) (.cells #[.int .i64 0, .int .i64 0, .int .i64 0, .int .i64 0] 25)
  have Hr0 := Lib.hid (heap_alloc_new w (.cells #[.int .i64 0, .int .i64 0, .int .i64 0, .int .i64 0] 25))
  have HB0 := Lib.hid hb0
  have HF := Lib.hid (l00From_any B cv bs (w.alloc (.cells #[.int .i64 0, .int .i64 0, .int .i64 0, .int .i64 0] 25)) (h.below (hb0.mono hB)) (Nat.le_trans hB hb0.size))
  have hz0 : w.heap.size < (w.alloc (.cells #[.int .i64 0, .int .i64 0, .int .i64 0, .int .i64 0] 25)).heap.size := by simp
  obtain ⟨_, A, c, rfl, _⟩ := h
  clear hb0
  go_enter Try.func16, Try.ntmps16
  go_wp2_with fail
  generalize w.alloc (.cells #[.int .i64 0, .int .i64 0, .int .i64 0, .int .i64 0] 25) = w1 at *
  refine HF.out.mono ?_; rintro e w2 ⟨rfl, hs2, hb2, hl2⟩
  have H2 := Lib.hid hs2
  have Hr2 := Lib.hid ((hb2.block _ hz0).trans Hr0.out)
  have HB2 := Lib.hid (HB0.out.trans (hb2.mono HB0.out.size))
  clear hs2 hb2 HF Hr0 HB0
  go_wp2_with fail
  refine (l05Digit_any B _ _ bs w2 H2.out (by omega)).mono ?_; rintro e w3 ⟨⟨kk, b, t, f⟩, x, rfl, hs3, hg3⟩
  have hb3 := HB2.out.grown hg3 HB2.out.size (fun x hx => by cases hx; exact Nat.le_of_lt hz0)
  have hr3 := (hg3.block _ (blk_ltN Hr2.out) (fun e => by injection e; omega)).trans Hr2.out
  obtain ⟨⟨r0, r1, r2, r3⟩, s0, s1, s2, s3⟩ := blk4 hr3
  have HD := Lib.hid (doneC hr3 hb3 ⟨kk, b, t, f⟩)
  clear hs3 hg3 hb3 hr3 H2 Hr2 HB2
  go_wp2_with fail
  obtain ⟨⟨k0, k1, k2, k3⟩, hbz⟩ := HD.out
  dsimp only at k0 k1 k2 k3
  refine bodyPost_ret (v := .tuple #[aggDm ⟨kk, b, t, f⟩, .int .i64 x]) (by simp [results, Try.results16, go_sem, k0, k1, k2, k3]) rfl ?_
  first | exact ⟨⟨kk, b, t, f⟩, x, rfl, hbz.drew⟩ | exact ⟨⟨kk, b, t, f⟩, x, rfl, hbz⟩
set_option maxRecDepth 100000 in
set_option maxHeartbeats 3200000 in
theorem drawSB_any (B : Nat) (cv : Value) (bs : List UInt8) (w : World) (h : Rd w B cv bs.length 1 (bs.map byV)) (hB : B ≤ w.heap.size) : Calls Try.prog 13 #[cv] w fun e w' => ∃ (d : Dm) (x y : Int), e = .returned (.tuple #[aggDm d, .int .i64 x, .int .i64 y]) ∧ Below w.heap.size w w' := by
  have hb0 := (Below.refl w.heap.size w).alloc (Nat.le_refl _) (.cells #[.int .i64 0, .int .i64 0, .int .i64 0, .int .i64 0] 25)
  have Hr0 := Lib.hid (heap_alloc_new w (.cells #[.int .i64 0, .int .i64 0, .int .i64 0, .int .i64 0] 25))
  have HB0 := Lib.hid hb0
  have HF := Lib.hid (l00From_any B cv bs (w.alloc (.cells #[.int .i64 0, .int .i64 0, .int .i64 0, .int .i64 0] 25)) (h.below (hb0.mono hB)) (Nat.le_trans hB hb0.size))
  have hz0 : w.heap.size < (w.alloc (.cells #[.int .i64 0, .int .i64 0, .int .i64 0, .int .i64 0] 25)).heap.size := by simp
  obtain ⟨_, A, c, rfl, _⟩ := h
  clear hb0
  go_enter Try.func13, Try.ntmps13
  go_wp2_with fail
  generalize w.alloc (.cells #[.int .i64 0, .int .i64 0, .int .i64 0, .int .i64 0] 25) = w1 at *
  refine HF.out.mono ?_; rintro e w2 ⟨rfl, hs2, hb2, hl2⟩
  have H2 := Lib.hid hs2
  have Hr2 := Lib.hid ((hb2.block _ hz0).trans Hr0.out)
  have HB2 := Lib.hid (HB0.out.trans (hb2.mono HB0.out.size))
  clear hs2 hb2 HF Hr0 HB0
  go_wp2_with fail
  refine (l05Digit_any B _ _ bs w2 H2.out (by omega)).mono ?_; rintro e w3 ⟨⟨kk, b, t, f⟩, x, rfl, hs3, hg3⟩
  have hb3 := HB2.out.grown hg3 HB2.out.size (fun x hx => by cases hx; exact Nat.le_of_lt hz0)
  have hr3 := (hg3.block _ (blk_ltN Hr2.out) (fun e => by injection e; omega)).trans Hr2.out
  have hba := (Below.refl w3.heap.size w3).alloc (Nat.le_refl _) (objDm ⟨kk, b, t, f⟩)
  have hgz := hg3.size
  have HN := Lib.hid (show CdD w (w3.alloc (objDm ⟨kk, b, t, f⟩)) B w1.heap.size _ bs w3.heap.size ⟨kk, b, t, f⟩ from ⟨(hba.block _ (blk_ltN hr3)).trans hr3, hs3.below hba, heap_alloc_new w3 _, hz0, by omega, hb3.trans (hba.mono hb3.size)⟩)
  clear hs3 hg3 hb3 hr3 hba H2 Hr2 HB2
  go_upto_region 3 with (fail)
  generalize w3.heap.size = q at *
  generalize w3.alloc (.cells #[.int .i64 kk, .int .i64 b, .int .i64 t, .int .i64 f] 25) = w4 at *
  clear hl2 hgz
  obtain ⟨⟨p0, p1, p2, p3⟩, _⟩ := blk4 HN.out.hq
  dsimp only at p0 p1 p2 p3
  have HP := Lib.hid (l05Clock_any B _ _ bs w4.drew (SrcAt.drew HN.out.src) (by omega))
  refine wp_region_noPanic ?_
  refine wp_region_L [6,5,4] (fun w' => w'.cell? ⟨q, 0, none⟩ = some (.int .i64 kk) ∧ w'.cell? ⟨q, 1, none⟩ = some (.int .i64 b) ∧ w'.cell? ⟨q, 2, none⟩ = some (.int .i64 t) ∧ w'.cell? ⟨q, 3, none⟩ = some (.int .i64 f)) (by kernel_rfl) (⟨p0, p1, p2, p3⟩) (fun hHeld => ?_)
  refine take_L [0] (i := 0) (d := some 15) (v := ?_) (by kernel_rfl) (by kernel_rfl) (by kernel_rfl) (by kernel_rfl) rfl rfl (by kernel_rfl) (by kernel_rfl) (by kernel_rfl) (fun _ _ _ h => h) (Or.inl ⟨by rfl, ?_⟩) (by assumption) ?_
  rotate_left
  · (intro w hSw; (try dsimp only at hSw); go_simp; (try rw [if_neg (by omega)]); (try (with_reducible rfl)))
  simp only [Act.put, List.setIfInBounds_toArray, List.set_cons_zero, List.set_cons_succ]
  refine take_F (i := 1) (d := some 16) (v := ?_) (by kernel_rfl) (by kernel_rfl) rfl rfl (by kernel_rfl) (by kernel_rfl) (by kernel_rfl) (fun _ _ _ h => h) (Or.inl ⟨by rfl, ?_⟩) (by assumption) ?_
  rotate_left
  · (intro w hSw; (try dsimp only at hSw); go_simp; (try rw [if_neg (by omega)]); (try (with_reducible rfl)))
  simp only [Act.put, List.setIfInBounds_toArray, List.set_cons_zero, List.set_cons_succ]
  refine take_F (i := 2) (d := some 17) (v := ?_) (by kernel_rfl) (by kernel_rfl) rfl rfl (by kernel_rfl) (by kernel_rfl) (by kernel_rfl) (fun _ _ _ h => h) (Or.inl ⟨by rfl, ?_⟩) (by assumption) ?_
  rotate_left
  · (intro w hSw; (try dsimp only at hSw); go_simp; (try rw [if_neg (by omega)]); (try (with_reducible rfl)))
  simp only [Act.put, List.setIfInBounds_toArray, List.set_cons_zero, List.set_cons_succ]
  refine call_L (i := 3) (d := (some 18)) rfl rfl (by kernel_rfl) (fun Kq hKq => ?_)
  go_simp
  go_at_call 104
  refine HP.out.mono ?_; rintro e w5 ⟨y, rfl, _, hs5, hg5⟩
  have HN5 := Lib.hid (HN.out.draw hs5 (grown_undrew hg5))
  obtain ⟨⟨m0, m1, m2, m3⟩, _⟩ := blk4 HN5.out.hq
  dsimp only at m0 m1 m2 m3
  obtain ⟨⟨r0, r1, r2, r3⟩, s0, s1, s2, s3⟩ := blk4 HN5.out.hr
  have HD := Lib.hid (HN5.out.done ⟨kk, b, t, f⟩)
  clear hs5 hg5 p0 p1 p2 p3 HN HP
  (try go_wp2_with fail)
  refine hKq.out _ _ (⟨m0, m1, m2, m3⟩) (fun hHeld => ?_)
  clear hKq Kq
  (try simp only [Act.put, List.setIfInBounds_toArray, List.set_cons_zero, List.set_cons_succ])
  refine late_L (i := 4) (d := none) (by kernel_rfl) rfl rfl (by kernel_rfl) (fun Kq hKq => ?_)
  go_simp
  refine hKq.out _ _ ?_
  clear hKq Kq
  refine late_L (i := 5) (d := (some 3)) (by kernel_rfl) rfl rfl (by kernel_rfl) (fun Kq hKq => ?_)
  go_simp
  refine hKq.out _ _ ?_
  clear hKq Kq
  refine late_L (i := 6) (d := (some 4)) (by kernel_rfl) rfl rfl (by kernel_rfl) (fun Kq hKq => ?_)
  go_simp
  refine hKq.out _ _ ?_
  clear hKq Kq
  refine done_L (by kernel_rfl) ?_ _
  refine NoPanic.normal ?_
  go_wp2_with fail
  obtain ⟨⟨k0, k1, k2, k3⟩, hbz⟩ := HD.out
  dsimp only at k0 k1 k2 k3
  refine bodyPost_ret (v := .tuple #[aggDm ⟨kk, b, t, f⟩, .int .i64 x, .int .i64 y]) (by simp [results, Try.results13, go_sem, k0, k1, k2, k3]) rfl ?_
  first | exact ⟨⟨kk, b, t, f⟩, x, y, rfl, hbz.drew⟩ | exact ⟨⟨kk, b, t, f⟩, x, y, rfl, hbz⟩
set_option maxRecDepth 100000 in
set_option maxHeartbeats 6400000 in
theorem drawSW_any (B : Nat) (cv : Value) (bs : List UInt8) (w : World) (h : Rd w B cv bs.length 1 (bs.map byV)) (hB : B ≤ w.heap.size) : Calls Try.prog 10 #[cv] w fun e w' => ∃ (d : Dm) (x y z : Int), e = .returned (.tuple #[aggDm d, .int .i64 x, .int .i64 y, .int .i64 z]) ∧ Below w.heap.size w w' := by
  have hb0 := (Below.refl w.heap.size w).alloc (Nat.le_refl _) (.cells #[.int .i64 0, .int .i64 0, .int .i64 0, .int .i64 0] 25)
  have Hr0 := Lib.hid (heap_alloc_new w (.cells #[.int .i64 0, .int .i64 0, .int .i64 0, .int .i64 0] 25))
  have HB0 := Lib.hid hb0
  have HF := Lib.hid (l00From_any B cv bs (w.alloc (.cells #[.int .i64 0, .int .i64 0, .int .i64 0, .int .i64 0] 25)) (h.below (hb0.mono hB)) (Nat.le_trans hB hb0.size))
  have hz0 : w.heap.size < (w.alloc (.cells #[.int .i64 0, .int .i64 0, .int .i64 0, .int .i64 0] 25)).heap.size := by simp
  obtain ⟨_, A, c, rfl, _⟩ := h
  clear hb0
  go_enter Try.func10, Try.ntmps10
  go_wp2_with fail
  generalize w.alloc (.cells #[.int .i64 0, .int .i64 0, .int .i64 0, .int .i64 0] 25) = w1 at *
  refine HF.out.mono ?_; rintro e w2 ⟨rfl, hs2, hb2, hl2⟩
  have H2 := Lib.hid hs2
  have Hr2 := Lib.hid ((hb2.block _ hz0).trans Hr0.out)
  have HB2 := Lib.hid (HB0.out.trans (hb2.mono HB0.out.size))
  clear hs2 hb2 HF Hr0 HB0
  go_wp2_with fail
  refine (l05Digit_any B _ _ bs w2 H2.out (by omega)).mono ?_; rintro e w3 ⟨⟨kk, b, t, f⟩, x, rfl, hs3, hg3⟩
  have hb3 := HB2.out.grown hg3 HB2.out.size (fun x hx => by cases hx; exact Nat.le_of_lt hz0)
  have hr3 := (hg3.block _ (blk_ltN Hr2.out) (fun e => by injection e; omega)).trans Hr2.out
  have hba := (Below.refl w3.heap.size w3).alloc (Nat.le_refl _) (objDm ⟨kk, b, t, f⟩)
  have hgz := hg3.size
  have HN := Lib.hid (show CdD w (w3.alloc (objDm ⟨kk, b, t, f⟩)) B w1.heap.size _ bs w3.heap.size ⟨kk, b, t, f⟩ from ⟨(hba.block _ (blk_ltN hr3)).trans hr3, hs3.below hba, heap_alloc_new w3 _, hz0, by omega, hb3.trans (hba.mono hb3.size)⟩)
  clear hs3 hg3 hb3 hr3 hba H2 Hr2 HB2
  go_upto_region 3 with (fail)
  generalize w3.heap.size = q at *
  generalize w3.alloc (.cells #[.int .i64 kk, .int .i64 b, .int .i64 t, .int .i64 f] 25) = w4 at *
  clear hl2 hgz
  go_wp2_with fail
  refine (l05Clock_any B _ _ bs w4 HN.out.src (by omega)).mono ?_; rintro e w5 ⟨y, rfl, ⟨hy0, hy1⟩, hs5, hg5⟩
  have HN5 := Lib.hid (HN.out.draw hs5 hg5)
  clear hs5 hg5 HN
  go_wp2_with fail
  refine (one_any B _ _ bs 12 w5 HN5.out.src (by omega)).mono ?_; rintro e w6 ⟨u, rfl, hs6, hg6⟩
  have HN6 := Lib.hid (HN5.out.draw hs6 hg6)
  clear hs6 hg6 HN5
  obtain ⟨⟨p0, p1, p2, p3⟩, _⟩ := blk4 HN6.out.hq
  dsimp only at p0 p1 p2 p3
  cases u with
  | true =>
    have HP := Lib.hid (l05Clock_any B _ _ bs w6.drew (SrcAt.drew HN6.out.src) (by omega))
    go_upto_region 5 with (fail)
    refine wp_region_noPanic ?_
    refine wp_region_L [8,7,6,5] (fun w' => w'.cell? ⟨q, 0, none⟩ = some (.int .i64 kk) ∧ w'.cell? ⟨q, 1, none⟩ = some (.int .i64 b) ∧ w'.cell? ⟨q, 2, none⟩ = some (.int .i64 t) ∧ w'.cell? ⟨q, 3, none⟩ = some (.int .i64 f)) (by kernel_rfl) (⟨p0, p1, p2, p3⟩) (fun hHeld => ?_)
    refine take_L [0] (i := 0) (d := some 21) (v := ?_) (by kernel_rfl) (by kernel_rfl) (by kernel_rfl) (by kernel_rfl) rfl rfl (by kernel_rfl) (by kernel_rfl) (by kernel_rfl) (fun _ _ _ h => h) (Or.inl ⟨by rfl, ?_⟩) (by assumption) ?_
    rotate_left
    · (intro w hSw; (try dsimp only at hSw); go_simp; (try rw [if_neg (by omega)]); (try (with_reducible rfl)))
    simp only [Act.put, List.setIfInBounds_toArray, List.set_cons_zero, List.set_cons_succ]
    refine take_F (i := 1) (d := some 22) (v := ?_) (by kernel_rfl) (by kernel_rfl) rfl rfl (by kernel_rfl) (by kernel_rfl) (by kernel_rfl) (fun _ _ _ h => h) (Or.inl ⟨by rfl, ?_⟩) (by assumption) ?_
    rotate_left
    · (intro w hSw; (try dsimp only at hSw); go_simp; (try rw [if_neg (by omega)]); (try (with_reducible rfl)))
    simp only [Act.put, List.setIfInBounds_toArray, List.set_cons_zero, List.set_cons_succ]
    refine take_F (i := 2) (d := some 23) (v := ?_) (by kernel_rfl) (by kernel_rfl) rfl rfl (by kernel_rfl) (by kernel_rfl) (by kernel_rfl) (fun _ _ _ h => h) (Or.inl ⟨by rfl, ?_⟩) (by assumption) ?_
    rotate_left
    · (intro w hSw; (try dsimp only at hSw); go_simp; (try rw [if_neg (by omega)]); (try (with_reducible rfl)))
    simp only [Act.put, List.setIfInBounds_toArray, List.set_cons_zero, List.set_cons_succ]
    refine take_F (i := 3) (d := some 24) (v := ?_) (by kernel_rfl) (by kernel_rfl) rfl rfl (by kernel_rfl) (by kernel_rfl) (by kernel_rfl) (fun _ _ _ h => h) (Or.inl ⟨by rfl, ?_⟩) (by assumption) ?_
    rotate_left
    · (intro w hSw; (try dsimp only at hSw); go_simp; (try rw [if_neg (by omega)]); (try (with_reducible rfl)))
    simp only [Act.put, List.setIfInBounds_toArray, List.set_cons_zero, List.set_cons_succ]
    refine call_L (i := 4) (d := (some 25)) rfl rfl (by kernel_rfl) (fun Kq hKq => ?_)
    go_simp
    go_at_call 104
    refine HP.out.mono ?_; rintro e w7 ⟨z, rfl, _, hs7, hg7⟩
    have HN7 := Lib.hid (HN6.out.draw hs7 (grown_undrew hg7))
    obtain ⟨⟨m0, m1, m2, m3⟩, _⟩ := blk4 HN7.out.hq
    dsimp only at m0 m1 m2 m3
    obtain ⟨⟨r0, r1, r2, r3⟩, s0, s1, s2, s3⟩ := blk4 HN7.out.hr
    have HD := Lib.hid (HN7.out.done ⟨kk, b, t, f⟩)
    clear hs7 hg7 p0 p1 p2 p3 HN6 HP
    (try go_wp2_with fail)
    refine hKq.out _ _ (⟨m0, m1, m2, m3⟩) (fun hHeld => ?_)
    clear hKq Kq
    (try simp only [Act.put, List.setIfInBounds_toArray, List.set_cons_zero, List.set_cons_succ])
    refine late_L (i := 5) (d := none) (by kernel_rfl) rfl rfl (by kernel_rfl) (fun Kq hKq => ?_)
    go_simp
    refine hKq.out _ _ ?_
    clear hKq Kq
    refine late_L (i := 6) (d := (some 3)) (by kernel_rfl) rfl rfl (by kernel_rfl) (fun Kq hKq => ?_)
    go_simp
    refine hKq.out _ _ ?_
    clear hKq Kq
    refine late_L (i := 7) (d := (some 4)) (by kernel_rfl) rfl rfl (by kernel_rfl) (fun Kq hKq => ?_)
    go_simp
    refine hKq.out _ _ ?_
    clear hKq Kq
    refine late_L (i := 8) (d := (some 5)) (by kernel_rfl) rfl rfl (by kernel_rfl) (fun Kq hKq => ?_)
    go_simp
    refine hKq.out _ _ ?_
    clear hKq Kq
    refine done_L (by kernel_rfl) ?_ _
    refine NoPanic.normal ?_
    go_wp2_with fail
    obtain ⟨⟨k0, k1, k2, k3⟩, hbz⟩ := HD.out
    dsimp only at k0 k1 k2 k3
    refine bodyPost_ret (v := .tuple #[aggDm ⟨kk, b, t, f⟩, .int .i64 x, .int .i64 y, .int .i64 z]) (by simp [results, Try.results10, go_sem, k0, k1, k2, k3]) rfl ?_
    first | exact ⟨⟨kk, b, t, f⟩, x, y, z, rfl, hbz.drew⟩ | exact ⟨⟨kk, b, t, f⟩, x, y, z, rfl, hbz⟩
  | false =>
    have HM1 := Lib.hid (fun wx => l00MaxD_any y 0 wx)
    have hm0 : 0 ≤ (if 0 < y then y else 0) := by split <;> omega
    have hm1 : (if 0 < y then y else 0) ≤ 100001 := by split <;> omega
    generalize (if 0 < y then y else 0) = mx at *
    have HM2 := Lib.hid (fun s wx => l00MinD_any 100000 s wx)
    have HP := Lib.hid (pick_any B _ _ bs 100 w6.drew (SrcAt.drew HN6.out.src) (by omega))
    go_upto_region 6 with (fail)
    refine wp_region_noPanic ?_
    refine wp_region_L [12,11,10,9] (fun w' => w'.cell? ⟨q, 0, none⟩ = some (.int .i64 kk) ∧ w'.cell? ⟨q, 1, none⟩ = some (.int .i64 b) ∧ w'.cell? ⟨q, 2, none⟩ = some (.int .i64 t) ∧ w'.cell? ⟨q, 3, none⟩ = some (.int .i64 f)) (by kernel_rfl) (⟨p0, p1, p2, p3⟩) (fun hHeld => ?_)
    refine take_L [0] (i := 0) (d := some 26) (v := ?_) (by kernel_rfl) (by kernel_rfl) (by kernel_rfl) (by kernel_rfl) rfl rfl (by kernel_rfl) (by kernel_rfl) (by kernel_rfl) (fun _ _ _ h => h) (Or.inl ⟨by rfl, ?_⟩) (by assumption) ?_
    rotate_left
    · (intro w hSw; (try dsimp only at hSw); go_simp; (try rw [if_neg (by omega)]); (try (with_reducible rfl)))
    simp only [Act.put, List.setIfInBounds_toArray, List.set_cons_zero, List.set_cons_succ]
    refine take_F (i := 1) (d := some 27) (v := ?_) (by kernel_rfl) (by kernel_rfl) rfl rfl (by kernel_rfl) (by kernel_rfl) (by kernel_rfl) (fun _ _ _ h => h) (Or.inl ⟨by rfl, ?_⟩) (by assumption) ?_
    rotate_left
    · (intro w hSw; (try dsimp only at hSw); go_simp; (try rw [if_neg (by omega)]); (try (with_reducible rfl)))
    simp only [Act.put, List.setIfInBounds_toArray, List.set_cons_zero, List.set_cons_succ]
    refine take_F (i := 2) (d := some 28) (v := ?_) (by kernel_rfl) (by kernel_rfl) rfl rfl (by kernel_rfl) (by kernel_rfl) (by kernel_rfl) (fun _ _ _ h => h) (Or.inl ⟨by rfl, ?_⟩) (by assumption) ?_
    rotate_left
    · (intro w hSw; (try dsimp only at hSw); go_simp; (try rw [if_neg (by omega)]); (try (with_reducible rfl)))
    simp only [Act.put, List.setIfInBounds_toArray, List.set_cons_zero, List.set_cons_succ]
    refine take_F (i := 3) (d := some 29) (v := ?_) (by kernel_rfl) (by kernel_rfl) rfl rfl (by kernel_rfl) (by kernel_rfl) (by kernel_rfl) (fun _ _ _ h => h) (Or.inl ⟨by rfl, ?_⟩) (by assumption) ?_
    rotate_left
    · (intro w hSw; (try dsimp only at hSw); go_simp; (try rw [if_neg (by omega)]); (try (with_reducible rfl)))
    simp only [Act.put, List.setIfInBounds_toArray, List.set_cons_zero, List.set_cons_succ]
    refine take_F (i := 5) (d := some 31) (v := ?_) (by kernel_rfl) (by kernel_rfl) rfl rfl (by kernel_rfl) (by kernel_rfl) (by kernel_rfl) (fun _ _ _ h => h) (Or.inl ⟨by rfl, ?_⟩) (by assumption) ?_
    rotate_left
    · (intro w hSw; (try dsimp only at hSw); go_simp; (try rw [if_neg (by omega)]); (try (with_reducible rfl)))
    simp only [Act.put, List.setIfInBounds_toArray, List.set_cons_zero, List.set_cons_succ]
    refine call_L (i := 4) (d := (some 30)) rfl rfl (by kernel_rfl) (fun Kq hKq => ?_)
    go_simp
    go_at_call 107
    refine (HM1.out _).mono ?_; rintro e w7 ⟨rfl, rfl⟩
    (try go_wp2_with fail)
    refine hKq.out _ _ (⟨p0, p1, p2, p3⟩) (fun hHeld => ?_)
    clear hKq Kq
    (try simp only [Act.put, List.setIfInBounds_toArray, List.set_cons_zero, List.set_cons_succ])
    refine call_L (i := 6) (d := (some 32)) rfl rfl (by kernel_rfl) (fun Kq hKq => ?_)
    go_simp
    go_at_call 108
    refine HP.out.mono ?_; rintro e w7 ⟨z, rfl, ⟨hz0', hz1, _⟩, hs7, hg7⟩
    have hz100 := hz1 (by omega)
    have HN7 := Lib.hid (HN6.out.draw hs7 (grown_undrew hg7))
    obtain ⟨⟨m0, m1, m2, m3⟩, _⟩ := blk4 HN7.out.hq
    dsimp only at m0 m1 m2 m3
    obtain ⟨⟨r0, r1, r2, r3⟩, s0, s1, s2, s3⟩ := blk4 HN7.out.hr
    have HD := Lib.hid (HN7.out.done ⟨kk, b, t, f⟩)
    have hwz : IntKind.i64.wrap (mx + z) = mx + z := IntWalk.i64_in _ (by omega)
    have HM3 := Lib.hid (HM2.out (mx + z))
    generalize (if 100000 < mx + z then (100000 : Int) else mx + z) = zt at *
    clear hs7 hg7 p0 p1 p2 p3 HN6 HP HM1 HM2
    (try go_wp2_with fail)
    refine hKq.out _ _ (⟨m0, m1, m2, m3⟩) (fun hHeld => ?_)
    clear hKq Kq
    (try simp only [Act.put, List.setIfInBounds_toArray, List.set_cons_zero, List.set_cons_succ])
    refine take_F (i := 7) (d := some 33) (v := ?_) (by kernel_rfl) (by kernel_rfl) rfl rfl (by kernel_rfl) (by kernel_rfl) (by kernel_rfl) (fun _ _ _ h => h) (Or.inl ⟨by rfl, ?_⟩) (by assumption) ?_
    rotate_left
    · (intro w hSw; (try dsimp only at hSw); go_simp; (try rw [if_neg (by omega)]); (try (with_reducible rfl)))
    simp only [Act.put, List.setIfInBounds_toArray, List.set_cons_zero, List.set_cons_succ]
    refine call_L (i := 8) (d := (some 34)) rfl rfl (by kernel_rfl) (fun Kq hKq => ?_)
    go_simp
    go_at_call 106
    refine (HM3.out _).mono ?_; rintro e w8 ⟨rfl, rfl⟩
    (try go_wp2_with fail)
    refine hKq.out _ _ (⟨m0, m1, m2, m3⟩) (fun hHeld => ?_)
    clear hKq Kq
    (try simp only [Act.put, List.setIfInBounds_toArray, List.set_cons_zero, List.set_cons_succ])
    refine late_L (i := 9) (d := none) (by kernel_rfl) rfl rfl (by kernel_rfl) (fun Kq hKq => ?_)
    go_simp
    refine hKq.out _ _ ?_
    clear hKq Kq
    refine late_L (i := 10) (d := (some 3)) (by kernel_rfl) rfl rfl (by kernel_rfl) (fun Kq hKq => ?_)
    go_simp
    refine hKq.out _ _ ?_
    clear hKq Kq
    refine late_L (i := 11) (d := (some 4)) (by kernel_rfl) rfl rfl (by kernel_rfl) (fun Kq hKq => ?_)
    go_simp
    refine hKq.out _ _ ?_
    clear hKq Kq
    refine late_L (i := 12) (d := (some 5)) (by kernel_rfl) rfl rfl (by kernel_rfl) (fun Kq hKq => ?_)
    go_simp
    refine hKq.out _ _ ?_
    clear hKq Kq
    refine done_L (by kernel_rfl) ?_ _
    refine NoPanic.normal ?_
    go_wp2_with fail
    obtain ⟨⟨k0, k1, k2, k3⟩, hbz⟩ := HD.out
    dsimp only at k0 k1 k2 k3
    refine bodyPost_ret (v := .tuple #[aggDm ⟨kk, b, t, f⟩, .int .i64 x, .int .i64 y, .int .i64 zt]) (by simp [results, Try.results10, go_sem, k0, k1, k2, k3]) rfl ?_
    first | exact ⟨⟨kk, b, t, f⟩, x, y, zt, rfl, hbz.drew⟩ | exact ⟨⟨kk, b, t, f⟩, x, y, zt, rfl, hbz⟩
end Go.Proofs.Ythemffbkkhaaoaa
/- Drums: plain facts of the times; a row of numbers beside a draw from the code. -/
namespace Go.Proofs.Ythemffbkkhaaoaa
open Go.RowKit Go.Joins

theorem ceil_le {a g t : Int} (hg : 0 < g) (h : a ≤ g * t) : (a + g - 1) / g ≤ t := by
  have h1 : a + g - 1 < (t + 1) * g := by
    have : (t + 1) * g = g * t + g := by rw [Int.add_mul, Int.one_mul, Int.mul_comm]
    omega
  have h2 := Int.ediv_lt_of_lt_mul hg h1
  omega
theorem timeD_bd {d : Dm} {n j : Nat} (hok : okDm d = true) (hn : (n : Int) < d.b) (hj : j < n) : 1 ≤ timeD d n j ∧ timeD d n j ≤ d.t := by
  obtain ⟨hk, b1, b2, b3, b4, hf3, hf1⟩ := okDm_bd hok
  unfold timeD
  rcases hk with h | h | h
  · have hf := hf1 (by omega)
    rw [if_pos h]; omega
  · have hf := hf1 (by omega)
    rw [if_neg (by omega), if_pos h]; omega
  · rw [if_neg (by omega), if_neg (by omega)]
    have hn0 : (0 : Int) < (n : Int) := by omega
    have h1 : ((j : Int) + 1) * d.t ≤ (n : Int) * d.t := Int.mul_le_mul_of_nonneg_right (by omega) (by omega)
    have h2 : 1 * d.t ≤ ((j : Int) + 1) * d.t := Int.mul_le_mul_of_nonneg_right (by omega) (by omega)
    refine ⟨?_, ceil_le hn0 h1⟩
    have h3 := Int.le_ediv_of_mul_le (a := 1) (b := ((j : Int) + 1) * d.t + n - 1) hn0 (by omega)
    exact h3
theorem timeD_up {d : Dm} {n j : Nat} (hok : okDm d = true) (hn : (n : Int) < d.b) (hj : j + 1 < n) : timeD d n j < timeD d n (j + 1) := by
  obtain ⟨hk, b1, b2, b3, b4, hf3, hf1⟩ := okDm_bd hok
  unfold timeD
  rcases hk with h | h | h
  · rw [if_pos h, if_pos h]; push_cast; omega
  · rw [if_neg (by omega), if_pos h, if_neg (by omega), if_pos h]; push_cast; omega
  · rw [if_neg (by omega), if_neg (by omega), if_neg (by omega), if_neg (by omega)]
    have hn0 : (0 : Int) < (n : Int) := by omega
    have e : ((((j + 1 : Nat) : Int) + 1) * d.t) = ((j : Int) + 1) * d.t + d.t := by push_cast; rw [Int.add_mul]; omega
    rw [e]
    have h4 : (((j : Int) + 1) * d.t + n - 1 + n * 1) / (n : Int) = (((j : Int) + 1) * d.t + n - 1) / n + 1 := Int.add_mul_ediv_left _ _ (by omega)
    have h5 : (((j : Int) + 1) * d.t + n - 1 + n * 1) / (n : Int) ≤ (((j : Int) + 1) * d.t + d.t + n - 1) / n := Int.ediv_le_ediv hn0 (by omega)
    omega
theorem timeD_last {d : Dm} {n : Nat} (hok : okDm d = true) (hn : (n : Int) < d.b) : ∀ j, j < n → timeD d n j ≤ d.t := fun j hj => (timeD_bd hok hn hj).2
/-- a whole turn makes as many steps as the digit -/
theorem steps_turn {d : Dm} {n : Nat} (hok : okDm d = true) (hn : (n : Int) < d.b) : stepsD d n d.t = n := by
  obtain ⟨_, b1, b2, b3, b4, _⟩ := okDm_bd hok
  unfold stepsD
  rw [Int.ediv_self (by omega), Int.emod_self]
  have h : ∀ m, m ≤ n → cntT (timeD d n) 0 m = 0 := by
    intro m
    induction m with
    | zero => intro _; rfl
    | succ m ih =>
      intro hm
      rw [cntT_no (by have := (timeD_bd hok hn (j := m) (by omega)).1; omega), ih (by omega)]
  rw [h n (Nat.le_refl _)]
  omega
theorem cntT_mono {T : Nat → Int} {a b : Int} (h : a ≤ b) : ∀ n, cntT T a n ≤ cntT T b n := by
  intro n
  induction n with
  | zero => exact Nat.le_refl _
  | succ n ih =>
    unfold cntT
    by_cases h1 : T n ≤ a
    · rw [if_pos h1, if_pos (by omega)]; omega
    · rw [if_neg h1]; split <;> omega
/-- steps grow with the time -/
theorem steps_mono {d : Dm} {n : Nat} {a b : Int} (hok : okDm d = true) (h0 : 0 ≤ a) (hab : a ≤ b) : stepsD d n a ≤ stepsD d n b := by
  obtain ⟨_, b1, b2, b3, b4, _⟩ := okDm_bd hok
  have ht : 0 < d.t := by omega
  unfold stepsD
  have hq : a / d.t ≤ b / d.t := Int.ediv_le_ediv ht hab
  have hca := cntT_le (timeD d n) (a % d.t) n
  rcases Int.lt_or_eq_of_le hq with hlt | heq
  · have h1 : (a / d.t + 1) * (n : Int) ≤ b / d.t * (n : Int) := Int.mul_le_mul_of_nonneg_right (by omega) (by omega)
    rw [Int.add_mul, Int.one_mul] at h1
    omega
  · have e1 := Int.emod_def a d.t
    have e2 := Int.emod_def b d.t
    rw [← heq] at e2 ⊢
    have h2 : a % d.t ≤ b % d.t := by rw [e1, e2]; omega
    have h3 := cntT_mono (T := timeD d n) h2 n
    omega
theorem sameF_self (n : Nat) (f : Nat → Int) : sameF n n f f = true := sameF_yes (fun _ _ => rfl)
end Go.Proofs.Ythemffbkkhaaoaa
/- Abaci: plain facts. -/
namespace Go.Proofs.Ythemffbkkhaaoaa

structure Ab where
  u : Int
  l : Int
  w : Int
  rods : List (Int × Int)
def kindAb (a : Ab) : Bool := inB a.u 0 4 && inB a.l 1 12 && inB a.w 1 10 && decide (a.w - 1 ≤ a.l) && decide (9 ≤ a.u * a.w + a.l)
def rodOk (a : Ab) (r : Int × Int) : Bool := inB r.1 0 a.u && inB r.2 0 a.l
def okAb (a : Ab) : Bool := kindAb a && a.rods.all (rodOk a) && inB a.rods.length 1 10
/-- what a rod shows -/
def shownR (w : Int) (r : Int × Int) : Int := r.1 * w + r.2
/-- the value of rods, the first the least -/
def valR (w : Int) : List (Int × Int) → Int
  | [] => 0
  | r :: rs => 10 * valR w rs + shownR w r
/-- the plain setting of a rod -/
def plainRodA (u w d : Int) : Int × Int := (min u (d / w), d - min u (d / w) * w)
/-- n rods in the plain way; what is left of the value is value / 10 ^ n -/
def plainRs (u w : Int) : Nat → Int → List (Int × Int)
  | 0, _ => []
  | n + 1, v => plainRodA u w (v % 10) :: plainRs u w n (v / 10)
def leftV : Nat → Int → Int
  | 0, v => v
  | n + 1, v => leftV n (v / 10)
theorem plainRs_len (u w : Int) : ∀ n v, (plainRs u w n v).length = n
  | 0, _ => rfl
  | n + 1, v => by show (plainRs u w n (v / 10)).length + 1 = n + 1; rw [plainRs_len u w n]
theorem shown_plain (u w d : Int) : shownR w (plainRodA u w d) = d := by
  unfold shownR plainRodA
  dsimp only
  omega
theorem val_plain (u w : Int) : ∀ (n : Nat) (v : Int), leftV n v = 0 → valR w (plainRs u w n v) = v
  | 0, v, h => by
    show (0 : Int) = v
    exact h.symm
  | n + 1, v, h => by
    show 10 * valR w (plainRs u w n (v / 10)) + shownR w (plainRodA u w (v % 10)) = v
    rw [val_plain u w n (v / 10) h, shown_plain]
    omega
theorem kind_bd {a : Ab} (h : kindAb a = true) : 0 ≤ a.u ∧ a.u ≤ 4 ∧ 1 ≤ a.l ∧ a.l ≤ 12 ∧ 1 ≤ a.w ∧ a.w ≤ 10 ∧ a.w - 1 ≤ a.l ∧ 9 ≤ a.u * a.w + a.l := by
  unfold kindAb at h
  simp only [Bool.and_eq_true, decide_eq_true_eq] at h
  obtain ⟨⟨⟨⟨h1, h2⟩, h3⟩, h4⟩, h5⟩ := h
  have := inB_bd h1; have := inB_bd h2; have := inB_bd h3
  omega
/-- a plain rod is a rod of the abacus -/
theorem plain_ok {a : Ab} (h : kindAb a = true) {d : Int} (d0 : 0 ≤ d) (d9 : d ≤ 9) : rodOk a (plainRodA a.u a.w d) = true := by
  obtain ⟨h1, h2, h3, h4, h5, h6, h7, h8⟩ := kind_bd h
  have q0 : 0 ≤ d / a.w := Int.ediv_nonneg d0 (by omega)
  have hm := Int.mul_ediv_add_emod d a.w
  have r0 := Int.emod_nonneg d (show a.w ≠ 0 by omega)
  have r1 := Int.emod_lt_of_pos d (show 0 < a.w by omega)
  have hc := Int.mul_comm a.w (d / a.w)
  unfold rodOk plainRodA inB
  simp only [Bool.and_eq_true, decide_eq_true_eq]
  by_cases hle : d / a.w ≤ a.u
  · rw [Int.min_eq_right hle]
    omega
  · have hm2 : a.u * a.w ≤ d / a.w * a.w := Int.mul_le_mul_of_nonneg_right (by omega) (by omega)
    rw [Int.min_eq_left (by omega)]
    omega
end Go.Proofs.Ythemffbkkhaaoaa
/- Abaci: rows of rods. -/
namespace Go.Proofs.Ythemffbkkhaaoaa
open Go.RowKit Go.Joins

abbrev cellsRd (r : Int × Int) : List Value := [.int .i64 r.1, .int .i64 r.2]
abbrev rodsC (rs : List (Int × Int)) : List Value := rs.flatMap cellsRd
abbrev aggAb (u l w : Int) (v : Value) : Value := .agg #[.int .i64 u, .int .i64 l, .int .i64 w, v]
theorem rodsC_len (rs : List (Int × Int)) : (rodsC rs).length = rs.length * 2 := by
  induction rs with
  | nil => rfl
  | cons r rs ih => show (cellsRd r ++ rodsC rs).length = _; rw [List.length_append, ih]; simp; omega
theorem rodsC_get : ∀ (rs : List (Int × Int)) (i : Nat) (hi : i < rs.length), (rodsC rs)[i * 2]? = some (.int .i64 (rs[i]).1) ∧ (rodsC rs)[i * 2 + 1]? = some (.int .i64 (rs[i]).2)
  | r :: rs, 0, _ => ⟨rfl, rfl⟩
  | r :: rs, i + 1, hi => by
    have h := rodsC_get rs i (by simpa using hi)
    have e : rodsC (r :: rs) = .int .i64 r.1 :: .int .i64 r.2 :: rodsC rs := rfl
    rw [e, show (i + 1) * 2 = i * 2 + 1 + 1 by omega]
    exact h
/-- the reading of rods -/
theorem rods_at {w : World} {B c n : Nat} {A : Option Addr} {rs : List (Int × Int)} (h : Rd w B (.slice A n c) rs.length 2 (rodsC rs)) (hn : 0 < rs.length) :
    ∃ b off, A = some ⟨b, off, none⟩ ∧ b < B ∧ ∀ i (hi : i < rs.length), w.cell? ⟨b, off + i * 2, none⟩ = some (.int .i64 (rs[i]).1) ∧ w.cell? ⟨b, off + i * 2 + 1, none⟩ = some (.int .i64 (rs[i]).2) := by
  obtain ⟨_, A', c', hv, hc⟩ := h
  obtain ⟨b, off, hA, hb, hcc⟩ := hc (by omega)
  injection hv with e1 e2 e3
  subst e1
  refine ⟨b, off, hA, hb, fun i hi => ?_⟩
  obtain ⟨g1, g2⟩ := rodsC_get rs i hi
  exact ⟨hcc _ _ g1, hcc _ _ g2⟩
end Go.Proofs.Ythemffbkkhaaoaa
/- Abaci: valid abaci, the cases. -/
namespace Go.Proofs.Ythemffbkkhaaoaa

theorem kindAb_cases (u l w : Int) (rs : List (Int × Int)) : (inB u 0 4 = false ∧ kindAb ⟨u, l, w, rs⟩ = false) ∨ (inB u 0 4 = true ∧ inB l 1 12 = false ∧ kindAb ⟨u, l, w, rs⟩ = false) ∨
    (inB u 0 4 = true ∧ inB l 1 12 = true ∧ inB w 1 10 = false ∧ kindAb ⟨u, l, w, rs⟩ = false) ∨
    (inB u 0 4 = true ∧ inB l 1 12 = true ∧ inB w 1 10 = true ∧ l < w - 1 ∧ kindAb ⟨u, l, w, rs⟩ = false) ∨
    (inB u 0 4 = true ∧ inB l 1 12 = true ∧ inB w 1 10 = true ∧ ¬ l < w - 1 ∧ u * w + l < 9 ∧ kindAb ⟨u, l, w, rs⟩ = false) ∨
    (inB u 0 4 = true ∧ inB l 1 12 = true ∧ inB w 1 10 = true ∧ ¬ l < w - 1 ∧ ¬ u * w + l < 9 ∧ kindAb ⟨u, l, w, rs⟩ = true) := by
  unfold kindAb
  cases inB u 0 4 <;> cases inB l 1 12 <;> cases inB w 1 10 <;> simp
  by_cases h1 : l < w - 1
  · left
    exact ⟨h1, by omega⟩
  · right
    by_cases h2 : u * w + l < 9
    · left
      exact ⟨by omega, h2, by omega⟩
    · right
      exact ⟨by omega, by omega, by omega, by omega⟩
theorem okAb_kind {a : Ab} (h : kindAb a = false) : okAb a = false := by unfold okAb; rw [h]; rfl
theorem okAb_rest {a : Ab} (h : kindAb a = true) : okAb a = (a.rods.all (rodOk a) && inB a.rods.length 1 10) := by unfold okAb; rw [h]; simp
theorem all_take {p : Int × Int → Bool} {rs : List (Int × Int)} {k : Nat} (hk : k < rs.length) (h : (rs.take k).all p = true) (hp : p rs[k] = true) : (rs.take (k + 1)).all p = true := by
  rw [List.take_succ_eq_append_getElem hk, List.all_append, h]
  simpa using hp
theorem all_no {p : Int × Int → Bool} {rs : List (Int × Int)} {k : Nat} (hk : k < rs.length) (hp : p rs[k] = false) : rs.all p = false := by
  rw [List.all_eq_false]
  exact ⟨rs[k], List.getElem_mem hk, by rw [hp]; simp⟩
end Go.Proofs.Ythemffbkkhaaoaa
/- Abaci: l03Kind. -/
namespace Go.Proofs.Ythemffbkkhaaoaa
open Go.RowKit Go.Joins

/-- an abacus's cells -/
structure AbAt (W : World) (q : Nat) (u l w : Int) (v : Value) : Prop where
  c0 : W.cell? ⟨q, 0, none⟩ = some (.int .i64 u)
  c1 : W.cell? ⟨q, 1, none⟩ = some (.int .i64 l)
  c2 : W.cell? ⟨q, 2, none⟩ = some (.int .i64 w)
  c3 : W.cell? ⟨q, 3, none⟩ = some v
theorem AbAt.drewN {W : World} {q : Nat} {u l w : Int} {v : Value} (h : AbAt W q u l w v) (n : Nat) : AbAt (W.drewN n) q u l w v := ⟨h.1, h.2, h.3, h.4⟩
theorem AbAt.below {W W' : World} {q B : Nat} {u l w : Int} {v : Value} (h : AbAt W q u l w v) (hq : q < B) (hw : Below B W W') : AbAt W' q u l w v :=
  ⟨(hw.cell (p := ⟨q, 0, none⟩) hq).trans h.c0, (hw.cell (p := ⟨q, 1, none⟩) hq).trans h.c1, (hw.cell (p := ⟨q, 2, none⟩) hq).trans h.c2, (hw.cell (p := ⟨q, 3, none⟩) hq).trans h.c3⟩
set_option maxRecDepth 100000 in
set_option maxHeartbeats 1600000 in
theorem l03Kind_any (q : Nat) (u l w : Int) (v : Value) (rs : List (Int × Int)) (W : World) (h : AbAt W q u l w v) : Calls Try.prog 200 #[.pointer (some ⟨q, 0, none⟩)] W fun e w' => e = .returned (.bool (kindAb ⟨u, l, w, rs⟩)) ∧ ∃ n, w' = W.drewN n := by
  have hk := kindAb_cases u l w rs
  obtain ⟨c0, c1, c2, c3⟩ := h
  have H1 := Lib.hid (fun wx => flipC (l00In_any u 0 4 wx))
  have H2 := Lib.hid (fun wx => flipC (l00In_any l 1 12 wx))
  have H3 := Lib.hid (fun wx => flipC (l00In_any w 1 10 wx))
  generalize kindAb ⟨u, l, w, rs⟩ = K at *
  rcases hk with ⟨g1, rfl⟩ | ⟨g1, g2, rfl⟩ | ⟨g1, g2, g3, rfl⟩ | ⟨g1, g2, g3, g4, rfl⟩ | ⟨g1, g2, g3, g4, g5, rfl⟩ | ⟨g1, g2, g3, g4, g5, rfl⟩
  · rw [g1] at H1
    clear g1
    go_enter Try.func200, Try.ntmps200
    go_wp2_with fail
    refine (H1.out _).mono ?_; rintro e w1 ⟨rfl, rfl⟩
    go_wp2_with fail
    go_ret
    exact ⟨rfl, 0, rfl⟩
  · rw [g1] at H1
    rw [g2] at H2
    clear g1 g2
    go_enter Try.func200, Try.ntmps200
    go_wp2_with fail
    refine (H1.out _).mono ?_; rintro e w1 ⟨rfl, rfl⟩
    go_wp2_with fail
    refine (H2.out _).mono ?_; rintro e w1 ⟨rfl, rfl⟩
    go_wp2_with fail
    go_ret
    exact ⟨rfl, 0, rfl⟩
  · rw [g1] at H1
    rw [g2] at H2
    rw [g3] at H3
    clear g1 g2 g3
    go_enter Try.func200, Try.ntmps200
    go_wp2_with fail
    refine (H1.out _).mono ?_; rintro e w1 ⟨rfl, rfl⟩
    go_wp2_with fail
    refine (H2.out _).mono ?_; rintro e w1 ⟨rfl, rfl⟩
    go_wp2_with fail
    refine (H3.out _).mono ?_; rintro e w1 ⟨rfl, rfl⟩
    go_wp2_with fail
    go_ret
    exact ⟨rfl, 0, rfl⟩
  · obtain ⟨u0, u4⟩ := inB_bd g1
    obtain ⟨l0, l4⟩ := inB_bd g2
    obtain ⟨w0, w4⟩ := inB_bd g3
    have hw1 : IntKind.i64.wrap (w - 1) = w - 1 := IntWalk.i64_in _ (by omega)
    have p0 : 0 ≤ u * w := Int.mul_nonneg u0 (by omega)
    have p1 : u * w ≤ 4 * w := Int.mul_le_mul_of_nonneg_right u4 (by omega)
    have hw2 : IntKind.i64.wrap (u * w) = u * w := IntWalk.i64_in _ (by omega)
    have hw3 : IntKind.i64.wrap (u * w + l) = u * w + l := IntWalk.i64_in _ (by omega)
    rw [g1] at H1
    rw [g2] at H2
    rw [g3] at H3
    clear g1 g2 g3
    have k1 : decide (w - 1 ≤ l) = false := decide_eq_false (by omega)
    go_enter Try.func200, Try.ntmps200
    go_wp2_with fail
    refine (H1.out _).mono ?_; rintro e w1 ⟨rfl, rfl⟩
    go_wp2_with fail
    refine (H2.out _).mono ?_; rintro e w1 ⟨rfl, rfl⟩
    go_wp2_with fail
    refine (H3.out _).mono ?_; rintro e w1 ⟨rfl, rfl⟩
    go_wp2_with fail
    go_quiet (fail)
    go_wp2_with fail
    go_ret
    exact ⟨rfl, _, rfl⟩
  · obtain ⟨u0, u4⟩ := inB_bd g1
    obtain ⟨l0, l4⟩ := inB_bd g2
    obtain ⟨w0, w4⟩ := inB_bd g3
    have hw1 : IntKind.i64.wrap (w - 1) = w - 1 := IntWalk.i64_in _ (by omega)
    have p0 : 0 ≤ u * w := Int.mul_nonneg u0 (by omega)
    have p1 : u * w ≤ 4 * w := Int.mul_le_mul_of_nonneg_right u4 (by omega)
    have hw2 : IntKind.i64.wrap (u * w) = u * w := IntWalk.i64_in _ (by omega)
    have hw3 : IntKind.i64.wrap (u * w + l) = u * w + l := IntWalk.i64_in _ (by omega)
    rw [g1] at H1
    rw [g2] at H2
    rw [g3] at H3
    clear g1 g2 g3
    have k1 : w - 1 ≤ l := by omega
    have k2 : decide (9 ≤ u * w + l) = false := decide_eq_false (by omega)
    go_enter Try.func200, Try.ntmps200
    go_wp2_with fail
    refine (H1.out _).mono ?_; rintro e w1 ⟨rfl, rfl⟩
    go_wp2_with fail
    refine (H2.out _).mono ?_; rintro e w1 ⟨rfl, rfl⟩
    go_wp2_with fail
    refine (H3.out _).mono ?_; rintro e w1 ⟨rfl, rfl⟩
    go_wp2_with fail
    go_quiet (fail)
    go_wp2_with fail
    go_ret
    exact ⟨rfl, _, rfl⟩
  · obtain ⟨u0, u4⟩ := inB_bd g1
    obtain ⟨l0, l4⟩ := inB_bd g2
    obtain ⟨w0, w4⟩ := inB_bd g3
    have hw1 : IntKind.i64.wrap (w - 1) = w - 1 := IntWalk.i64_in _ (by omega)
    have p0 : 0 ≤ u * w := Int.mul_nonneg u0 (by omega)
    have p1 : u * w ≤ 4 * w := Int.mul_le_mul_of_nonneg_right u4 (by omega)
    have hw2 : IntKind.i64.wrap (u * w) = u * w := IntWalk.i64_in _ (by omega)
    have hw3 : IntKind.i64.wrap (u * w + l) = u * w + l := IntWalk.i64_in _ (by omega)
    rw [g1] at H1
    rw [g2] at H2
    rw [g3] at H3
    clear g1 g2 g3
    have k1 : w - 1 ≤ l := by omega
    have k2 : 9 ≤ u * w + l := by omega
    go_enter Try.func200, Try.ntmps200
    go_wp2_with fail
    refine (H1.out _).mono ?_; rintro e w1 ⟨rfl, rfl⟩
    go_wp2_with fail
    refine (H2.out _).mono ?_; rintro e w1 ⟨rfl, rfl⟩
    go_wp2_with fail
    refine (H3.out _).mono ?_; rintro e w1 ⟨rfl, rfl⟩
    go_wp2_with fail
    go_quiet (fail)
    go_wp2_with fail
    go_ret
    exact ⟨rfl, _, rfl⟩
end Go.Proofs.Ythemffbkkhaaoaa
