/- Merged texts: One, Dr1, U6, Pc6, Pc7, Pc8, Pc9, Pc10, Pc11, Pc12, Pc13, Pc14, Pc15, Pc16, Pc17, Pc18, Pc19. -/
import Derived.Test.YtalalegjeegocaaGLawStocks2
import Derived.Test.YtalalegjeegocaaGLawStocks1
/- The draw 'one'. -/
namespace Go.Proofs.Ytalalegjeegocaa
open Go.RowKit Go.Joins

set_option maxHeartbeats 400000 in
theorem one_any (B g k : Nat) (bs : List UInt8) (n : Int) (w : World) (h : SrcAt w B g k bs) (hk : k < 4611686018427387900) :
    Calls Try.prog 53 #[.pointer (some ⟨g, 0, none⟩), .int .i64 n] w (DrawnB w B g (k + 2) bs) := by
  have H := Lib.hid h; clear h
  go_enter Try.func53, Try.ntmps53
  go_wp2_with fail
  refine (pick_any B g k bs n _ H.out (by omega)).mono ?_; rintro e w1 ⟨x, rfl, _, hs1, hg1⟩
  have Hs1 := Lib.hid hs1; clear hs1
  go_wp2_with fail
  go_ret
  exact ⟨_, rfl, Hs1.out, hg1⟩

end Go.Proofs.Ytalalegjeegocaa
/- Draws: one of some numbers is drawn. -/
namespace Go.Proofs.Ytalalegjeegocaa
open Go.RowKit Go.Joins

set_option maxHeartbeats 400000 in
theorem among_in (B g k m : Nat) (l : List Int) (bs : List UInt8) (w : World) (h : SrcAt w B g k bs) (hk : k < 4611686018427387800) (hm : l.length = m) (hm2 : 2 ≤ m) (hm3 : m ≤ 200) :
    Calls Try.prog 54 #[.pointer (some ⟨g, 0, none⟩), .slice (some ⟨w.heap.size, 0, none⟩) m m] (w.alloc (.cells (l.map (Value.int .i64)).toArray 2)) fun e w' => ∃ x : Int, x ∈ l ∧ e = .returned (.int .i64 x) ∧ SrcAt w' B g (k + 2) bs ∧ w.grownBy w' (some g) := by
  have hlt := h.lt
  have hbk := (Below.refl w.heap.size w).alloc (Nat.le_refl _) (.cells (l.map (Value.int .i64)).toArray 2)
  have hnc : ∀ i (hi : i < l.length), (w.alloc (.cells (l.map (Value.int .i64)).toArray 2)).cell? ⟨w.heap.size, i, none⟩ = some (.int .i64 l[i]) := fun i hi => by
    have := new_cells w (l.map (Value.int .i64)).toArray 2 i (.int .i64 l[i]) (by simp [hi])
    rwa [show (⟨w.heap.size, 0, none⟩ : Addr).add i = ⟨w.heap.size, i, none⟩ by unfold Addr.add; split <;> simp_all] at this
  have H := Lib.hid (h.below hbk); clear h
  have Hc := Lib.hid hnc; clear hnc
  have Hg := Lib.hid (fun w' (h : (w.alloc (.cells (l.map (Value.int .i64)).toArray 2)).grownBy w' (some g)) => grown_from_alloc h)
  have hsz : w.heap.size < (w.alloc (.cells (l.map (Value.int .i64)).toArray 2)).heap.size := by simp
  have hm4 : (m : Int) ≤ 200 := by omega
  clear hbk
  generalize w.alloc (.cells (l.map (Value.int .i64)).toArray 2) = wl at *
  go_enter Try.func54, Try.ntmps54
  go_wp2_with fail
  refine (pick_any B g k bs m _ H.out (by omega)).mono ?_; rintro e w1 ⟨x, rfl, ⟨hx0, hx1, _⟩, hs1, hg1⟩
  have Hs1 := Lib.hid hs1; clear hs1
  obtain ⟨i, rfl⟩ : ∃ i : Nat, x = i := ⟨x.toNat, by omega⟩
  have hx2 := hx1 (by omega)
  have hi : i < l.length := by omega
  have hcell := (World.cell?_of_block (a := ⟨w.heap.size, i, none⟩) (hg1.block w.heap.size hsz (fun e => by injection e; omega))).trans (Hc.out i hi)
  have hg2 := Hg.out _ hg1
  have hin := Lib.hid (show l[i] ∈ l from List.getElem_mem hi)
  generalize l[i] = z at *
  clear hx1 hg1
  go_wp2_with fail
  go_ret
  exact ⟨z, hin.out, rfl, Hs1.out, hg2⟩
end Go.Proofs.Ytalalegjeegocaa
/- Errors of tables, part 6: draws. -/
namespace Go.Proofs.Ytalalegjeegocaa
open Go.RowKit Go.Joins

theorem own_gs {wr w2 : World} {gs B n sz : Nat} {e : TypeId} {v : Value} {xs : List Value} (h : wr.ownsRow B e sz v n xs) (h2 : wr.grownBy w2 (some gs)) (hgs : gs < B) : w2.ownsRow B e sz v n xs :=
  h.kept h2 (.inr (fun e => by have := (h.lt gs e).1; omega))
theorem grown_own {w w1 w2 : World} {g n sz : Nat} {e : TypeId} {v : Value} {xs : List Value} (h : w.grownBy w1 (some g)) (ho : w1.ownsRow w.heap.size e sz v n xs) (h2 : w1.grownBy w2 v.ownBlock) : w.grownBy w2 (some g) :=
  ⟨h2.os.trans h.os, h2.tape.trans h.tape, h2.output.trans h.output, Nat.le_trans h.size h2.size, fun i hi hne => (h2.block i (Nat.lt_of_lt_of_le hi h.size) (fun e => by have := (ho.lt i e.symm).1; omega)).trans (h.block i hi hne)⟩
theorem grown_set (w' : World) (g i : Nat) (v : Value) : w'.grownBy (w'.setCell ⟨g, i, none⟩ v) (some g) :=
  ⟨rfl, rfl, rfl, by simp [World.setCell], fun i _ hi => Below.heap_setCell _ _ _ _ (fun e => hi (by rw [e]))⟩
theorem grown_refl (w : World) (r : Option Nat) : w.grownBy w r := ⟨rfl, rfl, rfl, Nat.le_refl _, fun _ _ _ => rfl⟩

def Drawn2 (w : World) (B g k : Nat) (bs : List UInt8) (e : Ending) (w' : World) : Prop :=
  ∃ x y, e = .returned (.tuple #[.int .i64 x, .int .i64 y]) ∧ SrcAt w' B g k bs ∧ w.grownBy w' (some g)
/-- a list is drawn -/
def DrawnL (M : Nat) (w : World) (B g k : Nat) (bs : List UInt8) (e : Ending) (w' : World) : Prop :=
  ∃ v n f, e = .returned v ∧ n ≤ M ∧ w'.ownsRow w.heap.size 2 1 v n (tab n f) ∧ SrcAt w' B g k bs ∧ w.grownBy w' (some g)
theorem tab_more (n : Nat) (f : Nat → Int) (x : Int) : ∃ f', tab (n + 1) f' = tab n f ++ [.int .i64 x] := ⟨fun i => if i < n then f i else x, by
  rw [tab_succ, if_neg (by omega)]
  congr 1
  exact tab_congr fun i hi => by rw [if_pos hi]⟩
end Go.Proofs.Ytalalegjeegocaa
/- Inventories, part 6: the pieces that belong to a piece, both sides. -/
namespace Go.Proofs.Ytalalegjeegocaa
open Go.RowKit Go.Joins

/-- numbers as cells -/
def natV (l : List Nat) : List Value := l.map fun (i : Nat) => .int .i64 (i : Int)
theorem natV_snoc (l : List Nat) (x : Nat) : natV (l ++ [x]) = natV l ++ [.int .i64 (x : Int)] := by simp [natV]
theorem natV_len (l : List Nat) : (natV l).length = l.length := by simp [natV]
def uL (xs : List Pc) (k n : Nat) : List Nat := (List.range n).filter fun i => decide (k < i) && und xs k i
theorem uL_yes {xs : List Pc} {k n : Nat} (h : k < n) (hu : und xs k n = true) : uL xs k (n + 1) = uL xs k n ++ [n] := by
  unfold uL
  rw [List.range_succ, List.filter_append]
  congr 1
  simp [h, hu]
theorem uL_no {xs : List Pc} {k n : Nat} (hu : und xs k n = false) : uL xs k (n + 1) = uL xs k n := by
  unfold uL
  rw [List.range_succ, List.filter_append]
  simp [hu]
theorem uL_start (xs : List Pc) (k : Nat) : uL xs k (k + 1) = [] := by
  unfold uL
  rw [List.filter_eq_nil_iff]
  intro i hi
  have := List.mem_range.1 hi
  simp; omega
theorem uL_len (xs : List Pc) (k n : Nat) : (uL xs k n).length ≤ n := by
  unfold uL
  exact Nat.le_trans (List.length_filter_le _ _) (by simp)
/-- the marks in front of place m -/
def mkU (xs : List Pc) (k m : Nat) : Nat → Bool := fun j => decide (j < m) && und xs k j
theorem mkU_at {xs : List Pc} {k m j : Nat} (h : j < m) : mkU xs k m j = und xs k j := by unfold mkU; rw [decide_eq_true h, Bool.true_and]
theorem mkU_start (xs : List Pc) (k n : Nat) : tabB n (putB (fun _ => false) k true) = tabB n (mkU xs k (k + 1)) := tabB_congr fun i _ => by
  unfold putB mkU
  by_cases h : i = k
  · subst h; rw [if_pos rfl, und_self]; simp
  · rw [if_neg h]
    by_cases h2 : i < k
    · rw [und_lt xs h2]; simp
    · rw [decide_eq_false (by omega)]; rfl
theorem mkU_yes {xs : List Pc} {k n m : Nat} (hu : und xs k m = true) : tabB n (putB (mkU xs k m) m true) = tabB n (mkU xs k (m + 1)) := tabB_congr fun i _ => by
  unfold putB mkU
  by_cases h : i = m
  · subst h; rw [if_pos rfl, hu]; simp
  · rw [if_neg h]
    have : decide (i < m) = decide (i < m + 1) := by by_cases h2 : i < m <;> simp [h2] <;> omega
    rw [this]
theorem mkU_no {xs : List Pc} {k n m : Nat} (hu : und xs k m = false) : tabB n (mkU xs k m) = tabB n (mkU xs k (m + 1)) := tabB_congr fun i _ => by
  unfold mkU
  by_cases h : i = m
  · subst h; rw [hu]; simp
  · have : decide (i < m) = decide (i < m + 1) := by by_cases h2 : i < m <;> simp [h2] <;> omega
    rw [this]
/-- a row of numbers of the call's own -/
def RetUL (l : List Nat) (w : World) (e : Ending) (w' : World) : Prop := ∃ v, e = .returned v ∧ w'.ownsRow w.heap.size 2 1 v l.length (natV l) ∧ Below w.heap.size w w'
set_option maxRecDepth 100000 in
set_option maxHeartbeats 3200000 in
theorem under_any (B : Nat) (v : Value) (xs : List Pc) (k : Nat) (w : World) (h : RdP w B v xs) (hB : B ≤ w.heap.size) (hn : xs.length ≤ 40) (hs : Shp xs xs.length) (hk : k < xs.length) :
    Calls Try.prog 63 #[v, .int .i64 (k : Int)] w (RetUL (uL xs k xs.length) w) := by
  have H := Lib.hid h
  have HS := Lib.hid hs
  obtain ⟨A, c, rfl⟩ := h.slice
  clear h hs
  obtain ⟨wB, hmk, hob, hbb⟩ := mk_bools xs.length (by omega) w
  have hwB : w.heap.size < wB.heap.size := (hob.lt w.heap.size rfl).2
  obtain ⟨d0, d1⟩ := own_cellB hob k hk
  have hob3 := (hob.stored k (.bool true)).1
  rw [tabB_set, mkU_start xs] at hob3
  have hbs := hbb.setCell (p := ⟨w.heap.size, k, none⟩) (Nat.le_refl _) (.bool true)
  have hsS : (wB.setCell ⟨w.heap.size, k, none⟩ (.bool true)).heap.size = wB.heap.size := by simp [World.setCell]
  have hal := (Below.refl (wB.setCell ⟨w.heap.size, k, none⟩ (.bool true)).heap.size (wB.setCell ⟨w.heap.size, k, none⟩ (.bool true))).alloc (Nat.le_refl _) (.cells #[] 2)
  have HoB := Lib.hid (own_below hob3 hal)
  have hon := World.ownsRow_made (base := (wB.setCell ⟨w.heap.size, k, none⟩ (.bool true)).heap.size) (e := 2) (size := 1) (wB.setCell ⟨w.heap.size, k, none⟩ (.bool true)) #[] 0 (Nat.le_refl _) (by simp [maxLen]) rfl
  rw [hsS] at hon
  have HoN := Lib.hid hon
  have HbN := Lib.hid (hbs.trans (hal.mono hbs.size))
  have HsN := Lib.hid (show wB.heap.size ≤ ((wB.setCell ⟨w.heap.size, k, none⟩ (.bool true)).alloc (.cells #[] 2)).heap.size from by rw [← hsS]; exact hal.size)
  have hkl : (k : Int) < (xs.length : Int) := by omega
  clear hob hbb hob3 hbs hsS hal hon
  go_enter Try.func63, Try.ntmps63
  go_wp2_with fail
  go_loopw [6, 7] (fun r i wr => ∃ m : Nat, k + 1 ≤ m ∧ m ≤ xs.length ∧ i = .int .i64 (m : Int) ∧ wr.ownsRow w.heap.size 4 1 (.slice (some ⟨w.heap.size, 0, none⟩) xs.length xs.length) xs.length (tabB xs.length (mkU xs k m)) ∧ wr.ownsRow wB.heap.size 2 1 r (uL xs k m).length (natV (uL xs k m)) ∧ Below w.heap.size w wr ∧ wB.heap.size ≤ wr.heap.size) (fun _ i _ => xs.length - (intOf i).toNat)
  case atStart => exact ⟨k + 1, Nat.le_refl _, by omega, by first | rfl | (congr 1; omega), HoB.out, by rw [uL_start]; exact HoN.out, HbN.out, HsN.out⟩
  case round =>
    obtain ⟨m, hm1, hm2, rfl, hob, hor, hbl, hsz⟩ := hrel
    have Hsz := Lib.hid hsz
    obtain ⟨A3, c3, rfl⟩ := own_sl hor
    have Hob := Lib.hid hob
    have Hor := Lib.hid hor
    have Hbl := Lib.hid hbl
    clear HoB HoN HbN HsN hsz
    by_cases hlt : m < xs.length
    · obtain ⟨gb, ob, hA, hat⟩ := (H.out.below (hbl.mono hB)).at m hlt
      subst hA
      have q1 := hat.c1
      have hp := HS.out.par m (by omega) hlt
      have hst := und_step HS.out (k := k) (show k < m by omega) hlt
      obtain ⟨p, hpe⟩ : ∃ p : Nat, (pg xs m).par = (p : Int) := ⟨(pg xs m).par.toNat, by omega⟩
      rw [hpe] at q1 hp hst
      rw [Int.toNat_natCast] at hst
      obtain ⟨y0, y1⟩ := own_cellB hob p (by omega)
      rw [mkU_at (by omega), ← hst] at y0
      obtain ⟨z0, z1⟩ := own_cellB hob m hlt
      have hlt' : (m : Int) < (xs.length : Int) := by omega
      have hpl : (p : Int) < (xs.length : Int) := by omega
      have hll := uL_len xs k m
      clear hat hst hpe hob hor hbl
      cases hu : und xs k m with
      | false =>
        have E1 := Lib.hid (mkU_no (n := xs.length) hu)
        have E2 := Lib.hid (uL_no hu)
        rw [hu] at y0
        clear hu
        go_wp2_with fail
        go_roundw
        case rel => exact ⟨m + 1, by omega, by omega, by go_num, by rw [← E1.out]; exact Hob.out, by rw [E2.out]; exact Hor.out, Hbl.out, Hsz.out⟩
        case measure => first | (simp [intOf]; done) | (simp [intOf]; omega)
      | true =>
        have E1 := Lib.hid (mkU_yes (n := xs.length) hu)
        have E2 := Lib.hid (uL_yes (show k < m by omega) hu)
        have hob4 := (Hob.out.stored m (.bool true)).1
        rw [tabB_set, E1.out] at hob4
        have Hob4 := Lib.hid hob4
        have Hor4 := Lib.hid (ownsRow_setCell_below Hor.out (a := ⟨w.heap.size, m, none⟩) hwB (.bool true))
        have Hbl4 := Lib.hid (Hbl.out.setCell (p := ⟨w.heap.size, m, none⟩) (Nat.le_refl _) (.bool true))
        rw [hu] at y0
        clear hu hob4
        have hw5 : wB.heap.size ≤ (wr.setCell ⟨w.heap.size, m, none⟩ (.bool true)).heap.size := by have := Hsz.out; simpa [World.setCell] using this
        go_upto_region 8 with (fail)
        generalize wr.setCell ⟨w.heap.size, m, none⟩ (.bool true) = w4 at *
        have Hsn := Lib.hid (natV_snoc (uL xs k m) m)
        have hw4 := Hbl4.out.size
        clear y0 y1 z0 z1 q1
        generalize hL : uL xs k m = L at *
        go_wp2_with (at_builtin; refine wpList_apd 27 2 _ 1 8 Try.underlying27 infoD rfl (by omega) _ _ rfl rfl wB.heap.size _ L.length _ rfl Hor4.out #[.int .i64 (m : Int)] 1 1 rfl rfl (by simp [Value.oneCell']) (by simp [maxLen]; omega) (by omega) hw5 ?_; intro v8 w8 hown8 hg8; have Hb8 := Lib.hid (Hbl4.out.grown hg8 hw4 (fun x hx => by have := (Hor4.out.lt x hx).1; omega)); have Hob8 := Lib.hid (Hob4.out.kept hg8 (.inr (fun e => by have := (Hor4.out.lt w.heap.size e.symm).1; omega))); have Hs8 := Lib.hid (Nat.le_trans hw5 hg8.size); obtain ⟨A8, c8, rfl⟩ := own_sl hown8; have Hown8 := Lib.hid hown8; clear hown8 hg8)
        go_roundw
        case rel => exact ⟨m + 1, by omega, by omega, by go_num, Hob8.out, by rw [E2.out, Hsn.out, List.length_append]; exact Hown8.out, Hb8.out, Hs8.out⟩
        case measure => first | (simp [intOf]; done) | (simp [intOf]; omega)
    · obtain rfl : m = xs.length := by omega
      have hlt' : ¬ ((xs.length : Int) < (xs.length : Int)) := by omega
      have Hfin := Lib.hid (ownsRow_le Hor.out (Nat.le_of_lt hwB))
      go_wp2_with fail
      go_ret
      exact ⟨_, rfl, Hfin.out, Hbl.out⟩
end Go.Proofs.Ytalalegjeegocaa
/- Inventories, part 7: l21Under (reference) and PiecesUnder (program). -/
namespace Go.Proofs.Ytalalegjeegocaa
open Go.RowKit Go.Joins

theorem mkU_put (xs : List Pc) (k m n : Nat) : tabB n (putB (mkU xs k m) m (und xs k m)) = tabB n (mkU xs k (m + 1)) := by
  cases hu : und xs k m with
  | true => exact mkU_yes hu
  | false =>
    rw [← mkU_no hu]
    refine tabB_congr fun i _ => ?_
    unfold putB
    by_cases h : i = m
    · subst h; rw [if_pos rfl]; unfold mkU; rw [hu, Bool.and_false]
    · rw [if_neg h]
/-- a row of truth values of the call's own -/
def RetBo (n : Nat) (f : Nat → Bool) (w : World) (e : Ending) (w' : World) : Prop := ∃ cap, e = .returned (.slice (some ⟨w.heap.size, 0, none⟩) n cap) ∧ w'.ownsRow w.heap.size 4 1 (.slice (some ⟨w.heap.size, 0, none⟩) n cap) n (tabB n f) ∧ Below w.heap.size w w'
set_option maxRecDepth 100000 in
set_option maxHeartbeats 3200000 in
theorem l21Under_any (B : Nat) (v : Value) (xs : List Pc) (k : Nat) (w : World) (h : RdP w B v xs) (hB : B ≤ w.heap.size) (hn : xs.length ≤ 40) (hs : Shp xs xs.length) (hk : k < xs.length) :
    Calls Try.prog 65 #[v, .int .i64 (k : Int)] w (RetBo xs.length (und xs k) w) := by
  have H := Lib.hid h
  have HS := Lib.hid hs
  obtain ⟨A, c, rfl⟩ := h.slice
  clear h hs
  obtain ⟨wB, hmk, hob, hbb⟩ := mk_bools xs.length (by omega) w
  obtain ⟨d0, d1⟩ := own_cellB hob k hk
  have hob3 := (hob.stored k (.bool true)).1
  rw [tabB_set, mkU_start xs] at hob3
  have HoB := Lib.hid hob3
  have HbN := Lib.hid (hbb.setCell (p := ⟨w.heap.size, k, none⟩) (Nat.le_refl _) (.bool true))
  have hkl : (k : Int) < (xs.length : Int) := by omega
  clear hob hbb hob3
  go_enter Try.func65, Try.ntmps65
  go_wp2_with fail
  go_loopw [6] (fun i wr => ∃ m : Nat, k + 1 ≤ m ∧ m ≤ xs.length ∧ i = .int .i64 (m : Int) ∧ wr.ownsRow w.heap.size 4 1 (.slice (some ⟨w.heap.size, 0, none⟩) xs.length xs.length) xs.length (tabB xs.length (mkU xs k m)) ∧ Below w.heap.size w wr) (fun i _ => xs.length - (intOf i).toNat)
  case atStart => exact ⟨k + 1, Nat.le_refl _, by omega, by first | rfl | (congr 1; omega), HoB.out, HbN.out⟩
  case round =>
    obtain ⟨m, hm1, hm2, rfl, hob, hbl⟩ := hrel
    have Hbl := Lib.hid hbl
    have Hob := Lib.hid hob
    clear HoB HbN
    by_cases hlt : m < xs.length
    · obtain ⟨gb, ob, hA, hat⟩ := (H.out.below (hbl.mono hB)).at m hlt
      subst hA
      have q1 := hat.c1
      have hp := HS.out.par m (by omega) hlt
      have hst := und_step HS.out (k := k) (show k < m by omega) hlt
      obtain ⟨p, hpe⟩ : ∃ p : Nat, (pg xs m).par = (p : Int) := ⟨(pg xs m).par.toNat, by omega⟩
      rw [hpe] at q1 hp hst
      rw [Int.toNat_natCast] at hst
      obtain ⟨y0, y1⟩ := own_cellB hob p (by omega)
      rw [mkU_at (by omega), ← hst] at y0
      obtain ⟨z0, z1⟩ := own_cellB hob m hlt
      have hob4 := (hob.stored m (.bool (und xs k m))).1
      rw [tabB_set, mkU_put] at hob4
      have Hob4 := Lib.hid hob4
      have Hbl4 := Lib.hid (Hbl.out.setCell (p := ⟨w.heap.size, m, none⟩) (Nat.le_refl _) (.bool (und xs k m)))
      have hlt' : (m : Int) < (xs.length : Int) := by omega
      have hpl : (p : Int) < (xs.length : Int) := by omega
      clear hat hst hpe hob hbl hob4
      generalize und xs k m = u at *
      go_wp2_with fail
      go_roundw
      case rel => exact ⟨m + 1, by omega, by omega, by go_num, Hob4.out, Hbl4.out⟩
      case measure => first | (simp [intOf]; done) | (simp [intOf]; omega)
    · obtain rfl : m = xs.length := by omega
      have hlt' : ¬ ((xs.length : Int) < (xs.length : Int)) := by omega
      have he : tabB xs.length (mkU xs k xs.length) = tabB xs.length (und xs k) := tabB_congr fun i hi => mkU_at hi
      rw [he] at hob
      have Hfin := Lib.hid hob
      clear hob he
      go_wp2_with fail
      go_ret
      exact ⟨_, rfl, Hfin.out, Hbl.out⟩
/-- numbers and a code -/
def uC (xs : List Pc) (k : Int) : List Nat := if cdP xs k = 0 then uL xs k.toNat xs.length else []
def RetUC (xs : List Pc) (k : Int) (w : World) (e : Ending) (w' : World) : Prop := ∃ v, e = .returned (.tuple #[v, .int .i64 (cdP xs k)]) ∧ w'.ownsRow w.heap.size 2 1 v (uC xs k).length (natV (uC xs k)) ∧ Below w.heap.size w w'
theorem RetUC.bad {xs : List Pc} {k c : Int} {w w' : World} (h : cdP xs k = c) (hc : c ≠ 0) (hb : Below w.heap.size w w') : RetUC xs k w (.returned (.tuple #[.slice none 0 0, .int .i64 c])) w' := by
  have e : uC xs k = [] := by unfold uC; rw [h, if_neg hc]
  refine ⟨_, by rw [h], ?_, hb⟩
  rw [e]
  exact ⟨by simp [natV], .inl ⟨rfl, rfl⟩⟩
theorem cdP_cases (xs : List Pc) (k : Int) : cdP xs k = 0 ∨ cdP xs k = 1 ∨ cdP xs k = 2 := by
  unfold cdP
  split
  · split
    · exact .inl rfl
    · exact .inr (.inr rfl)
  · exact .inr (.inl rfl)
set_option maxRecDepth 100000 in
set_option maxHeartbeats 1600000 in
theorem PUnderI_any (B : Nat) (v : Value) (xs : List Pc) (k : Int) (w : World) (h : RdP w B v xs) (hB : B ≤ w.heap.size) (hn : xs.length ≤ 1000) (hz : szP xs) :
    Calls Try.prog 30 #[v, .int .i64 k] w (RetUC xs k w) := by
  have HC := Lib.hid (codeI_any B v xs k w h hB hn hz)
  have H := Lib.hid h
  obtain ⟨A, c, rfl⟩ := h.slice
  clear h hz
  by_cases h0 : cdP xs k = 0
  · obtain ⟨hok, j, rfl, hj⟩ := cdP_ok h0
    obtain ⟨⟨_, hl40⟩, _, hsh, _⟩ := okP_ok hok
    have HU := Lib.hid (fun wx hx hz => under_any B (.slice A xs.length c) xs j wx hx hz hl40 hsh hj)
    have Hfin := Lib.hid (fun v w' (ho : w'.ownsRow w.heap.size 2 1 v (uL xs j xs.length).length (natV (uL xs j xs.length))) (hb : Below w.heap.size w w') => (show RetUC xs (j : Int) w (.returned (.tuple #[v, .int .i64 0])) w' from by
      have e : uC xs (j : Int) = uL xs j xs.length := by unfold uC; rw [if_pos h0, Int.toNat_natCast]
      exact ⟨v, by rw [h0], by rw [e]; exact ho, hb⟩))
    unfold RetUL at HU
    rw [h0] at HC
    clear h0 hok hsh
    go_enter Try.func30, Try.ntmps30
    go_wp2_with fail
    refine (HC.out).mono ?_; rintro e w2 ⟨rfl, hb2⟩
    have Hb2 := Lib.hid hb2
    have HU2 := Lib.hid (HU.out w2 (H.out.below (hb2.mono hB)) (Nat.le_trans hB hb2.size))
    clear hb2 HU
    go_wp2_with fail
    refine (HU2.out).mono ?_; rintro e w3 ⟨v3, rfl, ho3, hb3⟩
    have Hz := Lib.hid (Hfin.out v3 w3 (ownsRow_le ho3 Hb2.out.size) (Hb2.out.trans (hb3.mono Hb2.out.size)))
    obtain ⟨A3, c3, rfl⟩ := own_sl ho3
    clear ho3 hb3
    go_wp2_with fail
    go_ret2
    exact Hz.out
  · obtain ⟨c1, hc1⟩ : ∃ z, cdP xs k = z := ⟨_, rfl⟩
    rw [hc1] at HC h0
    have HE := Lib.hid (fun w' hb => RetUC.bad (w := w) (w' := w') hc1 h0 hb)
    have hcb : (c1 == 0) = false := by simp [h0]
    have hcb2 : (c1 != 0) = true := by simp [h0]
    clear hc1
    go_enter Try.func30, Try.ntmps30
    go_wp2_with fail
    refine (HC.out).mono ?_; rintro e w2 ⟨rfl, hb2⟩
    have Hz := Lib.hid (HE.out w2 hb2)
    clear hb2
    go_wp2_with fail
    go_ret2
    exact Hz.out
end Go.Proofs.Ytalalegjeegocaa
/- Inventories, part 8: codes of a stock (gen_pc8.py). -/
namespace Go.Proofs.Ytalalegjeegocaa
open Go.RowKit Go.Joins

def stkB (n : Nat) (f : Nat → Int) : Bool := allN n (fun i => inB (f i) 0 1000000000000)
def stC (xs : List Pc) (n : Nat) (f : Nat → Int) : Int := if okP xs then (if stkB n f then (if n = xs.length then 0 else 6) else 2) else 1
theorem stC_bad {xs : List Pc} {n : Nat} {f : Nat → Int} (h : okP xs = false) : stC xs n f = 1 := by unfold stC; rw [h]; rfl
theorem stC_rng {xs : List Pc} {n : Nat} {f : Nat → Int} (h : okP xs = true) (h2 : stkB n f = false) : stC xs n f = 2 := by unfold stC; rw [h, h2]; rfl
theorem stC_len {xs : List Pc} {n : Nat} {f : Nat → Int} (h : okP xs = true) (h2 : stkB n f = true) (h3 : n ≠ xs.length) : stC xs n f = 6 := by unfold stC; rw [h, h2, if_pos rfl, if_pos rfl, if_neg h3]
theorem stC_yes {xs : List Pc} {n : Nat} {f : Nat → Int} (h : okP xs = true) (h2 : stkB n f = true) (h3 : n = xs.length) : stC xs n f = 0 := by unfold stC; rw [h, h2, if_pos rfl, if_pos rfl, if_pos h3]
theorem stC_ok {xs : List Pc} {n : Nat} {f : Nat → Int} (h : stC xs n f = 0) : okP xs = true ∧ n = xs.length ∧ ∀ i, i < n → 0 ≤ f i ∧ f i ≤ 1000000000000 := by
  cases h1 : okP xs with
  | false => rw [stC_bad h1] at h; cases h
  | true =>
    cases h2 : stkB n f with
    | false => rw [stC_rng h1 h2] at h; cases h
    | true =>
      by_cases h3 : n = xs.length
      · exact ⟨rfl, h3, fun i hi => inB_iff.1 (allN_get h2 hi)⟩
      · rw [stC_len h1 h2 h3] at h; cases h
theorem stC_cases (xs : List Pc) (n : Nat) (f : Nat → Int) : stC xs n f = 0 ∨ stC xs n f = 1 ∨ stC xs n f = 2 ∨ stC xs n f = 6 := by
  unfold stC
  split
  · split
    · split
      · exact .inl rfl
      · exact .inr (.inr (.inr rfl))
    · exact .inr (.inr (.inl rfl))
  · exact .inr (.inl rfl)
theorem RdF_below {w w' : World} {B : Nat} {v : Value} {n : Nat} {f : Nat → Int} (h : Rd w B v n 1 (tab n f)) (hb : Below B w w') : Rd w' B v n 1 (tab n f) := Rd.below h hb
set_option maxRecDepth 100000 in
set_option maxHeartbeats 1600000 in
theorem stkI_any (B : Nat) (v vs : Value) (xs : List Pc) (n : Nat) (f : Nat → Int) (w : World) (h : RdP w B v xs) (hst : Rd w B vs n 1 (tab n f)) (hB : B ≤ w.heap.size) (hn : xs.length ≤ 1000) (hn2 : n ≤ 1000) (hz : szP xs) :
    Calls Try.prog 55 #[v, vs] w fun e w' => e = .returned (.int .i64 (stC xs n f)) ∧ Below w.heap.size w w' := by
  have HV := Lib.hid (ValidPI_any B v xs w h hB hn hz)
  have HS := Lib.hid hst
  obtain ⟨A, c, rfl⟩ := h.slice
  obtain ⟨A2, c2, rfl⟩ := rd_sl hst
  clear h hz hst
  cases h1 : okP xs with
  | false =>
    have Hr := Lib.hid (stC_bad (n := n) (f := f) h1)
    rw [h1] at HV
    clear h1
    go_enter Try.func55, Try.ntmps55
    go_wp2_with fail
    refine (HV.out).mono ?_; rintro e w2 ⟨rfl, hb2⟩
    have Hb := Lib.hid hb2
    clear hb2
    go_wp2_with fail
    go_ret
    exact ⟨ret_int Hr.out.symm, Hb.out⟩
  | true =>
    rw [h1] at HV
    have H1 := Lib.hid h1
    clear h1
    go_enter Try.func55, Try.ntmps55
    go_wp2_with fail
    refine (HV.out).mono ?_; rintro e w2 ⟨rfl, hb2⟩
    have Hb := Lib.hid hb2
    have HS2 := Lib.hid (RdF_below HS.out (hb2.mono hB))
    clear hb2
    go_wp2_with fail
    go_loop [12] (fun i => ∃ k : Nat, k ≤ n ∧ i = .int .i64 (k : Int) ∧ allN k (fun i => inB (f i) 0 1000000000000) = true) (fun i => n - (intOf i).toNat)
    case atStart => exact ⟨0, Nat.zero_le _, rfl, rfl⟩
    case round =>
      obtain ⟨k, hk, rfl, hall⟩ := hrel
      have Hall := Lib.hid hall
      clear hall
      by_cases hlt : k < n
      · obtain ⟨b1, o1, hA, _, hcc⟩ := rdF_all HS2.out (show 0 < n by omega)
        subst hA
        have q0 := hcc k hlt
        have hlt' : (k : Int) < (n : Int) := by omega
        have HX := Lib.hid (fun wx => between_any (f k) 0 1000000000000 wx)
        clear hcc
        cases hb : inB (f k) 0 1000000000000 with
        | false =>
          have Hr := Lib.hid (stC_rng H1.out (allN_bad k hlt hb))
          rw [hb] at HX
          clear hb
          generalize f k = x at *
          go_wp2_with fail
          refine (HX.out _).mono ?_; rintro e w1 ⟨rfl, rfl⟩
          go_wp2_with fail
          go_ret
          exact ⟨ret_int Hr.out.symm, Hb.out⟩
        | true =>
          have Hst := Lib.hid (allN_step Hall.out hb)
          rw [hb] at HX
          clear hb
          generalize f k = x at *
          go_wp2_with fail
          refine (HX.out _).mono ?_; rintro e w1 ⟨rfl, rfl⟩
          go_wp2_with fail
          go_round
          case rel => exact ⟨k + 1, by omega, by go_num, Hst.out⟩
          case measure => first | (simp [intOf]; done) | (simp [intOf]; omega)
      · obtain rfl : k = n := by omega
        have hlt' : ¬ ((k : Int) < (k : Int)) := by omega
        by_cases h3 : k = xs.length
        · have Hr := Lib.hid (stC_yes H1.out Hall.out h3)
          have h3' : (k : Int) = (xs.length : Int) := by omega
          clear h3
          go_wp2_with fail
          go_ret
          exact ⟨ret_int Hr.out.symm, Hb.out⟩
        · have Hr := Lib.hid (stC_len H1.out Hall.out h3)
          have h3' : ¬ ((k : Int) = (xs.length : Int)) := by omega
          clear h3
          go_wp2_with fail
          go_ret
          exact ⟨ret_int Hr.out.symm, Hb.out⟩
set_option maxRecDepth 100000 in
set_option maxHeartbeats 1600000 in
theorem stkS_any (B : Nat) (v vs : Value) (xs : List Pc) (n : Nat) (f : Nat → Int) (w : World) (h : RdP w B v xs) (hst : Rd w B vs n 1 (tab n f)) (hB : B ≤ w.heap.size) (hn : xs.length ≤ 1000) (hn2 : n ≤ 1000) (hz : szP xs) :
    Calls Try.prog 57 #[v, vs] w fun e w' => e = .returned (.int .i64 (stC xs n f)) ∧ Below w.heap.size w w' := by
  have HV := Lib.hid (ValidPS_any B v xs w h hB hn hz)
  have HS := Lib.hid hst
  obtain ⟨A, c, rfl⟩ := h.slice
  obtain ⟨A2, c2, rfl⟩ := rd_sl hst
  clear h hz hst
  cases h1 : okP xs with
  | false =>
    have Hr := Lib.hid (stC_bad (n := n) (f := f) h1)
    rw [h1] at HV
    clear h1
    go_enter Try.func57, Try.ntmps57
    go_wp2_with fail
    refine (HV.out).mono ?_; rintro e w2 ⟨rfl, hb2⟩
    have Hb := Lib.hid hb2
    clear hb2
    go_wp2_with fail
    go_ret
    exact ⟨ret_int Hr.out.symm, Hb.out⟩
  | true =>
    rw [h1] at HV
    have H1 := Lib.hid h1
    clear h1
    go_enter Try.func57, Try.ntmps57
    go_wp2_with fail
    refine (HV.out).mono ?_; rintro e w2 ⟨rfl, hb2⟩
    have Hb := Lib.hid hb2
    have HS2 := Lib.hid (RdF_below HS.out (hb2.mono hB))
    clear hb2
    go_wp2_with fail
    go_loop [5] (fun i => ∃ k : Nat, k ≤ n ∧ i = .int .i64 (k : Int) ∧ allN k (fun i => inB (f i) 0 1000000000000) = true) (fun i => n - (intOf i).toNat)
    case atStart => exact ⟨0, Nat.zero_le _, rfl, rfl⟩
    case round =>
      obtain ⟨k, hk, rfl, hall⟩ := hrel
      have Hall := Lib.hid hall
      clear hall
      by_cases hlt : k < n
      · obtain ⟨b1, o1, hA, _, hcc⟩ := rdF_all HS2.out (show 0 < n by omega)
        subst hA
        have q0 := hcc k hlt
        have hlt' : (k : Int) < (n : Int) := by omega
        have HX := Lib.hid (fun wx => l00In_any (f k) 0 1000000000000 wx)
        clear hcc
        cases hb : inB (f k) 0 1000000000000 with
        | false =>
          have Hr := Lib.hid (stC_rng H1.out (allN_bad k hlt hb))
          rw [hb] at HX
          clear hb
          generalize f k = x at *
          go_wp2_with fail
          refine (HX.out _).mono ?_; rintro e w1 ⟨rfl, rfl⟩
          go_wp2_with fail
          go_ret
          exact ⟨ret_int Hr.out.symm, Hb.out⟩
        | true =>
          have Hst := Lib.hid (allN_step Hall.out hb)
          rw [hb] at HX
          clear hb
          generalize f k = x at *
          go_wp2_with fail
          refine (HX.out _).mono ?_; rintro e w1 ⟨rfl, rfl⟩
          go_wp2_with fail
          go_round
          case rel => exact ⟨k + 1, by omega, by go_num, Hst.out⟩
          case measure => first | (simp [intOf]; done) | (simp [intOf]; omega)
      · obtain rfl : k = n := by omega
        have hlt' : ¬ ((k : Int) < (k : Int)) := by omega
        by_cases h3 : k = xs.length
        · have Hr := Lib.hid (stC_yes H1.out Hall.out h3)
          have h3' : (k : Int) = (xs.length : Int) := by omega
          clear h3
          go_wp2_with fail
          go_ret
          exact ⟨ret_int Hr.out.symm, Hb.out⟩
        · have Hr := Lib.hid (stC_len H1.out Hall.out h3)
          have h3' : ¬ ((k : Int) = (xs.length : Int)) := by omega
          clear h3
          go_wp2_with fail
          go_ret
          exact ⟨ret_int Hr.out.symm, Hb.out⟩
end Go.Proofs.Ytalalegjeegocaa
/- Inventories, part 9: what is missing for some machines, both sides (gen_pc9.py). -/
namespace Go.Proofs.Ytalalegjeegocaa
open Go.RowKit Go.Joins

def needS (xs : List Pc) (mm : Int) (T : Nat → Int) (k : Nat) : Int := if k = 0 then mm * (pg xs 0).each else (pg xs k).each * T (pg xs k).par.toNat
def msS (xs : List Pc) (st : Nat → Int) (mm : Int) (T : Nat → Int) (k : Nat) : Int := max 0 (needS xs mm T k - st k)
def ms (xs : List Pc) (st : Nat → Int) (mm : Int) : Nat → Int := tv 0 (msS xs st mm)
def need (xs : List Pc) (st : Nat → Int) (mm : Int) (k : Nat) : Int := needS xs mm (ms xs st mm) k
theorem ms_eq {xs : List Pc} {n : Nat} (hs : Shp xs n) (st : Nat → Int) (mm : Int) {k : Nat} (hk : k < n) : ms xs st mm k = max 0 (need xs st mm k - st k) := by
  unfold ms need
  rw [tv_eq]
  show max 0 (needS xs mm (fun i => if i < k then tv 0 (msS xs st mm) i else 0) k - st k) = _
  unfold needS
  by_cases h0 : k = 0
  · rw [if_pos h0, if_pos h0]
  · have hp := hs.par k (by omega) hk
    rw [if_neg h0, if_neg h0]
    show max 0 ((pg xs k).each * (if (pg xs k).par.toNat < k then tv 0 (msS xs st mm) (pg xs k).par.toNat else 0) - st k) = _
    rw [if_pos (by omega)]
    rfl
theorem ms_bd {xs : List Pc} {n : Nat} (hs : Shp xs n) {st : Nat → Int} {M : Nat} (hst : ∀ i, i < n → 0 ≤ st i) : ∀ k, k < n → 0 ≤ ms xs st (M : Int) k ∧ ms xs st (M : Int) k ≤ ((M * tot xs k : Nat) : Int) ∧ 0 ≤ need xs st (M : Int) k ∧ need xs st (M : Int) k ≤ ((M * tot xs k : Nat) : Int) := by
  intro k
  induction k using Nat.strongRecOn with
  | ind k ih =>
    intro hk
    have he := hs.each k hk
    have hq := hst k hk
    have hnd : 0 ≤ need xs st (M : Int) k ∧ need xs st (M : Int) k ≤ ((M * tot xs k : Nat) : Int) := by
      unfold need needS
      by_cases h0 : k = 0
      · subst h0
        rw [if_pos rfl, tot_zero hs hk]
        have e : (M : Int) * (pg xs 0).each = ((M * (pg xs 0).each.toNat : Nat) : Int) := by rw [Int.natCast_mul]; congr 1; omega
        rw [e]
        omega
      · have hp := hs.par k (by omega) hk
        have hi := ih (pg xs k).par.toNat (by omega) (by omega)
        rw [if_neg h0, tot_step hs (by omega) hk]
        obtain ⟨y, hy⟩ : ∃ y : Nat, ms xs st (M : Int) (pg xs k).par.toNat = (y : Int) := ⟨(ms xs st (M : Int) (pg xs k).par.toNat).toNat, by omega⟩
        rw [hy] at hi ⊢
        have e : (pg xs k).each * (y : Int) = (((pg xs k).each.toNat * y : Nat) : Int) := by rw [Int.natCast_mul]; congr 1; omega
        rw [e]
        have := Nat.mul_le_mul_left (pg xs k).each.toNat (show y ≤ M * tot xs (pg xs k).par.toNat by omega)
        have e2 : M * ((pg xs k).each.toNat * tot xs (pg xs k).par.toNat) = (pg xs k).each.toNat * (M * tot xs (pg xs k).par.toNat) := by rw [Nat.mul_left_comm]
        rw [e2]
        omega
    rw [ms_eq hs st _ hk]
    omega
theorem ms_big {xs : List Pc} {n M : Nat} (hs : Shp xs n) {st : Nat → Int} (hst : ∀ i, i < n → 0 ≤ st i) (ht : ∀ i, i < n → tot xs i ≤ 1000000) (hM : M ≤ 1000000) {k : Nat} (hk : k < n) :
    (0 ≤ ms xs st (M : Int) k ∧ ms xs st (M : Int) k ≤ 1000000000000) ∧ 0 ≤ need xs st (M : Int) k ∧ need xs st (M : Int) k ≤ 1000000000000 := by
  have h := ms_bd hs (M := M) hst k hk
  have := Nat.mul_le_mul hM (ht k hk)
  omega
theorem tab_sn (n : Nat) (F : Nat → Int) : tab n F ++ (#[Value.int .i64 (F n)] : Array Value).toList = tab (n + 1) F := (tab_succ n F).symm
theorem own_cellsI {w : World} {base n c : Nat} {A : Option Addr} {f : Nat → Int} (h : w.ownsRow base 2 1 (.slice A n c) n (tab n f)) (hn : 0 < n) :
    ∃ b, A = some ⟨b, 0, none⟩ ∧ base ≤ b ∧ b < w.heap.size ∧ ∀ j, j < n → w.cell? ⟨b, j, none⟩ = some (.int .i64 (f j)) := by
  obtain ⟨b, cap, hv, _⟩ := own_posC h hn
  injection hv with hA
  subst hA
  have hl := h.lt b rfl
  obtain ⟨bb, oo, hA2, _, hc⟩ := rdF_all (Rd.of_own h) hn
  injection hA2 with hA2
  injection hA2 with e1 e2
  subst e1
  subst e2
  exact ⟨b, rfl, hl.1, hl.2, fun j hj => by have := hc j hj; rwa [Nat.zero_add] at this⟩
/-- a row of numbers of the call's own -/
def RetTb (n : Nat) (f : Nat → Int) (w : World) (e : Ending) (w' : World) : Prop := ∃ v, e = .returned v ∧ w'.ownsRow w.heap.size 2 1 v n (tab n f) ∧ Below w.heap.size w w'
set_option maxRecDepth 100000 in
set_option maxHeartbeats 3200000 in
theorem msS_any (B : Nat) (v vs : Value) (xs : List Pc) (st : Nat → Int) (mm : Nat) (w : World) (h : RdP w B v xs) (hst : Rd w B vs xs.length 1 (tab xs.length st)) (hB : B ≤ w.heap.size) (hs : Shp xs xs.length) (hn : xs.length ≤ 40) (h1 : 1 ≤ xs.length)
    (ht : ∀ i, i < xs.length → tot xs i ≤ 1000000) (hq : ∀ i, i < xs.length → 0 ≤ st i ∧ st i ≤ 1000000000000) (hm : mm ≤ 1000000) :
    Calls Try.prog 59 #[v, vs, .int .i64 (mm : Int)] w (RetTb xs.length (ms xs st (mm : Int)) w) := by
  have H := Lib.hid h
  have HS := Lib.hid hs
  have HT := Lib.hid ht
  have HQ := Lib.hid hq
  have HR := Lib.hid hst
  obtain ⟨A, c, rfl⟩ := h.slice
  obtain ⟨A2, c2, rfl⟩ := rd_sl hst
  have hon := Lib.hid (World.ownsRow_made (base := w.heap.size) (e := 2) (size := 1) w #[] 0 (Nat.le_refl _) (by simp [maxLen]) rfl)
  have hal := Lib.hid ((Below.refl w.heap.size w).alloc (Nat.le_refl _) (.cells #[] 2))
  clear h hs ht hq hst
  go_enter Try.func59, Try.ntmps59
  go_wp2_with fail
  go_loopw [7, 8] (fun r i wr => ∃ k : Nat, k ≤ xs.length ∧ i = .int .i64 (k : Int) ∧ wr.ownsRow w.heap.size 2 1 r k (tab k (ms xs st (mm : Int))) ∧ Below w.heap.size w wr) (fun _ i _ => xs.length - (intOf i).toNat)
  case atStart => exact ⟨0, by omega, rfl, hon.out, hal.out⟩
  case round =>
    obtain ⟨k, hk, rfl, hown, hbl⟩ := hrel
    have Hbl := Lib.hid hbl
    obtain ⟨A3, c3, rfl⟩ := own_sl hown
    have Hown := Lib.hid hown
    clear hon hal hown hbl
    by_cases hlt : k < xs.length
    · have hlt' : (k : Int) < (xs.length : Int) := by omega
      have h0l : (0 : Int) < (xs.length : Int) := by omega
      have HX := Lib.hid (H.out.below (Hbl.out.mono hB))
      obtain ⟨gb, ob, hA, hat0⟩ := HX.out.at 0 (by omega)
      subst hA
      obtain ⟨gb', ob', hA', hat⟩ := HX.out.at k hlt
      injection hA' with hA'
      injection hA' with e1 e2
      subst e1 e2
      have z2 := hat0.c2
      have q1 := hat.c1
      have q2 := hat.c2
      obtain ⟨b1, o1, hA2, _, hcc⟩ := rdF_all (RdF_below HR.out (Hbl.out.mono hB)) (show 0 < xs.length by omega)
      subst hA2
      have s0 := hcc k hlt
      have hbd := ms_big HS.out (fun i hi => (HQ.out i hi).1) HT.out hm hlt
      have hsq := HQ.out k hlt
      have Hme := Lib.hid (ms_eq HS.out st (mm : Int) hlt)
      have HAp := Lib.hid (tab_sn k (ms xs st (mm : Int)))
      have he0 := HS.out.each 0 (by omega)
      have he := HS.out.each k hlt
      by_cases h0 : k = 0
      · have hne : need xs st (mm : Int) k = (mm : Int) * (pg xs 0).each := by unfold need needS; rw [if_pos h0]
        have hb0 := ms_big HS.out (fun i hi => (HQ.out i hi).1) HT.out hm hlt
        have HMx := Lib.hid (fun wx => l00Max_c 0 (need xs st (mm : Int) k - st k) wx)
        rw [← Hme.out] at HMx
        obtain ⟨y, hy⟩ : ∃ y, ms xs st (mm : Int) k = y := ⟨_, rfl⟩
        rw [hy] at HMx HAp
        have hw1 : IntKind.i64.wrap ((mm : Int) * (pg xs 0).each) = need xs st (mm : Int) k := by rw [← hne]; exact IntWalk.i64_in _ (by omega)
        have hw2 : IntKind.i64.wrap (need xs st (mm : Int) k - st k) = need xs st (mm : Int) k - st k := IntWalk.i64_in _ (by omega)
        have h0k : ¬ ((0 : Int) < (k : Int)) := by omega
        clear hcc hat hat0 h0 hne Hme hbd hy
        generalize need xs st (mm : Int) k = nd at *
        generalize st k = sk at *
        generalize (pg xs 0).each = e0 at *
        go_wp2_with fail
        refine (HMx.out _).mono ?_; rintro e w1 ⟨rfl, rfl⟩
        go_wp2_with (at_builtin; refine wpList_apd 27 2 _ 1 8 Try.underlying27 infoD rfl (by omega) _ _ rfl rfl w.heap.size _ k _ rfl Hown.out #[.int .i64 y] 1 1 rfl rfl (by simp [Value.oneCell']) (by simp [maxLen]; omega) (by omega) Hbl.out.size ?_; intro v7 w7 hown7 hg7; have Hb7 := Lib.hid (below_apd Hbl.out Hown.out hg7 (Nat.le_refl _) Hbl.out.size); obtain ⟨A7, c7, rfl⟩ := own_sl hown7; have Hown7 := Lib.hid (show w7.ownsRow w.heap.size 2 1 (.slice A7 (k + 1) c7) (k + 1) (tab (k + 1) (ms xs st (mm : Int))) by rw [← HAp.out]; exact hown7); clear hown7 hg7)
        go_roundw
        case rel => exact ⟨k + 1, by omega, by go_num, Hown7.out, Hb7.out⟩
        case measure => first | (simp [intOf]; done) | (simp [intOf]; omega)
      · have hp := HS.out.par k (by omega) hlt
        obtain ⟨p, hpe⟩ : ∃ p : Nat, (pg xs k).par = (p : Int) := ⟨(pg xs k).par.toNat, by omega⟩
        have hne : need xs st (mm : Int) k = (pg xs k).each * ms xs st (mm : Int) p := by unfold need needS; rw [if_neg h0, hpe, Int.toNat_natCast]
        rw [hpe] at hp q1
        obtain ⟨g3, hA3, _, _, hc3⟩ := own_cellsI Hown.out (show 0 < k by omega)
        subst hA3
        have y0 := hc3 p (by omega)
        have hpk : (p : Int) < (k : Int) := by omega
        have h0k : (0 : Int) < (k : Int) := by omega
        have hb0 := ms_big HS.out (fun i hi => (HQ.out i hi).1) HT.out hm (show 0 < xs.length by omega)
        have hne0 : need xs st (mm : Int) 0 = (mm : Int) * (pg xs 0).each := by unfold need needS; rw [if_pos rfl]
        have HMx := Lib.hid (fun wx => l00Max_c 0 (need xs st (mm : Int) k - st k) wx)
        rw [← Hme.out] at HMx
        obtain ⟨y, hy⟩ : ∃ y, ms xs st (mm : Int) k = y := ⟨_, rfl⟩
        rw [hy] at HMx HAp
        have hw1 : IntKind.i64.wrap ((pg xs k).each * ms xs st (mm : Int) p) = need xs st (mm : Int) k := by rw [← hne]; exact IntWalk.i64_in _ (by omega)
        have hw2 : IntKind.i64.wrap (need xs st (mm : Int) k - st k) = need xs st (mm : Int) k - st k := IntWalk.i64_in _ (by omega)
        have hw0 : IntKind.i64.wrap ((mm : Int) * (pg xs 0).each) = (mm : Int) * (pg xs 0).each := by rw [← hne0]; exact IntWalk.i64_in _ (by omega)
        obtain ⟨wz, hwz⟩ : ∃ z, z = wr := ⟨_, rfl⟩
        clear hcc hat hat0 hne hne0 Hme hbd hy hb0 hpe hc3
        generalize need xs st (mm : Int) k = nd at *
        generalize st k = sk at *
        generalize hE0 : (mm : Int) * (pg xs 0).each = n0 at *
        generalize (pg xs 0).each = e0 at *
        generalize (pg xs k).each = ek at *
        generalize hM1 : ms xs st (mm : Int) p = mp at *
        clear hE0 hM1
        go_upto_region 7 with (fail)
        go_quiet (fail)
        have Hbl := Lib.hid (below_drewN Hbl.out nq)
        have Hown := Lib.hid (World.ownsRow.drewN Hown.out nq)
        go_wp2_with fail
        refine (HMx.out _).mono ?_; rintro e w1 ⟨rfl, rfl⟩
        go_wp2_with (at_builtin; refine wpList_apd 27 2 _ 1 8 Try.underlying27 infoD rfl (by omega) _ _ rfl rfl w.heap.size _ k _ rfl Hown.out #[.int .i64 y] 1 1 rfl rfl (by simp [Value.oneCell']) (by simp [maxLen]; omega) (by omega) Hbl.out.size ?_; intro v7 w7 hown7 hg7; have Hb7 := Lib.hid (below_apd Hbl.out Hown.out hg7 (Nat.le_refl _) Hbl.out.size); obtain ⟨A7, c7, rfl⟩ := own_sl hown7; have Hown7 := Lib.hid (show w7.ownsRow w.heap.size 2 1 (.slice A7 (k + 1) c7) (k + 1) (tab (k + 1) (ms xs st (mm : Int))) by rw [← HAp.out]; exact hown7); clear hown7 hg7)
        go_roundw
        case rel => exact ⟨k + 1, by omega, by go_num, Hown7.out, Hb7.out⟩
        case measure => first | (simp [intOf]; done) | (simp [intOf]; omega)
    · obtain rfl : k = xs.length := by omega
      have hlt' : ¬ ((xs.length : Int) < (xs.length : Int)) := by omega
      go_wp2_with fail
      go_ret
      exact ⟨_, rfl, Hown.out, Hbl.out⟩
end Go.Proofs.Ytalalegjeegocaa
/- Inventories, part 10: what is missing for some machines, the program (gen_pc9.py). -/
namespace Go.Proofs.Ytalalegjeegocaa
open Go.RowKit Go.Joins

set_option maxRecDepth 100000 in
set_option maxHeartbeats 3200000 in
theorem msI_any (B : Nat) (v vs : Value) (xs : List Pc) (st : Nat → Int) (mm : Nat) (w : World) (h : RdP w B v xs) (hst : Rd w B vs xs.length 1 (tab xs.length st)) (hB : B ≤ w.heap.size) (hs : Shp xs xs.length) (hn : xs.length ≤ 40) (h1 : 1 ≤ xs.length)
    (ht : ∀ i, i < xs.length → tot xs i ≤ 1000000) (hq : ∀ i, i < xs.length → 0 ≤ st i ∧ st i ≤ 1000000000000) (hm : mm ≤ 1000000) :
    Calls Try.prog 56 #[v, vs, .int .i64 (mm : Int)] w (RetTb xs.length (ms xs st (mm : Int)) w) := by
  have H := Lib.hid h
  have HS := Lib.hid hs
  have HT := Lib.hid ht
  have HQ := Lib.hid hq
  have HR := Lib.hid hst
  obtain ⟨A, c, rfl⟩ := h.slice
  obtain ⟨A2, c2, rfl⟩ := rd_sl hst
  have hon := Lib.hid (World.ownsRow_made (base := w.heap.size) (e := 2) (size := 1) w #[] 0 (Nat.le_refl _) (by simp [maxLen]) rfl)
  have hal := Lib.hid ((Below.refl w.heap.size w).alloc (Nat.le_refl _) (.cells #[] 2))
  clear h hs ht hq hst
  go_enter Try.func56, Try.ntmps56
  go_wp2_with fail
  go_loopw [7, 14] (fun r i wr => ∃ k : Nat, k ≤ xs.length ∧ i = .int .i64 (k : Int) ∧ wr.ownsRow w.heap.size 2 1 r k (tab k (ms xs st (mm : Int))) ∧ Below w.heap.size w wr) (fun _ i _ => xs.length - (intOf i).toNat)
  case atStart => exact ⟨0, by omega, rfl, hon.out, hal.out⟩
  case round =>
    obtain ⟨k, hk, rfl, hown, hbl⟩ := hrel
    have Hbl := Lib.hid hbl
    obtain ⟨A3, c3, rfl⟩ := own_sl hown
    have Hown := Lib.hid hown
    clear hon hal hown hbl
    by_cases hlt : k < xs.length
    · have hlt' : (k : Int) < (xs.length : Int) := by omega
      have HX := Lib.hid (H.out.below (Hbl.out.mono hB))
      obtain ⟨gb, ob, hA, hat⟩ := HX.out.at k hlt
      subst hA
      have p0 := hat.c0
      have p1 := hat.c1
      have p2 := hat.c2
      have p3 := hat.c3
      have hbd := ms_big HS.out (fun i hi => (HQ.out i hi).1) HT.out hm hlt
      have hsq := HQ.out k hlt
      have Hme := Lib.hid (ms_eq HS.out st (mm : Int) hlt)
      have HAp := Lib.hid (tab_sn k (ms xs st (mm : Int)))
      have he := HS.out.each k hlt
      have Hne := Lib.hid (show need xs st (mm : Int) k = if k = 0 then (mm : Int) * (pg xs k).each else (pg xs k).each * ms xs st (mm : Int) (pg xs k).par.toNat from by unfold need needS; by_cases e : k = 0 <;> simp [e])
      have Hpar := Lib.hid (HS.out.par k)
      obtain ⟨y, hy⟩ : ∃ y, ms xs st (mm : Int) k = y := ⟨_, rfl⟩
      rw [hy] at HAp Hme hbd
      have hba := (Below.refl wr.heap.size wr).alloc (Nat.le_refl _) (.cells #[.string (pg xs k).name, .int .i64 (pg xs k).par, .int .i64 (pg xs k).each, .int .i64 (pg xs k).price] 79)
      have Hbl := Lib.hid (Hbl.out.trans (hba.mono Hbl.out.size))
      have Hown := Lib.hid (own_below Hown.out hba)
      have HCa := Lib.hid (heap_alloc_new wr (.cells #[.string (pg xs k).name, .int .i64 (pg xs k).par, .int .i64 (pg xs k).each, .int .i64 (pg xs k).price] 79))
      have hmw0 : (mm : Int) * (pg xs k).each ≤ 1000000 * 100 := Int.mul_le_mul (by omega) (by omega) (by omega) (by omega)
      have hmw1 : 0 ≤ (mm : Int) * (pg xs k).each := Int.mul_nonneg (by omega) (by omega)
      have hw0 : IntKind.i64.wrap ((mm : Int) * (pg xs k).each) = (mm : Int) * (pg xs k).each := IntWalk.i64_in _ (by omega)
      clear hy hat hba hmw0 hmw1
      generalize (pg xs k).name = nm at *
      generalize (pg xs k).par = pa at *
      generalize (pg xs k).each = ek at *
      generalize (pg xs k).price = pr at *
      go_upto_region 5 with (fail)
      generalize wr.alloc (.cells #[.string nm, .int .i64 pa, .int .i64 ek, .int .i64 pr] 79) = wa at *
      generalize wr.heap.size = ga at *
      clear p0 p1 p2 p3
      obtain ⟨y0, y1, y2, y3⟩ := cells4 HCa.out
      obtain ⟨b1, o1, hA2, _, hcc⟩ := rdF_all (RdF_below HR.out (Hbl.out.mono hB)) (show 0 < xs.length by omega)
      subst hA2
      have s0 := hcc k hlt
      have HMx := Lib.hid (show max (need xs st (mm : Int) k - st k) 0 = y from by rw [Hme.out, Int.max_comm])
      have hw2 : IntKind.i64.wrap (need xs st (mm : Int) k - st k) = need xs st (mm : Int) k - st k := IntWalk.i64_in _ (by omega)
      clear hcc
      by_cases h0 : k = 0
      · have hne := Hne.out
        rw [if_pos h0] at hne
        have h0k : ¬ ((0 : Int) < (k : Int)) := by omega
        replace hw0 := hw0.trans hne.symm
        clear Hne Hme h0 hne hbd y1
        generalize need xs st (mm : Int) k = nd at *
        generalize st k = sk at *
        by_cases hsg : nd - sk < 0
        · have Hy := Lib.hid (show y = 0 from by rw [← HMx.out]; omega)
          go_upto_region 8 with (fail)
          go_wp2_with (at_builtin; refine wpList_apd 27 2 _ 1 8 Try.underlying27 infoD rfl (by omega) _ _ rfl rfl w.heap.size _ k _ rfl Hown.out #[.int .i64 0] 1 1 rfl rfl (by simp [Value.oneCell']) (by simp [maxLen]; omega) (by omega) Hbl.out.size ?_; intro v7 w7 hown7 hg7; have Hb7 := Lib.hid (below_apd Hbl.out Hown.out hg7 (Nat.le_refl _) Hbl.out.size); obtain ⟨A7, c7, rfl⟩ := own_sl hown7; have Hown7 := Lib.hid (show w7.ownsRow w.heap.size 2 1 (.slice A7 (k + 1) c7) (k + 1) (tab (k + 1) (ms xs st (mm : Int))) by rw [← HAp.out, Hy.out]; exact hown7); clear hown7 hg7)
          go_roundw
          case rel => exact ⟨k + 1, by omega, by go_num, Hown7.out, Hb7.out⟩
          case measure => first | (simp [intOf]; done) | (simp [intOf]; omega)
        · have Hy := Lib.hid (show y = nd - sk from by rw [← HMx.out]; omega)
          have hsg' : 0 ≤ nd - sk := by omega
          go_upto_region 8 with (fail)
          go_wp2_with (at_builtin; refine wpList_apd 27 2 _ 1 8 Try.underlying27 infoD rfl (by omega) _ _ rfl rfl w.heap.size _ k _ rfl Hown.out #[.int .i64 (nd - sk)] 1 1 rfl rfl (by simp [Value.oneCell']) (by simp [maxLen]; omega) (by omega) Hbl.out.size ?_; intro v7 w7 hown7 hg7; have Hb7 := Lib.hid (below_apd Hbl.out Hown.out hg7 (Nat.le_refl _) Hbl.out.size); obtain ⟨A7, c7, rfl⟩ := own_sl hown7; have Hown7 := Lib.hid (show w7.ownsRow w.heap.size 2 1 (.slice A7 (k + 1) c7) (k + 1) (tab (k + 1) (ms xs st (mm : Int))) by rw [← HAp.out, Hy.out]; exact hown7); clear hown7 hg7)
          go_roundw
          case rel => exact ⟨k + 1, by omega, by go_num, Hown7.out, Hb7.out⟩
          case measure => first | (simp [intOf]; done) | (simp [intOf]; omega)
      · have hp := Hpar.out (by omega) hlt
        obtain ⟨p, rfl⟩ : ∃ p : Nat, pa = (p : Int) := ⟨pa.toNat, by omega⟩
        have hne := Hne.out
        rw [if_neg h0, Int.toNat_natCast] at hne
        obtain ⟨g3, hA3, _, _, hc3⟩ := own_cellsI Hown.out (show 0 < k by omega)
        subst hA3
        have z0 := hc3 p (by omega)
        have hpk : (p : Int) < (k : Int) := by omega
        have h0k : (0 : Int) < (k : Int) := by omega
        have hw1 : IntKind.i64.wrap (ms xs st (mm : Int) p * ek) = need xs st (mm : Int) k := by rw [Int.mul_comm, ← hne]; exact IntWalk.i64_in _ (by omega)
        clear Hne Hme hne hbd hc3
        generalize need xs st (mm : Int) k = nd at *
        generalize st k = sk at *
        generalize hM1 : ms xs st (mm : Int) p = mp at *
        generalize hE0 : (mm : Int) * ek = n0 at *
        clear hE0 hM1
        go_upto_region 7 with (fail)
        go_quiet (fail)
        have Hbl := Lib.hid (below_drewN Hbl.out nq)
        have Hown := Lib.hid (World.ownsRow.drewN Hown.out nq)
        by_cases hsg : nd - sk < 0
        · have Hy := Lib.hid (show y = 0 from by rw [← HMx.out]; omega)
          go_upto_region 8 with (fail)
          go_wp2_with (at_builtin; refine wpList_apd 27 2 _ 1 8 Try.underlying27 infoD rfl (by omega) _ _ rfl rfl w.heap.size _ k _ rfl Hown.out #[.int .i64 0] 1 1 rfl rfl (by simp [Value.oneCell']) (by simp [maxLen]; omega) (by omega) Hbl.out.size ?_; intro v7 w7 hown7 hg7; have Hb7 := Lib.hid (below_apd Hbl.out Hown.out hg7 (Nat.le_refl _) Hbl.out.size); obtain ⟨A7, c7, rfl⟩ := own_sl hown7; have Hown7 := Lib.hid (show w7.ownsRow w.heap.size 2 1 (.slice A7 (k + 1) c7) (k + 1) (tab (k + 1) (ms xs st (mm : Int))) by rw [← HAp.out, Hy.out]; exact hown7); clear hown7 hg7)
          go_roundw
          case rel => exact ⟨k + 1, by omega, by go_num, Hown7.out, Hb7.out⟩
          case measure => first | (simp [intOf]; done) | (simp [intOf]; omega)
        · have Hy := Lib.hid (show y = nd - sk from by rw [← HMx.out]; omega)
          have hsg' : 0 ≤ nd - sk := by omega
          go_upto_region 8 with (fail)
          go_wp2_with (at_builtin; refine wpList_apd 27 2 _ 1 8 Try.underlying27 infoD rfl (by omega) _ _ rfl rfl w.heap.size _ k _ rfl Hown.out #[.int .i64 (nd - sk)] 1 1 rfl rfl (by simp [Value.oneCell']) (by simp [maxLen]; omega) (by omega) Hbl.out.size ?_; intro v7 w7 hown7 hg7; have Hb7 := Lib.hid (below_apd Hbl.out Hown.out hg7 (Nat.le_refl _) Hbl.out.size); obtain ⟨A7, c7, rfl⟩ := own_sl hown7; have Hown7 := Lib.hid (show w7.ownsRow w.heap.size 2 1 (.slice A7 (k + 1) c7) (k + 1) (tab (k + 1) (ms xs st (mm : Int))) by rw [← HAp.out, Hy.out]; exact hown7); clear hown7 hg7)
          go_roundw
          case rel => exact ⟨k + 1, by omega, by go_num, Hown7.out, Hb7.out⟩
          case measure => first | (simp [intOf]; done) | (simp [intOf]; omega)
    · obtain rfl : k = xs.length := by omega
      have hlt' : ¬ ((xs.length : Int) < (xs.length : Int)) := by omega
      go_wp2_with fail
      go_ret
      exact ⟨_, rfl, Hown.out, Hbl.out⟩
end Go.Proofs.Ytalalegjeegocaa
/- Inventories, part 11: MissingPieces, both sides (gen_pc11.py). -/
namespace Go.Proofs.Ytalalegjeegocaa
open Go.RowKit Go.Joins

def mpC (xs : List Pc) (n : Nat) (f : Nat → Int) (mm : Int) : Int := if stC xs n f = 0 then (if inB mm 0 1000000 then 0 else 2) else stC xs n f
def mpN (xs : List Pc) (n : Nat) (f : Nat → Int) (mm : Int) : Nat := if mpC xs n f mm = 0 then xs.length else 0
theorem mpC_ok {xs : List Pc} {n : Nat} {f : Nat → Int} {mm : Int} (h : mpC xs n f mm = 0) : stC xs n f = 0 ∧ 0 ≤ mm ∧ mm ≤ 1000000 := by
  unfold mpC at h
  split at h
  · rename_i h1
    split at h
    · rename_i h2
      exact ⟨h1, inB_iff.1 h2⟩
    · cases h
  · rename_i h1
    exact absurd h h1
def RetMp (xs : List Pc) (n : Nat) (f : Nat → Int) (mm : Int) (w : World) (e : Ending) (w' : World) : Prop := ∃ v, e = .returned (.tuple #[v, .int .i64 (mpC xs n f mm)]) ∧ w'.ownsRow w.heap.size 2 1 v (mpN xs n f mm) (tab (mpN xs n f mm) (ms xs f mm)) ∧ Below w.heap.size w w'
theorem RetMp.bad {xs : List Pc} {n : Nat} {f : Nat → Int} {mm c : Int} {w w' : World} (h : mpC xs n f mm = c) (hc : c ≠ 0) (hb : Below w.heap.size w w') : RetMp xs n f mm w (.returned (.tuple #[.slice none 0 0, .int .i64 c])) w' := by
  have e : mpN xs n f mm = 0 := by unfold mpN; rw [h, if_neg hc]
  refine ⟨_, by rw [h], ?_, hb⟩
  rw [e]
  exact ⟨by simp [tab], .inl ⟨rfl, rfl⟩⟩
set_option maxRecDepth 100000 in
set_option maxHeartbeats 1600000 in
theorem MissI_any (B : Nat) (v vs : Value) (xs : List Pc) (n : Nat) (f : Nat → Int) (mm : Int) (w : World) (h : RdP w B v xs) (hst : Rd w B vs n 1 (tab n f)) (hB : B ≤ w.heap.size) (hn : xs.length ≤ 1000) (hn2 : n ≤ 1000) (hz : szP xs) :
    Calls Try.prog 18 #[v, vs, .int .i64 mm] w (RetMp xs n f mm w) := by
  have HC := Lib.hid (stkI_any B v vs xs n f w h hst hB hn hn2 hz)
  have H := Lib.hid h
  have HS := Lib.hid hst
  obtain ⟨A, c, rfl⟩ := h.slice
  obtain ⟨A2, c2, rfl⟩ := rd_sl hst
  have HX := Lib.hid (fun wx => between_any mm 0 1000000 wx)
  clear h hz hst
  by_cases h0 : stC xs n f = 0
  · rw [h0] at HC
    cases hb : inB mm 0 1000000 with
    | false =>
      have hmc : mpC xs n f mm = 2 := by unfold mpC; rw [if_pos h0, hb]; rfl
      have HE := Lib.hid (fun w' hb => RetMp.bad (w := w) (w' := w') hmc (by omega) hb)
      rw [hb] at HX
      clear hb h0 hmc
      go_enter Try.func18, Try.ntmps18
      go_wp2_with fail
      refine (HC.out).mono ?_; rintro e w2 ⟨rfl, hb2⟩
      have Hz := Lib.hid (HE.out w2 hb2)
      clear hb2
      go_wp2_with fail
      refine (HX.out _).mono ?_; rintro e w1 ⟨rfl, rfl⟩
      go_wp2_with fail
      go_ret2
      exact Hz.out
    | true =>
      have hmc : mpC xs n f mm = 0 := by unfold mpC; rw [if_pos h0, hb]; rfl
      have hmn : mpN xs n f mm = xs.length := by unfold mpN; rw [if_pos hmc]
      have hmb := inB_iff.1 hb
      obtain ⟨hok, hnl, hq⟩ := stC_ok h0
      obtain ⟨⟨hl1, hl40⟩, _, hsh, htt⟩ := okP_ok hok
      subst hnl
      obtain ⟨m, rfl⟩ : ∃ m : Nat, mm = (m : Int) := ⟨mm.toNat, by omega⟩
      have HM := Lib.hid (fun wx hx hy hz => msI_any B (.slice A xs.length c) (.slice A2 xs.length c2) xs f m wx hx hy hz hsh hl40 hl1 htt hq (by omega))
      have Hfin := Lib.hid (fun v w' (ho : w'.ownsRow w.heap.size 2 1 v xs.length (tab xs.length (ms xs f (m : Int)))) (hb : Below w.heap.size w w') => (show RetMp xs xs.length f (m : Int) w (.returned (.tuple #[v, .int .i64 0])) w' from ⟨v, by rw [hmc], by rw [hmn]; exact ho, hb⟩))
      unfold RetTb at HM
      rw [hb] at HX
      clear hb h0 hmc hmn hmb hok hsh htt hq
      go_enter Try.func18, Try.ntmps18
      go_wp2_with fail
      refine (HC.out).mono ?_; rintro e w2 ⟨rfl, hb2⟩
      have Hb2 := Lib.hid hb2
      have HM2 := Lib.hid (HM.out w2 (H.out.below (hb2.mono hB)) (RdF_below HS.out (hb2.mono hB)) (Nat.le_trans hB hb2.size))
      clear hb2 HM
      go_wp2_with fail
      refine (HX.out _).mono ?_; rintro e w1 ⟨rfl, rfl⟩
      go_wp2_with fail
      refine (HM2.out).mono ?_; rintro e w3 ⟨v3, rfl, ho3, hb3⟩
      have Hz := Lib.hid (Hfin.out v3 w3 (ownsRow_le ho3 Hb2.out.size) (Hb2.out.trans (hb3.mono Hb2.out.size)))
      obtain ⟨A3, c3, rfl⟩ := own_sl ho3
      clear ho3 hb3
      go_wp2_with fail
      go_ret2
      exact Hz.out
  · obtain ⟨c1, hc1⟩ : ∃ z, stC xs n f = z := ⟨_, rfl⟩
    have hmc : mpC xs n f mm = c1 := by unfold mpC; rw [if_neg h0, hc1]
    rw [hc1] at HC h0
    have HE := Lib.hid (fun w' hb => RetMp.bad (w := w) (w' := w') hmc h0 hb)
    have hcb : (c1 == 0) = false := by simp [h0]
    have hcb2 : (c1 != 0) = true := by simp [h0]
    clear hc1 hmc
    go_enter Try.func18, Try.ntmps18
    go_wp2_with fail
    refine (HC.out).mono ?_; rintro e w2 ⟨rfl, hb2⟩
    have Hz := Lib.hid (HE.out w2 hb2)
    clear hb2
    go_wp2_with fail
    go_ret2
    exact Hz.out
set_option maxRecDepth 100000 in
set_option maxHeartbeats 1600000 in
theorem MissS_any (B : Nat) (v vs : Value) (xs : List Pc) (n : Nat) (f : Nat → Int) (mm : Int) (w : World) (h : RdP w B v xs) (hst : Rd w B vs n 1 (tab n f)) (hB : B ≤ w.heap.size) (hn : xs.length ≤ 1000) (hn2 : n ≤ 1000) (hz : szP xs) :
    Calls Try.prog 19 #[v, vs, .int .i64 mm] w (RetMp xs n f mm w) := by
  have HC := Lib.hid (stkS_any B v vs xs n f w h hst hB hn hn2 hz)
  have H := Lib.hid h
  have HS := Lib.hid hst
  obtain ⟨A, c, rfl⟩ := h.slice
  obtain ⟨A2, c2, rfl⟩ := rd_sl hst
  have HX := Lib.hid (fun wx => l00In_any mm 0 1000000 wx)
  clear h hz hst
  by_cases h0 : stC xs n f = 0
  · rw [h0] at HC
    cases hb : inB mm 0 1000000 with
    | false =>
      have hmc : mpC xs n f mm = 2 := by unfold mpC; rw [if_pos h0, hb]; rfl
      have HE := Lib.hid (fun w' hb => RetMp.bad (w := w) (w' := w') hmc (by omega) hb)
      rw [hb] at HX
      clear hb h0 hmc
      go_enter Try.func19, Try.ntmps19
      go_wp2_with fail
      refine (HC.out).mono ?_; rintro e w2 ⟨rfl, hb2⟩
      have Hz := Lib.hid (HE.out w2 hb2)
      clear hb2
      go_wp2_with fail
      refine (HX.out _).mono ?_; rintro e w1 ⟨rfl, rfl⟩
      go_wp2_with fail
      go_ret2
      exact Hz.out
    | true =>
      have hmc : mpC xs n f mm = 0 := by unfold mpC; rw [if_pos h0, hb]; rfl
      have hmn : mpN xs n f mm = xs.length := by unfold mpN; rw [if_pos hmc]
      have hmb := inB_iff.1 hb
      obtain ⟨hok, hnl, hq⟩ := stC_ok h0
      obtain ⟨⟨hl1, hl40⟩, _, hsh, htt⟩ := okP_ok hok
      subst hnl
      obtain ⟨m, rfl⟩ : ∃ m : Nat, mm = (m : Int) := ⟨mm.toNat, by omega⟩
      have HM := Lib.hid (fun wx hx hy hz => msS_any B (.slice A xs.length c) (.slice A2 xs.length c2) xs f m wx hx hy hz hsh hl40 hl1 htt hq (by omega))
      have Hfin := Lib.hid (fun v w' (ho : w'.ownsRow w.heap.size 2 1 v xs.length (tab xs.length (ms xs f (m : Int)))) (hb : Below w.heap.size w w') => (show RetMp xs xs.length f (m : Int) w (.returned (.tuple #[v, .int .i64 0])) w' from ⟨v, by rw [hmc], by rw [hmn]; exact ho, hb⟩))
      unfold RetTb at HM
      rw [hb] at HX
      clear hb h0 hmc hmn hmb hok hsh htt hq
      go_enter Try.func19, Try.ntmps19
      go_wp2_with fail
      refine (HC.out).mono ?_; rintro e w2 ⟨rfl, hb2⟩
      have Hb2 := Lib.hid hb2
      have HM2 := Lib.hid (HM.out w2 (H.out.below (hb2.mono hB)) (RdF_below HS.out (hb2.mono hB)) (Nat.le_trans hB hb2.size))
      clear hb2 HM
      go_wp2_with fail
      refine (HX.out _).mono ?_; rintro e w1 ⟨rfl, rfl⟩
      go_wp2_with fail
      refine (HM2.out).mono ?_; rintro e w3 ⟨v3, rfl, ho3, hb3⟩
      have Hz := Lib.hid (Hfin.out v3 w3 (ownsRow_le ho3 Hb2.out.size) (Hb2.out.trans (hb3.mono Hb2.out.size)))
      obtain ⟨A3, c3, rfl⟩ := own_sl ho3
      clear ho3 hb3
      go_wp2_with fail
      go_ret2
      exact Hz.out
  · obtain ⟨c1, hc1⟩ : ∃ z, stC xs n f = z := ⟨_, rfl⟩
    have hmc : mpC xs n f mm = c1 := by unfold mpC; rw [if_neg h0, hc1]
    rw [hc1] at HC h0
    have HE := Lib.hid (fun w' hb => RetMp.bad (w := w) (w' := w') hmc h0 hb)
    have hcb : (c1 == 0) = false := by simp [h0]
    have hcb2 : (c1 != 0) = true := by simp [h0]
    clear hc1 hmc
    go_enter Try.func19, Try.ntmps19
    go_wp2_with fail
    refine (HC.out).mono ?_; rintro e w2 ⟨rfl, hb2⟩
    have Hz := Lib.hid (HE.out w2 hb2)
    clear hb2
    go_wp2_with fail
    go_ret2
    exact Hz.out
end Go.Proofs.Ytalalegjeegocaa
/- Inventories, part 12: how many machines can be made, in plain words. -/
namespace Go.Proofs.Ytalalegjeegocaa
open Go.RowKit Go.Joins

/-- some piece in front of place m, not the first, belongs to piece j -/
def whoS (xs : List Pc) (m j : Nat) : Bool := (List.range m).any fun k => decide (0 < k) && ((pg xs k).par == (j : Int))
theorem whoS_one (xs : List Pc) (j : Nat) : whoS xs 1 j = false := rfl
theorem whoS_succ (xs : List Pc) {m j : Nat} (h0 : 0 < m) : whoS xs (m + 1) j = (whoS xs m j || ((pg xs m).par == (j : Int))) := by
  unfold whoS
  rw [List.range_succ, List.any_append]
  simp [h0]
theorem whoS_put (xs : List Pc) {m p : Nat} (h0 : 0 < m) (hp : (pg xs m).par = (p : Int)) (n : Nat) : tabB n (putB (whoS xs m) p true) = tabB n (whoS xs (m + 1)) := tabB_congr fun i _ => by
  rw [whoS_succ xs h0, hp]
  unfold putB
  by_cases h : i = p
  · subst h; simp
  · rw [if_neg h]
    have : ((p : Int) == (i : Int)) = false := by simp; omega
    rw [this, Bool.or_false]
/-- the pieces without others are all there -/
def mkB (xs : List Pc) (st : Nat → Int) (n : Nat) (mm : Int) : Bool := allN n fun k => whoS xs n k || (ms xs st mm k == 0)
theorem need_zero {xs : List Pc} {n : Nat} (hs : Shp xs n) {st : Nat → Int} (hst : ∀ i, i < n → 0 ≤ st i) {k : Nat} (hk : k < n) : ms xs st 0 k = 0 := by
  have h := ms_bd hs (M := 0) hst k hk
  rw [Nat.zero_mul] at h
  have e : ((0 : Nat) : Int) = 0 := rfl
  rw [e] at h
  omega
theorem mkB_zero {xs : List Pc} {n : Nat} (hs : Shp xs n) {st : Nat → Int} (hst : ∀ i, i < n → 0 ≤ st i) : mkB xs st n 0 = true := by
  unfold mkB allN
  rw [List.all_eq_true]
  intro k hk
  rw [need_zero hs hst (List.mem_range.1 hk)]
  simp
theorem ms_mono {xs : List Pc} {n : Nat} (hs : Shp xs n) {st : Nat → Int} {a b : Int} (hab : a ≤ b) : ∀ k, k < n → ms xs st a k ≤ ms xs st b k := by
  intro k
  induction k using Nat.strongRecOn with
  | ind k ih =>
    intro hk
    have he := hs.each k hk
    rw [ms_eq hs st a hk, ms_eq hs st b hk]
    have : need xs st a k ≤ need xs st b k := by
      unfold need needS
      by_cases h0 : k = 0
      · subst h0
        rw [if_pos rfl, if_pos rfl]
        exact Int.mul_le_mul_of_nonneg_right hab (by omega)
      · have hp := hs.par k (by omega) hk
        rw [if_neg h0, if_neg h0]
        exact Int.mul_le_mul_of_nonneg_left (ih _ (by omega) (by omega)) (by omega)
    omega
theorem ms_nn {xs : List Pc} {n : Nat} (hs : Shp xs n) (st : Nat → Int) (a : Int) {k : Nat} (hk : k < n) : 0 ≤ ms xs st a k := by
  rw [ms_eq hs st a hk]; omega
theorem mkB_mono {xs : List Pc} {n : Nat} (hs : Shp xs n) {st : Nat → Int} {a b : Int} (hab : a ≤ b) (h : mkB xs st n b = true) : mkB xs st n a = true := by
  unfold mkB at h ⊢
  unfold allN at h ⊢
  rw [List.all_eq_true] at h ⊢
  intro k hk
  have h1 := h k hk
  have hk' := List.mem_range.1 hk
  have h2 := ms_mono hs (st := st) hab k hk'
  have h3 := ms_nn hs st a hk'
  cases hw : whoS xs n k with
  | true => rfl
  | false =>
    rw [hw, Bool.false_or] at h1
    have h1 := eq_of_beq h1
    have : ms xs st a k = 0 := by omega
    rw [this]; rfl
/-- the greatest number of machines that can be made -/
structure BestM (xs : List Pc) (st : Nat → Int) (n r : Nat) : Prop where
  le : r ≤ 1000000
  can : mkB xs st n (r : Int) = true
  top : r = 1000000 ∨ mkB xs st n ((r : Int) + 1) = false
theorem BestM.uniq {xs : List Pc} {st : Nat → Int} {n a b : Nat} (hs : Shp xs n) (ha : BestM xs st n a) (hb : BestM xs st n b) : a = b := by
  have key : ∀ {p q : Nat}, BestM xs st n p → BestM xs st n q → q ≤ p := by
    intro p q hp hq
    rcases hp.top with h | h
    · have := hq.le; omega
    · apply Classical.byContradiction
      intro hn
      have := mkB_mono hs (a := (p : Int) + 1) (b := (q : Int)) (by omega) hq.can
      rw [this] at h
      cases h
  have := key ha hb
  have := key hb ha
  omega
end Go.Proofs.Ytalalegjeegocaa
/- Inventories, part 13: l21Makes. -/
namespace Go.Proofs.Ytalalegjeegocaa
open Go.RowKit Go.Joins

theorem mkB_no {xs : List Pc} {st : Nat → Int} {n : Nat} {mm : Int} {k : Nat} (hk : k < n) (hw : whoS xs n k = false) (h : 0 < ms xs st mm k) : mkB xs st n mm = false :=
  allN_bad k hk (by rw [hw, Bool.false_or]; simp; omega)
set_option maxRecDepth 100000 in
set_option maxHeartbeats 3200000 in
theorem makes_any (B : Nat) (v vs : Value) (xs : List Pc) (st : Nat → Int) (mm : Nat) (w : World) (h : RdP w B v xs) (hst : Rd w B vs xs.length 1 (tab xs.length st)) (hB : B ≤ w.heap.size) (hs : Shp xs xs.length) (hn : xs.length ≤ 40) (h1 : 1 ≤ xs.length)
    (ht : ∀ i, i < xs.length → tot xs i ≤ 1000000) (hq : ∀ i, i < xs.length → 0 ≤ st i ∧ st i ≤ 1000000000000) (hm : mm ≤ 1000000) :
    Calls Try.prog 60 #[v, vs, .int .i64 (mm : Int)] w fun e w' => e = .returned (.bool (mkB xs st xs.length (mm : Int))) ∧ Below w.heap.size w w' := by
  have HM := Lib.hid (msS_any B v vs xs st mm w h hst hB hs hn h1 ht hq hm)
  unfold RetTb at HM
  have H := Lib.hid h
  have HS := Lib.hid hs
  have HNn := Lib.hid (fun k => ms_nn (n := xs.length) hs st (mm : Int) (k := k))
  obtain ⟨A, c, rfl⟩ := h.slice
  obtain ⟨A2, c2, rfl⟩ := rd_sl hst
  clear h hs ht hq hst
  go_enter Try.func60, Try.ntmps60
  go_wp2_with fail
  refine (HM.out).mono ?_; rintro e w2 ⟨v3, rfl, ho3, hb3⟩
  clear HM
  obtain ⟨A3, c3, rfl⟩ := own_sl ho3
  have Ho3 := Lib.hid ho3
  have Hb3 := Lib.hid hb3
  have hle := hb3.size
  obtain ⟨wB, hmk, hob, hbb⟩ := mk_bools xs.length (by omega) w2
  have HoB := Lib.hid hob
  have HbB := Lib.hid hbb
  clear ho3 hb3 hob hbb
  go_wp2_with fail
  clear hmk
  go_loopw [9] (fun i wr => ∃ m : Nat, 1 ≤ m ∧ m ≤ xs.length ∧ i = .int .i64 (m : Int) ∧ wr.ownsRow w2.heap.size 4 1 (.slice (some ⟨w2.heap.size, 0, none⟩) xs.length xs.length) xs.length (tabB xs.length (whoS xs m)) ∧ Below w2.heap.size w2 wr) (fun i _ => xs.length - (intOf i).toNat)
  case atStart => exact ⟨1, by omega, by omega, rfl, by rw [tabB_congr (fun i _ => whoS_one xs i)]; exact HoB.out, HbB.out⟩
  case round =>
    obtain ⟨m, hm1, hm2, rfl, hob, hbl⟩ := hrel
    have Hbl := Lib.hid hbl
    have Hob := Lib.hid hob
    clear HoB HbB
    by_cases hlt : m < xs.length
    · obtain ⟨gb, ob, hA, hat⟩ := (H.out.below ((Hb3.out.mono hB).trans (hbl.mono (Nat.le_trans hB hle)))).at m hlt
      subst hA
      have q1 := hat.c1
      have hp := HS.out.par m (by omega) hlt
      obtain ⟨p, hpe⟩ : ∃ p : Nat, (pg xs m).par = (p : Int) := ⟨(pg xs m).par.toNat, by omega⟩
      have hpu := whoS_put xs (show 0 < m by omega) hpe xs.length
      rw [hpe] at q1 hp
      obtain ⟨y0, y1⟩ := own_cellB hob p (by omega)
      have hob4 := (hob.stored p (.bool true)).1
      rw [tabB_set, hpu] at hob4
      have Hob4 := Lib.hid hob4
      have Hbl4 := Lib.hid (Hbl.out.setCell (p := ⟨w2.heap.size, p, none⟩) (Nat.le_refl _) (.bool true))
      have hlt' : (m : Int) < (xs.length : Int) := by omega
      have hpl : (p : Int) < (xs.length : Int) := by omega
      clear hat hpe hpu hob hbl hob4
      go_wp2_with fail
      go_roundw
      case rel => exact ⟨m + 1, by omega, by omega, by go_num, Hob4.out, Hbl4.out⟩
      case measure => first | (simp [intOf]; done) | (simp [intOf]; omega)
    · obtain rfl : m = xs.length := by omega
      have hlt' : ¬ ((xs.length : Int) < (xs.length : Int)) := by omega
      have Hbf := Lib.hid (Hb3.out.trans (hbl.mono hle))
      obtain ⟨g3, hA3, _, _, hc3⟩ := own_cellsI (own_below Ho3.out hbl) (show 0 < xs.length by omega)
      subst hA3
      have HC3 := Lib.hid hc3
      clear hob hbl hc3
      obtain ⟨wq, rfl⟩ : ∃ z, z = wr := ⟨_, rfl⟩
      go_wp2_with fail
      go_loop [10] (fun i => ∃ k : Nat, k ≤ xs.length ∧ i = .int .i64 (k : Int) ∧ allN k (fun k => whoS xs xs.length k || (ms xs st (mm : Int) k == 0)) = true) (fun i => xs.length - (intOf i).toNat)
      case atStart => exact ⟨0, by omega, rfl, rfl⟩
      case round =>
        obtain ⟨k, hk, rfl, hall⟩ := hrel
        have Hall := Lib.hid hall
        clear hall
        by_cases hlk : k < xs.length
        · have hlk' : (k : Int) < (xs.length : Int) := by omega
          obtain ⟨y0, y1⟩ := own_cellB Hob.out k hlk
          have z0 := HC3.out k hlk
          have hnn := HNn.out k hlk
          cases hw : whoS xs xs.length k with
          | true =>
            have Hst := Lib.hid (allN_step Hall.out (show (whoS xs xs.length k || (ms xs st (mm : Int) k == 0)) = true by rw [hw]; rfl))
            rw [hw] at y0
            clear hw
            go_wp2_with fail
            go_round
            case rel => exact ⟨k + 1, by omega, by go_num, Hst.out⟩
            case measure => first | (simp [intOf]; done) | (simp [intOf]; omega)
          | false =>
            rw [hw] at y0
            by_cases hz : ms xs st (mm : Int) k = 0
            · have Hst := Lib.hid (allN_step Hall.out (show (whoS xs xs.length k || (ms xs st (mm : Int) k == 0)) = true by rw [hz]; simp))
              rw [hz] at z0
              clear hw hz hnn
              go_wp2_with fail
              go_round
              case rel => exact ⟨k + 1, by omega, by go_num, Hst.out⟩
              case measure => first | (simp [intOf]; done) | (simp [intOf]; omega)
            · have hp0 : 0 < ms xs st (mm : Int) k := by omega
              have Hr := Lib.hid (mkB_no hlk hw hp0)
              clear hw hz
              generalize ms xs st (mm : Int) k = y at *
              go_wp2_with fail
              go_ret
              exact ⟨ret_bool Hr.out.symm, Hbf.out⟩
        · obtain rfl : k = xs.length := by omega
          have hlk' : ¬ ((xs.length : Int) < (xs.length : Int)) := by omega
          have Hr := Lib.hid (show mkB xs st xs.length (mm : Int) = true from Hall.out)
          go_wp2_with fail
          go_ret
          exact ⟨ret_bool Hr.out.symm, Hbf.out⟩
end Go.Proofs.Ytalalegjeegocaa
/- Inventories, part 14: MostMachines of the reference. -/
namespace Go.Proofs.Ytalalegjeegocaa
open Go.RowKit Go.Joins

def RetMM (xs : List Pc) (n : Nat) (f : Nat → Int) (w : World) (e : Ending) (w' : World) : Prop := ∃ r : Nat, e = .returned (.tuple #[.int .i64 (r : Int), .int .i64 (stC xs n f)]) ∧ (stC xs n f = 0 → BestM xs f xs.length r) ∧ (stC xs n f ≠ 0 → r = 0) ∧ Below w.heap.size w w'
theorem RetMM.bad {xs : List Pc} {n : Nat} {f : Nat → Int} {c : Int} {w w' : World} (h : stC xs n f = c) (hc : c ≠ 0) (hb : Below w.heap.size w w') : RetMM xs n f w (.returned (.tuple #[.int .i64 0, .int .i64 c])) w' :=
  ⟨0, by rw [h]; rfl, fun h0 => absurd (h.symm.trans h0) hc, fun _ => rfl, hb⟩
theorem RetMM.good {xs : List Pc} {n r : Nat} {f : Nat → Int} {w w' : World} (h : stC xs n f = 0) (hr : BestM xs f xs.length r) (hb : Below w.heap.size w w') : RetMM xs n f w (.returned (.tuple #[.int .i64 (r : Int), .int .i64 0])) w' :=
  ⟨r, by rw [h], fun _ => hr, fun h0 => absurd h h0, hb⟩
set_option maxRecDepth 100000 in
set_option maxHeartbeats 3200000 in
theorem MostS_any (B : Nat) (v vs : Value) (xs : List Pc) (n : Nat) (f : Nat → Int) (w : World) (h : RdP w B v xs) (hst : Rd w B vs n 1 (tab n f)) (hB : B ≤ w.heap.size) (hn : xs.length ≤ 1000) (hn2 : n ≤ 1000) (hz : szP xs) :
    Calls Try.prog 22 #[v, vs] w (RetMM xs n f w) := by
  have HC := Lib.hid (stkS_any B v vs xs n f w h hst hB hn hn2 hz)
  have H := Lib.hid h
  have HS := Lib.hid hst
  obtain ⟨A, c, rfl⟩ := h.slice
  obtain ⟨A2, c2, rfl⟩ := rd_sl hst
  clear h hz hst
  by_cases h0 : stC xs n f = 0
  · obtain ⟨hok, hnl, hq⟩ := stC_ok h0
    obtain ⟨⟨hl1, hl40⟩, _, hsh, htt⟩ := okP_ok hok
    subst hnl
    have HG := Lib.hid (fun r w' hr hb => RetMM.good (r := r) (w := w) (w' := w') h0 hr hb)
    have HM := Lib.hid (fun m wx hx hy hz hm => makes_any B (.slice A xs.length c) (.slice A2 xs.length c2) xs f m wx hx hy hz hsh hl40 hl1 htt hq hm)
    have H0 := Lib.hid (mkB_zero (st := f) hsh (fun i hi => (hq i hi).1))
    rw [h0] at HC
    clear h0 hok hsh htt hq
    go_enter Try.func22, Try.ntmps22
    go_wp2_with fail
    refine (HC.out).mono ?_; rintro e w2 ⟨rfl, hb2⟩
    have Hb2 := Lib.hid hb2
    clear hb2
    go_wp2_with fail
    go_loopw [7, 8] (fun a b wr => ∃ lo hi : Nat, lo < hi ∧ hi ≤ 1000001 ∧ a = .int .i64 (lo : Int) ∧ b = .int .i64 (hi : Int) ∧ mkB xs f xs.length (lo : Int) = true ∧ (hi = 1000001 ∨ mkB xs f xs.length (hi : Int) = false) ∧ Below w.heap.size w wr) (fun a b _ => (intOf b - intOf a).toNat)
    case atStart => exact ⟨0, 1000001, by omega, by omega, rfl, rfl, H0.out, .inl rfl, Hb2.out⟩
    case round =>
      obtain ⟨lo, hi, hlh, hhi, rfl, rfl, hlo, hhi2, hbl⟩ := hrel
      have Hlo := Lib.hid hlo
      have Hhi := Lib.hid hhi2
      have Hbl := Lib.hid hbl
      have hw1 : IntKind.i64.wrap ((hi : Int) - (lo : Int)) = (hi : Int) - (lo : Int) := IntWalk.i64_in _ (by omega)
      clear hlo hhi2
      by_cases hgo : 1 < (hi : Int) - (lo : Int)
      · obtain ⟨mid, hmid⟩ : ∃ mid : Nat, mid = (lo + hi) / 2 := ⟨_, rfl⟩
        have hmd : lo < mid ∧ mid < hi := by omega
        have hw2 : IntKind.i64.wrap ((lo : Int) + (hi : Int)) = (lo : Int) + (hi : Int) := IntWalk.i64_in _ (by omega)
        have hq2 : ((lo : Int) + (hi : Int)).tdiv 2 = (mid : Int) := by rw [Int.tdiv_eq_ediv_of_nonneg (by omega)]; omega
        have hw3 : IntKind.i64.wrap (mid : Int) = (mid : Int) := IntWalk.i64_in _ (by omega)
        have HK := Lib.hid (HM.out mid wr (H.out.below (hbl.mono hB)) (RdF_below HS.out (hbl.mono hB)) (Nat.le_trans hB hbl.size) (by omega))
        clear hmid hbl
        cases hk : mkB xs f xs.length (mid : Int) with
        | true =>
          rw [hk] at HK
          have Hk := Lib.hid hk
          clear hk
          go_wp2_with fail
          refine (HK.out).mono ?_; rintro e w4 ⟨rfl, hb4⟩
          have Hb4 := Lib.hid (Hbl.out.trans (hb4.mono Hbl.out.size))
          clear hb4
          go_wp2_with fail
          go_roundw
          case rel => exact ⟨mid, hi, hmd.2, hhi, rfl, rfl, Hk.out, Hhi.out, Hb4.out⟩
          case measure => simp [intOf]; omega
        | false =>
          rw [hk] at HK
          have Hk := Lib.hid hk
          clear hk
          go_wp2_with fail
          refine (HK.out).mono ?_; rintro e w4 ⟨rfl, hb4⟩
          have Hb4 := Lib.hid (Hbl.out.trans (hb4.mono Hbl.out.size))
          clear hb4
          go_wp2_with fail
          go_roundw
          case rel => exact ⟨lo, mid, hmd.1, by omega, rfl, rfl, Hlo.out, .inr Hk.out, Hb4.out⟩
          case measure => simp [intOf]; omega
      · have hbest : BestM xs f xs.length lo := ⟨by omega, Hlo.out, by
          rcases Hhi.out with h | h
          · exact .inl (by omega)
          · refine .inr ?_
            have e : (lo : Int) + 1 = (hi : Int) := by omega
            rw [e]; exact h⟩
        have Hz := Lib.hid (HG.out lo wr hbest hbl)
        clear hbest hbl
        go_wp2_with fail
        go_ret2
        exact Hz.out
  · obtain ⟨c1, hc1⟩ : ∃ z, stC xs n f = z := ⟨_, rfl⟩
    rw [hc1] at HC h0
    have HE := Lib.hid (fun w' hb => RetMM.bad (w := w) (w' := w') hc1 h0 hb)
    have hcb : (c1 == 0) = false := by simp [h0]
    have hcb2 : (c1 != 0) = true := by simp [h0]
    clear hc1
    go_enter Try.func22, Try.ntmps22
    go_wp2_with fail
    refine (HC.out).mono ?_; rintro e w2 ⟨rfl, hb2⟩
    have Hz := Lib.hid (HE.out w2 hb2)
    clear hb2
    go_wp2_with fail
    go_ret2
    exact Hz.out
end Go.Proofs.Ytalalegjeegocaa
/- Inventories, part 15: MostMachines of the program. -/
namespace Go.Proofs.Ytalalegjeegocaa
open Go.RowKit Go.Joins

set_option maxRecDepth 100000 in
set_option maxHeartbeats 6400000 in
theorem MostI_any (B : Nat) (v vs : Value) (xs : List Pc) (n : Nat) (f : Nat → Int) (w : World) (h : RdP w B v xs) (hst : Rd w B vs n 1 (tab n f)) (hB : B ≤ w.heap.size) (hn : xs.length ≤ 1000) (hn2 : n ≤ 1000) (hz : szP xs) (hcp : ∀ A c, v = .slice A xs.length c → xs.length ≤ c) :
    Calls Try.prog 21 #[v, vs] w (RetMM xs n f w) := by
  have HC := Lib.hid (stkI_any B v vs xs n f w h hst hB hn hn2 hz)
  have H := Lib.hid h
  have HR := Lib.hid hst
  obtain ⟨A, c, rfl⟩ := h.slice
  obtain ⟨A2, c2, rfl⟩ := rd_sl hst
  have hcap := hcp _ _ rfl
  clear h hz hst hcp
  by_cases h0 : stC xs n f = 0
  · obtain ⟨hok, hnl, hq⟩ := stC_ok h0
    obtain ⟨⟨hl1, hl40⟩, _, hsh, htt⟩ := okP_ok hok
    subst hnl
    have HG := Lib.hid (fun r w' hr hb => RetMM.good (r := r) (w := w) (w' := w') h0 hr hb)
    have HM := Lib.hid (fun m wx hx hy hz hm => msI_any B (.slice A xs.length c) (.slice A2 xs.length c2) xs f m wx hx hy hz hsh hl40 hl1 htt hq hm)
    have H0 := Lib.hid (mkB_zero (st := f) hsh (fun i hi => (hq i hi).1))
    have HS := Lib.hid hsh
    rw [h0] at HC
    clear h0 hok hsh htt hq
    obtain ⟨gb, ob, hA, _⟩ := H.out.at 0 (by omega)
    subst hA
    go_enter Try.func21, Try.ntmps21
    go_wp2_with fail
    refine (HC.out).mono ?_; rintro e w2 ⟨rfl, hb2⟩
    have Hb2 := Lib.hid hb2
    have hle := hb2.size
    obtain ⟨wB, hmk, hob, hbb⟩ := mk_bools xs.length (by omega) w2
    have HoB := Lib.hid hob
    have HbB := Lib.hid hbb
    have hl1' : (1 : Int) ≤ (xs.length : Int) := by omega
    clear hb2 hob hbb
    by_cases hc1 : c = 1
    · have Hx1 := Lib.hid (show xs.length = 1 by omega)
      have hcc : ¬ (1 < c) := by omega
      clear hc1
      go_wp2_with fail
      clear hmk
      go_loopw [28] (fun i wr => ∃ j : Nat, j + 1 ≤ xs.length ∧ i = .int .i64 (j : Int) ∧ wr.ownsRow w2.heap.size 4 1 (.slice (some ⟨w2.heap.size, 0, none⟩) xs.length xs.length) xs.length (tabB xs.length (whoS xs (j + 1))) ∧ Below w2.heap.size w2 wr) (fun i _ => xs.length - (intOf i).toNat)
      case atStart => exact ⟨0, by omega, rfl, by rw [tabB_congr (fun i _ => whoS_one xs i)]; exact HoB.out, HbB.out⟩
      case round =>
        obtain ⟨j, hj, rfl, hob, hbl⟩ := hrel
        have Hbl := Lib.hid hbl
        have Hob := Lib.hid hob
        clear HoB HbB
        by_cases hlt : j + 1 < xs.length
        · exact absurd hlt (by have := Hx1.out; omega)
        · have hlt' : ¬ ((j : Int) < ((xs.length - 1 : Nat) : Int)) := by omega
          have hje : j + 1 = xs.length := by omega
          rw [hje] at hob
          have HoQ := Lib.hid hob
          have HbQ := Lib.hid (Hb2.out.trans (hbl.mono hle))
          clear hob hbl Hob Hbl
          go_wp2_with fail
          go_loopw [10, 11] (fun a b wr => ∃ lo hi : Nat, lo ≤ hi ∧ hi ≤ 1000000 ∧ a = .int .i64 (lo : Int) ∧ b = .int .i64 (hi : Int) ∧ mkB xs f xs.length (lo : Int) = true ∧ (hi = 1000000 ∨ mkB xs f xs.length ((hi : Int) + 1) = false) ∧ wr.ownsRow w2.heap.size 4 1 (.slice (some ⟨w2.heap.size, 0, none⟩) xs.length xs.length) xs.length (tabB xs.length (whoS xs xs.length)) ∧ Below w.heap.size w wr) (fun a b _ => (intOf b - intOf a).toNat)
          case atStart => exact ⟨0, 1000000, by omega, by omega, rfl, rfl, H0.out, .inl rfl, HoQ.out, HbQ.out⟩
          case round =>
            obtain ⟨lo, hi, hlh, hhi, rfl, rfl, hlo, hhi2, hob, hbl⟩ := hrel
            have Hlo := Lib.hid hlo
            have Hhi := Lib.hid hhi2
            have Hbl := Lib.hid hbl
            clear hlo hhi2 HoQ HbQ
            obtain ⟨wo, rfl⟩ : ∃ z, z = wr := ⟨_, rfl⟩
            by_cases hgo : (lo : Int) < (hi : Int)
            · obtain ⟨mid, hmid⟩ : ∃ mid : Nat, mid = (lo + hi + 1) / 2 := ⟨_, rfl⟩
              have hmd : lo < mid ∧ mid ≤ hi := by omega
              have hw1 : IntKind.i64.wrap ((lo : Int) + (hi : Int)) = (lo : Int) + (hi : Int) := IntWalk.i64_in _ (by omega)
              have hw2 : IntKind.i64.wrap ((lo : Int) + (hi : Int) + 1) = (lo : Int) + (hi : Int) + 1 := IntWalk.i64_in _ (by omega)
              have hq2 : ((lo : Int) + (hi : Int) + 1).tdiv 2 = (mid : Int) := by rw [Int.tdiv_eq_ediv_of_nonneg (by omega)]; omega
              have hw3 : IntKind.i64.wrap (mid : Int) = (mid : Int) := IntWalk.i64_in _ (by omega)
              have hw4 : IntKind.i64.wrap ((mid : Int) - 1) = ((mid - 1 : Nat) : Int) := by rw [IntWalk.i64_in _ (by omega)]; omega
              have HK := Lib.hid (HM.out mid wo (H.out.below (hbl.mono hB)) (RdF_below HR.out (hbl.mono hB)) (Nat.le_trans hB hbl.size) (by omega))
              unfold RetTb at HK
              have Hob := Lib.hid hob
              clear hmid hbl hob
              go_wp2_with fail
              refine (HK.out).mono ?_; rintro e w4 ⟨v4, rfl, ho4, hb4⟩
              have Hbl4 := Lib.hid (Hbl.out.trans (hb4.mono Hbl.out.size))
              have Hob4 := Lib.hid (own_below Hob.out hb4)
              obtain ⟨A4, c4, rfl⟩ := own_sl ho4
              obtain ⟨g4, hA4, _, _, hc4⟩ := own_cellsI ho4 (show 0 < xs.length by omega)
              subst hA4
              have HC4 := Lib.hid hc4
              clear hb4 ho4 hc4 HK Hob
              go_wp2_with fail
              go_loop [13, 50] (fun e i => ∃ k : Nat, k ≤ xs.length ∧ i = .int .i64 (k : Int) ∧ e = .bool (allN k (fun k => whoS xs xs.length k || (ms xs f (mid : Int) k == 0)))) (fun _ i => xs.length - (intOf i).toNat)
              case atStart => exact ⟨0, by omega, rfl, rfl⟩
              case round =>
                obtain ⟨k, hk, rfl, rfl⟩ := hrel
                by_cases hlk : k < xs.length
                · have hlk' : (k : Int) < (xs.length : Int) := by omega
                  obtain ⟨y0, y1⟩ := own_cellB Hob4.out k hlk
                  have z0 := HC4.out k hlk
                  have Hst := Lib.hid (show allN (k + 1) (fun k => whoS xs xs.length k || (ms xs f (mid : Int) k == 0)) = (allN k (fun k => whoS xs xs.length k || (ms xs f (mid : Int) k == 0)) && (whoS xs xs.length k || (ms xs f (mid : Int) k == 0))) from by unfold allN; rw [List.range_succ, List.all_append]; simp)
                  generalize whoS xs xs.length k = wh at *
                  generalize ms xs f (mid : Int) k = y at *
                  cases hal : allN k (fun k => whoS xs xs.length k || (ms xs f (mid : Int) k == 0)) with
                  | false =>
                    rw [hal] at Hst
                    clear hal
                    go_wp2_with fail
                    go_round
                    case rel => exact ⟨k + 1, by omega, by go_num, by rw [Hst.out]; rfl⟩
                    case measure => first | (simp [intOf]; done) | (simp [intOf]; omega)
                  | true =>
                    rw [hal] at Hst
                    clear hal
                    cases wh with
                    | true =>
                      go_wp2_with fail
                      go_round
                      case rel => exact ⟨k + 1, by omega, by go_num, by rw [Hst.out]; rfl⟩
                      case measure => first | (simp [intOf]; done) | (simp [intOf]; omega)
                    | false =>
                      go_wp2_with fail
                      go_round
                      case rel => exact ⟨k + 1, by omega, by go_num, by rw [Hst.out]; rfl⟩
                      case measure => first | (simp [intOf]; done) | (simp [intOf]; omega)
                · obtain rfl : k = xs.length := by omega
                  have hlk' : ¬ ((xs.length : Int) < (xs.length : Int)) := by omega
                  cases hk : allN xs.length (fun k => whoS xs xs.length k || (ms xs f (mid : Int) k == 0)) with
                  | true =>
                    have Hk := Lib.hid (show mkB xs f xs.length (mid : Int) = true from hk)
                    clear hk
                    go_wp2_with fail
                    go_roundw
                    case rel => exact ⟨mid, hi, hmd.2, hhi, rfl, rfl, Hk.out, Hhi.out, Hob4.out, Hbl4.out⟩
                    case measure => simp [intOf]; omega
                  | false =>
                    have Hk := Lib.hid (show mkB xs f xs.length (mid : Int) = false from hk)
                    clear hk
                    go_wp2_with fail
                    go_roundw
                    case rel => exact ⟨lo, mid - 1, by omega, by omega, rfl, rfl, Hlo.out, .inr (by rw [show ((mid - 1 : Nat) : Int) + 1 = (mid : Int) by omega]; exact Hk.out), Hob4.out, Hbl4.out⟩
                    case measure => simp [intOf]; omega
            · have hbest : BestM xs f xs.length lo := ⟨by omega, Hlo.out, by
                have e : lo = hi := by omega
                rcases Hhi.out with h | h
                · exact .inl (by omega)
                · refine .inr ?_
                  rw [e]; exact h⟩
              have Hz := Lib.hid (HG.out lo wo hbest hbl)
              clear hbest hbl hob
              go_wp2_with fail
              go_ret2
              exact Hz.out
    · have hcc : 1 < c := by omega
      go_wp2_with fail
      clear hmk
      go_loopw [28] (fun i wr => ∃ j : Nat, j + 1 ≤ xs.length ∧ i = .int .i64 (j : Int) ∧ wr.ownsRow w2.heap.size 4 1 (.slice (some ⟨w2.heap.size, 0, none⟩) xs.length xs.length) xs.length (tabB xs.length (whoS xs (j + 1))) ∧ Below w2.heap.size w2 wr) (fun i _ => xs.length - (intOf i).toNat)
      case atStart => exact ⟨0, by omega, rfl, by rw [tabB_congr (fun i _ => whoS_one xs i)]; exact HoB.out, HbB.out⟩
      case round =>
        obtain ⟨j, hj, rfl, hob, hbl⟩ := hrel
        have Hbl := Lib.hid hbl
        have Hob := Lib.hid hob
        clear HoB HbB
        by_cases hlt : j + 1 < xs.length
        · obtain ⟨gb', ob', hA', hat⟩ := (H.out.below ((Hb2.out.mono hB).trans (hbl.mono (Nat.le_trans hB hle)))).at (j + 1) hlt
          injection hA' with hA'
          injection hA' with e1 e2
          subst e1 e2
          rw [show ob + (j + 1) * 4 = ob + 4 + j * 4 by omega] at hat
          have p0 := hat.c0
          have p1 := hat.c1
          have p2 := hat.c2
          have p3 := hat.c3
          have hlt' : (j : Int) < ((xs.length - 1 : Nat) : Int) := by omega
          have hp := HS.out.par (j + 1) (by omega) hlt
          obtain ⟨p, hpe⟩ : ∃ p : Nat, (pg xs (j + 1)).par = (p : Int) := ⟨(pg xs (j + 1)).par.toNat, by omega⟩
          have hpu := whoS_put xs (show 0 < j + 1 by omega) hpe xs.length
          rw [hpe] at p1 hp
          have hba := (Below.refl wr.heap.size wr).alloc (Nat.le_refl _) (.cells #[.string (pg xs (j + 1)).name, .int .i64 (p : Int), .int .i64 (pg xs (j + 1)).each, .int .i64 (pg xs (j + 1)).price] 79)
          have Hbl := Lib.hid (Hbl.out.trans (hba.mono Hbl.out.size))
          have hob := own_below hob hba
          have HCa := Lib.hid (heap_alloc_new wr (.cells #[.string (pg xs (j + 1)).name, .int .i64 (p : Int), .int .i64 (pg xs (j + 1)).each, .int .i64 (pg xs (j + 1)).price] 79))
          clear hat hpe hba hbl
          generalize (pg xs (j + 1)).name = nm at *
          generalize (pg xs (j + 1)).each = ek at *
          generalize (pg xs (j + 1)).price = pr at *
          go_upto_region 8 with (fail)
          generalize wr.alloc (.cells #[.string nm, .int .i64 (p : Int), .int .i64 ek, .int .i64 pr] 79) = wa at *
          generalize wr.heap.size = ga at *
          clear p0 p1 p2 p3
          obtain ⟨y0, y1, y2, y3⟩ := cells4 HCa.out
          obtain ⟨x0, x1⟩ := own_cellB hob p (by omega)
          have hob4 := (hob.stored p (.bool true)).1
          rw [tabB_set, hpu] at hob4
          have Hob4 := Lib.hid hob4
          have Hbl4 := Lib.hid (Hbl.out.setCell (p := ⟨w2.heap.size, p, none⟩) (Nat.le_refl _) (.bool true))
          have hpl : (p : Int) < (xs.length : Int) := by omega
          clear hpu hob hob4 Hob
          go_wp2_with fail
          go_roundw
          case rel => exact ⟨j + 1, by omega, by go_num, Hob4.out, Hbl4.out⟩
          case measure => first | (simp [intOf]; done) | (simp [intOf]; omega)
        · have hlt' : ¬ ((j : Int) < ((xs.length - 1 : Nat) : Int)) := by omega
          have hje : j + 1 = xs.length := by omega
          rw [hje] at hob
          have HoQ := Lib.hid hob
          have HbQ := Lib.hid (Hb2.out.trans (hbl.mono hle))
          clear hob hbl Hob Hbl
          go_wp2_with fail
          go_loopw [10, 11] (fun a b wr => ∃ lo hi : Nat, lo ≤ hi ∧ hi ≤ 1000000 ∧ a = .int .i64 (lo : Int) ∧ b = .int .i64 (hi : Int) ∧ mkB xs f xs.length (lo : Int) = true ∧ (hi = 1000000 ∨ mkB xs f xs.length ((hi : Int) + 1) = false) ∧ wr.ownsRow w2.heap.size 4 1 (.slice (some ⟨w2.heap.size, 0, none⟩) xs.length xs.length) xs.length (tabB xs.length (whoS xs xs.length)) ∧ Below w.heap.size w wr) (fun a b _ => (intOf b - intOf a).toNat)
          case atStart => exact ⟨0, 1000000, by omega, by omega, rfl, rfl, H0.out, .inl rfl, HoQ.out, HbQ.out⟩
          case round =>
            obtain ⟨lo, hi, hlh, hhi, rfl, rfl, hlo, hhi2, hob, hbl⟩ := hrel
            have Hlo := Lib.hid hlo
            have Hhi := Lib.hid hhi2
            have Hbl := Lib.hid hbl
            clear hlo hhi2 HoQ HbQ
            obtain ⟨wo, rfl⟩ : ∃ z, z = wr := ⟨_, rfl⟩
            by_cases hgo : (lo : Int) < (hi : Int)
            · obtain ⟨mid, hmid⟩ : ∃ mid : Nat, mid = (lo + hi + 1) / 2 := ⟨_, rfl⟩
              have hmd : lo < mid ∧ mid ≤ hi := by omega
              have hw1 : IntKind.i64.wrap ((lo : Int) + (hi : Int)) = (lo : Int) + (hi : Int) := IntWalk.i64_in _ (by omega)
              have hw2 : IntKind.i64.wrap ((lo : Int) + (hi : Int) + 1) = (lo : Int) + (hi : Int) + 1 := IntWalk.i64_in _ (by omega)
              have hq2 : ((lo : Int) + (hi : Int) + 1).tdiv 2 = (mid : Int) := by rw [Int.tdiv_eq_ediv_of_nonneg (by omega)]; omega
              have hw3 : IntKind.i64.wrap (mid : Int) = (mid : Int) := IntWalk.i64_in _ (by omega)
              have hw4 : IntKind.i64.wrap ((mid : Int) - 1) = ((mid - 1 : Nat) : Int) := by rw [IntWalk.i64_in _ (by omega)]; omega
              have HK := Lib.hid (HM.out mid wo (H.out.below (hbl.mono hB)) (RdF_below HR.out (hbl.mono hB)) (Nat.le_trans hB hbl.size) (by omega))
              unfold RetTb at HK
              have Hob := Lib.hid hob
              clear hmid hbl hob
              go_wp2_with fail
              refine (HK.out).mono ?_; rintro e w4 ⟨v4, rfl, ho4, hb4⟩
              have Hbl4 := Lib.hid (Hbl.out.trans (hb4.mono Hbl.out.size))
              have Hob4 := Lib.hid (own_below Hob.out hb4)
              obtain ⟨A4, c4, rfl⟩ := own_sl ho4
              obtain ⟨g4, hA4, _, _, hc4⟩ := own_cellsI ho4 (show 0 < xs.length by omega)
              subst hA4
              have HC4 := Lib.hid hc4
              clear hb4 ho4 hc4 HK Hob
              go_wp2_with fail
              go_loop [13, 50] (fun e i => ∃ k : Nat, k ≤ xs.length ∧ i = .int .i64 (k : Int) ∧ e = .bool (allN k (fun k => whoS xs xs.length k || (ms xs f (mid : Int) k == 0)))) (fun _ i => xs.length - (intOf i).toNat)
              case atStart => exact ⟨0, by omega, rfl, rfl⟩
              case round =>
                obtain ⟨k, hk, rfl, rfl⟩ := hrel
                by_cases hlk : k < xs.length
                · have hlk' : (k : Int) < (xs.length : Int) := by omega
                  obtain ⟨y0, y1⟩ := own_cellB Hob4.out k hlk
                  have z0 := HC4.out k hlk
                  have Hst := Lib.hid (show allN (k + 1) (fun k => whoS xs xs.length k || (ms xs f (mid : Int) k == 0)) = (allN k (fun k => whoS xs xs.length k || (ms xs f (mid : Int) k == 0)) && (whoS xs xs.length k || (ms xs f (mid : Int) k == 0))) from by unfold allN; rw [List.range_succ, List.all_append]; simp)
                  generalize whoS xs xs.length k = wh at *
                  generalize ms xs f (mid : Int) k = y at *
                  cases hal : allN k (fun k => whoS xs xs.length k || (ms xs f (mid : Int) k == 0)) with
                  | false =>
                    rw [hal] at Hst
                    clear hal
                    go_wp2_with fail
                    go_round
                    case rel => exact ⟨k + 1, by omega, by go_num, by rw [Hst.out]; rfl⟩
                    case measure => first | (simp [intOf]; done) | (simp [intOf]; omega)
                  | true =>
                    rw [hal] at Hst
                    clear hal
                    cases wh with
                    | true =>
                      go_wp2_with fail
                      go_round
                      case rel => exact ⟨k + 1, by omega, by go_num, by rw [Hst.out]; rfl⟩
                      case measure => first | (simp [intOf]; done) | (simp [intOf]; omega)
                    | false =>
                      go_wp2_with fail
                      go_round
                      case rel => exact ⟨k + 1, by omega, by go_num, by rw [Hst.out]; rfl⟩
                      case measure => first | (simp [intOf]; done) | (simp [intOf]; omega)
                · obtain rfl : k = xs.length := by omega
                  have hlk' : ¬ ((xs.length : Int) < (xs.length : Int)) := by omega
                  cases hk : allN xs.length (fun k => whoS xs xs.length k || (ms xs f (mid : Int) k == 0)) with
                  | true =>
                    have Hk := Lib.hid (show mkB xs f xs.length (mid : Int) = true from hk)
                    clear hk
                    go_wp2_with fail
                    go_roundw
                    case rel => exact ⟨mid, hi, hmd.2, hhi, rfl, rfl, Hk.out, Hhi.out, Hob4.out, Hbl4.out⟩
                    case measure => simp [intOf]; omega
                  | false =>
                    have Hk := Lib.hid (show mkB xs f xs.length (mid : Int) = false from hk)
                    clear hk
                    go_wp2_with fail
                    go_roundw
                    case rel => exact ⟨lo, mid - 1, by omega, by omega, rfl, rfl, Hlo.out, .inr (by rw [show ((mid - 1 : Nat) : Int) + 1 = (mid : Int) by omega]; exact Hk.out), Hob4.out, Hbl4.out⟩
                    case measure => simp [intOf]; omega
            · have hbest : BestM xs f xs.length lo := ⟨by omega, Hlo.out, by
                have e : lo = hi := by omega
                rcases Hhi.out with h | h
                · exact .inl (by omega)
                · refine .inr ?_
                  rw [e]; exact h⟩
              have Hz := Lib.hid (HG.out lo wo hbest hbl)
              clear hbest hbl hob
              go_wp2_with fail
              go_ret2
              exact Hz.out
  · obtain ⟨c1, hc1⟩ : ∃ z, stC xs n f = z := ⟨_, rfl⟩
    rw [hc1] at HC h0
    have HE := Lib.hid (fun w' hb => RetMM.bad (w := w) (w' := w') hc1 h0 hb)
    have hcb : (c1 == 0) = false := by simp [h0]
    have hcb2 : (c1 != 0) = true := by simp [h0]
    clear hc1
    go_enter Try.func21, Try.ntmps21
    go_wp2_with fail
    refine (HC.out).mono ?_; rintro e w2 ⟨rfl, hb2⟩
    have Hz := Lib.hid (HE.out w2 hb2)
    clear hb2
    go_wp2_with fail
    go_ret2
    exact Hz.out
end Go.Proofs.Ytalalegjeegocaa
/- Inventories, part 16: a list without a piece and all that belongs to it, in plain words. -/
namespace Go.Proofs.Ytalalegjeegocaa

/-- the places that stay -/
def kpt (xs : List Pc) (k m : Nat) : List Nat := (List.range m).filter fun i => !(und xs k i)
/-- the new place of a piece -/
def plc (xs : List Pc) (k i : Nat) : Nat := (kpt xs k i).length
def cutP (xs : List Pc) (k i : Nat) : Pc := if i = 0 then pg xs 0 else { pg xs i with par := (plc xs k (pg xs i).par.toNat : Int) }
def cutL (xs : List Pc) (k m : Nat) : List Pc := (kpt xs k m).map (cutP xs k)
theorem kpt_no {xs : List Pc} {k m : Nat} (h : und xs k m = true) : kpt xs k (m + 1) = kpt xs k m := by
  unfold kpt
  rw [List.range_succ, List.filter_append]
  simp [h]
theorem kpt_yes {xs : List Pc} {k m : Nat} (h : und xs k m = false) : kpt xs k (m + 1) = kpt xs k m ++ [m] := by
  unfold kpt
  rw [List.range_succ, List.filter_append]
  simp [h]
theorem cutL_no {xs : List Pc} {k m : Nat} (h : und xs k m = true) : cutL xs k (m + 1) = cutL xs k m := by unfold cutL; rw [kpt_no h]
theorem cutL_yes {xs : List Pc} {k m : Nat} (h : und xs k m = false) : cutL xs k (m + 1) = cutL xs k m ++ [cutP xs k m] := by unfold cutL; rw [kpt_yes h, List.map_append]; rfl
theorem cutL_len (xs : List Pc) (k m : Nat) : (cutL xs k m).length = plc xs k m := by unfold cutL plc; rw [List.length_map]
theorem plc_le (xs : List Pc) (k m : Nat) : plc xs k m ≤ m := by
  unfold plc kpt
  exact Nat.le_trans (List.length_filter_le _ _) (by simp)
theorem plc_no {xs : List Pc} {k m : Nat} (h : und xs k m = true) : plc xs k (m + 1) = plc xs k m := by unfold plc; rw [kpt_no h]
theorem plc_yes {xs : List Pc} {k m : Nat} (h : und xs k m = false) : plc xs k (m + 1) = plc xs k m + 1 := by unfold plc; rw [kpt_yes h, List.length_append]; rfl
theorem plc_step (xs : List Pc) (k m : Nat) : plc xs k m ≤ plc xs k (m + 1) := by
  cases h : und xs k m with
  | true => rw [plc_no h]; exact Nat.le_refl _
  | false => rw [plc_yes h]; omega
theorem plc_mono (xs : List Pc) (k : Nat) {a : Nat} : ∀ {b : Nat}, a ≤ b → plc xs k a ≤ plc xs k b := by
  intro b
  induction b with
  | zero => intro h; rw [Nat.le_zero.1 h]; exact Nat.le_refl _
  | succ b ih =>
    intro h
    by_cases e : a = b + 1
    · rw [e]; exact Nat.le_refl _
    · exact Nat.le_trans (ih (by omega)) (plc_step xs k b)
/-- a piece that stays: its parent stays -/
theorem par_stays {xs : List Pc} {n k i : Nat} (hs : Shp xs n) (h0 : 0 < i) (hi : i < n) (h : und xs k i = false) : und xs k (pg xs i).par.toNat = false := by
  have hp := hs.par i h0 hi
  by_cases h1 : k < i
  · rw [← und_step hs h1 hi]; exact h
  · by_cases h2 : i = k
    · subst h2; rw [und_self] at h; cases h
    · exact und_lt xs (by omega)
theorem plc_lt {xs : List Pc} {k i m : Nat} (h : i < m) (hu : und xs k i = false) : plc xs k i < plc xs k m := by
  have := plc_mono xs k (show i + 1 ≤ m from h)
  rw [plc_yes hu] at this
  omega
/-- a piece that stays, at its new place -/
theorem cutL_at {xs : List Pc} {k i : Nat} (hu : und xs k i = false) : ∀ m, i < m → pg (cutL xs k m) (plc xs k i) = cutP xs k i
  | 0, h => by omega
  | m + 1, h => by
    have hl := cutL_len xs k m
    cases hm : und xs k m with
    | true =>
      have hne : i ≠ m := fun e => by rw [e, hm] at hu; cases hu
      rw [cutL_no hm]
      exact cutL_at hu m (by omega)
    | false =>
      rw [cutL_yes hm]
      unfold pg
      by_cases e : i = m
      · subst e
        rw [← hl]
        exact getD_last _ _ _
      · have := plc_lt (show i < m by omega) hu
        rw [getD_left _ _ _ _ (by omega)]
        exact cutL_at hu m (by omega)
/-- a place of the list that is left is the new place of a piece that stays -/
theorem plc_onto (xs : List Pc) (k : Nat) : ∀ m j, j < plc xs k m → ∃ i, i < m ∧ und xs k i = false ∧ plc xs k i = j
  | 0, j, h => by
    have := plc_le xs k 0
    omega
  | m + 1, j, h => by
    cases hm : und xs k m with
    | true =>
      rw [plc_no hm] at h
      obtain ⟨i, h1, h2, h3⟩ := plc_onto xs k m j h
      exact ⟨i, by omega, h2, h3⟩
    | false =>
      rw [plc_yes hm] at h
      by_cases e : j = plc xs k m
      · exact ⟨m, by omega, hm, e.symm⟩
      · obtain ⟨i, h1, h2, h3⟩ := plc_onto xs k m j (by omega)
        exact ⟨i, by omega, h2, h3⟩
theorem plc_inj {xs : List Pc} {k i j : Nat} (hi : und xs k i = false) (hj : und xs k j = false) (h : plc xs k i = plc xs k j) : i = j := by
  rcases Nat.lt_trichotomy i j with h1 | h1 | h1
  · have := plc_lt h1 hi; omega
  · exact h1
  · have := plc_lt h1 hj; omega
theorem plc_zero (xs : List Pc) (k : Nat) : plc xs k 0 = 0 := Nat.le_zero.1 (plc_le xs k 0)
/-- the list that is left has the shape of pieces -/
theorem cut_shp {xs : List Pc} {n k : Nat} (hs : Shp xs n) (hk : 0 < k) : Shp (cutL xs k n) (plc xs k n) := by
  refine ⟨fun h0 => ?_, fun j h0 hj => ?_, fun j hj => ?_⟩
  · have hn : 0 < n := by have := plc_le xs k n; omega
    have h := cutL_at (und_lt xs hk) n hn
    rw [plc_zero] at h
    rw [h]
    exact hs.par0 hn
  · obtain ⟨i, h1, h2, h3⟩ := plc_onto xs k n j hj
    have hi : i ≠ 0 := fun e => by subst e; rw [plc_zero] at h3; omega
    have h := cutL_at h2 n h1
    rw [h3] at h
    rw [h]
    unfold cutP
    rw [if_neg hi]
    have hp := hs.par i (by omega) h1
    have := plc_lt (show (pg xs i).par.toNat < i by omega) (par_stays hs (by omega) h1 h2)
    show (0 : Int) ≤ (plc xs k (pg xs i).par.toNat : Int) ∧ (plc xs k (pg xs i).par.toNat : Int) < (j : Int)
    omega
  · obtain ⟨i, h1, h2, h3⟩ := plc_onto xs k n j hj
    have h := cutL_at h2 n h1
    rw [h3] at h
    rw [h]
    have he := hs.each i h1
    unfold cutP
    split
    · rename_i e
      subst e
      exact he
    · exact he
theorem cut_tot {xs : List Pc} {n k : Nat} (hs : Shp xs n) (hk : 0 < k) : ∀ i, i < n → und xs k i = false → tot (cutL xs k n) (plc xs k i) = tot xs i := by
  intro i
  induction i using Nat.strongRecOn with
  | ind i ih =>
    intro hi hu
    have hsc := cut_shp hs hk
    have h := cutL_at hu n hi
    have hl := plc_lt hi hu
    by_cases h0 : i = 0
    · subst h0
      rw [plc_zero] at h hl ⊢
      rw [tot_zero hsc hl, tot_zero hs hi, h]
      rfl
    · have hp := hs.par i (by omega) hi
      have hlt : (pg xs i).par.toNat < i := by omega
      have h0l := plc_lt (show 0 < i by omega) (und_lt xs hk)
      rw [tot_step hsc (by omega) hl, tot_step hs (by omega) hi, h]
      have e : (cutP xs k i).par = (plc xs k (pg xs i).par.toNat : Int) := by unfold cutP; rw [if_neg h0]
      have e2 : (cutP xs k i).each = (pg xs i).each := by unfold cutP; rw [if_neg h0]
      rw [e, e2, Int.toNat_natCast, ih _ hlt (by omega) (par_stays hs (by omega) hi hu)]
end Go.Proofs.Ytalalegjeegocaa
/- Inventories, part 17: the list that is left is a valid one. -/
namespace Go.Proofs.Ytalalegjeegocaa

theorem cutP_name (xs : List Pc) (k i : Nat) : (cutP xs k i).name = (pg xs i).name := by
  unfold cutP; split
  · rename_i e; subst e; rfl
  · rfl
theorem cutP_each (xs : List Pc) (k i : Nat) : (cutP xs k i).each = (pg xs i).each := by
  unfold cutP; split
  · rename_i e; subst e; rfl
  · rfl
theorem cutP_price (xs : List Pc) (k i : Nat) : (cutP xs k i).price = (pg xs i).price := by
  unfold cutP; split
  · rename_i e; subst e; rfl
  · rfl
theorem cut_ok {xs : List Pc} {k : Nat} (h : okP xs = true) (hk : 0 < k) : okP (cutL xs k xs.length) = true := by
  obtain ⟨⟨hl1, hl40⟩, hall, hsh, htt⟩ := okP_ok h
  have hsc := cut_shp hsh hk
  have hlen := cutL_len xs k xs.length
  have hle := plc_le xs k xs.length
  have h0l := plc_lt (show 0 < xs.length by omega) (und_lt xs hk)
  rw [plc_zero] at h0l
  refine okP_yes (inB_true (by omega) (by omega)) ?_ ?_
  · refine List.all_eq_true.2 fun j hj => ?_
    have hj := List.mem_range.1 hj
    rw [hlen] at hj
    obtain ⟨i, h1, h2, h3⟩ := plc_onto xs k _ j hj
    have hat := cutL_at h2 _ h1
    rw [h3] at hat
    have hp := pcB_ok (allN_get hall h1)
    refine pc_yes ?_ ?_ ?_ ?_ ?_
    · rw [hat, cutP_name]; exact hp.1
    · refine List.all_eq_true.2 fun a ha => ?_
      have ha := List.mem_range.1 ha
      obtain ⟨b, b1, b2, b3⟩ := plc_onto xs k _ a (by omega : a < plc xs k xs.length)
      have hbt := cutL_at b2 _ b1
      rw [b3] at hbt
      have hbi : b < i := by
        apply Classical.byContradiction
        intro hn
        have := plc_mono xs k (show i ≤ b by omega)
        omega
      have hnn := List.all_eq_true.1 hp.2.1 b (List.mem_range.2 hbi)
      rw [hat, hbt, cutP_name, cutP_name]
      exact hnn
    · rw [hat, cutP_each]; exact inB_true hp.2.2.1.1 hp.2.2.1.2
    · rw [hat, cutP_price]; exact inB_true hp.2.2.2.1.1 hp.2.2.2.1.2
    · unfold parB
      by_cases e : j = 0
      · rw [if_pos e]
        exact decide_eq_true (hsc.par0 h0l)
      · rw [if_neg e]
        have := hsc.par j (by omega) hj
        exact inB_true (by omega) (by omega)
  · refine List.all_eq_true.2 fun j hj => ?_
    have hj := List.mem_range.1 hj
    rw [hlen] at hj
    obtain ⟨i, h1, h2, h3⟩ := plc_onto xs k _ j hj
    have ht := cut_tot hsh hk i h1 h2
    rw [h3] at ht
    unfold totB
    rw [ht]
    exact decide_eq_true (htt i h1)
/-- the lengths: what is left, what belongs to the piece, the piece itself -/
theorem cut_lens (xs : List Pc) (k : Nat) : ∀ m, plc xs k m + (uL xs k m).length + (if k < m then 1 else 0) = m
  | 0 => by
    have := plc_le xs k 0
    have := uL_len xs k 0
    rw [if_neg (by omega)]
    omega
  | m + 1 => by
    have ih := cut_lens xs k m
    cases hm : und xs k m with
    | true =>
      rw [plc_no hm]
      by_cases h1 : k < m
      · rw [uL_yes h1 hm, List.length_append, if_pos (by omega)]
        rw [if_pos h1] at ih
        show _ + (_ + 1) + 1 = _
        omega
      · have e : m = k := by
          apply Classical.byContradiction
          intro hn
          have := und_lt xs (show m < k by omega)
          rw [this] at hm
          cases hm
        subst e
        rw [uL_start, if_pos (by omega)]
        rw [if_neg (by omega)] at ih
        have : (uL xs m m).length = 0 := by
          unfold uL
          rw [List.length_eq_zero_iff, List.filter_eq_nil_iff]
          intro i hi
          have := List.mem_range.1 hi
          simp; omega
        show _ + 0 + 1 = _
        omega
    | false =>
      rw [plc_yes hm, uL_no hm]
      have hne : m ≠ k := fun e => by subst e; rw [und_self] at hm; cases hm
      by_cases h1 : k < m
      · rw [if_pos (by omega)]
        rw [if_pos h1] at ih
        omega
      · rw [if_neg (by omega)]
        rw [if_neg h1] at ih
        omega
end Go.Proofs.Ytalalegjeegocaa
/- Inventories, part 18: codes of a cut; how the list that is left is given. -/
namespace Go.Proofs.Ytalalegjeegocaa
open Go.RowKit Go.Joins

def cuC (xs : List Pc) (k : Int) : Int := if cdP xs k = 0 then (if k = 0 then 6 else 0) else cdP xs k
def cuL (xs : List Pc) (k : Int) : List Pc := if cuC xs k = 0 then cutL xs k.toNat xs.length else []
theorem cuC_ok {xs : List Pc} {k : Int} (h : cuC xs k = 0) : okP xs = true ∧ ∃ j : Nat, k = (j : Int) ∧ 0 < j ∧ j < xs.length ∧ cdP xs k = 0 := by
  unfold cuC at h
  split at h
  · rename_i h1
    split at h
    · cases h
    · rename_i h2
      obtain ⟨hok, j, rfl, hj⟩ := cdP_ok h1
      exact ⟨hok, j, rfl, by omega, hj, h1⟩
  · rename_i h1
    exact absurd h h1
/-- a row of pieces of the call's own, and a code -/
def RetCu (xs : List Pc) (k : Int) (w : World) (e : Ending) (w' : World) : Prop := ∃ v, e = .returned (.tuple #[v, .int .i64 (cuC xs k)]) ∧ w'.ownsRow w.heap.size 79 4 v (cuL xs k).length ((cuL xs k).flatMap cellsP) ∧ Below w.heap.size w w'
theorem RetCu.bad {xs : List Pc} {k c : Int} {w w' : World} (h : cuC xs k = c) (hc : c ≠ 0) (hb : Below w.heap.size w w') : RetCu xs k w (.returned (.tuple #[.slice none 0 0, .int .i64 c])) w' := by
  have e : cuL xs k = [] := by unfold cuL; rw [h, if_neg hc]
  refine ⟨_, by rw [h], ?_, hb⟩
  rw [e]
  exact ⟨by simp, .inl ⟨rfl, rfl⟩⟩
end Go.Proofs.Ytalalegjeegocaa
/- Inventories, part 19: rows of numbers made by 'make'; the places of the pieces that stay. -/
namespace Go.Proofs.Ytalalegjeegocaa
open Go.RowKit Go.Joins

/-- the places that are written in front of place m -/
def nmA (xs : List Pc) (k m j : Nat) : Int := if j < m ∧ und xs k j = false then (plc xs k j : Int) else 0
theorem nmA_zero (xs : List Pc) (k n : Nat) : tab n (fun _ => 0) = tab n (nmA xs k 0) := tab_congr fun i _ => by unfold nmA; rw [if_neg (by omega)]
theorem nmA_at {xs : List Pc} {k m j : Nat} (h : j < m) (hu : und xs k j = false) : nmA xs k m j = (plc xs k j : Int) := by unfold nmA; rw [if_pos ⟨h, hu⟩]
theorem nmA_no {xs : List Pc} {k m : Nat} (n : Nat) (hu : und xs k m = true) : tab n (nmA xs k m) = tab n (nmA xs k (m + 1)) := tab_congr fun i _ => by
  unfold nmA
  by_cases e : i = m
  · subst e; simp [hu]
  · by_cases h : i < m
    · have h' : i < m + 1 := by omega
      simp [h, h']
    · have h' : ¬ (i < m + 1) := by omega
      simp [h, h']
theorem nmA_yes {xs : List Pc} {k m : Nat} (n : Nat) (hu : und xs k m = false) : (tab n (nmA xs k m)).set m (.int .i64 (plc xs k m : Int)) = tab n (nmA xs k (m + 1)) := by
  refine List.ext_getElem (by simp [tab]) fun i h1 h2 => ?_
  rw [List.getElem_set]
  simp only [tab, List.getElem_map, List.getElem_range]
  by_cases e : m = i
  · subst e
    rw [if_pos rfl, nmA_at (by omega) hu]
  · rw [if_neg e]
    unfold nmA
    by_cases h : i < m
    · have h' : i < m + 1 := by omega
      simp [h, h']
    · have h' : ¬ (i < m + 1) := by omega
      simp [h, h']
end Go.Proofs.Ytalalegjeegocaa
