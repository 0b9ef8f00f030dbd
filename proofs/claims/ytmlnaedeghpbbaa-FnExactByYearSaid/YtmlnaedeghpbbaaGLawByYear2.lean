/- Merged texts: By7, By8, By9, Strs, En1. -/
import Derived.Test.YtmlnaedeghpbbaaGLawByYear1
import Derived.Lib.ReflectliteSlice
import Derived.Lib.SmallJoins
/- A stable sort by years, part 7: the library's symmetric merge, whole (gen_by7.py). -/
namespace Go.Proofs.Ytmlnaedeghpbbaa
open Go.RowKit Go.Joins

def GeY (yr : Nat → Int) (x : Nat → Nat) (s q : Nat) : Prop := ¬ yr (x (s - 1 - q)) < yr (x q)
def LtY (yr : Nat → Int) (x : Nat → Nat) (s q : Nat) : Prop := yr (x (s - 1 - q)) < yr (x q)
/-- what a merge is asked -/
def AskM (g : Nat) (lb : Array Value) (sf : Nat) (sb : Array Value) (base blk n c qo : Nat) (en : Nat → List Value) (yr : Nat → Int) (N : Nat) : Prop :=
  ∀ (x : Nat → Nat) (a m b : Nat) (w : World), b - a ≤ N → StY base blk n c qo en w x → MrgY yr x a m b → a < m → m < b → b ≤ n →
    Calls Try.prog 46 #[.agg #[.func (.func g) #[] lb, .func (.func sf) #[] sb], .int .i64 (a : Int), .int .i64 (m : Int), .int .i64 (b : Int)] w (DoneY base blk n c qo en w (fun y => PrmY x y a b ∧ SrtY yr y a b))
theorem cut_of {yr : Nat → Int} {x : Nat → Nat} {a m b mid lo hi st en : Nat} (h : MrgY yr x a m b) (hal : a ≤ lo) (hhm : hi ≤ m) (hhd : hi ≤ mid) (hlb : mid + m - lo ≤ b) (hlo : lo = a ∨ lo + b = mid + m) (hhi : hi = m ∨ hi = mid) (hen : mid + m - st = en)
    (hs : BinY lo hi (GeY yr x (mid + m)) (LtY yr x (mid + m)) st st) : a ≤ st ∧ st ≤ m ∧ m ≤ en ∧ en ≤ b ∧ st ≤ mid ∧ mid ≤ en ∧ CutY yr x (rotY x st m en) a mid b st en := by
  have h1 := hs.li
  have h2 := hs.jh
  refine ⟨by omega, by omega, by omega, by omega, by omega, by omega, mrg_cut h (by omega) (by omega) (by omega) (by omega) (by omega) ?_ ?_⟩
  · by_cases e : st = lo
    · rcases hlo with h3 | h3
      · exact .inl (by omega)
      · exact .inr (.inl (by omega))
    · have := hs.l.resolve_left e
      unfold GeY at this
      rw [show mid + m - 1 - (st - 1) = en by omega] at this
      exact .inr (.inr this)
  · by_cases e : st = hi
    · rcases hhi with h3 | h3
      · exact .inl (by omega)
      · exact .inr (.inl (by omega))
    · have := hs.r.resolve_left e
      unfold LtY at this
      rw [show mid + m - 1 - st = en - 1 by omega] at this
      exact .inr (.inr this)
theorem side_l {yr : Nat → Int} {y : Nat → Nat} {a st mid : Nat} (h : MrgY yr y a st mid) (h1 : a ≤ st) (h2 : st ≤ mid) (hn : ¬ (a < st ∧ st < mid)) : SrtY yr y a mid := by
  by_cases e : st = mid
  · exact SrtY.of_l h e
  · exact SrtY.of_r h (by omega)
set_option maxRecDepth 100000 in
set_option maxHeartbeats 12800000 in
theorem symStep_any {g : Nat} {lb : Array Value} {sf : Nat} {sb : Array Value} {base blk n c qo : Nat} {en : Nat → List Value} {yr : Nat → Int} (E : EnvY g lb sf sb base blk n c qo en yr) (N : Nat) (IH : AskM g lb sf sb base blk n c qo en yr N) (x : Nat → Nat) (a m b : Nat) (w : World) (hN : b - a ≤ N + 1) (h : StY base blk n c qo en w x) (hm : MrgY yr x a m b) (ham : a + 1 < m) (hmb : m + 1 < b) (hbn : b ≤ n) :
    Calls Try.prog 46 #[.agg #[.func (.func g) #[] lb, .func (.func sf) #[] sb], .int .i64 (a : Int), .int .i64 (m : Int), .int .i64 (b : Int)] w (DoneY base blk n c qo en w (fun y => PrmY x y a b ∧ SrtY yr y a b)) := by
  have hn := E.n1
  have hblk := h.blt.2
  have HS := Lib.hid (h.below ((Below.refl w.heap.size w).alloc (Nat.le_refl _) (.cells #[.func (.func g) #[] lb, .func (.func sf) #[] sb] 60)))
  have HSw := Lib.hid E.swap
  have HLe := Lib.hid E.less
  have heg := E.enter
  have H5 := Lib.hid E.h5
  have HM := Lib.hid hm
  have HRo := Lib.hid (fun x a m b w h h1 h2 h3 => rotate_any E x a m b w h h1 h2 h3)
  have HIH := Lib.hid IH
  unfold DoneY at HRo
  unfold AskM DoneY at HIH
  clear h E hm IH
  have hma : ¬ ((m : Int) - (a : Int) = 1) := by omega
  have hbm : ¬ ((b : Int) - (m : Int) = 1) := by omega
  obtain ⟨mid, hmid⟩ : ∃ z, (a + b) / 2 = z := ⟨_, rfl⟩
  have hshm : ((((a : Int) + (b : Int)) >>> (1 : Nat)) : Int) = (mid : Int) := by rw [Int.shiftRight_eq_div_pow]; omega
  have hsvm : (((a : Int) + (b : Int)) / 2 : Int) = (mid : Int) := by omega
  rcases Nat.lt_or_ge mid m with hmm | hmm
  · have hmm' : (mid : Int) < (m : Int) := by omega
    obtain ⟨lo, hlo⟩ : ∃ z, mid + m - b = z := ⟨_, rfl⟩
    obtain ⟨hi, hhi⟩ : ∃ z, mid = z := ⟨_, rfl⟩
    have HA1 := Lib.hid (show a ≤ lo ∧ hi ≤ m ∧ hi ≤ mid ∧ mid + m - lo ≤ b ∧ (lo = a ∨ lo + b = mid + m) ∧ (hi = m ∨ hi = mid) by omega)
    have hlh : lo ≤ hi := by omega
    have hlI0 : (mid : Int) + (m : Int) - (b : Int) = (lo : Int) := by omega
    have hhI0 : (hi : Int) = (mid : Int) := by omega
    have HL0 := Lib.hid hlI0
    have HH0 := Lib.hid hhI0
    clear hlI0 hhI0
    have HLO := Lib.hid hlo
    have HHI := Lib.hid hhi
    clear hlo hhi
    go_enter Try.func46, Try.ntmps46
    go_wp2_with fail
    obtain ⟨w1, hw1⟩ : ∃ z, w.alloc (.cells #[.func (.func g) #[] lb, .func (.func sf) #[] sb] 60) = z := ⟨_, rfl⟩
    have HW := Lib.hid hw1
    rw [hw1] at HS
    (try rw [hw1])
    clear hw1
    go_loopw [18, 19] (fun vi vj wr => ∃ i j : Nat, BinY lo hi (GeY yr x (mid + m)) (LtY yr x (mid + m)) i j ∧ vi = .int .i64 (i : Int) ∧ vj = .int .i64 (j : Int) ∧ StY base blk n c qo en wr x ∧ w1.grownBy wr (some blk)) (fun vi vj _ => (intOf vj).toNat - (intOf vi).toNat)
    case atStart => exact ⟨lo, hi, BinY.start hlh, by have := HL0.out; first | rfl | (congr 1 <;> omega), by have := HH0.out; first | rfl | (congr 1 <;> omega), HS.out, grown_of_below (Below.refl _ _) _⟩
    case round =>
      clear HS
      obtain ⟨i, j, hb, rfl, rfl, hs, hg⟩ := hrel
      have Hb := Lib.hid hb
      have hi' := hb.li
      have hij := hb.ij
      have hj := hb.jh
      clear hb
      have Hs := Lib.hid hs
      have Hg := Lib.hid hg
      obtain ⟨c0, c1⟩ := boxY (w := w) (by rw [HW.out]; exact hg) hblk
      clear hs hg
      obtain ⟨hq1, hq2, hq3, hq4, hq5, hq6⟩ := HA1.out
      by_cases hlt : i < j
      · have hlt' : (i : Int) < (j : Int) := by omega
        obtain ⟨h, hh⟩ : ∃ z, (i + j) / 2 = z := ⟨_, rfl⟩
        have hshh : ((((i : Int) + (j : Int)) >>> (1 : Nat)) : Int) = (h : Int) := by rw [Int.shiftRight_eq_div_pow]; omega
        have hsvh : (((i : Int) + (j : Int)) / 2 : Int) = (h : Int) := by omega
        have Hl := Lib.hid (HLe.out wr x (mid + m - 1 - h) h Hs.out (by have := HLO.out; have := HHI.out; omega) (by omega))
        rw [show ((mid + m - 1 - h : Nat) : Int) = (mid : Int) + (m : Int) - 1 - (h : Int) by have := HLO.out; have := HHI.out; omega] at Hl
        by_cases hle : yr (x (mid + m - 1 - h)) < yr (x h)
        · rw [decide_eq_true hle] at Hl
          have Hle := Lib.hid hle
          clear hle
          go_wp2_with fail
          refine Hl.out.mono ?_; rintro e w2 ⟨rfl, d, rfl⟩
          have Hs2 := Lib.hid (Hs.out.drewN d)
          have Hg2 := Lib.hid (grown_drewN Hg.out d)
          clear Hl
          go_wp2_with fail
          go_roundw
          case rel => exact ⟨i, h, Hb.out.down (by omega) (by omega) Hle.out, by first | rfl | omega, by first | rfl | omega, Hs2.out, Hg2.out⟩
          case measure => first | (simp [intOf]; done) | (simp [intOf]; omega)
        · rw [decide_eq_false hle] at Hl
          have Hle := Lib.hid hle
          clear hle
          go_wp2_with fail
          refine Hl.out.mono ?_; rintro e w2 ⟨rfl, d, rfl⟩
          have Hs2 := Lib.hid (Hs.out.drewN d)
          have Hg2 := Lib.hid (grown_drewN Hg.out d)
          clear Hl
          go_wp2_with fail
          go_roundw
          case rel => exact ⟨h + 1, j, Hb.out.up (by omega) (by omega) (by have := Hle.out; unfold GeY; omega), by first | go_num | omega, by first | rfl | omega, Hs2.out, Hg2.out⟩
          case measure => first | (simp [intOf]; done) | (simp [intOf]; omega)
      · obtain rfl : i = j := by omega
        have hlt' : ¬ ((i : Int) < (i : Int)) := by omega
        obtain ⟨e', hen⟩ : ∃ z, mid + m - i = z := ⟨_, rfl⟩
        have hbb : BinY lo hi (GeY yr x (mid + m)) (LtY yr x (mid + m)) i i := Hb.out
        obtain ⟨g1, g2, g3, g4, g5, g6, hcut⟩ := cut_of HM.out hq1 hq2 hq3 hq4 hq5 hq6 hen hbb
        have HCut := Lib.hid hcut
        have henI : (mid : Int) + (m : Int) - (i : Int) = (e' : Int) := by omega
        have hmab : a ≤ mid ∧ mid ≤ b := by omega
        clear hbb hcut hmid hen hq1 hq2 hq3 hq4 hq5 hq6 Hb
        by_cases r1 : i < m
        · have r1' : (i : Int) < (m : Int) := by omega
          by_cases r2 : m < e'
          · have r2' : (m : Int) < (e' : Int) := by omega
            have Hc := Lib.hid (HRo.out x i m e' wr Hs.out r1 r2 (by omega))
            go_wp2_with fail
            refine Hc.out.mono ?_; rintro e w6 ⟨rfl, y, rfl, hs6, hg6⟩
            have HsA := Lib.hid hs6
            have HgA := Lib.hid (grown_trans Hg.out hg6)
            clear hs6 hg6 c0 c1 Hs Hg Hc
            obtain ⟨j0, j1⟩ := boxY (w := w) (w1 := w6) (by rw [HW.out]; exact HgA.out) hblk
            by_cases v1 : a < i
            · have v1' : (a : Int) < (i : Int) := by omega
              by_cases v2 : i < mid
              · have v2' : (i : Int) < (mid : Int) := by omega
                have Hc := Lib.hid (HIH.out (rotY x i m e') a i mid w6 (by omega) HsA.out HCut.out.lo v1 v2 (by omega))
                go_wp2_with fail
                refine Hc.out.mono ?_; rintro e w7 ⟨rfl, y1, hp1, hs7, hg7⟩
                have HP1 := Lib.hid hp1
                have HsB := Lib.hid hs7
                have HgB := Lib.hid (grown_trans HgA.out hg7)
                clear hp1 hs7 hg7 j0 j1 HsA HgA Hc
                have hMC := HCut.out.hi.same (y := y1) g6 g4 (fun p p1 _ => HP1.out.1.out p (.inr p1))
                have HMC := Lib.hid hMC
                clear hMC
                obtain ⟨k0, k1⟩ := boxY (w := w) (w1 := w7) (by rw [HW.out]; exact HgB.out) hblk
                by_cases u1 : mid < e'
                · have u1' : (mid : Int) < (e' : Int) := by omega
                  by_cases u2 : e' < b
                  · have u2' : (e' : Int) < (b : Int) := by omega
                    have Hc := Lib.hid (HIH.out y1 mid e' b w7 (by omega) HsB.out HMC.out u1 u2 hbn)
                    go_wp2_with fail
                    refine Hc.out.mono ?_; rintro e w8 ⟨rfl, y2, ⟨hp2, hs2⟩, hs8, hg8⟩
                    have Hf := Lib.hid (cut_done HCut.out hmab.1 hmab.2 HP1.out.1 HP1.out.2 hp2 hs2)
                    have Hs8 := Lib.hid hs8
                    have Hg8 := Lib.hid (grown_trans HgB.out hg8)
                    clear hp2 hs2 hs8 hg8
                    go_wp2_with fail
                    go_end0
                    exact ⟨rfl, _, Hf.out, Hs8.out, grown_boxY (by rw [HW.out]; exact Hg8.out)⟩
                  · have u2' : ¬ (e' : Int) < (b : Int) := by omega
                    have Hf := Lib.hid (cut_done HCut.out hmab.1 hmab.2 HP1.out.1 HP1.out.2 (PrmY.refl _ _ _) (side_l HMC.out g6 g4 (fun h => u2 h.2)))
                    go_wp2_with fail
                    go_end0
                    exact ⟨rfl, _, Hf.out, HsB.out, grown_boxY (by rw [HW.out]; exact HgB.out)⟩
                · have u1' : ¬ (mid : Int) < (e' : Int) := by omega
                  have Hf := Lib.hid (cut_done HCut.out hmab.1 hmab.2 HP1.out.1 HP1.out.2 (PrmY.refl _ _ _) (side_l HMC.out g6 g4 (fun h => u1 h.1)))
                  go_wp2_with fail
                  go_end0
                  exact ⟨rfl, _, Hf.out, HsB.out, grown_boxY (by rw [HW.out]; exact HgB.out)⟩
              · have v2' : ¬ (i : Int) < (mid : Int) := by omega
                have HP1 := Lib.hid (show PrmY (rotY x i m e') (rotY x i m e') a mid ∧ SrtY yr (rotY x i m e') a mid from ⟨PrmY.refl _ _ _, side_l HCut.out.lo g1 g5 (fun h => v2 h.2)⟩)
                have HsB := HsA
                have HgB := HgA
                clear j0 j1 HsA HgA
                have hMC := HCut.out.hi.same (y := (rotY x i m e')) g6 g4 (fun p p1 _ => HP1.out.1.out p (.inr p1))
                have HMC := Lib.hid hMC
                clear hMC
                obtain ⟨k0, k1⟩ := boxY (w := w) (w1 := w6) (by rw [HW.out]; exact HgB.out) hblk
                by_cases u1 : mid < e'
                · have u1' : (mid : Int) < (e' : Int) := by omega
                  by_cases u2 : e' < b
                  · have u2' : (e' : Int) < (b : Int) := by omega
                    have Hc := Lib.hid (HIH.out (rotY x i m e') mid e' b w6 (by omega) HsB.out HMC.out u1 u2 hbn)
                    go_wp2_with fail
                    refine Hc.out.mono ?_; rintro e w8 ⟨rfl, y2, ⟨hp2, hs2⟩, hs8, hg8⟩
                    have Hf := Lib.hid (cut_done HCut.out hmab.1 hmab.2 HP1.out.1 HP1.out.2 hp2 hs2)
                    have Hs8 := Lib.hid hs8
                    have Hg8 := Lib.hid (grown_trans HgB.out hg8)
                    clear hp2 hs2 hs8 hg8
                    go_wp2_with fail
                    go_end0
                    exact ⟨rfl, _, Hf.out, Hs8.out, grown_boxY (by rw [HW.out]; exact Hg8.out)⟩
                  · have u2' : ¬ (e' : Int) < (b : Int) := by omega
                    have Hf := Lib.hid (cut_done HCut.out hmab.1 hmab.2 HP1.out.1 HP1.out.2 (PrmY.refl _ _ _) (side_l HMC.out g6 g4 (fun h => u2 h.2)))
                    go_wp2_with fail
                    go_end0
                    exact ⟨rfl, _, Hf.out, HsB.out, grown_boxY (by rw [HW.out]; exact HgB.out)⟩
                · have u1' : ¬ (mid : Int) < (e' : Int) := by omega
                  have Hf := Lib.hid (cut_done HCut.out hmab.1 hmab.2 HP1.out.1 HP1.out.2 (PrmY.refl _ _ _) (side_l HMC.out g6 g4 (fun h => u1 h.1)))
                  go_wp2_with fail
                  go_end0
                  exact ⟨rfl, _, Hf.out, HsB.out, grown_boxY (by rw [HW.out]; exact HgB.out)⟩
            · have v1' : ¬ (a : Int) < (i : Int) := by omega
              have HP1 := Lib.hid (show PrmY (rotY x i m e') (rotY x i m e') a mid ∧ SrtY yr (rotY x i m e') a mid from ⟨PrmY.refl _ _ _, side_l HCut.out.lo g1 g5 (fun h => v1 h.1)⟩)
              have HsB := HsA
              have HgB := HgA
              clear j0 j1 HsA HgA
              have hMC := HCut.out.hi.same (y := (rotY x i m e')) g6 g4 (fun p p1 _ => HP1.out.1.out p (.inr p1))
              have HMC := Lib.hid hMC
              clear hMC
              obtain ⟨k0, k1⟩ := boxY (w := w) (w1 := w6) (by rw [HW.out]; exact HgB.out) hblk
              by_cases u1 : mid < e'
              · have u1' : (mid : Int) < (e' : Int) := by omega
                by_cases u2 : e' < b
                · have u2' : (e' : Int) < (b : Int) := by omega
                  have Hc := Lib.hid (HIH.out (rotY x i m e') mid e' b w6 (by omega) HsB.out HMC.out u1 u2 hbn)
                  go_wp2_with fail
                  refine Hc.out.mono ?_; rintro e w8 ⟨rfl, y2, ⟨hp2, hs2⟩, hs8, hg8⟩
                  have Hf := Lib.hid (cut_done HCut.out hmab.1 hmab.2 HP1.out.1 HP1.out.2 hp2 hs2)
                  have Hs8 := Lib.hid hs8
                  have Hg8 := Lib.hid (grown_trans HgB.out hg8)
                  clear hp2 hs2 hs8 hg8
                  go_wp2_with fail
                  go_end0
                  exact ⟨rfl, _, Hf.out, Hs8.out, grown_boxY (by rw [HW.out]; exact Hg8.out)⟩
                · have u2' : ¬ (e' : Int) < (b : Int) := by omega
                  have Hf := Lib.hid (cut_done HCut.out hmab.1 hmab.2 HP1.out.1 HP1.out.2 (PrmY.refl _ _ _) (side_l HMC.out g6 g4 (fun h => u2 h.2)))
                  go_wp2_with fail
                  go_end0
                  exact ⟨rfl, _, Hf.out, HsB.out, grown_boxY (by rw [HW.out]; exact HgB.out)⟩
              · have u1' : ¬ (mid : Int) < (e' : Int) := by omega
                have Hf := Lib.hid (cut_done HCut.out hmab.1 hmab.2 HP1.out.1 HP1.out.2 (PrmY.refl _ _ _) (side_l HMC.out g6 g4 (fun h => u1 h.1)))
                go_wp2_with fail
                go_end0
                exact ⟨rfl, _, Hf.out, HsB.out, grown_boxY (by rw [HW.out]; exact HgB.out)⟩
          · have r2' : ¬ (m : Int) < (e' : Int) := by omega
            have HsA := Lib.hid (show StY base blk n c qo en wr (rotY x i m e') by rw [rotY_id x (.inr (by omega))]; exact Hs.out)
            have HgA := Hg
            clear c0 c1 Hs Hg
            obtain ⟨j0, j1⟩ := boxY (w := w) (w1 := wr) (by rw [HW.out]; exact HgA.out) hblk
            by_cases v1 : a < i
            · have v1' : (a : Int) < (i : Int) := by omega
              by_cases v2 : i < mid
              · have v2' : (i : Int) < (mid : Int) := by omega
                have Hc := Lib.hid (HIH.out (rotY x i m e') a i mid wr (by omega) HsA.out HCut.out.lo v1 v2 (by omega))
                go_wp2_with fail
                refine Hc.out.mono ?_; rintro e w7 ⟨rfl, y1, hp1, hs7, hg7⟩
                have HP1 := Lib.hid hp1
                have HsB := Lib.hid hs7
                have HgB := Lib.hid (grown_trans HgA.out hg7)
                clear hp1 hs7 hg7 j0 j1 HsA HgA Hc
                have hMC := HCut.out.hi.same (y := y1) g6 g4 (fun p p1 _ => HP1.out.1.out p (.inr p1))
                have HMC := Lib.hid hMC
                clear hMC
                obtain ⟨k0, k1⟩ := boxY (w := w) (w1 := w7) (by rw [HW.out]; exact HgB.out) hblk
                by_cases u1 : mid < e'
                · have u1' : (mid : Int) < (e' : Int) := by omega
                  by_cases u2 : e' < b
                  · have u2' : (e' : Int) < (b : Int) := by omega
                    have Hc := Lib.hid (HIH.out y1 mid e' b w7 (by omega) HsB.out HMC.out u1 u2 hbn)
                    go_wp2_with fail
                    refine Hc.out.mono ?_; rintro e w8 ⟨rfl, y2, ⟨hp2, hs2⟩, hs8, hg8⟩
                    have Hf := Lib.hid (cut_done HCut.out hmab.1 hmab.2 HP1.out.1 HP1.out.2 hp2 hs2)
                    have Hs8 := Lib.hid hs8
                    have Hg8 := Lib.hid (grown_trans HgB.out hg8)
                    clear hp2 hs2 hs8 hg8
                    go_wp2_with fail
                    go_end0
                    exact ⟨rfl, _, Hf.out, Hs8.out, grown_boxY (by rw [HW.out]; exact Hg8.out)⟩
                  · have u2' : ¬ (e' : Int) < (b : Int) := by omega
                    have Hf := Lib.hid (cut_done HCut.out hmab.1 hmab.2 HP1.out.1 HP1.out.2 (PrmY.refl _ _ _) (side_l HMC.out g6 g4 (fun h => u2 h.2)))
                    go_wp2_with fail
                    go_end0
                    exact ⟨rfl, _, Hf.out, HsB.out, grown_boxY (by rw [HW.out]; exact HgB.out)⟩
                · have u1' : ¬ (mid : Int) < (e' : Int) := by omega
                  have Hf := Lib.hid (cut_done HCut.out hmab.1 hmab.2 HP1.out.1 HP1.out.2 (PrmY.refl _ _ _) (side_l HMC.out g6 g4 (fun h => u1 h.1)))
                  go_wp2_with fail
                  go_end0
                  exact ⟨rfl, _, Hf.out, HsB.out, grown_boxY (by rw [HW.out]; exact HgB.out)⟩
              · have v2' : ¬ (i : Int) < (mid : Int) := by omega
                have HP1 := Lib.hid (show PrmY (rotY x i m e') (rotY x i m e') a mid ∧ SrtY yr (rotY x i m e') a mid from ⟨PrmY.refl _ _ _, side_l HCut.out.lo g1 g5 (fun h => v2 h.2)⟩)
                have HsB := HsA
                have HgB := HgA
                clear j0 j1 HsA HgA
                have hMC := HCut.out.hi.same (y := (rotY x i m e')) g6 g4 (fun p p1 _ => HP1.out.1.out p (.inr p1))
                have HMC := Lib.hid hMC
                clear hMC
                obtain ⟨k0, k1⟩ := boxY (w := w) (w1 := wr) (by rw [HW.out]; exact HgB.out) hblk
                by_cases u1 : mid < e'
                · have u1' : (mid : Int) < (e' : Int) := by omega
                  by_cases u2 : e' < b
                  · have u2' : (e' : Int) < (b : Int) := by omega
                    have Hc := Lib.hid (HIH.out (rotY x i m e') mid e' b wr (by omega) HsB.out HMC.out u1 u2 hbn)
                    go_wp2_with fail
                    refine Hc.out.mono ?_; rintro e w8 ⟨rfl, y2, ⟨hp2, hs2⟩, hs8, hg8⟩
                    have Hf := Lib.hid (cut_done HCut.out hmab.1 hmab.2 HP1.out.1 HP1.out.2 hp2 hs2)
                    have Hs8 := Lib.hid hs8
                    have Hg8 := Lib.hid (grown_trans HgB.out hg8)
                    clear hp2 hs2 hs8 hg8
                    go_wp2_with fail
                    go_end0
                    exact ⟨rfl, _, Hf.out, Hs8.out, grown_boxY (by rw [HW.out]; exact Hg8.out)⟩
                  · have u2' : ¬ (e' : Int) < (b : Int) := by omega
                    have Hf := Lib.hid (cut_done HCut.out hmab.1 hmab.2 HP1.out.1 HP1.out.2 (PrmY.refl _ _ _) (side_l HMC.out g6 g4 (fun h => u2 h.2)))
                    go_wp2_with fail
                    go_end0
                    exact ⟨rfl, _, Hf.out, HsB.out, grown_boxY (by rw [HW.out]; exact HgB.out)⟩
                · have u1' : ¬ (mid : Int) < (e' : Int) := by omega
                  have Hf := Lib.hid (cut_done HCut.out hmab.1 hmab.2 HP1.out.1 HP1.out.2 (PrmY.refl _ _ _) (side_l HMC.out g6 g4 (fun h => u1 h.1)))
                  go_wp2_with fail
                  go_end0
                  exact ⟨rfl, _, Hf.out, HsB.out, grown_boxY (by rw [HW.out]; exact HgB.out)⟩
            · have v1' : ¬ (a : Int) < (i : Int) := by omega
              have HP1 := Lib.hid (show PrmY (rotY x i m e') (rotY x i m e') a mid ∧ SrtY yr (rotY x i m e') a mid from ⟨PrmY.refl _ _ _, side_l HCut.out.lo g1 g5 (fun h => v1 h.1)⟩)
              have HsB := HsA
              have HgB := HgA
              clear j0 j1 HsA HgA
              have hMC := HCut.out.hi.same (y := (rotY x i m e')) g6 g4 (fun p p1 _ => HP1.out.1.out p (.inr p1))
              have HMC := Lib.hid hMC
              clear hMC
              obtain ⟨k0, k1⟩ := boxY (w := w) (w1 := wr) (by rw [HW.out]; exact HgB.out) hblk
              by_cases u1 : mid < e'
              · have u1' : (mid : Int) < (e' : Int) := by omega
                by_cases u2 : e' < b
                · have u2' : (e' : Int) < (b : Int) := by omega
                  have Hc := Lib.hid (HIH.out (rotY x i m e') mid e' b wr (by omega) HsB.out HMC.out u1 u2 hbn)
                  go_wp2_with fail
                  refine Hc.out.mono ?_; rintro e w8 ⟨rfl, y2, ⟨hp2, hs2⟩, hs8, hg8⟩
                  have Hf := Lib.hid (cut_done HCut.out hmab.1 hmab.2 HP1.out.1 HP1.out.2 hp2 hs2)
                  have Hs8 := Lib.hid hs8
                  have Hg8 := Lib.hid (grown_trans HgB.out hg8)
                  clear hp2 hs2 hs8 hg8
                  go_wp2_with fail
                  go_end0
                  exact ⟨rfl, _, Hf.out, Hs8.out, grown_boxY (by rw [HW.out]; exact Hg8.out)⟩
                · have u2' : ¬ (e' : Int) < (b : Int) := by omega
                  have Hf := Lib.hid (cut_done HCut.out hmab.1 hmab.2 HP1.out.1 HP1.out.2 (PrmY.refl _ _ _) (side_l HMC.out g6 g4 (fun h => u2 h.2)))
                  go_wp2_with fail
                  go_end0
                  exact ⟨rfl, _, Hf.out, HsB.out, grown_boxY (by rw [HW.out]; exact HgB.out)⟩
              · have u1' : ¬ (mid : Int) < (e' : Int) := by omega
                have Hf := Lib.hid (cut_done HCut.out hmab.1 hmab.2 HP1.out.1 HP1.out.2 (PrmY.refl _ _ _) (side_l HMC.out g6 g4 (fun h => u1 h.1)))
                go_wp2_with fail
                go_end0
                exact ⟨rfl, _, Hf.out, HsB.out, grown_boxY (by rw [HW.out]; exact HgB.out)⟩
        · have r1' : ¬ (i : Int) < (m : Int) := by omega
          have HsA := Lib.hid (show StY base blk n c qo en wr (rotY x i m e') by rw [rotY_id x (.inl (by omega))]; exact Hs.out)
          have HgA := Hg
          clear c0 c1 Hs Hg
          obtain ⟨j0, j1⟩ := boxY (w := w) (w1 := wr) (by rw [HW.out]; exact HgA.out) hblk
          by_cases v1 : a < i
          · have v1' : (a : Int) < (i : Int) := by omega
            by_cases v2 : i < mid
            · have v2' : (i : Int) < (mid : Int) := by omega
              have Hc := Lib.hid (HIH.out (rotY x i m e') a i mid wr (by omega) HsA.out HCut.out.lo v1 v2 (by omega))
              go_wp2_with fail
              refine Hc.out.mono ?_; rintro e w7 ⟨rfl, y1, hp1, hs7, hg7⟩
              have HP1 := Lib.hid hp1
              have HsB := Lib.hid hs7
              have HgB := Lib.hid (grown_trans HgA.out hg7)
              clear hp1 hs7 hg7 j0 j1 HsA HgA Hc
              have hMC := HCut.out.hi.same (y := y1) g6 g4 (fun p p1 _ => HP1.out.1.out p (.inr p1))
              have HMC := Lib.hid hMC
              clear hMC
              obtain ⟨k0, k1⟩ := boxY (w := w) (w1 := w7) (by rw [HW.out]; exact HgB.out) hblk
              by_cases u1 : mid < e'
              · have u1' : (mid : Int) < (e' : Int) := by omega
                by_cases u2 : e' < b
                · have u2' : (e' : Int) < (b : Int) := by omega
                  have Hc := Lib.hid (HIH.out y1 mid e' b w7 (by omega) HsB.out HMC.out u1 u2 hbn)
                  go_wp2_with fail
                  refine Hc.out.mono ?_; rintro e w8 ⟨rfl, y2, ⟨hp2, hs2⟩, hs8, hg8⟩
                  have Hf := Lib.hid (cut_done HCut.out hmab.1 hmab.2 HP1.out.1 HP1.out.2 hp2 hs2)
                  have Hs8 := Lib.hid hs8
                  have Hg8 := Lib.hid (grown_trans HgB.out hg8)
                  clear hp2 hs2 hs8 hg8
                  go_wp2_with fail
                  go_end0
                  exact ⟨rfl, _, Hf.out, Hs8.out, grown_boxY (by rw [HW.out]; exact Hg8.out)⟩
                · have u2' : ¬ (e' : Int) < (b : Int) := by omega
                  have Hf := Lib.hid (cut_done HCut.out hmab.1 hmab.2 HP1.out.1 HP1.out.2 (PrmY.refl _ _ _) (side_l HMC.out g6 g4 (fun h => u2 h.2)))
                  go_wp2_with fail
                  go_end0
                  exact ⟨rfl, _, Hf.out, HsB.out, grown_boxY (by rw [HW.out]; exact HgB.out)⟩
              · have u1' : ¬ (mid : Int) < (e' : Int) := by omega
                have Hf := Lib.hid (cut_done HCut.out hmab.1 hmab.2 HP1.out.1 HP1.out.2 (PrmY.refl _ _ _) (side_l HMC.out g6 g4 (fun h => u1 h.1)))
                go_wp2_with fail
                go_end0
                exact ⟨rfl, _, Hf.out, HsB.out, grown_boxY (by rw [HW.out]; exact HgB.out)⟩
            · have v2' : ¬ (i : Int) < (mid : Int) := by omega
              have HP1 := Lib.hid (show PrmY (rotY x i m e') (rotY x i m e') a mid ∧ SrtY yr (rotY x i m e') a mid from ⟨PrmY.refl _ _ _, side_l HCut.out.lo g1 g5 (fun h => v2 h.2)⟩)
              have HsB := HsA
              have HgB := HgA
              clear j0 j1 HsA HgA
              have hMC := HCut.out.hi.same (y := (rotY x i m e')) g6 g4 (fun p p1 _ => HP1.out.1.out p (.inr p1))
              have HMC := Lib.hid hMC
              clear hMC
              obtain ⟨k0, k1⟩ := boxY (w := w) (w1 := wr) (by rw [HW.out]; exact HgB.out) hblk
              by_cases u1 : mid < e'
              · have u1' : (mid : Int) < (e' : Int) := by omega
                by_cases u2 : e' < b
                · have u2' : (e' : Int) < (b : Int) := by omega
                  have Hc := Lib.hid (HIH.out (rotY x i m e') mid e' b wr (by omega) HsB.out HMC.out u1 u2 hbn)
                  go_wp2_with fail
                  refine Hc.out.mono ?_; rintro e w8 ⟨rfl, y2, ⟨hp2, hs2⟩, hs8, hg8⟩
                  have Hf := Lib.hid (cut_done HCut.out hmab.1 hmab.2 HP1.out.1 HP1.out.2 hp2 hs2)
                  have Hs8 := Lib.hid hs8
                  have Hg8 := Lib.hid (grown_trans HgB.out hg8)
                  clear hp2 hs2 hs8 hg8
                  go_wp2_with fail
                  go_end0
                  exact ⟨rfl, _, Hf.out, Hs8.out, grown_boxY (by rw [HW.out]; exact Hg8.out)⟩
                · have u2' : ¬ (e' : Int) < (b : Int) := by omega
                  have Hf := Lib.hid (cut_done HCut.out hmab.1 hmab.2 HP1.out.1 HP1.out.2 (PrmY.refl _ _ _) (side_l HMC.out g6 g4 (fun h => u2 h.2)))
                  go_wp2_with fail
                  go_end0
                  exact ⟨rfl, _, Hf.out, HsB.out, grown_boxY (by rw [HW.out]; exact HgB.out)⟩
              · have u1' : ¬ (mid : Int) < (e' : Int) := by omega
                have Hf := Lib.hid (cut_done HCut.out hmab.1 hmab.2 HP1.out.1 HP1.out.2 (PrmY.refl _ _ _) (side_l HMC.out g6 g4 (fun h => u1 h.1)))
                go_wp2_with fail
                go_end0
                exact ⟨rfl, _, Hf.out, HsB.out, grown_boxY (by rw [HW.out]; exact HgB.out)⟩
          · have v1' : ¬ (a : Int) < (i : Int) := by omega
            have HP1 := Lib.hid (show PrmY (rotY x i m e') (rotY x i m e') a mid ∧ SrtY yr (rotY x i m e') a mid from ⟨PrmY.refl _ _ _, side_l HCut.out.lo g1 g5 (fun h => v1 h.1)⟩)
            have HsB := HsA
            have HgB := HgA
            clear j0 j1 HsA HgA
            have hMC := HCut.out.hi.same (y := (rotY x i m e')) g6 g4 (fun p p1 _ => HP1.out.1.out p (.inr p1))
            have HMC := Lib.hid hMC
            clear hMC
            obtain ⟨k0, k1⟩ := boxY (w := w) (w1 := wr) (by rw [HW.out]; exact HgB.out) hblk
            by_cases u1 : mid < e'
            · have u1' : (mid : Int) < (e' : Int) := by omega
              by_cases u2 : e' < b
              · have u2' : (e' : Int) < (b : Int) := by omega
                have Hc := Lib.hid (HIH.out (rotY x i m e') mid e' b wr (by omega) HsB.out HMC.out u1 u2 hbn)
                go_wp2_with fail
                refine Hc.out.mono ?_; rintro e w8 ⟨rfl, y2, ⟨hp2, hs2⟩, hs8, hg8⟩
                have Hf := Lib.hid (cut_done HCut.out hmab.1 hmab.2 HP1.out.1 HP1.out.2 hp2 hs2)
                have Hs8 := Lib.hid hs8
                have Hg8 := Lib.hid (grown_trans HgB.out hg8)
                clear hp2 hs2 hs8 hg8
                go_wp2_with fail
                go_end0
                exact ⟨rfl, _, Hf.out, Hs8.out, grown_boxY (by rw [HW.out]; exact Hg8.out)⟩
              · have u2' : ¬ (e' : Int) < (b : Int) := by omega
                have Hf := Lib.hid (cut_done HCut.out hmab.1 hmab.2 HP1.out.1 HP1.out.2 (PrmY.refl _ _ _) (side_l HMC.out g6 g4 (fun h => u2 h.2)))
                go_wp2_with fail
                go_end0
                exact ⟨rfl, _, Hf.out, HsB.out, grown_boxY (by rw [HW.out]; exact HgB.out)⟩
            · have u1' : ¬ (mid : Int) < (e' : Int) := by omega
              have Hf := Lib.hid (cut_done HCut.out hmab.1 hmab.2 HP1.out.1 HP1.out.2 (PrmY.refl _ _ _) (side_l HMC.out g6 g4 (fun h => u1 h.1)))
              go_wp2_with fail
              go_end0
              exact ⟨rfl, _, Hf.out, HsB.out, grown_boxY (by rw [HW.out]; exact HgB.out)⟩
  · have hmm' : ¬ (mid : Int) < (m : Int) := by omega
    obtain ⟨lo, hlo⟩ : ∃ z, a = z := ⟨_, rfl⟩
    obtain ⟨hi, hhi⟩ : ∃ z, m = z := ⟨_, rfl⟩
    have HA1 := Lib.hid (show a ≤ lo ∧ hi ≤ m ∧ hi ≤ mid ∧ mid + m - lo ≤ b ∧ (lo = a ∨ lo + b = mid + m) ∧ (hi = m ∨ hi = mid) by omega)
    have hlh : lo ≤ hi := by omega
    have hlI0 : (a : Int) = (lo : Int) := by omega
    have hhI0 : (m : Int) = (hi : Int) := by omega
    have HL0 := Lib.hid hlI0
    have HH0 := Lib.hid hhI0
    clear hlI0 hhI0
    have HLO := Lib.hid hlo
    have HHI := Lib.hid hhi
    clear hlo hhi
    go_enter Try.func46, Try.ntmps46
    go_wp2_with fail
    obtain ⟨w1, hw1⟩ : ∃ z, w.alloc (.cells #[.func (.func g) #[] lb, .func (.func sf) #[] sb] 60) = z := ⟨_, rfl⟩
    have HW := Lib.hid hw1
    rw [hw1] at HS
    (try rw [hw1])
    clear hw1
    go_loopw [18, 19] (fun vi vj wr => ∃ i j : Nat, BinY lo hi (GeY yr x (mid + m)) (LtY yr x (mid + m)) i j ∧ vi = .int .i64 (i : Int) ∧ vj = .int .i64 (j : Int) ∧ StY base blk n c qo en wr x ∧ w1.grownBy wr (some blk)) (fun vi vj _ => (intOf vj).toNat - (intOf vi).toNat)
    case atStart => exact ⟨lo, hi, BinY.start hlh, by have := HL0.out; first | rfl | (congr 1 <;> omega), by have := HH0.out; first | rfl | (congr 1 <;> omega), HS.out, grown_of_below (Below.refl _ _) _⟩
    case round =>
      clear HS
      obtain ⟨i, j, hb, rfl, rfl, hs, hg⟩ := hrel
      have Hb := Lib.hid hb
      have hi' := hb.li
      have hij := hb.ij
      have hj := hb.jh
      clear hb
      have Hs := Lib.hid hs
      have Hg := Lib.hid hg
      obtain ⟨c0, c1⟩ := boxY (w := w) (by rw [HW.out]; exact hg) hblk
      clear hs hg
      obtain ⟨hq1, hq2, hq3, hq4, hq5, hq6⟩ := HA1.out
      by_cases hlt : i < j
      · have hlt' : (i : Int) < (j : Int) := by omega
        obtain ⟨h, hh⟩ : ∃ z, (i + j) / 2 = z := ⟨_, rfl⟩
        have hshh : ((((i : Int) + (j : Int)) >>> (1 : Nat)) : Int) = (h : Int) := by rw [Int.shiftRight_eq_div_pow]; omega
        have hsvh : (((i : Int) + (j : Int)) / 2 : Int) = (h : Int) := by omega
        have Hl := Lib.hid (HLe.out wr x (mid + m - 1 - h) h Hs.out (by have := HLO.out; have := HHI.out; omega) (by omega))
        rw [show ((mid + m - 1 - h : Nat) : Int) = (mid : Int) + (m : Int) - 1 - (h : Int) by have := HLO.out; have := HHI.out; omega] at Hl
        by_cases hle : yr (x (mid + m - 1 - h)) < yr (x h)
        · rw [decide_eq_true hle] at Hl
          have Hle := Lib.hid hle
          clear hle
          go_wp2_with fail
          refine Hl.out.mono ?_; rintro e w2 ⟨rfl, d, rfl⟩
          have Hs2 := Lib.hid (Hs.out.drewN d)
          have Hg2 := Lib.hid (grown_drewN Hg.out d)
          clear Hl
          go_wp2_with fail
          go_roundw
          case rel => exact ⟨i, h, Hb.out.down (by omega) (by omega) Hle.out, by first | rfl | omega, by first | rfl | omega, Hs2.out, Hg2.out⟩
          case measure => first | (simp [intOf]; done) | (simp [intOf]; omega)
        · rw [decide_eq_false hle] at Hl
          have Hle := Lib.hid hle
          clear hle
          go_wp2_with fail
          refine Hl.out.mono ?_; rintro e w2 ⟨rfl, d, rfl⟩
          have Hs2 := Lib.hid (Hs.out.drewN d)
          have Hg2 := Lib.hid (grown_drewN Hg.out d)
          clear Hl
          go_wp2_with fail
          go_roundw
          case rel => exact ⟨h + 1, j, Hb.out.up (by omega) (by omega) (by have := Hle.out; unfold GeY; omega), by first | go_num | omega, by first | rfl | omega, Hs2.out, Hg2.out⟩
          case measure => first | (simp [intOf]; done) | (simp [intOf]; omega)
      · obtain rfl : i = j := by omega
        have hlt' : ¬ ((i : Int) < (i : Int)) := by omega
        obtain ⟨e', hen⟩ : ∃ z, mid + m - i = z := ⟨_, rfl⟩
        have hbb : BinY lo hi (GeY yr x (mid + m)) (LtY yr x (mid + m)) i i := Hb.out
        obtain ⟨g1, g2, g3, g4, g5, g6, hcut⟩ := cut_of HM.out hq1 hq2 hq3 hq4 hq5 hq6 hen hbb
        have HCut := Lib.hid hcut
        have henI : (mid : Int) + (m : Int) - (i : Int) = (e' : Int) := by omega
        have hmab : a ≤ mid ∧ mid ≤ b := by omega
        clear hbb hcut hmid hen hq1 hq2 hq3 hq4 hq5 hq6 Hb
        by_cases r1 : i < m
        · have r1' : (i : Int) < (m : Int) := by omega
          by_cases r2 : m < e'
          · have r2' : (m : Int) < (e' : Int) := by omega
            have Hc := Lib.hid (HRo.out x i m e' wr Hs.out r1 r2 (by omega))
            go_wp2_with fail
            refine Hc.out.mono ?_; rintro e w6 ⟨rfl, y, rfl, hs6, hg6⟩
            have HsA := Lib.hid hs6
            have HgA := Lib.hid (grown_trans Hg.out hg6)
            clear hs6 hg6 c0 c1 Hs Hg Hc
            obtain ⟨j0, j1⟩ := boxY (w := w) (w1 := w6) (by rw [HW.out]; exact HgA.out) hblk
            by_cases v1 : a < i
            · have v1' : (a : Int) < (i : Int) := by omega
              by_cases v2 : i < mid
              · have v2' : (i : Int) < (mid : Int) := by omega
                have Hc := Lib.hid (HIH.out (rotY x i m e') a i mid w6 (by omega) HsA.out HCut.out.lo v1 v2 (by omega))
                go_wp2_with fail
                refine Hc.out.mono ?_; rintro e w7 ⟨rfl, y1, hp1, hs7, hg7⟩
                have HP1 := Lib.hid hp1
                have HsB := Lib.hid hs7
                have HgB := Lib.hid (grown_trans HgA.out hg7)
                clear hp1 hs7 hg7 j0 j1 HsA HgA Hc
                have hMC := HCut.out.hi.same (y := y1) g6 g4 (fun p p1 _ => HP1.out.1.out p (.inr p1))
                have HMC := Lib.hid hMC
                clear hMC
                obtain ⟨k0, k1⟩ := boxY (w := w) (w1 := w7) (by rw [HW.out]; exact HgB.out) hblk
                by_cases u1 : mid < e'
                · have u1' : (mid : Int) < (e' : Int) := by omega
                  by_cases u2 : e' < b
                  · have u2' : (e' : Int) < (b : Int) := by omega
                    have Hc := Lib.hid (HIH.out y1 mid e' b w7 (by omega) HsB.out HMC.out u1 u2 hbn)
                    go_wp2_with fail
                    refine Hc.out.mono ?_; rintro e w8 ⟨rfl, y2, ⟨hp2, hs2⟩, hs8, hg8⟩
                    have Hf := Lib.hid (cut_done HCut.out hmab.1 hmab.2 HP1.out.1 HP1.out.2 hp2 hs2)
                    have Hs8 := Lib.hid hs8
                    have Hg8 := Lib.hid (grown_trans HgB.out hg8)
                    clear hp2 hs2 hs8 hg8
                    go_wp2_with fail
                    go_end0
                    exact ⟨rfl, _, Hf.out, Hs8.out, grown_boxY (by rw [HW.out]; exact Hg8.out)⟩
                  · have u2' : ¬ (e' : Int) < (b : Int) := by omega
                    have Hf := Lib.hid (cut_done HCut.out hmab.1 hmab.2 HP1.out.1 HP1.out.2 (PrmY.refl _ _ _) (side_l HMC.out g6 g4 (fun h => u2 h.2)))
                    go_wp2_with fail
                    go_end0
                    exact ⟨rfl, _, Hf.out, HsB.out, grown_boxY (by rw [HW.out]; exact HgB.out)⟩
                · have u1' : ¬ (mid : Int) < (e' : Int) := by omega
                  have Hf := Lib.hid (cut_done HCut.out hmab.1 hmab.2 HP1.out.1 HP1.out.2 (PrmY.refl _ _ _) (side_l HMC.out g6 g4 (fun h => u1 h.1)))
                  go_wp2_with fail
                  go_end0
                  exact ⟨rfl, _, Hf.out, HsB.out, grown_boxY (by rw [HW.out]; exact HgB.out)⟩
              · have v2' : ¬ (i : Int) < (mid : Int) := by omega
                have HP1 := Lib.hid (show PrmY (rotY x i m e') (rotY x i m e') a mid ∧ SrtY yr (rotY x i m e') a mid from ⟨PrmY.refl _ _ _, side_l HCut.out.lo g1 g5 (fun h => v2 h.2)⟩)
                have HsB := HsA
                have HgB := HgA
                clear j0 j1 HsA HgA
                have hMC := HCut.out.hi.same (y := (rotY x i m e')) g6 g4 (fun p p1 _ => HP1.out.1.out p (.inr p1))
                have HMC := Lib.hid hMC
                clear hMC
                obtain ⟨k0, k1⟩ := boxY (w := w) (w1 := w6) (by rw [HW.out]; exact HgB.out) hblk
                by_cases u1 : mid < e'
                · have u1' : (mid : Int) < (e' : Int) := by omega
                  by_cases u2 : e' < b
                  · have u2' : (e' : Int) < (b : Int) := by omega
                    have Hc := Lib.hid (HIH.out (rotY x i m e') mid e' b w6 (by omega) HsB.out HMC.out u1 u2 hbn)
                    go_wp2_with fail
                    refine Hc.out.mono ?_; rintro e w8 ⟨rfl, y2, ⟨hp2, hs2⟩, hs8, hg8⟩
                    have Hf := Lib.hid (cut_done HCut.out hmab.1 hmab.2 HP1.out.1 HP1.out.2 hp2 hs2)
                    have Hs8 := Lib.hid hs8
                    have Hg8 := Lib.hid (grown_trans HgB.out hg8)
                    clear hp2 hs2 hs8 hg8
                    go_wp2_with fail
                    go_end0
                    exact ⟨rfl, _, Hf.out, Hs8.out, grown_boxY (by rw [HW.out]; exact Hg8.out)⟩
                  · have u2' : ¬ (e' : Int) < (b : Int) := by omega
                    have Hf := Lib.hid (cut_done HCut.out hmab.1 hmab.2 HP1.out.1 HP1.out.2 (PrmY.refl _ _ _) (side_l HMC.out g6 g4 (fun h => u2 h.2)))
                    go_wp2_with fail
                    go_end0
                    exact ⟨rfl, _, Hf.out, HsB.out, grown_boxY (by rw [HW.out]; exact HgB.out)⟩
                · have u1' : ¬ (mid : Int) < (e' : Int) := by omega
                  have Hf := Lib.hid (cut_done HCut.out hmab.1 hmab.2 HP1.out.1 HP1.out.2 (PrmY.refl _ _ _) (side_l HMC.out g6 g4 (fun h => u1 h.1)))
                  go_wp2_with fail
                  go_end0
                  exact ⟨rfl, _, Hf.out, HsB.out, grown_boxY (by rw [HW.out]; exact HgB.out)⟩
            · have v1' : ¬ (a : Int) < (i : Int) := by omega
              have HP1 := Lib.hid (show PrmY (rotY x i m e') (rotY x i m e') a mid ∧ SrtY yr (rotY x i m e') a mid from ⟨PrmY.refl _ _ _, side_l HCut.out.lo g1 g5 (fun h => v1 h.1)⟩)
              have HsB := HsA
              have HgB := HgA
              clear j0 j1 HsA HgA
              have hMC := HCut.out.hi.same (y := (rotY x i m e')) g6 g4 (fun p p1 _ => HP1.out.1.out p (.inr p1))
              have HMC := Lib.hid hMC
              clear hMC
              obtain ⟨k0, k1⟩ := boxY (w := w) (w1 := w6) (by rw [HW.out]; exact HgB.out) hblk
              by_cases u1 : mid < e'
              · have u1' : (mid : Int) < (e' : Int) := by omega
                by_cases u2 : e' < b
                · have u2' : (e' : Int) < (b : Int) := by omega
                  have Hc := Lib.hid (HIH.out (rotY x i m e') mid e' b w6 (by omega) HsB.out HMC.out u1 u2 hbn)
                  go_wp2_with fail
                  refine Hc.out.mono ?_; rintro e w8 ⟨rfl, y2, ⟨hp2, hs2⟩, hs8, hg8⟩
                  have Hf := Lib.hid (cut_done HCut.out hmab.1 hmab.2 HP1.out.1 HP1.out.2 hp2 hs2)
                  have Hs8 := Lib.hid hs8
                  have Hg8 := Lib.hid (grown_trans HgB.out hg8)
                  clear hp2 hs2 hs8 hg8
                  go_wp2_with fail
                  go_end0
                  exact ⟨rfl, _, Hf.out, Hs8.out, grown_boxY (by rw [HW.out]; exact Hg8.out)⟩
                · have u2' : ¬ (e' : Int) < (b : Int) := by omega
                  have Hf := Lib.hid (cut_done HCut.out hmab.1 hmab.2 HP1.out.1 HP1.out.2 (PrmY.refl _ _ _) (side_l HMC.out g6 g4 (fun h => u2 h.2)))
                  go_wp2_with fail
                  go_end0
                  exact ⟨rfl, _, Hf.out, HsB.out, grown_boxY (by rw [HW.out]; exact HgB.out)⟩
              · have u1' : ¬ (mid : Int) < (e' : Int) := by omega
                have Hf := Lib.hid (cut_done HCut.out hmab.1 hmab.2 HP1.out.1 HP1.out.2 (PrmY.refl _ _ _) (side_l HMC.out g6 g4 (fun h => u1 h.1)))
                go_wp2_with fail
                go_end0
                exact ⟨rfl, _, Hf.out, HsB.out, grown_boxY (by rw [HW.out]; exact HgB.out)⟩
          · have r2' : ¬ (m : Int) < (e' : Int) := by omega
            have HsA := Lib.hid (show StY base blk n c qo en wr (rotY x i m e') by rw [rotY_id x (.inr (by omega))]; exact Hs.out)
            have HgA := Hg
            clear c0 c1 Hs Hg
            obtain ⟨j0, j1⟩ := boxY (w := w) (w1 := wr) (by rw [HW.out]; exact HgA.out) hblk
            by_cases v1 : a < i
            · have v1' : (a : Int) < (i : Int) := by omega
              by_cases v2 : i < mid
              · have v2' : (i : Int) < (mid : Int) := by omega
                have Hc := Lib.hid (HIH.out (rotY x i m e') a i mid wr (by omega) HsA.out HCut.out.lo v1 v2 (by omega))
                go_wp2_with fail
                refine Hc.out.mono ?_; rintro e w7 ⟨rfl, y1, hp1, hs7, hg7⟩
                have HP1 := Lib.hid hp1
                have HsB := Lib.hid hs7
                have HgB := Lib.hid (grown_trans HgA.out hg7)
                clear hp1 hs7 hg7 j0 j1 HsA HgA Hc
                have hMC := HCut.out.hi.same (y := y1) g6 g4 (fun p p1 _ => HP1.out.1.out p (.inr p1))
                have HMC := Lib.hid hMC
                clear hMC
                obtain ⟨k0, k1⟩ := boxY (w := w) (w1 := w7) (by rw [HW.out]; exact HgB.out) hblk
                by_cases u1 : mid < e'
                · have u1' : (mid : Int) < (e' : Int) := by omega
                  by_cases u2 : e' < b
                  · have u2' : (e' : Int) < (b : Int) := by omega
                    have Hc := Lib.hid (HIH.out y1 mid e' b w7 (by omega) HsB.out HMC.out u1 u2 hbn)
                    go_wp2_with fail
                    refine Hc.out.mono ?_; rintro e w8 ⟨rfl, y2, ⟨hp2, hs2⟩, hs8, hg8⟩
                    have Hf := Lib.hid (cut_done HCut.out hmab.1 hmab.2 HP1.out.1 HP1.out.2 hp2 hs2)
                    have Hs8 := Lib.hid hs8
                    have Hg8 := Lib.hid (grown_trans HgB.out hg8)
                    clear hp2 hs2 hs8 hg8
                    go_wp2_with fail
                    go_end0
                    exact ⟨rfl, _, Hf.out, Hs8.out, grown_boxY (by rw [HW.out]; exact Hg8.out)⟩
                  · have u2' : ¬ (e' : Int) < (b : Int) := by omega
                    have Hf := Lib.hid (cut_done HCut.out hmab.1 hmab.2 HP1.out.1 HP1.out.2 (PrmY.refl _ _ _) (side_l HMC.out g6 g4 (fun h => u2 h.2)))
                    go_wp2_with fail
                    go_end0
                    exact ⟨rfl, _, Hf.out, HsB.out, grown_boxY (by rw [HW.out]; exact HgB.out)⟩
                · have u1' : ¬ (mid : Int) < (e' : Int) := by omega
                  have Hf := Lib.hid (cut_done HCut.out hmab.1 hmab.2 HP1.out.1 HP1.out.2 (PrmY.refl _ _ _) (side_l HMC.out g6 g4 (fun h => u1 h.1)))
                  go_wp2_with fail
                  go_end0
                  exact ⟨rfl, _, Hf.out, HsB.out, grown_boxY (by rw [HW.out]; exact HgB.out)⟩
              · have v2' : ¬ (i : Int) < (mid : Int) := by omega
                have HP1 := Lib.hid (show PrmY (rotY x i m e') (rotY x i m e') a mid ∧ SrtY yr (rotY x i m e') a mid from ⟨PrmY.refl _ _ _, side_l HCut.out.lo g1 g5 (fun h => v2 h.2)⟩)
                have HsB := HsA
                have HgB := HgA
                clear j0 j1 HsA HgA
                have hMC := HCut.out.hi.same (y := (rotY x i m e')) g6 g4 (fun p p1 _ => HP1.out.1.out p (.inr p1))
                have HMC := Lib.hid hMC
                clear hMC
                obtain ⟨k0, k1⟩ := boxY (w := w) (w1 := wr) (by rw [HW.out]; exact HgB.out) hblk
                by_cases u1 : mid < e'
                · have u1' : (mid : Int) < (e' : Int) := by omega
                  by_cases u2 : e' < b
                  · have u2' : (e' : Int) < (b : Int) := by omega
                    have Hc := Lib.hid (HIH.out (rotY x i m e') mid e' b wr (by omega) HsB.out HMC.out u1 u2 hbn)
                    go_wp2_with fail
                    refine Hc.out.mono ?_; rintro e w8 ⟨rfl, y2, ⟨hp2, hs2⟩, hs8, hg8⟩
                    have Hf := Lib.hid (cut_done HCut.out hmab.1 hmab.2 HP1.out.1 HP1.out.2 hp2 hs2)
                    have Hs8 := Lib.hid hs8
                    have Hg8 := Lib.hid (grown_trans HgB.out hg8)
                    clear hp2 hs2 hs8 hg8
                    go_wp2_with fail
                    go_end0
                    exact ⟨rfl, _, Hf.out, Hs8.out, grown_boxY (by rw [HW.out]; exact Hg8.out)⟩
                  · have u2' : ¬ (e' : Int) < (b : Int) := by omega
                    have Hf := Lib.hid (cut_done HCut.out hmab.1 hmab.2 HP1.out.1 HP1.out.2 (PrmY.refl _ _ _) (side_l HMC.out g6 g4 (fun h => u2 h.2)))
                    go_wp2_with fail
                    go_end0
                    exact ⟨rfl, _, Hf.out, HsB.out, grown_boxY (by rw [HW.out]; exact HgB.out)⟩
                · have u1' : ¬ (mid : Int) < (e' : Int) := by omega
                  have Hf := Lib.hid (cut_done HCut.out hmab.1 hmab.2 HP1.out.1 HP1.out.2 (PrmY.refl _ _ _) (side_l HMC.out g6 g4 (fun h => u1 h.1)))
                  go_wp2_with fail
                  go_end0
                  exact ⟨rfl, _, Hf.out, HsB.out, grown_boxY (by rw [HW.out]; exact HgB.out)⟩
            · have v1' : ¬ (a : Int) < (i : Int) := by omega
              have HP1 := Lib.hid (show PrmY (rotY x i m e') (rotY x i m e') a mid ∧ SrtY yr (rotY x i m e') a mid from ⟨PrmY.refl _ _ _, side_l HCut.out.lo g1 g5 (fun h => v1 h.1)⟩)
              have HsB := HsA
              have HgB := HgA
              clear j0 j1 HsA HgA
              have hMC := HCut.out.hi.same (y := (rotY x i m e')) g6 g4 (fun p p1 _ => HP1.out.1.out p (.inr p1))
              have HMC := Lib.hid hMC
              clear hMC
              obtain ⟨k0, k1⟩ := boxY (w := w) (w1 := wr) (by rw [HW.out]; exact HgB.out) hblk
              by_cases u1 : mid < e'
              · have u1' : (mid : Int) < (e' : Int) := by omega
                by_cases u2 : e' < b
                · have u2' : (e' : Int) < (b : Int) := by omega
                  have Hc := Lib.hid (HIH.out (rotY x i m e') mid e' b wr (by omega) HsB.out HMC.out u1 u2 hbn)
                  go_wp2_with fail
                  refine Hc.out.mono ?_; rintro e w8 ⟨rfl, y2, ⟨hp2, hs2⟩, hs8, hg8⟩
                  have Hf := Lib.hid (cut_done HCut.out hmab.1 hmab.2 HP1.out.1 HP1.out.2 hp2 hs2)
                  have Hs8 := Lib.hid hs8
                  have Hg8 := Lib.hid (grown_trans HgB.out hg8)
                  clear hp2 hs2 hs8 hg8
                  go_wp2_with fail
                  go_end0
                  exact ⟨rfl, _, Hf.out, Hs8.out, grown_boxY (by rw [HW.out]; exact Hg8.out)⟩
                · have u2' : ¬ (e' : Int) < (b : Int) := by omega
                  have Hf := Lib.hid (cut_done HCut.out hmab.1 hmab.2 HP1.out.1 HP1.out.2 (PrmY.refl _ _ _) (side_l HMC.out g6 g4 (fun h => u2 h.2)))
                  go_wp2_with fail
                  go_end0
                  exact ⟨rfl, _, Hf.out, HsB.out, grown_boxY (by rw [HW.out]; exact HgB.out)⟩
              · have u1' : ¬ (mid : Int) < (e' : Int) := by omega
                have Hf := Lib.hid (cut_done HCut.out hmab.1 hmab.2 HP1.out.1 HP1.out.2 (PrmY.refl _ _ _) (side_l HMC.out g6 g4 (fun h => u1 h.1)))
                go_wp2_with fail
                go_end0
                exact ⟨rfl, _, Hf.out, HsB.out, grown_boxY (by rw [HW.out]; exact HgB.out)⟩
        · have r1' : ¬ (i : Int) < (m : Int) := by omega
          have HsA := Lib.hid (show StY base blk n c qo en wr (rotY x i m e') by rw [rotY_id x (.inl (by omega))]; exact Hs.out)
          have HgA := Hg
          clear c0 c1 Hs Hg
          obtain ⟨j0, j1⟩ := boxY (w := w) (w1 := wr) (by rw [HW.out]; exact HgA.out) hblk
          by_cases v1 : a < i
          · have v1' : (a : Int) < (i : Int) := by omega
            by_cases v2 : i < mid
            · have v2' : (i : Int) < (mid : Int) := by omega
              have Hc := Lib.hid (HIH.out (rotY x i m e') a i mid wr (by omega) HsA.out HCut.out.lo v1 v2 (by omega))
              go_wp2_with fail
              refine Hc.out.mono ?_; rintro e w7 ⟨rfl, y1, hp1, hs7, hg7⟩
              have HP1 := Lib.hid hp1
              have HsB := Lib.hid hs7
              have HgB := Lib.hid (grown_trans HgA.out hg7)
              clear hp1 hs7 hg7 j0 j1 HsA HgA Hc
              have hMC := HCut.out.hi.same (y := y1) g6 g4 (fun p p1 _ => HP1.out.1.out p (.inr p1))
              have HMC := Lib.hid hMC
              clear hMC
              obtain ⟨k0, k1⟩ := boxY (w := w) (w1 := w7) (by rw [HW.out]; exact HgB.out) hblk
              by_cases u1 : mid < e'
              · have u1' : (mid : Int) < (e' : Int) := by omega
                by_cases u2 : e' < b
                · have u2' : (e' : Int) < (b : Int) := by omega
                  have Hc := Lib.hid (HIH.out y1 mid e' b w7 (by omega) HsB.out HMC.out u1 u2 hbn)
                  go_wp2_with fail
                  refine Hc.out.mono ?_; rintro e w8 ⟨rfl, y2, ⟨hp2, hs2⟩, hs8, hg8⟩
                  have Hf := Lib.hid (cut_done HCut.out hmab.1 hmab.2 HP1.out.1 HP1.out.2 hp2 hs2)
                  have Hs8 := Lib.hid hs8
                  have Hg8 := Lib.hid (grown_trans HgB.out hg8)
                  clear hp2 hs2 hs8 hg8
                  go_wp2_with fail
                  go_end0
                  exact ⟨rfl, _, Hf.out, Hs8.out, grown_boxY (by rw [HW.out]; exact Hg8.out)⟩
                · have u2' : ¬ (e' : Int) < (b : Int) := by omega
                  have Hf := Lib.hid (cut_done HCut.out hmab.1 hmab.2 HP1.out.1 HP1.out.2 (PrmY.refl _ _ _) (side_l HMC.out g6 g4 (fun h => u2 h.2)))
                  go_wp2_with fail
                  go_end0
                  exact ⟨rfl, _, Hf.out, HsB.out, grown_boxY (by rw [HW.out]; exact HgB.out)⟩
              · have u1' : ¬ (mid : Int) < (e' : Int) := by omega
                have Hf := Lib.hid (cut_done HCut.out hmab.1 hmab.2 HP1.out.1 HP1.out.2 (PrmY.refl _ _ _) (side_l HMC.out g6 g4 (fun h => u1 h.1)))
                go_wp2_with fail
                go_end0
                exact ⟨rfl, _, Hf.out, HsB.out, grown_boxY (by rw [HW.out]; exact HgB.out)⟩
            · have v2' : ¬ (i : Int) < (mid : Int) := by omega
              have HP1 := Lib.hid (show PrmY (rotY x i m e') (rotY x i m e') a mid ∧ SrtY yr (rotY x i m e') a mid from ⟨PrmY.refl _ _ _, side_l HCut.out.lo g1 g5 (fun h => v2 h.2)⟩)
              have HsB := HsA
              have HgB := HgA
              clear j0 j1 HsA HgA
              have hMC := HCut.out.hi.same (y := (rotY x i m e')) g6 g4 (fun p p1 _ => HP1.out.1.out p (.inr p1))
              have HMC := Lib.hid hMC
              clear hMC
              obtain ⟨k0, k1⟩ := boxY (w := w) (w1 := wr) (by rw [HW.out]; exact HgB.out) hblk
              by_cases u1 : mid < e'
              · have u1' : (mid : Int) < (e' : Int) := by omega
                by_cases u2 : e' < b
                · have u2' : (e' : Int) < (b : Int) := by omega
                  have Hc := Lib.hid (HIH.out (rotY x i m e') mid e' b wr (by omega) HsB.out HMC.out u1 u2 hbn)
                  go_wp2_with fail
                  refine Hc.out.mono ?_; rintro e w8 ⟨rfl, y2, ⟨hp2, hs2⟩, hs8, hg8⟩
                  have Hf := Lib.hid (cut_done HCut.out hmab.1 hmab.2 HP1.out.1 HP1.out.2 hp2 hs2)
                  have Hs8 := Lib.hid hs8
                  have Hg8 := Lib.hid (grown_trans HgB.out hg8)
                  clear hp2 hs2 hs8 hg8
                  go_wp2_with fail
                  go_end0
                  exact ⟨rfl, _, Hf.out, Hs8.out, grown_boxY (by rw [HW.out]; exact Hg8.out)⟩
                · have u2' : ¬ (e' : Int) < (b : Int) := by omega
                  have Hf := Lib.hid (cut_done HCut.out hmab.1 hmab.2 HP1.out.1 HP1.out.2 (PrmY.refl _ _ _) (side_l HMC.out g6 g4 (fun h => u2 h.2)))
                  go_wp2_with fail
                  go_end0
                  exact ⟨rfl, _, Hf.out, HsB.out, grown_boxY (by rw [HW.out]; exact HgB.out)⟩
              · have u1' : ¬ (mid : Int) < (e' : Int) := by omega
                have Hf := Lib.hid (cut_done HCut.out hmab.1 hmab.2 HP1.out.1 HP1.out.2 (PrmY.refl _ _ _) (side_l HMC.out g6 g4 (fun h => u1 h.1)))
                go_wp2_with fail
                go_end0
                exact ⟨rfl, _, Hf.out, HsB.out, grown_boxY (by rw [HW.out]; exact HgB.out)⟩
          · have v1' : ¬ (a : Int) < (i : Int) := by omega
            have HP1 := Lib.hid (show PrmY (rotY x i m e') (rotY x i m e') a mid ∧ SrtY yr (rotY x i m e') a mid from ⟨PrmY.refl _ _ _, side_l HCut.out.lo g1 g5 (fun h => v1 h.1)⟩)
            have HsB := HsA
            have HgB := HgA
            clear j0 j1 HsA HgA
            have hMC := HCut.out.hi.same (y := (rotY x i m e')) g6 g4 (fun p p1 _ => HP1.out.1.out p (.inr p1))
            have HMC := Lib.hid hMC
            clear hMC
            obtain ⟨k0, k1⟩ := boxY (w := w) (w1 := wr) (by rw [HW.out]; exact HgB.out) hblk
            by_cases u1 : mid < e'
            · have u1' : (mid : Int) < (e' : Int) := by omega
              by_cases u2 : e' < b
              · have u2' : (e' : Int) < (b : Int) := by omega
                have Hc := Lib.hid (HIH.out (rotY x i m e') mid e' b wr (by omega) HsB.out HMC.out u1 u2 hbn)
                go_wp2_with fail
                refine Hc.out.mono ?_; rintro e w8 ⟨rfl, y2, ⟨hp2, hs2⟩, hs8, hg8⟩
                have Hf := Lib.hid (cut_done HCut.out hmab.1 hmab.2 HP1.out.1 HP1.out.2 hp2 hs2)
                have Hs8 := Lib.hid hs8
                have Hg8 := Lib.hid (grown_trans HgB.out hg8)
                clear hp2 hs2 hs8 hg8
                go_wp2_with fail
                go_end0
                exact ⟨rfl, _, Hf.out, Hs8.out, grown_boxY (by rw [HW.out]; exact Hg8.out)⟩
              · have u2' : ¬ (e' : Int) < (b : Int) := by omega
                have Hf := Lib.hid (cut_done HCut.out hmab.1 hmab.2 HP1.out.1 HP1.out.2 (PrmY.refl _ _ _) (side_l HMC.out g6 g4 (fun h => u2 h.2)))
                go_wp2_with fail
                go_end0
                exact ⟨rfl, _, Hf.out, HsB.out, grown_boxY (by rw [HW.out]; exact HgB.out)⟩
            · have u1' : ¬ (mid : Int) < (e' : Int) := by omega
              have Hf := Lib.hid (cut_done HCut.out hmab.1 hmab.2 HP1.out.1 HP1.out.2 (PrmY.refl _ _ _) (side_l HMC.out g6 g4 (fun h => u1 h.1)))
              go_wp2_with fail
              go_end0
              exact ⟨rfl, _, Hf.out, HsB.out, grown_boxY (by rw [HW.out]; exact HgB.out)⟩
theorem symMerge_any {g : Nat} {lb : Array Value} {sf : Nat} {sb : Array Value} {base blk n c qo : Nat} {en : Nat → List Value} {yr : Nat → Int} (E : EnvY g lb sf sb base blk n c qo en yr) : ∀ N, AskM g lb sf sb base blk n c qo en yr N
  | 0 => fun x a m b w h0 _ _ h1 h2 _ => absurd h0 (by omega)
  | N + 1 => fun x a m b w h0 h hm h1 h2 h3 => by
    by_cases e1 : m = a + 1
    · subst e1
      have := symOneL_any E x a b w h hm (by omega) h3
      rwa [show ((a : Int) + 1) = ((a + 1 : Nat) : Int) by omega] at this
    · by_cases e2 : b = m + 1
      · subst e2
        have := symOneR_any E x a m w h hm (by omega) h3
        rwa [show ((m : Int) + 1) = ((m + 1 : Nat) : Int) by omega] at this
      · exact symStep_any E N (symMerge_any E N) x a m b w h0 h hm (by omega) (by omega) h3
end Go.Proofs.Ytmlnaedeghpbbaa
/- A stable sort by years, part 8: the library's stable sort of at most 50 entries (gen_by8.py). -/
namespace Go.Proofs.Ytmlnaedeghpbbaa
open Go.RowKit Go.Joins

/-- a range in order that holds its own places -/
structure SegY (yr : Nat → Int) (y : Nat → Nat) (a b : Nat) : Prop where
  srt : SrtY yr y a b
  fw : ∀ i, a ≤ i → i < b → a ≤ y i ∧ y i < b
  bw : ∀ v, a ≤ v → v < b → ∃ i, a ≤ i ∧ i < b ∧ y i = v
theorem SegY.same {yr : Nat → Int} {y z : Nat → Nat} {a b : Nat} (h : SegY yr y a b) (e : ∀ i, a ≤ i → i < b → z i = y i) : SegY yr z a b :=
  ⟨h.srt.same e, fun i h1 h2 => by rw [e i h1 h2]; exact h.fw i h1 h2, fun v h1 h2 => by
    obtain ⟨i, k1, k2, k3⟩ := h.bw v h1 h2
    exact ⟨i, k1, k2, by rw [e i k1 k2]; exact k3⟩⟩
theorem SegY.sort {yr : Nat → Int} {x y : Nat → Nat} {a b : Nat} (hx : ∀ i, a ≤ i → i < b → x i = i) (h : PrmY x y a b ∧ SrtY yr y a b) : SegY yr y a b :=
  ⟨h.2, fun i h1 h2 => by
    obtain ⟨j, k1, k2, k3⟩ := h.1.fw i h1 h2
    rw [k3, hx j k1 k2]; exact ⟨k1, k2⟩, fun v h1 h2 => by
    obtain ⟨i, k1, k2, k3⟩ := h.1.bw v h1 h2
    exact ⟨i, k1, k2, by rw [k3, hx v h1 h2]⟩⟩
theorem SegY.mrg {yr : Nat → Int} {y : Nat → Nat} {a m b : Nat} (h : SegY yr y a m) (k : SegY yr y m b) : MrgY yr y a m b :=
  ⟨h.srt, k.srt, fun i j h1 h2 h3 h4 => by have := (h.fw i h1 h2).2; have := (k.fw j h3 h4).1; omega⟩
theorem SegY.merge {yr : Nat → Int} {y z : Nat → Nat} {a m b : Nat} (h : SegY yr y a m) (k : SegY yr y m b) (ham : a ≤ m) (hmb : m ≤ b) (p : PrmY y z a b ∧ SrtY yr z a b) : SegY yr z a b := by
  have hf : ∀ i, a ≤ i → i < b → a ≤ y i ∧ y i < b := fun i h1 h2 => by
    by_cases e : i < m
    · have := h.fw i h1 e; omega
    · have := k.fw i (by omega) h2; omega
  refine ⟨p.2, fun i h1 h2 => ?_, fun v h1 h2 => ?_⟩
  · obtain ⟨j, k1, k2, k3⟩ := p.1.fw i h1 h2
    rw [k3]; exact hf j k1 k2
  · have : ∃ i, a ≤ i ∧ i < b ∧ y i = v := by
      by_cases e : v < m
      · obtain ⟨i, k1, k2, k3⟩ := h.bw v h1 e
        exact ⟨i, k1, by omega, k3⟩
      · obtain ⟨i, k1, k2, k3⟩ := k.bw v (by omega) h2
        exact ⟨i, by omega, k2, k3⟩
    obtain ⟨i, k1, k2, k3⟩ := this
    obtain ⟨j, k4, k5, k6⟩ := p.1.bw i k1 k2
    exact ⟨j, k4, k5, by rw [k6, k3]⟩
theorem seg_ord {yr : Nat → Int} {x : Nat → Nat} {n : Nat} (h : SegY yr x 0 n) : ∀ i, i < n → x i = (ordY yr n).getD i 0 := by
  have k := ordY_ok yr n
  refine srtY_uniq h.srt k.srt (fun i hi => ?_) (fun i hi => ?_)
  · obtain ⟨q, hq, he⟩ := k.all (x i) (h.fw i (Nat.zero_le _) hi).2
    exact ⟨q, hq, he.symm⟩
  · obtain ⟨j, _, hj, e⟩ := h.bw ((ordY yr n).getD i 0) (Nat.zero_le _) (k.lt i hi)
    exact ⟨j, hj, e.symm⟩
set_option maxRecDepth 100000 in
set_option maxHeartbeats 6400000 in
theorem stableA_any {g : Nat} {lb : Array Value} {sf : Nat} {sb : Array Value} {base blk n c qo : Nat} {en : Nat → List Value} {yr : Nat → Int} (E : EnvY g lb sf sb base blk n c qo en yr) (w : World) (h : StY base blk n c qo en w (fun k => k)) (h20 : n < 20) :
    Calls Try.prog 29 #[.agg #[.func (.func g) #[] lb, .func (.func sf) #[] sb], .int .i64 (n : Int)] w (DoneY base blk n c qo en w (fun y => SegY yr y 0 n)) := by
  have hn := E.n1
  have hblk := h.blt.2
  have HS := Lib.hid (h.below ((Below.refl w.heap.size w).alloc (Nat.le_refl _) (.cells #[.func (.func g) #[] lb, .func (.func sf) #[] sb] 60)))
  have HI := Lib.hid (fun x a b w h h1 h2 h3 => insSort_any E x a b w h h1 h2 h3)
  have HMg := Lib.hid (fun x a m b w h h1 h2 h3 h4 => symMerge_any E (b - a) x a m b w (Nat.le_refl _) h h1 h2 h3 h4)
  unfold DoneY at HI HMg
  clear h E
  go_enter Try.func29, Try.ntmps29
  go_wp2_with fail
  obtain ⟨w1, hw1⟩ : ∃ z, w.alloc (.cells #[.func (.func g) #[] lb, .func (.func sf) #[] sb] 60) = z := ⟨_, rfl⟩
  have HW := Lib.hid hw1
  rw [hw1] at HS
  (try rw [hw1])
  clear hw1
  have Hg0 := Lib.hid (grown_of_below (Below.refl w1.heap.size w1) (some blk))
  refine wp_loop_rounds 1 ?_
  rw [rounds_succ]
  obtain ⟨c0, c1⟩ := boxY (w := w) (w1 := w1) (by rw [HW.out]; exact Hg0.out) hblk
  have Hc := Lib.hid (HI.out (fun k => k) 0 n w1 HS.out (by omega) (by omega) (fun p q p1 p2 p3 => by omega))
  go_wp2_with fail
  refine Hc.out.mono ?_; rintro e v1 ⟨rfl, y1, hp, hs, hg⟩
  have HP1 := Lib.hid hp
  have HS1 := Lib.hid hs
  have Hg1 := Lib.hid (grown_trans Hg0.out hg)
  clear hp hs hg Hc c0 c1
  go_wp2_with fail
  refine wp_loop_rounds 1 ?_
  rw [rounds_succ]
  go_wp2_with fail
  go_end0
  exact ⟨rfl, _, SegY.sort (fun _ _ _ => rfl) HP1.out, HS1.out, grown_boxY (by rw [HW.out]; exact Hg1.out)⟩
set_option maxRecDepth 100000 in
set_option maxHeartbeats 6400000 in
theorem stableB_any {g : Nat} {lb : Array Value} {sf : Nat} {sb : Array Value} {base blk n c qo : Nat} {en : Nat → List Value} {yr : Nat → Int} (E : EnvY g lb sf sb base blk n c qo en yr) (w : World) (h : StY base blk n c qo en w (fun k => k)) (h20 : n = 20) :
    Calls Try.prog 29 #[.agg #[.func (.func g) #[] lb, .func (.func sf) #[] sb], .int .i64 (n : Int)] w (DoneY base blk n c qo en w (fun y => SegY yr y 0 n)) := by
  have hn := E.n1
  have hblk := h.blt.2
  have HS := Lib.hid (h.below ((Below.refl w.heap.size w).alloc (Nat.le_refl _) (.cells #[.func (.func g) #[] lb, .func (.func sf) #[] sb] 60)))
  have HI := Lib.hid (fun x a b w h h1 h2 h3 => insSort_any E x a b w h h1 h2 h3)
  have HMg := Lib.hid (fun x a m b w h h1 h2 h3 h4 => symMerge_any E (b - a) x a m b w (Nat.le_refl _) h h1 h2 h3 h4)
  unfold DoneY at HI HMg
  clear h E
  go_enter Try.func29, Try.ntmps29
  go_wp2_with fail
  obtain ⟨w1, hw1⟩ : ∃ z, w.alloc (.cells #[.func (.func g) #[] lb, .func (.func sf) #[] sb] 60) = z := ⟨_, rfl⟩
  have HW := Lib.hid hw1
  rw [hw1] at HS
  (try rw [hw1])
  clear hw1
  have Hg0 := Lib.hid (grown_of_below (Below.refl w1.heap.size w1) (some blk))
  refine wp_loop_rounds 2 ?_
  rw [rounds_succ]
  obtain ⟨c0, c1⟩ := boxY (w := w) (w1 := w1) (by rw [HW.out]; exact Hg0.out) hblk
  have Hc := Lib.hid (HI.out (fun k => k) 0 20 w1 HS.out (by omega) (by omega) (fun p q p1 p2 p3 => by omega))
  go_wp2_with fail
  refine Hc.out.mono ?_; rintro e v1 ⟨rfl, y1, hp, hs, hg⟩
  have HP1 := Lib.hid hp
  have HS1 := Lib.hid hs
  have Hg1 := Lib.hid (grown_trans Hg0.out hg)
  clear hp hs hg Hc c0 c1
  go_wp2_with fail
  rw [rounds_succ]
  obtain ⟨c0, c1⟩ := boxY (w := w) (w1 := v1) (by rw [HW.out]; exact Hg1.out) hblk
  have Hc := Lib.hid (HI.out y1 20 20 v1 HS1.out (by omega) (by omega) (fun p q p1 p2 p3 => by omega))
  go_wp2_with fail
  refine Hc.out.mono ?_; rintro e v2 ⟨rfl, y2, hp, hs, hg⟩
  have HP2 := Lib.hid hp
  have HS2 := Lib.hid hs
  have Hg2 := Lib.hid (grown_trans Hg1.out hg)
  clear hp hs hg Hc c0 c1
  go_wp2_with fail
  refine wp_loop_rounds 1 ?_
  rw [rounds_succ]
  go_wp2_with fail
  go_end0
  exact ⟨rfl, _, by rw [h20]; exact (SegY.sort (fun _ _ _ => rfl) HP1.out).same (fun p p1 p2 => HP2.out.1.out p (.inl p2)), HS2.out, grown_boxY (by rw [HW.out]; exact Hg2.out)⟩
set_option maxRecDepth 100000 in
set_option maxHeartbeats 6400000 in
theorem stableC_any {g : Nat} {lb : Array Value} {sf : Nat} {sb : Array Value} {base blk n c qo : Nat} {en : Nat → List Value} {yr : Nat → Int} (E : EnvY g lb sf sb base blk n c qo en yr) (w : World) (h : StY base blk n c qo en w (fun k => k)) (h20 : 20 < n) (h40 : n < 40) :
    Calls Try.prog 29 #[.agg #[.func (.func g) #[] lb, .func (.func sf) #[] sb], .int .i64 (n : Int)] w (DoneY base blk n c qo en w (fun y => SegY yr y 0 n)) := by
  have hn := E.n1
  have hblk := h.blt.2
  have HS := Lib.hid (h.below ((Below.refl w.heap.size w).alloc (Nat.le_refl _) (.cells #[.func (.func g) #[] lb, .func (.func sf) #[] sb] 60)))
  have HI := Lib.hid (fun x a b w h h1 h2 h3 => insSort_any E x a b w h h1 h2 h3)
  have HMg := Lib.hid (fun x a m b w h h1 h2 h3 h4 => symMerge_any E (b - a) x a m b w (Nat.le_refl _) h h1 h2 h3 h4)
  unfold DoneY at HI HMg
  clear h E
  go_enter Try.func29, Try.ntmps29
  go_wp2_with fail
  obtain ⟨w1, hw1⟩ : ∃ z, w.alloc (.cells #[.func (.func g) #[] lb, .func (.func sf) #[] sb] 60) = z := ⟨_, rfl⟩
  have HW := Lib.hid hw1
  rw [hw1] at HS
  (try rw [hw1])
  clear hw1
  have Hg0 := Lib.hid (grown_of_below (Below.refl w1.heap.size w1) (some blk))
  refine wp_loop_rounds 2 ?_
  rw [rounds_succ]
  obtain ⟨c0, c1⟩ := boxY (w := w) (w1 := w1) (by rw [HW.out]; exact Hg0.out) hblk
  have Hc := Lib.hid (HI.out (fun k => k) 0 20 w1 HS.out (by omega) (by omega) (fun p q p1 p2 p3 => by omega))
  go_wp2_with fail
  refine Hc.out.mono ?_; rintro e v1 ⟨rfl, y1, hp, hs, hg⟩
  have HP1 := Lib.hid hp
  have HS1 := Lib.hid hs
  have Hg1 := Lib.hid (grown_trans Hg0.out hg)
  clear hp hs hg Hc c0 c1
  go_wp2_with fail
  rw [rounds_succ]
  obtain ⟨c0, c1⟩ := boxY (w := w) (w1 := v1) (by rw [HW.out]; exact Hg1.out) hblk
  have Hc := Lib.hid (HI.out y1 20 n v1 HS1.out (by omega) (by omega) (fun p q p1 p2 p3 => by rw [HP1.out.1.out p (.inr p1), HP1.out.1.out q (.inr (by omega))]; exact p2))
  go_wp2_with fail
  refine Hc.out.mono ?_; rintro e v2 ⟨rfl, y2, hp, hs, hg⟩
  have HP2 := Lib.hid hp
  have HS2 := Lib.hid hs
  have Hg2 := Lib.hid (grown_trans Hg1.out hg)
  clear hp hs hg Hc c0 c1
  go_wp2_with fail
  refine wp_loop_rounds 2 ?_
  rw [rounds_succ]
  go_wp2_with fail
  refine wp_loop_rounds 1 ?_
  rw [rounds_succ]
  obtain ⟨c0, c1⟩ := boxY (w := w) (w1 := v2) (by rw [HW.out]; exact Hg2.out) hblk
  have hsg1 : SegY yr y2 0 20 := (SegY.sort (fun _ _ _ => rfl) HP1.out).same (fun p p1 p2 => HP2.out.1.out p (.inl p2))
  have hsg2 : SegY yr y2 20 n := SegY.sort (fun p p1 _ => HP1.out.1.out p (.inr p1)) HP2.out
  have Hc := Lib.hid (HMg.out y2 0 20 n v2 HS2.out (hsg1.mrg hsg2) (by omega) (by omega) (by omega))
  have Hsg1 := Lib.hid hsg1
  have Hsg2 := Lib.hid hsg2
  clear hsg1 hsg2
  go_wp2_with fail
  refine Hc.out.mono ?_; rintro e v3 ⟨rfl, y3, hp, hs, hg⟩
  have HP3 := Lib.hid hp
  have HM3 := Lib.hid (Hsg1.out.merge Hsg2.out (by omega) (by omega) hp)
  have HS3 := Lib.hid hs
  have Hg3 := Lib.hid (grown_trans Hg2.out hg)
  clear hp hs hg Hc c0 c1 Hsg1 Hsg2
  go_wp2_with fail
  rw [rounds_succ]
  go_wp2_with fail
  go_end0
  exact ⟨rfl, _, HM3.out, HS3.out, grown_boxY (by rw [HW.out]; exact Hg3.out)⟩
set_option maxRecDepth 100000 in
set_option maxHeartbeats 6400000 in
theorem stableD_any {g : Nat} {lb : Array Value} {sf : Nat} {sb : Array Value} {base blk n c qo : Nat} {en : Nat → List Value} {yr : Nat → Int} (E : EnvY g lb sf sb base blk n c qo en yr) (w : World) (h : StY base blk n c qo en w (fun k => k)) (h20 : n = 40) :
    Calls Try.prog 29 #[.agg #[.func (.func g) #[] lb, .func (.func sf) #[] sb], .int .i64 (n : Int)] w (DoneY base blk n c qo en w (fun y => SegY yr y 0 n)) := by
  have hn := E.n1
  have hblk := h.blt.2
  have HS := Lib.hid (h.below ((Below.refl w.heap.size w).alloc (Nat.le_refl _) (.cells #[.func (.func g) #[] lb, .func (.func sf) #[] sb] 60)))
  have HI := Lib.hid (fun x a b w h h1 h2 h3 => insSort_any E x a b w h h1 h2 h3)
  have HMg := Lib.hid (fun x a m b w h h1 h2 h3 h4 => symMerge_any E (b - a) x a m b w (Nat.le_refl _) h h1 h2 h3 h4)
  unfold DoneY at HI HMg
  clear h E
  go_enter Try.func29, Try.ntmps29
  go_wp2_with fail
  obtain ⟨w1, hw1⟩ : ∃ z, w.alloc (.cells #[.func (.func g) #[] lb, .func (.func sf) #[] sb] 60) = z := ⟨_, rfl⟩
  have HW := Lib.hid hw1
  rw [hw1] at HS
  (try rw [hw1])
  clear hw1
  have Hg0 := Lib.hid (grown_of_below (Below.refl w1.heap.size w1) (some blk))
  refine wp_loop_rounds 3 ?_
  rw [rounds_succ]
  obtain ⟨c0, c1⟩ := boxY (w := w) (w1 := w1) (by rw [HW.out]; exact Hg0.out) hblk
  have Hc := Lib.hid (HI.out (fun k => k) 0 20 w1 HS.out (by omega) (by omega) (fun p q p1 p2 p3 => by omega))
  go_wp2_with fail
  refine Hc.out.mono ?_; rintro e v1 ⟨rfl, y1, hp, hs, hg⟩
  have HP1 := Lib.hid hp
  have HS1 := Lib.hid hs
  have Hg1 := Lib.hid (grown_trans Hg0.out hg)
  clear hp hs hg Hc c0 c1
  go_wp2_with fail
  rw [rounds_succ]
  obtain ⟨c0, c1⟩ := boxY (w := w) (w1 := v1) (by rw [HW.out]; exact Hg1.out) hblk
  have Hc := Lib.hid (HI.out y1 20 40 v1 HS1.out (by omega) (by omega) (fun p q p1 p2 p3 => by rw [HP1.out.1.out p (.inr p1), HP1.out.1.out q (.inr (by omega))]; exact p2))
  go_wp2_with fail
  refine Hc.out.mono ?_; rintro e v2 ⟨rfl, y2, hp, hs, hg⟩
  have HP2 := Lib.hid hp
  have HS2 := Lib.hid hs
  have Hg2 := Lib.hid (grown_trans Hg1.out hg)
  clear hp hs hg Hc c0 c1
  go_wp2_with fail
  rw [rounds_succ]
  obtain ⟨c0, c1⟩ := boxY (w := w) (w1 := v2) (by rw [HW.out]; exact Hg2.out) hblk
  have Hc := Lib.hid (HI.out y2 40 40 v2 HS2.out (by omega) (by omega) (fun p q p1 p2 p3 => by rw [HP2.out.1.out p (.inr p1), HP2.out.1.out q (.inr (by omega)), HP1.out.1.out p (.inr (by omega)), HP1.out.1.out q (.inr (by omega))]; exact p2))
  go_wp2_with fail
  refine Hc.out.mono ?_; rintro e v3 ⟨rfl, y3, hp, hs, hg⟩
  have HP3 := Lib.hid hp
  have HS3 := Lib.hid hs
  have Hg3 := Lib.hid (grown_trans Hg2.out hg)
  clear hp hs hg Hc c0 c1
  go_wp2_with fail
  refine wp_loop_rounds 2 ?_
  rw [rounds_succ]
  go_wp2_with fail
  refine wp_loop_rounds 2 ?_
  rw [rounds_succ]
  obtain ⟨c0, c1⟩ := boxY (w := w) (w1 := v3) (by rw [HW.out]; exact Hg3.out) hblk
  have hsg1 : SegY yr y3 0 20 := (SegY.sort (fun _ _ _ => rfl) HP1.out).same (fun p p1 p2 => (HP3.out.1.out p (.inl (by omega))).trans (HP2.out.1.out p (.inl p2)))
  have hsg2 : SegY yr y3 20 40 := (SegY.sort (fun p p1 _ => HP1.out.1.out p (.inr p1)) HP2.out).same (fun p p1 p2 => HP3.out.1.out p (.inl p2))
  have Hc := Lib.hid (HMg.out y3 0 20 40 v3 HS3.out (hsg1.mrg hsg2) (by omega) (by omega) (by omega))
  have Hsg1 := Lib.hid hsg1
  have Hsg2 := Lib.hid hsg2
  clear hsg1 hsg2
  go_wp2_with fail
  refine Hc.out.mono ?_; rintro e v4 ⟨rfl, y4, hp, hs, hg⟩
  have HP4 := Lib.hid hp
  have HM4 := Lib.hid (Hsg1.out.merge Hsg2.out (by omega) (by omega) hp)
  have HS4 := Lib.hid hs
  have Hg4 := Lib.hid (grown_trans Hg3.out hg)
  clear hp hs hg Hc c0 c1 Hsg1 Hsg2
  go_wp2_with fail
  rw [rounds_succ]
  go_wp2_with fail
  rw [rounds_succ]
  go_wp2_with fail
  go_end0
  exact ⟨rfl, _, by rw [h20]; exact HM4.out, HS4.out, grown_boxY (by rw [HW.out]; exact Hg4.out)⟩
set_option maxRecDepth 100000 in
set_option maxHeartbeats 6400000 in
theorem stableF_any {g : Nat} {lb : Array Value} {sf : Nat} {sb : Array Value} {base blk n c qo : Nat} {en : Nat → List Value} {yr : Nat → Int} (E : EnvY g lb sf sb base blk n c qo en yr) (w : World) (h : StY base blk n c qo en w (fun k => k)) (h20 : 40 < n) (h40 : n ≤ 50) :
    Calls Try.prog 29 #[.agg #[.func (.func g) #[] lb, .func (.func sf) #[] sb], .int .i64 (n : Int)] w (DoneY base blk n c qo en w (fun y => SegY yr y 0 n)) := by
  have hn := E.n1
  have hblk := h.blt.2
  have HS := Lib.hid (h.below ((Below.refl w.heap.size w).alloc (Nat.le_refl _) (.cells #[.func (.func g) #[] lb, .func (.func sf) #[] sb] 60)))
  have HI := Lib.hid (fun x a b w h h1 h2 h3 => insSort_any E x a b w h h1 h2 h3)
  have HMg := Lib.hid (fun x a m b w h h1 h2 h3 h4 => symMerge_any E (b - a) x a m b w (Nat.le_refl _) h h1 h2 h3 h4)
  unfold DoneY at HI HMg
  clear h E
  go_enter Try.func29, Try.ntmps29
  go_wp2_with fail
  obtain ⟨w1, hw1⟩ : ∃ z, w.alloc (.cells #[.func (.func g) #[] lb, .func (.func sf) #[] sb] 60) = z := ⟨_, rfl⟩
  have HW := Lib.hid hw1
  rw [hw1] at HS
  (try rw [hw1])
  clear hw1
  have Hg0 := Lib.hid (grown_of_below (Below.refl w1.heap.size w1) (some blk))
  refine wp_loop_rounds 3 ?_
  rw [rounds_succ]
  obtain ⟨c0, c1⟩ := boxY (w := w) (w1 := w1) (by rw [HW.out]; exact Hg0.out) hblk
  have Hc := Lib.hid (HI.out (fun k => k) 0 20 w1 HS.out (by omega) (by omega) (fun p q p1 p2 p3 => by omega))
  go_wp2_with fail
  refine Hc.out.mono ?_; rintro e v1 ⟨rfl, y1, hp, hs, hg⟩
  have HP1 := Lib.hid hp
  have HS1 := Lib.hid hs
  have Hg1 := Lib.hid (grown_trans Hg0.out hg)
  clear hp hs hg Hc c0 c1
  go_wp2_with fail
  rw [rounds_succ]
  obtain ⟨c0, c1⟩ := boxY (w := w) (w1 := v1) (by rw [HW.out]; exact Hg1.out) hblk
  have Hc := Lib.hid (HI.out y1 20 40 v1 HS1.out (by omega) (by omega) (fun p q p1 p2 p3 => by rw [HP1.out.1.out p (.inr p1), HP1.out.1.out q (.inr (by omega))]; exact p2))
  go_wp2_with fail
  refine Hc.out.mono ?_; rintro e v2 ⟨rfl, y2, hp, hs, hg⟩
  have HP2 := Lib.hid hp
  have HS2 := Lib.hid hs
  have Hg2 := Lib.hid (grown_trans Hg1.out hg)
  clear hp hs hg Hc c0 c1
  go_wp2_with fail
  rw [rounds_succ]
  obtain ⟨c0, c1⟩ := boxY (w := w) (w1 := v2) (by rw [HW.out]; exact Hg2.out) hblk
  have Hc := Lib.hid (HI.out y2 40 n v2 HS2.out (by omega) (by omega) (fun p q p1 p2 p3 => by rw [HP2.out.1.out p (.inr p1), HP2.out.1.out q (.inr (by omega)), HP1.out.1.out p (.inr (by omega)), HP1.out.1.out q (.inr (by omega))]; exact p2))
  go_wp2_with fail
  refine Hc.out.mono ?_; rintro e v3 ⟨rfl, y3, hp, hs, hg⟩
  have HP3 := Lib.hid hp
  have HS3 := Lib.hid hs
  have Hg3 := Lib.hid (grown_trans Hg2.out hg)
  clear hp hs hg Hc c0 c1
  go_wp2_with fail
  refine wp_loop_rounds 3 ?_
  rw [rounds_succ]
  go_wp2_with fail
  refine wp_loop_rounds 2 ?_
  rw [rounds_succ]
  obtain ⟨c0, c1⟩ := boxY (w := w) (w1 := v3) (by rw [HW.out]; exact Hg3.out) hblk
  have hsg1 : SegY yr y3 0 20 := (SegY.sort (fun _ _ _ => rfl) HP1.out).same (fun p p1 p2 => (HP3.out.1.out p (.inl (by omega))).trans (HP2.out.1.out p (.inl p2)))
  have hsg2 : SegY yr y3 20 40 := (SegY.sort (fun p p1 _ => HP1.out.1.out p (.inr p1)) HP2.out).same (fun p p1 p2 => HP3.out.1.out p (.inl p2))
  have Hc := Lib.hid (HMg.out y3 0 20 40 v3 HS3.out (hsg1.mrg hsg2) (by omega) (by omega) (by omega))
  have Hsg1 := Lib.hid hsg1
  have Hsg2 := Lib.hid hsg2
  clear hsg1 hsg2
  go_wp2_with fail
  refine Hc.out.mono ?_; rintro e v4 ⟨rfl, y4, hp, hs, hg⟩
  have HP4 := Lib.hid hp
  have HM4 := Lib.hid (Hsg1.out.merge Hsg2.out (by omega) (by omega) hp)
  have HS4 := Lib.hid hs
  have Hg4 := Lib.hid (grown_trans Hg3.out hg)
  clear hp hs hg Hc c0 c1 Hsg1 Hsg2
  go_wp2_with fail
  rw [rounds_succ]
  go_wp2_with fail
  rw [rounds_succ]
  go_wp2_with fail
  refine wp_loop_rounds 1 ?_
  rw [rounds_succ]
  obtain ⟨c0, c1⟩ := boxY (w := w) (w1 := v4) (by rw [HW.out]; exact Hg4.out) hblk
  have hsg1 : SegY yr y4 0 40 := HM4.out
  have hsg2 : SegY yr y4 40 n := (SegY.sort (fun p p1 _ => (HP2.out.1.out p (.inr p1)).trans (HP1.out.1.out p (.inr (by omega)))) HP3.out).same (fun p p1 p2 => HP4.out.1.out p (.inr p1))
  have Hc := Lib.hid (HMg.out y4 0 40 n v4 HS4.out (hsg1.mrg hsg2) (by omega) (by omega) (by omega))
  have Hsg1 := Lib.hid hsg1
  have Hsg2 := Lib.hid hsg2
  clear hsg1 hsg2
  go_wp2_with fail
  refine Hc.out.mono ?_; rintro e v5 ⟨rfl, y5, hp, hs, hg⟩
  have HP5 := Lib.hid hp
  have HM5 := Lib.hid (Hsg1.out.merge Hsg2.out (by omega) (by omega) hp)
  have HS5 := Lib.hid hs
  have Hg5 := Lib.hid (grown_trans Hg4.out hg)
  clear hp hs hg Hc c0 c1 Hsg1 Hsg2
  go_wp2_with fail
  rw [rounds_succ]
  go_wp2_with fail
  go_end0
  exact ⟨rfl, _, HM5.out, HS5.out, grown_boxY (by rw [HW.out]; exact Hg5.out)⟩
theorem stable_any {g : Nat} {lb : Array Value} {sf : Nat} {sb : Array Value} {base blk n c qo : Nat} {en : Nat → List Value} {yr : Nat → Int} (E : EnvY g lb sf sb base blk n c qo en yr) (w : World) (h : StY base blk n c qo en w (fun k => k)) (h50 : n ≤ 50) :
    Calls Try.prog 29 #[.agg #[.func (.func g) #[] lb, .func (.func sf) #[] sb], .int .i64 (n : Int)] w (DoneY base blk n c qo en w (fun y => SegY yr y 0 n)) := by
  by_cases e1 : n < 20
  · exact stableA_any E w h e1
  · by_cases e2 : n = 20
    · exact stableB_any E w h e2
    · by_cases e3 : n < 40
      · exact stableC_any E w h (by omega) e3
      · by_cases e4 : n = 40
        · exact stableD_any E w h e4
        · exact stableF_any E w h (by omega) h50
end Go.Proofs.Ytmlnaedeghpbbaa
/- A stable sort by years, part 9: sort.SliceStable over entries. -/
namespace Go.Proofs.Ytmlnaedeghpbbaa
open Go.RowKit Go.Joins Go.Lib

theorem slT_info : ∃ i, Try.prog.info? 27 = some i ∧ i.desc = .slice 39 := ⟨(Try.prog.info? 27).get (by kernel_rfl), by kernel_rfl, by kernel_rfl⟩
theorem enT_info : ∃ ie, Try.prog.info? 39 = some ie ∧ ie.size = 5 ∧ ie.hasPointers = true ∧ ie.bytes = 72 := ⟨(Try.prog.info? 39).get (by kernel_rfl), by kernel_rfl, by kernel_rfl, by kernel_rfl, by kernel_rfl⟩
/-- the two blocks ahead of the sort -/
def stW (p : Option Addr) (n c : Nat) (w : World) : World :=
  (w.alloc (.cells #[.slice p n c] 27)).alloc (.cells #[.pointer (some ⟨0, 27, none⟩), .pointer (some ⟨w.heap.size, 0, none⟩), .int .u64 151] 54)
set_option maxRecDepth 100000 in
set_option maxHeartbeats 1600000 in
theorem SliceStable_of (p : Option Addr) (n c : Nat) (hn : n ≤ 1000) (sf : Nat) (sb : Array Value) (lf : Fn) (la lb : Array Value) (w : World) (R : World → Prop)
    (hs : ∀ w, (Extern.ReflectliteSwapper.swapper "internal/reflectlite" (Extern.ReflectliteValue.valueError "Swapper") #[.iface 27 (.slice p n c)]).run Try.prog w = .ok (.func (.func sf) #[] sb) w)
    (hp : Calls Try.prog 29 #[.agg #[.func lf la lb, .func (.func sf) #[] sb], .int .i64 (n : Int)] (stW p n c w) fun e w' => e = .returned (.tuple #[]) ∧ R w') :
    Calls Try.prog 18 #[.iface 27 (.slice p n c), .func lf la lb] w fun e w' => e = .returned (.tuple #[]) ∧ R w' := by
  obtain ⟨i, hi, hd⟩ := slT_info
  have hpk : Try.prog.packed 27 = false := by kernel_rfl
  have hv := run_valueOf_slice (P := Try.prog) 27 39 i hi hd p n c w
  have hl := fun a w ha => run_valueLen_slice (P := Try.prog) 27 39 i hi hd hpk a p n c w ha
  have h0 : Try.prog.globals.size = 0 := by kernel_rfl
  unfold stW at hp
  simp only [typeHandle, h0] at hv hl
  clear h0
  go_enter Try.func18, Try.ntmps18
  go_wp2
  rw [run_callFunc_extern Try.func27 (by kernel_rfl) (by kernel_rfl) (by kernel_rfl) (e := fun args => Extern.ReflectliteValue.unpack (args.getD 0 (.tuple #[]))) (by kernel_rfl),
    show Sem.run Try.prog ((fun args : Array Value => Extern.ReflectliteValue.unpack (args.getD 0 (.tuple #[]))) #[.iface 27 (.slice p n c)]) w = _ from hv]
  simp only [Result.andThen]
  rw [Oper.upon_value]
  go_wp2
  rw [run_callFunc_extern Try.func28 (by kernel_rfl) (by kernel_rfl) (by kernel_rfl) (e := Extern.ReflectliteSwapper.swapper "internal/reflectlite" (Extern.ReflectliteValue.valueError "Swapper")) (by kernel_rfl), hs]
  simp only [Result.andThen]
  rw [Oper.upon_value]
  go_wp2
  rw [run_callFunc_extern Try.func30 (by kernel_rfl) (by kernel_rfl) (by kernel_rfl) (e := Extern.ReflectliteValue.method (Extern.ReflectliteValue.valueError "reflectlite.Value.Len" 0) Extern.ReflectliteValue.len) (by kernel_rfl),
    hl _ _ (by simp)]
  simp only [Result.andThen]
  rw [Oper.upon_value]
  go_wp2_with fail
  refine hp.mono ?_; rintro e w' ⟨rfl, hR⟩
  go_wp2_with fail
  go_end0
  exact ⟨rfl, hR⟩
/-- which function literal is the swap -/
theorem swapper_big (p : Option Addr) (n c : Nat) (h : 2 ≤ n) (w : World) : (Extern.ReflectliteSwapper.swapper "internal/reflectlite" (Extern.ReflectliteValue.valueError "Swapper") #[.iface 27 (.slice p n c)]).run Try.prog w = .ok (.func (.func 44) #[] #[.slice p n c, typeHandle Try.prog 39]) w := by
  obtain ⟨i, hi, hd⟩ := slT_info
  obtain ⟨ie, hie, h5, hpt, hby⟩ := enT_info
  have hk : swapperK n ie 25 = 9 := by
    have c1 : (n == 0) = false := beq_eq_false_iff_ne.2 (by omega)
    have d1 : (n == 1) = false := beq_eq_false_iff_ne.2 (by omega)
    simp [swapperK, hpt, hby, c1, d1]
  have := run_swapper_slice (P := Try.prog) 27 39 i ie hi hd hie 25 (fun _ => by kernel_rfl) p n c 44 (by rw [hk]; kernel_rfl) w
  rw [hk, if_neg (by omega)] at this
  exact this
theorem swapper_one (p : Option Addr) (c : Nat) (w : World) : (Extern.ReflectliteSwapper.swapper "internal/reflectlite" (Extern.ReflectliteValue.valueError "Swapper") #[.iface 27 (.slice p 1 c)]).run Try.prog w = .ok (.func (.func 37) #[] #[]) w := by
  obtain ⟨i, hi, hd⟩ := slT_info
  obtain ⟨ie, hie, h5, hpt, hby⟩ := enT_info
  have hk : swapperK 1 ie 25 = 2 := rfl
  have := run_swapper_slice (P := Try.prog) 27 39 i ie hi hd hie 25 (fun _ => by kernel_rfl) p 1 c 37 (by rw [hk]; kernel_rfl) w
  rw [hk, if_pos (by omega)] at this
  exact this
theorem swapper_none (p : Option Addr) (c : Nat) (w : World) : (Extern.ReflectliteSwapper.swapper "internal/reflectlite" (Extern.ReflectliteValue.valueError "Swapper") #[.iface 27 (.slice p 0 c)]).run Try.prog w = .ok (.func (.func 36) #[] #[]) w := by
  obtain ⟨i, hi, hd⟩ := slT_info
  obtain ⟨ie, hie, h5, hpt, hby⟩ := enT_info
  have hk : swapperK 0 ie 25 = 1 := rfl
  have := run_swapper_slice (P := Try.prog) 27 39 i ie hi hd hie 25 (fun _ => by kernel_rfl) p 0 c 36 (by rw [hk]; kernel_rfl) w
  rw [hk, if_pos (by omega)] at this
  exact this
set_option maxRecDepth 100000 in
set_option maxHeartbeats 1600000 in
theorem insNone_any (lf : Fn) (la lb : Array Value) (sf : Nat) (sb : Array Value) (n : Nat) (hn : n ≤ 1) (w : World) : Calls Try.prog 45 #[.agg #[.func lf la lb, .func (.func sf) #[] sb], .int .i64 0, .int .i64 (n : Int)] w fun e w' => e = .returned (.tuple #[]) ∧ Below w.heap.size w w' := by
  have HB := Lib.hid ((Below.refl w.heap.size w).alloc (Nat.le_refl _) (.cells #[.func lf la lb, .func (.func sf) #[] sb] 60))
  go_enter Try.func45, Try.ntmps45
  go_wp2_with fail
  refine wp_loop_rounds 1 ?_
  rw [rounds_succ]
  go_wp2_with fail
  go_end0
  exact ⟨rfl, HB.out⟩
set_option maxRecDepth 100000 in
set_option maxHeartbeats 1600000 in
theorem stableTiny_any (lf : Fn) (la lb : Array Value) (sf : Nat) (sb : Array Value) (n : Nat) (hn : n ≤ 1) (w : World) : Calls Try.prog 29 #[.agg #[.func lf la lb, .func (.func sf) #[] sb], .int .i64 (n : Int)] w fun e w' => e = .returned (.tuple #[]) ∧ Below w.heap.size w w' := by
  have HB := Lib.hid ((Below.refl w.heap.size w).alloc (Nat.le_refl _) (.cells #[.func lf la lb, .func (.func sf) #[] sb] 60))
  have HI := Lib.hid (fun wx => insNone_any lf la lb sf sb n hn wx)
  go_enter Try.func29, Try.ntmps29
  go_wp2_with fail
  refine wp_loop_rounds 1 ?_
  rw [rounds_succ]
  go_wp2_with fail
  refine (HI.out _).mono ?_; rintro e w2 ⟨rfl, hb2⟩
  have HB2 := Lib.hid (HB.out.trans (hb2.mono HB.out.size))
  clear hb2
  go_wp2_with fail
  refine wp_loop_rounds 1 ?_
  rw [rounds_succ]
  go_wp2_with fail
  go_end0
  exact ⟨rfl, HB2.out⟩
end Go.Proofs.Ytmlnaedeghpbbaa
/- Lists of texts: equality on three functions, the room that they take, copies. -/
namespace Go.Proofs.Ytmlnaedeghpbbaa
open Go.RowKit Go.Joins

def strs (l : List ByteArray) : List Value := l.map Value.string
theorem strs_at (l : List ByteArray) (k : Nat) (h : k < l.length) : (strs l)[k]? = some (.string l[k]) := by simp [strs, h]
theorem infoSL : (Try.prog.info? 9).map (fun i => (i.zero, i.size, i.bytes)) = some (some (.string ⟨#[]⟩), 1, 16) := by kernel_rfl
theorem take_strs (zs : List ByteArray) (k : Nat) (h : k < zs.length) : strs (zs.take k) ++ [.string zs[k]] = strs (zs.take (k + 1)) := by
  rw [List.take_succ_eq_append_getElem h]; unfold strs; rw [List.map_append]; rfl
theorem rd_at {w : World} {B n c : Nat} {A : Option Addr} {zs : List ByteArray} (h : Rd w B (.slice A n c) zs.length 1 (strs zs)) (k : Nat) (hk : k < zs.length) :
    n = zs.length ∧ ∃ b off, A = some ⟨b, off, none⟩ ∧ w.cell? ⟨b, off + k, none⟩ = some (.string zs[k]) := by
  obtain ⟨_, A', c', hv, hc⟩ := h
  injection hv with e1 e2 e3
  subst e1
  obtain ⟨b, off, hA, _, hcc⟩ := hc (by omega)
  exact ⟨e2, b, off, hA, hcc k _ (strs_at zs k hk)⟩

set_option maxHeartbeats 400000 in
theorem eqStringS_any (B1 B2 : Nat) (v1 v2 : Value) (xs ys : List ByteArray) (w : World) (h1 : Rd w B1 v1 xs.length 1 (strs xs)) (h2 : Rd w B2 v2 ys.length 1 (strs ys)) (hx : xs.length ≤ 4611686018427387904) :
    Calls Try.prog 31 #[v1, v2] w fun e w' => e = .returned (.bool (decide (xs = ys))) ∧ ∃ n, w' = w.drewN n := by
  obtain ⟨_, A1, c1, rfl, h1⟩ := h1
  obtain ⟨_, A2, c2, rfl, h2⟩ := h2
  by_cases hlen : xs.length = ys.length
  · rw [← hlen] at h2
    have hb : ((xs.length : Int) != (xs.length : Int)) = false := by simp
    have Hlen := Lib.hid hlen
    rw [← hlen]
    clear hlen
    generalize hn : xs.length = n at *
    have Hn := Lib.hid hn; clear hn
    have H1 := Lib.hid h1; clear h1
    have H2 := Lib.hid h2; clear h2
    go_enter Try.func31, Try.ntmps31
    go_wp2_with fail
    go_loopw [5] (fun i wr => ∃ k m : Nat, k ≤ n ∧ i = .int .i64 k ∧ wr = w.drewN m ∧ xs.take k = ys.take k) (fun i _ => n - (intOf i).toNat)
    case atStart => exact ⟨0, 0, Nat.zero_le _, rfl, rfl, rfl⟩
    case round =>
      obtain ⟨k, m, hk, rfl, rfl, heq⟩ := hrel
      have Heq := Lib.hid heq; clear heq
      by_cases hlt : k < n
      · obtain ⟨b1, o1, rfl, _, hc1⟩ := H1.out (by omega)
        obtain ⟨b2, o2, rfl, _, hc2⟩ := H2.out (by omega)
        have hkx : k < xs.length := by have := Hn.out; omega
        have hky : k < ys.length := by have := Hn.out; have := Hlen.out; omega
        have hx := hc1 k _ (strs_at xs k hkx)
        have hy := hc2 k _ (strs_at ys k hky)
        have hlt' : (k : Int) < (n : Int) := by omega
        clear hc1 hc2
        generalize hX : xs[k] = X at *
        generalize hY : ys[k] = Y at *
        have HX := Lib.hid hX; clear hX
        have HY := Lib.hid hY; clear hY
        by_cases he : X = Y
        · subst he
          go_wp2_with fail
          go_quiet (fail)
          go_wp2_with fail
          go_roundw
          case rel => exact ⟨k + 1, _, by omega, by go_num, rfl, by rw [List.take_succ_eq_append_getElem hkx, List.take_succ_eq_append_getElem hky, Heq.out, HX.out, HY.out]⟩
          case measure => simp [intOf]; omega
        · have he' : (X.toList == Y.toList) = false := by rw [beq_eq_false_iff_ne]; exact fun h => he (ba_inj h)
          have hne := Lib.hid (show ¬ xs = ys from fun h => he (by subst h; rw [← HX.out, ← HY.out]))
          clear he
          go_wp2_with fail
          go_quiet (fail)
          go_wp2_with fail
          go_ret
          exact ⟨by simp [hne.out], m + nq, World.drewN_drewN ..⟩
      · have hfin := Lib.hid (show xs = ys by
          have := Heq.out
          rwa [List.take_of_length_le (by have := Hn.out; omega), List.take_of_length_le (by have := Hn.out; have := Hlen.out; omega)] at this)
        go_wp2_with fail
        go_ret
        exact ⟨by simp [hfin.out], _, rfl⟩
  · have hb : ((xs.length : Int) != (ys.length : Int)) = true := by simp; omega
    have hne := Lib.hid (show ¬ xs = ys from fun h => hlen (by rw [h]))
    clear hlen
    go_enter Try.func31, Try.ntmps31
    go_wp2_with fail
    go_ret
    exact ⟨by simp [hne.out], 0, rfl⟩

set_option maxHeartbeats 400000 in
theorem szStringS_any (B : Nat) (v : Value) (zs : List ByteArray) (left : Int) (w : World) (h : Rd w B v zs.length 1 (strs zs)) (hl : zs.length ≤ maxLen ∧ ∀ z ∈ zs, z.size ≤ maxLen) (q0 : 0 ≤ left) (q1 : left ≤ 1048576) :
    Calls Try.prog 23 #[v, .int .i64 left] w fun e w' => (∃ r : Int, e = .returned (.int .i64 r) ∧ r ≤ left ∧ (0 ≤ r → zs.length ≤ 1048576 ∧ ∀ z ∈ zs, z.size ≤ 1048576)) ∧ w = w' := by
  have h' := h
  obtain ⟨_, A, c, rfl, _⟩ := h'
  obtain ⟨hl1, hl2⟩ := hl
  have H := Lib.hid h; clear h
  have Hl2 := Lib.hid hl2; clear hl2
  simp only [maxLen] at hl1
  by_cases hbig : left < (zs.length : Int)
  · have hb : left - (zs.length : Int) < 0 := by omega
    go_enter Try.func23, Try.ntmps23
    go_wp2_with fail
    go_ret
    exact ⟨⟨_, rfl, by omega, by omega⟩, rfl⟩
  · have hb : ¬ left - (zs.length : Int) < 0 := by omega
    have hb0 : (0 : Int) ≤ left - (zs.length : Int) := by omega
    go_enter Try.func23, Try.ntmps23
    go_wp2_with fail
    go_loop [1, 5] (fun l i => ∃ (k : Nat) (r : Int), k ≤ zs.length ∧ 0 ≤ r ∧ r ≤ left ∧ (∀ z ∈ zs.take k, z.size ≤ 1048576) ∧ l = .int .i64 r ∧ i = .int .i64 k) (fun _ i => zs.length - (intOf i).toNat)
    case atStart => exact ⟨0, _, Nat.zero_le _, hb0, by omega, by simp, rfl, rfl⟩
    case round =>
      obtain ⟨k, r, hk, hr0, hr1, hall, rfl, rfl⟩ := hrel
      have Hall := Lib.hid hall; clear hall
      by_cases hlt : k < zs.length
      · obtain ⟨_, b1, o1, hA, hx⟩ := rd_at H.out k hlt
        subst hA
        have hz := Hl2.out zs[k] (List.getElem_mem _)
        simp only [maxLen] at hz
        have Hst := Lib.hid (show zs[k].size ≤ 1048576 → ∀ z ∈ zs.take (k + 1), z.size ≤ 1048576 from fun h z hz => by
          rw [List.take_succ_eq_append_getElem hlt] at hz
          rcases List.mem_append.1 hz with h1 | h1
          · exact Hall.out z h1
          · rw [List.mem_singleton.1 h1]; exact h)
        generalize zs[k] = z at *
        have hlt' : (k : Int) < (zs.length : Int) := by omega
        by_cases hsm : r - (z.size : Int) < 0
        · go_wp2_with fail
          go_ret
          exact ⟨⟨_, rfl, by omega, by omega⟩, rfl⟩
        · go_wp2_with fail
          go_round
          case rel => exact ⟨k + 1, r - (z.size : Int), by omega, by omega, by omega, Hst.out (by omega), rfl, by go_num⟩
          case measure => simp [intOf]; omega
      · have hfin := Hall.out
        rw [List.take_of_length_le (by omega)] at hfin
        have Hfin := Lib.hid hfin; clear hfin
        have hlt' : (zs.length : Int) ≤ (k : Int) := by omega
        go_wp2_with fail
        go_ret
        exact ⟨⟨_, rfl, hr1, fun _ => ⟨by omega, Hfin.out⟩⟩, rfl⟩

/-- a new list of the same strings -/
def RetS (w : World) (zs : List ByteArray) (e : Ending) (w' : World) : Prop := ∃ v, e = .returned v ∧ w'.ownsRow w.heap.size 9 1 v zs.length (strs zs) ∧ Below w.heap.size w w'

set_option maxHeartbeats 800000 in
theorem toStringS_any (B : Nat) (v : Value) (zs : List ByteArray) (w : World) (h : Rd w B v zs.length 1 (strs zs)) (hB : B ≤ w.heap.size) (hl : zs.length ≤ 1048576) :
    Calls Try.prog 25 #[v] w (RetS w zs) := by
  have h' := h
  obtain ⟨_, A, c, rfl, _⟩ := h'
  have H := Lib.hid h; clear h
  obtain ⟨i, hi, hz, h2, h3⟩ := info_parts infoSL
  obtain ⟨w1, hr, hown, hg⟩ := run_makeSlice_full (P := Try.prog) (w := w) w.heap.size 35 9 i _ 1 Try.underlying35 hi hz h2 .i64 .i64 zs.length (by omega) (by rw [h3]; omega) (by simp [maxLen]; omega) (Nat.le_refl _)
  have hb1 := below_of_grown hg (Nat.le_refl _) (fun x hx => by cases hx)
  generalize hxs : (madeCells (Value.cells (.string ⟨#[]⟩)) (zs.length * 1)).toList = xs at *
  have hxl : xs.length = zs.length := by simpa using hown.1
  have Hown := Lib.hid hown
  have Hb1 := Lib.hid hb1
  clear hi hz h2 h3 hxs hown hb1 hg
  go_enter Try.func25, Try.ntmps25
  go_wp2_with fail
  clear hr
  go_loopw [4] (fun i wr => ∃ k : Nat, k ≤ zs.length ∧ i = .int .i64 k ∧ wr.ownsRow w.heap.size 9 1 (.slice (some ⟨w.heap.size, 0, none⟩) zs.length zs.length) zs.length (strs (zs.take k) ++ xs.drop k) ∧ Below w.heap.size w wr) (fun i _ => zs.length - (intOf i).toNat)
  case atStart => exact ⟨0, Nat.zero_le _, rfl, by simpa [strs] using Hown.out, Hb1.out⟩
  case round =>
    obtain ⟨k, hk, rfl, hown, hbl⟩ := hrel
    by_cases hlt : k < zs.length
    · obtain ⟨_, b1, o1, hA, hx⟩ := rd_at (H.out.below (hbl.mono hB)) k hlt
      subst hA
      have hlt' : (k : Int) < (zs.length : Int) := by omega
      have hset : (strs (zs.take k) ++ xs.drop k).set k (.string zs[k]) = strs (zs.take (k + 1)) ++ xs.drop (k + 1) := by
        have hlen : (strs (zs.take k)).length = k := by simp [strs]; omega
        rw [List.set_append_right _ _ (by omega), hlen, Nat.sub_self, List.drop_eq_getElem_cons (by rw [hxl]; exact hlt), List.set_cons_zero, ← take_strs zs k hlt]
        simp
      have Hset := Lib.hid hset; clear hset
      generalize zs[k] = z at *
      obtain ⟨u, hu⟩ : ∃ u, (strs (zs.take k) ++ xs.drop k)[k]? = some u := ⟨_, List.getElem?_eq_getElem (by have := hown.1; omega)⟩
      have hc : wr.cell? ⟨w.heap.size, k, none⟩ = some u := (hown.cellAt k (by omega)).trans hu
      have hf : wr.frozen? ⟨w.heap.size, k, none⟩ = false := hown.frozenAt k
      obtain ⟨ho2, hg2⟩ := hown.stored k (.string z)
      rw [Hset.out] at ho2
      have hb2 : Below w.heap.size w (wr.setCell ⟨w.heap.size, k, none⟩ (.string z)) := hbl.setCell (p := ⟨w.heap.size, k, none⟩) (Nat.le_refl _) _
      clear hu hown hg2
      go_wp2_with fail
      go_roundw
      case rel => exact ⟨k + 1, by omega, by go_num, ho2, hb2⟩
      case measure => simp [intOf]; omega
    · rw [List.take_of_length_le (by omega), List.drop_of_length_le (by omega), List.append_nil] at hown
      have hlt' : (zs.length : Int) ≤ (k : Int) := by omega
      have Hown := Lib.hid hown; clear hown
      go_wp2_with fail
      go_ret
      exact ⟨_, rfl, Hown.out, hbl⟩

end Go.Proofs.Ytmlnaedeghpbbaa
/- Entries, part 1: how lists of entries lie; the exact laws' helpers. -/
namespace Go.Proofs.Ytmlnaedeghpbbaa
open Go.RowKit Go.Joins

structure Ent where
  num : Int
  name : ByteArray
  maker : ByteArray
  year : Int
  words : List ByteArray
deriving DecidableEq

/-- an entry's cells; the second part is the value of its words -/
def cellsE (x : Ent × Value) : List Value := [.int .i64 x.1.num, .string x.1.name, .string x.1.maker, .int .i64 x.1.year, x.2]
def RdW (w : World) (B : Nat) (y : Ent × Value) : Prop := Rd w B y.2 y.1.words.length 1 (strs y.1.words)
/-- THE READING OF A LIST OF ENTRIES -/
def RdE (w : World) (B : Nat) (v : Value) (xs : List Ent) : Prop :=
  ∃ ys : List (Ent × Value), ys.map (·.1) = xs ∧ Rd w B v xs.length 5 (ys.flatMap cellsE) ∧ ∀ y ∈ ys, RdW w B y
theorem RdE.below {w w' : World} {B : Nat} {v : Value} {xs : List Ent} (h : RdE w B v xs) (hb : Below B w w') : RdE w' B v xs := by
  obtain ⟨ys, h1, h2, h3⟩ := h
  exact ⟨ys, h1, h2.below hb, fun y hy => (h3 y hy).below hb⟩
theorem RdE.more {w : World} {B B' : Nat} {v : Value} {xs : List Ent} (h : RdE w B v xs) (hB : B ≤ B') : RdE w B' v xs := by
  obtain ⟨ys, h1, h2, h3⟩ := h
  exact ⟨ys, h1, h2.more hB, fun y hy => (h3 y hy).more hB⟩
theorem RdE.next {w w' : World} {v : Value} {xs : List Ent} (h : RdE w w.heap.size v xs) (hb : Below w.heap.size w w') : RdE w' w'.heap.size v xs := (h.below hb).more hb.size
theorem RdE.drewN {w : World} {B : Nat} {v : Value} {xs : List Ent} (h : RdE w B v xs) (n : Nat) : RdE (w.drewN n) B v xs := h
theorem RdE.slice {w : World} {B : Nat} {v : Value} {xs : List Ent} (h : RdE w B v xs) : ∃ A c, v = .slice A xs.length c := by
  obtain ⟨ys, h1, ⟨_, A, c, h2, _⟩, h3⟩ := h
  exact ⟨A, c, h2⟩

/-- the five cells of an entry -/
structure EntAt (w : World) (B b o : Nat) (x : Ent) (A : Option Addr) (c : Nat) : Prop where
  lt : b < B
  c0 : w.cell? ⟨b, o, none⟩ = some (.int .i64 x.num)
  c1 : w.cell? ⟨b, o + 1, none⟩ = some (.string x.name)
  c2 : w.cell? ⟨b, o + 2, none⟩ = some (.string x.maker)
  c3 : w.cell? ⟨b, o + 3, none⟩ = some (.int .i64 x.year)
  c4 : w.cell? ⟨b, o + 4, none⟩ = some (.slice A x.words.length c)
  words : Rd w B (.slice A x.words.length c) x.words.length 1 (strs x.words)
theorem EntAt.below {w w' : World} {B b o c : Nat} {x : Ent} {A : Option Addr} (h : EntAt w B b o x A c) (hb : Below B w w') : EntAt w' B b o x A c :=
  ⟨h.lt, (hb.cell (p := ⟨b, o, none⟩) h.lt).trans h.c0, (hb.cell (p := ⟨b, o + 1, none⟩) h.lt).trans h.c1, (hb.cell (p := ⟨b, o + 2, none⟩) h.lt).trans h.c2, (hb.cell (p := ⟨b, o + 3, none⟩) h.lt).trans h.c3, (hb.cell (p := ⟨b, o + 4, none⟩) h.lt).trans h.c4, h.words.below hb⟩
theorem EntAt.drewN {w : World} {B b o c : Nat} {x : Ent} {A : Option Addr} (h : EntAt w B b o x A c) (n : Nat) : EntAt (w.drewN n) B b o x A c := ⟨h.1, h.2, h.3, h.4, h.5, h.6, h.7⟩

theorem RdE.at {w : World} {B n c : Nat} {A : Option Addr} {xs : List Ent} (h : RdE w B (.slice A n c) xs) (k : Nat) (hk : k < xs.length) :
    ∃ b off A' c', A = some ⟨b, off, none⟩ ∧ EntAt w B b (off + k * 5) xs[k] A' c' := by
  obtain ⟨ys, h1, ⟨_, A0, c0, hv, hc⟩, h3⟩ := h
  subst h1
  injection hv with e1 e2 e3
  subst e1
  rw [List.length_map] at hk hc
  obtain ⟨b, off, hA, hb, hcc⟩ := hc (by omega)
  have hw := h3 ys[k] (List.getElem_mem hk)
  obtain ⟨_, A', c', hv', _⟩ := id hw
  have hx : (ys.map (·.1))[k]'(by simpa using hk) = ys[k].1 := by simp
  rw [hx]
  have hat : ∀ j u, j < 5 → (cellsE ys[k])[j]? = some u → w.cell? ⟨b, off + k * 5 + j, none⟩ = some u := fun j u hj hu => by
    have := hcc (k * 5 + j) u ((flat_at cellsE 5 (fun _ => rfl) ys k j hk hj).trans hu)
    rwa [← Nat.add_assoc] at this
  refine ⟨b, off, A', c', hA, ⟨hb, hat 0 _ (by omega) rfl, hat 1 _ (by omega) rfl, hat 2 _ (by omega) rfl, hat 3 _ (by omega) rfl, ?_, ?_⟩⟩
  · rw [← hv']; exact hat 4 _ (by omega) rfl
  · rw [← hv']; exact hw

theorem infoE : (Try.prog.info? 39).map (fun i => (i.zero, i.size, i.bytes)) = some (some (.agg #[.int .i64 0, .string ⟨#[]⟩, .string ⟨#[]⟩, .int .i64 0, .slice none 0 0]), 5, 72) := by kernel_rfl

/-- five cells of a block that is the call's own -/
theorem blk5 {w : World} {g : Nat} {a b c d e : Value} {t : TypeId} (h : w.heap[g]? = some (.cells #[a, b, c, d, e] t (0, 0))) :
    w.cell? ⟨g, 0, none⟩ = some a ∧ w.cell? ⟨g, 1, none⟩ = some b ∧ w.cell? ⟨g, 2, none⟩ = some c ∧ w.cell? ⟨g, 3, none⟩ = some d ∧ w.cell? ⟨g, 4, none⟩ = some e ∧ ∀ i, w.frozen? ⟨g, i, none⟩ = false := by
  refine ⟨?_, ?_, ?_, ?_, ?_, fun i => ?_⟩
  · rw [cell_of_row w g 0 _ _ _ h]; rfl
  · rw [cell_of_row w g 1 _ _ _ h]; rfl
  · rw [cell_of_row w g 2 _ _ _ h]; rfl
  · rw [cell_of_row w g 3 _ _ _ h]; rfl
  · rw [cell_of_row w g 4 _ _ _ h]; rfl
  · exact frozen_of_row w g i _ _ h

/-- a list of texts, copied: the slice is written out -/
theorem toStringS_c (B : Nat) (A : Option Addr) (c : Nat) (zs : List ByteArray) (w : World) (h : Rd w B (.slice A zs.length c) zs.length 1 (strs zs)) (hB : B ≤ w.heap.size) (hl : zs.length ≤ 1048576) :
    Calls Try.prog 25 #[.slice A zs.length c] w fun e w' => ∃ A' c', e = .returned (.slice A' zs.length c') ∧ w'.ownsRow w.heap.size 9 1 (.slice A' zs.length c') zs.length (strs zs) ∧ Below w.heap.size w w' := by
  refine (toStringS_any B _ zs w h hB hl).mono ?_
  rintro e w' ⟨v, rfl, ho, hb⟩
  obtain ⟨_, A', c', rfl, _⟩ := Rd.of_own ho
  exact ⟨A', c', rfl, ho, hb⟩

set_option maxRecDepth 100000 in
set_option maxHeartbeats 1600000 in
theorem toEntry_any (B : Nat) (x : Ent) (A : Option Addr) (c : Nat) (w : World) (h : Rd w B (.slice A x.words.length c) x.words.length 1 (strs x.words)) (hB : B ≤ w.heap.size) (hl : x.words.length ≤ 1048576) :
    Calls Try.prog 16 #[.agg #[.int .i64 x.num, .string x.name, .string x.maker, .int .i64 x.year, .slice A x.words.length c]] w fun e w' =>
      ∃ A' c', e = .returned (.agg #[.int .i64 x.num, .string x.name, .string x.maker, .int .i64 x.year, .slice A' x.words.length c']) ∧ w'.ownsRow w.heap.size 9 1 (.slice A' x.words.length c') x.words.length (strs x.words) ∧ Below w.heap.size w w' := by
  obtain ⟨num, name, maker, year, words⟩ := x
  simp only at *
  have HT := Lib.hid (fun wx hx hB => toStringS_c B A c words wx hx hB hl)
  have H := Lib.hid h
  go_enter Try.func16, Try.ntmps16
  go_wp2_with fail
  have hb3 := Lib.hid ((((Below.refl w.heap.size w).alloc (Nat.le_refl _) (.cells #[.int .i64 num, .string name, .string maker, .int .i64 year, .slice A words.length c] 37)).alloc (by simp) (.cells #[.int .i64 0, .string ⟨#[]⟩, .string ⟨#[]⟩, .int .i64 0, .slice none 0 0] 39)).alloc (by simp; omega) (.cells #[.int .i64 num, .string name, .string maker, .int .i64 year, .slice none 0 0] 39))
  have hr : ∀ i o, (i = 1 ∧ o = Obj.cells #[.int .i64 0, .string ⟨#[]⟩, .string ⟨#[]⟩, .int .i64 0, .slice none 0 0] 39 (0, 0)) ∨ (i = 2 ∧ o = Obj.cells #[.int .i64 num, .string name, .string maker, .int .i64 year, .slice none 0 0] 39 (0, 0)) → (((w.alloc (.cells #[.int .i64 num, .string name, .string maker, .int .i64 year, .slice A words.length c] 37)).alloc (.cells #[.int .i64 0, .string ⟨#[]⟩, .string ⟨#[]⟩, .int .i64 0, .slice none 0 0] 39)).alloc (.cells #[.int .i64 num, .string name, .string maker, .int .i64 year, .slice none 0 0] 39)).heap[w.heap.size + i]? = some o := by
    intro i o hi
    show (((w.heap.push _).push _).push _)[w.heap.size + i]? = _
    simp only [Array.getElem?_push, Array.size_push]
    rcases hi with ⟨rfl, rfl⟩ | ⟨rfl, rfl⟩ <;> simp
  have Hr := Lib.hid hr; clear hr
  have hz3 : (((w.alloc (.cells #[.int .i64 num, .string name, .string maker, .int .i64 year, .slice A words.length c] 37)).alloc (.cells #[.int .i64 0, .string ⟨#[]⟩, .string ⟨#[]⟩, .int .i64 0, .slice none 0 0] 39)).alloc (.cells #[.int .i64 num, .string name, .string maker, .int .i64 year, .slice none 0 0] 39)).heap.size = w.heap.size + 3 := by simp
  generalize ((w.alloc (.cells #[.int .i64 num, .string name, .string maker, .int .i64 year, .slice A words.length c] 37)).alloc (.cells #[.int .i64 0, .string ⟨#[]⟩, .string ⟨#[]⟩, .int .i64 0, .slice none 0 0] 39)).alloc (.cells #[.int .i64 num, .string name, .string maker, .int .i64 year, .slice none 0 0] 39) = w3 at *
  refine (HT.out _ (H.out.below (hb3.out.mono hB)) (by omega)).mono ?_; rintro e w4 ⟨A', c', rfl, ho4, hb4⟩
  have f1 := (hb4.block (w.heap.size + 1) (by omega)).trans (Hr.out 1 _ (.inl ⟨rfl, rfl⟩))
  have f2 := (hb4.block (w.heap.size + 1 + 1) (by omega)).trans (Hr.out 2 _ (.inr ⟨rfl, rfl⟩))
  obtain ⟨a0, a1, a2, a3, a4, a5⟩ := blk5 f1
  obtain ⟨b0, b1, b2, b3, b4, b5⟩ := blk5 f2
  have hb04 := hb3.out.trans (hb4.mono hb3.out.size)
  have g2 := heap_setCell_same w4 (w.heap.size + 1 + 1) 4 _ _ (.slice A' words.length c') f2
  have g1 : (w4.setCell ⟨w.heap.size + 1 + 1, 4, none⟩ (.slice A' words.length c')).heap[w.heap.size + 1]? = _ := (Below.heap_setCell _ _ _ _ (by simp)).trans f1
  have g3 := (heap_setCell_same _ (w.heap.size + 1) 4 _ _ (.slice A' words.length c') (heap_setCell_same _ (w.heap.size + 1) 3 _ _ (.int .i64 year) (heap_setCell_same _ (w.heap.size + 1) 2 _ _ (.string maker) (heap_setCell_same _ (w.heap.size + 1) 1 _ _ (.string name) (heap_setCell_same _ (w.heap.size + 1) 0 _ _ (.int .i64 num) g1)))))
  obtain ⟨p0, p1, p2, p3, p4, p5⟩ := blk5 g2
  obtain ⟨q0, q1, q2, q3, q4, _⟩ := blk5 g3
  have Hbe := Lib.hid ((((((hb04.setCell (p := ⟨w.heap.size + 1 + 1, 4, none⟩) (by simp; omega) (.slice A' words.length c')).setCell (p := ⟨w.heap.size + 1, 0, none⟩) (by simp) (.int .i64 num)).setCell (p := ⟨w.heap.size + 1, 1, none⟩) (by simp) (.string name)).setCell (p := ⟨w.heap.size + 1, 2, none⟩) (by simp) (.string maker)).setCell (p := ⟨w.heap.size + 1, 3, none⟩) (by simp) (.int .i64 year)).setCell (p := ⟨w.heap.size + 1, 4, none⟩) (by simp) (.slice A' words.length c'))
  have Hoe := Lib.hid (ownsRow_le (ownsRow_setCell_below (ownsRow_setCell_below (ownsRow_setCell_below (ownsRow_setCell_below (ownsRow_setCell_below (ownsRow_setCell_below ho4 (a := ⟨w.heap.size + 1 + 1, 4, none⟩) (by show w.heap.size + 1 + 1 < w3.heap.size; omega) (.slice A' words.length c')) (a := ⟨w.heap.size + 1, 0, none⟩) (by show w.heap.size + 1 < w3.heap.size; omega) (.int .i64 num)) (a := ⟨w.heap.size + 1, 1, none⟩) (by show w.heap.size + 1 < w3.heap.size; omega) (.string name)) (a := ⟨w.heap.size + 1, 2, none⟩) (by show w.heap.size + 1 < w3.heap.size; omega) (.string maker)) (a := ⟨w.heap.size + 1, 3, none⟩) (by show w.heap.size + 1 < w3.heap.size; omega) (.int .i64 year)) (a := ⟨w.heap.size + 1, 4, none⟩) (by show w.heap.size + 1 < w3.heap.size; omega) (.slice A' words.length c')) (base' := w.heap.size) (by omega))
  have k10 := a5 0
  have k11 := a5 1
  have k12 := a5 2
  have k13 := a5 3
  have k14 := a5 4
  have k24 := b5 4
  clear f1 f2 g1 g2 g3 hb4 hb04 ho4 hz3 a5 b5 p5
  go_wp2_with fail
  exact bodyPost_ret (v := .agg #[.int .i64 num, .string name, .string maker, .int .i64 year, .slice A' words.length c']) (by simp [results, Try.results16, go_sem, q0, q1, q2, q3, q4]) rfl ⟨_, _, rfl, Hoe.out, Hbe.out⟩
end Go.Proofs.Ytmlnaedeghpbbaa
