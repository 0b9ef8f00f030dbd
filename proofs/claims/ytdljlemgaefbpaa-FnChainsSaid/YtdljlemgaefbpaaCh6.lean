/- Chains, part 6: MoveChain's walk. -/
import Derived.Test.YtdljlemgaefbpaaCh5
import Derived.Deep.DeepCutAuto
import Derived.Deep.CutRange
import Derived.BigRegion
namespace Go.Proofs.Ytdljlemgaefbpaa
open Go.RowKit Go.Joins

/-- a chain of the call's own and the code 0 are handed back -/
def RetCh (n : Nat) (p f : Nat → Int) (w : World) (e : Ending) (w' : World) : Prop :=
  ∃ gp cp gq cq, e = .returned (.tuple #[.agg #[.slice (some ⟨gp, 0, none⟩) n cp, .slice (some ⟨gq, 0, none⟩) (n + 1) cq], .int .i64 0]) ∧ w'.ownsRow w.heap.size 2 1 (.slice (some ⟨gp, 0, none⟩) n cp) n (tab n p) ∧ w'.ownsRow w.heap.size 2 1 (.slice (some ⟨gq, 0, none⟩) (n + 1) cq) (n + 1) (tab (n + 1) f) ∧ Below w.heap.size w w'
theorem mv_near1 {n : Nat} {p q : Nat → Int} {tz : Int} (hc : Chn n p q) (ht : -2000 ≤ tz ∧ tz ≤ 2000) (k : Nat) (hk : k ≤ n) : -3000 ≤ mv p q tz k ∧ mv p q tz k ≤ 3000 := by
  have h1 := mv_near hc.2.2.1 tz k hk
  have h2 := tot_bd hc k hk
  have := hc.2.1
  omega
theorem heap_second (w : World) (a b c d : Value) (t : TypeId) : ((w.alloc (.cells #[a, b] t)).alloc (.cells #[c, d] t)).heap[w.heap.size + 1]? = some (.cells #[c, d] t (0, 0)) := by
  show ((w.heap.push _).push _)[w.heap.size + 1]? = _
  simp only [Array.getElem?_push, Array.size_push]
  rw [if_pos trivial]

set_option maxRecDepth 100000 in
set_option maxHeartbeats 6400000 in
theorem MoveChain_any (B : Nat) (vp vq : Value) (n : Nat) (p q : Nat → Int) (tz : Int) (w : World) (h : RdC w B vp vq n p q) (hB : B ≤ w.heap.size) (hc : Chn n p q) (ht : -2000 ≤ tz ∧ tz ≤ 2000) :
    Calls Try.prog 12 #[.agg #[vp, vq], .int .i64 tz] w (RetCh n p (mv p q tz) w) := by
  have hn1 := hc.1
  have hn10 := hc.2.1
  obtain ⟨A, c, rfl⟩ := rd_sl h.1
  obtain ⟨A', c', rfl⟩ := rd_sl h.2
  have hb1 := ((Below.refl w.heap.size w).alloc (Nat.le_refl _) (.cells #[.slice A n c, .slice A' (n + 1) c'] 26)).alloc (by simp) (.cells #[.slice none 0 0, .slice none 0 0] 26)
  have hsz := Nat.le_trans hB hb1.size
  have HV := Lib.hid (ValidChain_any B _ _ n p q _ (h.below (hb1.mono hB)) hsz hc)
  have H := Lib.hid (h.below (hb1.mono hB))
  obtain ⟨f0, f1, f2, f3⟩ := box22 w (.slice A n c) (.slice A' (n + 1) c') (.slice none 0 0) (.slice none 0 0) 26
  have Hres := Lib.hid (heap_second w (.slice A n c) (.slice A' (n + 1) c') (.slice none 0 0) (.slice none 0 0) 26)
  have Hb1 := Lib.hid hb1
  have hz0 : w.heap.size < ((w.alloc (.cells #[.slice A n c, .slice A' (n + 1) c'] 26)).alloc (.cells #[.slice none 0 0, .slice none 0 0] 26)).heap.size := by simp; omega
  have hz1 : w.heap.size + 1 < ((w.alloc (.cells #[.slice A n c, .slice A' (n + 1) c'] 26)).alloc (.cells #[.slice none 0 0, .slice none 0 0] 26)).heap.size := by simp
  have HP := Lib.hid (fun wx => isPlace_any tz wx (by omega) (by omega))
  have HCp := Lib.hid (fun wx hx hz => copyNumbers_any B (.slice A n c) n p wx hx hz (by omega) (by omega))
  have HCq := Lib.hid (fun wx hx hz => copyNumbers_any B (.slice A' (n + 1) c') (n + 1) q wx hx hz (by omega) (by omega))
  unfold RetF at HCp HCq
  have Hm0 := Lib.hid (mvr_0 p q tz)
  have Hm1 := Lib.hid (fun j => mvr_1 p q tz j)
  have Hmn := Lib.hid (show tab (n + 1) (mvr p q tz n) = tab (n + 1) (mv p q tz) from tab_congr fun i hi => by unfold mvr; rw [if_pos (by omega)])
  have Hmb := Lib.hid (fun k hk => mv_near1 (tz := tz) hc ht k hk)
  have Hok := Lib.hid hc.2.2.1
  have Hpl := Lib.hid hc.2.2.2.1
  have HS := Lib.hid hc.2.2.2.2
  have hn0 : 0 < n := by omega
  have hn0' : 0 < n + 1 := by omega
  have hn' : (n : Int) ≤ 10 := by omega
  clear h hb1 hc
  go_enter Try.func12, Try.ntmps12
  go_wp2_with fail
  generalize hw1 : (w.alloc (.cells #[.slice A n c, .slice A' (n + 1) c'] 26)).alloc (.cells #[.slice none 0 0, .slice none 0 0] 26) = w1 at *
  clear hw1
  refine (HV.out).mono ?_; rintro e w2 ⟨rfl, hb2⟩
  have g0 := (hb2.cell (p := ⟨w.heap.size, 0, none⟩) hz0).trans f0
  have g1 := (hb2.cell (p := ⟨w.heap.size, 1, none⟩) hz0).trans f1
  have Hres2 := Lib.hid ((hb2.block _ hz1).trans Hres.out)
  have Hb2 := Lib.hid (Hb1.out.trans (hb2.mono Hb1.out.size))
  have H2 := Lib.hid (H.out.below (hb2.mono hsz))
  have hz2 := Nat.lt_of_lt_of_le hz0 hb2.size
  have hB2 := Nat.le_trans hsz hb2.size
  clear hb2 HV f0 f1 f2 f3 Hres Hb1 H
  go_wp2_with fail
  refine (HP.out _).mono ?_; rintro e w1 ⟨rfl, rfl⟩
  go_wp2_with fail
  have HC1 := Lib.hid (HCp.out w2.drew H2.out.1 hB2)
  have Hal2 := Lib.hid ((Below.refl w2.heap.size w2).alloc (Nat.le_refl _) (.cells #[.slice none 0 0, .slice none 0 0] 26))
  have HC1b := Lib.hid (HCp.out (w2.alloc (.cells #[.slice none 0 0, .slice none 0 0] 26)).drew (H2.out.1.below (Hal2.out.mono hB2).drew) (Nat.le_trans hB2 Hal2.out.size))
  have ga0 := cell_alloc g0 (.cells #[.slice none 0 0, .slice none 0 0] 26)
  have ga1 := cell_alloc g1 (.cells #[.slice none 0 0, .slice none 0 0] 26)
  have hz2a := Nat.lt_of_lt_of_le hz2 Hal2.out.size
  have hB2a := Nat.le_trans hB2 Hal2.out.size
  have H2a := Lib.hid (H2.out.2.below (Hal2.out.mono hB2))
  have Halx := Lib.hid (fun (wx : World) => (Below.refl wx.heap.size wx).alloc (Nat.le_refl _) (.cells #[.slice none 0 0, .slice none 0 0] 26))
  go_cut [6] (fun s6 wx => ∃ G gp cp gq cq : Nat, s6 = .pointer (some ⟨G, 0, none⟩) ∧ MvAt w wx G gp cp gq cq n p q ∧ Below w2.heap.size w2 wx ∧ w2.heap.size ≤ gq)
  case first =>
    go_region_law ((first
      | (go_simp; go_at_call 87; refine HC1.out.mono ?_; rintro e w3 ⟨v3, rfl, ho3, hb3⟩; obtain ⟨gp, cp, rfl, _, _⟩ := own_posC ho3 hn0; have k0 := (Below.cell (below_undrew hb3) (p := ⟨w.heap.size, 0, none⟩) hz2).trans g0; have k1 := (Below.cell (below_undrew hb3) (p := ⟨w.heap.size, 1, none⟩) hz2).trans g1; have kb0 := cell_alloc k0 (.cells #[.slice none 0 0, .slice none 0 0] 26); have kb1 := cell_alloc k1 (.cells #[.slice none 0 0, .slice none 0 0] 26); have hB3 := Nat.le_trans hB2 (below_undrew hb3).size; have H3 := H2.out.2.below ((below_undrew hb3).mono hB2); have HC2 := Lib.hid (HCq.out w3 H3 hB3); have HC2b := Lib.hid (HCq.out (w3.alloc (.cells #[.slice none 0 0, .slice none 0 0] 26)) (H3.below ((Halx.out w3).mono hB3)) (Nat.le_trans hB3 (Halx.out w3).size)); have HMx := Lib.hid (fun w4 gq cq ho4 hb4 => @exC w w2 w3 w4 gp cp gq cq n p q Hres2.out Hb2.out ho3 (below_undrew hb3) ho4 hb4); have HMy := Lib.hid (fun w4 gq cq ho4 hb4 => @exB w w2 w3 w4 gp cp gq cq n p q Hres2.out Hb2.out ho3 (below_undrew hb3) _ rfl ho4 hb4); clear ho3 hb3 H3)
      | (go_simp; go_at_call 87; refine HC1b.out.mono ?_; rintro e w3 ⟨v3, rfl, ho3, hb3⟩; obtain ⟨gp, cp, rfl, _, _⟩ := own_posC ho3 hn0; have k0 := (Below.cell (below_undrew hb3) (p := ⟨w.heap.size, 0, none⟩) hz2a).trans ga0; have k1 := (Below.cell (below_undrew hb3) (p := ⟨w.heap.size, 1, none⟩) hz2a).trans ga1; have hB3 := Nat.le_trans hB2a (below_undrew hb3).size; have H3 := H2a.out.below ((below_undrew hb3).mono hB2a); have HC2 := Lib.hid (HCq.out w3 H3 hB3); have HMx := Lib.hid (fun w4 gq cq ho4 hb4 => @exA w w2 w3 w4 gp cp gq cq n p q Hres2.out Hb2.out _ rfl ho3 (below_undrew hb3) ho4 hb4); have HGx := Lib.hid (nil_kept (below_undrew hb3)); clear ho3 hb3 H3)
      | (go_simp; go_at_call 87; refine HC2.out.mono ?_; rintro e w4 ⟨v4, rfl, ho4, hb4⟩; obtain ⟨gq, cq, rfl, _, _⟩ := own_posC ho4 hn0'; have HM := Lib.hid (HMx.out w4 gq cq ho4 hb4); obtain ⟨n0, n1, n2, n3⟩ := nil_later HGx.out hb4; clear ho4 hb4)
      | (go_simp; go_at_call 87; refine HC2.out.mono ?_; rintro e w4 ⟨v4, rfl, ho4, hb4⟩; obtain ⟨gq, cq, rfl, _, _⟩ := own_posC ho4 hn0'; have HM := Lib.hid (HMx.out w4 gq cq ho4 hb4);  clear ho4 hb4)
      | (go_simp; go_at_call 87; refine HC2b.out.mono ?_; rintro e w4 ⟨v4, rfl, ho4, hb4⟩; obtain ⟨gq, cq, rfl, _, _⟩ := own_posC ho4 hn0'; have HM := Lib.hid (HMy.out w4 gq cq ho4 hb4); obtain ⟨n0, n1, n2, n3⟩ := nil_later (nil_kept (Below.refl _ _)) hb4; clear ho4 hb4)))
    all_goals
      (try go_wp2_with fail)
      go_meet
      obtain ⟨_, _, rfl, rfl, hM, hMb, hMg⟩ := HM.out
      first
        | exact ⟨_, _, _, _, _, rfl, hM, hMb, hMg⟩
        | exact ⟨_, _, _, _, _, rfl, hM.drew, hMb.drew, hMg⟩
  case rest =>
    obtain ⟨G, gp, cp, gq, cq, rfl, hM, hMb, hMg⟩ := hcut
    obtain ⟨_, c1, _, _⟩ := blk2 hM.own
    obtain ⟨q0, z0⟩ := own_cellD hM.rq 0 hn0'
    have hM6 : MvAt w (wc.setCell ⟨gq, 0, none⟩ (.int .i64 tz)) G gp cp gq cq n p (mvr p q tz 0) := by
      have := hM.put 0 tz
      rwa [Hm0.out] at this
    have hMb6 := hMb.setCell (p := ⟨gq, 0, none⟩) hMg (.int .i64 tz)
    have l0 := (hMb6.cell (p := ⟨w.heap.size, 0, none⟩) hz2).trans g0
    have HM6 := Lib.hid hM6
    have HMb6 := Lib.hid hMb6
    clear hM hMb hM6 hMb6
    go_wp2_with fail
    go_loopw [31] (fun i wr => ∃ j : Nat, j ≤ n ∧ i = .int .i64 (j : Int) ∧ MvAt w wr G gp cp gq cq n p (mvr p q tz j) ∧ Below w2.heap.size w2 wr) (fun i _ => n - (intOf i).toNat)
    case atStart => exact ⟨0, Nat.zero_le _, rfl, HM6.out, HMb6.out⟩
    case round =>
      obtain ⟨j, hj, rfl, hM, hMb⟩ := hrel
      by_cases hjn : j < n
      · have hrp := H2.out.1.below (hMb.mono hB2)
        obtain ⟨b1, o1, hA, _, hcc⟩ := rdF_all hrp hn0
        subst hA
        have x0 := hcc j hjn
        obtain ⟨_, d1, _, _⟩ := blk2 hM.own
        obtain ⟨y0, _⟩ := own_cellD hM.rq j (by omega)
        obtain ⟨y1, y2⟩ := own_cellD hM.rq (j + 1) (by omega)
        rw [show mvr p q tz j j = mv p q tz j by unfold mvr; rw [if_pos (Nat.le_refl _)]] at y0
        rw [show mvr p q tz j (j + 1) = q (j + 1) by unfold mvr; rw [if_neg (by omega)]] at y1
        have hst := mv_step p q tz j _ _ _ rfl rfl rfl (Hok.out j hjn).1
        have hmb := Hmb.out j hj
        have hpb := Hpl.out j hjn
        have hp0 := (Hok.out j hjn).1
        have hqb := HS.out (j + 1) (by omega)
        have hmv := Hm1.out j
        have Hput := Lib.hid (fun z (hz : mv p q tz (j + 1) = z) => show MvAt w (wr.setCell ⟨gq, j + 1, none⟩ (.int .i64 z)) G gp cp gq cq n p (mvr p q tz (j + 1)) by
          have := hM.put (j + 1) z
          rw [← hz, hmv] at this
          rwa [← hz])
        have Hbput := Lib.hid (fun z => hMb.setCell (p := ⟨gq, j + 1, none⟩) hMg (.int .i64 z))
        generalize mv p q tz (j + 1) = u at *
        generalize mv p q tz j = y at *
        generalize q (j + 1) = z at *
        generalize p j = x at *
        have hw1 : IntKind.i64.wrap ((j : Int) + 1) = (j : Int) + 1 := IntWalk.i64_in _ (by omega)
        have hw2 : ((j : Int) + 1).toNat = j + 1 := by omega
        have hw3 : (0 : Int) ≤ (j : Int) + 1 := by omega
        have hw4 : IntKind.i64.wrap (y - x) = y - x := IntWalk.i64_in _ (by omega)
        have hw5 : IntKind.i64.wrap (y + x) = y + x := IntWalk.i64_in _ (by omega)
        have hj1 : (j : Int) + 1 < (n : Int) + 1 := by omega
        have hj2 : j + 1 < n + 1 := by omega
        have hj3 : (j : Int) < (n : Int) + 1 := by omega
        have hj4 : (j : Int) < (n : Int) := by omega
        have hj5 : j < n + 1 := by omega
        have Hst := Lib.hid hst
        have hxx : ¬ (y + x < y - x) := by omega
        clear hcc hrp hM hMb hmb hpb hqb hmv hst
        rcases Hst.out with ⟨s1, s2⟩ | ⟨s1, s2, s3⟩ | ⟨s1, s2, s3⟩
        · have Hp2 := Lib.hid (Hput.out _ s2)
          have Hp3 := Lib.hid (Hbput.out u)
          rw [s2] at Hp3
          clear s2 Hput Hbput Hst
          go_wp2_with fail
          go_region
          all_goals
            (try go_wp2_with fail)
            go_roundw
            case rel => exact ⟨j + 1, by omega, by go_num, Hp2.out.drew, Hp3.out.drew⟩
            case measure => first | (simp [intOf]; done) | (simp [intOf]; omega)
        · have Hp2 := Lib.hid (Hput.out _ s3)
          have Hp3 := Lib.hid (Hbput.out u)
          rw [s3] at Hp3
          clear s3 Hput Hbput Hst
          go_wp2_with fail
          go_region
          all_goals
            (try go_wp2_with fail)
            go_roundw
            case rel => exact ⟨j + 1, by omega, by go_num, Hp2.out.drew, Hp3.out.drew⟩
            case measure => first | (simp [intOf]; done) | (simp [intOf]; omega)
        · have Hp2 := Lib.hid (Hput.out _ s3)
          have Hp3 := Lib.hid (Hbput.out u)
          rw [s3] at Hp3
          clear s3 Hput Hbput Hst
          go_wp2_with fail
          go_region
          all_goals
            (try go_wp2_with fail)
            go_roundw
            case rel => exact ⟨j + 1, by omega, by go_num, Hp2.out.drew, Hp3.out.drew⟩
            case measure => first | (simp [intOf]; done) | (simp [intOf]; omega)
      · obtain rfl : j = n := by omega
        obtain ⟨r0, r1, r2, r3⟩ := blk2 hM.res
        obtain ⟨d0, d1, _, _⟩ := blk2 hM.own
        obtain ⟨e0, e1, ho1, ho2, hbe⟩ := hM.done (.slice (some ⟨gp, 0, none⟩) j cp) (.slice (some ⟨gq, 0, none⟩) (j + 1) cq)
        rw [Hmn.out] at ho2
        have He0 := Lib.hid e0
        have He1 := Lib.hid e1
        have Hfin := Lib.hid (show RetCh j p (mv p q tz) w (.returned (.tuple #[.agg #[.slice (some ⟨gp, 0, none⟩) j cp, .slice (some ⟨gq, 0, none⟩) (j + 1) cq], .int .i64 0])) _ from ⟨gp, cp, gq, cq, rfl, ho1, ho2, hbe⟩)
        clear e0 e1 ho1 ho2 hbe hM hMb
        go_wp2_with fail
        exact bodyPost_ret (v := .tuple #[.agg #[.slice (some ⟨gp, 0, none⟩) j cp, .slice (some ⟨gq, 0, none⟩) (j + 1) cq], .int .i64 0]) (by simp [results, Try.results12, go_sem, He0.out, He1.out]) rfl Hfin.out
end Go.Proofs.Ytdljlemgaefbpaa
