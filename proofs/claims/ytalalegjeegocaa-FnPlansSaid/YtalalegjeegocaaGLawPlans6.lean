/- Merged texts: Jb17, Jb18, Jb19, Jb20, Lib3, Lib7, Jb21. -/
import Derived.Test.YtalalegjeegocaaGLawPlans5
import Derived.Test.YtalalegjeegocaaGLawPlans1
import Derived.Deep.RegionHeld3
/- Jobs, part 17: PlanFor of the program. -/
namespace Go.Proofs.Ytalalegjeegocaa
open Go.RowKit Go.Joins

/-- the rows of a plan, in any order -/
structure PlI (w : World) (g c : Nat) (xs : List Jb) (vl : Value) (wr : World) (S : Nat → Int) : Prop where
  bel : Below w.heap.size w wr
  own : wr.ownsRow w.heap.size 2 1 (.slice (some ⟨g, 0, none⟩) xs.length c) xs.length (tab xs.length S)
  lat : wr.ownsRow w.heap.size 2 1 vl xs.length (tab xs.length (late xs))
  ne : ∀ x, vl.ownBlock = some x → x ≠ g
theorem PlI.below {w : World} {g c : Nat} {xs : List Jb} {vl : Value} {wr wz : World} {S : Nat → Int} (h : PlI w g c xs vl wr S) (hb : Below wr.heap.size wr wz) : PlI w g c xs vl wz S :=
  ⟨h.bel.trans (hb.mono h.bel.size), own_below h.own hb, own_below h.lat hb, h.ne⟩
theorem PlI.put {w : World} {g c : Nat} {xs : List Jb} {vl : Value} {wr : World} {S : Nat → Int} (h : PlI w g c xs vl wr S) (b : Nat) (y : Int) : PlI w g c xs vl (wr.setCell ⟨g, b, none⟩ (.int .i64 y)) (put S b y) := by
  have h1 := h.own.stored b (.int .i64 y)
  refine ⟨h.bel.setCell (p := ⟨g, b, none⟩) (h.own.lt g rfl).1 _, ?_, h.lat.kept h1.2 ?_, h.ne⟩
  · rw [← tab_set]
    exact h1.1
  · cases hv : vl.ownBlock with
    | none => exact .inl rfl
    | some x => exact .inr fun e => h.ne x hv (by injection e)
theorem PlI.congr {w : World} {g c : Nat} {xs : List Jb} {vl : Value} {wr : World} {S S' : Nat → Int} (h : PlI w g c xs vl wr S) (e : tab xs.length S = tab xs.length S') : PlI w g c xs vl wr S' := ⟨h.bel, e ▸ h.own, h.lat, h.ne⟩
theorem PlI.rd {w : World} {g c : Nat} {xs : List Jb} {vl : Value} {wr : World} {S : Nat → Int} (h : PlI w g c xs vl wr S) : Rd wr wr.heap.size (.slice (some ⟨g, 0, none⟩) xs.length c) xs.length 1 (tab xs.length S) := Rd.of_own h.own
theorem PlI.rl {w : World} {g c : Nat} {xs : List Jb} {vl : Value} {wr : World} {S : Nat → Int} (h : PlI w g c xs vl wr S) : Rd wr wr.heap.size vl xs.length 1 (tab xs.length (late xs)) := Rd.of_own h.lat
/-- the code, the number of days, the last end -/
def pfC (xs : List Jb) (wk : Int) : Int := if okJ xs = true then (if inB wk 1 30 = true then 0 else 2) else 1
def pfN (xs : List Jb) (wk : Int) : Nat := if pfC xs wk = 0 then xs.length else 0
def pfE (xs : List Jb) (wk : Int) : Int := if pfC xs wk = 0 then endS xs (plan xs wk) xs.length else 0
def RetPF (xs : List Jb) (wk : Int) (w : World) (e : Ending) (w' : World) : Prop := ∃ v, e = .returned (.tuple #[v, .int .i64 (pfE xs wk), .int .i64 (pfC xs wk)]) ∧ w'.ownsRow w.heap.size 2 1 v (pfN xs wk) (tab (pfN xs wk) (plan xs wk)) ∧ Below w.heap.size w w'
theorem RetPF.bad {xs : List Jb} {wk c : Int} {w w' : World} (h : pfC xs wk = c) (hc : c ≠ 0) (hb : Below w.heap.size w w') : RetPF xs wk w (.returned (.tuple #[.slice none 0 0, .int .i64 0, .int .i64 c])) w' := by
  have e1 : pfN xs wk = 0 := by unfold pfN; rw [h, if_neg hc]
  have e2 : pfE xs wk = 0 := by unfold pfE; rw [h, if_neg hc]
  refine ⟨_, by rw [h, e2], ?_, hb⟩
  rw [e1]
  exact ⟨by simp [tab], .inl ⟨rfl, rfl⟩⟩
theorem RetPF.good {xs : List Jb} {wk y : Int} {w w' : World} {v : Value} (h : pfC xs wk = 0) (hy : endS xs (plan xs wk) xs.length = y) (ho : w'.ownsRow w.heap.size 2 1 v xs.length (tab xs.length (plan xs wk))) (hb : Below w.heap.size w w') : RetPF xs wk w (.returned (.tuple #[v, .int .i64 y, .int .i64 0])) w' := by
  have e1 : pfN xs wk = xs.length := by unfold pfN; rw [if_pos h]
  have e2 : pfE xs wk = y := by unfold pfE; rw [if_pos h]; exact hy
  refine ⟨_, by rw [h, e2], ?_, hb⟩
  rw [e1]
  exact ho
theorem pfC_no {xs : List Jb} {wk : Int} (h : okJ xs = false) : pfC xs wk = 1 := by unfold pfC; rw [h]; rfl
theorem pfC_wk {xs : List Jb} {wk : Int} (h : okJ xs = true) (h2 : inB wk 1 30 = false) : pfC xs wk = 2 := by unfold pfC; rw [h, h2]; rfl
theorem pfC_ok {xs : List Jb} {wk : Int} (h : okJ xs = true) (h2 : inB wk 1 30 = true) : pfC xs wk = 0 := by unfold pfC; rw [h, h2]; rfl
set_option maxRecDepth 100000 in
set_option maxHeartbeats 6400000 in
theorem PlanForI_any (B : Nat) (v : Value) (xs : List Jb) (wk : Int) (w : World) (h : RdJ w B v xs) (hB : B ≤ w.heap.size) (hn : xs.length ≤ 100000) (hz : szJ xs) :
    Calls Try.prog 7 #[v, .int .i64 wk] w (RetPF xs wk w) := by
  have HV := Lib.hid (ValidJI_any B v xs w h hB hn hz)
  have HX := Lib.hid (fun wx => between_any wk 1 30 wx)
  have H := Lib.hid h
  have HZ := Lib.hid hz
  obtain ⟨A, c, rfl⟩ := h.slice
  clear h hz
  cases hv : okJ xs with
  | false =>
    have Hc := Lib.hid (pfC_no (wk := wk) hv)
    rw [hv] at HV
    clear hv
    go_enter Try.func7, Try.ntmps7
    go_wp2_with fail
    refine (HV.out).mono ?_; rintro e w2 ⟨rfl, hb2⟩
    have Hb2 := Lib.hid hb2
    clear hb2
    go_wp2_with fail
    go_ret3
    exact RetPF.bad Hc.out (by decide) Hb2.out
  | true =>
    cases hi : inB wk 1 30 with
    | false =>
      have Hc := Lib.hid (pfC_wk hv hi)
      rw [hv] at HV
      rw [hi] at HX
      clear hv hi
      go_enter Try.func7, Try.ntmps7
      go_wp2_with fail
      refine (HV.out).mono ?_; rintro e w2 ⟨rfl, hb2⟩
      have Hb2 := Lib.hid hb2
      clear hb2
      go_wp2_with fail
      refine (HX.out _).mono ?_; rintro e w1 ⟨rfl, rfl⟩
      go_wp2_with fail
      go_ret3
      exact RetPF.bad Hc.out (by decide) Hb2.out
    | true =>
      have Hc := Lib.hid (pfC_ok hv hi)
      have HK := Lib.hid (okJ_ok hv)
      have hl30 := (okJ_ok hv).len
      have hwb := inB_iff.1 hi
      rw [hv] at HV
      rw [hi] at HX
      have HP := Lib.hid (show pln xs (late xs) wk 401 0 (fun _ => -1) = plan xs wk from rfl)
      have HC := Lib.hid (fun wx hx hy => latest_any B (.slice A xs.length c) xs wx hx hy HK.out HZ.out)
      unfold RetTb at HC
      have HM := Lib.hid (fun wx => mk_ints xs.length (by omega) wx)
      clear hv hi
      go_enter Try.func7, Try.ntmps7
      go_wp2_with fail
      refine (HV.out).mono ?_; rintro e w2 ⟨rfl, hb2⟩
      have Hb2 := Lib.hid hb2
      have H2 := Lib.hid (H.out.below (hb2.mono hB))
      have hB2 : B ≤ w2.heap.size := Nat.le_trans hB hb2.size
      clear hb2
      go_wp2_with fail
      refine (HX.out _).mono ?_; rintro e w1 ⟨rfl, rfl⟩
      go_wp2_with fail
      go_cut [7, 8, 9] (fun s7 s8 s9 wx => ∃ (g c8 : Nat) (A8 : Option Addr), s7 = .slice (some ⟨g, 0, none⟩) xs.length xs.length ∧ s8 = .slice A8 xs.length c8 ∧ s9 = .int .i64 0 ∧ PlI w g xs.length xs (.slice A8 xs.length c8) wx (filA (fun _ => -1) (fun _ => 0) 0))
      case first =>
        obtain ⟨wm, hrm, hom, hbm⟩ := HM.out w2.drew
        have Hd := Lib.hid (show RdJ w2.drew B (.slice A xs.length c) xs from H2.out)
        go_region_with ((first | (go_at_call 37; refine (HC.out _ (by first | exact Hd.out.below (hbm.mono hB2) | exact Hd.out) (by first | exact Nat.le_trans hB2 hbm.size | exact hB2)).mono ?_; rintro e wq ⟨vq, rfl, hoq, hbq⟩; obtain ⟨Aq, cq, rfl⟩ := own_sl hoq; obtain ⟨wn, hrn, hon, hbn⟩ := HM.out wq)))
        all_goals
          go_wp2_with fail
          go_meet
          first
            | exact ⟨wq.heap.size, cq, Aq, rfl, rfl, rfl, Hb2.out.trans (((below_undrew hbq).trans (hbn.mono hbq.size)).mono Hb2.out.size), by rw [← filA_zero]; exact ownsRow_le hon (Nat.le_trans Hb2.out.size hbq.size), ownsRow_le (own_below hoq hbn) Hb2.out.size, fun x hx e => by have := (hoq.lt x hx).2; omega⟩
            | exact ⟨w2.heap.size, cq, Aq, rfl, rfl, rfl, Hb2.out.trans (((below_undrew hbm).trans (hbq.mono hbm.size)).mono Hb2.out.size), by rw [← filA_zero]; exact ownsRow_le (own_below hom hbq) Hb2.out.size, ownsRow_le hoq (Nat.le_trans Hb2.out.size hbm.size), fun x hx e => by have h1 := (hoq.lt x hx).1; have h2 := (hom.lt _ rfl).2; subst e; exact absurd h1 (Nat.not_le.2 h2)⟩
      case rest =>
        obtain ⟨g, c8, A8, rfl, rfl, rfl, hpi⟩ := hcut
        have HPi := Lib.hid hpi
        clear hpi HM HC H2
        go_wp2_with fail
        go_loopw [27] (fun i wr => ∃ k : Nat, k ≤ xs.length ∧ i = .int .i64 (k : Int) ∧ PlI w g xs.length xs (.slice A8 xs.length c8) wr (filA (fun _ => -1) (fun _ => 0) k)) (fun i _ => xs.length - (intOf i).toNat)
        case atStart => exact ⟨0, Nat.zero_le _, rfl, HPi.out⟩
        case round =>
          obtain ⟨k, hk, rfl, hpi⟩ := hrel
          clear HPi
          by_cases hlt : k < xs.length
          · have hlt' : (k : Int) < (xs.length : Int) := by omega
            obtain ⟨n0, n1⟩ := own_cellI hpi.own k hlt
            have Hpi := Lib.hid ((hpi.put k (-1)).congr (filA_put xs.length (fun _ => -1) (fun _ => 0) k))
            clear hpi
            go_wp2_with fail
            go_roundw
            case rel => exact ⟨k + 1, by omega, by go_num, Hpi.out⟩
            case measure => first | (simp [intOf]; done) | (simp [intOf]; omega)
          · obtain rfl : k = xs.length := by omega
            have hlt' : ¬ ((xs.length : Int) < (xs.length : Int)) := by omega
            have HPl0 := Lib.hid (hpi.congr (filA_all xs.length (fun _ => -1) (fun _ => 0)))
            clear hpi
            have hu0 : unS (fun _ => -1) xs.length = (xs.length : Int) := by
              have e : ∀ n : Nat, unS (fun _ => -1) n = (n : Int) := fun n => by
                induction n with
                | zero => rfl
                | succ n ih =>
                  show unS (fun _ => -1) n + 1 = _
                  rw [ih]; omega
              exact e _
            have he0 : endP xs (fun _ => -1) xs.length = 0 := by
              have e : ∀ n : Nat, endP xs (fun _ => -1) n = 0 := fun n => by
                induction n with
                | zero => rfl
                | succ n ih =>
                  show max (endP xs (fun _ => -1) n) 0 = 0
                  rw [ih]; rfl
              exact e _
            have HSt0 := Lib.hid (St_start HK.out (wk := wk) hwb.1)
            have HFin := Lib.hid (fun (y : Int) wz v (hy : endS xs (plan xs wk) xs.length = y) ho hb => RetPF.good (w := w) (w' := wz) (v := v) Hc.out hy ho hb)
            generalize plan xs wk = plw at *
            go_wp2_with fail
            go_loopw [9, 11, 12] (fun en l dd wx => ∃ (d f : Nat) (S : Nat → Int), d + f = 401 ∧ dd = .int .i64 (d : Int) ∧ l = .int .i64 (unS S xs.length) ∧ en = .int .i64 (endP xs S xs.length) ∧ St xs wk S (d : Int) ∧ pln xs (late xs) wk f (d : Int) S = plw ∧ PlI w g xs.length xs (.slice A8 xs.length c8) wx S) (fun _ _ dd _ => (401 - intOf dd).toNat)
            case atStart => exact ⟨0, 401, fun _ => -1, rfl, rfl, by rw [hu0], by rw [he0], HSt0.out, HP.out, HPl0.out⟩
            case round =>
              obtain ⟨d, f, S, hdf, rfl, rfl, rfl, hst, hpl, hps⟩ := hrel
              clear HSt0 HPl0 hu0 he0
              have hun := unS_nn S xs.length
              have hul := unS_le S xs.length
              by_cases hu : unS S xs.length = 0
              · rw [pln_zero f hu] at hpl
                have He := Lib.hid (endP_S (xs := xs) (S := S) (n := xs.length) (fun i hi => unS_zero hu hi))
                have HF2 := Lib.hid (HFin.out (endP xs S xs.length) wr _ (by rw [He.out, hpl]) (by rw [← hpl]; exact hps.own) hps.bel)
                clear hps hst HFin
                have hu' : ¬ ((0 : Int) < unS S xs.length) := by omega
                clear He hpl
                generalize endP xs S xs.length = ee at *
                generalize unS S xs.length = us at *
                go_wp2_with fail
                go_ret3
                exact HF2.out
              · have hd9 := (hst.day HK.out).2 (by omega)
                obtain ⟨f, rfl⟩ : ∃ f', f = f' + 1 := ⟨f - 1, by omega⟩
                have e0 : pln xs (late xs) wk (f + 1) (d : Int) S = pln xs (late xs) wk f ((d : Int) + 1) (inn xs (late xs) wk (d : Int) xs.length S) := if_neg hu
                rw [e0] at hpl
                have Hnx := Lib.hid (inn_next (L := late xs) HK.out hwb.1 (by omega) hst (by omega))
                have Hpl := Lib.hid hpl
                have Hst := Lib.hid hst
                have Hps := Lib.hid hps
                have hu' : (0 : Int) < unS S xs.length := by omega
                have hwd : IntKind.i64.wrap ((d : Int) + 1) = (d : Int) + 1 := IntWalk.i64_in _ (by omega)
                clear hpl hst hps e0
                obtain ⟨Sn, hSn⟩ : ∃ z, inn xs (late xs) wk (d : Int) xs.length S = z := ⟨_, rfl⟩
                have HSn := Lib.hid hSn
                rw [hSn] at Hnx Hpl
                clear hSn
                go_wp2_with fail
                go_loopw [9, 11] (fun en l wx => ∃ (f2 : Nat) (S2 : Nat → Int), unS S2 xs.length ≤ f2 ∧ inn xs (late xs) wk (d : Int) f2 S2 = Sn ∧ l = .int .i64 (unS S2 xs.length) ∧ en = .int .i64 (endP xs S2 xs.length) ∧ St xs wk S2 (d : Int) ∧ PlI w g xs.length xs (.slice A8 xs.length c8) wx S2) (fun _ l _ => (intOf l).toNat)
                case atStart => exact ⟨xs.length, S, hul, HSn.out, rfl, rfl, Hst.out, Hps.out⟩
                case round =>
                  clear Hst Hps
                  obtain ⟨f2, S2, hf2, hi2, rfl, rfl, hst2, hps2⟩ := hrel
                  have hun2 := unS_nn S2 xs.length
                  have hul2 := unS_le S2 xs.length
                  have hsd := hst2.sbd (by omega)
                  have hRr := (H.out.below (hps2.bel.mono hB)).more (Nat.le_trans hB hps2.bel.size)
                  have HB2 := Lib.hid (running_any wr.heap.size (.slice A xs.length c) (.slice (some ⟨g, 0, none⟩) xs.length xs.length) xs S2 (d : Int) wr hRr (Nat.le_refl _) hps2.rd HK.out hsd)
                  have HN2 := Lib.hid (fun wx (hb : Below wr.heap.size wr wx) => nextJob_any wr.heap.size (.slice A xs.length c) (.slice (some ⟨g, 0, none⟩) xs.length xs.length) (.slice A8 xs.length c8) xs S2 (late xs) (d : Int) wx (hRr.below hb) hb.size (hps2.rd.below hb) (hps2.rl.below hb) HK.out HZ.out hsd)
                  have hbl2 := bsy_le xs S2 (d : Int) xs.length
                  by_cases hbw : (bsy xs S2 (d : Int) xs.length : Int) < wk
                  · have HGo := Lib.hid (fun (b : Nat) hbe => inn_go (L := late xs) (f := f2) (wk := wk) (b := b) hbw hbe (by omega) hf2)
                    have HSa := Lib.hid (fun (b : Nat) h1 h2 h3 => hst2.start (b := b) HK.out (by omega) h1 h2 h3 hbw)
                    have Hhi := Lib.hid hi2
                    have Hst2 := Lib.hid hst2
                    have Hps2 := Lib.hid hps2
                    clear hps2 hst2 hi2 hsd hRr
                    generalize (bsy xs S2 (d : Int) xs.length : Int) = bz at *
                    go_wp2_with fail
                    refine (HB2.out).mono ?_; rintro e wy ⟨rfl, hby⟩
                    have HN3 := Lib.hid (HN2.out wy hby)
                    have HPy := Lib.hid (Hps2.out.below hby)
                    clear HB2 HN2 Hps2 hby
                    have hbb := bst_bd xs S2 (late xs) (d : Int) xs.length
                    go_wp2_with fail
                    by_cases hb : bst xs S2 (late xs) (d : Int) xs.length < 0
                    · have hie := inn_stop (xs := xs) (L := late xs) f2 (fun hc => by have h2 := hc.2; omega) (S := S2) (day := (d : Int)) (wk := wk)
                      have hi2 := Hhi.out
                      rw [hie] at hi2
                      subst hi2
                      clear hie
                      generalize bst xs S2 (late xs) (d : Int) xs.length = bk at *
                      refine (HN3.out).mono ?_; rintro e wz ⟨rfl, hbz⟩
                      have HPz := Lib.hid (HPy.out.below hbz)
                      clear hbz HN3
                      go_wp2_with fail
                      go_roundw
                      case rel => exact ⟨d + 1, f, S2, by omega, by go_num, rfl, rfl, Hnx.out, Hpl.out, HPz.out⟩
                      case measure => first | (simp [intOf]; done) | (simp [intOf]; omega)
                    · obtain ⟨b, hbe⟩ : ∃ b : Nat, bst xs S2 (late xs) (d : Int) xs.length = (b : Int) := ⟨(bst xs S2 (late xs) (d : Int) xs.length).toNat, by omega⟩
                      obtain ⟨gbl, gbs, gbr, gun, f3, gf3, gin⟩ := HGo.out b hbe
                      have HSt3 := Lib.hid (HSa.out b gbl gbs gbr)
                      have hi2 := Hhi.out
                      rw [gin] at hi2
                      have Hin3 := Lib.hid hi2
                      rw [hbe] at HN3
                      refine (HN3.out).mono ?_; rintro e wz ⟨rfl, hbz⟩
                      have HPz := Lib.hid (HPy.out.below hbz)
                      clear HN3 HPy hbz
                      obtain ⟨n0, n1⟩ := own_cellI HPz.out.own b gbl
                      obtain ⟨wx, hwx⟩ : ∃ z, wz.setCell ⟨g, b, none⟩ (.int .i64 (d : Int)) = z := ⟨_, rfl⟩
                      have hpp := HPz.out.put b (d : Int)
                      rw [hwx] at hpp
                      have HPp := Lib.hid hpp
                      obtain ⟨gb, ob, A4, c4, hA4, hat⟩ := (H.out.below (hpp.bel.mono hB)).at b gbl
                      subst hA4
                      have t1 := hat.c1
                      have hdb := HK.out.days b gbl
                      have hep := endP_put (xs := xs) (S := S2) (b := b) (d := (d : Int)) gbs (by omega) gbl
                      have he1 := endP_nn xs S2 xs.length
                      have hed := endP_le (xs := xs) (S := S2) (M := 460) (n := xs.length) (by omega) (fun i hi => by have h1 := Hst2.out.up i hi; have h2 := HK.out.days i hi; omega)
                      have hwe : IntKind.i64.wrap ((d : Int) + (jg xs b).days) = (d : Int) + (jg xs b).days := IntWalk.i64_in _ (by omega)
                      have hwl : IntKind.i64.wrap (unS S2 xs.length - 1) = unS (put S2 b (d : Int)) xs.length := by rw [gun]; exact IntWalk.i64_in _ (by omega)
                      have hun3 := unS_nn (put S2 b (d : Int)) xs.length
                      have hbl' : (b : Int) < (xs.length : Int) := by omega
                      have hb0 : ¬ ((b : Int) < 0) := by omega
                      have Hep := Lib.hid hep
                      clear HGo HSa gin hi2 hbe hb hat hpp hep
                      obtain ⟨us2, hus2⟩ : ∃ z, unS S2 xs.length = z := ⟨_, rfl⟩
                      rw [hus2] at gun hun2 hwl ⊢
                      have Hus2 := Lib.hid hus2
                      clear hus2
                      obtain ⟨us3, hus3⟩ : ∃ z, unS (put S2 b (d : Int)) xs.length = z := ⟨_, rfl⟩
                      have Hus3 := Lib.hid hus3
                      rw [hus3] at hwl gun hun3
                      clear hus3
                      generalize endP xs S2 xs.length = ee at *
                      generalize (jg xs b).days = db at *
                      generalize S2 b = sb at *
                      go_wp2_with fail
                      go_roundw
                      case rel => exact ⟨f3, put S2 b (d : Int), gf3, Hin3.out, by rw [Hus3.out, gun], (by rw [Hep.out]; first | rfl | (congr 1; omega)), HSt3.out, HPp.out⟩
                      case measure => (have h9 := Hus2.out; simp [intOf]; omega)
                  · have hie := inn_stop (L := late xs) f2 (fun hc => hbw hc.1) (S := S2) (day := (d : Int)) (wk := wk)
                    rw [hie] at hi2
                    subst hi2
                    have Hps2 := Lib.hid hps2
                    clear hie hst2 hps2 hsd hRr
                    generalize (bsy xs S2 (d : Int) xs.length : Int) = bz at *
                    go_wp2_with fail
                    refine (HB2.out).mono ?_; rintro e wy ⟨rfl, hby⟩
                    have HPy := Lib.hid (Hps2.out.below hby)
                    clear HB2 HN2 Hps2 hby
                    go_wp2_with fail
                    go_roundw
                    case rel => exact ⟨d + 1, f, S2, by omega, by go_num, rfl, rfl, Hnx.out, Hpl.out, HPy.out⟩
                    case measure => first | (simp [intOf]; done) | (simp [intOf]; omega)
end Go.Proofs.Ytalalegjeegocaa
/- Jobs, part 18: PlanFor of the reference; codes. -/
namespace Go.Proofs.Ytalalegjeegocaa
open Go.RowKit Go.Joins

set_option maxRecDepth 100000 in
set_option maxHeartbeats 3200000 in
theorem l22End_any (B : Nat) (v vs : Value) (xs : List Jb) (S : Nat → Int) (w : World) (h : RdJ w B v xs) (hs : Rd w B vs xs.length 1 (tab xs.length S)) (hk : OkJ xs) (hS : ∀ i, i < xs.length → 0 ≤ S i ∧ S i ≤ 400) :
    Calls Try.prog 42 #[v, vs] w fun e w' => e = .returned (.int .i64 (endS xs S xs.length)) ∧ ∃ q, w' = w.drewN q := by
  have H := Lib.hid h
  have HK := Lib.hid hk
  have HR := Lib.hid hs
  have HS := Lib.hid hS
  have hl30 := hk.len
  have HB := Lib.hid (fun n (hn : n ≤ xs.length) => endS_le (xs := xs) (S := S) (M := 460) (by omega) (n := n) (fun i hi => by have h1 := hS i (by omega); have h2 := hk.days i (by omega); omega))
  obtain ⟨A, c, rfl⟩ := h.slice
  obtain ⟨A2, c2, rfl⟩ := rd_sl hs
  clear h hk hs hS
  go_enter Try.func42, Try.ntmps42
  go_wp2_with fail
  go_loopw [5, 6] (fun r x wr => ∃ (i q : Nat), i ≤ xs.length ∧ x = .int .i64 (i : Int) ∧ r = .int .i64 (endS xs S i) ∧ wr = w.drewN q) (fun _ x _ => xs.length - (intOf x).toNat)
  case atStart => exact ⟨0, 0, Nat.zero_le _, rfl, rfl, rfl⟩
  case round =>
    obtain ⟨i, q, hi, rfl, rfl, hwr⟩ := hrel
    have Hwr := Lib.hid hwr
    have hbq : Below B w wr := by rw [hwr]; exact below_drewN (Below.refl _ _) q
    clear hwr
    by_cases hil : i < xs.length
    · have hil' : (i : Int) < (xs.length : Int) := by omega
      obtain ⟨gb, ob, A4, c4, hA4, hat⟩ := (H.out.below hbq).at i hil
      subst hA4
      obtain ⟨b1, o1, hA5, hb5, hcs⟩ := rdF_all (RdF_below HR.out hbq) (show 0 < xs.length by omega)
      subst hA5
      have s1 := hcs i hil
      have hsb := HS.out i hil
      have hdb := HK.out.days i hil
      have hb1 := HB.out i hi
      have hb2 := endS_nn xs S i
      have t1 := hat.c1
      have hws : IntKind.i64.wrap (S i + (jg xs i).days) = S i + (jg xs i).days := IntWalk.i64_in _ (by omega)
      have HX := Lib.hid (fun wx => flipJ (l00Max_c (endS xs S i) (S i + (jg xs i).days) wx))
      rw [show max (endS xs S i) (S i + (jg xs i).days) = endS xs S (i + 1) from rfl] at HX
      obtain ⟨y, hy⟩ : ∃ z, endS xs S (i + 1) = z := ⟨_, rfl⟩
      have Hy := Lib.hid hy
      rw [hy] at HX
      clear hcs hat hy
      generalize endS xs S i = ee at *
      generalize (jg xs i).days = dp at *
      generalize S i = sp at *
      go_wp2_with fail
      go_quiet ((go_at_call 72; exact Calls.quiet_of_same (HX.out _)))
      go_wp2_with fail
      go_roundw
      case rel => exact ⟨i + 1, q + nq, by omega, by go_num, by rw [Hy.out], by rw [Hwr.out]; exact World.drewN_drewN _ _ _⟩
      case measure => first | (simp [intOf]; done) | (simp [intOf]; omega)
    · obtain rfl : i = xs.length := by omega
      have hil' : ¬ ((xs.length : Int) < (xs.length : Int)) := by omega
      go_wp2_with fail
      go_ret
      exact ⟨rfl, q, Hwr.out⟩
set_option maxRecDepth 100000 in
set_option maxHeartbeats 3200000 in
theorem l22Workers_any (B : Nat) (v : Value) (xs : List Jb) (wk : Int) (w : World) (h : RdJ w B v xs) (hB : B ≤ w.heap.size) (hn : xs.length ≤ 100000) (hz : szJ xs) :
    Calls Try.prog 40 #[v, .int .i64 wk] w (RetN1 (pfC xs wk) w) := by
  have HV := Lib.hid (OkJS_any B v xs w h hB hn hz)
  have HX := Lib.hid (fun wx => l00In_any wk 1 30 wx)
  obtain ⟨A, c, rfl⟩ := h.slice
  clear h hz
  cases hv : okJ xs with
  | false =>
    rw [pfC_no hv]
    rw [hv] at HV
    clear hv
    go_enter Try.func40, Try.ntmps40
    go_wp2_with fail
    refine (HV.out).mono ?_; rintro e w2 ⟨rfl, hb2⟩
    have Hb2 := Lib.hid hb2
    clear hb2
    go_wp2_with fail
    go_ret
    exact ⟨rfl, Hb2.out⟩
  | true =>
    cases hi : inB wk 1 30 with
    | false =>
      rw [pfC_wk hv hi]
      rw [hv] at HV
      rw [hi] at HX
      clear hv hi
      go_enter Try.func40, Try.ntmps40
      go_wp2_with fail
      refine (HV.out).mono ?_; rintro e w2 ⟨rfl, hb2⟩
      have Hb2 := Lib.hid hb2
      clear hb2
      go_wp2_with fail
      refine (HX.out _).mono ?_; rintro e w1 ⟨rfl, rfl⟩
      go_wp2_with fail
      go_ret
      exact ⟨rfl, Hb2.out⟩
    | true =>
      rw [pfC_ok hv hi]
      rw [hv] at HV
      rw [hi] at HX
      clear hv hi
      go_enter Try.func40, Try.ntmps40
      go_wp2_with fail
      refine (HV.out).mono ?_; rintro e w2 ⟨rfl, hb2⟩
      have Hb2 := Lib.hid hb2
      clear hb2
      go_wp2_with fail
      refine (HX.out _).mono ?_; rintro e w1 ⟨rfl, rfl⟩
      go_wp2_with fail
      go_ret
      exact ⟨rfl, Hb2.out⟩
theorem pfC_cases {xs : List Jb} {wk : Int} : (pfC xs wk = 0 ∧ okJ xs = true ∧ 1 ≤ wk ∧ wk ≤ 30) ∨ pfC xs wk = 1 ∨ pfC xs wk = 2 := by
  cases hv : okJ xs with
  | false => exact .inr (.inl (pfC_no hv))
  | true =>
    cases hi : inB wk 1 30 with
    | false => exact .inr (.inr (pfC_wk hv hi))
    | true => exact .inl ⟨pfC_ok hv hi, rfl, inB_iff.1 hi⟩
set_option maxRecDepth 100000 in
set_option maxHeartbeats 3200000 in
theorem PlanForS_any (B : Nat) (v : Value) (xs : List Jb) (wk : Int) (w : World) (h : RdJ w B v xs) (hB : B ≤ w.heap.size) (hn : xs.length ≤ 100000) (hz : szJ xs) :
    Calls Try.prog 8 #[v, .int .i64 wk] w (RetPF xs wk w) := by
  have HV := Lib.hid (l22Workers_any B v xs wk w h hB hn hz)
  have H := Lib.hid h
  have HZ := Lib.hid hz
  obtain ⟨A, c, rfl⟩ := h.slice
  clear h hz
  by_cases hc : pfC xs wk = 0
  · have Hc := Lib.hid hc
    obtain ⟨_, hok, hw1, hw2⟩ : pfC xs wk = 0 ∧ okJ xs = true ∧ 1 ≤ wk ∧ wk ≤ 30 := by
      rcases pfC_cases (xs := xs) (wk := wk) with h1 | h1 | h1
      · exact h1
      · omega
      · omega
    have HK := Lib.hid (okJ_ok hok)
    have HPL := Lib.hid (plan_law HK.out hw1)
    rw [hc] at HV
    clear hc hok
    go_enter Try.func8, Try.ntmps8
    go_wp2_with fail
    refine (HV.out).mono ?_; rintro e w2 ⟨rfl, hb2⟩
    have Hb2 := Lib.hid hb2
    have HC := Lib.hid (l22Plan_any B (.slice A xs.length c) xs wk w2 (H.out.below (hb2.mono hB)) (Nat.le_trans hB hb2.size) HK.out HZ.out hw1 (by omega))
    clear hb2 HV
    go_wp2_with fail
    refine (HC.out).mono ?_; rintro e w3 ⟨v3, rfl, ho3, hb3⟩
    have Hb3 := Lib.hid (Hb2.out.trans (hb3.mono Hb2.out.size))
    have HE := Lib.hid (l22End_any w3.heap.size (.slice A xs.length c) v3 xs (plan xs wk) w3 ((H.out.below (Hb3.out.mono hB)).more (Nat.le_trans hB Hb3.out.size)) (Rd.of_own ho3) HK.out HPL.out.bd)
    have Ho3 := Lib.hid (ownsRow_le ho3 Hb2.out.size)
    obtain ⟨A3, c3, rfl⟩ := own_sl ho3
    clear ho3 hb3 HC
    go_wp2_with fail
    refine (HE.out).mono ?_; rintro e w4 ⟨rfl, q, rfl⟩
    go_wp2_with fail
    go_ret3
    exact RetPF.good Hc.out rfl (World.ownsRow.drewN Ho3.out _) (below_drewN Hb3.out _)
  · obtain ⟨cc, hcc⟩ : ∃ z, pfC xs wk = z := ⟨_, rfl⟩
    have Hc := Lib.hid hcc
    rw [hcc] at HV hc
    have hc1 : cc ≠ 0 := hc
    clear hcc hc
    go_enter Try.func8, Try.ntmps8
    go_wp2_with fail
    refine (HV.out).mono ?_; rintro e w2 ⟨rfl, hb2⟩
    have Hb2 := Lib.hid hb2
    clear hb2
    go_wp2_with fail
    go_ret3
    exact RetPF.bad Hc.out hc1 Hb2.out
end Go.Proofs.Ytalalegjeegocaa
/- Jobs, part 19: codes of plans that are given, both sides; what they cost. -/
namespace Go.Proofs.Ytalalegjeegocaa
open Go.RowKit Go.Joins

def sdB (M : Nat) (S : Nat → Int) : Bool := allN M fun i => inB (S i) 0 400
def stB (xs : List Jb) (M : Nat) (S : Nat → Int) : Bool := sdB M S && decide (M = xs.length)
def pcC (xs : List Jb) (M : Nat) (S : Nat → Int) : Int := if okJ xs = true then (if stB xs M S = true then 0 else 2) else 1
theorem pcC_no {xs : List Jb} {M : Nat} {S : Nat → Int} (h : okJ xs = false) : pcC xs M S = 1 := by unfold pcC; rw [h]; rfl
theorem pcC_st {xs : List Jb} {M : Nat} {S : Nat → Int} (h : okJ xs = true) (h2 : stB xs M S = false) : pcC xs M S = 2 := by unfold pcC; rw [h, h2]; rfl
theorem pcC_ok {xs : List Jb} {M : Nat} {S : Nat → Int} (h : okJ xs = true) (h2 : stB xs M S = true) : pcC xs M S = 0 := by unfold pcC; rw [h, h2]; rfl
theorem stB_len {xs : List Jb} {M : Nat} {S : Nat → Int} (h : M ≠ xs.length) : stB xs M S = false := by unfold stB; rw [decide_eq_false h, Bool.and_false]
theorem stB_bad {xs : List Jb} {M : Nat} {S : Nat → Int} (h : sdB M S = false) : stB xs M S = false := by unfold stB; rw [h, Bool.false_and]
theorem stB_eq {xs : List Jb} {M : Nat} {S : Nat → Int} (h : sdB M S = true) : stB xs M S = decide (M = xs.length) := by unfold stB; rw [h, Bool.true_and]
theorem stB_ok {xs : List Jb} {M : Nat} {S : Nat → Int} (h : stB xs M S = true) : M = xs.length ∧ ∀ i, i < M → 0 ≤ S i ∧ S i ≤ 400 := by
  unfold stB at h
  rw [Bool.and_eq_true, decide_eq_true_iff] at h
  exact ⟨h.2, fun i hi => inB_iff.1 (allN_get h.1 hi)⟩
set_option maxRecDepth 100000 in
set_option maxHeartbeats 1600000 in
theorem l22Starts_any (B M : Nat) (v vs : Value) (xs : List Jb) (S : Nat → Int) (w : World) (h : ∃ A c, v = .slice A xs.length c) (hs : Rd w B vs M 1 (tab M S)) (hn : xs.length ≤ 100000) (hM : M ≤ 100000) :
    Calls Try.prog 46 #[v, vs] w fun e w' => e = .returned (.bool (stB xs M S)) ∧ w = w' := by
  have HR := Lib.hid hs
  obtain ⟨A, c, rfl⟩ := h
  obtain ⟨A2, c2, rfl⟩ := rd_sl hs
  clear hs
  go_enter Try.func46, Try.ntmps46
  go_wp2_with fail
  go_loop [5] (fun x => ∃ (i : Nat), i ≤ M ∧ x = .int .i64 (i : Int) ∧ allN i (fun i => inB (S i) 0 400) = true) (fun x => M - (intOf x).toNat)
  case atStart => exact ⟨0, Nat.zero_le _, rfl, rfl⟩
  case round =>
    obtain ⟨i, hi, rfl, hall⟩ := hrel
    have Hall := Lib.hid hall
    clear hall
    by_cases hil : i < M
    · have hil' : (i : Int) < (M : Int) := by omega
      obtain ⟨b1, o1, hA5, hb5, hcs⟩ := rdF_all HR.out (show 0 < M by omega)
      subst hA5
      have s1 := hcs i hil
      have HX := Lib.hid (fun wx => l00In_any (S i) 0 400 wx)
      cases hb : inB (S i) 0 400 with
      | false =>
        have Hr := Lib.hid (stB_bad (xs := xs) (show sdB M S = false from allN_bad i hil hb))
        rw [hb] at HX
        clear hcs hb
        generalize S i = sp at *
        go_wp2_with fail
        refine (HX.out _).mono ?_; rintro e w1 ⟨rfl, rfl⟩
        go_wp2_with fail
        go_ret
        exact ⟨ret_bool Hr.out.symm, rfl⟩
      | true =>
        have Hst := Lib.hid (allN_step (f := fun i => inB (S i) 0 400) Hall.out hb)
        rw [hb] at HX
        clear hcs hb
        generalize S i = sp at *
        go_wp2_with fail
        refine (HX.out _).mono ?_; rintro e w1 ⟨rfl, rfl⟩
        go_wp2_with fail
        go_round
        case rel => exact ⟨i + 1, by omega, by go_num, Hst.out⟩
        case measure => first | (simp [intOf]; done) | (simp [intOf]; omega)
    · obtain rfl : i = M := by omega
      have hil' : ¬ ((i : Int) < (i : Int)) := by omega
      have Hr := Lib.hid (stB_eq (xs := xs) (S := S) Hall.out)
      by_cases he : i = xs.length
      · have Hr2 := Lib.hid (Hr.out.trans (decide_eq_true he))
        have he' : (i : Int) = (xs.length : Int) := by omega
        have He := Lib.hid he
        clear he
        go_wp2_with fail
        go_ret
        exact ⟨ret_bool (by rw [Hr2.out]), rfl⟩
      · have Hr2 := Lib.hid (Hr.out.trans (decide_eq_false he))
        have he' : ¬ ((i : Int) = (xs.length : Int)) := by omega
        go_wp2_with fail
        go_ret
        exact ⟨ret_bool (by rw [Hr2.out]; simp; omega), rfl⟩
set_option maxRecDepth 100000 in
set_option maxHeartbeats 1600000 in
theorem planCode_any (B M : Nat) (v vs : Value) (xs : List Jb) (S : Nat → Int) (w : World) (h : RdJ w B v xs) (hB : B ≤ w.heap.size) (hs : Rd w B vs M 1 (tab M S)) (hn : xs.length ≤ 100000) (hM : M ≤ 100000) (hz : szJ xs) :
    Calls Try.prog 44 #[v, vs] w (RetN1 (pcC xs M S) w) := by
  have HV := Lib.hid (ValidJI_any B v xs w h hB hn hz)
  have HR := Lib.hid hs
  obtain ⟨A, c, rfl⟩ := h.slice
  obtain ⟨A2, c2, rfl⟩ := rd_sl hs
  clear h hz hs
  cases hv : okJ xs with
  | false =>
    rw [pcC_no hv]
    rw [hv] at HV
    clear hv
    go_enter Try.func44, Try.ntmps44
    go_wp2_with fail
    refine (HV.out).mono ?_; rintro e w2 ⟨rfl, hb2⟩
    have Hb2 := Lib.hid hb2
    clear hb2
    go_wp2_with fail
    go_ret
    exact ⟨rfl, Hb2.out⟩
  | true =>
    by_cases he : M = xs.length
    · have Hv := Lib.hid hv
      subst he
      rw [hv] at HV
      clear hv
      go_enter Try.func44, Try.ntmps44
      go_wp2_with fail
      refine (HV.out).mono ?_; rintro e w2 ⟨rfl, hb2⟩
      have Hb2 := Lib.hid hb2
      have HR2 := Lib.hid (RdF_below HR.out (hb2.mono hB))
      clear hb2 HR
      go_wp2_with fail
      go_loop [17] (fun x => ∃ (i : Nat), i ≤ xs.length ∧ x = .int .i64 (i : Int) ∧ allN i (fun i => inB (S i) 0 400) = true) (fun x => xs.length - (intOf x).toNat)
      case atStart => exact ⟨0, Nat.zero_le _, rfl, rfl⟩
      case round =>
        obtain ⟨i, hi, rfl, hall⟩ := hrel
        have Hall := Lib.hid hall
        clear hall
        by_cases hil : i < xs.length
        · have hil' : (i : Int) < (xs.length : Int) := by omega
          obtain ⟨b1, o1, hA5, hb5, hcs⟩ := rdF_all HR2.out (show 0 < xs.length by omega)
          subst hA5
          have s1 := hcs i hil
          have HX := Lib.hid (fun wx => between_any (S i) 0 400 wx)
          cases hb : inB (S i) 0 400 with
          | false =>
            have Hr := Lib.hid (pcC_st Hv.out (stB_bad (xs := xs) (show sdB xs.length S = false from allN_bad i hil hb)))
            rw [hb] at HX
            clear hcs hb
            generalize S i = sp at *
            go_wp2_with fail
            refine (HX.out _).mono ?_; rintro e w1 ⟨rfl, rfl⟩
            go_wp2_with fail
            go_ret
            exact ⟨by rw [Hr.out]; rfl, Hb2.out⟩
          | true =>
            have Hst := Lib.hid (allN_step (f := fun i => inB (S i) 0 400) Hall.out hb)
            rw [hb] at HX
            clear hcs hb
            generalize S i = sp at *
            go_wp2_with fail
            refine (HX.out _).mono ?_; rintro e w1 ⟨rfl, rfl⟩
            go_wp2_with fail
            go_round
            case rel => exact ⟨i + 1, by omega, by go_num, Hst.out⟩
            case measure => first | (simp [intOf]; done) | (simp [intOf]; omega)
        · obtain rfl : i = xs.length := by omega
          have hil' : ¬ ((xs.length : Int) < (xs.length : Int)) := by omega
          have Hr := Lib.hid (pcC_ok Hv.out ((stB_eq (xs := xs) (S := S) Hall.out).trans (decide_eq_true rfl)))
          go_wp2_with fail
          go_ret
          exact ⟨by rw [Hr.out]; rfl, Hb2.out⟩
    · rw [pcC_st hv (stB_len he)]
      have he' : ¬ ((M : Int) = (xs.length : Int)) := by omega
      rw [hv] at HV
      have hed : decide ((M : Int) = (xs.length : Int)) = false := decide_eq_false he'
      clear hv
      go_enter Try.func44, Try.ntmps44
      go_wp2_with fail
      refine (HV.out).mono ?_; rintro e w2 ⟨rfl, hb2⟩
      have Hb2 := Lib.hid hb2
      clear hb2
      go_wp2_with fail
      go_ret
      exact ⟨rfl, Hb2.out⟩
def csS (xs : List Jb) (S : Nat → Int) (day : Int) : Nat → Int
  | 0 => 0
  | k + 1 => if S k < day then csS xs S day k + (jg xs k).cost else csS xs S day k
theorem csS_bd {xs : List Jb} (h : OkJ xs) (S : Nat → Int) (day : Int) : ∀ k : Nat, k ≤ xs.length → 0 ≤ csS xs S day k ∧ csS xs S day k ≤ 1000000 * (k : Int)
  | 0, _ => by show (0 : Int) ≤ 0 ∧ (0 : Int) ≤ 1000000 * ((0 : Nat) : Int); omega
  | k + 1, hk => by
    have h1 := csS_bd h S day k (by omega)
    have h2 := h.cost k (by omega)
    by_cases c : S k < day
    · rw [show csS xs S day (k + 1) = csS xs S day k + (jg xs k).cost from if_pos c]; omega
    · rw [show csS xs S day (k + 1) = csS xs S day k from if_neg c]; omega
def cbV (xs : List Jb) (M : Nat) (S : Nat → Int) (day : Int) : Int := if pcC xs M S = 0 then csS xs S day xs.length else 0
theorem cbV_no {xs : List Jb} {M : Nat} {S : Nat → Int} {day c : Int} (h : pcC xs M S = c) (hc : c ≠ 0) : cbV xs M S day = 0 := by unfold cbV; rw [h, if_neg hc]
theorem cbV_ok {xs : List Jb} {M : Nat} {S : Nat → Int} {day : Int} (h : pcC xs M S = 0) : cbV xs M S day = csS xs S day xs.length := by unfold cbV; rw [if_pos h]
theorem pcC_zero {xs : List Jb} {M : Nat} {S : Nat → Int} (h : pcC xs M S = 0) : okJ xs = true ∧ M = xs.length ∧ ∀ i, i < M → 0 ≤ S i ∧ S i ≤ 400 := by
  cases hv : okJ xs with
  | false => rw [pcC_no hv] at h; omega
  | true =>
    cases hs : stB xs M S with
    | false => rw [pcC_st hv hs] at h; omega
    | true => exact ⟨rfl, stB_ok hs⟩
/-- two numbers -/
def Ret2n (x y : Int) (w : World) (e : Ending) (w' : World) : Prop := e = .returned (.tuple #[.int .i64 x, .int .i64 y]) ∧ Below w.heap.size w w'
set_option maxRecDepth 100000 in
set_option maxHeartbeats 1600000 in
theorem CostI_any (B M : Nat) (v vs : Value) (xs : List Jb) (S : Nat → Int) (day : Int) (w : World) (h : RdJ w B v xs) (hB : B ≤ w.heap.size) (hs : Rd w B vs M 1 (tab M S)) (hn : xs.length ≤ 100000) (hM : M ≤ 100000) (hz : szJ xs) :
    Calls Try.prog 13 #[v, vs, .int .i64 day] w (Ret2n (cbV xs M S day) (pcC xs M S) w) := by
  have HV := Lib.hid (planCode_any B M v vs xs S w h hB hs hn hM hz)
  have H := Lib.hid h
  have HR := Lib.hid hs
  obtain ⟨A, c, rfl⟩ := h.slice
  obtain ⟨A2, c2, rfl⟩ := rd_sl hs
  clear h hz hs
  by_cases hc : pcC xs M S = 0
  · obtain ⟨hok, hMl, hSb⟩ := pcC_zero hc
    have HK := Lib.hid (okJ_ok hok)
    have hl30 := HK.out.len
    have HMl := Lib.hid hMl
    rw [cbV_ok hc, hc]
    rw [hc] at HV
    clear hc hok hMl hSb
    go_enter Try.func13, Try.ntmps13
    go_wp2_with fail
    refine (HV.out).mono ?_; rintro e w2 ⟨rfl, hb2⟩
    have Hb2 := Lib.hid hb2
    clear hb2
    go_wp2_with fail
    go_loopw [9, 20] (fun r x wr => ∃ (i : Nat), i ≤ xs.length ∧ x = .int .i64 (i : Int) ∧ r = .int .i64 (csS xs S day i) ∧ Below w.heap.size w wr) (fun _ x _ => xs.length - (intOf x).toNat)
    case atStart => exact ⟨0, Nat.zero_le _, rfl, rfl, Hb2.out⟩
    case round =>
      obtain ⟨i, hi, rfl, rfl, hbl⟩ := hrel
      clear Hb2
      have Hbl := Lib.hid hbl
      have hsz := hbl.size
      clear hbl
      by_cases hil : i < xs.length
      · have hil' : (i : Int) < (xs.length : Int) := by omega
        obtain ⟨gb, ob, A4, c4, hA4, hat⟩ := (H.out.below (Hbl.out.mono hB)).at i hil
        subst hA4
        have hcb := HK.out.cost i hil
        have hcs := csS_bd HK.out S day i hi
        have HY := Lib.hid (show ∀ h : S i < day, csS xs S day (i + 1) = csS xs S day i + (jg xs i).cost from fun h => if_pos h)
        have HNo := Lib.hid (show ∀ h : ¬ S i < day, csS xs S day (i + 1) = csS xs S day i from fun h => if_neg h)
        obtain ⟨_, p0, p1, p2, p3, _⟩ := hat
        have hws : IntKind.i64.wrap (csS xs S day i + (jg xs i).cost) = csS xs S day i + (jg xs i).cost := IntWalk.i64_in _ (by omega)
        generalize (jg xs i).nm = nm at *
        generalize (jg xs i).cost = cc at *
        generalize (jg xs i).needs.length = nl at *
        generalize (jg xs i).days = dp at *
        have hba := (Below.refl wr.heap.size wr).alloc (Nat.le_refl _) (.cells #[.string nm, .int .i64 dp, .int .i64 cc, .slice A4 nl c4] 37)
        have Hba := Lib.hid (Hbl.out.trans (hba.mono hsz))
        have HCa := Lib.hid (heap_alloc_new wr (.cells #[.string nm, .int .i64 dp, .int .i64 cc, .slice A4 nl c4] 37))
        clear hba
        go_upto_region 8 with (fail)
        generalize wr.alloc (.cells #[.string nm, .int .i64 dp, .int .i64 cc, .slice A4 nl c4] 37) = wa at *
        generalize wr.heap.size = ga at *
        clear p0 p1 p2 p3
        obtain ⟨y0, y1, y2, y3⟩ := cells4 HCa.out
        obtain ⟨b1, o1, hA5, hb5, hcs5⟩ := rdF_all (RdF_below HR.out (Hba.out.mono hB)) (show 0 < M by have := HMl.out; omega)
        subst hA5
        have s1 := hcs5 i (by have := HMl.out; omega)
        have hiM : (i : Int) < (M : Int) := by have := HMl.out; omega
        clear hcs5
        by_cases c1 : S i < day
        · have Hst := Lib.hid (HY.out c1)
          clear HY HNo
          generalize S i = sp at *
          go_wp2_with fail
          go_roundw
          case rel => exact ⟨i + 1, by omega, by go_num, by rw [Hst.out], Hba.out⟩
          case measure => first | (simp [intOf]; done) | (simp [intOf]; omega)
        · have Hst := Lib.hid (HNo.out c1)
          clear HY HNo
          generalize S i = sp at *
          go_wp2_with fail
          go_roundw
          case rel => exact ⟨i + 1, by omega, by go_num, by rw [Hst.out], Hba.out⟩
          case measure => first | (simp [intOf]; done) | (simp [intOf]; omega)
      · obtain rfl : i = xs.length := by omega
        have hil' : ¬ ((xs.length : Int) < (xs.length : Int)) := by omega
        go_wp2_with fail
        go_ret2
        exact ⟨rfl, Hbl.out⟩
  · obtain ⟨cc, hcc⟩ : ∃ z, pcC xs M S = z := ⟨_, rfl⟩
    rw [hcc] at hc HV
    rw [cbV_no hcc hc, hcc]
    have hc1 : cc ≠ 0 := hc
    clear hcc hc
    go_enter Try.func13, Try.ntmps13
    go_wp2_with fail
    refine (HV.out).mono ?_; rintro e w2 ⟨rfl, hb2⟩
    have Hb2 := Lib.hid hb2
    clear hb2
    go_wp2_with fail
    go_ret2
    exact ⟨rfl, Hb2.out⟩
end Go.Proofs.Ytalalegjeegocaa
/- Jobs, part 20: CostBy of the reference; PlanFault, both sides. -/
namespace Go.Proofs.Ytalalegjeegocaa
open Go.RowKit Go.Joins

set_option maxRecDepth 100000 in
set_option maxHeartbeats 1600000 in
theorem CostS_any (B M : Nat) (v vs : Value) (xs : List Jb) (S : Nat → Int) (day : Int) (w : World) (h : RdJ w B v xs) (hB : B ≤ w.heap.size) (hs : Rd w B vs M 1 (tab M S)) (hn : xs.length ≤ 100000) (hM : M ≤ 100000) (hz : szJ xs) :
    Calls Try.prog 14 #[v, vs, .int .i64 day] w (Ret2n (cbV xs M S day) (pcC xs M S) w) := by
  have HV := Lib.hid (OkJS_any B v xs w h hB hn hz)
  have HT := Lib.hid (fun wx (hb : Below w.heap.size w wx) => l22Starts_any B M v vs xs S wx h.slice (RdF_below hs (hb.mono hB)) hn hM)
  have H := Lib.hid h
  have HR := Lib.hid hs
  obtain ⟨A, c, rfl⟩ := h.slice
  obtain ⟨A2, c2, rfl⟩ := rd_sl hs
  clear h hz hs
  cases hv : okJ xs with
  | false =>
    have hc := pcC_no (M := M) (S := S) hv
    rw [cbV_no hc (by decide), hc]
    rw [hv] at HV
    clear hv hc
    go_enter Try.func14, Try.ntmps14
    go_wp2_with fail
    refine (HV.out).mono ?_; rintro e w2 ⟨rfl, hb2⟩
    have Hb2 := Lib.hid hb2
    clear hb2
    go_wp2_with fail
    go_ret2
    exact ⟨rfl, Hb2.out⟩
  | true =>
    cases ht : stB xs M S with
    | false =>
      have hc := pcC_st hv ht
      rw [cbV_no hc (by decide), hc]
      rw [hv] at HV
      rw [ht] at HT
      clear hv ht hc
      go_enter Try.func14, Try.ntmps14
      go_wp2_with fail
      refine (HV.out).mono ?_; rintro e w2 ⟨rfl, hb2⟩
      have Hb2 := Lib.hid hb2
      clear hb2
      go_wp2_with fail
      refine (HT.out _ Hb2.out).mono ?_; rintro e w1 ⟨rfl, rfl⟩
      go_wp2_with fail
      go_ret2
      exact ⟨rfl, Hb2.out⟩
    | true =>
      obtain ⟨hMl, hSb⟩ := stB_ok ht
      have hc := pcC_ok hv ht
      have HK := Lib.hid (okJ_ok hv)
      have hl30 := HK.out.len
      have HMl := Lib.hid hMl
      rw [cbV_ok hc, hc]
      rw [hv] at HV
      rw [ht] at HT
      clear hc hv ht hMl hSb
      go_enter Try.func14, Try.ntmps14
      go_wp2_with fail
      refine (HV.out).mono ?_; rintro e w2 ⟨rfl, hb2⟩
      have Hb2 := Lib.hid hb2
      clear hb2
      go_wp2_with fail
      refine (HT.out _ Hb2.out).mono ?_; rintro e w1 ⟨rfl, rfl⟩
      go_wp2_with fail
      go_loop [8, 9] (fun r x => ∃ (i : Nat), i ≤ xs.length ∧ x = .int .i64 (i : Int) ∧ r = .int .i64 (csS xs S day i)) (fun _ x => xs.length - (intOf x).toNat)
      case atStart => exact ⟨0, Nat.zero_le _, rfl, rfl⟩
      case round =>
        obtain ⟨i, hi, rfl, rfl⟩ := hrel
        by_cases hil : i < xs.length
        · have hil' : (i : Int) < (xs.length : Int) := by omega
          obtain ⟨gb, ob, A4, c4, hA4, hat⟩ := (H.out.below (Hb2.out.mono hB)).at i hil
          subst hA4
          have hcb := HK.out.cost i hil
          have hcs := csS_bd HK.out S day i hi
          have HY := Lib.hid (show ∀ h : S i < day, csS xs S day (i + 1) = csS xs S day i + (jg xs i).cost from fun h => if_pos h)
          have HNo := Lib.hid (show ∀ h : ¬ S i < day, csS xs S day (i + 1) = csS xs S day i from fun h => if_neg h)
          have y2 := hat.c2
          have hws : IntKind.i64.wrap (csS xs S day i + (jg xs i).cost) = csS xs S day i + (jg xs i).cost := IntWalk.i64_in _ (by omega)
          obtain ⟨b1, o1, hA5, hb5, hcs5⟩ := rdF_all (RdF_below HR.out (Hb2.out.mono hB)) (show 0 < M by have := HMl.out; omega)
          subst hA5
          have s1 := hcs5 i (by have := HMl.out; omega)
          have hiM : (i : Int) < (M : Int) := by have := HMl.out; omega
          clear hcs5 hat
          generalize (jg xs i).cost = cc at *
          by_cases c1 : S i < day
          · have Hst := Lib.hid (HY.out c1)
            clear HY HNo
            generalize S i = sp at *
            go_wp2_with fail
            go_round
            case rel => exact ⟨i + 1, by omega, by go_num, by rw [Hst.out]⟩
            case measure => first | (simp [intOf]; done) | (simp [intOf]; omega)
          · have Hst := Lib.hid (HNo.out c1)
            clear HY HNo
            generalize S i = sp at *
            go_wp2_with fail
            go_round
            case rel => exact ⟨i + 1, by omega, by go_num, by rw [Hst.out]⟩
            case measure => first | (simp [intOf]; done) | (simp [intOf]; omega)
        · obtain rfl : i = xs.length := by omega
          have hil' : ¬ ((xs.length : Int) < (xs.length : Int)) := by omega
          go_wp2_with fail
          go_ret2
          exact ⟨rfl, Hb2.out⟩
/-! the first fault -/
def fltB (xs : List Jb) (S : Nat → Int) (wk : Int) (k : Nat) : Bool := rdyB xs S k (S k) && decide ((bsy xs S (S k) xs.length : Int) ≤ wk)
def fltF (xs : List Jb) (S : Nat → Int) (wk : Int) : Nat → Nat → Int
  | 0, _ => -1
  | f + 1, k => if fltB xs S wk k = true then fltF xs S wk f (k + 1) else (k : Int)
def pltC (xs : List Jb) (M : Nat) (S : Nat → Int) (wk : Int) : Int := if okJ xs = true then (if (stB xs M S && inB wk 1 30) = true then 0 else 2) else 1
def pltV (xs : List Jb) (M : Nat) (S : Nat → Int) (wk : Int) : Int := if pltC xs M S wk = 0 then fltF xs S wk xs.length 0 else 0
theorem fltF_yes {xs : List Jb} {S : Nat → Int} {wk : Int} {f k : Nat} (h : fltB xs S wk k = true) : fltF xs S wk (f + 1) k = fltF xs S wk f (k + 1) := if_pos h
theorem fltF_no {xs : List Jb} {S : Nat → Int} {wk : Int} {f k : Nat} (h : fltB xs S wk k = false) : fltF xs S wk (f + 1) k = (k : Int) := if_neg (by rw [h]; decide)
theorem fltB_no1 {xs : List Jb} {S : Nat → Int} {wk : Int} {k : Nat} (h : rdyB xs S k (S k) = false) : fltB xs S wk k = false := by unfold fltB; rw [h]; rfl
theorem fltB_no2 {xs : List Jb} {S : Nat → Int} {wk : Int} {k : Nat} (h : wk < (bsy xs S (S k) xs.length : Int)) : fltB xs S wk k = false := by unfold fltB; rw [decide_eq_false (by omega), Bool.and_false]
theorem fltB_yes {xs : List Jb} {S : Nat → Int} {wk : Int} {k : Nat} (h1 : rdyB xs S k (S k) = true) (h : ¬ wk < (bsy xs S (S k) xs.length : Int)) : fltB xs S wk k = true := by unfold fltB; rw [h1, decide_eq_true (by omega)]; rfl
theorem fltF_all {xs : List Jb} {S : Nat → Int} {wk : Int} (h : ∀ k, k < xs.length → fltB xs S wk k = true) : ∀ f k, f + k ≤ xs.length → fltF xs S wk f k = -1
  | 0, _, _ => rfl
  | f + 1, k, hk => by
    rw [fltF_yes (h k (by omega))]
    exact fltF_all h f (k + 1) (by omega)
theorem pltC_cases (xs : List Jb) (M : Nat) (S : Nat → Int) (wk : Int) : (okJ xs = false ∧ pltC xs M S wk = 1) ∨ (okJ xs = true ∧ stB xs M S = false ∧ pltC xs M S wk = 2) ∨ (okJ xs = true ∧ stB xs M S = true ∧ inB wk 1 30 = false ∧ pltC xs M S wk = 2) ∨ (okJ xs = true ∧ stB xs M S = true ∧ inB wk 1 30 = true ∧ pltC xs M S wk = 0) := by
  unfold pltC
  cases okJ xs <;> cases stB xs M S <;> cases inB wk 1 30 <;> simp
theorem pltV_no {xs : List Jb} {M : Nat} {S : Nat → Int} {wk c : Int} (h : pltC xs M S wk = c) (hc : c ≠ 0) : pltV xs M S wk = 0 := by unfold pltV; rw [h, if_neg hc]
theorem pltV_ok {xs : List Jb} {M : Nat} {S : Nat → Int} {wk : Int} (h : pltC xs M S wk = 0) : pltV xs M S wk = fltF xs S wk xs.length 0 := by unfold pltV; rw [if_pos h]
end Go.Proofs.Ytalalegjeegocaa
/- A region that draws its order, step by step: an operation that is taken first, its slot given by number. No program is named here. -/
namespace Go.Proofs.Ytalalegjeegocaa
open Go.RowKit

section
variable {P : Program} {ops : Array Oper} {Q : Exit → Act → World → Prop} {md : Region.Mode} {S : World → Prop}
theorem take_d {i : Nat} {oi : Oper} {d : Option Nat} {v : Value} {fuel : Nat} {listed : Array Bool} {a : Act} {w : World} (hi : ops[i]? = some oi) (hd : oi.dst = d)
    (hs : Region.noSelect ops = true) (hf : Region.free md ops listed i = true) (hr : (Region.ready md ops listed).contains i = true)
    (hQ : ∀ c a w, Q (.panic c) (a.put d v) w → Q (.panic c) a w) (hy : YieldsIf P ops S oi v a) (hS : S w)
    (h : wpAnyH P md ops Q S fuel (listed.setIfInBounds i true) (a.put d v) w) : wpAnyH P md ops Q S (fuel + 1) listed a w := by
  subst hd
  exact wpAnyH_take hi hs hf hr hQ hy hS h
theorem call_d {i : Nat} {o : Oper} {d : Option Nat} {fuel : Nat} {listed : Array Bool} {a : Act} {w : World} (ho : ops[i]? = some o) (hd : o.dst = d) (hr : Region.ready md ops listed = [i])
    (h : ∀ K' : Act → World → Prop, Shut (∀ a w, S w → (S w → wpAnyH P md ops Q S fuel (listed.setIfInBounds i true) a w) → K' a w) → if Region.wanted o (yielded ops a.tmps) = true then Oper.wp P o a w K' Q else K' (a.put d undef) w) :
    wpAnyH P md ops Q S (fuel + 1) listed a w := by
  subst hd
  exact wpAnyH_ready hr (by simp) (AllReadyH.cons ho h AllReadyH.nil)
end
end Go.Proofs.Ytalalegjeegocaa
/- A region that draws its order and whose last operations write where the region has loaded: the loads are taken first; S is not asked behind those last operations (Ls). No program is named here. -/
namespace Go.Proofs.Ytalalegjeegocaa
open Go.RowKit

section
variable {P : Program} {ops : Array Oper} {Q : Exit → Act → World → Prop} {md : Region.Mode} {S : World → Prop} {L : Nat} {Ls : List Nat}

/-- every operation that has come up has those ahead of it come up -/
def ClosedL (md : Region.Mode) (ops : Array Oper) (listed : Array Bool) : Prop :=
  ∀ (k : Nat) (o : Oper), ops[k]? = some o → listed.getD k true = true → ∀ e ∈ o.after, Region.binds md e = true → listed.getD e.on false = true
def closedB (md : Region.Mode) (ops : Array Oper) (listed : Array Bool) : Bool :=
  (List.range ops.size).all fun k => !listed.getD k true || ((ops[k]?).map (·.after.all fun e => !Region.binds md e || listed.getD e.on false)).getD true
theorem closedB_spec {listed : Array Bool} (h : closedB md ops listed = true) : ClosedL md ops listed := by
  intro k o ho hk e he hb
  unfold closedB at h
  rw [List.all_eq_true] at h
  have h1 := h k (List.mem_range.2 (Array.getElem?_eq_some_iff.1 ho).1)
  rw [ho, hk] at h1
  simp only [Bool.not_true, Bool.false_or, Option.map_some, Option.getD_some] at h1
  have h2 := Array.all_eq_true_iff_forall_mem.1 h1 e he
  rw [hb] at h2
  simpa using h2
theorem ClosedL.set {listed : Array Bool} {j : Nat} (h : ClosedL md ops listed) (hj : j ∈ Region.ready md ops listed) : ClosedL md ops (listed.setIfInBounds j true) := by
  intro k o ho hk e he hb
  by_cases hkj : j = k
  · subst hkj
    obtain ⟨_, o', ho', hall⟩ := mem_ready.1 hj
    rw [ho] at ho'
    cases ho'
    exact getD_set_true (hall e he hb)
  · rw [getD_set_ne true hkj] at hk
    exact getD_set_true (h k o ho hk e he hb)
/-- a chain of operations, each of which waits for the next -/
def waitsB (md : Region.Mode) (ops : Array Oper) : List Nat → Bool
  | x :: y :: rest => (((ops[x]?).map (·.after.any fun e => Region.binds md e && e.on == y)).getD false) && waitsB md ops (y :: rest)
  | _ => true
theorem waits_cons {x y : Nat} {rest : List Nat} (h : waitsB md ops (x :: y :: rest) = true) : (∃ o, ops[x]? = some o ∧ ∃ e ∈ o.after, Region.binds md e = true ∧ e.on = y) ∧ waitsB md ops (y :: rest) = true := by
  unfold waitsB at h
  rw [Bool.and_eq_true] at h
  refine ⟨?_, h.2⟩
  cases ho : ops[x]? with
  | none => rw [ho] at h; simp at h
  | some o =>
    rw [ho] at h
    simp only [Option.map_some, Option.getD_some] at h
    obtain ⟨e, he, hb⟩ := Array.any_eq_true'.1 h.1
    simp only [Bool.and_eq_true, beq_iff_eq] at hb
    exact ⟨o, rfl, e, he, hb.1, hb.2⟩
theorem getD_ft {l : Array Bool} {i : Nat} (h : l.getD i false = true) : l.getD i true = true := by
  rcases Nat.lt_or_ge i l.size with h' | h'
  · simp [h'] at h ⊢; exact h
  · simp [Array.getElem?_eq_none h'] at h
theorem listed_last {listed : Array Bool} (hc : ClosedL md ops listed) : ∀ (rest : List Nat) (y : Nat), listed.getD y false = true → waitsB md ops (y :: rest) = true → listed.getD ((y :: rest).getLast (by simp)) false = true
  | [], _, h, _ => h
  | z :: rest, y, h, hw => by
    obtain ⟨⟨o, ho, e, he, hb, hon⟩, hw2⟩ := waits_cons hw
    have h2 := hc y o ho (getD_ft h) e he hb
    rw [hon] at h2
    have h3 := listed_last hc rest z h2 hw2
    rw [List.getLast_cons (by simp)]
    exact h3
def lateB (md : Region.Mode) (ops : Array Oper) (L : Nat) (p : List Nat) (i : Nat) : Bool := !p.isEmpty && waitsB md ops (L :: p) && p.getLast? == some i
theorem late_not {listed : Array Bool} {p : List Nat} {i : Nat} (hc : ClosedL md ops listed) (h : lateB md ops L p i = true) (hi : listed.getD i true = false) : L ∉ Region.ready md ops listed := by
  intro hL
  unfold lateB at h
  simp only [Bool.and_eq_true, beq_iff_eq] at h
  obtain ⟨⟨h0, h1⟩, h2⟩ := h
  cases p with
  | nil => simp at h0
  | cons y rest =>
    obtain ⟨⟨o, ho, e, he, hb, hon⟩, hw⟩ := waits_cons h1
    obtain ⟨_, o', ho', hall⟩ := mem_ready.1 hL
    rw [ho] at ho'
    cases ho'
    have hy := hall e he hb
    rw [hon] at hy
    have hl := listed_last hc rest y hy hw
    rw [List.getLast?_eq_some_getLast (by simp)] at h2
    injection h2 with h2
    rw [h2] at hl
    rw [getD_ft hl] at hi
    cases hi

/-- what comes behind L in a list -/
def behind (L : Nat) : List Nat → List Nat
  | [] => []
  | x :: l => if x == L then l else behind L l
/-- every one of Ls waits for i, by the chain Ls ++ p -/
def lateAll (md : Region.Mode) (ops : Array Oper) (Ls p : List Nat) (i : Nat) : Bool := Ls.all fun L => lateB md ops L (behind L (Ls ++ p)) i
theorem lateAll_spec {p : List Nat} {i : Nat} (h : lateAll md ops Ls p i = true) (hL : L ∈ Ls) : lateB md ops L (behind L (Ls ++ p)) i = true := List.all_eq_true.1 h L hL
/-- none of the last ones has come up -/
def noneL (Ls : List Nat) (listed : Array Bool) : Bool := Ls.all fun L => !listed.getD L false
theorem noneL_set {listed : Array Bool} {j : Nat} (hj : j ∉ Ls) (h : noneL Ls listed = true) : noneL Ls (listed.setIfInBounds j true) = true := by
  unfold noneL at *
  rw [List.all_eq_true] at *
  intro L hL
  rw [getD_set_ne false (show j ≠ L from fun e => hj (e ▸ hL))]
  exact h L hL
theorem noneL_of {listed : Array Bool} {j : Nat} (h : noneL Ls (listed.setIfInBounds j true) = true) : noneL Ls listed = true := by
  unfold noneL at *
  rw [List.all_eq_true] at *
  intro L hL
  have h1 := h L hL
  cases hb : listed.getD L false with
  | false => rfl
  | true => rw [getD_set_true hb] at h1; exact h1
/-- whatever order is picked, and S holds as long as none of the last ones has come up -/
def wpAnyL (P : Program) (md : Region.Mode) (ops : Array Oper) (Q : Exit → Act → World → Prop) (S : World → Prop) (Ls : List Nat) : Nat → Array Bool → Act → World → Prop
  | 0, listed, a, w => Region.ready md ops listed = [] ∧ Q .normal a w
  | fuel + 1, listed, a, w =>
    (Region.ready md ops listed = [] → Q .normal a w) ∧
    ∀ i ∈ Region.ready md ops listed, wpOp P ops Q i (fun a' w' => (noneL Ls (listed.setIfInBounds i true) = true → S w') ∧ wpAnyL P md ops Q S Ls fuel (listed.setIfInBounds i true) a' w') a w
theorem wpAny_of_L : ∀ (fuel : Nat) (listed : Array Bool) (a : Act) (w : World), wpAnyL P md ops Q S Ls fuel listed a w → wpAny P md ops Q fuel listed a w
  | 0, _, _, _, h => h
  | fuel + 1, _, _, _, h => ⟨h.1, fun i hi => wpOp_mono (fun a' w' h' => wpAny_of_L fuel _ a' w' h'.2) (h.2 i hi)⟩

theorem wpAnyL_first {S0 : World → Prop} {i : Nat} {oi : Oper} {v : Value} (hi : ops[i]? = some oi) (hsel : ∀ (j : Nat) (o : Oper) cs b, ops[j]? = some o → o.op ≠ .select cs b)
    (hQ : ∀ c a w, Q (.panic c) (a.put oi.dst v) w → Q (.panic c) a w) (hiL : i ∉ Ls) (p : List Nat) (hor : (lateAll md ops Ls p i = true ∧ ∀ w, S w → S0 w) ∨ ∀ w, S0 w) :
    ∀ (fuel : Nat) (listed : Array Bool) (a : Act) (w : World), ClosedL md ops listed → (noneL Ls listed = true → S w) → ((∀ w, S0 w) ∨ noneL Ls listed = true) →
      (∀ j oj, ops[j]? = some oj → j ≠ i → listed.getD j true = false → (∀ e ∈ oj.after, Region.binds md e = true → e.on ≠ i) → oi.apart ops oj = true) →
      i ∈ Region.ready md ops listed → YieldsIf P ops S0 oi v a →
      wpAnyL P md ops Q S Ls fuel (listed.setIfInBounds i true) (a.put oi.dst v) w → wpAnyL P md ops Q S Ls (fuel + 1) listed a w := by
  have hS0 : ∀ (listed : Array Bool) (w : World), (noneL Ls listed = true → S w) → ((∀ w, S0 w) ∨ noneL Ls listed = true) → S0 w := fun listed w hS hn => by
    rcases hn with h | h
    · exact h w
    · rcases hor with h' | h'
      · exact h'.2 w (hS h)
      · exact h' w
  intro fuel
  induction fuel with
  | zero =>
    intro listed a w _ hS hn _ hr hy H
    refine ⟨fun h => (by rw [h] at hr; cases hr), fun j hj => ?_⟩
    by_cases hji : j = i
    · subst hji
      exact hy.wpOp hi (hS0 listed w hS hn) ⟨fun h => hS (noneL_of h), H⟩
    · have hm := ready_mono hj hji
      rw [H.1] at hm
      cases hm
  | succ fuel ih =>
    intro listed a w hc hS hn hfree hr hy H
    refine ⟨fun h => (by rw [h] at hr; cases hr), fun j hj => ?_⟩
    by_cases hji : j = i
    · subst hji
      exact hy.wpOp hi (hS0 listed w hS hn) ⟨fun h => hS (noneL_of h), H⟩
    · have hu := (mem_ready.1 hr).1
      have h1 := H.2 j (ready_mono hj hji)
      have hn' : (∀ w, S0 w) ∨ noneL Ls (listed.setIfInBounds j true) = true := by
        rcases hn with h | h
        · exact .inl h
        · rcases hor with h' | h'
          · exact .inr (noneL_set (fun e => late_not hc (lateAll_spec h'.1 e) hu hj) h)
          · exact .inl h'
      obtain ⟨hjun, oj, hoj, hall⟩ := mem_ready.1 hj
      have hnot : ∀ e ∈ oj.after, Region.binds md e = true → e.on ≠ i := fun e he hb heq => by
        have h2 := hall e he hb
        rw [heq] at h2
        rw [getD_ft h2] at hu
        cases hu
      have h2 := wpOp_putIf hoj (hfree j oj hoj hji hjun hnot) (fun cs b => hsel i oi cs b hi) (fun cs b => hsel j oj cs b hoj) hQ hy h1
      have hfree' : ∀ k ok, ops[k]? = some ok → k ≠ i → (listed.setIfInBounds j true).getD k true = false →
          (∀ e ∈ ok.after, Region.binds md e = true → e.on ≠ i) → oi.apart ops ok = true := fun k ok hk hki hun hno => by
        by_cases hjk : j = k
        · subst hjk
          exact hfree j ok hk hki hjun hno
        · rw [getD_set_ne true hjk] at hun
          exact hfree k ok hk hki hun hno
      refine wpOp_mono (fun a' w' h3 => ?_) h2
      have hS' : noneL Ls (listed.setIfInBounds j true) = true → S w' := fun h => h3.2.1 (by
        rw [Array.setIfInBounds_comm _ _ (Ne.symm hji)]
        exact noneL_set hiL h)
      refine ⟨hS', ih (listed.setIfInBounds j true) a' w' (hc.set hj) hS' hn' hfree' (ready_mono hr (Ne.symm hji)) h3.1 ?_⟩
      rw [Array.setIfInBounds_comm _ _ hji]
      exact h3.2.2

/-- a load: taken first, under S -/
theorem take_L {i : Nat} {oi : Oper} {d : Option Nat} {v : Value} {fuel : Nat} {listed : Array Bool} {a : Act} {w : World} (p : List Nat) (hL : lateAll md ops Ls p i = true) (hc : closedB md ops listed = true) (hn : noneL Ls listed = true) (hiL : Ls.contains i = false) (hi : ops[i]? = some oi) (hd : oi.dst = d)
    (hs : Region.noSelect ops = true) (hf : Region.free md ops listed i = true) (hr : (Region.ready md ops listed).contains i = true)
    (hQ : ∀ c a w, Q (.panic c) (a.put d v) w → Q (.panic c) a w) (hy : YieldsIf P ops S oi v a) (hS : S w)
    (h : wpAnyL P md ops Q S Ls fuel (listed.setIfInBounds i true) (a.put d v) w) : wpAnyL P md ops Q S Ls (fuel + 1) listed a w := by
  subst hd
  exact wpAnyL_first hi (Region.noSelect_spec hs) hQ (fun e => by simp [e] at hiL) p (.inl ⟨hL, fun _ h => h⟩) fuel listed a w (closedB_spec hc) (fun _ => hS) (.inr hn) (Region.free_spec hi hf) (by simpa using hr) hy h
/-- what yields in whatever world: taken first -/
theorem take_F {i : Nat} {oi : Oper} {d : Option Nat} {v : Value} {fuel : Nat} {listed : Array Bool} {a : Act} {w : World} (hc : closedB md ops listed = true) (hiL : Ls.contains i = false) (hi : ops[i]? = some oi) (hd : oi.dst = d)
    (hs : Region.noSelect ops = true) (hf : Region.free md ops listed i = true) (hr : (Region.ready md ops listed).contains i = true)
    (hQ : ∀ c a w, Q (.panic c) (a.put d v) w → Q (.panic c) a w) (hy : YieldsIf P ops (fun _ => True) oi v a) (hS : S w)
    (h : wpAnyL P md ops Q S Ls fuel (listed.setIfInBounds i true) (a.put d v) w) : wpAnyL P md ops Q S Ls (fuel + 1) listed a w := by
  subst hd
  exact wpAnyL_first (S0 := fun _ => True) hi (Region.noSelect_spec hs) hQ (fun e => by simp [e] at hiL) [] (.inr fun _ => trivial) fuel listed a w (closedB_spec hc) (fun _ => hS) (.inl fun _ => trivial) (Region.free_spec hi hf) (by simpa using hr) hy h
/-- the only operation that may come up; S is shown anew -/
theorem call_L {i : Nat} {o : Oper} {d : Option Nat} {fuel : Nat} {listed : Array Bool} {a : Act} {w : World} (ho : ops[i]? = some o) (hd : o.dst = d) (hr : Region.ready md ops listed = [i])
    (h : ∀ K' : Act → World → Prop, Shut (∀ a w, S w → (S w → wpAnyL P md ops Q S Ls fuel (listed.setIfInBounds i true) a w) → K' a w) → if Region.wanted o (yielded ops a.tmps) = true then Oper.wp P o a w K' Q else K' (a.put d undef) w) :
    wpAnyL P md ops Q S Ls (fuel + 1) listed a w := by
  subst hd
  refine ⟨fun h0 => absurd (h0.symm.trans hr) (by simp), fun j hj => ?_⟩
  rw [hr] at hj
  obtain rfl := List.mem_singleton.1 hj
  exact wpOp_step ho (fun K' hK => h K' (fun a w hS hW => hK a w ⟨fun _ => hS, hW hS⟩))
/-- two operations that may come up -/
theorem both_L {i j : Nat} {oi oj : Oper} {di dj : Option Nat} {fuel : Nat} {listed : Array Bool} {a : Act} {w : World} (hoi : ops[i]? = some oi) (hdi : oi.dst = di) (hoj : ops[j]? = some oj) (hdj : oj.dst = dj) (hr : Region.ready md ops listed = [i, j])
    (h1 : ∀ K' : Act → World → Prop, Shut (∀ a w, S w → (S w → wpAnyL P md ops Q S Ls fuel (listed.setIfInBounds i true) a w) → K' a w) → if Region.wanted oi (yielded ops a.tmps) = true then Oper.wp P oi a w K' Q else K' (a.put di undef) w)
    (h2 : ∀ K' : Act → World → Prop, Shut (∀ a w, S w → (S w → wpAnyL P md ops Q S Ls fuel (listed.setIfInBounds j true) a w) → K' a w) → if Region.wanted oj (yielded ops a.tmps) = true then Oper.wp P oj a w K' Q else K' (a.put dj undef) w) :
    wpAnyL P md ops Q S Ls (fuel + 1) listed a w := by
  subst hdi
  subst hdj
  refine ⟨fun h0 => absurd (h0.symm.trans hr) (by simp), fun k hk => ?_⟩
  rw [hr] at hk
  rcases List.mem_cons.1 hk with rfl | hk
  · exact wpOp_step hoi (fun K' hK => h1 K' (fun a w hS hW => hK a w ⟨fun _ => hS, hW hS⟩))
  · obtain rfl := List.mem_singleton.1 hk
    exact wpOp_step hoj (fun K' hK => h2 K' (fun a w hS hW => hK a w ⟨fun _ => hS, hW hS⟩))
/-- .. and S is not asked -/
theorem late_L {i : Nat} {o : Oper} {d : Option Nat} {fuel : Nat} {listed : Array Bool} {a : Act} {w : World} (hi : noneL Ls (listed.setIfInBounds i true) = false) (ho : ops[i]? = some o) (hd : o.dst = d) (hr : Region.ready md ops listed = [i])
    (h : ∀ K' : Act → World → Prop, Shut (∀ a w, wpAnyL P md ops Q S Ls fuel (listed.setIfInBounds i true) a w → K' a w) → if Region.wanted o (yielded ops a.tmps) = true then Oper.wp P o a w K' Q else K' (a.put d undef) w) :
    wpAnyL P md ops Q S Ls (fuel + 1) listed a w := by
  subst hd
  refine ⟨fun h0 => absurd (h0.symm.trans hr) (by simp), fun j hj => ?_⟩
  rw [hr] at hj
  obtain rfl := List.mem_singleton.1 hj
  exact wpOp_step ho (fun K' hK => h K' (fun a w hW => hK a w ⟨fun hne => absurd (hi.symm.trans hne) (by simp), hW⟩))
theorem done_L {listed : Array Bool} {a : Act} {w : World} (hr : Region.ready md ops listed = []) (h : Q .normal a w) : ∀ fuel, wpAnyL P md ops Q S Ls fuel listed a w
  | 0 => ⟨hr, h⟩
  | _ + 1 => ⟨fun _ => h, by rw [hr]; simp⟩
theorem wp_region_L {id : Nat} {a : Act} {w : World} (Ls : List Nat) (S : World → Prop) (hm : P.follows .mixedOrders = true) (hS : S w.drew)
    (h : S w.drew → wpAnyL P .any ops Q S Ls ops.size (Array.replicate ops.size false) a w.drew) : (Code.region id ops true).wp P Q a w :=
  wp_region_any hm (wpAny_of_L _ _ _ _ (h hS))
end
end Go.Proofs.Ytalalegjeegocaa
/- Jobs, part 21: PlanFault, both sides. -/
namespace Go.Proofs.Ytalalegjeegocaa
open Go.RowKit Go.Joins

set_option maxRecDepth 100000 in
set_option maxHeartbeats 3200000 in
theorem FaultS_any (B M : Nat) (v vs : Value) (xs : List Jb) (S : Nat → Int) (wk : Int) (w : World) (h : RdJ w B v xs) (hB : B ≤ w.heap.size) (hs : Rd w B vs M 1 (tab M S)) (hn : xs.length ≤ 100000) (hM : M ≤ 100000) (hz : szJ xs) :
    Calls Try.prog 11 #[v, vs, .int .i64 wk] w (Ret2n (pltV xs M S wk) (pltC xs M S wk) w) := by
  have HV := Lib.hid (l22Workers_any B v xs wk w h hB hn hz)
  have HT := Lib.hid (fun wx (hb : Below w.heap.size w wx) => l22Starts_any B M v vs xs S wx h.slice (RdF_below hs (hb.mono hB)) hn hM)
  have H := Lib.hid h
  have HZ := Lib.hid hz
  have HR := Lib.hid hs
  obtain ⟨A, c, rfl⟩ := h.slice
  obtain ⟨A2, c2, rfl⟩ := rd_sl hs
  clear h hz hs
  rcases pltC_cases xs M S wk with ⟨e1, e4⟩ | ⟨e1, e2, e4⟩ | ⟨e1, e2, e3, e4⟩ | ⟨e1, e2, e3, e4⟩
  · rw [pltV_no e4 (by decide), e4]
    rw [pfC_no e1] at HV
    clear e1 e4
    go_enter Try.func11, Try.ntmps11
    go_wp2_with fail
    refine (HV.out).mono ?_; rintro e w2 ⟨rfl, hb2⟩
    have Hb2 := Lib.hid hb2
    clear hb2
    go_wp2_with fail
    go_ret2
    exact ⟨rfl, Hb2.out⟩
  · rw [pltV_no e4 (by decide), e4]
    rw [e2] at HT
    cases e3 : inB wk 1 30 with
    | false =>
      rw [pfC_wk e1 e3] at HV
      clear e1 e2 e3 e4
      go_enter Try.func11, Try.ntmps11
      go_wp2_with fail
      refine (HV.out).mono ?_; rintro e w2 ⟨rfl, hb2⟩
      have Hb2 := Lib.hid hb2
      clear hb2
      go_wp2_with fail
      go_ret2
      exact ⟨rfl, Hb2.out⟩
    | true =>
      rw [pfC_ok e1 e3] at HV
      clear e1 e2 e3 e4
      go_enter Try.func11, Try.ntmps11
      go_wp2_with fail
      refine (HV.out).mono ?_; rintro e w2 ⟨rfl, hb2⟩
      have Hb2 := Lib.hid hb2
      clear hb2
      go_wp2_with fail
      refine (HT.out _ Hb2.out).mono ?_; rintro e w1 ⟨rfl, rfl⟩
      go_wp2_with fail
      go_ret2
      exact ⟨rfl, Hb2.out⟩
  · rw [pltV_no e4 (by decide), e4]
    rw [pfC_wk e1 e3] at HV
    clear e1 e2 e3 e4
    go_enter Try.func11, Try.ntmps11
    go_wp2_with fail
    refine (HV.out).mono ?_; rintro e w2 ⟨rfl, hb2⟩
    have Hb2 := Lib.hid hb2
    clear hb2
    go_wp2_with fail
    go_ret2
    exact ⟨rfl, Hb2.out⟩
  · rw [pltV_ok e4, e4]
    rw [pfC_ok e1 e3] at HV
    obtain ⟨hMl, hSb⟩ := stB_ok e2
    rw [e2] at HT
    have HK := Lib.hid (okJ_ok e1)
    have hl30 := HK.out.len
    subst hMl
    have HS := Lib.hid (show Sbd xs.length S from fun i hi => by have := hSb i hi; omega)
    clear e1 e2 e3 e4 hSb
    go_enter Try.func11, Try.ntmps11
    go_wp2_with fail
    refine (HV.out).mono ?_; rintro e w2 ⟨rfl, hb2⟩
    have Hb2 := Lib.hid hb2
    clear hb2
    go_wp2_with fail
    refine (HT.out _ Hb2.out).mono ?_; rintro e w1 ⟨rfl, rfl⟩
    go_wp2_with fail
    go_loopw [9] (fun x wr => ∃ (k f q : Nat), k + f = xs.length ∧ x = .int .i64 (k : Int) ∧ fltF xs S wk f k = fltF xs S wk xs.length 0 ∧ wr = w2.drewN q) (fun x _ => xs.length - (intOf x).toNat)
    case atStart => exact ⟨0, xs.length, 0, by omega, rfl, rfl, rfl⟩
    case round =>
      obtain ⟨k, f, q, hkf, rfl, hfl, hwr⟩ := hrel
      have Hwr := Lib.hid hwr
      have Hbr : Hid (Below w.heap.size w wr) := Lib.hid (by rw [hwr]; exact below_drewN Hb2.out q)
      have Hfl := Lib.hid hfl
      clear hwr hfl
      by_cases hil : k < xs.length
      · have hil' : (k : Int) < (xs.length : Int) := by omega
        obtain ⟨f, rfl⟩ : ∃ f', f = f' + 1 := ⟨f - 1, by omega⟩
        have hRr := H.out.below (Hbr.out.mono hB)
        have hSr := RdF_below HR.out (Hbr.out.mono hB)
        obtain ⟨b1, o1, hA5, hb5, hcs⟩ := rdF_all hSr (show 0 < xs.length by omega)
        subst hA5
        have s1 := hcs k hil
        have HD := Lib.hid (Ready_any B _ _ xs S k (S k) wr hRr hSr HK.out hil HZ.out HS.out)
        have HB := Lib.hid (fun n => Busy_any B _ _ xs S (S k) (wr.drewN n) (hRr.drewN n) (hSr.drewN n) HK.out HS.out)
        have hSr2 := Lib.hid (fun n => (hSr.drewN n))
        have Hb1 := Lib.hid (@fltB_no1 xs S wk k)
        have Hb2' := Lib.hid (@fltB_no2 xs S wk k)
        have Hby := Lib.hid (@fltB_yes xs S wk k)
        have Hno := Lib.hid (fun h => (@fltF_no xs S wk f k h).symm.trans Hfl.out)
        have Hye := Lib.hid (fun h => (@fltF_yes xs S wk f k h).symm.trans Hfl.out)
        have hbl := bsy_le xs S (S k) xs.length
        clear hRr hSr hcs
        cases hr : rdyB xs S k (S k) with
        | false =>
          have Hr := Lib.hid (Hno.out (Hb1.out hr))
          rw [hr] at HD
          clear hr
          generalize S k = sk at *
          go_wp2_with fail
          refine (HD.out).mono ?_; rintro e w3 ⟨rfl, q3, rfl⟩
          go_wp2_with fail
          go_ret2
          exact ⟨by rw [Hr.out]; rfl, below_drewN Hbr.out q3⟩
        | true =>
          rw [hr] at HD
          have Hby := Lib.hid (Hby.out hr)
          clear hr
          by_cases hw : wk < (bsy xs S (S k) xs.length : Int)
          · have Hr := Lib.hid (Hno.out (Hb2'.out hw))
            clear Hby Hb1 Hb2' Hye Hno
            generalize (bsy xs S (S k) xs.length : Int) = bz at *
            go_wp2_with fail
            refine (HD.out).mono ?_; rintro e w3 ⟨rfl, q3, rfl⟩
            have s2 : (wr.drewN q3).cell? _ = _ := s1
            have HB3 := Lib.hid (HB.out q3)
            clear HB
            generalize S k = sk at *
            go_wp2_with fail
            refine (HB3.out).mono ?_; rintro e w4 ⟨rfl, q4, rfl⟩
            go_wp2_with fail
            go_ret2
            exact ⟨by rw [Hr.out]; rfl, below_drewN Hbr.out _⟩
          · have Hst := Lib.hid (Hye.out (Hby.out hw))
            clear Hby Hb1 Hb2' Hye Hno
            generalize (bsy xs S (S k) xs.length : Int) = bz at *
            go_wp2_with fail
            refine (HD.out).mono ?_; rintro e w3 ⟨rfl, q3, rfl⟩
            have s2 : (wr.drewN q3).cell? _ = _ := s1
            have HB3 := Lib.hid (HB.out q3)
            clear HB
            generalize S k = sk at *
            go_wp2_with fail
            refine (HB3.out).mono ?_; rintro e w4 ⟨rfl, q4, rfl⟩
            go_wp2_with fail
            go_roundw
            case rel => exact ⟨k + 1, f, q + (q3 + q4), by omega, by go_num, Hst.out, by rw [Hwr.out, World.drewN_drewN]⟩
            case measure => first | (simp [intOf]; done) | (simp [intOf]; omega)
      · obtain rfl : k = xs.length := by omega
        obtain rfl : f = 0 := by omega
        have hil' : ¬ ((xs.length : Int) < (xs.length : Int)) := by omega
        go_wp2_with fail
        go_ret2
        exact ⟨by rw [← Hfl.out]; rfl, Hbr.out⟩
set_option maxRecDepth 100000 in
set_option maxHeartbeats 3200000 in
theorem FaultI_any (B M : Nat) (v vs : Value) (xs : List Jb) (S : Nat → Int) (wk : Int) (w : World) (h : RdJ w B v xs) (hB : B ≤ w.heap.size) (hs : Rd w B vs M 1 (tab M S)) (hn : xs.length ≤ 100000) (hM : M ≤ 100000) (hz : szJ xs) :
    Calls Try.prog 10 #[v, vs, .int .i64 wk] w (Ret2n (pltV xs M S wk) (pltC xs M S wk) w) := by
  have HV := Lib.hid (planCode_any B M v vs xs S w h hB hs hn hM hz)
  have HX := Lib.hid (fun wx => between_any wk 1 30 wx)
  have H := Lib.hid h
  have HZ := Lib.hid hz
  have HR := Lib.hid hs
  obtain ⟨A, c, rfl⟩ := h.slice
  obtain ⟨A2, c2, rfl⟩ := rd_sl hs
  clear h hz hs
  rcases pltC_cases xs M S wk with ⟨e1, e4⟩ | ⟨e1, e2, e4⟩ | ⟨e1, e2, e3, e4⟩ | ⟨e1, e2, e3, e4⟩
  · rw [pltV_no e4 (by decide), e4]
    rw [pcC_no e1] at HV
    clear e1 e4
    go_enter Try.func10, Try.ntmps10
    go_wp2_with fail
    refine (HV.out).mono ?_; rintro e w2 ⟨rfl, hb2⟩
    have Hb2 := Lib.hid hb2
    clear hb2
    go_wp2_with fail
    go_ret2
    exact ⟨rfl, Hb2.out⟩
  · rw [pltV_no e4 (by decide), e4]
    rw [pcC_st e1 e2] at HV
    clear e1 e2 e4
    go_enter Try.func10, Try.ntmps10
    go_wp2_with fail
    refine (HV.out).mono ?_; rintro e w2 ⟨rfl, hb2⟩
    have Hb2 := Lib.hid hb2
    clear hb2
    go_wp2_with fail
    go_ret2
    exact ⟨rfl, Hb2.out⟩
  · rw [pltV_no e4 (by decide), e4]
    rw [pcC_ok e1 e2] at HV
    rw [e3] at HX
    clear e1 e2 e3 e4
    go_enter Try.func10, Try.ntmps10
    go_wp2_with fail
    refine (HV.out).mono ?_; rintro e w2 ⟨rfl, hb2⟩
    have Hb2 := Lib.hid hb2
    clear hb2
    go_wp2_with fail
    refine (HX.out _).mono ?_; rintro e w1 ⟨rfl, rfl⟩
    go_wp2_with fail
    go_ret2
    exact ⟨rfl, Hb2.out⟩
  · rw [pltV_ok e4, e4]
    rw [pcC_ok e1 e2] at HV
    rw [e3] at HX
    obtain ⟨hMl, hSb⟩ := stB_ok e2
    have HK := Lib.hid (okJ_ok e1)
    have hl30 := HK.out.len
    subst hMl
    have HS := Lib.hid (show Sbd xs.length S from fun i hi => by have := hSb i hi; omega)
    clear e1 e2 e3 e4 hSb
    go_enter Try.func10, Try.ntmps10
    go_wp2_with fail
    refine (HV.out).mono ?_; rintro e w2 ⟨rfl, hb2⟩
    have Hb2 := Lib.hid hb2
    clear hb2
    go_wp2_with fail
    refine (HX.out _).mono ?_; rintro e w1 ⟨rfl, rfl⟩
    go_wp2_with fail
    go_loopw [22] (fun x wr => ∃ (k f : Nat), k + f = xs.length ∧ x = .int .i64 (k : Int) ∧ fltF xs S wk f k = fltF xs S wk xs.length 0 ∧ Below w.heap.size w wr) (fun x _ => xs.length - (intOf x).toNat)
    case atStart => exact ⟨0, xs.length, by omega, rfl, rfl, Hb2.out⟩
    case round =>
      obtain ⟨k, f, hkf, rfl, hfl, hbl⟩ := hrel
      have Hbl := Lib.hid hbl
      have hsz := hbl.size
      have Hfl := Lib.hid hfl
      clear hbl hfl Hb2
      by_cases hil : k < xs.length
      · have hil' : (k : Int) < (xs.length : Int) := by omega
        obtain ⟨f, rfl⟩ : ∃ f', f = f' + 1 := ⟨f - 1, by omega⟩
        obtain ⟨gb, ob, A4, c4, hA4, hat⟩ := (H.out.below (Hbl.out.mono hB)).at k hil
        subst hA4
        obtain ⟨_, hsn⟩ := HZ.out k hil
        have HN := Lib.hid hat.needs
        obtain ⟨_, p0, p1, p2, p3, _⟩ := hat
        generalize (jg xs k).nm = nm at *
        generalize (jg xs k).cost = cc at *
        generalize (jg xs k).days = dp at *
        have hba := (Below.refl wr.heap.size wr).alloc (Nat.le_refl _) (.cells #[.string nm, .int .i64 dp, .int .i64 cc, .slice A4 (jg xs k).needs.length c4] 37)
        have Hba := Lib.hid (Hbl.out.trans (hba.mono hsz))
        have HCa := Lib.hid (heap_alloc_new wr (.cells #[.string nm, .int .i64 dp, .int .i64 cc, .slice A4 (jg xs k).needs.length c4] 37))
        have HNa := Lib.hid (HN.out.below (hba.mono (Nat.le_trans hB hsz)))
        clear hba HN
        go_upto_region 9 with (fail)
        generalize wr.alloc (.cells #[.string nm, .int .i64 dp, .int .i64 cc, .slice A4 (jg xs k).needs.length c4] 37) = wa at *
        generalize wr.heap.size = ga at *
        clear p0 p1 p2 p3
        obtain ⟨y0, y1, y2, y3⟩ := cells4 HCa.out
        have hBa : B ≤ wa.heap.size := Nat.le_trans hB Hba.out.size
        have hRr := H.out.below (Hba.out.mono hB)
        have hSr := RdF_below HR.out (Hba.out.mono hB)
        obtain ⟨b1, o1, hA5, hb5, hcs⟩ := rdF_all hSr (show 0 < xs.length by omega)
        subst hA5
        have s1 := hcs k hil
        have HD := Lib.hid (fun wx (hb : Below wa.heap.size wa wx) => areDone_any B (.slice (some ⟨gb, ob, none⟩) xs.length c) (.slice (some ⟨b1, o1, none⟩) xs.length c2) (.slice A4 (jg xs k).needs.length c4) xs S k (S k) wx (hRr.below (hb.mono hBa)) (hSr.below (hb.mono hBa)) (HNa.out.below (hb.mono hBa)) HK.out hil HZ.out HS.out)
        have HB := Lib.hid (fun wx (hb : Below wa.heap.size wa wx) => running_any B (.slice (some ⟨gb, ob, none⟩) xs.length c) (.slice (some ⟨b1, o1, none⟩) xs.length c2) xs S (S k) wx (hRr.below (hb.mono hBa)) (Nat.le_trans hBa hb.size) (hSr.below (hb.mono hBa)) HK.out HS.out)
        have Hb1 := Lib.hid (@fltB_no1 xs S wk k)
        have Hb2' := Lib.hid (@fltB_no2 xs S wk k)
        have Hby := Lib.hid (@fltB_yes xs S wk k)
        have Hno := Lib.hid (fun h => (@fltF_no xs S wk f k h).symm.trans Hfl.out)
        have Hye := Lib.hid (fun h => (@fltF_yes xs S wk f k h).symm.trans Hfl.out)
        have hbl := bsy_le xs S (S k) xs.length
        generalize (jg xs k).needs.length = nl at *
        clear hRr hSr hcs HNa
        cases hr : rdyB xs S k (S k) with
        | false =>
          have Hr := Lib.hid (Hno.out (Hb1.out hr))
          rw [hr] at HD
          have HD2 := Lib.hid (fun n => HD.out (wa.drewN n) (below_drewN (Below.refl _ _) n))
          clear hr HD HB
          generalize S k = sk at *
          go_quiet ((go_at_call 45; exact Calls.quiet_of (HD2.out _)))
          go_wp2_with fail
          go_ret2
          exact ⟨by rw [Hr.out]; rfl, below_drewN Hba.out _⟩
        | true =>
          rw [hr] at HD
          have Hby := Lib.hid (Hby.out hr)
          have HD2 := Lib.hid (fun n => HD.out (wa.drewN n) (below_drewN (Below.refl _ _) n))
          clear hr
          have hd0 := (Below.refl wa.heap.size wa).drew
          have hga := (Array.getElem?_eq_some_iff.1 HCa.out).1
          by_cases hw : wk < (bsy xs S (S k) xs.length : Int)
          · have Hr := Lib.hid (Hno.out (Hb2'.out hw))
            have hw' : decide (wk < (bsy xs S (S k) xs.length : Int)) = true := decide_eq_true hw
            clear Hby Hb1 Hb2' Hye Hno hw HD2
            generalize (bsy xs S (S k) xs.length : Int) = bz at *
            generalize S k = sk at *
            refine wp_region_noPanic ?_
            refine wp_region_L [] (fun w' => w'.cell? ⟨ga, 3, none⟩ = some (.slice A4 nl c4) ∧ w'.cell? ⟨b1, o1 + k, none⟩ = some (.int .i64 sk)) (by kernel_rfl) (⟨y3, s1⟩) (fun hHeld => ?_)
            refine take_F (i := 0) (d := some 27) (v := ?_) (by kernel_rfl) (by kernel_rfl) rfl rfl (by kernel_rfl) (by kernel_rfl) (by kernel_rfl) (fun _ _ _ h => h) (Or.inl ⟨by rfl, ?_⟩) (by assumption) ?_
            rotate_left
            · (intro w hSw; (try dsimp only at hSw); go_simp; (try rw [if_neg (by omega)]); (try (with_reducible rfl)))
            simp only [Act.put, List.setIfInBounds_toArray, List.set_cons_zero, List.set_cons_succ]
            refine take_F (i := 1) (d := some 28) (v := ?_) (by kernel_rfl) (by kernel_rfl) rfl rfl (by kernel_rfl) (by kernel_rfl) (by kernel_rfl) (fun _ _ _ h => h) (Or.inl ⟨by rfl, ?_⟩) (by assumption) ?_
            rotate_left
            · (intro w hSw; (try dsimp only at hSw); go_simp; (try rw [if_neg (by omega)]); (try (with_reducible rfl)))
            simp only [Act.put, List.setIfInBounds_toArray, List.set_cons_zero, List.set_cons_succ]
            refine take_F (i := 2) (d := some 29) (v := ?_) (by kernel_rfl) (by kernel_rfl) rfl rfl (by kernel_rfl) (by kernel_rfl) (by kernel_rfl) (fun _ _ _ h => h) (Or.inl ⟨by rfl, ?_⟩) (by assumption) ?_
            rotate_left
            · (intro w hSw; (try dsimp only at hSw); go_simp; (try rw [if_neg (by omega)]); (try (with_reducible rfl)))
            simp only [Act.put, List.setIfInBounds_toArray, List.set_cons_zero, List.set_cons_succ]
            refine take_L [10,8,3] (i := 3) (d := some 30) (v := ?_) (by kernel_rfl) (by kernel_rfl) (by kernel_rfl) (by kernel_rfl) rfl rfl (by kernel_rfl) (by kernel_rfl) (by kernel_rfl) (fun _ _ _ h => h) (Or.inl ⟨by rfl, ?_⟩) (by assumption) ?_
            rotate_left
            · (intro w hSw; (try dsimp only at hSw); go_simp; (try rw [if_neg (by omega)]); (try (with_reducible rfl)))
            simp only [Act.put, List.setIfInBounds_toArray, List.set_cons_zero, List.set_cons_succ]
            refine take_F (i := 4) (d := some 31) (v := ?_) (by kernel_rfl) (by kernel_rfl) rfl rfl (by kernel_rfl) (by kernel_rfl) (by kernel_rfl) (fun _ _ _ h => h) (Or.inl ⟨by rfl, ?_⟩) (by assumption) ?_
            rotate_left
            · (intro w hSw; (try dsimp only at hSw); go_simp; (try rw [if_neg (by omega)]); (try (with_reducible rfl)))
            simp only [Act.put, List.setIfInBounds_toArray, List.set_cons_zero, List.set_cons_succ]
            refine take_F (i := 5) (d := some 32) (v := ?_) (by kernel_rfl) (by kernel_rfl) rfl rfl (by kernel_rfl) (by kernel_rfl) (by kernel_rfl) (fun _ _ _ h => h) (Or.inl ⟨by rfl, ?_⟩) (by assumption) ?_
            rotate_left
            · (intro w hSw; (try dsimp only at hSw); go_simp; (try rw [if_neg (by omega)]); (try (with_reducible rfl)))
            simp only [Act.put, List.setIfInBounds_toArray, List.set_cons_zero, List.set_cons_succ]
            refine take_F (i := 6) (d := some 33) (v := ?_) (by kernel_rfl) (by kernel_rfl) rfl rfl (by kernel_rfl) (by kernel_rfl) (by kernel_rfl) (fun _ _ _ h => h) (Or.inl ⟨by rfl, ?_⟩) (by assumption) ?_
            rotate_left
            · (intro w hSw; (try dsimp only at hSw); go_simp; (try rw [if_neg (by omega)]); (try (with_reducible rfl)))
            simp only [Act.put, List.setIfInBounds_toArray, List.set_cons_zero, List.set_cons_succ]
            refine take_L [10,8,7] (i := 7) (d := some 34) (v := ?_) (by kernel_rfl) (by kernel_rfl) (by kernel_rfl) (by kernel_rfl) rfl rfl (by kernel_rfl) (by kernel_rfl) (by kernel_rfl) (fun _ _ _ h => h) (Or.inl ⟨by rfl, ?_⟩) (by assumption) ?_
            rotate_left
            · (intro w hSw; (try dsimp only at hSw); go_simp; (try rw [if_neg (by omega)]); (try (with_reducible rfl)))
            simp only [Act.put, List.setIfInBounds_toArray, List.set_cons_zero, List.set_cons_succ]
            refine call_L (i := 8) (d := (some 35)) rfl rfl (by kernel_rfl) (fun Kq hKq => ?_)
            go_simp
            go_at_call 45
            refine (HD.out _ hd0).mono ?_; rintro e w3 ⟨rfl, q, rfl⟩
            (try go_wp2_with fail)
            refine hKq.out _ _ (⟨y3, s1⟩) (fun hHeld => ?_)
            clear hKq Kq
            (try simp only [Act.put, List.setIfInBounds_toArray, List.set_cons_zero, List.set_cons_succ])
            refine take_F (i := 9) (d := some 36) (v := ?_) (by kernel_rfl) (by kernel_rfl) rfl rfl (by kernel_rfl) (by kernel_rfl) (by kernel_rfl) (fun _ _ _ h => h) (Or.inl ⟨by rfl, ?_⟩) (by assumption) ?_
            rotate_left
            · (intro w hSw; (try dsimp only at hSw); go_simp; (try rw [if_neg (by omega)]); (try (with_reducible rfl)))
            simp only [Act.put, List.setIfInBounds_toArray, List.set_cons_zero, List.set_cons_succ]
            refine take_F (i := 10) (d := some 37) (v := ?_) (by kernel_rfl) (by kernel_rfl) rfl rfl (by kernel_rfl) (by kernel_rfl) (by kernel_rfl) (fun _ _ _ h => h) (Or.inl ⟨by rfl, ?_⟩) (by assumption) ?_
            rotate_left
            · (intro w hSw; (try dsimp only at hSw); go_simp; (try rw [if_neg (by omega)]); (try (with_reducible rfl)))
            simp only [Act.put, List.setIfInBounds_toArray, List.set_cons_zero, List.set_cons_succ]
            refine take_F (i := 11) (d := some 38) (v := ?_) (by kernel_rfl) (by kernel_rfl) rfl rfl (by kernel_rfl) (by kernel_rfl) (by kernel_rfl) (fun _ _ _ h => h) (Or.inl ⟨by rfl, ?_⟩) (by assumption) ?_
            rotate_left
            · (intro w hSw; (try dsimp only at hSw); go_simp; (try rw [if_neg (by omega)]); (try (with_reducible rfl)))
            simp only [Act.put, List.setIfInBounds_toArray, List.set_cons_zero, List.set_cons_succ]
            refine take_F (i := 12) (d := some 39) (v := ?_) (by kernel_rfl) (by kernel_rfl) rfl rfl (by kernel_rfl) (by kernel_rfl) (by kernel_rfl) (fun _ _ _ h => h) (Or.inl ⟨by rfl, ?_⟩) (by assumption) ?_
            rotate_left
            · (intro w hSw; (try dsimp only at hSw); go_simp; (try rw [if_neg (by omega)]); (try (with_reducible rfl)))
            simp only [Act.put, List.setIfInBounds_toArray, List.set_cons_zero, List.set_cons_succ]
            refine take_F (i := 13) (d := some 40) (v := ?_) (by kernel_rfl) (by kernel_rfl) rfl rfl (by kernel_rfl) (by kernel_rfl) (by kernel_rfl) (fun _ _ _ h => h) (Or.inl ⟨by rfl, ?_⟩) (by assumption) ?_
            rotate_left
            · (intro w hSw; (try dsimp only at hSw); go_simp; (try rw [if_neg (by omega)]); (try (with_reducible rfl)))
            simp only [Act.put, List.setIfInBounds_toArray, List.set_cons_zero, List.set_cons_succ]
            refine take_F (i := 14) (d := some 41) (v := ?_) (by kernel_rfl) (by kernel_rfl) rfl rfl (by kernel_rfl) (by kernel_rfl) (by kernel_rfl) (fun _ _ _ h => h) (Or.inl ⟨by rfl, ?_⟩) (by assumption) ?_
            rotate_left
            · (intro w hSw; (try dsimp only at hSw); go_simp; (try rw [if_neg (by omega)]); (try (with_reducible rfl)))
            simp only [Act.put, List.setIfInBounds_toArray, List.set_cons_zero, List.set_cons_succ]
            refine take_F (i := 15) (d := some 42) (v := ?_) (by kernel_rfl) (by kernel_rfl) rfl rfl (by kernel_rfl) (by kernel_rfl) (by kernel_rfl) (fun _ _ _ h => h) (Or.inl ⟨by rfl, ?_⟩) (by assumption) ?_
            rotate_left
            · (intro w hSw; (try dsimp only at hSw); go_simp; (try rw [if_neg (by omega)]); (try (with_reducible rfl)))
            simp only [Act.put, List.setIfInBounds_toArray, List.set_cons_zero, List.set_cons_succ]
            refine take_L [19,17,16] (i := 16) (d := some 43) (v := ?_) (by kernel_rfl) (by kernel_rfl) (by kernel_rfl) (by kernel_rfl) rfl rfl (by kernel_rfl) (by kernel_rfl) (by kernel_rfl) (fun _ _ _ h => h) (Or.inl ⟨by rfl, ?_⟩) (by assumption) ?_
            rotate_left
            · (intro w hSw; (try dsimp only at hSw); go_simp; (try rw [if_neg (by omega)]); (try (with_reducible rfl)))
            simp only [Act.put, List.setIfInBounds_toArray, List.set_cons_zero, List.set_cons_succ]
            refine take_F (i := 18) (d := some 45) (v := ?_) (by kernel_rfl) (by kernel_rfl) rfl rfl (by kernel_rfl) (by kernel_rfl) (by kernel_rfl) (fun _ _ _ h => h) (Or.inl ⟨by rfl, ?_⟩) (by assumption) ?_
            rotate_left
            · (intro w hSw; (try dsimp only at hSw); go_simp; (try rw [if_neg (by omega)]); (try (with_reducible rfl)))
            simp only [Act.put, List.setIfInBounds_toArray, List.set_cons_zero, List.set_cons_succ]
            refine call_L (i := 17) (d := (some 44)) rfl rfl (by kernel_rfl) (fun Kq hKq => ?_)
            go_simp
            go_at_call 38
            refine (HB.out (wa.drewN (1 + q)) (below_drewN (Below.refl _ _) _)).mono ?_; rintro e w4 ⟨rfl, hb4⟩
            have HB4 := Lib.hid ((below_drewN (Below.refl wa.heap.size wa) (1 + q)).trans (hb4.mono (below_drewN (Below.refl wa.heap.size wa) (1 + q)).size))
            have HB5 := Lib.hid (Hba.out.trans (HB4.out.mono Hba.out.size))
            clear hb4
            (try go_wp2_with fail)
            refine hKq.out _ _ (⟨(HB4.out.cell (p := ⟨ga, 3, none⟩) hga).trans y3, (HB4.out.cell (p := ⟨b1, o1 + k, none⟩) (Nat.lt_of_lt_of_le hb5 hBa)).trans s1⟩) (fun hHeld => ?_)
            clear hKq Kq
            (try simp only [Act.put, List.setIfInBounds_toArray, List.set_cons_zero, List.set_cons_succ])
            refine take_F (i := 19) (d := some 46) (v := ?_) (by kernel_rfl) (by kernel_rfl) rfl rfl (by kernel_rfl) (by kernel_rfl) (by kernel_rfl) (fun _ _ _ h => h) (Or.inl ⟨by rfl, ?_⟩) (by assumption) ?_
            rotate_left
            · (intro w hSw; (try dsimp only at hSw); go_simp; (try rw [if_neg (by omega)]); (try (with_reducible rfl)))
            simp only [Act.put, List.setIfInBounds_toArray, List.set_cons_zero, List.set_cons_succ]
            refine take_F (i := 20) (d := some 47) (v := ?_) (by kernel_rfl) (by kernel_rfl) rfl rfl (by kernel_rfl) (by kernel_rfl) (by kernel_rfl) (fun _ _ _ h => h) (Or.inl ⟨by rfl, ?_⟩) (by assumption) ?_
            rotate_left
            · (intro w hSw; (try dsimp only at hSw); go_simp; (try rw [if_neg (by omega)]); (try (with_reducible rfl)))
            simp only [Act.put, List.setIfInBounds_toArray, List.set_cons_zero, List.set_cons_succ]
            refine done_L (by kernel_rfl) ?_ _
            refine NoPanic.normal ?_
            go_wp2_with fail
            go_ret2
            exact ⟨by rw [Hr.out]; rfl, HB5.out⟩
          · have Hst := Lib.hid (Hye.out (Hby.out hw))
            have hw' : decide (wk < (bsy xs S (S k) xs.length : Int)) = false := decide_eq_false hw
            clear Hby Hb1 Hb2' Hye Hno hw HD2
            generalize (bsy xs S (S k) xs.length : Int) = bz at *
            generalize S k = sk at *
            refine wp_region_noPanic ?_
            refine wp_region_L [] (fun w' => w'.cell? ⟨ga, 3, none⟩ = some (.slice A4 nl c4) ∧ w'.cell? ⟨b1, o1 + k, none⟩ = some (.int .i64 sk)) (by kernel_rfl) (⟨y3, s1⟩) (fun hHeld => ?_)
            refine take_F (i := 0) (d := some 27) (v := ?_) (by kernel_rfl) (by kernel_rfl) rfl rfl (by kernel_rfl) (by kernel_rfl) (by kernel_rfl) (fun _ _ _ h => h) (Or.inl ⟨by rfl, ?_⟩) (by assumption) ?_
            rotate_left
            · (intro w hSw; (try dsimp only at hSw); go_simp; (try rw [if_neg (by omega)]); (try (with_reducible rfl)))
            simp only [Act.put, List.setIfInBounds_toArray, List.set_cons_zero, List.set_cons_succ]
            refine take_F (i := 1) (d := some 28) (v := ?_) (by kernel_rfl) (by kernel_rfl) rfl rfl (by kernel_rfl) (by kernel_rfl) (by kernel_rfl) (fun _ _ _ h => h) (Or.inl ⟨by rfl, ?_⟩) (by assumption) ?_
            rotate_left
            · (intro w hSw; (try dsimp only at hSw); go_simp; (try rw [if_neg (by omega)]); (try (with_reducible rfl)))
            simp only [Act.put, List.setIfInBounds_toArray, List.set_cons_zero, List.set_cons_succ]
            refine take_F (i := 2) (d := some 29) (v := ?_) (by kernel_rfl) (by kernel_rfl) rfl rfl (by kernel_rfl) (by kernel_rfl) (by kernel_rfl) (fun _ _ _ h => h) (Or.inl ⟨by rfl, ?_⟩) (by assumption) ?_
            rotate_left
            · (intro w hSw; (try dsimp only at hSw); go_simp; (try rw [if_neg (by omega)]); (try (with_reducible rfl)))
            simp only [Act.put, List.setIfInBounds_toArray, List.set_cons_zero, List.set_cons_succ]
            refine take_L [10,8,3] (i := 3) (d := some 30) (v := ?_) (by kernel_rfl) (by kernel_rfl) (by kernel_rfl) (by kernel_rfl) rfl rfl (by kernel_rfl) (by kernel_rfl) (by kernel_rfl) (fun _ _ _ h => h) (Or.inl ⟨by rfl, ?_⟩) (by assumption) ?_
            rotate_left
            · (intro w hSw; (try dsimp only at hSw); go_simp; (try rw [if_neg (by omega)]); (try (with_reducible rfl)))
            simp only [Act.put, List.setIfInBounds_toArray, List.set_cons_zero, List.set_cons_succ]
            refine take_F (i := 4) (d := some 31) (v := ?_) (by kernel_rfl) (by kernel_rfl) rfl rfl (by kernel_rfl) (by kernel_rfl) (by kernel_rfl) (fun _ _ _ h => h) (Or.inl ⟨by rfl, ?_⟩) (by assumption) ?_
            rotate_left
            · (intro w hSw; (try dsimp only at hSw); go_simp; (try rw [if_neg (by omega)]); (try (with_reducible rfl)))
            simp only [Act.put, List.setIfInBounds_toArray, List.set_cons_zero, List.set_cons_succ]
            refine take_F (i := 5) (d := some 32) (v := ?_) (by kernel_rfl) (by kernel_rfl) rfl rfl (by kernel_rfl) (by kernel_rfl) (by kernel_rfl) (fun _ _ _ h => h) (Or.inl ⟨by rfl, ?_⟩) (by assumption) ?_
            rotate_left
            · (intro w hSw; (try dsimp only at hSw); go_simp; (try rw [if_neg (by omega)]); (try (with_reducible rfl)))
            simp only [Act.put, List.setIfInBounds_toArray, List.set_cons_zero, List.set_cons_succ]
            refine take_F (i := 6) (d := some 33) (v := ?_) (by kernel_rfl) (by kernel_rfl) rfl rfl (by kernel_rfl) (by kernel_rfl) (by kernel_rfl) (fun _ _ _ h => h) (Or.inl ⟨by rfl, ?_⟩) (by assumption) ?_
            rotate_left
            · (intro w hSw; (try dsimp only at hSw); go_simp; (try rw [if_neg (by omega)]); (try (with_reducible rfl)))
            simp only [Act.put, List.setIfInBounds_toArray, List.set_cons_zero, List.set_cons_succ]
            refine take_L [10,8,7] (i := 7) (d := some 34) (v := ?_) (by kernel_rfl) (by kernel_rfl) (by kernel_rfl) (by kernel_rfl) rfl rfl (by kernel_rfl) (by kernel_rfl) (by kernel_rfl) (fun _ _ _ h => h) (Or.inl ⟨by rfl, ?_⟩) (by assumption) ?_
            rotate_left
            · (intro w hSw; (try dsimp only at hSw); go_simp; (try rw [if_neg (by omega)]); (try (with_reducible rfl)))
            simp only [Act.put, List.setIfInBounds_toArray, List.set_cons_zero, List.set_cons_succ]
            refine call_L (i := 8) (d := (some 35)) rfl rfl (by kernel_rfl) (fun Kq hKq => ?_)
            go_simp
            go_at_call 45
            refine (HD.out _ hd0).mono ?_; rintro e w3 ⟨rfl, q, rfl⟩
            (try go_wp2_with fail)
            refine hKq.out _ _ (⟨y3, s1⟩) (fun hHeld => ?_)
            clear hKq Kq
            (try simp only [Act.put, List.setIfInBounds_toArray, List.set_cons_zero, List.set_cons_succ])
            refine take_F (i := 9) (d := some 36) (v := ?_) (by kernel_rfl) (by kernel_rfl) rfl rfl (by kernel_rfl) (by kernel_rfl) (by kernel_rfl) (fun _ _ _ h => h) (Or.inl ⟨by rfl, ?_⟩) (by assumption) ?_
            rotate_left
            · (intro w hSw; (try dsimp only at hSw); go_simp; (try rw [if_neg (by omega)]); (try (with_reducible rfl)))
            simp only [Act.put, List.setIfInBounds_toArray, List.set_cons_zero, List.set_cons_succ]
            refine take_F (i := 10) (d := some 37) (v := ?_) (by kernel_rfl) (by kernel_rfl) rfl rfl (by kernel_rfl) (by kernel_rfl) (by kernel_rfl) (fun _ _ _ h => h) (Or.inl ⟨by rfl, ?_⟩) (by assumption) ?_
            rotate_left
            · (intro w hSw; (try dsimp only at hSw); go_simp; (try rw [if_neg (by omega)]); (try (with_reducible rfl)))
            simp only [Act.put, List.setIfInBounds_toArray, List.set_cons_zero, List.set_cons_succ]
            refine take_F (i := 11) (d := some 38) (v := ?_) (by kernel_rfl) (by kernel_rfl) rfl rfl (by kernel_rfl) (by kernel_rfl) (by kernel_rfl) (fun _ _ _ h => h) (Or.inl ⟨by rfl, ?_⟩) (by assumption) ?_
            rotate_left
            · (intro w hSw; (try dsimp only at hSw); go_simp; (try rw [if_neg (by omega)]); (try (with_reducible rfl)))
            simp only [Act.put, List.setIfInBounds_toArray, List.set_cons_zero, List.set_cons_succ]
            refine take_F (i := 12) (d := some 39) (v := ?_) (by kernel_rfl) (by kernel_rfl) rfl rfl (by kernel_rfl) (by kernel_rfl) (by kernel_rfl) (fun _ _ _ h => h) (Or.inl ⟨by rfl, ?_⟩) (by assumption) ?_
            rotate_left
            · (intro w hSw; (try dsimp only at hSw); go_simp; (try rw [if_neg (by omega)]); (try (with_reducible rfl)))
            simp only [Act.put, List.setIfInBounds_toArray, List.set_cons_zero, List.set_cons_succ]
            refine take_F (i := 13) (d := some 40) (v := ?_) (by kernel_rfl) (by kernel_rfl) rfl rfl (by kernel_rfl) (by kernel_rfl) (by kernel_rfl) (fun _ _ _ h => h) (Or.inl ⟨by rfl, ?_⟩) (by assumption) ?_
            rotate_left
            · (intro w hSw; (try dsimp only at hSw); go_simp; (try rw [if_neg (by omega)]); (try (with_reducible rfl)))
            simp only [Act.put, List.setIfInBounds_toArray, List.set_cons_zero, List.set_cons_succ]
            refine take_F (i := 14) (d := some 41) (v := ?_) (by kernel_rfl) (by kernel_rfl) rfl rfl (by kernel_rfl) (by kernel_rfl) (by kernel_rfl) (fun _ _ _ h => h) (Or.inl ⟨by rfl, ?_⟩) (by assumption) ?_
            rotate_left
            · (intro w hSw; (try dsimp only at hSw); go_simp; (try rw [if_neg (by omega)]); (try (with_reducible rfl)))
            simp only [Act.put, List.setIfInBounds_toArray, List.set_cons_zero, List.set_cons_succ]
            refine take_F (i := 15) (d := some 42) (v := ?_) (by kernel_rfl) (by kernel_rfl) rfl rfl (by kernel_rfl) (by kernel_rfl) (by kernel_rfl) (fun _ _ _ h => h) (Or.inl ⟨by rfl, ?_⟩) (by assumption) ?_
            rotate_left
            · (intro w hSw; (try dsimp only at hSw); go_simp; (try rw [if_neg (by omega)]); (try (with_reducible rfl)))
            simp only [Act.put, List.setIfInBounds_toArray, List.set_cons_zero, List.set_cons_succ]
            refine take_L [19,17,16] (i := 16) (d := some 43) (v := ?_) (by kernel_rfl) (by kernel_rfl) (by kernel_rfl) (by kernel_rfl) rfl rfl (by kernel_rfl) (by kernel_rfl) (by kernel_rfl) (fun _ _ _ h => h) (Or.inl ⟨by rfl, ?_⟩) (by assumption) ?_
            rotate_left
            · (intro w hSw; (try dsimp only at hSw); go_simp; (try rw [if_neg (by omega)]); (try (with_reducible rfl)))
            simp only [Act.put, List.setIfInBounds_toArray, List.set_cons_zero, List.set_cons_succ]
            refine take_F (i := 18) (d := some 45) (v := ?_) (by kernel_rfl) (by kernel_rfl) rfl rfl (by kernel_rfl) (by kernel_rfl) (by kernel_rfl) (fun _ _ _ h => h) (Or.inl ⟨by rfl, ?_⟩) (by assumption) ?_
            rotate_left
            · (intro w hSw; (try dsimp only at hSw); go_simp; (try rw [if_neg (by omega)]); (try (with_reducible rfl)))
            simp only [Act.put, List.setIfInBounds_toArray, List.set_cons_zero, List.set_cons_succ]
            refine call_L (i := 17) (d := (some 44)) rfl rfl (by kernel_rfl) (fun Kq hKq => ?_)
            go_simp
            go_at_call 38
            refine (HB.out (wa.drewN (1 + q)) (below_drewN (Below.refl _ _) _)).mono ?_; rintro e w4 ⟨rfl, hb4⟩
            have HB4 := Lib.hid ((below_drewN (Below.refl wa.heap.size wa) (1 + q)).trans (hb4.mono (below_drewN (Below.refl wa.heap.size wa) (1 + q)).size))
            have HB5 := Lib.hid (Hba.out.trans (HB4.out.mono Hba.out.size))
            clear hb4
            (try go_wp2_with fail)
            refine hKq.out _ _ (⟨(HB4.out.cell (p := ⟨ga, 3, none⟩) hga).trans y3, (HB4.out.cell (p := ⟨b1, o1 + k, none⟩) (Nat.lt_of_lt_of_le hb5 hBa)).trans s1⟩) (fun hHeld => ?_)
            clear hKq Kq
            (try simp only [Act.put, List.setIfInBounds_toArray, List.set_cons_zero, List.set_cons_succ])
            refine take_F (i := 19) (d := some 46) (v := ?_) (by kernel_rfl) (by kernel_rfl) rfl rfl (by kernel_rfl) (by kernel_rfl) (by kernel_rfl) (fun _ _ _ h => h) (Or.inl ⟨by rfl, ?_⟩) (by assumption) ?_
            rotate_left
            · (intro w hSw; (try dsimp only at hSw); go_simp; (try rw [if_neg (by omega)]); (try (with_reducible rfl)))
            simp only [Act.put, List.setIfInBounds_toArray, List.set_cons_zero, List.set_cons_succ]
            refine take_F (i := 20) (d := some 47) (v := ?_) (by kernel_rfl) (by kernel_rfl) rfl rfl (by kernel_rfl) (by kernel_rfl) (by kernel_rfl) (fun _ _ _ h => h) (Or.inl ⟨by rfl, ?_⟩) (by assumption) ?_
            rotate_left
            · (intro w hSw; (try dsimp only at hSw); go_simp; (try rw [if_neg (by omega)]); (try (with_reducible rfl)))
            simp only [Act.put, List.setIfInBounds_toArray, List.set_cons_zero, List.set_cons_succ]
            refine done_L (by kernel_rfl) ?_ _
            refine NoPanic.normal ?_
            go_wp2_with fail
            go_roundw
            case rel => exact ⟨k + 1, f, by omega, by go_num, Hst.out, HB5.out⟩
            case measure => first | (simp [intOf]; done) | (simp [intOf]; omega)
      · obtain rfl : k = xs.length := by omega
        obtain rfl : f = 0 := by omega
        have hil' : ¬ ((xs.length : Int) < (xs.length : Int)) := by omega
        go_wp2_with fail
        go_ret2
        exact ⟨by rw [← Hfl.out]; rfl, Hbl.out⟩
end Go.Proofs.Ytalalegjeegocaa
