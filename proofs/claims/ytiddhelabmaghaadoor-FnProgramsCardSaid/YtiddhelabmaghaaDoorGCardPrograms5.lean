/- Merged texts: Cp5, Sz1, Cp6, Cp7, Cp8, Cp9, Rn6, Pp1. -/
import Derived.Test.YtiddhelabmaghaaDoorGCardPrograms4
import Derived.Test.YtiddhelabmaghaaDoorGCardPrograms1
import Derived.Test.YtiddhelabmaghaaDoorGCardPrograms2
import Derived.Test.YtiddhelabmaghaaDoorGCardPrograms3
/- A program's line, read, part 5 (printed by gen_cp5.py): l11Line (reference). -/
namespace Go.Proofs.YtiddhelabmaghaaDoor
open Go.RowKit Go.Joins

theorem own_wd {w : World} {base : Nat} {v : Value} {L : List ByteArray} (h : w.ownsRow base 9 1 v L.length (L.map Value.string)) (hn : 0 < L.length) :
    ∃ g c, v = .slice (some ⟨g, 0, none⟩) L.length c ∧ WdAt g L.length (fun i => L.getD i ⟨#[]⟩) w := by
  rcases h.2 with ⟨_, h0⟩ | ⟨g, cap, _, hv, _, _, h1, h2, _⟩
  · omega
  · subst hv
    refine ⟨g, cap, rfl, fun i hi => ?_⟩
    have hc := h.cells (g := g) rfl i (.string (L.getD i ⟨#[]⟩)) (by
      rw [List.getElem?_map, List.getElem?_eq_getElem hi, List.getD_eq_getElem?_getD, List.getElem?_eq_getElem hi]; rfl)
    rwa [add0] at hc

set_option maxRecDepth 100000 in
set_option maxHeartbeats 3200000 in
theorem l11Line_any (s : ByteArray) (w : World) (hs : s.size ≤ 1073741824) : Calls Tryd.prog 115 #[.string s] w (RetRl w (rl s)) := by
  have HSp := Lib.hid (fun wx => l01Split_any s 32 wx hs)
  unfold RetPs at HSp
  have HO := Lib.hid (fun wx => l11Words_all wx)
  have Hz := Lib.hid (show (restL s).size ≤ 1073741824 by unfold restL; rw [ByteArray.size_extract]; omega)
  have HR := Lib.hid (fun wx => l01Number_any (restL s) wx Hz.out)
  unfold RetN1 at HR
  have Hn := Lib.hid (fun h => rl_none (s := s) h)
  have hle := opW_le (wordL s)
  have HX := Lib.hid (fun k => opW_step (wordL s) k)
  have H11 := Lib.hid (show opW (wordL s) = opF (wordL s) 11 from rfl)
  have HP : ∃ L, splitB 32 s = L ∧ 0 < L.length ∧ L.length ≤ 1073741825 ∧ L.getD 0 ⟨#[]⟩ = wordL s ∧ ((L.length = 1 ∧ Hid (∀ n, opW (wordL s) = n → n ≠ 0 → rl s = if n = 1 ∨ n = 8 then (0, 0, 2) else if n ≤ 5 then ((n : Int), 1, 0) else ((n : Int), 0, 0))) ∨
      (L.length = 2 ∧ L.getD 1 ⟨#[]⟩ = restL s ∧ Hid (∀ n, opW (wordL s) = n → n ≠ 0 → (readN (restL s) = none → rl s = (0, 0, 2)) ∧ ∀ a, readN (restL s) = some a → rl s = if okS n a = true then ((n : Int), a, 0) else (0, 0, 2))) ∨
      (2 < L.length ∧ Hid (∀ n, opW (wordL s) = n → n ≠ 0 → rl s = (0, 0, 2)))) := by
    have h0 := fnd_le 32 s
    have hlen := splitB_len 32 s.size s (Nat.le_refl _)
    rcases Nat.lt_or_ge (fnd 32 s) s.size with hf | hf
    · have h1 := fnd_le 32 (restL s)
      rcases Nat.lt_or_ge (fnd 32 (restL s)) (restL s).size with hr | hr
      · obtain ⟨l, hl, h2⟩ := parts_many hf hr
        rw [hl] at hlen
        exact ⟨_, hl, by simp, by omega, rfl, .inr (.inr ⟨by rw [List.length_cons]; omega, Lib.hid (fun n h3 h4 => rl_nonum h3 h4 hf (readN_blank hr))⟩)⟩
      · exact ⟨_, parts_two hf (by omega), by simp, by simp, rfl, .inr (.inl ⟨rfl, rfl, Lib.hid (fun n h3 h4 => ⟨fun h5 => rl_nonum h3 h4 hf h5, fun a h5 => rl_num h3 h4 hf h5⟩)⟩)⟩
    · exact ⟨_, parts_one (by omega), by simp, by simp, rfl, .inl ⟨rfl, Lib.hid (fun n h3 h4 => rl_one h3 h4 (by omega))⟩⟩
  obtain ⟨L, hL, hpos, hmax, hf0, hcases⟩ := HP
  rw [hL] at HSp
  clear hL
  generalize wordL s = X at *
  generalize restL s = Y at *
  have hb0 := Below.refl (w.alloc (.cells #[.int .i64 0, .int .i64 0] 91)).heap.size (w.alloc (.cells #[.int .i64 0, .int .i64 0] 91))
  have HB0 := Lib.hid hb0; clear hb0
  go_enter Tryd.func115, Tryd.ntmps115
  go_wp2_with fail
  refine (HSp.out _).mono ?_; rintro e w5 ⟨v5, rfl, ho5, hb5⟩
  have HB5 := Lib.hid hb5
  obtain ⟨gp, cp, rfl, hw5⟩ := own_wd ho5 hpos
  generalize hf : (fun i => L.getD i ⟨#[]⟩) = f at *
  generalize hm : L.length = m at *
  have hf0' : f 0 = X := by rw [← hf]; exact hf0
  have Hf := Lib.hid hf; clear hf hf0
  have W5 := Lib.hid hw5
  clear ho5 hb5 hw5 HSp HB0
  go_wp2_with fail
  refine (HO.out _).mono ?_; rintro e w6 ⟨rfl, hw6, hb6⟩
  have HB6 := Lib.hid (HB5.out.trans (hb6.mono HB5.out.size))
  have W6 := Lib.hid hw6
  have P6 := Lib.hid (W5.out.next hb6)
  generalize w5.heap.size = b at *
  clear hb6 hw6 HO HB5 W5
  go_wp2_with fail
  go_loopw [6, 7] (fun o i wr => ∃ k : Nat, k ≤ 10 ∧ i = .int .i64 (k : Int) ∧ o = .int .i64 (opF X (k + 1) : Int) ∧ Below (w.alloc (.cells #[.int .i64 0, .int .i64 0] 91)).heap.size (w.alloc (.cells #[.int .i64 0, .int .i64 0] 91)) wr ∧ WdAt b 10 (fun k => wordP (k + 1)) wr ∧ WdAt gp m f wr) (fun _ i _ => 10 - (intOf i).toNat)
  case atStart => exact ⟨0, by omega, rfl, rfl, HB6.out, W6.out, P6.out⟩
  case round =>
    obtain ⟨k, hk, rfl, rfl, hb, hw, hp⟩ := hrel
    have Hb := Lib.hid hb
    have Hw := Lib.hid hw
    have Hp := Lib.hid hp
    clear HB6 W6 P6
    have hp0 := hp 0 hpos
    rw [hf0'] at hp0
    by_cases hlt : k < 10
    · have hlt' : (k : Int) < 10 := by omega
      have hc := hw k hlt
      have hst := HX.out (k + 1)
      have hm0 : (0 : Int) < (m : Int) := by omega
      clear hb hw hp
      dsimp only at hc
      by_cases he : wordP (k + 1) = X
      · have Hst := Lib.hid (show opF X (k + 1 + 1) = k + 1 by rw [hst, if_pos ⟨by omega, he⟩])
        rw [he] at hc
        clear he hst
        go_wp2_with fail
        go_quiet (fail)
        go_wp2_with fail
        go_roundw
        case rel => exact ⟨k + 1, by omega, by go_num, by rw [Hst.out]; go_num, below_drewN Hb.out _, Hw.out, Hp.out⟩
        case measure => simp [intOf]; omega
      · have Hst := Lib.hid (show opF X (k + 1 + 1) = opF X (k + 1) by rw [hst, if_neg fun h => he h.2])
        have hbq : ((wordP (k + 1)).toList == X.toList) = false := beq_eq_false_iff_ne.2 fun e => he (ba_inj e)
        generalize wordP (k + 1) = Wk at *
        clear he hst
        go_wp2_with fail
        go_quiet (fail)
        go_wp2_with fail
        go_roundw
        case rel => exact ⟨k + 1, by omega, by go_num, by rw [Hst.out], below_drewN Hb.out _, Hw.out, Hp.out⟩
        case measure => simp [intOf]; omega
    · have hk10 : k = 10 := by omega
      subst hk10
      rw [show opF X (10 + 1) = opW X from H11.out.symm]
      clear Hw hw hp HX H11 hlt hk hb hp0
      generalize opW X = n at *
      obtain ⟨d0, d1, e0, e1⟩ := res2_pre Hb.out
      by_cases h0 : n = 0
      · subst h0
        have HD := Lib.hid (res2_post Hb.out (.int .i64 0) (.int .i64 0))
        have hn := Hn.out rfl
        clear hcases Hn
        go_wp2_with fail
        obtain ⟨p0, p1, hbz⟩ := HD.out
        refine bodyPost_ret (v := .tuple #[.agg #[.int .i64 0, .int .i64 0], .int .i64 1]) (by simp [results, Tryd.results115, go_sem, p0, p1]) rfl ?_
        unfold RetRl; rw [hn]; exact ⟨rfl, hbz⟩
      · have R1 := Lib.hid (Rl.start _ Hb.out (n : Int) 0 rfl)
        have hne : ((n : Int) == 0) = false := by rw [beq_eq_false_iff_ne]; omega
        have P1 := Lib.hid (Hp.out.next ((Below.refl wr.heap.size wr).alloc (Nat.le_refl _) (.cells #[.int .i64 (n : Int), .int .i64 0] 91)))
        rcases hcases with ⟨hm1, HF⟩ | ⟨hm2, hf1, HF⟩ | ⟨hm3, HF⟩
        · subst hm1
          have hcs : n = 1 ∨ n = 8 ∨ n = 2 ∨ n = 3 ∨ n = 4 ∨ n = 5 ∨ n = 6 ∨ n = 7 ∨ n = 9 ∨ n = 10 := by omega
          have HI := Lib.hid (fun wx => l00In_any (n : Int) 2 5 wx)
          have HA := Lib.hid (fun a wx => l11Arg_any (n : Int) a wx)
          have HFn := Lib.hid (HF.out n rfl h0)
          clear Hn HF h0
          go_wp2_with fail
          refine (HI.out _).mono ?_; rintro e wn ⟨rfl, hwn⟩
          rw [hwn] at R1
          clear hwn HI P1 Hb Hp
          generalize wr.heap.size = g at *
          have HL2 := Lib.hid hle
          clear hle
          rcases hcs with rfl | rfl | rfl | rfl | rfl | rfl | rfl | rfl | rfl | rfl
          · have hin : inB ((1 : Nat) : Int) 2 5 = false := by decide
            rw [hin]
            clear hin
            have hfin : rl s = (0, 0, 2) := HFn.out
            have h00 : Hid (rl s = rl s) := Lib.hid rfl
            have R2 := R1
            have HD := Lib.hid (R2.out.done 0 0)
            obtain ⟨c0, c1, f0, f1⟩ := R1.out.cells
            obtain ⟨d0, d1, e0, e1⟩ := R1.out.rcells
            clear h00
            go_wp2_with fail
            obtain ⟨p0, p1, hbz⟩ := HD.out
            refine bodyPost_ret (v := .tuple #[.agg #[.int .i64 0, .int .i64 0], .int .i64 2]) (by simp [results, Tryd.results115, go_sem, p0, p1]) rfl ?_
            unfold RetRl; rw [hfin]; exact ⟨rfl, hbz⟩
          · have hin : inB ((8 : Nat) : Int) 2 5 = false := by decide
            rw [hin]
            clear hin
            have hin : argF ((8 : Nat) : Int) 0 = false := by decide
            have HAx := Lib.hid (fun wx => HA.out 0 wx)
            rw [hin] at HAx
            clear hin
            have hfin : rl s = (0, 0, 2) := HFn.out
            have h00 : Hid (rl s = rl s) := Lib.hid rfl
            have R2 := R1
            have HD := Lib.hid (R2.out.done 0 0)
            obtain ⟨c0, c1, f0, f1⟩ := R1.out.cells
            obtain ⟨d0, d1, e0, e1⟩ := R1.out.rcells
            clear h00
            go_wp2_with fail
            refine (HAx.out _).mono ?_; rintro e w1 ⟨rfl, rfl⟩
            go_wp2_with fail
            obtain ⟨p0, p1, hbz⟩ := HD.out
            refine bodyPost_ret (v := .tuple #[.agg #[.int .i64 0, .int .i64 0], .int .i64 2]) (by simp [results, Tryd.results115, go_sem, p0, p1]) rfl ?_
            unfold RetRl; rw [hfin]; exact ⟨rfl, hbz⟩
          · have hin : inB ((2 : Nat) : Int) 2 5 = true := by decide
            rw [hin]
            clear hin
            have hin : argF ((2 : Nat) : Int) 1 = true := by decide
            have HAx := Lib.hid (fun wx => HA.out 1 wx)
            rw [hin] at HAx
            clear hin
            have hfin : rl s = ((2 : Int), 1, 0) := HFn.out
            have h00 : Hid (rl s = rl s) := Lib.hid rfl
            have R2 := Lib.hid (R1.out.set1 1)
            have HD := Lib.hid (R2.out.done (2 : Int) 1)
            obtain ⟨c20, c21, f20, f21⟩ := R2.out.cells
            obtain ⟨d20, d21, e20, e21⟩ := R2.out.rcells
            obtain ⟨c0, c1, f0, f1⟩ := R1.out.cells
            obtain ⟨d0, d1, e0, e1⟩ := R1.out.rcells
            clear h00
            go_wp2_with fail
            refine (HAx.out _).mono ?_; rintro e w1 ⟨rfl, rfl⟩
            go_wp2_with fail
            obtain ⟨p0, p1, hbz⟩ := HD.out
            refine bodyPost_ret (v := .tuple #[.agg #[.int .i64 (2 : Int), .int .i64 1], .int .i64 0]) (by simp [results, Tryd.results115, go_sem, p0, p1]) rfl ?_
            unfold RetRl; rw [hfin]; exact ⟨rfl, hbz⟩
          · have hin : inB ((3 : Nat) : Int) 2 5 = true := by decide
            rw [hin]
            clear hin
            have hin : argF ((3 : Nat) : Int) 1 = true := by decide
            have HAx := Lib.hid (fun wx => HA.out 1 wx)
            rw [hin] at HAx
            clear hin
            have hfin : rl s = ((3 : Int), 1, 0) := HFn.out
            have h00 : Hid (rl s = rl s) := Lib.hid rfl
            have R2 := Lib.hid (R1.out.set1 1)
            have HD := Lib.hid (R2.out.done (3 : Int) 1)
            obtain ⟨c20, c21, f20, f21⟩ := R2.out.cells
            obtain ⟨d20, d21, e20, e21⟩ := R2.out.rcells
            obtain ⟨c0, c1, f0, f1⟩ := R1.out.cells
            obtain ⟨d0, d1, e0, e1⟩ := R1.out.rcells
            clear h00
            go_wp2_with fail
            refine (HAx.out _).mono ?_; rintro e w1 ⟨rfl, rfl⟩
            go_wp2_with fail
            obtain ⟨p0, p1, hbz⟩ := HD.out
            refine bodyPost_ret (v := .tuple #[.agg #[.int .i64 (3 : Int), .int .i64 1], .int .i64 0]) (by simp [results, Tryd.results115, go_sem, p0, p1]) rfl ?_
            unfold RetRl; rw [hfin]; exact ⟨rfl, hbz⟩
          · have hin : inB ((4 : Nat) : Int) 2 5 = true := by decide
            rw [hin]
            clear hin
            have hin : argF ((4 : Nat) : Int) 1 = true := by decide
            have HAx := Lib.hid (fun wx => HA.out 1 wx)
            rw [hin] at HAx
            clear hin
            have hfin : rl s = ((4 : Int), 1, 0) := HFn.out
            have h00 : Hid (rl s = rl s) := Lib.hid rfl
            have R2 := Lib.hid (R1.out.set1 1)
            have HD := Lib.hid (R2.out.done (4 : Int) 1)
            obtain ⟨c20, c21, f20, f21⟩ := R2.out.cells
            obtain ⟨d20, d21, e20, e21⟩ := R2.out.rcells
            obtain ⟨c0, c1, f0, f1⟩ := R1.out.cells
            obtain ⟨d0, d1, e0, e1⟩ := R1.out.rcells
            clear h00
            go_wp2_with fail
            refine (HAx.out _).mono ?_; rintro e w1 ⟨rfl, rfl⟩
            go_wp2_with fail
            obtain ⟨p0, p1, hbz⟩ := HD.out
            refine bodyPost_ret (v := .tuple #[.agg #[.int .i64 (4 : Int), .int .i64 1], .int .i64 0]) (by simp [results, Tryd.results115, go_sem, p0, p1]) rfl ?_
            unfold RetRl; rw [hfin]; exact ⟨rfl, hbz⟩
          · have hin : inB ((5 : Nat) : Int) 2 5 = true := by decide
            rw [hin]
            clear hin
            have hin : argF ((5 : Nat) : Int) 1 = true := by decide
            have HAx := Lib.hid (fun wx => HA.out 1 wx)
            rw [hin] at HAx
            clear hin
            have hfin : rl s = ((5 : Int), 1, 0) := HFn.out
            have h00 : Hid (rl s = rl s) := Lib.hid rfl
            have R2 := Lib.hid (R1.out.set1 1)
            have HD := Lib.hid (R2.out.done (5 : Int) 1)
            obtain ⟨c20, c21, f20, f21⟩ := R2.out.cells
            obtain ⟨d20, d21, e20, e21⟩ := R2.out.rcells
            obtain ⟨c0, c1, f0, f1⟩ := R1.out.cells
            obtain ⟨d0, d1, e0, e1⟩ := R1.out.rcells
            clear h00
            go_wp2_with fail
            refine (HAx.out _).mono ?_; rintro e w1 ⟨rfl, rfl⟩
            go_wp2_with fail
            obtain ⟨p0, p1, hbz⟩ := HD.out
            refine bodyPost_ret (v := .tuple #[.agg #[.int .i64 (5 : Int), .int .i64 1], .int .i64 0]) (by simp [results, Tryd.results115, go_sem, p0, p1]) rfl ?_
            unfold RetRl; rw [hfin]; exact ⟨rfl, hbz⟩
          · have hin : inB ((6 : Nat) : Int) 2 5 = false := by decide
            rw [hin]
            clear hin
            have hin : argF ((6 : Nat) : Int) 0 = true := by decide
            have HAx := Lib.hid (fun wx => HA.out 0 wx)
            rw [hin] at HAx
            clear hin
            have hfin : rl s = ((6 : Int), 0, 0) := HFn.out
            have h00 : Hid (rl s = rl s) := Lib.hid rfl
            have R2 := R1
            have HD := Lib.hid (R2.out.done (6 : Int) 0)
            obtain ⟨c0, c1, f0, f1⟩ := R1.out.cells
            obtain ⟨d0, d1, e0, e1⟩ := R1.out.rcells
            clear h00
            go_wp2_with fail
            refine (HAx.out _).mono ?_; rintro e w1 ⟨rfl, rfl⟩
            go_wp2_with fail
            obtain ⟨p0, p1, hbz⟩ := HD.out
            refine bodyPost_ret (v := .tuple #[.agg #[.int .i64 (6 : Int), .int .i64 0], .int .i64 0]) (by simp [results, Tryd.results115, go_sem, p0, p1]) rfl ?_
            unfold RetRl; rw [hfin]; exact ⟨rfl, hbz⟩
          · have hin : inB ((7 : Nat) : Int) 2 5 = false := by decide
            rw [hin]
            clear hin
            have hin : argF ((7 : Nat) : Int) 0 = true := by decide
            have HAx := Lib.hid (fun wx => HA.out 0 wx)
            rw [hin] at HAx
            clear hin
            have hfin : rl s = ((7 : Int), 0, 0) := HFn.out
            have h00 : Hid (rl s = rl s) := Lib.hid rfl
            have R2 := R1
            have HD := Lib.hid (R2.out.done (7 : Int) 0)
            obtain ⟨c0, c1, f0, f1⟩ := R1.out.cells
            obtain ⟨d0, d1, e0, e1⟩ := R1.out.rcells
            clear h00
            go_wp2_with fail
            refine (HAx.out _).mono ?_; rintro e w1 ⟨rfl, rfl⟩
            go_wp2_with fail
            obtain ⟨p0, p1, hbz⟩ := HD.out
            refine bodyPost_ret (v := .tuple #[.agg #[.int .i64 (7 : Int), .int .i64 0], .int .i64 0]) (by simp [results, Tryd.results115, go_sem, p0, p1]) rfl ?_
            unfold RetRl; rw [hfin]; exact ⟨rfl, hbz⟩
          · have hin : inB ((9 : Nat) : Int) 2 5 = false := by decide
            rw [hin]
            clear hin
            have hin : argF ((9 : Nat) : Int) 0 = true := by decide
            have HAx := Lib.hid (fun wx => HA.out 0 wx)
            rw [hin] at HAx
            clear hin
            have hfin : rl s = ((9 : Int), 0, 0) := HFn.out
            have h00 : Hid (rl s = rl s) := Lib.hid rfl
            have R2 := R1
            have HD := Lib.hid (R2.out.done (9 : Int) 0)
            obtain ⟨c0, c1, f0, f1⟩ := R1.out.cells
            obtain ⟨d0, d1, e0, e1⟩ := R1.out.rcells
            clear h00
            go_wp2_with fail
            refine (HAx.out _).mono ?_; rintro e w1 ⟨rfl, rfl⟩
            go_wp2_with fail
            obtain ⟨p0, p1, hbz⟩ := HD.out
            refine bodyPost_ret (v := .tuple #[.agg #[.int .i64 (9 : Int), .int .i64 0], .int .i64 0]) (by simp [results, Tryd.results115, go_sem, p0, p1]) rfl ?_
            unfold RetRl; rw [hfin]; exact ⟨rfl, hbz⟩
          · have hin : inB ((10 : Nat) : Int) 2 5 = false := by decide
            rw [hin]
            clear hin
            have hin : argF ((10 : Nat) : Int) 0 = true := by decide
            have HAx := Lib.hid (fun wx => HA.out 0 wx)
            rw [hin] at HAx
            clear hin
            have hfin : rl s = ((10 : Int), 0, 0) := HFn.out
            have h00 : Hid (rl s = rl s) := Lib.hid rfl
            have R2 := R1
            have HD := Lib.hid (R2.out.done (10 : Int) 0)
            obtain ⟨c0, c1, f0, f1⟩ := R1.out.cells
            obtain ⟨d0, d1, e0, e1⟩ := R1.out.rcells
            clear h00
            go_wp2_with fail
            refine (HAx.out _).mono ?_; rintro e w1 ⟨rfl, rfl⟩
            go_wp2_with fail
            obtain ⟨p0, p1, hbz⟩ := HD.out
            refine bodyPost_ret (v := .tuple #[.agg #[.int .i64 (10 : Int), .int .i64 0], .int .i64 0]) (by simp [results, Tryd.results115, go_sem, p0, p1]) rfl ?_
            unfold RetRl; rw [hfin]; exact ⟨rfl, hbz⟩
        · subst hm2
          have hcs : n = 1 ∨ n = 8 ∨ n = 2 ∨ n = 3 ∨ n = 4 ∨ n = 5 ∨ n = 6 ∨ n = 7 ∨ n = 9 ∨ n = 10 := by omega
          have HA := Lib.hid (fun a wx => l11Arg_any (n : Int) a wx)
          have HFn := Lib.hid (HF.out n rfl h0)
          have hf1' : f 1 = Y := by rw [← Hf.out]; exact hf1
          have hp1 := P1.out 1 (by omega)
          rw [hf1'] at hp1
          obtain ⟨c0, c1, f0, f1⟩ := R1.out.cells
          go_wp2_with fail
          refine (HR.out _).mono ?_; rintro e w88 ⟨rfl, hb8⟩
          have R2 := Lib.hid (R1.out.next hb8)
          clear hb8 c0 c1 f0 f1 d0 d1 e0 e1 R1 P1 Hb Hp
          generalize wr.heap.size = g at *
          obtain ⟨c0, c1, f0, f1⟩ := R2.out.cells
          clear Hn HF h0 hle hf1 hf1' hf0' HR hp1
          rcases hcs with rfl | rfl | rfl | rfl | rfl | rfl | rfl | rfl | rfl | rfl
          · cases hq : readN Y with
            | none =>
              have hfin : rl s = (0, 0, 2) := HFn.out.1 hq
              clear hq HFn
              have R3 := Lib.hid (R2.out.set1 0)
              obtain ⟨d0, d1, e0, e1⟩ := R3.out.rcells
              have HD := Lib.hid (R3.out.done 0 0)
              go_wp2_with fail
              obtain ⟨p0, p1, hbz⟩ := HD.out
              refine bodyPost_ret (v := .tuple #[.agg #[.int .i64 0, .int .i64 0], .int .i64 2]) (by simp [results, Tryd.results115, go_sem, p0, p1]) rfl ?_
              unfold RetRl; rw [hfin]; exact ⟨rfl, hbz⟩
            | some a =>
              have HFx := Lib.hid (HFn.out.2 a hq)
              clear hq HFn
              by_cases ha1 : a = 1
              · subst ha1
                have hin : argF ((1 : Nat) : Int) 1 = true := by decide
                have HAx := Lib.hid (fun wx => HA.out 1 wx)
                rw [hin] at HAx
                clear hin
                have hfin : rl s = ((1 : Int), 1, 0) := HFx.out
                clear HFx
                have R3 := Lib.hid (R2.out.set1 1)
                obtain ⟨d0, d1, e0, e1⟩ := R3.out.rcells
                obtain ⟨c30, c31, f30, f31⟩ := R3.out.cells
                have HD := Lib.hid (R3.out.done (1 : Int) 1)
                go_wp2_with fail
                refine (HAx.out _).mono ?_; rintro e w1 ⟨rfl, rfl⟩
                go_wp2_with fail
                obtain ⟨p0, p1, hbz⟩ := HD.out
                refine bodyPost_ret (v := .tuple #[.agg #[.int .i64 (1 : Int), .int .i64 1], .int .i64 0]) (by simp [results, Tryd.results115, go_sem, p0, p1]) rfl ?_
                unfold RetRl; rw [hfin]; exact ⟨rfl, hbz⟩
              · by_cases ha0 : a = 0
                · subst ha0
                  have hin : argF ((1 : Nat) : Int) 0 = true := by decide
                  have HAx := Lib.hid (fun wx => HA.out 0 wx)
                  rw [hin] at HAx
                  clear hin
                  have hfin : rl s = ((1 : Int), 0, 0) := HFx.out
                  clear HFx
                  have R3 := Lib.hid (R2.out.set1 0)
                  obtain ⟨d0, d1, e0, e1⟩ := R3.out.rcells
                  obtain ⟨c30, c31, f30, f31⟩ := R3.out.cells
                  have HD := Lib.hid (R3.out.done (1 : Int) 0)
                  go_wp2_with fail
                  refine (HAx.out _).mono ?_; rintro e w1 ⟨rfl, rfl⟩
                  go_wp2_with fail
                  obtain ⟨p0, p1, hbz⟩ := HD.out
                  refine bodyPost_ret (v := .tuple #[.agg #[.int .i64 (1 : Int), .int .i64 0], .int .i64 0]) (by simp [results, Tryd.results115, go_sem, p0, p1]) rfl ?_
                  unfold RetRl; rw [hfin]; exact ⟨rfl, hbz⟩
                · cases hg : argF ((1 : Nat) : Int) a with
                  | true =>
                    have HAx := Lib.hid (fun wx => HA.out a wx)
                    rw [hg] at HAx
                    have hk : okS 1 a = true := by unfold okS; rw [hg, decide_eq_true ha1, decide_eq_true ha0]; rfl
                    have hfin : rl s = ((1 : Int), a, 0) := by rw [HFx.out, hk]; rfl
                    have n1 : (a != 1) = true := by simp [ha1]
                    have n0 : (a != 0) = true := by simp [ha0]
                    clear ha1 ha0 hg hk
                    clear HFx
                    have R3 := Lib.hid (R2.out.set1 a)
                    obtain ⟨d0, d1, e0, e1⟩ := R3.out.rcells
                    obtain ⟨c30, c31, f30, f31⟩ := R3.out.cells
                    have HD := Lib.hid (R3.out.done (1 : Int) a)
                    go_wp2_with fail
                    refine (HAx.out _).mono ?_; rintro e w1 ⟨rfl, rfl⟩
                    go_wp2_with fail
                    obtain ⟨p0, p1, hbz⟩ := HD.out
                    refine bodyPost_ret (v := .tuple #[.agg #[.int .i64 (1 : Int), .int .i64 a], .int .i64 0]) (by simp [results, Tryd.results115, go_sem, p0, p1]) rfl ?_
                    unfold RetRl; rw [hfin]; exact ⟨rfl, hbz⟩
                  | false =>
                    have HAx := Lib.hid (fun wx => HA.out a wx)
                    rw [hg] at HAx
                    have hk : okS 1 a = false := by unfold okS; rw [hg, decide_eq_true ha1, decide_eq_true ha0]; rfl
                    have hfin : rl s = (0, 0, 2) := by rw [HFx.out, hk]; rfl
                    have n1 : (a != 1) = true := by simp [ha1]
                    have n0 : (a != 0) = true := by simp [ha0]
                    clear ha1 ha0 hg hk
                    clear HFx
                    have R3 := Lib.hid (R2.out.set1 a)
                    obtain ⟨d0, d1, e0, e1⟩ := R3.out.rcells
                    obtain ⟨c30, c31, f30, f31⟩ := R3.out.cells
                    have HD := Lib.hid (R3.out.done 0 0)
                    go_wp2_with fail
                    refine (HAx.out _).mono ?_; rintro e w1 ⟨rfl, rfl⟩
                    go_wp2_with fail
                    obtain ⟨p0, p1, hbz⟩ := HD.out
                    refine bodyPost_ret (v := .tuple #[.agg #[.int .i64 0, .int .i64 0], .int .i64 2]) (by simp [results, Tryd.results115, go_sem, p0, p1]) rfl ?_
                    unfold RetRl; rw [hfin]; exact ⟨rfl, hbz⟩
          · cases hq : readN Y with
            | none =>
              have hfin : rl s = (0, 0, 2) := HFn.out.1 hq
              clear hq HFn
              have R3 := Lib.hid (R2.out.set1 0)
              obtain ⟨d0, d1, e0, e1⟩ := R3.out.rcells
              have HD := Lib.hid (R3.out.done 0 0)
              go_wp2_with fail
              obtain ⟨p0, p1, hbz⟩ := HD.out
              refine bodyPost_ret (v := .tuple #[.agg #[.int .i64 0, .int .i64 0], .int .i64 2]) (by simp [results, Tryd.results115, go_sem, p0, p1]) rfl ?_
              unfold RetRl; rw [hfin]; exact ⟨rfl, hbz⟩
            | some a =>
              have HFx := Lib.hid (HFn.out.2 a hq)
              clear hq HFn
              by_cases ha1 : a = 1
              · subst ha1
                have hin : argF ((8 : Nat) : Int) 1 = true := by decide
                have HAx := Lib.hid (fun wx => HA.out 1 wx)
                rw [hin] at HAx
                clear hin
                have hfin : rl s = ((8 : Int), 1, 0) := HFx.out
                clear HFx
                have R3 := Lib.hid (R2.out.set1 1)
                obtain ⟨d0, d1, e0, e1⟩ := R3.out.rcells
                obtain ⟨c30, c31, f30, f31⟩ := R3.out.cells
                have HD := Lib.hid (R3.out.done (8 : Int) 1)
                go_wp2_with fail
                refine (HAx.out _).mono ?_; rintro e w1 ⟨rfl, rfl⟩
                go_wp2_with fail
                obtain ⟨p0, p1, hbz⟩ := HD.out
                refine bodyPost_ret (v := .tuple #[.agg #[.int .i64 (8 : Int), .int .i64 1], .int .i64 0]) (by simp [results, Tryd.results115, go_sem, p0, p1]) rfl ?_
                unfold RetRl; rw [hfin]; exact ⟨rfl, hbz⟩
              · by_cases ha0 : a = 0
                · subst ha0
                  have hfin : rl s = (0, 0, 2) := HFx.out
                  clear HFx
                  have R3 := Lib.hid (R2.out.set1 0)
                  obtain ⟨d0, d1, e0, e1⟩ := R3.out.rcells
                  obtain ⟨c30, c31, f30, f31⟩ := R3.out.cells
                  have HD := Lib.hid (R3.out.done 0 0)
                  go_wp2_with fail
                  obtain ⟨p0, p1, hbz⟩ := HD.out
                  refine bodyPost_ret (v := .tuple #[.agg #[.int .i64 0, .int .i64 0], .int .i64 2]) (by simp [results, Tryd.results115, go_sem, p0, p1]) rfl ?_
                  unfold RetRl; rw [hfin]; exact ⟨rfl, hbz⟩
                · cases hg : argF ((8 : Nat) : Int) a with
                  | true =>
                    have HAx := Lib.hid (fun wx => HA.out a wx)
                    rw [hg] at HAx
                    have hk : okS 8 a = true := by unfold okS; rw [hg, decide_eq_true ha1, decide_eq_true ha0]; rfl
                    have hfin : rl s = ((8 : Int), a, 0) := by rw [HFx.out, hk]; rfl
                    have n1 : (a != 1) = true := by simp [ha1]
                    have n0 : (a != 0) = true := by simp [ha0]
                    clear ha1 ha0 hg hk
                    clear HFx
                    have R3 := Lib.hid (R2.out.set1 a)
                    obtain ⟨d0, d1, e0, e1⟩ := R3.out.rcells
                    obtain ⟨c30, c31, f30, f31⟩ := R3.out.cells
                    have HD := Lib.hid (R3.out.done (8 : Int) a)
                    go_wp2_with fail
                    refine (HAx.out _).mono ?_; rintro e w1 ⟨rfl, rfl⟩
                    go_wp2_with fail
                    obtain ⟨p0, p1, hbz⟩ := HD.out
                    refine bodyPost_ret (v := .tuple #[.agg #[.int .i64 (8 : Int), .int .i64 a], .int .i64 0]) (by simp [results, Tryd.results115, go_sem, p0, p1]) rfl ?_
                    unfold RetRl; rw [hfin]; exact ⟨rfl, hbz⟩
                  | false =>
                    have HAx := Lib.hid (fun wx => HA.out a wx)
                    rw [hg] at HAx
                    have hk : okS 8 a = false := by unfold okS; rw [hg, decide_eq_true ha1, decide_eq_true ha0]; rfl
                    have hfin : rl s = (0, 0, 2) := by rw [HFx.out, hk]; rfl
                    have n1 : (a != 1) = true := by simp [ha1]
                    have n0 : (a != 0) = true := by simp [ha0]
                    clear ha1 ha0 hg hk
                    clear HFx
                    have R3 := Lib.hid (R2.out.set1 a)
                    obtain ⟨d0, d1, e0, e1⟩ := R3.out.rcells
                    obtain ⟨c30, c31, f30, f31⟩ := R3.out.cells
                    have HD := Lib.hid (R3.out.done 0 0)
                    go_wp2_with fail
                    refine (HAx.out _).mono ?_; rintro e w1 ⟨rfl, rfl⟩
                    go_wp2_with fail
                    obtain ⟨p0, p1, hbz⟩ := HD.out
                    refine bodyPost_ret (v := .tuple #[.agg #[.int .i64 0, .int .i64 0], .int .i64 2]) (by simp [results, Tryd.results115, go_sem, p0, p1]) rfl ?_
                    unfold RetRl; rw [hfin]; exact ⟨rfl, hbz⟩
          · cases hq : readN Y with
            | none =>
              have hfin : rl s = (0, 0, 2) := HFn.out.1 hq
              clear hq HFn
              have R3 := Lib.hid (R2.out.set1 0)
              obtain ⟨d0, d1, e0, e1⟩ := R3.out.rcells
              have HD := Lib.hid (R3.out.done 0 0)
              go_wp2_with fail
              obtain ⟨p0, p1, hbz⟩ := HD.out
              refine bodyPost_ret (v := .tuple #[.agg #[.int .i64 0, .int .i64 0], .int .i64 2]) (by simp [results, Tryd.results115, go_sem, p0, p1]) rfl ?_
              unfold RetRl; rw [hfin]; exact ⟨rfl, hbz⟩
            | some a =>
              have HFx := Lib.hid (HFn.out.2 a hq)
              clear hq HFn
              by_cases ha1 : a = 1
              · subst ha1
                have hfin : rl s = (0, 0, 2) := HFx.out
                clear HFx
                have R3 := Lib.hid (R2.out.set1 1)
                obtain ⟨d0, d1, e0, e1⟩ := R3.out.rcells
                obtain ⟨c30, c31, f30, f31⟩ := R3.out.cells
                have HD := Lib.hid (R3.out.done 0 0)
                go_wp2_with fail
                obtain ⟨p0, p1, hbz⟩ := HD.out
                refine bodyPost_ret (v := .tuple #[.agg #[.int .i64 0, .int .i64 0], .int .i64 2]) (by simp [results, Tryd.results115, go_sem, p0, p1]) rfl ?_
                unfold RetRl; rw [hfin]; exact ⟨rfl, hbz⟩
              · by_cases ha0 : a = 0
                · subst ha0
                  have hfin : rl s = (0, 0, 2) := HFx.out
                  clear HFx
                  have R3 := Lib.hid (R2.out.set1 0)
                  obtain ⟨d0, d1, e0, e1⟩ := R3.out.rcells
                  obtain ⟨c30, c31, f30, f31⟩ := R3.out.cells
                  have HD := Lib.hid (R3.out.done 0 0)
                  go_wp2_with fail
                  obtain ⟨p0, p1, hbz⟩ := HD.out
                  refine bodyPost_ret (v := .tuple #[.agg #[.int .i64 0, .int .i64 0], .int .i64 2]) (by simp [results, Tryd.results115, go_sem, p0, p1]) rfl ?_
                  unfold RetRl; rw [hfin]; exact ⟨rfl, hbz⟩
                · cases hg : argF ((2 : Nat) : Int) a with
                  | true =>
                    have HAx := Lib.hid (fun wx => HA.out a wx)
                    rw [hg] at HAx
                    have hk : okS 2 a = true := by unfold okS; rw [hg, decide_eq_true ha1, decide_eq_true ha0]; rfl
                    have hfin : rl s = ((2 : Int), a, 0) := by rw [HFx.out, hk]; rfl
                    have n1 : (a != 1) = true := by simp [ha1]
                    have n0 : (a != 0) = true := by simp [ha0]
                    clear ha1 ha0 hg hk
                    clear HFx
                    have R3 := Lib.hid (R2.out.set1 a)
                    obtain ⟨d0, d1, e0, e1⟩ := R3.out.rcells
                    obtain ⟨c30, c31, f30, f31⟩ := R3.out.cells
                    have HD := Lib.hid (R3.out.done (2 : Int) a)
                    go_wp2_with fail
                    refine (HAx.out _).mono ?_; rintro e w1 ⟨rfl, rfl⟩
                    go_wp2_with fail
                    obtain ⟨p0, p1, hbz⟩ := HD.out
                    refine bodyPost_ret (v := .tuple #[.agg #[.int .i64 (2 : Int), .int .i64 a], .int .i64 0]) (by simp [results, Tryd.results115, go_sem, p0, p1]) rfl ?_
                    unfold RetRl; rw [hfin]; exact ⟨rfl, hbz⟩
                  | false =>
                    have HAx := Lib.hid (fun wx => HA.out a wx)
                    rw [hg] at HAx
                    have hk : okS 2 a = false := by unfold okS; rw [hg, decide_eq_true ha1, decide_eq_true ha0]; rfl
                    have hfin : rl s = (0, 0, 2) := by rw [HFx.out, hk]; rfl
                    have n1 : (a != 1) = true := by simp [ha1]
                    have n0 : (a != 0) = true := by simp [ha0]
                    clear ha1 ha0 hg hk
                    clear HFx
                    have R3 := Lib.hid (R2.out.set1 a)
                    obtain ⟨d0, d1, e0, e1⟩ := R3.out.rcells
                    obtain ⟨c30, c31, f30, f31⟩ := R3.out.cells
                    have HD := Lib.hid (R3.out.done 0 0)
                    go_wp2_with fail
                    refine (HAx.out _).mono ?_; rintro e w1 ⟨rfl, rfl⟩
                    go_wp2_with fail
                    obtain ⟨p0, p1, hbz⟩ := HD.out
                    refine bodyPost_ret (v := .tuple #[.agg #[.int .i64 0, .int .i64 0], .int .i64 2]) (by simp [results, Tryd.results115, go_sem, p0, p1]) rfl ?_
                    unfold RetRl; rw [hfin]; exact ⟨rfl, hbz⟩
          · cases hq : readN Y with
            | none =>
              have hfin : rl s = (0, 0, 2) := HFn.out.1 hq
              clear hq HFn
              have R3 := Lib.hid (R2.out.set1 0)
              obtain ⟨d0, d1, e0, e1⟩ := R3.out.rcells
              have HD := Lib.hid (R3.out.done 0 0)
              go_wp2_with fail
              obtain ⟨p0, p1, hbz⟩ := HD.out
              refine bodyPost_ret (v := .tuple #[.agg #[.int .i64 0, .int .i64 0], .int .i64 2]) (by simp [results, Tryd.results115, go_sem, p0, p1]) rfl ?_
              unfold RetRl; rw [hfin]; exact ⟨rfl, hbz⟩
            | some a =>
              have HFx := Lib.hid (HFn.out.2 a hq)
              clear hq HFn
              by_cases ha1 : a = 1
              · subst ha1
                have hfin : rl s = (0, 0, 2) := HFx.out
                clear HFx
                have R3 := Lib.hid (R2.out.set1 1)
                obtain ⟨d0, d1, e0, e1⟩ := R3.out.rcells
                obtain ⟨c30, c31, f30, f31⟩ := R3.out.cells
                have HD := Lib.hid (R3.out.done 0 0)
                go_wp2_with fail
                obtain ⟨p0, p1, hbz⟩ := HD.out
                refine bodyPost_ret (v := .tuple #[.agg #[.int .i64 0, .int .i64 0], .int .i64 2]) (by simp [results, Tryd.results115, go_sem, p0, p1]) rfl ?_
                unfold RetRl; rw [hfin]; exact ⟨rfl, hbz⟩
              · by_cases ha0 : a = 0
                · subst ha0
                  have hfin : rl s = (0, 0, 2) := HFx.out
                  clear HFx
                  have R3 := Lib.hid (R2.out.set1 0)
                  obtain ⟨d0, d1, e0, e1⟩ := R3.out.rcells
                  obtain ⟨c30, c31, f30, f31⟩ := R3.out.cells
                  have HD := Lib.hid (R3.out.done 0 0)
                  go_wp2_with fail
                  obtain ⟨p0, p1, hbz⟩ := HD.out
                  refine bodyPost_ret (v := .tuple #[.agg #[.int .i64 0, .int .i64 0], .int .i64 2]) (by simp [results, Tryd.results115, go_sem, p0, p1]) rfl ?_
                  unfold RetRl; rw [hfin]; exact ⟨rfl, hbz⟩
                · cases hg : argF ((3 : Nat) : Int) a with
                  | true =>
                    have HAx := Lib.hid (fun wx => HA.out a wx)
                    rw [hg] at HAx
                    have hk : okS 3 a = true := by unfold okS; rw [hg, decide_eq_true ha1, decide_eq_true ha0]; rfl
                    have hfin : rl s = ((3 : Int), a, 0) := by rw [HFx.out, hk]; rfl
                    have n1 : (a != 1) = true := by simp [ha1]
                    have n0 : (a != 0) = true := by simp [ha0]
                    clear ha1 ha0 hg hk
                    clear HFx
                    have R3 := Lib.hid (R2.out.set1 a)
                    obtain ⟨d0, d1, e0, e1⟩ := R3.out.rcells
                    obtain ⟨c30, c31, f30, f31⟩ := R3.out.cells
                    have HD := Lib.hid (R3.out.done (3 : Int) a)
                    go_wp2_with fail
                    refine (HAx.out _).mono ?_; rintro e w1 ⟨rfl, rfl⟩
                    go_wp2_with fail
                    obtain ⟨p0, p1, hbz⟩ := HD.out
                    refine bodyPost_ret (v := .tuple #[.agg #[.int .i64 (3 : Int), .int .i64 a], .int .i64 0]) (by simp [results, Tryd.results115, go_sem, p0, p1]) rfl ?_
                    unfold RetRl; rw [hfin]; exact ⟨rfl, hbz⟩
                  | false =>
                    have HAx := Lib.hid (fun wx => HA.out a wx)
                    rw [hg] at HAx
                    have hk : okS 3 a = false := by unfold okS; rw [hg, decide_eq_true ha1, decide_eq_true ha0]; rfl
                    have hfin : rl s = (0, 0, 2) := by rw [HFx.out, hk]; rfl
                    have n1 : (a != 1) = true := by simp [ha1]
                    have n0 : (a != 0) = true := by simp [ha0]
                    clear ha1 ha0 hg hk
                    clear HFx
                    have R3 := Lib.hid (R2.out.set1 a)
                    obtain ⟨d0, d1, e0, e1⟩ := R3.out.rcells
                    obtain ⟨c30, c31, f30, f31⟩ := R3.out.cells
                    have HD := Lib.hid (R3.out.done 0 0)
                    go_wp2_with fail
                    refine (HAx.out _).mono ?_; rintro e w1 ⟨rfl, rfl⟩
                    go_wp2_with fail
                    obtain ⟨p0, p1, hbz⟩ := HD.out
                    refine bodyPost_ret (v := .tuple #[.agg #[.int .i64 0, .int .i64 0], .int .i64 2]) (by simp [results, Tryd.results115, go_sem, p0, p1]) rfl ?_
                    unfold RetRl; rw [hfin]; exact ⟨rfl, hbz⟩
          · cases hq : readN Y with
            | none =>
              have hfin : rl s = (0, 0, 2) := HFn.out.1 hq
              clear hq HFn
              have R3 := Lib.hid (R2.out.set1 0)
              obtain ⟨d0, d1, e0, e1⟩ := R3.out.rcells
              have HD := Lib.hid (R3.out.done 0 0)
              go_wp2_with fail
              obtain ⟨p0, p1, hbz⟩ := HD.out
              refine bodyPost_ret (v := .tuple #[.agg #[.int .i64 0, .int .i64 0], .int .i64 2]) (by simp [results, Tryd.results115, go_sem, p0, p1]) rfl ?_
              unfold RetRl; rw [hfin]; exact ⟨rfl, hbz⟩
            | some a =>
              have HFx := Lib.hid (HFn.out.2 a hq)
              clear hq HFn
              by_cases ha1 : a = 1
              · subst ha1
                have hfin : rl s = (0, 0, 2) := HFx.out
                clear HFx
                have R3 := Lib.hid (R2.out.set1 1)
                obtain ⟨d0, d1, e0, e1⟩ := R3.out.rcells
                obtain ⟨c30, c31, f30, f31⟩ := R3.out.cells
                have HD := Lib.hid (R3.out.done 0 0)
                go_wp2_with fail
                obtain ⟨p0, p1, hbz⟩ := HD.out
                refine bodyPost_ret (v := .tuple #[.agg #[.int .i64 0, .int .i64 0], .int .i64 2]) (by simp [results, Tryd.results115, go_sem, p0, p1]) rfl ?_
                unfold RetRl; rw [hfin]; exact ⟨rfl, hbz⟩
              · by_cases ha0 : a = 0
                · subst ha0
                  have hfin : rl s = (0, 0, 2) := HFx.out
                  clear HFx
                  have R3 := Lib.hid (R2.out.set1 0)
                  obtain ⟨d0, d1, e0, e1⟩ := R3.out.rcells
                  obtain ⟨c30, c31, f30, f31⟩ := R3.out.cells
                  have HD := Lib.hid (R3.out.done 0 0)
                  go_wp2_with fail
                  obtain ⟨p0, p1, hbz⟩ := HD.out
                  refine bodyPost_ret (v := .tuple #[.agg #[.int .i64 0, .int .i64 0], .int .i64 2]) (by simp [results, Tryd.results115, go_sem, p0, p1]) rfl ?_
                  unfold RetRl; rw [hfin]; exact ⟨rfl, hbz⟩
                · cases hg : argF ((4 : Nat) : Int) a with
                  | true =>
                    have HAx := Lib.hid (fun wx => HA.out a wx)
                    rw [hg] at HAx
                    have hk : okS 4 a = true := by unfold okS; rw [hg, decide_eq_true ha1, decide_eq_true ha0]; rfl
                    have hfin : rl s = ((4 : Int), a, 0) := by rw [HFx.out, hk]; rfl
                    have n1 : (a != 1) = true := by simp [ha1]
                    have n0 : (a != 0) = true := by simp [ha0]
                    clear ha1 ha0 hg hk
                    clear HFx
                    have R3 := Lib.hid (R2.out.set1 a)
                    obtain ⟨d0, d1, e0, e1⟩ := R3.out.rcells
                    obtain ⟨c30, c31, f30, f31⟩ := R3.out.cells
                    have HD := Lib.hid (R3.out.done (4 : Int) a)
                    go_wp2_with fail
                    refine (HAx.out _).mono ?_; rintro e w1 ⟨rfl, rfl⟩
                    go_wp2_with fail
                    obtain ⟨p0, p1, hbz⟩ := HD.out
                    refine bodyPost_ret (v := .tuple #[.agg #[.int .i64 (4 : Int), .int .i64 a], .int .i64 0]) (by simp [results, Tryd.results115, go_sem, p0, p1]) rfl ?_
                    unfold RetRl; rw [hfin]; exact ⟨rfl, hbz⟩
                  | false =>
                    have HAx := Lib.hid (fun wx => HA.out a wx)
                    rw [hg] at HAx
                    have hk : okS 4 a = false := by unfold okS; rw [hg, decide_eq_true ha1, decide_eq_true ha0]; rfl
                    have hfin : rl s = (0, 0, 2) := by rw [HFx.out, hk]; rfl
                    have n1 : (a != 1) = true := by simp [ha1]
                    have n0 : (a != 0) = true := by simp [ha0]
                    clear ha1 ha0 hg hk
                    clear HFx
                    have R3 := Lib.hid (R2.out.set1 a)
                    obtain ⟨d0, d1, e0, e1⟩ := R3.out.rcells
                    obtain ⟨c30, c31, f30, f31⟩ := R3.out.cells
                    have HD := Lib.hid (R3.out.done 0 0)
                    go_wp2_with fail
                    refine (HAx.out _).mono ?_; rintro e w1 ⟨rfl, rfl⟩
                    go_wp2_with fail
                    obtain ⟨p0, p1, hbz⟩ := HD.out
                    refine bodyPost_ret (v := .tuple #[.agg #[.int .i64 0, .int .i64 0], .int .i64 2]) (by simp [results, Tryd.results115, go_sem, p0, p1]) rfl ?_
                    unfold RetRl; rw [hfin]; exact ⟨rfl, hbz⟩
          · cases hq : readN Y with
            | none =>
              have hfin : rl s = (0, 0, 2) := HFn.out.1 hq
              clear hq HFn
              have R3 := Lib.hid (R2.out.set1 0)
              obtain ⟨d0, d1, e0, e1⟩ := R3.out.rcells
              have HD := Lib.hid (R3.out.done 0 0)
              go_wp2_with fail
              obtain ⟨p0, p1, hbz⟩ := HD.out
              refine bodyPost_ret (v := .tuple #[.agg #[.int .i64 0, .int .i64 0], .int .i64 2]) (by simp [results, Tryd.results115, go_sem, p0, p1]) rfl ?_
              unfold RetRl; rw [hfin]; exact ⟨rfl, hbz⟩
            | some a =>
              have HFx := Lib.hid (HFn.out.2 a hq)
              clear hq HFn
              by_cases ha1 : a = 1
              · subst ha1
                have hfin : rl s = (0, 0, 2) := HFx.out
                clear HFx
                have R3 := Lib.hid (R2.out.set1 1)
                obtain ⟨d0, d1, e0, e1⟩ := R3.out.rcells
                obtain ⟨c30, c31, f30, f31⟩ := R3.out.cells
                have HD := Lib.hid (R3.out.done 0 0)
                go_wp2_with fail
                obtain ⟨p0, p1, hbz⟩ := HD.out
                refine bodyPost_ret (v := .tuple #[.agg #[.int .i64 0, .int .i64 0], .int .i64 2]) (by simp [results, Tryd.results115, go_sem, p0, p1]) rfl ?_
                unfold RetRl; rw [hfin]; exact ⟨rfl, hbz⟩
              · by_cases ha0 : a = 0
                · subst ha0
                  have hfin : rl s = (0, 0, 2) := HFx.out
                  clear HFx
                  have R3 := Lib.hid (R2.out.set1 0)
                  obtain ⟨d0, d1, e0, e1⟩ := R3.out.rcells
                  obtain ⟨c30, c31, f30, f31⟩ := R3.out.cells
                  have HD := Lib.hid (R3.out.done 0 0)
                  go_wp2_with fail
                  obtain ⟨p0, p1, hbz⟩ := HD.out
                  refine bodyPost_ret (v := .tuple #[.agg #[.int .i64 0, .int .i64 0], .int .i64 2]) (by simp [results, Tryd.results115, go_sem, p0, p1]) rfl ?_
                  unfold RetRl; rw [hfin]; exact ⟨rfl, hbz⟩
                · cases hg : argF ((5 : Nat) : Int) a with
                  | true =>
                    have HAx := Lib.hid (fun wx => HA.out a wx)
                    rw [hg] at HAx
                    have hk : okS 5 a = true := by unfold okS; rw [hg, decide_eq_true ha1, decide_eq_true ha0]; rfl
                    have hfin : rl s = ((5 : Int), a, 0) := by rw [HFx.out, hk]; rfl
                    have n1 : (a != 1) = true := by simp [ha1]
                    have n0 : (a != 0) = true := by simp [ha0]
                    clear ha1 ha0 hg hk
                    clear HFx
                    have R3 := Lib.hid (R2.out.set1 a)
                    obtain ⟨d0, d1, e0, e1⟩ := R3.out.rcells
                    obtain ⟨c30, c31, f30, f31⟩ := R3.out.cells
                    have HD := Lib.hid (R3.out.done (5 : Int) a)
                    go_wp2_with fail
                    refine (HAx.out _).mono ?_; rintro e w1 ⟨rfl, rfl⟩
                    go_wp2_with fail
                    obtain ⟨p0, p1, hbz⟩ := HD.out
                    refine bodyPost_ret (v := .tuple #[.agg #[.int .i64 (5 : Int), .int .i64 a], .int .i64 0]) (by simp [results, Tryd.results115, go_sem, p0, p1]) rfl ?_
                    unfold RetRl; rw [hfin]; exact ⟨rfl, hbz⟩
                  | false =>
                    have HAx := Lib.hid (fun wx => HA.out a wx)
                    rw [hg] at HAx
                    have hk : okS 5 a = false := by unfold okS; rw [hg, decide_eq_true ha1, decide_eq_true ha0]; rfl
                    have hfin : rl s = (0, 0, 2) := by rw [HFx.out, hk]; rfl
                    have n1 : (a != 1) = true := by simp [ha1]
                    have n0 : (a != 0) = true := by simp [ha0]
                    clear ha1 ha0 hg hk
                    clear HFx
                    have R3 := Lib.hid (R2.out.set1 a)
                    obtain ⟨d0, d1, e0, e1⟩ := R3.out.rcells
                    obtain ⟨c30, c31, f30, f31⟩ := R3.out.cells
                    have HD := Lib.hid (R3.out.done 0 0)
                    go_wp2_with fail
                    refine (HAx.out _).mono ?_; rintro e w1 ⟨rfl, rfl⟩
                    go_wp2_with fail
                    obtain ⟨p0, p1, hbz⟩ := HD.out
                    refine bodyPost_ret (v := .tuple #[.agg #[.int .i64 0, .int .i64 0], .int .i64 2]) (by simp [results, Tryd.results115, go_sem, p0, p1]) rfl ?_
                    unfold RetRl; rw [hfin]; exact ⟨rfl, hbz⟩
          · cases hq : readN Y with
            | none =>
              have hfin : rl s = (0, 0, 2) := HFn.out.1 hq
              clear hq HFn
              have R3 := Lib.hid (R2.out.set1 0)
              obtain ⟨d0, d1, e0, e1⟩ := R3.out.rcells
              have HD := Lib.hid (R3.out.done 0 0)
              go_wp2_with fail
              obtain ⟨p0, p1, hbz⟩ := HD.out
              refine bodyPost_ret (v := .tuple #[.agg #[.int .i64 0, .int .i64 0], .int .i64 2]) (by simp [results, Tryd.results115, go_sem, p0, p1]) rfl ?_
              unfold RetRl; rw [hfin]; exact ⟨rfl, hbz⟩
            | some a =>
              have HFx := Lib.hid (HFn.out.2 a hq)
              clear hq HFn
              by_cases ha1 : a = 1
              · subst ha1
                have hfin : rl s = (0, 0, 2) := HFx.out
                clear HFx
                have R3 := Lib.hid (R2.out.set1 1)
                obtain ⟨d0, d1, e0, e1⟩ := R3.out.rcells
                obtain ⟨c30, c31, f30, f31⟩ := R3.out.cells
                have HD := Lib.hid (R3.out.done 0 0)
                go_wp2_with fail
                obtain ⟨p0, p1, hbz⟩ := HD.out
                refine bodyPost_ret (v := .tuple #[.agg #[.int .i64 0, .int .i64 0], .int .i64 2]) (by simp [results, Tryd.results115, go_sem, p0, p1]) rfl ?_
                unfold RetRl; rw [hfin]; exact ⟨rfl, hbz⟩
              · by_cases ha0 : a = 0
                · subst ha0
                  have hfin : rl s = (0, 0, 2) := HFx.out
                  clear HFx
                  have R3 := Lib.hid (R2.out.set1 0)
                  obtain ⟨d0, d1, e0, e1⟩ := R3.out.rcells
                  obtain ⟨c30, c31, f30, f31⟩ := R3.out.cells
                  have HD := Lib.hid (R3.out.done 0 0)
                  go_wp2_with fail
                  obtain ⟨p0, p1, hbz⟩ := HD.out
                  refine bodyPost_ret (v := .tuple #[.agg #[.int .i64 0, .int .i64 0], .int .i64 2]) (by simp [results, Tryd.results115, go_sem, p0, p1]) rfl ?_
                  unfold RetRl; rw [hfin]; exact ⟨rfl, hbz⟩
                · cases hg : argF ((6 : Nat) : Int) a with
                  | true =>
                    have HAx := Lib.hid (fun wx => HA.out a wx)
                    rw [hg] at HAx
                    have hk : okS 6 a = true := by unfold okS; rw [hg, decide_eq_true ha1, decide_eq_true ha0]; rfl
                    have hfin : rl s = ((6 : Int), a, 0) := by rw [HFx.out, hk]; rfl
                    have n1 : (a != 1) = true := by simp [ha1]
                    have n0 : (a != 0) = true := by simp [ha0]
                    clear ha1 ha0 hg hk
                    clear HFx
                    have R3 := Lib.hid (R2.out.set1 a)
                    obtain ⟨d0, d1, e0, e1⟩ := R3.out.rcells
                    obtain ⟨c30, c31, f30, f31⟩ := R3.out.cells
                    have HD := Lib.hid (R3.out.done (6 : Int) a)
                    go_wp2_with fail
                    refine (HAx.out _).mono ?_; rintro e w1 ⟨rfl, rfl⟩
                    go_wp2_with fail
                    obtain ⟨p0, p1, hbz⟩ := HD.out
                    refine bodyPost_ret (v := .tuple #[.agg #[.int .i64 (6 : Int), .int .i64 a], .int .i64 0]) (by simp [results, Tryd.results115, go_sem, p0, p1]) rfl ?_
                    unfold RetRl; rw [hfin]; exact ⟨rfl, hbz⟩
                  | false =>
                    have HAx := Lib.hid (fun wx => HA.out a wx)
                    rw [hg] at HAx
                    have hk : okS 6 a = false := by unfold okS; rw [hg, decide_eq_true ha1, decide_eq_true ha0]; rfl
                    have hfin : rl s = (0, 0, 2) := by rw [HFx.out, hk]; rfl
                    have n1 : (a != 1) = true := by simp [ha1]
                    have n0 : (a != 0) = true := by simp [ha0]
                    clear ha1 ha0 hg hk
                    clear HFx
                    have R3 := Lib.hid (R2.out.set1 a)
                    obtain ⟨d0, d1, e0, e1⟩ := R3.out.rcells
                    obtain ⟨c30, c31, f30, f31⟩ := R3.out.cells
                    have HD := Lib.hid (R3.out.done 0 0)
                    go_wp2_with fail
                    refine (HAx.out _).mono ?_; rintro e w1 ⟨rfl, rfl⟩
                    go_wp2_with fail
                    obtain ⟨p0, p1, hbz⟩ := HD.out
                    refine bodyPost_ret (v := .tuple #[.agg #[.int .i64 0, .int .i64 0], .int .i64 2]) (by simp [results, Tryd.results115, go_sem, p0, p1]) rfl ?_
                    unfold RetRl; rw [hfin]; exact ⟨rfl, hbz⟩
          · cases hq : readN Y with
            | none =>
              have hfin : rl s = (0, 0, 2) := HFn.out.1 hq
              clear hq HFn
              have R3 := Lib.hid (R2.out.set1 0)
              obtain ⟨d0, d1, e0, e1⟩ := R3.out.rcells
              have HD := Lib.hid (R3.out.done 0 0)
              go_wp2_with fail
              obtain ⟨p0, p1, hbz⟩ := HD.out
              refine bodyPost_ret (v := .tuple #[.agg #[.int .i64 0, .int .i64 0], .int .i64 2]) (by simp [results, Tryd.results115, go_sem, p0, p1]) rfl ?_
              unfold RetRl; rw [hfin]; exact ⟨rfl, hbz⟩
            | some a =>
              have HFx := Lib.hid (HFn.out.2 a hq)
              clear hq HFn
              by_cases ha1 : a = 1
              · subst ha1
                have hfin : rl s = (0, 0, 2) := HFx.out
                clear HFx
                have R3 := Lib.hid (R2.out.set1 1)
                obtain ⟨d0, d1, e0, e1⟩ := R3.out.rcells
                obtain ⟨c30, c31, f30, f31⟩ := R3.out.cells
                have HD := Lib.hid (R3.out.done 0 0)
                go_wp2_with fail
                obtain ⟨p0, p1, hbz⟩ := HD.out
                refine bodyPost_ret (v := .tuple #[.agg #[.int .i64 0, .int .i64 0], .int .i64 2]) (by simp [results, Tryd.results115, go_sem, p0, p1]) rfl ?_
                unfold RetRl; rw [hfin]; exact ⟨rfl, hbz⟩
              · by_cases ha0 : a = 0
                · subst ha0
                  have hfin : rl s = (0, 0, 2) := HFx.out
                  clear HFx
                  have R3 := Lib.hid (R2.out.set1 0)
                  obtain ⟨d0, d1, e0, e1⟩ := R3.out.rcells
                  obtain ⟨c30, c31, f30, f31⟩ := R3.out.cells
                  have HD := Lib.hid (R3.out.done 0 0)
                  go_wp2_with fail
                  obtain ⟨p0, p1, hbz⟩ := HD.out
                  refine bodyPost_ret (v := .tuple #[.agg #[.int .i64 0, .int .i64 0], .int .i64 2]) (by simp [results, Tryd.results115, go_sem, p0, p1]) rfl ?_
                  unfold RetRl; rw [hfin]; exact ⟨rfl, hbz⟩
                · cases hg : argF ((7 : Nat) : Int) a with
                  | true =>
                    have HAx := Lib.hid (fun wx => HA.out a wx)
                    rw [hg] at HAx
                    have hk : okS 7 a = true := by unfold okS; rw [hg, decide_eq_true ha1, decide_eq_true ha0]; rfl
                    have hfin : rl s = ((7 : Int), a, 0) := by rw [HFx.out, hk]; rfl
                    have n1 : (a != 1) = true := by simp [ha1]
                    have n0 : (a != 0) = true := by simp [ha0]
                    clear ha1 ha0 hg hk
                    clear HFx
                    have R3 := Lib.hid (R2.out.set1 a)
                    obtain ⟨d0, d1, e0, e1⟩ := R3.out.rcells
                    obtain ⟨c30, c31, f30, f31⟩ := R3.out.cells
                    have HD := Lib.hid (R3.out.done (7 : Int) a)
                    go_wp2_with fail
                    refine (HAx.out _).mono ?_; rintro e w1 ⟨rfl, rfl⟩
                    go_wp2_with fail
                    obtain ⟨p0, p1, hbz⟩ := HD.out
                    refine bodyPost_ret (v := .tuple #[.agg #[.int .i64 (7 : Int), .int .i64 a], .int .i64 0]) (by simp [results, Tryd.results115, go_sem, p0, p1]) rfl ?_
                    unfold RetRl; rw [hfin]; exact ⟨rfl, hbz⟩
                  | false =>
                    have HAx := Lib.hid (fun wx => HA.out a wx)
                    rw [hg] at HAx
                    have hk : okS 7 a = false := by unfold okS; rw [hg, decide_eq_true ha1, decide_eq_true ha0]; rfl
                    have hfin : rl s = (0, 0, 2) := by rw [HFx.out, hk]; rfl
                    have n1 : (a != 1) = true := by simp [ha1]
                    have n0 : (a != 0) = true := by simp [ha0]
                    clear ha1 ha0 hg hk
                    clear HFx
                    have R3 := Lib.hid (R2.out.set1 a)
                    obtain ⟨d0, d1, e0, e1⟩ := R3.out.rcells
                    obtain ⟨c30, c31, f30, f31⟩ := R3.out.cells
                    have HD := Lib.hid (R3.out.done 0 0)
                    go_wp2_with fail
                    refine (HAx.out _).mono ?_; rintro e w1 ⟨rfl, rfl⟩
                    go_wp2_with fail
                    obtain ⟨p0, p1, hbz⟩ := HD.out
                    refine bodyPost_ret (v := .tuple #[.agg #[.int .i64 0, .int .i64 0], .int .i64 2]) (by simp [results, Tryd.results115, go_sem, p0, p1]) rfl ?_
                    unfold RetRl; rw [hfin]; exact ⟨rfl, hbz⟩
          · cases hq : readN Y with
            | none =>
              have hfin : rl s = (0, 0, 2) := HFn.out.1 hq
              clear hq HFn
              have R3 := Lib.hid (R2.out.set1 0)
              obtain ⟨d0, d1, e0, e1⟩ := R3.out.rcells
              have HD := Lib.hid (R3.out.done 0 0)
              go_wp2_with fail
              obtain ⟨p0, p1, hbz⟩ := HD.out
              refine bodyPost_ret (v := .tuple #[.agg #[.int .i64 0, .int .i64 0], .int .i64 2]) (by simp [results, Tryd.results115, go_sem, p0, p1]) rfl ?_
              unfold RetRl; rw [hfin]; exact ⟨rfl, hbz⟩
            | some a =>
              have HFx := Lib.hid (HFn.out.2 a hq)
              clear hq HFn
              by_cases ha1 : a = 1
              · subst ha1
                have hfin : rl s = (0, 0, 2) := HFx.out
                clear HFx
                have R3 := Lib.hid (R2.out.set1 1)
                obtain ⟨d0, d1, e0, e1⟩ := R3.out.rcells
                obtain ⟨c30, c31, f30, f31⟩ := R3.out.cells
                have HD := Lib.hid (R3.out.done 0 0)
                go_wp2_with fail
                obtain ⟨p0, p1, hbz⟩ := HD.out
                refine bodyPost_ret (v := .tuple #[.agg #[.int .i64 0, .int .i64 0], .int .i64 2]) (by simp [results, Tryd.results115, go_sem, p0, p1]) rfl ?_
                unfold RetRl; rw [hfin]; exact ⟨rfl, hbz⟩
              · by_cases ha0 : a = 0
                · subst ha0
                  have hfin : rl s = (0, 0, 2) := HFx.out
                  clear HFx
                  have R3 := Lib.hid (R2.out.set1 0)
                  obtain ⟨d0, d1, e0, e1⟩ := R3.out.rcells
                  obtain ⟨c30, c31, f30, f31⟩ := R3.out.cells
                  have HD := Lib.hid (R3.out.done 0 0)
                  go_wp2_with fail
                  obtain ⟨p0, p1, hbz⟩ := HD.out
                  refine bodyPost_ret (v := .tuple #[.agg #[.int .i64 0, .int .i64 0], .int .i64 2]) (by simp [results, Tryd.results115, go_sem, p0, p1]) rfl ?_
                  unfold RetRl; rw [hfin]; exact ⟨rfl, hbz⟩
                · cases hg : argF ((9 : Nat) : Int) a with
                  | true =>
                    have HAx := Lib.hid (fun wx => HA.out a wx)
                    rw [hg] at HAx
                    have hk : okS 9 a = true := by unfold okS; rw [hg, decide_eq_true ha1, decide_eq_true ha0]; rfl
                    have hfin : rl s = ((9 : Int), a, 0) := by rw [HFx.out, hk]; rfl
                    have n1 : (a != 1) = true := by simp [ha1]
                    have n0 : (a != 0) = true := by simp [ha0]
                    clear ha1 ha0 hg hk
                    clear HFx
                    have R3 := Lib.hid (R2.out.set1 a)
                    obtain ⟨d0, d1, e0, e1⟩ := R3.out.rcells
                    obtain ⟨c30, c31, f30, f31⟩ := R3.out.cells
                    have HD := Lib.hid (R3.out.done (9 : Int) a)
                    go_wp2_with fail
                    refine (HAx.out _).mono ?_; rintro e w1 ⟨rfl, rfl⟩
                    go_wp2_with fail
                    obtain ⟨p0, p1, hbz⟩ := HD.out
                    refine bodyPost_ret (v := .tuple #[.agg #[.int .i64 (9 : Int), .int .i64 a], .int .i64 0]) (by simp [results, Tryd.results115, go_sem, p0, p1]) rfl ?_
                    unfold RetRl; rw [hfin]; exact ⟨rfl, hbz⟩
                  | false =>
                    have HAx := Lib.hid (fun wx => HA.out a wx)
                    rw [hg] at HAx
                    have hk : okS 9 a = false := by unfold okS; rw [hg, decide_eq_true ha1, decide_eq_true ha0]; rfl
                    have hfin : rl s = (0, 0, 2) := by rw [HFx.out, hk]; rfl
                    have n1 : (a != 1) = true := by simp [ha1]
                    have n0 : (a != 0) = true := by simp [ha0]
                    clear ha1 ha0 hg hk
                    clear HFx
                    have R3 := Lib.hid (R2.out.set1 a)
                    obtain ⟨d0, d1, e0, e1⟩ := R3.out.rcells
                    obtain ⟨c30, c31, f30, f31⟩ := R3.out.cells
                    have HD := Lib.hid (R3.out.done 0 0)
                    go_wp2_with fail
                    refine (HAx.out _).mono ?_; rintro e w1 ⟨rfl, rfl⟩
                    go_wp2_with fail
                    obtain ⟨p0, p1, hbz⟩ := HD.out
                    refine bodyPost_ret (v := .tuple #[.agg #[.int .i64 0, .int .i64 0], .int .i64 2]) (by simp [results, Tryd.results115, go_sem, p0, p1]) rfl ?_
                    unfold RetRl; rw [hfin]; exact ⟨rfl, hbz⟩
          · cases hq : readN Y with
            | none =>
              have hfin : rl s = (0, 0, 2) := HFn.out.1 hq
              clear hq HFn
              have R3 := Lib.hid (R2.out.set1 0)
              obtain ⟨d0, d1, e0, e1⟩ := R3.out.rcells
              have HD := Lib.hid (R3.out.done 0 0)
              go_wp2_with fail
              obtain ⟨p0, p1, hbz⟩ := HD.out
              refine bodyPost_ret (v := .tuple #[.agg #[.int .i64 0, .int .i64 0], .int .i64 2]) (by simp [results, Tryd.results115, go_sem, p0, p1]) rfl ?_
              unfold RetRl; rw [hfin]; exact ⟨rfl, hbz⟩
            | some a =>
              have HFx := Lib.hid (HFn.out.2 a hq)
              clear hq HFn
              by_cases ha1 : a = 1
              · subst ha1
                have hfin : rl s = (0, 0, 2) := HFx.out
                clear HFx
                have R3 := Lib.hid (R2.out.set1 1)
                obtain ⟨d0, d1, e0, e1⟩ := R3.out.rcells
                obtain ⟨c30, c31, f30, f31⟩ := R3.out.cells
                have HD := Lib.hid (R3.out.done 0 0)
                go_wp2_with fail
                obtain ⟨p0, p1, hbz⟩ := HD.out
                refine bodyPost_ret (v := .tuple #[.agg #[.int .i64 0, .int .i64 0], .int .i64 2]) (by simp [results, Tryd.results115, go_sem, p0, p1]) rfl ?_
                unfold RetRl; rw [hfin]; exact ⟨rfl, hbz⟩
              · by_cases ha0 : a = 0
                · subst ha0
                  have hfin : rl s = (0, 0, 2) := HFx.out
                  clear HFx
                  have R3 := Lib.hid (R2.out.set1 0)
                  obtain ⟨d0, d1, e0, e1⟩ := R3.out.rcells
                  obtain ⟨c30, c31, f30, f31⟩ := R3.out.cells
                  have HD := Lib.hid (R3.out.done 0 0)
                  go_wp2_with fail
                  obtain ⟨p0, p1, hbz⟩ := HD.out
                  refine bodyPost_ret (v := .tuple #[.agg #[.int .i64 0, .int .i64 0], .int .i64 2]) (by simp [results, Tryd.results115, go_sem, p0, p1]) rfl ?_
                  unfold RetRl; rw [hfin]; exact ⟨rfl, hbz⟩
                · cases hg : argF ((10 : Nat) : Int) a with
                  | true =>
                    have HAx := Lib.hid (fun wx => HA.out a wx)
                    rw [hg] at HAx
                    have hk : okS 10 a = true := by unfold okS; rw [hg, decide_eq_true ha1, decide_eq_true ha0]; rfl
                    have hfin : rl s = ((10 : Int), a, 0) := by rw [HFx.out, hk]; rfl
                    have n1 : (a != 1) = true := by simp [ha1]
                    have n0 : (a != 0) = true := by simp [ha0]
                    clear ha1 ha0 hg hk
                    clear HFx
                    have R3 := Lib.hid (R2.out.set1 a)
                    obtain ⟨d0, d1, e0, e1⟩ := R3.out.rcells
                    obtain ⟨c30, c31, f30, f31⟩ := R3.out.cells
                    have HD := Lib.hid (R3.out.done (10 : Int) a)
                    go_wp2_with fail
                    refine (HAx.out _).mono ?_; rintro e w1 ⟨rfl, rfl⟩
                    go_wp2_with fail
                    obtain ⟨p0, p1, hbz⟩ := HD.out
                    refine bodyPost_ret (v := .tuple #[.agg #[.int .i64 (10 : Int), .int .i64 a], .int .i64 0]) (by simp [results, Tryd.results115, go_sem, p0, p1]) rfl ?_
                    unfold RetRl; rw [hfin]; exact ⟨rfl, hbz⟩
                  | false =>
                    have HAx := Lib.hid (fun wx => HA.out a wx)
                    rw [hg] at HAx
                    have hk : okS 10 a = false := by unfold okS; rw [hg, decide_eq_true ha1, decide_eq_true ha0]; rfl
                    have hfin : rl s = (0, 0, 2) := by rw [HFx.out, hk]; rfl
                    have n1 : (a != 1) = true := by simp [ha1]
                    have n0 : (a != 0) = true := by simp [ha0]
                    clear ha1 ha0 hg hk
                    clear HFx
                    have R3 := Lib.hid (R2.out.set1 a)
                    obtain ⟨d0, d1, e0, e1⟩ := R3.out.rcells
                    obtain ⟨c30, c31, f30, f31⟩ := R3.out.cells
                    have HD := Lib.hid (R3.out.done 0 0)
                    go_wp2_with fail
                    refine (HAx.out _).mono ?_; rintro e w1 ⟨rfl, rfl⟩
                    go_wp2_with fail
                    obtain ⟨p0, p1, hbz⟩ := HD.out
                    refine bodyPost_ret (v := .tuple #[.agg #[.int .i64 0, .int .i64 0], .int .i64 2]) (by simp [results, Tryd.results115, go_sem, p0, p1]) rfl ?_
                    unfold RetRl; rw [hfin]; exact ⟨rfl, hbz⟩
        · have hfin := HF.out n rfl h0
          have q1 : ((m : Int) == 1) = false := by rw [beq_eq_false_iff_ne]; omega
          have q2 : ((m : Int) == 2) = false := by rw [beq_eq_false_iff_ne]; omega
          have q3 : (2 : Int) < (m : Int) := by omega
          obtain ⟨c0, c1, f0, f1⟩ := R1.out.cells
          obtain ⟨d0, d1, e0, e1⟩ := R1.out.rcells
          have HD := Lib.hid (R1.out.done 0 0)
          go_wp2_with fail
          obtain ⟨p0, p1, hbz⟩ := HD.out
          refine bodyPost_ret (v := .tuple #[.agg #[.int .i64 0, .int .i64 0], .int .i64 2]) (by simp [results, Tryd.results115, go_sem, p0, p1]) rfl ?_
          unfold RetRl; rw [hfin]; exact ⟨rfl, hbz⟩
end Go.Proofs.YtiddhelabmaghaaDoor
/- Lists of strings: sizes, copies. -/
namespace Go.Proofs.YtiddhelabmaghaaDoor
open Go.RowKit Go.Joins

theorem infoS : (Tryd.prog.info? 9).map (fun i => (i.zero, i.size, i.bytes)) = some (some (.string ⟨#[]⟩), 1, 16) := by kernel_rfl
theorem infoSL : (Tryd.prog.info? 9).map (fun i => (i.zero, i.size, i.bytes)) = some (some (.string ⟨#[]⟩), 1, 16) := by kernel_rfl
/-- a string of a list that is read -/
theorem rd_at {w : World} {B n c : Nat} {A : Option Addr} {zs : List ByteArray} (h : Rd w B (.slice A n c) zs.length 1 (strs zs)) (k : Nat) (hk : k < zs.length) :
    n = zs.length ∧ ∃ b off, A = some ⟨b, off, none⟩ ∧ w.cell? ⟨b, off + k, none⟩ = some (.string zs[k]) := by
  obtain ⟨_, A', c', hv, hc⟩ := h
  injection hv with e1 e2 e3
  subst e1
  obtain ⟨b, off, hA, _, hcc⟩ := hc (by omega)
  exact ⟨e2, b, off, hA, hcc k _ (strs_at zs k hk)⟩
theorem take_strs (zs : List ByteArray) (k : Nat) (h : k < zs.length) : strs (zs.take k) ++ [.string zs[k]] = strs (zs.take (k + 1)) := by
  rw [List.take_succ_eq_append_getElem h]; unfold strs; rw [List.map_append]; rfl
/-- a new list of the same strings -/
def RetS (w : World) (zs : List ByteArray) (e : Ending) (w' : World) : Prop := ∃ v, e = .returned v ∧ w'.ownsRow w.heap.size 9 1 v zs.length (strs zs) ∧ Below w.heap.size w w'
end Go.Proofs.YtiddhelabmaghaaDoor
/- A program's lines, read, part 6: readLines (program). -/
namespace Go.Proofs.YtiddhelabmaghaaDoor
open Go.RowKit Go.Joins

def rdL : Int → Nat → List ByteArray → Int × Int
  | d, i, [] => if 0 < d then ((i : Int), 3) else (-1, 0)
  | d, i, s :: l => if (rl s).2.2 ≠ 0 then ((i : Int), (rl s).2.2) else if stepF (rl s).1 d ≠ 0 then ((i : Int), stepF (rl s).1 d) else rdL (stepV (rl s).1 d) (i + 1) l
theorem rdL_at (zs : List ByteArray) (k : Nat) (hk : k < zs.length) (d : Int) : rdL d k (zs.drop k) = if (rl zs[k]).2.2 ≠ 0 then ((k : Int), (rl zs[k]).2.2) else if stepF (rl zs[k]).1 d ≠ 0 then ((k : Int), stepF (rl zs[k]).1 d) else rdL (stepV (rl zs[k]).1 d) (k + 1) (zs.drop (k + 1)) := by
  rw [List.drop_eq_getElem_cons hk]; rfl
theorem rdL_end (zs : List ByteArray) (k : Nat) (hk : zs.length ≤ k) (d : Int) : rdL d k (zs.drop k) = if 0 < d then ((k : Int), 3) else (-1, 0) := by
  rw [List.drop_of_length_le hk]; rfl
def opOf (s : ByteArray) : Int × Int := ((rl s).1, (rl s).2.1)
def resL (zs : List ByteArray) : List (Int × Int) := if (rdL 0 0 zs).2 = 0 then zs.map opOf else []
theorem resL_bad {zs : List ByteArray} {a b : Int} (h : rdL 0 0 zs = (a, b)) (hb : b ≠ 0) : resL zs = [] := by unfold resL; rw [h, if_neg hb]
theorem resL_ok {zs : List ByteArray} {a : Int} (h : rdL 0 0 zs = (a, 0)) : resL zs = zs.map opOf := by unfold resL; rw [h, if_pos rfl]
theorem resL_len (zs : List ByteArray) : (resL zs).length ≤ zs.length := by unfold resL; split <;> simp
/-- a new list of instructions, the wrong line and its fault -/
def RetLs (w : World) (zs : List ByteArray) (e : Ending) (w' : World) : Prop := ∃ v, e = .returned (.tuple #[v, .int .i64 (rdL 0 0 zs).1, .int .i64 (rdL 0 0 zs).2]) ∧ w'.ownsRow w.heap.size 91 2 v (resL zs).length (progs (resL zs)) ∧ Below w.heap.size w w'
theorem RetLs.bad {w w' : World} {zs : List ByteArray} {a b : Int} (h : rdL 0 0 zs = (a, b)) (hb : b ≠ 0) (hw : Below w.heap.size w w') : RetLs w zs (.returned (.tuple #[.slice none 0 0, .int .i64 a, .int .i64 b])) w' := by
  refine ⟨_, by rw [h], ?_, hw⟩
  rw [resL_bad h hb]
  exact ⟨rfl, .inl ⟨rfl, rfl⟩⟩
theorem RetLs.good {w w' : World} {zs : List ByteArray} {a : Int} {v : Value} (h : rdL 0 0 zs = (a, 0)) (ho : w'.ownsRow w.heap.size 91 2 v zs.length (progs (zs.map opOf))) (hw : Below w.heap.size w w') : RetLs w zs (.returned (.tuple #[v, .int .i64 a, .int .i64 0])) w' := by
  refine ⟨_, by rw [h], ?_, hw⟩
  rw [resL_ok h, List.length_map]
  exact ho
theorem progs_next (zs : List ByteArray) (k : Nat) (hk : k < zs.length) : progs ((zs.take k).map opOf) ++ (#[Value.int .i64 (rl zs[k]).1, Value.int .i64 (rl zs[k]).2.1] : Array Value).toList = progs ((zs.take (k + 1)).map opOf) := by
  rw [progs_snoc, List.take_succ_eq_append_getElem hk, List.map_append]; rfl
theorem ones2 (a b : Int) : ∀ u ∈ (#[Value.int .i64 a, Value.int .i64 b] : Array Value).toList, u.oneCell' = true := by
  simp [Value.oneCell']

set_option maxRecDepth 100000 in
set_option maxHeartbeats 3200000 in
theorem readLines_any (B : Nat) (v : Value) (zs : List ByteArray) (w : World) (h : Rd w B v zs.length 1 (strs zs)) (hB : B ≤ w.heap.size) (hl : zs.length ≤ 1048576) (hz : ∀ z ∈ zs, z.size ≤ 1048576) (ht : Tab w) :
    Calls Tryd.prog 77 #[v] w (RetLs w zs) := by
  have H := Lib.hid h
  have Ht := Lib.hid ht
  have Hz := Lib.hid hz
  obtain ⟨_, A, c, rfl, _⟩ := h
  have hb0 := Lib.hid ((Below.refl w.heap.size w).alloc (Nat.le_refl _) (.cells #[] 91))
  have ho0 := Lib.hid (World.ownsRow_made (base := w.heap.size) (e := 91) (size := 2) w #[] 0 (Nat.le_refl _) (by simp [maxLen]) rfl)
  clear ht hz
  go_enter Tryd.func77, Tryd.ntmps77
  go_wp2_with fail
  go_loopw [5, 6, 14] (fun o d i wr => ∃ (k : Nat) (D : Int), k ≤ zs.length ∧ i = .int .i64 (k : Int) ∧ d = .int .i64 D ∧ 0 ≤ D ∧ D ≤ 4 ∧ rdL 0 0 zs = rdL D k (zs.drop k) ∧ wr.ownsRow w.heap.size 91 2 o k (progs ((zs.take k).map opOf)) ∧ Below w.heap.size w wr) (fun _ _ i _ => zs.length - (intOf i).toNat)
  case atStart => exact ⟨0, 0, Nat.zero_le _, rfl, rfl, by omega, by omega, rfl, ho0.out, hb0.out⟩
  case round =>
    obtain ⟨k, D, hk, rfl, rfl, hD0, hD4, hrd, hown, hbl⟩ := hrel
    have Hrd := Lib.hid hrd
    have Hown := Lib.hid hown
    have Hbl := Lib.hid hbl
    clear hrd
    by_cases hlt : k < zs.length
    · obtain ⟨_, b1, o1, hA, e1⟩ := rd_at (H.out.below (hbl.mono hB)) k hlt
      subst hA
      have hlt' : (k : Int) < (zs.length : Int) := by omega
      have Hst := Lib.hid (rdL_at zs k hlt D)
      have Hnx := Lib.hid (progs_next zs k hlt)
      have hzk := Hz.out zs[k] (List.getElem_mem hlt)
      have HL := Lib.hid (readLine_any zs[k] wr (by omega) (Ht.out.below hbl))
      unfold RetRl at HL
      generalize rl zs[k] = x at *
      generalize zs[k] = s at *
      obtain ⟨op, a, ft⟩ := x
      dsimp only at Hst Hnx HL
      have HDB := Lib.hid (fun wx => depthBehind_any op a D wx hD0 hD4)
      clear hown hbl
      go_wp2_with fail
      refine HL.out.mono ?_; rintro e w6 ⟨rfl, hb6⟩
      have Hb6 := Lib.hid (Hbl.out.trans (hb6.mono Hbl.out.size))
      have Ho6 := Lib.hid (own_below Hown.out hb6)
      clear hb6 Hown Hbl HL e1
      by_cases hf : ft = 0
      · subst hf
        have hst := Hst.out
        rw [if_neg (by simp)] at hst
        have Hb7 := Lib.hid (Hb6.out.alloc Hb6.out.size (.cells #[.int .i64 op, .int .i64 a] 91))
        have Hnw := Lib.hid (heap_alloc_new w6 (.cells #[.int .i64 op, .int .i64 a] 91))
        have Ho7 := Lib.hid (own_below Ho6.out ((Below.refl w6.heap.size w6).alloc (Nat.le_refl _) (.cells #[.int .i64 op, .int .i64 a] 91)))
        obtain ⟨c0, c1⟩ := blkp Hnw.out
        have hlw : w6.heap.size < (w6.alloc (.cells #[.int .i64 op, .int .i64 a] 91)).heap.size := by simp
        by_cases hs : stepF op D = 0
        · have Hst2 := Lib.hid (hst.trans (if_neg (by simp [hs])))
          rw [hs] at HDB
          have hsb := step_bd op D hD0 hD4
          generalize stepV op D = D2 at *
          clear hst hs Hst
          go_wp2_with fail
          refine (HDB.out _).mono ?_; rintro e w8 ⟨rfl, hb8⟩
          have Hb8 := Lib.hid (Hb7.out.trans (hb8.mono Hb7.out.size))
          have Ho8 := Lib.hid (own_below Ho7.out hb8)
          obtain ⟨d0, d1⟩ := blkp ((hb8.block _ hlw).trans Hnw.out)
          have hz8 := Hb8.out.size
          clear hb8 c0 c1 Hb7 Ho7 Hb6 Ho6 Hnw HDB
          have Hon := Lib.hid (ones2 op a)
          go_wp2_with (at_builtin; refine wpList_apd 35 91 _ 2 16 Tryd.underlying35 infoP rfl (by omega) _ _ rfl rfl w.heap.size _ k _ rfl Ho8.out #[.int .i64 op, .int .i64 a] 1 1 rfl rfl Hon.out (by simp [maxLen]; omega) (by omega) hz8 ?_; intro v9 w9 hown9 hg9; have Hb9 := Lib.hid (below_apd Hb8.out Ho8.out hg9 (Nat.le_refl _) hz8); have Ho9 := Lib.hid hown9; clear hown9 hg9)
          go_roundw
          case rel => exact ⟨k + 1, D2, by omega, by go_num, rfl, hsb.1, hsb.2, by rw [Hrd.out, Hst2.out], by rw [← Hnx.out]; exact Ho9.out, Hb9.out⟩
          case measure => simp [intOf]; omega
        · have hfin := Lib.hid ((Hrd.out.trans hst).trans (if_pos (by simp [hs])))
          have hne : (stepF op D != 0) = true := by simp [hs]
          generalize stepF op D = F2 at *
          clear hst Hst
          go_wp2_with fail
          refine (HDB.out _).mono ?_; rintro e w8 ⟨rfl, hb8⟩
          have Hb8 := Lib.hid (Hb7.out.trans (hb8.mono Hb7.out.size))
          clear hb8
          go_wp2_with fail
          go_ret3
          exact RetLs.bad hfin.out hs Hb8.out
      · have hfin := Lib.hid ((Hrd.out.trans Hst.out).trans (if_pos (by simp [hf])))
        have hne : (ft != 0) = true := by simp [hf]
        have hne2 : (ft == 0) = false := by simp [hf]
        have Hb7 := Lib.hid (Hb6.out.alloc Hb6.out.size (.cells #[.int .i64 op, .int .i64 a] 91))
        clear Hst
        go_wp2_with fail
        go_ret3
        exact RetLs.bad hfin.out hf Hb7.out
    · have hkk : k = zs.length := by omega
      subst hkk
      have hend := (Hrd.out).trans (rdL_end zs zs.length (Nat.le_refl _) D)
      rw [List.take_length] at hown
      have Hend := Lib.hid hend
      clear hend hown
      have hlt' : ¬ (zs.length : Int) < (zs.length : Int) := by omega
      by_cases hd : 0 < D
      · have hfin := Lib.hid (Hend.out.trans (if_pos hd))
        clear Hend
        go_wp2_with fail
        go_ret3
        exact RetLs.bad hfin.out (by decide) hbl
      · have hfin := Lib.hid (Hend.out.trans (if_neg hd))
        clear Hend
        go_wp2_with fail
        go_ret3
        exact RetLs.good hfin.out (by have := Hown.out; rwa [List.take_length] at this) hbl
end Go.Proofs.YtiddhelabmaghaaDoor
/- A program's lines, read, part 7: l11Read (reference). -/
namespace Go.Proofs.YtiddhelabmaghaaDoor
open Go.RowKit Go.Joins

theorem step_cases (op D : Int) (h0 : 0 ≤ D) (h4 : D ≤ 4) :
    (opens op = true ∧ (op == 10) = false ∧ (4 : Int) < D + 1 ∧ ¬ D + 1 < 0 ∧ stepF op D = 5) ∨ (opens op = true ∧ (op == 10) = false ∧ ¬ (4 : Int) < D + 1 ∧ ¬ D + 1 < 0 ∧ stepF op D = 0 ∧ stepV op D = D + 1) ∨
    (opens op = false ∧ (op == 10) = true ∧ D - 1 < 0 ∧ stepF op D = 4) ∨ (opens op = false ∧ (op == 10) = true ∧ ¬ D - 1 < 0 ∧ ¬ (4 : Int) < D - 1 ∧ stepF op D = 0 ∧ stepV op D = D - 1) ∨
    (opens op = false ∧ (op == 10) = false ∧ ¬ D < 0 ∧ ¬ (4 : Int) < D ∧ stepF op D = 0 ∧ stepV op D = D) := by
  by_cases h10 : op = 10
  · subst h10
    by_cases hd : D = 0
    · subst hd
      exact .inr (.inr (.inl ⟨rfl, rfl, by omega, rfl⟩))
    · exact .inr (.inr (.inr (.inl ⟨rfl, rfl, by omega, by omega, by simp [stepF, hd], by simp [stepV, hd]⟩)))
  · have hb : (op == 10) = false := by simpa using h10
    by_cases h89 : op = 8 ∨ op = 9
    · have ho : opens op = true := decide_eq_true h89
      by_cases hd : D = 4
      · exact .inl ⟨ho, hb, by omega, by omega, by simp [stepF, h10, h89, hd]⟩
      · exact .inr (.inl ⟨ho, hb, by omega, by omega, by simp [stepF, h10, h89, hd], by simp [stepV, h10, h89, hd]⟩)
    · have ho : opens op = false := decide_eq_false h89
      exact .inr (.inr (.inr (.inr ⟨ho, hb, by omega, by omega, by simp [stepF, h10, h89], by simp [stepV, h10, h89]⟩)))

set_option maxRecDepth 100000 in
set_option maxHeartbeats 3200000 in
theorem l11Read_any (B : Nat) (v : Value) (zs : List ByteArray) (w : World) (h : Rd w B v zs.length 1 (strs zs)) (hB : B ≤ w.heap.size) (hl : zs.length ≤ 1048576) (hz : ∀ z ∈ zs, z.size ≤ 1048576) :
    Calls Tryd.prog 78 #[v] w (RetLs w zs) := by
  have H := Lib.hid h
  have Hz := Lib.hid hz
  obtain ⟨_, A, c, rfl, _⟩ := h
  have hb0 := Lib.hid ((Below.refl w.heap.size w).alloc (Nat.le_refl _) (.cells #[] 91))
  have ho0 := Lib.hid (World.ownsRow_made (base := w.heap.size) (e := 91) (size := 2) w #[] 0 (Nat.le_refl _) (by simp [maxLen]) rfl)
  clear hz
  go_enter Tryd.func78, Tryd.ntmps78
  go_wp2_with fail
  go_loopw [5, 6, 7] (fun o d i wr => ∃ (k : Nat) (D : Int), k ≤ zs.length ∧ i = .int .i64 (k : Int) ∧ d = .int .i64 D ∧ 0 ≤ D ∧ D ≤ 4 ∧ rdL 0 0 zs = rdL D k (zs.drop k) ∧ wr.ownsRow w.heap.size 91 2 o k (progs ((zs.take k).map opOf)) ∧ Below w.heap.size w wr) (fun _ _ i _ => zs.length - (intOf i).toNat)
  case atStart => exact ⟨0, 0, Nat.zero_le _, rfl, rfl, by omega, by omega, rfl, ho0.out, hb0.out⟩
  case round =>
    obtain ⟨k, D, hk, rfl, rfl, hD0, hD4, hrd, hown, hbl⟩ := hrel
    have Hrd := Lib.hid hrd
    have Hown := Lib.hid hown
    have Hbl := Lib.hid hbl
    clear hrd
    by_cases hlt : k < zs.length
    · obtain ⟨_, b1, o1, hA, e1⟩ := rd_at (H.out.below (hbl.mono hB)) k hlt
      subst hA
      have hlt' : (k : Int) < (zs.length : Int) := by omega
      have Hst := Lib.hid (rdL_at zs k hlt D)
      have Hnx := Lib.hid (progs_next zs k hlt)
      have hzk := Hz.out zs[k] (List.getElem_mem hlt)
      have HL := Lib.hid (l11Line_any zs[k] wr (by omega))
      unfold RetRl at HL
      generalize rl zs[k] = x at *
      generalize zs[k] = s at *
      obtain ⟨op, a, ft⟩ := x
      dsimp only at Hst Hnx HL
      have HO := Lib.hid (fun wx => l11Opens_any op wx)
      clear hown hbl
      go_wp2_with fail
      refine HL.out.mono ?_; rintro e w6 ⟨rfl, hb6⟩
      have Hb6 := Lib.hid (Hbl.out.trans (hb6.mono Hbl.out.size))
      have Ho6 := Lib.hid (own_below Hown.out hb6)
      clear hb6 Hown Hbl HL e1
      by_cases hf : ft = 0
      · subst hf
        have hst := Hst.out
        rw [if_neg (by simp)] at hst
        have Hb7 := Lib.hid (Hb6.out.alloc Hb6.out.size (.cells #[.int .i64 op, .int .i64 a] 91))
        have Hnw := Lib.hid (heap_alloc_new w6 (.cells #[.int .i64 op, .int .i64 a] 91))
        have Ho7 := Lib.hid (own_below Ho6.out ((Below.refl w6.heap.size w6).alloc (Nat.le_refl _) (.cells #[.int .i64 op, .int .i64 a] 91)))
        obtain ⟨c0, c1⟩ := blkp Hnw.out
        have hlw : w6.heap.size < (w6.alloc (.cells #[.int .i64 op, .int .i64 a] 91)).heap.size := by simp
        rcases step_cases op D hD0 hD4 with ⟨ho, q1, q2, q3, hF⟩ | ⟨ho, q1, q2, q3, hF, hV⟩ | ⟨ho, q1, q2, hF⟩ | ⟨ho, q1, q2, q3, hF, hV⟩ | ⟨ho, q1, q2, q3, hF, hV⟩
        · have hfin := Lib.hid ((Hrd.out.trans hst).trans (if_pos (by rw [hF]; decide)))
          rw [hF] at hfin
          rw [ho] at HO
          clear hst Hst ho hF
          go_wp2_with fail
          refine (HO.out _).mono ?_; rintro e w8 ⟨rfl, rfl⟩
          go_wp2_with fail
          go_ret3
          exact RetLs.bad hfin.out (by decide) Hb7.out
        · have Hst2 := Lib.hid (hst.trans (if_neg (by rw [hF]; simp)))
          rw [hV] at Hst2
          have hsb := step_bd op D hD0 hD4
          rw [hV] at hsb
          rw [ho] at HO
          clear hst Hst ho hF hV
          go_wp2_with fail
          refine (HO.out _).mono ?_; rintro e w8 ⟨rfl, rfl⟩
          have hz8 := Hb7.out.size
          have Hon := Lib.hid (ones2 op a)
          generalize w6.alloc (.cells #[.int .i64 op, .int .i64 a] 91) = w8 at *
          go_wp2_with (at_builtin; refine wpList_apd 35 91 _ 2 16 Tryd.underlying35 infoP rfl (by omega) _ _ rfl rfl w.heap.size _ k _ rfl Ho7.out #[.int .i64 op, .int .i64 a] 1 1 rfl rfl Hon.out (by simp [maxLen]; omega) (by omega) hz8 ?_; intro v9 w9 hown9 hg9; have Hb9 := Lib.hid (below_apd Hb7.out Ho7.out hg9 (Nat.le_refl _) hz8); have Ho9 := Lib.hid hown9; clear hown9 hg9)
          go_roundw
          case rel => exact ⟨k + 1, D + 1, by omega, by go_num, by go_num, hsb.1, hsb.2, by rw [Hrd.out, Hst2.out], by rw [← Hnx.out]; exact Ho9.out, Hb9.out⟩
          case measure => simp [intOf]; omega
        · have hfin := Lib.hid ((Hrd.out.trans hst).trans (if_pos (by rw [hF]; decide)))
          rw [hF] at hfin
          rw [ho] at HO
          clear hst Hst ho hF
          go_wp2_with fail
          refine (HO.out _).mono ?_; rintro e w8 ⟨rfl, rfl⟩
          go_wp2_with fail
          go_ret3
          exact RetLs.bad hfin.out (by decide) Hb7.out
        · have Hst2 := Lib.hid (hst.trans (if_neg (by rw [hF]; simp)))
          rw [hV] at Hst2
          have hsb := step_bd op D hD0 hD4
          rw [hV] at hsb
          rw [ho] at HO
          clear hst Hst ho hF hV
          go_wp2_with fail
          refine (HO.out _).mono ?_; rintro e w8 ⟨rfl, rfl⟩
          have hz8 := Hb7.out.size
          have Hon := Lib.hid (ones2 op a)
          generalize w6.alloc (.cells #[.int .i64 op, .int .i64 a] 91) = w8 at *
          go_wp2_with (at_builtin; refine wpList_apd 35 91 _ 2 16 Tryd.underlying35 infoP rfl (by omega) _ _ rfl rfl w.heap.size _ k _ rfl Ho7.out #[.int .i64 op, .int .i64 a] 1 1 rfl rfl Hon.out (by simp [maxLen]; omega) (by omega) hz8 ?_; intro v9 w9 hown9 hg9; have Hb9 := Lib.hid (below_apd Hb7.out Ho7.out hg9 (Nat.le_refl _) hz8); have Ho9 := Lib.hid hown9; clear hown9 hg9)
          go_roundw
          case rel => exact ⟨k + 1, D - 1, by omega, by go_num, by go_num, hsb.1, hsb.2, by rw [Hrd.out, Hst2.out], by rw [← Hnx.out]; exact Ho9.out, Hb9.out⟩
          case measure => simp [intOf]; omega
        · have Hst2 := Lib.hid (hst.trans (if_neg (by rw [hF]; simp)))
          rw [hV] at Hst2
          have hsb := step_bd op D hD0 hD4
          rw [hV] at hsb
          rw [ho] at HO
          clear hst Hst ho hF hV
          go_wp2_with fail
          refine (HO.out _).mono ?_; rintro e w8 ⟨rfl, rfl⟩
          have hz8 := Hb7.out.size
          have Hon := Lib.hid (ones2 op a)
          generalize w6.alloc (.cells #[.int .i64 op, .int .i64 a] 91) = w8 at *
          go_wp2_with (at_builtin; refine wpList_apd 35 91 _ 2 16 Tryd.underlying35 infoP rfl (by omega) _ _ rfl rfl w.heap.size _ k _ rfl Ho7.out #[.int .i64 op, .int .i64 a] 1 1 rfl rfl Hon.out (by simp [maxLen]; omega) (by omega) hz8 ?_; intro v9 w9 hown9 hg9; have Hb9 := Lib.hid (below_apd Hb7.out Ho7.out hg9 (Nat.le_refl _) hz8); have Ho9 := Lib.hid hown9; clear hown9 hg9)
          go_roundw
          case rel => exact ⟨k + 1, D, by omega, by go_num, by go_num, hsb.1, hsb.2, by rw [Hrd.out, Hst2.out], by rw [← Hnx.out]; exact Ho9.out, Hb9.out⟩
          case measure => simp [intOf]; omega
      · have hfin := Lib.hid ((Hrd.out.trans Hst.out).trans (if_pos (by simp [hf])))
        have hne : (ft != 0) = true := by simp [hf]
        have Hb7 := Lib.hid (Hb6.out.alloc Hb6.out.size (.cells #[.int .i64 op, .int .i64 a] 91))
        clear Hst
        go_wp2_with fail
        go_ret3
        exact RetLs.bad hfin.out hf Hb7.out
    · have hkk : k = zs.length := by omega
      subst hkk
      have hend := (Hrd.out).trans (rdL_end zs zs.length (Nat.le_refl _) D)
      rw [List.take_length] at hown
      have Hend := Lib.hid hend
      clear hend hown
      have hlt' : ¬ (zs.length : Int) < (zs.length : Int) := by omega
      by_cases hd : 0 < D
      · have hfin := Lib.hid (Hend.out.trans (if_pos hd))
        clear Hend
        go_wp2_with fail
        go_ret3
        exact RetLs.bad hfin.out (by decide) hbl
      · have hfin := Lib.hid (Hend.out.trans (if_neg hd))
        clear Hend
        go_wp2_with fail
        go_ret3
        exact RetLs.good hfin.out (by have := Hown.out; rwa [List.take_length] at this) hbl
end Go.Proofs.YtiddhelabmaghaaDoor
/- Programs' lines, part 8: CheckProgram, both sides, and the law FnExactCheckProgram. -/
namespace Go.Proofs.YtiddhelabmaghaaDoor
open Go.RowKit Go.Joins

def chkP (zs : List ByteArray) : Int × Int × Int := if 120 < zs.length then (0, 0, 5) else ((rdL 0 0 zs).1, (rdL 0 0 zs).2, 0)
def RetK (w : World) (zs : List ByteArray) (e : Ending) (w' : World) : Prop := e = .returned (.tuple #[.int .i64 (chkP zs).1, .int .i64 (chkP zs).2.1, .int .i64 (chkP zs).2.2]) ∧ Below w.heap.size w w'

theorem CheckPI_any (B : Nat) (v : Value) (zs : List ByteArray) (w : World) (h : Rd w B v zs.length 1 (strs zs)) (hB : B ≤ w.heap.size) (hl : zs.length ≤ 1048576) (hz : ∀ z ∈ zs, z.size ≤ 1048576) (ht : Tab w) :
    Calls Tryd.prog 22 #[v] w (RetK w zs) := by
  have HR := Lib.hid (readLines_any B v zs w h hB hl hz ht)
  have hb0 := Below.refl w.heap.size w
  obtain ⟨_, A, c, rfl, _⟩ := h
  clear hz ht
  by_cases hb : 120 < zs.length
  · have hb' : (120 : Int) < (zs.length : Int) := by omega
    have hfin : chkP zs = (0, 0, 5) := if_pos hb
    go_enter Tryd.func22, Tryd.ntmps22
    go_wp2_with fail
    go_ret3
    unfold RetK; rw [hfin]; exact ⟨rfl, hb0⟩
  · have hb' : ¬ (120 : Int) < (zs.length : Int) := by omega
    have hfin : chkP zs = ((rdL 0 0 zs).1, (rdL 0 0 zs).2, 0) := if_neg hb
    unfold RetLs at HR
    go_enter Tryd.func22, Tryd.ntmps22
    go_wp2_with fail
    refine HR.out.mono ?_; rintro e w6 ⟨v6, rfl, ho6, hb6⟩
    go_wp2_with fail
    go_ret3
    unfold RetK; rw [hfin]; exact ⟨rfl, hb6⟩
theorem CheckPS_any (B : Nat) (v : Value) (zs : List ByteArray) (w : World) (h : Rd w B v zs.length 1 (strs zs)) (hB : B ≤ w.heap.size) (hl : zs.length ≤ 1048576) (hz : ∀ z ∈ zs, z.size ≤ 1048576) :
    Calls Tryd.prog 23 #[v] w (RetK w zs) := by
  have HR := Lib.hid (l11Read_any B v zs w h hB hl hz)
  have hb0 := Below.refl w.heap.size w
  obtain ⟨_, A, c, rfl, _⟩ := h
  clear hz
  by_cases hb : 120 < zs.length
  · have hb' : (120 : Int) < (zs.length : Int) := by omega
    have hfin : chkP zs = (0, 0, 5) := if_pos hb
    go_enter Tryd.func23, Tryd.ntmps23
    go_wp2_with fail
    go_ret3
    unfold RetK; rw [hfin]; exact ⟨rfl, hb0⟩
  · have hb' : ¬ (120 : Int) < (zs.length : Int) := by omega
    have hfin : chkP zs = ((rdL 0 0 zs).1, (rdL 0 0 zs).2, 0) := if_neg hb
    unfold RetLs at HR
    go_enter Tryd.func23, Tryd.ntmps23
    go_wp2_with fail
    refine HR.out.mono ?_; rintro e w6 ⟨v6, rfl, ho6, hb6⟩
    go_wp2_with fail
    go_ret3
    unfold RetK; rw [hfin]; exact ⟨rfl, hb6⟩

end Go.Proofs.YtiddhelabmaghaaDoor
/- Programs' lines, part 9: ReadProgram, both sides, and the law FnExactReadProgram. -/
namespace Go.Proofs.YtiddhelabmaghaaDoor
open Go.RowKit Go.Joins

def codR (zs : List ByteArray) : Int := if 120 < zs.length then 5 else if (rdL 0 0 zs).2 ≠ 0 then 7 else 0
def resR (zs : List ByteArray) : List (Int × Int) := if 120 < zs.length then [] else resL zs
theorem resR_len (zs : List ByteArray) : (resR zs).length ≤ zs.length := by
  unfold resR; split
  · simp
  · exact resL_len zs
def RetR (w : World) (zs : List ByteArray) (e : Ending) (w' : World) : Prop := ∃ v, e = .returned (.tuple #[v, .int .i64 (codR zs)]) ∧ w'.ownsRow w.heap.size 91 2 v (resR zs).length (progs (resR zs)) ∧ Below w.heap.size w w'
theorem RetR.none {w w' : World} {zs : List ByteArray} {c : Int} (h1 : codR zs = c) (h2 : resR zs = []) (hw : Below w.heap.size w w') : RetR w zs (.returned (.tuple #[.slice none 0 0, .int .i64 c])) w' := by
  refine ⟨_, by rw [h1], ?_, hw⟩
  rw [h2]
  exact ⟨rfl, .inl ⟨rfl, rfl⟩⟩
theorem RetR.some {w w' : World} {zs : List ByteArray} {v : Value} (h1 : codR zs = 0) (h2 : resR zs = resL zs) (ho : w'.ownsRow w.heap.size 91 2 v (resL zs).length (progs (resL zs))) (hw : Below w.heap.size w w') : RetR w zs (.returned (.tuple #[v, .int .i64 0])) w' := by
  refine ⟨_, by rw [h1], ?_, hw⟩
  rw [h2]
  exact ho

theorem ReadPI_any (B : Nat) (v : Value) (zs : List ByteArray) (w : World) (h : Rd w B v zs.length 1 (strs zs)) (hB : B ≤ w.heap.size) (hl : zs.length ≤ 1048576) (hz : ∀ z ∈ zs, z.size ≤ 1048576) (ht : Tab w) :
    Calls Tryd.prog 24 #[v] w (RetR w zs) := by
  have HR := Lib.hid (readLines_any B v zs w h hB hl hz ht)
  have hb0 := Below.refl w.heap.size w
  obtain ⟨_, A, c, rfl, _⟩ := h
  clear hz ht
  by_cases hb : 120 < zs.length
  · have hb' : (120 : Int) < (zs.length : Int) := by omega
    have h1 : codR zs = 5 := if_pos hb
    have h2 : resR zs = [] := if_pos hb
    go_enter Tryd.func24, Tryd.ntmps24
    go_wp2_with fail
    go_ret2
    exact RetR.none h1 h2 hb0
  · have hb' : ¬ (120 : Int) < (zs.length : Int) := by omega
    have e1 : codR zs = if (rdL 0 0 zs).2 ≠ 0 then 7 else 0 := if_neg hb
    have e2 : resR zs = resL zs := if_neg hb
    unfold RetLs at HR
    by_cases hf : (rdL 0 0 zs).2 = 0
    · have h1 := Lib.hid (e1.trans (if_neg (by simp [hf])))
      have h2 := Lib.hid e2
      rw [hf] at HR
      clear e1 e2 hf
      go_enter Tryd.func24, Tryd.ntmps24
      go_wp2_with fail
      refine HR.out.mono ?_; rintro e w6 ⟨v6, rfl, ho6, hb6⟩
      go_wp2_with fail
      go_ret2
      exact RetR.some h1.out h2.out ho6 hb6
    · have h1 := Lib.hid (e1.trans (if_pos hf))
      have h2 := Lib.hid (e2.trans (show resL zs = [] from if_neg hf))
      have hne : ((rdL 0 0 zs).2 != 0) = true := by simp [hf]
      generalize (rdL 0 0 zs).2 = F2 at *
      clear e1 e2
      go_enter Tryd.func24, Tryd.ntmps24
      go_wp2_with fail
      refine HR.out.mono ?_; rintro e w6 ⟨v6, rfl, ho6, hb6⟩
      go_wp2_with fail
      go_ret2
      exact RetR.none h1.out h2.out hb6

theorem ReadPS_any (B : Nat) (v : Value) (zs : List ByteArray) (w : World) (h : Rd w B v zs.length 1 (strs zs)) (hB : B ≤ w.heap.size) (hl : zs.length ≤ 1048576) (hz : ∀ z ∈ zs, z.size ≤ 1048576) :
    Calls Tryd.prog 25 #[v] w (RetR w zs) := by
  have HR := Lib.hid (l11Read_any B v zs w h hB hl hz)
  have hb0 := Below.refl w.heap.size w
  obtain ⟨_, A, c, rfl, _⟩ := h
  clear hz
  by_cases hb : 120 < zs.length
  · have hb' : (120 : Int) < (zs.length : Int) := by omega
    have h1 : codR zs = 5 := if_pos hb
    have h2 : resR zs = [] := if_pos hb
    go_enter Tryd.func25, Tryd.ntmps25
    go_wp2_with fail
    go_ret2
    exact RetR.none h1 h2 hb0
  · have hb' : ¬ (120 : Int) < (zs.length : Int) := by omega
    have e1 : codR zs = if (rdL 0 0 zs).2 ≠ 0 then 7 else 0 := if_neg hb
    have e2 : resR zs = resL zs := if_neg hb
    unfold RetLs at HR
    by_cases hf : (rdL 0 0 zs).2 = 0
    · have h1 := Lib.hid (e1.trans (if_neg (by simp [hf])))
      have h2 := Lib.hid e2
      rw [hf] at HR
      clear e1 e2 hf
      go_enter Tryd.func25, Tryd.ntmps25
      go_wp2_with fail
      refine HR.out.mono ?_; rintro e w6 ⟨v6, rfl, ho6, hb6⟩
      go_wp2_with fail
      go_ret2
      exact RetR.some h1.out h2.out ho6 hb6
    · have h1 := Lib.hid (e1.trans (if_pos hf))
      have h2 := Lib.hid (e2.trans (show resL zs = [] from if_neg hf))
      have hne : ((rdL 0 0 zs).2 != 0) = true := by simp [hf]
      generalize (rdL 0 0 zs).2 = F2 at *
      clear e1 e2
      go_enter Tryd.func25, Tryd.ntmps25
      go_wp2_with fail
      refine HR.out.mono ?_; rintro e w6 ⟨v6, rfl, ho6, hb6⟩
      go_wp2_with fail
      go_ret2
      exact RetR.none h1.out h2.out hb6

/-- what stays true of the reference's program on the way -/
structure StR (W : World) (s3 : Nat) (v1 : Value) (L : List (Int × Int)) (w : World) : Prop where
  acc : Below W.heap.size W w
  z0 : W.heap.size ≤ s3
  z3 : s3 ≤ w.heap.size
  R : Rd w s3 v1 L.length 2 (progs L)
theorem StR.next {W w w' : World} {s3 : Nat} {v1 : Value} {L : List (Int × Int)} (h : StR W s3 v1 L w) (hb : Below w.heap.size w w') : StR W s3 v1 L w' :=
  ⟨h.acc.trans (hb.mono h.acc.size), h.z0, Nat.le_trans h.z3 hb.size, h.R.below (hb.mono h.z3)⟩
theorem StR.drewN {W w : World} {s3 : Nat} {v1 : Value} {L : List (Int × Int)} (h : StR W s3 v1 L w) (k : Nat) : StR W s3 v1 L (w.drewN k) :=
  ⟨below_drewN h.acc k, h.z0, h.z3, h.R.drewN k⟩
theorem StR.grown {W w w' : World} {s3 : Nat} {v1 : Value} {L : List (Int × Int)} {r : Option Nat} (h : StR W s3 v1 L w) (hg : w.grownBy w' r) (hr : ∀ k, r = some k → s3 ≤ k) : StR W s3 v1 L w' :=
  ⟨h.acc.grown hg h.acc.size (fun k hk => Nat.le_trans h.z0 (hr k hk)), h.z0, Nat.le_trans h.z3 hg.size,
    h.R.keep fun p hp => World.cell?_of_block (hg.block p.block (Nat.lt_of_lt_of_le hp h.z3) (fun e => by have := hr _ e.symm; omega))⟩

end Go.Proofs.YtiddhelabmaghaaDoor
/- Numbers read from texts, part 6: a decimal form is read back. -/
namespace Go.Proofs.YtiddhelabmaghaaDoor

theorem dgt_ok (d : Nat) (h : d < 10) : isDg (UInt8.ofNat (48 + d)) = true ∧ (UInt8.ofNat (48 + d)).toNat - 48 = d ∧ UInt8.ofNat (48 + d) ≠ 45 := by
  have hh : ∀ m : Fin 10, isDg (UInt8.ofNat (48 + m.1)) = true ∧ (UInt8.ofNat (48 + m.1)).toNat - 48 = m.1 ∧ UInt8.ofNat (48 + m.1) ≠ 45 := by decide
  exact hh ⟨d, h⟩
theorem dec_facts (u : Nat) : (∀ c ∈ Lib.decDigits u, isDg c = true ∧ c ≠ 45) ∧ numVN (Lib.decDigits u) = u := by
  induction u using Nat.strongRecOn with
  | _ u ih =>
    by_cases h : u < 10
    · rw [Lib.decDigits, dif_pos h]
      obtain ⟨h1, h2, h3⟩ := dgt_ok u h
      refine ⟨fun c hc => ?_, ?_⟩
      · rw [List.mem_singleton.1 hc]; exact ⟨h1, h3⟩
      · show 10 * 0 + ((UInt8.ofNat (48 + u)).toNat - 48) = u
        omega
    · rw [Lib.decDigits, dif_neg h]
      obtain ⟨h1, h2, h3⟩ := dgt_ok (u % 10) (Nat.mod_lt _ (by omega))
      obtain ⟨k1, k2⟩ := ih (u / 10) (by omega)
      refine ⟨fun c hc => ?_, ?_⟩
      · rcases List.mem_append.1 hc with hc | hc
        · exact k1 c hc
        · rw [List.mem_singleton.1 hc]; exact ⟨h1, h3⟩
      · rw [numVN_snoc, k2, h2]; omega
theorem nDig18 (u : Nat) (h : u < 1000000000000000000) : 1 ≤ Lib.nDigits u ∧ Lib.nDigits u ≤ 18 := by
  refine ⟨Lib.nDigits_pos u, ?_⟩
  by_cases h0 : u < 10
  · rw [Lib.nDigits_small h0]; omega
  · rcases Nat.lt_or_ge 18 (Lib.nDigits u) with hl | hg
    · exfalso
      have key : ∀ (k v : Nat), v < 10 ^ (k + 1) → Lib.nDigits v ≤ k + 1 := by
        intro k
        induction k with
        | zero => intro v hv; rw [Lib.nDigits_small (by simpa using hv)]; omega
        | succ k ih =>
          intro v hv
          by_cases hs : v < 10
          · rw [Lib.nDigits_small hs]; omega
          · rw [Lib.nDigits_big hs]
            have := ih (v / 10) (by rw [Nat.pow_succ] at hv; omega)
            omega
      have := key 17 u h
      omega
    · exact hg
theorem readN_decS (a : Int) (h0 : -1000000000000000000 < a) (h1 : a < 1000000000000000000) : readN (decS a) = some a := by
  by_cases hn : a < 0
  · obtain ⟨u, hu⟩ : ∃ u : Nat, a = -(u : Int) := ⟨(-a).toNat, by omega⟩
    obtain ⟨k1, k2⟩ := dec_facts u
    obtain ⟨d1, d2⟩ := nDig18 u (by omega)
    have hs : decS a = ⟨(45 :: Lib.decDigits u).toArray⟩ := by
      unfold decS Lib.itoa
      rw [if_pos hn, show a.natAbs = u by omega]
    have hb : bodyN (decS a) = ⟨(Lib.decDigits u).toArray⟩ := by
      unfold bodyN
      rw [hs, if_pos (by rfl)]
      apply ByteArray.ext
      rw [ByteArray.data_extract]
      simp [ByteArray.size]
    have hz : (bodyN (decS a)).size = Lib.nDigits u := by rw [hb, ← Lib.decDigits_length]; simp [ByteArray.size]
    have hzz : (decS a).size = Lib.nDigits u + 1 := by rw [hs, ← Lib.decDigits_length]; simp [ByteArray.size]
    have hv : valN (decS a) = a := by
      unfold valN
      rw [if_pos (by omega), hb]
      show -((numVN (Lib.decDigits u) : Nat) : Int) = a
      rw [k2]; exact hu.symm
    rw [readN_val (by omega) (by rw [hb]; exact fun c hc => (k1 c hc).1), hv, if_pos rfl]
  · obtain ⟨u, rfl⟩ : ∃ u : Nat, a = (u : Int) := ⟨a.toNat, by omega⟩
    obtain ⟨k1, k2⟩ := dec_facts u
    obtain ⟨d1, d2⟩ := nDig18 u (by omega)
    have hs : decS (u : Int) = ⟨(Lib.decDigits u).toArray⟩ := by
      unfold decS Lib.itoa
      rw [if_neg hn]; rfl
    have hh : (decS (u : Int)).data.toList.head? ≠ some 45 := by
      rw [hs]
      intro e
      have e2 : (Lib.decDigits u).head? = some 45 := e
      exact (k1 45 (List.mem_of_mem_head? e2)).2 rfl
    have hb : bodyN (decS (u : Int)) = decS (u : Int) := by unfold bodyN; rw [if_neg hh]
    have hz : (decS (u : Int)).size = Lib.nDigits u := by rw [hs, ← Lib.decDigits_length]; simp [ByteArray.size]
    have hv : valN (decS (u : Int)) = u := by
      unfold valN
      rw [hb, if_neg (by omega), hs]
      show ((numVN (Lib.decDigits u) : Nat) : Int) = u
      rw [k2]
    rw [readN_val (by rw [hb]; omega) (by rw [hb, hs]; exact fun c hc => (k1 c hc).1), hv, if_pos rfl]
end Go.Proofs.YtiddhelabmaghaaDoor
/- Programs read back from their lines: the plain law. -/
namespace Go.Proofs.YtiddhelabmaghaaDoor

theorem opW_word (n : Nat) (h0 : 0 < n) (h1 : n ≤ 10) : opW (wordP n) = n ∧ fnd 32 (wordP n) = (wordP n).size := by
  have hh : ∀ m : Fin 11, 0 < m.1 → opW (wordP m.1) = m.1 ∧ fnd 32 (wordP m.1) = (wordP m.1).size := by decide
  exact hh ⟨n, by omega⟩ h0
theorem fnd_head {x y : ByteArray} (h : fnd 32 x = x.size) : fnd 32 (x ++ ⟨#[32]⟩ ++ y) = x.size := by
  unfold fnd at *
  have h2 : (x ++ ⟨#[32]⟩ ++ y).data.toList = x.data.toList ++ (32 :: y.data.toList) := by simp
  have h3 : x.data.toList.length = x.size := by simp
  rw [h2, List.findIdx_append]
  have hn : ¬ List.findIdx (fun z => z == 32) x.data.toList < x.data.toList.length := by rw [h, h3]; omega
  rw [if_neg hn, List.findIdx_cons]
  simp
theorem parts_line {x y : ByteArray} (h : fnd 32 x = x.size) : wordL (x ++ ⟨#[32]⟩ ++ y) = x ∧ restL (x ++ ⟨#[32]⟩ ++ y) = y := by
  unfold wordL restL
  rw [fnd_head h]
  constructor
  · rw [ByteArray.append_assoc]
    exact ByteArray.extract_append_eq_left rfl
  · exact ByteArray.extract_append_eq_right (by rw [ByteArray.size_append]; rfl) (by rw [ByteArray.size_append])
/-- a line of an instruction is read back -/
theorem rl_line (n : Nat) (a : Int) (h : okIns n a = true) : rl (lineP n a) = ((n : Int), a, 0) := by
  obtain ⟨h1, h10, ha0, ha1⟩ := okIns_bd h
  obtain ⟨w1, w2⟩ := opW_word n (by omega) (by omega)
  have ha := h
  rw [okIns_arg2 (by omega) (by omega)] at ha
  unfold argF at ha
  by_cases hl : n = 1 ∨ n = 8 ∨ 1 < a
  · have he := lineP_a hl
    obtain ⟨p1, p2⟩ := parts_line (y := decS a) w2
    rw [← he] at p1 p2
    refine rl_good (by rw [p1]; exact w1) (by omega) ?_ ⟨h, rfl⟩
    rw [p2]
    unfold argW
    rw [readN_decS a (by omega) (by omega)]
    by_cases h18 : n = 1 ∨ n = 8
    · rw [if_pos h18]; rfl
    · rw [if_neg h18]
      by_cases h5 : n = 2 ∨ n = 3 ∨ n = 4 ∨ n = 5
      · rw [if_pos h5]; rfl
      · rw [if_neg h5]
        rw [if_neg (by omega), if_neg (by omega)] at ha
        have := of_decide_eq_true ha
        omega
  · have he := lineP_b hl
    have hf : fnd 32 (lineP n a) = (lineP n a).size := by rw [he]; exact w2
    have p1 : wordL (lineP n a) = wordP n := by rw [wordL_all hf, he]
    refine rl_good (by rw [p1]; exact w1) (by omega) ?_ ⟨h, rfl⟩
    rw [restL_none hf]
    unfold argW
    rw [readN_nil, if_neg (by omega)]
    by_cases h5 : n = 2 ∨ n = 3 ∨ n = 4 ∨ n = 5
    · rw [if_pos h5]
      rw [if_neg (by omega), if_pos (by omega), inB_iff] at ha
      show (1 : Int) = a
      omega
    · rw [if_neg h5]
      rw [if_neg (by omega), if_neg (by omega)] at ha
      exact (of_decide_eq_true ha).symm
theorem rl_ok {s : ByteArray} (h : (rl s).2.2 = 0) : okIns (rl s).1 (rl s).2.1 = true ∧ lineP (rl s).1.toNat (rl s).2.1 = s := by
  unfold rl at *
  split at h
  · cases h
  · split at h
    · rename_i h1 h2
      rw [if_neg h1, if_pos h2]
      exact ⟨h2.1, by rw [Int.toNat_natCast]; exact h2.2⟩
    · cases h
theorem rdL_bd : ∀ (l : List ByteArray) (d : Int) (i : Nat), ((rdL d i l).2 = 0 → (rdL d i l).1 = -1) ∧ ((rdL d i l).1 = -1 → (rdL d i l).2 = 0) := by
  intro l
  induction l with
  | nil =>
    intro d i
    unfold rdL
    split
    · exact ⟨fun h => (by cases h), fun h => (by dsimp only at h; omega)⟩
    · exact ⟨fun _ => rfl, fun _ => rfl⟩
  | cons s l ih =>
    intro d i
    unfold rdL
    split
    · rename_i h; exact ⟨fun h2 => absurd h2 h, fun h2 => by dsimp only at h2; omega⟩
    · split
      · rename_i h; exact ⟨fun h2 => absurd h2 h, fun h2 => by dsimp only at h2; omega⟩
      · exact ih _ _
theorem rdL_good : ∀ (l : List ByteArray) (d : Int) (i : Nat), 0 ≤ d → d ≤ 4 → (rdL d i l).2 = 0 → goD d (l.map opOf) = some 0 ∧ (l.map opOf).map lineZ = l := by
  intro l
  induction l with
  | nil =>
    intro d i h0 h4 h
    unfold rdL at h
    split at h
    · cases h
    · have : d = 0 := by omega
      subst this
      exact ⟨rfl, rfl⟩
  | cons s l ih =>
    intro d i h0 h4 h
    unfold rdL at h
    split at h
    · rename_i h1; exact absurd h h1
    · rename_i h1
      split at h
      · rename_i h2; exact absurd h h2
      · rename_i h2
        have h1' : (rl s).2.2 = 0 := by omega
        have h2' : stepF (rl s).1 d = 0 := by omega
        obtain ⟨k1, k2⟩ := rl_ok h1'
        obtain ⟨b0, b4⟩ := step_bd (rl s).1 d h0 h4
        obtain ⟨j1, j2⟩ := ih _ _ b0 b4 h
        refine ⟨?_, ?_⟩
        · rw [List.map_cons, goD]
          unfold opOf
          dsimp only
          rw [if_pos (by rw [k1, h2']; rfl)]
          exact j1
        · rw [List.map_cons, List.map_cons, j2]
          congr 1
/-- what is read is a program, and its lines are these -/
theorem read_ok {zs : List ByteArray} (h : codR zs = 0) : okProg (resR zs) = true ∧ linesP (resR zs) = zs := by
  unfold codR at h
  split at h
  · cases h
  · rename_i h1
    split at h
    · cases h
    · rename_i h2
      have h2' : (rdL 0 0 zs).2 = 0 := by omega
      have hr : resR zs = zs.map opOf := by
        unfold resR resL
        rw [if_neg h1, if_pos h2']
      obtain ⟨j1, j2⟩ := rdL_good zs 0 0 (by omega) (by omega) h2'
      have ho : okProg (resR zs) = true := by
        unfold okProg
        rw [hr, j1, List.length_map]
        simp
        omega
      refine ⟨ho, ?_⟩
      unfold linesP
      rw [if_pos ho, hr, j2]
theorem chk_cod (zs : List ByteArray) : (codR zs = 0) ↔ ((chkP zs).2.2 = 0 ∧ (chkP zs).1 = -1) := by
  unfold codR chkP
  split
  · simp
  · obtain ⟨b1, b2⟩ := rdL_bd zs 0 0
    split
    · rename_i h
      simp only [true_and]
      exact ⟨fun h2 => (by cases h2), fun h2 => absurd (b2 h2) h⟩
    · rename_i h
      simp only [true_and]
      have h' : (rdL 0 0 zs).2 = 0 := by omega
      exact ⟨fun _ => b1 h', fun _ => trivial⟩
theorem rdL_lines : ∀ (l : List (Int × Int)) (d : Int) (i : Nat), goD d l = some 0 → rdL d i (l.map lineZ) = (-1, 0) ∧ (l.map lineZ).map opOf = l := by
  intro l
  induction l with
  | nil =>
    intro d i h
    unfold goD at h
    have : d = 0 := Option.some.inj h
    subst this
    exact ⟨rfl, rfl⟩
  | cons x l ih =>
    intro d i h
    unfold goD at h
    split at h
    · rename_i h1
      simp only [Bool.and_eq_true, decide_eq_true_eq] at h1
      obtain ⟨b1, _, _, _⟩ := okIns_bd h1.1
      obtain ⟨n, hn⟩ : ∃ n : Nat, x.1 = (n : Int) := ⟨x.1.toNat, by omega⟩
      have hl : rl (lineZ x) = (x.1, x.2, 0) := by
        unfold lineZ
        rw [hn, Int.toNat_natCast]
        exact rl_line n x.2 (by rw [← hn]; exact h1.1)
      obtain ⟨j1, j2⟩ := ih _ (i + 1) h
      refine ⟨?_, ?_⟩
      · rw [List.map_cons, rdL, hl]
        dsimp only
        rw [if_neg (by simp), if_neg (by simp [h1.2])]
        exact j1
      · rw [List.map_cons, List.map_cons, j2]
        unfold opOf
        rw [hl]
    · cases h
/-- a program is read back from its lines -/
theorem back_ok {l : List (Int × Int)} (h : okProg l = true) : codR (linesP l) = 0 ∧ resR (linesP l) = l := by
  have h' := h
  unfold okProg at h
  simp only [Bool.and_eq_true, decide_eq_true_eq, beq_iff_eq] at h
  obtain ⟨j1, j2⟩ := rdL_lines l 0 0 h.1
  have hl : linesP l = l.map lineZ := by unfold linesP; rw [if_pos h']
  have hn : ¬ 120 < (l.map lineZ).length := by rw [List.length_map]; omega
  rw [hl]
  unfold codR resR resL
  rw [if_neg hn, if_neg hn, j1]
  exact ⟨rfl, by rw [if_pos rfl]; exact j2⟩
end Go.Proofs.YtiddhelabmaghaaDoor
