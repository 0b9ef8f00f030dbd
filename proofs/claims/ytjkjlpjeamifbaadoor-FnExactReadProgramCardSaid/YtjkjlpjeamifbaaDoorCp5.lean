/- A program's line, read, part 5 (printed by gen_cp5.py): l11Line (reference). -/
import Derived.Test.YtjkjlpjeamifbaaDoorCp4
import Derived.Test.YtjkjlpjeamifbaaDoorLib5
namespace Go.Proofs.YtjkjlpjeamifbaaDoor
open Go.RowKit Go.Joins

theorem own_wd {w : World} {base : Nat} {v : Value} {L : List ByteArray} (h : w.ownsRow base 9 1 v L.length (L.map Value.string)) (hn : 0 < L.length) :
    ∃ g c, v = .slice (some ⟨g, 0, none⟩) L.length c ∧ WdAt g L.length (fun i => L.getD i ⟨#[]⟩) w := by
  rcases h.2 with ⟨_, h0⟩ | ⟨g, cap, _, hv, _, _, h1, h2, _⟩
  · omega
  · subst hv
    refine ⟨g, cap, rfl, fun i hi => ?_⟩
    have hc := h.cells (g := g) rfl i (.string (L.getD i ⟨#[]⟩)) (by
      rw [List.getElem?_map, List.getElem?_eq_getElem hi, List.getD_eq_getElem?_getD, List.getElem?_eq_getElem hi]; rfl)
    rwa [add0] at hc

set_option maxRecDepth 100000 in
set_option maxHeartbeats 3200000 in
theorem l11Line_any (s : ByteArray) (w : World) (hs : s.size ≤ 1073741824) : Calls Tryd.prog 60 #[.string s] w (RetRl w (rl s)) := by
  have HSp := Lib.hid (fun wx => l01Split_any s 32 wx hs)
  unfold RetPs at HSp
  have HO := Lib.hid (fun wx => l11Words_all wx)
  have Hz := Lib.hid (show (restL s).size ≤ 1073741824 by unfold restL; rw [ByteArray.size_extract]; omega)
  have HR := Lib.hid (fun wx => l01Number_any (restL s) wx Hz.out)
  unfold RetN1 at HR
  have Hn := Lib.hid (fun h => rl_none (s := s) h)
  have hle := opW_le (wordL s)
  have HX := Lib.hid (fun k => opW_step (wordL s) k)
  have H11 := Lib.hid (show opW (wordL s) = opF (wordL s) 11 from rfl)
  have HP : ∃ L, splitB 32 s = L ∧ 0 < L.length ∧ L.length ≤ 1073741825 ∧ L.getD 0 ⟨#[]⟩ = wordL s ∧ ((L.length = 1 ∧ Hid (∀ n, opW (wordL s) = n → n ≠ 0 → rl s = if n = 1 ∨ n = 8 then (0, 0, 2) else if n ≤ 5 then ((n : Int), 1, 0) else ((n : Int), 0, 0))) ∨
      (L.length = 2 ∧ L.getD 1 ⟨#[]⟩ = restL s ∧ Hid (∀ n, opW (wordL s) = n → n ≠ 0 → (readN (restL s) = none → rl s = (0, 0, 2)) ∧ ∀ a, readN (restL s) = some a → rl s = if okS n a = true then ((n : Int), a, 0) else (0, 0, 2))) ∨
      (2 < L.length ∧ Hid (∀ n, opW (wordL s) = n → n ≠ 0 → rl s = (0, 0, 2)))) := by
    have h0 := fnd_le 32 s
    have hlen := splitB_len 32 s.size s (Nat.le_refl _)
    rcases Nat.lt_or_ge (fnd 32 s) s.size with hf | hf
    · have h1 := fnd_le 32 (restL s)
      rcases Nat.lt_or_ge (fnd 32 (restL s)) (restL s).size with hr | hr
      · obtain ⟨l, hl, h2⟩ := parts_many hf hr
        rw [hl] at hlen
        exact ⟨_, hl, by simp, by omega, rfl, .inr (.inr ⟨by rw [List.length_cons]; omega, Lib.hid (fun n h3 h4 => rl_nonum h3 h4 hf (readN_blank hr))⟩)⟩
      · exact ⟨_, parts_two hf (by omega), by simp, by simp, rfl, .inr (.inl ⟨rfl, rfl, Lib.hid (fun n h3 h4 => ⟨fun h5 => rl_nonum h3 h4 hf h5, fun a h5 => rl_num h3 h4 hf h5⟩)⟩)⟩
    · exact ⟨_, parts_one (by omega), by simp, by simp, rfl, .inl ⟨rfl, Lib.hid (fun n h3 h4 => rl_one h3 h4 (by omega))⟩⟩
  obtain ⟨L, hL, hpos, hmax, hf0, hcases⟩ := HP
  rw [hL] at HSp
  clear hL
  generalize wordL s = X at *
  generalize restL s = Y at *
  have hb0 := Below.refl (w.alloc (.cells #[.int .i64 0, .int .i64 0] 70)).heap.size (w.alloc (.cells #[.int .i64 0, .int .i64 0] 70))
  have HB0 := Lib.hid hb0; clear hb0
  go_enter Tryd.func60, Tryd.ntmps60
  go_wp2_with fail
  refine (HSp.out _).mono ?_; rintro e w5 ⟨v5, rfl, ho5, hb5⟩
  have HB5 := Lib.hid hb5
  obtain ⟨gp, cp, rfl, hw5⟩ := own_wd ho5 hpos
  generalize hf : (fun i => L.getD i ⟨#[]⟩) = f at *
  generalize hm : L.length = m at *
  have hf0' : f 0 = X := by rw [← hf]; exact hf0
  have Hf := Lib.hid hf; clear hf hf0
  have W5 := Lib.hid hw5
  clear ho5 hb5 hw5 HSp HB0
  go_wp2_with fail
  refine (HO.out _).mono ?_; rintro e w6 ⟨rfl, hw6, hb6⟩
  have HB6 := Lib.hid (HB5.out.trans (hb6.mono HB5.out.size))
  have W6 := Lib.hid hw6
  have P6 := Lib.hid (W5.out.next hb6)
  generalize w5.heap.size = b at *
  clear hb6 hw6 HO HB5 W5
  go_wp2_with fail
  go_loopw [6, 7] (fun o i wr => ∃ k : Nat, k ≤ 10 ∧ i = .int .i64 (k : Int) ∧ o = .int .i64 (opF X (k + 1) : Int) ∧ Below (w.alloc (.cells #[.int .i64 0, .int .i64 0] 70)).heap.size (w.alloc (.cells #[.int .i64 0, .int .i64 0] 70)) wr ∧ WdAt b 10 (fun k => wordP (k + 1)) wr ∧ WdAt gp m f wr) (fun _ i _ => 10 - (intOf i).toNat)
  case atStart => exact ⟨0, by omega, rfl, rfl, HB6.out, W6.out, P6.out⟩
  case round =>
    obtain ⟨k, hk, rfl, rfl, hb, hw, hp⟩ := hrel
    have Hb := Lib.hid hb
    have Hw := Lib.hid hw
    have Hp := Lib.hid hp
    clear HB6 W6 P6
    have hp0 := hp 0 hpos
    rw [hf0'] at hp0
    by_cases hlt : k < 10
    · have hlt' : (k : Int) < 10 := by omega
      have hc := hw k hlt
      have hst := HX.out (k + 1)
      have hm0 : (0 : Int) < (m : Int) := by omega
      clear hb hw hp
      dsimp only at hc
      by_cases he : wordP (k + 1) = X
      · have Hst := Lib.hid (show opF X (k + 1 + 1) = k + 1 by rw [hst, if_pos ⟨by omega, he⟩])
        rw [he] at hc
        clear he hst
        go_wp2_with fail
        go_quiet (fail)
        go_wp2_with fail
        go_roundw
        case rel => exact ⟨k + 1, by omega, by go_num, by rw [Hst.out]; go_num, below_drewN Hb.out _, Hw.out, Hp.out⟩
        case measure => simp [intOf]; omega
      · have Hst := Lib.hid (show opF X (k + 1 + 1) = opF X (k + 1) by rw [hst, if_neg fun h => he h.2])
        have hbq : ((wordP (k + 1)).toList == X.toList) = false := beq_eq_false_iff_ne.2 fun e => he (ba_inj e)
        generalize wordP (k + 1) = Wk at *
        clear he hst
        go_wp2_with fail
        go_quiet (fail)
        go_wp2_with fail
        go_roundw
        case rel => exact ⟨k + 1, by omega, by go_num, by rw [Hst.out], below_drewN Hb.out _, Hw.out, Hp.out⟩
        case measure => simp [intOf]; omega
    · have hk10 : k = 10 := by omega
      subst hk10
      rw [show opF X (10 + 1) = opW X from H11.out.symm]
      clear Hw hw hp HX H11 hlt hk hb hp0
      generalize opW X = n at *
      obtain ⟨d0, d1, e0, e1⟩ := res2_pre Hb.out
      by_cases h0 : n = 0
      · subst h0
        have HD := Lib.hid (res2_post Hb.out (.int .i64 0) (.int .i64 0))
        have hn := Hn.out rfl
        clear hcases Hn
        go_wp2_with fail
        obtain ⟨p0, p1, hbz⟩ := HD.out
        refine bodyPost_ret (v := .tuple #[.agg #[.int .i64 0, .int .i64 0], .int .i64 1]) (by simp [results, Tryd.results60, go_sem, p0, p1]) rfl ?_
        unfold RetRl; rw [hn]; exact ⟨rfl, hbz⟩
      · have R1 := Lib.hid (Rl.start _ Hb.out (n : Int) 0 rfl)
        have hne : ((n : Int) == 0) = false := by rw [beq_eq_false_iff_ne]; omega
        have P1 := Lib.hid (Hp.out.next ((Below.refl wr.heap.size wr).alloc (Nat.le_refl _) (.cells #[.int .i64 (n : Int), .int .i64 0] 70)))
        rcases hcases with ⟨hm1, HF⟩ | ⟨hm2, hf1, HF⟩ | ⟨hm3, HF⟩
        · subst hm1
          have hcs : n = 1 ∨ n = 8 ∨ n = 2 ∨ n = 3 ∨ n = 4 ∨ n = 5 ∨ n = 6 ∨ n = 7 ∨ n = 9 ∨ n = 10 := by omega
          have HI := Lib.hid (fun wx => l00In_any (n : Int) 2 5 wx)
          have HA := Lib.hid (fun a wx => l11Arg_any (n : Int) a wx)
          have HFn := Lib.hid (HF.out n rfl h0)
          clear Hn HF h0
          go_wp2_with fail
          refine (HI.out _).mono ?_; rintro e wn ⟨rfl, hwn⟩
          rw [hwn] at R1
          clear hwn HI P1 Hb Hp
          generalize wr.heap.size = g at *
          have HL2 := Lib.hid hle
          clear hle
          rcases hcs with rfl | rfl | rfl | rfl | rfl | rfl | rfl | rfl | rfl | rfl
          · have hin : inB ((1 : Nat) : Int) 2 5 = false := by decide
            rw [hin]
            clear hin
            have hfin : rl s = (0, 0, 2) := HFn.out
            have h00 : Hid (rl s = rl s) := Lib.hid rfl
            have R2 := R1
            have HD := Lib.hid (R2.out.done 0 0)
            obtain ⟨c0, c1, f0, f1⟩ := R1.out.cells
            obtain ⟨d0, d1, e0, e1⟩ := R1.out.rcells
            clear h00
            go_wp2_with fail
            obtain ⟨p0, p1, hbz⟩ := HD.out
            refine bodyPost_ret (v := .tuple #[.agg #[.int .i64 0, .int .i64 0], .int .i64 2]) (by simp [results, Tryd.results60, go_sem, p0, p1]) rfl ?_
            unfold RetRl; rw [hfin]; exact ⟨rfl, hbz⟩
          · have hin : inB ((8 : Nat) : Int) 2 5 = false := by decide
            rw [hin]
            clear hin
            have hin : argF ((8 : Nat) : Int) 0 = false := by decide
            have HAx := Lib.hid (fun wx => HA.out 0 wx)
            rw [hin] at HAx
            clear hin
            have hfin : rl s = (0, 0, 2) := HFn.out
            have h00 : Hid (rl s = rl s) := Lib.hid rfl
            have R2 := R1
            have HD := Lib.hid (R2.out.done 0 0)
            obtain ⟨c0, c1, f0, f1⟩ := R1.out.cells
            obtain ⟨d0, d1, e0, e1⟩ := R1.out.rcells
            clear h00
            go_wp2_with fail
            refine (HAx.out _).mono ?_; rintro e w1 ⟨rfl, rfl⟩
            go_wp2_with fail
            obtain ⟨p0, p1, hbz⟩ := HD.out
            refine bodyPost_ret (v := .tuple #[.agg #[.int .i64 0, .int .i64 0], .int .i64 2]) (by simp [results, Tryd.results60, go_sem, p0, p1]) rfl ?_
            unfold RetRl; rw [hfin]; exact ⟨rfl, hbz⟩
          · have hin : inB ((2 : Nat) : Int) 2 5 = true := by decide
            rw [hin]
            clear hin
            have hin : argF ((2 : Nat) : Int) 1 = true := by decide
            have HAx := Lib.hid (fun wx => HA.out 1 wx)
            rw [hin] at HAx
            clear hin
            have hfin : rl s = ((2 : Int), 1, 0) := HFn.out
            have h00 : Hid (rl s = rl s) := Lib.hid rfl
            have R2 := Lib.hid (R1.out.set1 1)
            have HD := Lib.hid (R2.out.done (2 : Int) 1)
            obtain ⟨c20, c21, f20, f21⟩ := R2.out.cells
            obtain ⟨d20, d21, e20, e21⟩ := R2.out.rcells
            obtain ⟨c0, c1, f0, f1⟩ := R1.out.cells
            obtain ⟨d0, d1, e0, e1⟩ := R1.out.rcells
            clear h00
            go_wp2_with fail
            refine (HAx.out _).mono ?_; rintro e w1 ⟨rfl, rfl⟩
            go_wp2_with fail
            obtain ⟨p0, p1, hbz⟩ := HD.out
            refine bodyPost_ret (v := .tuple #[.agg #[.int .i64 (2 : Int), .int .i64 1], .int .i64 0]) (by simp [results, Tryd.results60, go_sem, p0, p1]) rfl ?_
            unfold RetRl; rw [hfin]; exact ⟨rfl, hbz⟩
          · have hin : inB ((3 : Nat) : Int) 2 5 = true := by decide
            rw [hin]
            clear hin
            have hin : argF ((3 : Nat) : Int) 1 = true := by decide
            have HAx := Lib.hid (fun wx => HA.out 1 wx)
            rw [hin] at HAx
            clear hin
            have hfin : rl s = ((3 : Int), 1, 0) := HFn.out
            have h00 : Hid (rl s = rl s) := Lib.hid rfl
            have R2 := Lib.hid (R1.out.set1 1)
            have HD := Lib.hid (R2.out.done (3 : Int) 1)
            obtain ⟨c20, c21, f20, f21⟩ := R2.out.cells
            obtain ⟨d20, d21, e20, e21⟩ := R2.out.rcells
            obtain ⟨c0, c1, f0, f1⟩ := R1.out.cells
            obtain ⟨d0, d1, e0, e1⟩ := R1.out.rcells
            clear h00
            go_wp2_with fail
            refine (HAx.out _).mono ?_; rintro e w1 ⟨rfl, rfl⟩
            go_wp2_with fail
            obtain ⟨p0, p1, hbz⟩ := HD.out
            refine bodyPost_ret (v := .tuple #[.agg #[.int .i64 (3 : Int), .int .i64 1], .int .i64 0]) (by simp [results, Tryd.results60, go_sem, p0, p1]) rfl ?_
            unfold RetRl; rw [hfin]; exact ⟨rfl, hbz⟩
          · have hin : inB ((4 : Nat) : Int) 2 5 = true := by decide
            rw [hin]
            clear hin
            have hin : argF ((4 : Nat) : Int) 1 = true := by decide
            have HAx := Lib.hid (fun wx => HA.out 1 wx)
            rw [hin] at HAx
            clear hin
            have hfin : rl s = ((4 : Int), 1, 0) := HFn.out
            have h00 : Hid (rl s = rl s) := Lib.hid rfl
            have R2 := Lib.hid (R1.out.set1 1)
            have HD := Lib.hid (R2.out.done (4 : Int) 1)
            obtain ⟨c20, c21, f20, f21⟩ := R2.out.cells
            obtain ⟨d20, d21, e20, e21⟩ := R2.out.rcells
            obtain ⟨c0, c1, f0, f1⟩ := R1.out.cells
            obtain ⟨d0, d1, e0, e1⟩ := R1.out.rcells
            clear h00
            go_wp2_with fail
            refine (HAx.out _).mono ?_; rintro e w1 ⟨rfl, rfl⟩
            go_wp2_with fail
            obtain ⟨p0, p1, hbz⟩ := HD.out
            refine bodyPost_ret (v := .tuple #[.agg #[.int .i64 (4 : Int), .int .i64 1], .int .i64 0]) (by simp [results, Tryd.results60, go_sem, p0, p1]) rfl ?_
            unfold RetRl; rw [hfin]; exact ⟨rfl, hbz⟩
          · have hin : inB ((5 : Nat) : Int) 2 5 = true := by decide
            rw [hin]
            clear hin
            have hin : argF ((5 : Nat) : Int) 1 = true := by decide
            have HAx := Lib.hid (fun wx => HA.out 1 wx)
            rw [hin] at HAx
            clear hin
            have hfin : rl s = ((5 : Int), 1, 0) := HFn.out
            have h00 : Hid (rl s = rl s) := Lib.hid rfl
            have R2 := Lib.hid (R1.out.set1 1)
            have HD := Lib.hid (R2.out.done (5 : Int) 1)
            obtain ⟨c20, c21, f20, f21⟩ := R2.out.cells
            obtain ⟨d20, d21, e20, e21⟩ := R2.out.rcells
            obtain ⟨c0, c1, f0, f1⟩ := R1.out.cells
            obtain ⟨d0, d1, e0, e1⟩ := R1.out.rcells
            clear h00
            go_wp2_with fail
            refine (HAx.out _).mono ?_; rintro e w1 ⟨rfl, rfl⟩
            go_wp2_with fail
            obtain ⟨p0, p1, hbz⟩ := HD.out
            refine bodyPost_ret (v := .tuple #[.agg #[.int .i64 (5 : Int), .int .i64 1], .int .i64 0]) (by simp [results, Tryd.results60, go_sem, p0, p1]) rfl ?_
            unfold RetRl; rw [hfin]; exact ⟨rfl, hbz⟩
          · have hin : inB ((6 : Nat) : Int) 2 5 = false := by decide
            rw [hin]
            clear hin
            have hin : argF ((6 : Nat) : Int) 0 = true := by decide
            have HAx := Lib.hid (fun wx => HA.out 0 wx)
            rw [hin] at HAx
            clear hin
            have hfin : rl s = ((6 : Int), 0, 0) := HFn.out
            have h00 : Hid (rl s = rl s) := Lib.hid rfl
            have R2 := R1
            have HD := Lib.hid (R2.out.done (6 : Int) 0)
            obtain ⟨c0, c1, f0, f1⟩ := R1.out.cells
            obtain ⟨d0, d1, e0, e1⟩ := R1.out.rcells
            clear h00
            go_wp2_with fail
            refine (HAx.out _).mono ?_; rintro e w1 ⟨rfl, rfl⟩
            go_wp2_with fail
            obtain ⟨p0, p1, hbz⟩ := HD.out
            refine bodyPost_ret (v := .tuple #[.agg #[.int .i64 (6 : Int), .int .i64 0], .int .i64 0]) (by simp [results, Tryd.results60, go_sem, p0, p1]) rfl ?_
            unfold RetRl; rw [hfin]; exact ⟨rfl, hbz⟩
          · have hin : inB ((7 : Nat) : Int) 2 5 = false := by decide
            rw [hin]
            clear hin
            have hin : argF ((7 : Nat) : Int) 0 = true := by decide
            have HAx := Lib.hid (fun wx => HA.out 0 wx)
            rw [hin] at HAx
            clear hin
            have hfin : rl s = ((7 : Int), 0, 0) := HFn.out
            have h00 : Hid (rl s = rl s) := Lib.hid rfl
            have R2 := R1
            have HD := Lib.hid (R2.out.done (7 : Int) 0)
            obtain ⟨c0, c1, f0, f1⟩ := R1.out.cells
            obtain ⟨d0, d1, e0, e1⟩ := R1.out.rcells
            clear h00
            go_wp2_with fail
            refine (HAx.out _).mono ?_; rintro e w1 ⟨rfl, rfl⟩
            go_wp2_with fail
            obtain ⟨p0, p1, hbz⟩ := HD.out
            refine bodyPost_ret (v := .tuple #[.agg #[.int .i64 (7 : Int), .int .i64 0], .int .i64 0]) (by simp [results, Tryd.results60, go_sem, p0, p1]) rfl ?_
            unfold RetRl; rw [hfin]; exact ⟨rfl, hbz⟩
          · have hin : inB ((9 : Nat) : Int) 2 5 = false := by decide
            rw [hin]
            clear hin
            have hin : argF ((9 : Nat) : Int) 0 = true := by decide
            have HAx := Lib.hid (fun wx => HA.out 0 wx)
            rw [hin] at HAx
            clear hin
            have hfin : rl s = ((9 : Int), 0, 0) := HFn.out
            have h00 : Hid (rl s = rl s) := Lib.hid rfl
            have R2 := R1
            have HD := Lib.hid (R2.out.done (9 : Int) 0)
            obtain ⟨c0, c1, f0, f1⟩ := R1.out.cells
            obtain ⟨d0, d1, e0, e1⟩ := R1.out.rcells
            clear h00
            go_wp2_with fail
            refine (HAx.out _).mono ?_; rintro e w1 ⟨rfl, rfl⟩
            go_wp2_with fail
            obtain ⟨p0, p1, hbz⟩ := HD.out
            refine bodyPost_ret (v := .tuple #[.agg #[.int .i64 (9 : Int), .int .i64 0], .int .i64 0]) (by simp [results, Tryd.results60, go_sem, p0, p1]) rfl ?_
            unfold RetRl; rw [hfin]; exact ⟨rfl, hbz⟩
          · have hin : inB ((10 : Nat) : Int) 2 5 = false := by decide
            rw [hin]
            clear hin
            have hin : argF ((10 : Nat) : Int) 0 = true := by decide
            have HAx := Lib.hid (fun wx => HA.out 0 wx)
            rw [hin] at HAx
            clear hin
            have hfin : rl s = ((10 : Int), 0, 0) := HFn.out
            have h00 : Hid (rl s = rl s) := Lib.hid rfl
            have R2 := R1
            have HD := Lib.hid (R2.out.done (10 : Int) 0)
            obtain ⟨c0, c1, f0, f1⟩ := R1.out.cells
            obtain ⟨d0, d1, e0, e1⟩ := R1.out.rcells
            clear h00
            go_wp2_with fail
            refine (HAx.out _).mono ?_; rintro e w1 ⟨rfl, rfl⟩
            go_wp2_with fail
            obtain ⟨p0, p1, hbz⟩ := HD.out
            refine bodyPost_ret (v := .tuple #[.agg #[.int .i64 (10 : Int), .int .i64 0], .int .i64 0]) (by simp [results, Tryd.results60, go_sem, p0, p1]) rfl ?_
            unfold RetRl; rw [hfin]; exact ⟨rfl, hbz⟩
        · subst hm2
          have hcs : n = 1 ∨ n = 8 ∨ n = 2 ∨ n = 3 ∨ n = 4 ∨ n = 5 ∨ n = 6 ∨ n = 7 ∨ n = 9 ∨ n = 10 := by omega
          have HA := Lib.hid (fun a wx => l11Arg_any (n : Int) a wx)
          have HFn := Lib.hid (HF.out n rfl h0)
          have hf1' : f 1 = Y := by rw [← Hf.out]; exact hf1
          have hp1 := P1.out 1 (by omega)
          rw [hf1'] at hp1
          obtain ⟨c0, c1, f0, f1⟩ := R1.out.cells
          go_wp2_with fail
          refine (HR.out _).mono ?_; rintro e w88 ⟨rfl, hb8⟩
          have R2 := Lib.hid (R1.out.next hb8)
          clear hb8 c0 c1 f0 f1 d0 d1 e0 e1 R1 P1 Hb Hp
          generalize wr.heap.size = g at *
          obtain ⟨c0, c1, f0, f1⟩ := R2.out.cells
          clear Hn HF h0 hle hf1 hf1' hf0' HR hp1
          rcases hcs with rfl | rfl | rfl | rfl | rfl | rfl | rfl | rfl | rfl | rfl
          · cases hq : readN Y with
            | none =>
              have hfin : rl s = (0, 0, 2) := HFn.out.1 hq
              clear hq HFn
              have R3 := Lib.hid (R2.out.set1 0)
              obtain ⟨d0, d1, e0, e1⟩ := R3.out.rcells
              have HD := Lib.hid (R3.out.done 0 0)
              go_wp2_with fail
              obtain ⟨p0, p1, hbz⟩ := HD.out
              refine bodyPost_ret (v := .tuple #[.agg #[.int .i64 0, .int .i64 0], .int .i64 2]) (by simp [results, Tryd.results60, go_sem, p0, p1]) rfl ?_
              unfold RetRl; rw [hfin]; exact ⟨rfl, hbz⟩
            | some a =>
              have HFx := Lib.hid (HFn.out.2 a hq)
              clear hq HFn
              by_cases ha1 : a = 1
              · subst ha1
                have hin : argF ((1 : Nat) : Int) 1 = true := by decide
                have HAx := Lib.hid (fun wx => HA.out 1 wx)
                rw [hin] at HAx
                clear hin
                have hfin : rl s = ((1 : Int), 1, 0) := HFx.out
                clear HFx
                have R3 := Lib.hid (R2.out.set1 1)
                obtain ⟨d0, d1, e0, e1⟩ := R3.out.rcells
                obtain ⟨c30, c31, f30, f31⟩ := R3.out.cells
                have HD := Lib.hid (R3.out.done (1 : Int) 1)
                go_wp2_with fail
                refine (HAx.out _).mono ?_; rintro e w1 ⟨rfl, rfl⟩
                go_wp2_with fail
                obtain ⟨p0, p1, hbz⟩ := HD.out
                refine bodyPost_ret (v := .tuple #[.agg #[.int .i64 (1 : Int), .int .i64 1], .int .i64 0]) (by simp [results, Tryd.results60, go_sem, p0, p1]) rfl ?_
                unfold RetRl; rw [hfin]; exact ⟨rfl, hbz⟩
              · by_cases ha0 : a = 0
                · subst ha0
                  have hin : argF ((1 : Nat) : Int) 0 = true := by decide
                  have HAx := Lib.hid (fun wx => HA.out 0 wx)
                  rw [hin] at HAx
                  clear hin
                  have hfin : rl s = ((1 : Int), 0, 0) := HFx.out
                  clear HFx
                  have R3 := Lib.hid (R2.out.set1 0)
                  obtain ⟨d0, d1, e0, e1⟩ := R3.out.rcells
                  obtain ⟨c30, c31, f30, f31⟩ := R3.out.cells
                  have HD := Lib.hid (R3.out.done (1 : Int) 0)
                  go_wp2_with fail
                  refine (HAx.out _).mono ?_; rintro e w1 ⟨rfl, rfl⟩
                  go_wp2_with fail
                  obtain ⟨p0, p1, hbz⟩ := HD.out
                  refine bodyPost_ret (v := .tuple #[.agg #[.int .i64 (1 : Int), .int .i64 0], .int .i64 0]) (by simp [results, Tryd.results60, go_sem, p0, p1]) rfl ?_
                  unfold RetRl; rw [hfin]; exact ⟨rfl, hbz⟩
                · cases hg : argF ((1 : Nat) : Int) a with
                  | true =>
                    have HAx := Lib.hid (fun wx => HA.out a wx)
                    rw [hg] at HAx
                    have hk : okS 1 a = true := by unfold okS; rw [hg, decide_eq_true ha1, decide_eq_true ha0]; rfl
                    have hfin : rl s = ((1 : Int), a, 0) := by rw [HFx.out, hk]; rfl
                    have n1 : (a != 1) = true := by simp [ha1]
                    have n0 : (a != 0) = true := by simp [ha0]
                    clear ha1 ha0 hg hk
                    clear HFx
                    have R3 := Lib.hid (R2.out.set1 a)
                    obtain ⟨d0, d1, e0, e1⟩ := R3.out.rcells
                    obtain ⟨c30, c31, f30, f31⟩ := R3.out.cells
                    have HD := Lib.hid (R3.out.done (1 : Int) a)
                    go_wp2_with fail
                    refine (HAx.out _).mono ?_; rintro e w1 ⟨rfl, rfl⟩
                    go_wp2_with fail
                    obtain ⟨p0, p1, hbz⟩ := HD.out
                    refine bodyPost_ret (v := .tuple #[.agg #[.int .i64 (1 : Int), .int .i64 a], .int .i64 0]) (by simp [results, Tryd.results60, go_sem, p0, p1]) rfl ?_
                    unfold RetRl; rw [hfin]; exact ⟨rfl, hbz⟩
                  | false =>
                    have HAx := Lib.hid (fun wx => HA.out a wx)
                    rw [hg] at HAx
                    have hk : okS 1 a = false := by unfold okS; rw [hg, decide_eq_true ha1, decide_eq_true ha0]; rfl
                    have hfin : rl s = (0, 0, 2) := by rw [HFx.out, hk]; rfl
                    have n1 : (a != 1) = true := by simp [ha1]
                    have n0 : (a != 0) = true := by simp [ha0]
                    clear ha1 ha0 hg hk
                    clear HFx
                    have R3 := Lib.hid (R2.out.set1 a)
                    obtain ⟨d0, d1, e0, e1⟩ := R3.out.rcells
                    obtain ⟨c30, c31, f30, f31⟩ := R3.out.cells
                    have HD := Lib.hid (R3.out.done 0 0)
                    go_wp2_with fail
                    refine (HAx.out _).mono ?_; rintro e w1 ⟨rfl, rfl⟩
                    go_wp2_with fail
                    obtain ⟨p0, p1, hbz⟩ := HD.out
                    refine bodyPost_ret (v := .tuple #[.agg #[.int .i64 0, .int .i64 0], .int .i64 2]) (by simp [results, Tryd.results60, go_sem, p0, p1]) rfl ?_
                    unfold RetRl; rw [hfin]; exact ⟨rfl, hbz⟩
          · cases hq : readN Y with
            | none =>
              have hfin : rl s = (0, 0, 2) := HFn.out.1 hq
              clear hq HFn
              have R3 := Lib.hid (R2.out.set1 0)
              obtain ⟨d0, d1, e0, e1⟩ := R3.out.rcells
              have HD := Lib.hid (R3.out.done 0 0)
              go_wp2_with fail
              obtain ⟨p0, p1, hbz⟩ := HD.out
              refine bodyPost_ret (v := .tuple #[.agg #[.int .i64 0, .int .i64 0], .int .i64 2]) (by simp [results, Tryd.results60, go_sem, p0, p1]) rfl ?_
              unfold RetRl; rw [hfin]; exact ⟨rfl, hbz⟩
            | some a =>
              have HFx := Lib.hid (HFn.out.2 a hq)
              clear hq HFn
              by_cases ha1 : a = 1
              · subst ha1
                have hin : argF ((8 : Nat) : Int) 1 = true := by decide
                have HAx := Lib.hid (fun wx => HA.out 1 wx)
                rw [hin] at HAx
                clear hin
                have hfin : rl s = ((8 : Int), 1, 0) := HFx.out
                clear HFx
                have R3 := Lib.hid (R2.out.set1 1)
                obtain ⟨d0, d1, e0, e1⟩ := R3.out.rcells
                obtain ⟨c30, c31, f30, f31⟩ := R3.out.cells
                have HD := Lib.hid (R3.out.done (8 : Int) 1)
                go_wp2_with fail
                refine (HAx.out _).mono ?_; rintro e w1 ⟨rfl, rfl⟩
                go_wp2_with fail
                obtain ⟨p0, p1, hbz⟩ := HD.out
                refine bodyPost_ret (v := .tuple #[.agg #[.int .i64 (8 : Int), .int .i64 1], .int .i64 0]) (by simp [results, Tryd.results60, go_sem, p0, p1]) rfl ?_
                unfold RetRl; rw [hfin]; exact ⟨rfl, hbz⟩
              · by_cases ha0 : a = 0
                · subst ha0
                  have hfin : rl s = (0, 0, 2) := HFx.out
                  clear HFx
                  have R3 := Lib.hid (R2.out.set1 0)
                  obtain ⟨d0, d1, e0, e1⟩ := R3.out.rcells
                  obtain ⟨c30, c31, f30, f31⟩ := R3.out.cells
                  have HD := Lib.hid (R3.out.done 0 0)
                  go_wp2_with fail
                  obtain ⟨p0, p1, hbz⟩ := HD.out
                  refine bodyPost_ret (v := .tuple #[.agg #[.int .i64 0, .int .i64 0], .int .i64 2]) (by simp [results, Tryd.results60, go_sem, p0, p1]) rfl ?_
                  unfold RetRl; rw [hfin]; exact ⟨rfl, hbz⟩
                · cases hg : argF ((8 : Nat) : Int) a with
                  | true =>
                    have HAx := Lib.hid (fun wx => HA.out a wx)
                    rw [hg] at HAx
                    have hk : okS 8 a = true := by unfold okS; rw [hg, decide_eq_true ha1, decide_eq_true ha0]; rfl
                    have hfin : rl s = ((8 : Int), a, 0) := by rw [HFx.out, hk]; rfl
                    have n1 : (a != 1) = true := by simp [ha1]
                    have n0 : (a != 0) = true := by simp [ha0]
                    clear ha1 ha0 hg hk
                    clear HFx
                    have R3 := Lib.hid (R2.out.set1 a)
                    obtain ⟨d0, d1, e0, e1⟩ := R3.out.rcells
                    obtain ⟨c30, c31, f30, f31⟩ := R3.out.cells
                    have HD := Lib.hid (R3.out.done (8 : Int) a)
                    go_wp2_with fail
                    refine (HAx.out _).mono ?_; rintro e w1 ⟨rfl, rfl⟩
                    go_wp2_with fail
                    obtain ⟨p0, p1, hbz⟩ := HD.out
                    refine bodyPost_ret (v := .tuple #[.agg #[.int .i64 (8 : Int), .int .i64 a], .int .i64 0]) (by simp [results, Tryd.results60, go_sem, p0, p1]) rfl ?_
                    unfold RetRl; rw [hfin]; exact ⟨rfl, hbz⟩
                  | false =>
                    have HAx := Lib.hid (fun wx => HA.out a wx)
                    rw [hg] at HAx
                    have hk : okS 8 a = false := by unfold okS; rw [hg, decide_eq_true ha1, decide_eq_true ha0]; rfl
                    have hfin : rl s = (0, 0, 2) := by rw [HFx.out, hk]; rfl
                    have n1 : (a != 1) = true := by simp [ha1]
                    have n0 : (a != 0) = true := by simp [ha0]
                    clear ha1 ha0 hg hk
                    clear HFx
                    have R3 := Lib.hid (R2.out.set1 a)
                    obtain ⟨d0, d1, e0, e1⟩ := R3.out.rcells
                    obtain ⟨c30, c31, f30, f31⟩ := R3.out.cells
                    have HD := Lib.hid (R3.out.done 0 0)
                    go_wp2_with fail
                    refine (HAx.out _).mono ?_; rintro e w1 ⟨rfl, rfl⟩
                    go_wp2_with fail
                    obtain ⟨p0, p1, hbz⟩ := HD.out
                    refine bodyPost_ret (v := .tuple #[.agg #[.int .i64 0, .int .i64 0], .int .i64 2]) (by simp [results, Tryd.results60, go_sem, p0, p1]) rfl ?_
                    unfold RetRl; rw [hfin]; exact ⟨rfl, hbz⟩
          · cases hq : readN Y with
            | none =>
              have hfin : rl s = (0, 0, 2) := HFn.out.1 hq
              clear hq HFn
              have R3 := Lib.hid (R2.out.set1 0)
              obtain ⟨d0, d1, e0, e1⟩ := R3.out.rcells
              have HD := Lib.hid (R3.out.done 0 0)
              go_wp2_with fail
              obtain ⟨p0, p1, hbz⟩ := HD.out
              refine bodyPost_ret (v := .tuple #[.agg #[.int .i64 0, .int .i64 0], .int .i64 2]) (by simp [results, Tryd.results60, go_sem, p0, p1]) rfl ?_
              unfold RetRl; rw [hfin]; exact ⟨rfl, hbz⟩
            | some a =>
              have HFx := Lib.hid (HFn.out.2 a hq)
              clear hq HFn
              by_cases ha1 : a = 1
              · subst ha1
                have hfin : rl s = (0, 0, 2) := HFx.out
                clear HFx
                have R3 := Lib.hid (R2.out.set1 1)
                obtain ⟨d0, d1, e0, e1⟩ := R3.out.rcells
                obtain ⟨c30, c31, f30, f31⟩ := R3.out.cells
                have HD := Lib.hid (R3.out.done 0 0)
                go_wp2_with fail
                obtain ⟨p0, p1, hbz⟩ := HD.out
                refine bodyPost_ret (v := .tuple #[.agg #[.int .i64 0, .int .i64 0], .int .i64 2]) (by simp [results, Tryd.results60, go_sem, p0, p1]) rfl ?_
                unfold RetRl; rw [hfin]; exact ⟨rfl, hbz⟩
              · by_cases ha0 : a = 0
                · subst ha0
                  have hfin : rl s = (0, 0, 2) := HFx.out
                  clear HFx
                  have R3 := Lib.hid (R2.out.set1 0)
                  obtain ⟨d0, d1, e0, e1⟩ := R3.out.rcells
                  obtain ⟨c30, c31, f30, f31⟩ := R3.out.cells
                  have HD := Lib.hid (R3.out.done 0 0)
                  go_wp2_with fail
                  obtain ⟨p0, p1, hbz⟩ := HD.out
                  refine bodyPost_ret (v := .tuple #[.agg #[.int .i64 0, .int .i64 0], .int .i64 2]) (by simp [results, Tryd.results60, go_sem, p0, p1]) rfl ?_
                  unfold RetRl; rw [hfin]; exact ⟨rfl, hbz⟩
                · cases hg : argF ((2 : Nat) : Int) a with
                  | true =>
                    have HAx := Lib.hid (fun wx => HA.out a wx)
                    rw [hg] at HAx
                    have hk : okS 2 a = true := by unfold okS; rw [hg, decide_eq_true ha1, decide_eq_true ha0]; rfl
                    have hfin : rl s = ((2 : Int), a, 0) := by rw [HFx.out, hk]; rfl
                    have n1 : (a != 1) = true := by simp [ha1]
                    have n0 : (a != 0) = true := by simp [ha0]
                    clear ha1 ha0 hg hk
                    clear HFx
                    have R3 := Lib.hid (R2.out.set1 a)
                    obtain ⟨d0, d1, e0, e1⟩ := R3.out.rcells
                    obtain ⟨c30, c31, f30, f31⟩ := R3.out.cells
                    have HD := Lib.hid (R3.out.done (2 : Int) a)
                    go_wp2_with fail
                    refine (HAx.out _).mono ?_; rintro e w1 ⟨rfl, rfl⟩
                    go_wp2_with fail
                    obtain ⟨p0, p1, hbz⟩ := HD.out
                    refine bodyPost_ret (v := .tuple #[.agg #[.int .i64 (2 : Int), .int .i64 a], .int .i64 0]) (by simp [results, Tryd.results60, go_sem, p0, p1]) rfl ?_
                    unfold RetRl; rw [hfin]; exact ⟨rfl, hbz⟩
                  | false =>
                    have HAx := Lib.hid (fun wx => HA.out a wx)
                    rw [hg] at HAx
                    have hk : okS 2 a = false := by unfold okS; rw [hg, decide_eq_true ha1, decide_eq_true ha0]; rfl
                    have hfin : rl s = (0, 0, 2) := by rw [HFx.out, hk]; rfl
                    have n1 : (a != 1) = true := by simp [ha1]
                    have n0 : (a != 0) = true := by simp [ha0]
                    clear ha1 ha0 hg hk
                    clear HFx
                    have R3 := Lib.hid (R2.out.set1 a)
                    obtain ⟨d0, d1, e0, e1⟩ := R3.out.rcells
                    obtain ⟨c30, c31, f30, f31⟩ := R3.out.cells
                    have HD := Lib.hid (R3.out.done 0 0)
                    go_wp2_with fail
                    refine (HAx.out _).mono ?_; rintro e w1 ⟨rfl, rfl⟩
                    go_wp2_with fail
                    obtain ⟨p0, p1, hbz⟩ := HD.out
                    refine bodyPost_ret (v := .tuple #[.agg #[.int .i64 0, .int .i64 0], .int .i64 2]) (by simp [results, Tryd.results60, go_sem, p0, p1]) rfl ?_
                    unfold RetRl; rw [hfin]; exact ⟨rfl, hbz⟩
          · cases hq : readN Y with
            | none =>
              have hfin : rl s = (0, 0, 2) := HFn.out.1 hq
              clear hq HFn
              have R3 := Lib.hid (R2.out.set1 0)
              obtain ⟨d0, d1, e0, e1⟩ := R3.out.rcells
              have HD := Lib.hid (R3.out.done 0 0)
              go_wp2_with fail
              obtain ⟨p0, p1, hbz⟩ := HD.out
              refine bodyPost_ret (v := .tuple #[.agg #[.int .i64 0, .int .i64 0], .int .i64 2]) (by simp [results, Tryd.results60, go_sem, p0, p1]) rfl ?_
              unfold RetRl; rw [hfin]; exact ⟨rfl, hbz⟩
            | some a =>
              have HFx := Lib.hid (HFn.out.2 a hq)
              clear hq HFn
              by_cases ha1 : a = 1
              · subst ha1
                have hfin : rl s = (0, 0, 2) := HFx.out
                clear HFx
                have R3 := Lib.hid (R2.out.set1 1)
                obtain ⟨d0, d1, e0, e1⟩ := R3.out.rcells
                obtain ⟨c30, c31, f30, f31⟩ := R3.out.cells
                have HD := Lib.hid (R3.out.done 0 0)
                go_wp2_with fail
                obtain ⟨p0, p1, hbz⟩ := HD.out
                refine bodyPost_ret (v := .tuple #[.agg #[.int .i64 0, .int .i64 0], .int .i64 2]) (by simp [results, Tryd.results60, go_sem, p0, p1]) rfl ?_
                unfold RetRl; rw [hfin]; exact ⟨rfl, hbz⟩
              · by_cases ha0 : a = 0
                · subst ha0
                  have hfin : rl s = (0, 0, 2) := HFx.out
                  clear HFx
                  have R3 := Lib.hid (R2.out.set1 0)
                  obtain ⟨d0, d1, e0, e1⟩ := R3.out.rcells
                  obtain ⟨c30, c31, f30, f31⟩ := R3.out.cells
                  have HD := Lib.hid (R3.out.done 0 0)
                  go_wp2_with fail
                  obtain ⟨p0, p1, hbz⟩ := HD.out
                  refine bodyPost_ret (v := .tuple #[.agg #[.int .i64 0, .int .i64 0], .int .i64 2]) (by simp [results, Tryd.results60, go_sem, p0, p1]) rfl ?_
                  unfold RetRl; rw [hfin]; exact ⟨rfl, hbz⟩
                · cases hg : argF ((3 : Nat) : Int) a with
                  | true =>
                    have HAx := Lib.hid (fun wx => HA.out a wx)
                    rw [hg] at HAx
                    have hk : okS 3 a = true := by unfold okS; rw [hg, decide_eq_true ha1, decide_eq_true ha0]; rfl
                    have hfin : rl s = ((3 : Int), a, 0) := by rw [HFx.out, hk]; rfl
                    have n1 : (a != 1) = true := by simp [ha1]
                    have n0 : (a != 0) = true := by simp [ha0]
                    clear ha1 ha0 hg hk
                    clear HFx
                    have R3 := Lib.hid (R2.out.set1 a)
                    obtain ⟨d0, d1, e0, e1⟩ := R3.out.rcells
                    obtain ⟨c30, c31, f30, f31⟩ := R3.out.cells
                    have HD := Lib.hid (R3.out.done (3 : Int) a)
                    go_wp2_with fail
                    refine (HAx.out _).mono ?_; rintro e w1 ⟨rfl, rfl⟩
                    go_wp2_with fail
                    obtain ⟨p0, p1, hbz⟩ := HD.out
                    refine bodyPost_ret (v := .tuple #[.agg #[.int .i64 (3 : Int), .int .i64 a], .int .i64 0]) (by simp [results, Tryd.results60, go_sem, p0, p1]) rfl ?_
                    unfold RetRl; rw [hfin]; exact ⟨rfl, hbz⟩
                  | false =>
                    have HAx := Lib.hid (fun wx => HA.out a wx)
                    rw [hg] at HAx
                    have hk : okS 3 a = false := by unfold okS; rw [hg, decide_eq_true ha1, decide_eq_true ha0]; rfl
                    have hfin : rl s = (0, 0, 2) := by rw [HFx.out, hk]; rfl
                    have n1 : (a != 1) = true := by simp [ha1]
                    have n0 : (a != 0) = true := by simp [ha0]
                    clear ha1 ha0 hg hk
                    clear HFx
                    have R3 := Lib.hid (R2.out.set1 a)
                    obtain ⟨d0, d1, e0, e1⟩ := R3.out.rcells
                    obtain ⟨c30, c31, f30, f31⟩ := R3.out.cells
                    have HD := Lib.hid (R3.out.done 0 0)
                    go_wp2_with fail
                    refine (HAx.out _).mono ?_; rintro e w1 ⟨rfl, rfl⟩
                    go_wp2_with fail
                    obtain ⟨p0, p1, hbz⟩ := HD.out
                    refine bodyPost_ret (v := .tuple #[.agg #[.int .i64 0, .int .i64 0], .int .i64 2]) (by simp [results, Tryd.results60, go_sem, p0, p1]) rfl ?_
                    unfold RetRl; rw [hfin]; exact ⟨rfl, hbz⟩
          · cases hq : readN Y with
            | none =>
              have hfin : rl s = (0, 0, 2) := HFn.out.1 hq
              clear hq HFn
              have R3 := Lib.hid (R2.out.set1 0)
              obtain ⟨d0, d1, e0, e1⟩ := R3.out.rcells
              have HD := Lib.hid (R3.out.done 0 0)
              go_wp2_with fail
              obtain ⟨p0, p1, hbz⟩ := HD.out
              refine bodyPost_ret (v := .tuple #[.agg #[.int .i64 0, .int .i64 0], .int .i64 2]) (by simp [results, Tryd.results60, go_sem, p0, p1]) rfl ?_
              unfold RetRl; rw [hfin]; exact ⟨rfl, hbz⟩
            | some a =>
              have HFx := Lib.hid (HFn.out.2 a hq)
              clear hq HFn
              by_cases ha1 : a = 1
              · subst ha1
                have hfin : rl s = (0, 0, 2) := HFx.out
                clear HFx
                have R3 := Lib.hid (R2.out.set1 1)
                obtain ⟨d0, d1, e0, e1⟩ := R3.out.rcells
                obtain ⟨c30, c31, f30, f31⟩ := R3.out.cells
                have HD := Lib.hid (R3.out.done 0 0)
                go_wp2_with fail
                obtain ⟨p0, p1, hbz⟩ := HD.out
                refine bodyPost_ret (v := .tuple #[.agg #[.int .i64 0, .int .i64 0], .int .i64 2]) (by simp [results, Tryd.results60, go_sem, p0, p1]) rfl ?_
                unfold RetRl; rw [hfin]; exact ⟨rfl, hbz⟩
              · by_cases ha0 : a = 0
                · subst ha0
                  have hfin : rl s = (0, 0, 2) := HFx.out
                  clear HFx
                  have R3 := Lib.hid (R2.out.set1 0)
                  obtain ⟨d0, d1, e0, e1⟩ := R3.out.rcells
                  obtain ⟨c30, c31, f30, f31⟩ := R3.out.cells
                  have HD := Lib.hid (R3.out.done 0 0)
                  go_wp2_with fail
                  obtain ⟨p0, p1, hbz⟩ := HD.out
                  refine bodyPost_ret (v := .tuple #[.agg #[.int .i64 0, .int .i64 0], .int .i64 2]) (by simp [results, Tryd.results60, go_sem, p0, p1]) rfl ?_
                  unfold RetRl; rw [hfin]; exact ⟨rfl, hbz⟩
                · cases hg : argF ((4 : Nat) : Int) a with
                  | true =>
                    have HAx := Lib.hid (fun wx => HA.out a wx)
                    rw [hg] at HAx
                    have hk : okS 4 a = true := by unfold okS; rw [hg, decide_eq_true ha1, decide_eq_true ha0]; rfl
                    have hfin : rl s = ((4 : Int), a, 0) := by rw [HFx.out, hk]; rfl
                    have n1 : (a != 1) = true := by simp [ha1]
                    have n0 : (a != 0) = true := by simp [ha0]
                    clear ha1 ha0 hg hk
                    clear HFx
                    have R3 := Lib.hid (R2.out.set1 a)
                    obtain ⟨d0, d1, e0, e1⟩ := R3.out.rcells
                    obtain ⟨c30, c31, f30, f31⟩ := R3.out.cells
                    have HD := Lib.hid (R3.out.done (4 : Int) a)
                    go_wp2_with fail
                    refine (HAx.out _).mono ?_; rintro e w1 ⟨rfl, rfl⟩
                    go_wp2_with fail
                    obtain ⟨p0, p1, hbz⟩ := HD.out
                    refine bodyPost_ret (v := .tuple #[.agg #[.int .i64 (4 : Int), .int .i64 a], .int .i64 0]) (by simp [results, Tryd.results60, go_sem, p0, p1]) rfl ?_
                    unfold RetRl; rw [hfin]; exact ⟨rfl, hbz⟩
                  | false =>
                    have HAx := Lib.hid (fun wx => HA.out a wx)
                    rw [hg] at HAx
                    have hk : okS 4 a = false := by unfold okS; rw [hg, decide_eq_true ha1, decide_eq_true ha0]; rfl
                    have hfin : rl s = (0, 0, 2) := by rw [HFx.out, hk]; rfl
                    have n1 : (a != 1) = true := by simp [ha1]
                    have n0 : (a != 0) = true := by simp [ha0]
                    clear ha1 ha0 hg hk
                    clear HFx
                    have R3 := Lib.hid (R2.out.set1 a)
                    obtain ⟨d0, d1, e0, e1⟩ := R3.out.rcells
                    obtain ⟨c30, c31, f30, f31⟩ := R3.out.cells
                    have HD := Lib.hid (R3.out.done 0 0)
                    go_wp2_with fail
                    refine (HAx.out _).mono ?_; rintro e w1 ⟨rfl, rfl⟩
                    go_wp2_with fail
                    obtain ⟨p0, p1, hbz⟩ := HD.out
                    refine bodyPost_ret (v := .tuple #[.agg #[.int .i64 0, .int .i64 0], .int .i64 2]) (by simp [results, Tryd.results60, go_sem, p0, p1]) rfl ?_
                    unfold RetRl; rw [hfin]; exact ⟨rfl, hbz⟩
          · cases hq : readN Y with
            | none =>
              have hfin : rl s = (0, 0, 2) := HFn.out.1 hq
              clear hq HFn
              have R3 := Lib.hid (R2.out.set1 0)
              obtain ⟨d0, d1, e0, e1⟩ := R3.out.rcells
              have HD := Lib.hid (R3.out.done 0 0)
              go_wp2_with fail
              obtain ⟨p0, p1, hbz⟩ := HD.out
              refine bodyPost_ret (v := .tuple #[.agg #[.int .i64 0, .int .i64 0], .int .i64 2]) (by simp [results, Tryd.results60, go_sem, p0, p1]) rfl ?_
              unfold RetRl; rw [hfin]; exact ⟨rfl, hbz⟩
            | some a =>
              have HFx := Lib.hid (HFn.out.2 a hq)
              clear hq HFn
              by_cases ha1 : a = 1
              · subst ha1
                have hfin : rl s = (0, 0, 2) := HFx.out
                clear HFx
                have R3 := Lib.hid (R2.out.set1 1)
                obtain ⟨d0, d1, e0, e1⟩ := R3.out.rcells
                obtain ⟨c30, c31, f30, f31⟩ := R3.out.cells
                have HD := Lib.hid (R3.out.done 0 0)
                go_wp2_with fail
                obtain ⟨p0, p1, hbz⟩ := HD.out
                refine bodyPost_ret (v := .tuple #[.agg #[.int .i64 0, .int .i64 0], .int .i64 2]) (by simp [results, Tryd.results60, go_sem, p0, p1]) rfl ?_
                unfold RetRl; rw [hfin]; exact ⟨rfl, hbz⟩
              · by_cases ha0 : a = 0
                · subst ha0
                  have hfin : rl s = (0, 0, 2) := HFx.out
                  clear HFx
                  have R3 := Lib.hid (R2.out.set1 0)
                  obtain ⟨d0, d1, e0, e1⟩ := R3.out.rcells
                  obtain ⟨c30, c31, f30, f31⟩ := R3.out.cells
                  have HD := Lib.hid (R3.out.done 0 0)
                  go_wp2_with fail
                  obtain ⟨p0, p1, hbz⟩ := HD.out
                  refine bodyPost_ret (v := .tuple #[.agg #[.int .i64 0, .int .i64 0], .int .i64 2]) (by simp [results, Tryd.results60, go_sem, p0, p1]) rfl ?_
                  unfold RetRl; rw [hfin]; exact ⟨rfl, hbz⟩
                · cases hg : argF ((5 : Nat) : Int) a with
                  | true =>
                    have HAx := Lib.hid (fun wx => HA.out a wx)
                    rw [hg] at HAx
                    have hk : okS 5 a = true := by unfold okS; rw [hg, decide_eq_true ha1, decide_eq_true ha0]; rfl
                    have hfin : rl s = ((5 : Int), a, 0) := by rw [HFx.out, hk]; rfl
                    have n1 : (a != 1) = true := by simp [ha1]
                    have n0 : (a != 0) = true := by simp [ha0]
                    clear ha1 ha0 hg hk
                    clear HFx
                    have R3 := Lib.hid (R2.out.set1 a)
                    obtain ⟨d0, d1, e0, e1⟩ := R3.out.rcells
                    obtain ⟨c30, c31, f30, f31⟩ := R3.out.cells
                    have HD := Lib.hid (R3.out.done (5 : Int) a)
                    go_wp2_with fail
                    refine (HAx.out _).mono ?_; rintro e w1 ⟨rfl, rfl⟩
                    go_wp2_with fail
                    obtain ⟨p0, p1, hbz⟩ := HD.out
                    refine bodyPost_ret (v := .tuple #[.agg #[.int .i64 (5 : Int), .int .i64 a], .int .i64 0]) (by simp [results, Tryd.results60, go_sem, p0, p1]) rfl ?_
                    unfold RetRl; rw [hfin]; exact ⟨rfl, hbz⟩
                  | false =>
                    have HAx := Lib.hid (fun wx => HA.out a wx)
                    rw [hg] at HAx
                    have hk : okS 5 a = false := by unfold okS; rw [hg, decide_eq_true ha1, decide_eq_true ha0]; rfl
                    have hfin : rl s = (0, 0, 2) := by rw [HFx.out, hk]; rfl
                    have n1 : (a != 1) = true := by simp [ha1]
                    have n0 : (a != 0) = true := by simp [ha0]
                    clear ha1 ha0 hg hk
                    clear HFx
                    have R3 := Lib.hid (R2.out.set1 a)
                    obtain ⟨d0, d1, e0, e1⟩ := R3.out.rcells
                    obtain ⟨c30, c31, f30, f31⟩ := R3.out.cells
                    have HD := Lib.hid (R3.out.done 0 0)
                    go_wp2_with fail
                    refine (HAx.out _).mono ?_; rintro e w1 ⟨rfl, rfl⟩
                    go_wp2_with fail
                    obtain ⟨p0, p1, hbz⟩ := HD.out
                    refine bodyPost_ret (v := .tuple #[.agg #[.int .i64 0, .int .i64 0], .int .i64 2]) (by simp [results, Tryd.results60, go_sem, p0, p1]) rfl ?_
                    unfold RetRl; rw [hfin]; exact ⟨rfl, hbz⟩
          · cases hq : readN Y with
            | none =>
              have hfin : rl s = (0, 0, 2) := HFn.out.1 hq
              clear hq HFn
              have R3 := Lib.hid (R2.out.set1 0)
              obtain ⟨d0, d1, e0, e1⟩ := R3.out.rcells
              have HD := Lib.hid (R3.out.done 0 0)
              go_wp2_with fail
              obtain ⟨p0, p1, hbz⟩ := HD.out
              refine bodyPost_ret (v := .tuple #[.agg #[.int .i64 0, .int .i64 0], .int .i64 2]) (by simp [results, Tryd.results60, go_sem, p0, p1]) rfl ?_
              unfold RetRl; rw [hfin]; exact ⟨rfl, hbz⟩
            | some a =>
              have HFx := Lib.hid (HFn.out.2 a hq)
              clear hq HFn
              by_cases ha1 : a = 1
              · subst ha1
                have hfin : rl s = (0, 0, 2) := HFx.out
                clear HFx
                have R3 := Lib.hid (R2.out.set1 1)
                obtain ⟨d0, d1, e0, e1⟩ := R3.out.rcells
                obtain ⟨c30, c31, f30, f31⟩ := R3.out.cells
                have HD := Lib.hid (R3.out.done 0 0)
                go_wp2_with fail
                obtain ⟨p0, p1, hbz⟩ := HD.out
                refine bodyPost_ret (v := .tuple #[.agg #[.int .i64 0, .int .i64 0], .int .i64 2]) (by simp [results, Tryd.results60, go_sem, p0, p1]) rfl ?_
                unfold RetRl; rw [hfin]; exact ⟨rfl, hbz⟩
              · by_cases ha0 : a = 0
                · subst ha0
                  have hfin : rl s = (0, 0, 2) := HFx.out
                  clear HFx
                  have R3 := Lib.hid (R2.out.set1 0)
                  obtain ⟨d0, d1, e0, e1⟩ := R3.out.rcells
                  obtain ⟨c30, c31, f30, f31⟩ := R3.out.cells
                  have HD := Lib.hid (R3.out.done 0 0)
                  go_wp2_with fail
                  obtain ⟨p0, p1, hbz⟩ := HD.out
                  refine bodyPost_ret (v := .tuple #[.agg #[.int .i64 0, .int .i64 0], .int .i64 2]) (by simp [results, Tryd.results60, go_sem, p0, p1]) rfl ?_
                  unfold RetRl; rw [hfin]; exact ⟨rfl, hbz⟩
                · cases hg : argF ((6 : Nat) : Int) a with
                  | true =>
                    have HAx := Lib.hid (fun wx => HA.out a wx)
                    rw [hg] at HAx
                    have hk : okS 6 a = true := by unfold okS; rw [hg, decide_eq_true ha1, decide_eq_true ha0]; rfl
                    have hfin : rl s = ((6 : Int), a, 0) := by rw [HFx.out, hk]; rfl
                    have n1 : (a != 1) = true := by simp [ha1]
                    have n0 : (a != 0) = true := by simp [ha0]
                    clear ha1 ha0 hg hk
                    clear HFx
                    have R3 := Lib.hid (R2.out.set1 a)
                    obtain ⟨d0, d1, e0, e1⟩ := R3.out.rcells
                    obtain ⟨c30, c31, f30, f31⟩ := R3.out.cells
                    have HD := Lib.hid (R3.out.done (6 : Int) a)
                    go_wp2_with fail
                    refine (HAx.out _).mono ?_; rintro e w1 ⟨rfl, rfl⟩
                    go_wp2_with fail
                    obtain ⟨p0, p1, hbz⟩ := HD.out
                    refine bodyPost_ret (v := .tuple #[.agg #[.int .i64 (6 : Int), .int .i64 a], .int .i64 0]) (by simp [results, Tryd.results60, go_sem, p0, p1]) rfl ?_
                    unfold RetRl; rw [hfin]; exact ⟨rfl, hbz⟩
                  | false =>
                    have HAx := Lib.hid (fun wx => HA.out a wx)
                    rw [hg] at HAx
                    have hk : okS 6 a = false := by unfold okS; rw [hg, decide_eq_true ha1, decide_eq_true ha0]; rfl
                    have hfin : rl s = (0, 0, 2) := by rw [HFx.out, hk]; rfl
                    have n1 : (a != 1) = true := by simp [ha1]
                    have n0 : (a != 0) = true := by simp [ha0]
                    clear ha1 ha0 hg hk
                    clear HFx
                    have R3 := Lib.hid (R2.out.set1 a)
                    obtain ⟨d0, d1, e0, e1⟩ := R3.out.rcells
                    obtain ⟨c30, c31, f30, f31⟩ := R3.out.cells
                    have HD := Lib.hid (R3.out.done 0 0)
                    go_wp2_with fail
                    refine (HAx.out _).mono ?_; rintro e w1 ⟨rfl, rfl⟩
                    go_wp2_with fail
                    obtain ⟨p0, p1, hbz⟩ := HD.out
                    refine bodyPost_ret (v := .tuple #[.agg #[.int .i64 0, .int .i64 0], .int .i64 2]) (by simp [results, Tryd.results60, go_sem, p0, p1]) rfl ?_
                    unfold RetRl; rw [hfin]; exact ⟨rfl, hbz⟩
          · cases hq : readN Y with
            | none =>
              have hfin : rl s = (0, 0, 2) := HFn.out.1 hq
              clear hq HFn
              have R3 := Lib.hid (R2.out.set1 0)
              obtain ⟨d0, d1, e0, e1⟩ := R3.out.rcells
              have HD := Lib.hid (R3.out.done 0 0)
              go_wp2_with fail
              obtain ⟨p0, p1, hbz⟩ := HD.out
              refine bodyPost_ret (v := .tuple #[.agg #[.int .i64 0, .int .i64 0], .int .i64 2]) (by simp [results, Tryd.results60, go_sem, p0, p1]) rfl ?_
              unfold RetRl; rw [hfin]; exact ⟨rfl, hbz⟩
            | some a =>
              have HFx := Lib.hid (HFn.out.2 a hq)
              clear hq HFn
              by_cases ha1 : a = 1
              · subst ha1
                have hfin : rl s = (0, 0, 2) := HFx.out
                clear HFx
                have R3 := Lib.hid (R2.out.set1 1)
                obtain ⟨d0, d1, e0, e1⟩ := R3.out.rcells
                obtain ⟨c30, c31, f30, f31⟩ := R3.out.cells
                have HD := Lib.hid (R3.out.done 0 0)
                go_wp2_with fail
                obtain ⟨p0, p1, hbz⟩ := HD.out
                refine bodyPost_ret (v := .tuple #[.agg #[.int .i64 0, .int .i64 0], .int .i64 2]) (by simp [results, Tryd.results60, go_sem, p0, p1]) rfl ?_
                unfold RetRl; rw [hfin]; exact ⟨rfl, hbz⟩
              · by_cases ha0 : a = 0
                · subst ha0
                  have hfin : rl s = (0, 0, 2) := HFx.out
                  clear HFx
                  have R3 := Lib.hid (R2.out.set1 0)
                  obtain ⟨d0, d1, e0, e1⟩ := R3.out.rcells
                  obtain ⟨c30, c31, f30, f31⟩ := R3.out.cells
                  have HD := Lib.hid (R3.out.done 0 0)
                  go_wp2_with fail
                  obtain ⟨p0, p1, hbz⟩ := HD.out
                  refine bodyPost_ret (v := .tuple #[.agg #[.int .i64 0, .int .i64 0], .int .i64 2]) (by simp [results, Tryd.results60, go_sem, p0, p1]) rfl ?_
                  unfold RetRl; rw [hfin]; exact ⟨rfl, hbz⟩
                · cases hg : argF ((7 : Nat) : Int) a with
                  | true =>
                    have HAx := Lib.hid (fun wx => HA.out a wx)
                    rw [hg] at HAx
                    have hk : okS 7 a = true := by unfold okS; rw [hg, decide_eq_true ha1, decide_eq_true ha0]; rfl
                    have hfin : rl s = ((7 : Int), a, 0) := by rw [HFx.out, hk]; rfl
                    have n1 : (a != 1) = true := by simp [ha1]
                    have n0 : (a != 0) = true := by simp [ha0]
                    clear ha1 ha0 hg hk
                    clear HFx
                    have R3 := Lib.hid (R2.out.set1 a)
                    obtain ⟨d0, d1, e0, e1⟩ := R3.out.rcells
                    obtain ⟨c30, c31, f30, f31⟩ := R3.out.cells
                    have HD := Lib.hid (R3.out.done (7 : Int) a)
                    go_wp2_with fail
                    refine (HAx.out _).mono ?_; rintro e w1 ⟨rfl, rfl⟩
                    go_wp2_with fail
                    obtain ⟨p0, p1, hbz⟩ := HD.out
                    refine bodyPost_ret (v := .tuple #[.agg #[.int .i64 (7 : Int), .int .i64 a], .int .i64 0]) (by simp [results, Tryd.results60, go_sem, p0, p1]) rfl ?_
                    unfold RetRl; rw [hfin]; exact ⟨rfl, hbz⟩
                  | false =>
                    have HAx := Lib.hid (fun wx => HA.out a wx)
                    rw [hg] at HAx
                    have hk : okS 7 a = false := by unfold okS; rw [hg, decide_eq_true ha1, decide_eq_true ha0]; rfl
                    have hfin : rl s = (0, 0, 2) := by rw [HFx.out, hk]; rfl
                    have n1 : (a != 1) = true := by simp [ha1]
                    have n0 : (a != 0) = true := by simp [ha0]
                    clear ha1 ha0 hg hk
                    clear HFx
                    have R3 := Lib.hid (R2.out.set1 a)
                    obtain ⟨d0, d1, e0, e1⟩ := R3.out.rcells
                    obtain ⟨c30, c31, f30, f31⟩ := R3.out.cells
                    have HD := Lib.hid (R3.out.done 0 0)
                    go_wp2_with fail
                    refine (HAx.out _).mono ?_; rintro e w1 ⟨rfl, rfl⟩
                    go_wp2_with fail
                    obtain ⟨p0, p1, hbz⟩ := HD.out
                    refine bodyPost_ret (v := .tuple #[.agg #[.int .i64 0, .int .i64 0], .int .i64 2]) (by simp [results, Tryd.results60, go_sem, p0, p1]) rfl ?_
                    unfold RetRl; rw [hfin]; exact ⟨rfl, hbz⟩
          · cases hq : readN Y with
            | none =>
              have hfin : rl s = (0, 0, 2) := HFn.out.1 hq
              clear hq HFn
              have R3 := Lib.hid (R2.out.set1 0)
              obtain ⟨d0, d1, e0, e1⟩ := R3.out.rcells
              have HD := Lib.hid (R3.out.done 0 0)
              go_wp2_with fail
              obtain ⟨p0, p1, hbz⟩ := HD.out
              refine bodyPost_ret (v := .tuple #[.agg #[.int .i64 0, .int .i64 0], .int .i64 2]) (by simp [results, Tryd.results60, go_sem, p0, p1]) rfl ?_
              unfold RetRl; rw [hfin]; exact ⟨rfl, hbz⟩
            | some a =>
              have HFx := Lib.hid (HFn.out.2 a hq)
              clear hq HFn
              by_cases ha1 : a = 1
              · subst ha1
                have hfin : rl s = (0, 0, 2) := HFx.out
                clear HFx
                have R3 := Lib.hid (R2.out.set1 1)
                obtain ⟨d0, d1, e0, e1⟩ := R3.out.rcells
                obtain ⟨c30, c31, f30, f31⟩ := R3.out.cells
                have HD := Lib.hid (R3.out.done 0 0)
                go_wp2_with fail
                obtain ⟨p0, p1, hbz⟩ := HD.out
                refine bodyPost_ret (v := .tuple #[.agg #[.int .i64 0, .int .i64 0], .int .i64 2]) (by simp [results, Tryd.results60, go_sem, p0, p1]) rfl ?_
                unfold RetRl; rw [hfin]; exact ⟨rfl, hbz⟩
              · by_cases ha0 : a = 0
                · subst ha0
                  have hfin : rl s = (0, 0, 2) := HFx.out
                  clear HFx
                  have R3 := Lib.hid (R2.out.set1 0)
                  obtain ⟨d0, d1, e0, e1⟩ := R3.out.rcells
                  obtain ⟨c30, c31, f30, f31⟩ := R3.out.cells
                  have HD := Lib.hid (R3.out.done 0 0)
                  go_wp2_with fail
                  obtain ⟨p0, p1, hbz⟩ := HD.out
                  refine bodyPost_ret (v := .tuple #[.agg #[.int .i64 0, .int .i64 0], .int .i64 2]) (by simp [results, Tryd.results60, go_sem, p0, p1]) rfl ?_
                  unfold RetRl; rw [hfin]; exact ⟨rfl, hbz⟩
                · cases hg : argF ((9 : Nat) : Int) a with
                  | true =>
                    have HAx := Lib.hid (fun wx => HA.out a wx)
                    rw [hg] at HAx
                    have hk : okS 9 a = true := by unfold okS; rw [hg, decide_eq_true ha1, decide_eq_true ha0]; rfl
                    have hfin : rl s = ((9 : Int), a, 0) := by rw [HFx.out, hk]; rfl
                    have n1 : (a != 1) = true := by simp [ha1]
                    have n0 : (a != 0) = true := by simp [ha0]
                    clear ha1 ha0 hg hk
                    clear HFx
                    have R3 := Lib.hid (R2.out.set1 a)
                    obtain ⟨d0, d1, e0, e1⟩ := R3.out.rcells
                    obtain ⟨c30, c31, f30, f31⟩ := R3.out.cells
                    have HD := Lib.hid (R3.out.done (9 : Int) a)
                    go_wp2_with fail
                    refine (HAx.out _).mono ?_; rintro e w1 ⟨rfl, rfl⟩
                    go_wp2_with fail
                    obtain ⟨p0, p1, hbz⟩ := HD.out
                    refine bodyPost_ret (v := .tuple #[.agg #[.int .i64 (9 : Int), .int .i64 a], .int .i64 0]) (by simp [results, Tryd.results60, go_sem, p0, p1]) rfl ?_
                    unfold RetRl; rw [hfin]; exact ⟨rfl, hbz⟩
                  | false =>
                    have HAx := Lib.hid (fun wx => HA.out a wx)
                    rw [hg] at HAx
                    have hk : okS 9 a = false := by unfold okS; rw [hg, decide_eq_true ha1, decide_eq_true ha0]; rfl
                    have hfin : rl s = (0, 0, 2) := by rw [HFx.out, hk]; rfl
                    have n1 : (a != 1) = true := by simp [ha1]
                    have n0 : (a != 0) = true := by simp [ha0]
                    clear ha1 ha0 hg hk
                    clear HFx
                    have R3 := Lib.hid (R2.out.set1 a)
                    obtain ⟨d0, d1, e0, e1⟩ := R3.out.rcells
                    obtain ⟨c30, c31, f30, f31⟩ := R3.out.cells
                    have HD := Lib.hid (R3.out.done 0 0)
                    go_wp2_with fail
                    refine (HAx.out _).mono ?_; rintro e w1 ⟨rfl, rfl⟩
                    go_wp2_with fail
                    obtain ⟨p0, p1, hbz⟩ := HD.out
                    refine bodyPost_ret (v := .tuple #[.agg #[.int .i64 0, .int .i64 0], .int .i64 2]) (by simp [results, Tryd.results60, go_sem, p0, p1]) rfl ?_
                    unfold RetRl; rw [hfin]; exact ⟨rfl, hbz⟩
          · cases hq : readN Y with
            | none =>
              have hfin : rl s = (0, 0, 2) := HFn.out.1 hq
              clear hq HFn
              have R3 := Lib.hid (R2.out.set1 0)
              obtain ⟨d0, d1, e0, e1⟩ := R3.out.rcells
              have HD := Lib.hid (R3.out.done 0 0)
              go_wp2_with fail
              obtain ⟨p0, p1, hbz⟩ := HD.out
              refine bodyPost_ret (v := .tuple #[.agg #[.int .i64 0, .int .i64 0], .int .i64 2]) (by simp [results, Tryd.results60, go_sem, p0, p1]) rfl ?_
              unfold RetRl; rw [hfin]; exact ⟨rfl, hbz⟩
            | some a =>
              have HFx := Lib.hid (HFn.out.2 a hq)
              clear hq HFn
              by_cases ha1 : a = 1
              · subst ha1
                have hfin : rl s = (0, 0, 2) := HFx.out
                clear HFx
                have R3 := Lib.hid (R2.out.set1 1)
                obtain ⟨d0, d1, e0, e1⟩ := R3.out.rcells
                obtain ⟨c30, c31, f30, f31⟩ := R3.out.cells
                have HD := Lib.hid (R3.out.done 0 0)
                go_wp2_with fail
                obtain ⟨p0, p1, hbz⟩ := HD.out
                refine bodyPost_ret (v := .tuple #[.agg #[.int .i64 0, .int .i64 0], .int .i64 2]) (by simp [results, Tryd.results60, go_sem, p0, p1]) rfl ?_
                unfold RetRl; rw [hfin]; exact ⟨rfl, hbz⟩
              · by_cases ha0 : a = 0
                · subst ha0
                  have hfin : rl s = (0, 0, 2) := HFx.out
                  clear HFx
                  have R3 := Lib.hid (R2.out.set1 0)
                  obtain ⟨d0, d1, e0, e1⟩ := R3.out.rcells
                  obtain ⟨c30, c31, f30, f31⟩ := R3.out.cells
                  have HD := Lib.hid (R3.out.done 0 0)
                  go_wp2_with fail
                  obtain ⟨p0, p1, hbz⟩ := HD.out
                  refine bodyPost_ret (v := .tuple #[.agg #[.int .i64 0, .int .i64 0], .int .i64 2]) (by simp [results, Tryd.results60, go_sem, p0, p1]) rfl ?_
                  unfold RetRl; rw [hfin]; exact ⟨rfl, hbz⟩
                · cases hg : argF ((10 : Nat) : Int) a with
                  | true =>
                    have HAx := Lib.hid (fun wx => HA.out a wx)
                    rw [hg] at HAx
                    have hk : okS 10 a = true := by unfold okS; rw [hg, decide_eq_true ha1, decide_eq_true ha0]; rfl
                    have hfin : rl s = ((10 : Int), a, 0) := by rw [HFx.out, hk]; rfl
                    have n1 : (a != 1) = true := by simp [ha1]
                    have n0 : (a != 0) = true := by simp [ha0]
                    clear ha1 ha0 hg hk
                    clear HFx
                    have R3 := Lib.hid (R2.out.set1 a)
                    obtain ⟨d0, d1, e0, e1⟩ := R3.out.rcells
                    obtain ⟨c30, c31, f30, f31⟩ := R3.out.cells
                    have HD := Lib.hid (R3.out.done (10 : Int) a)
                    go_wp2_with fail
                    refine (HAx.out _).mono ?_; rintro e w1 ⟨rfl, rfl⟩
                    go_wp2_with fail
                    obtain ⟨p0, p1, hbz⟩ := HD.out
                    refine bodyPost_ret (v := .tuple #[.agg #[.int .i64 (10 : Int), .int .i64 a], .int .i64 0]) (by simp [results, Tryd.results60, go_sem, p0, p1]) rfl ?_
                    unfold RetRl; rw [hfin]; exact ⟨rfl, hbz⟩
                  | false =>
                    have HAx := Lib.hid (fun wx => HA.out a wx)
                    rw [hg] at HAx
                    have hk : okS 10 a = false := by unfold okS; rw [hg, decide_eq_true ha1, decide_eq_true ha0]; rfl
                    have hfin : rl s = (0, 0, 2) := by rw [HFx.out, hk]; rfl
                    have n1 : (a != 1) = true := by simp [ha1]
                    have n0 : (a != 0) = true := by simp [ha0]
                    clear ha1 ha0 hg hk
                    clear HFx
                    have R3 := Lib.hid (R2.out.set1 a)
                    obtain ⟨d0, d1, e0, e1⟩ := R3.out.rcells
                    obtain ⟨c30, c31, f30, f31⟩ := R3.out.cells
                    have HD := Lib.hid (R3.out.done 0 0)
                    go_wp2_with fail
                    refine (HAx.out _).mono ?_; rintro e w1 ⟨rfl, rfl⟩
                    go_wp2_with fail
                    obtain ⟨p0, p1, hbz⟩ := HD.out
                    refine bodyPost_ret (v := .tuple #[.agg #[.int .i64 0, .int .i64 0], .int .i64 2]) (by simp [results, Tryd.results60, go_sem, p0, p1]) rfl ?_
                    unfold RetRl; rw [hfin]; exact ⟨rfl, hbz⟩
        · have hfin := HF.out n rfl h0
          have q1 : ((m : Int) == 1) = false := by rw [beq_eq_false_iff_ne]; omega
          have q2 : ((m : Int) == 2) = false := by rw [beq_eq_false_iff_ne]; omega
          have q3 : (2 : Int) < (m : Int) := by omega
          obtain ⟨c0, c1, f0, f1⟩ := R1.out.cells
          obtain ⟨d0, d1, e0, e1⟩ := R1.out.rcells
          have HD := Lib.hid (R1.out.done 0 0)
          go_wp2_with fail
          obtain ⟨p0, p1, hbz⟩ := HD.out
          refine bodyPost_ret (v := .tuple #[.agg #[.int .i64 0, .int .i64 0], .int .i64 2]) (by simp [results, Tryd.results60, go_sem, p0, p1]) rfl ?_
          unfold RetRl; rw [hfin]; exact ⟨rfl, hbz⟩
end Go.Proofs.YtjkjlpjeamifbaaDoor
