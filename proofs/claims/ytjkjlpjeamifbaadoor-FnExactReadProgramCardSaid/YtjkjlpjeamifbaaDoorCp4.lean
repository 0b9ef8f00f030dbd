/- A program's line, read, part 4: readLine (program). -/
import Derived.Test.YtjkjlpjeamifbaaDoorCp3
namespace Go.Proofs.YtjkjlpjeamifbaaDoor
open Go.RowKit Go.Joins

def RetRl (w : World) (x : Int × Int × Int) (e : Ending) (w' : World) : Prop := e = .returned (.tuple #[.agg #[.int .i64 x.1, .int .i64 x.2.1], .int .i64 x.2.2]) ∧ Below w.heap.size w w'
theorem opW_step (x : ByteArray) (k : Nat) : opF x (k + 1) = if 0 < k ∧ wordP k = x then k else opF x k := rfl

set_option maxRecDepth 100000 in
set_option maxHeartbeats 3200000 in
theorem readLine_any (s : ByteArray) (w : World) (hs : s.size ≤ 1073741824) (ht : Tab w) : Calls Tryd.prog 62 #[.string s] w (RetRl w (rl s)) := by
  have HC := Lib.hid (fun wx => cut_any s 32 wx hs)
  have HO := Lib.hid (fun wx => opWords_all wx)
  have Hz := Lib.hid (show (restL s).size ≤ 1073741824 by unfold restL; rw [ByteArray.size_extract]; omega)
  have HR := Lib.hid (fun wx hx => ReadDecimal_any (restL s) wx Hz.out hx)
  have Ht := Lib.hid ht
  have Hn := Lib.hid (fun h => rl_none (s := s) h)
  have Hb := Lib.hid (fun n a h1 h2 h3 h4 => rl_bad (s := s) (n := n) (a := a) h1 h2 h3 h4)
  have Hg := Lib.hid (fun n a h1 h2 h3 h4 => rl_good (s := s) (n := n) (a := a) h1 h2 h3 h4)
  have hle := opW_le (wordL s)
  have HX := Lib.hid (fun k => opW_step (wordL s) k)
  have H11 := Lib.hid (show opW (wordL s) = opF (wordL s) 11 from rfl)
  have hX : s.extract 0 (fnd 32 s) = wordL s := rfl
  have hY : s.extract (fnd 32 s + 1) s.size = restL s := rfl
  rw [hX, hY] at HC
  generalize wordL s = X at *
  generalize restL s = Y at *
  generalize decide (fnd 32 s < s.size) = ok at *
  clear ht hX hY
  have HB0 := Lib.hid (fun n => below_drewN (Below.refl (w.alloc (.cells #[.int .i64 0, .int .i64 0] 70)).heap.size (w.alloc (.cells #[.int .i64 0, .int .i64 0] 70))) n)
  go_enter Tryd.func62, Tryd.ntmps62
  go_wp2_with fail
  refine (HC.out _).mono ?_; rintro e w5 ⟨rfl, n5, hw5⟩
  have HS := HB0.out n5
  rw [← hw5] at HS
  have R1 := Lib.hid (Rl.start _ HS 0 0 rfl)
  clear hw5 HS HB0 HC
  go_wp2_with fail
  generalize hwa : w5.alloc (.cells #[.int .i64 0, .int .i64 0] 70) = wa at *
  clear hwa
  refine (HO.out _).mono ?_; rintro e w6 ⟨rfl, hw6, hb6⟩
  have R6 := Lib.hid (R1.out.next hb6)
  have hne : wa.heap.size ≠ w5.heap.size := Nat.ne_of_gt R1.out.gs
  have W6 := Lib.hid hw6
  generalize wa.heap.size = b at *
  generalize w5.heap.size = g at *
  clear R1 hb6 hw6 HO
  go_wp2_with fail
  go_loopw [8, 9, 21] (fun _ _ i wr => ∃ k : Nat, k ≤ 11 ∧ i = .int .i64 (k : Int) ∧ Rl w w.heap.size g (opF X k : Int) 0 wr ∧ WdAt b 11 wordP wr) (fun _ _ i _ => 11 - (intOf i).toNat)
  case atStart => exact ⟨0, by omega, rfl, R6.out, W6.out⟩
  case round =>
    obtain ⟨k, hk, rfl, hr, hw⟩ := hrel
    have Hr := Lib.hid hr
    have Hw := Lib.hid hw
    clear R6 W6
    by_cases hlt : k < 11
    · have hlt' : (k : Int) < 11 := by omega
      have hc := hw k hlt
      obtain ⟨c0, c1, f0, f1⟩ := hr.cells
      have hst := HX.out k
      clear hw hr
      by_cases hk0 : 0 < k
      · have hk0' : (0 : Int) < (k : Int) := by omega
        by_cases he : wordP k = X
        · have Hst := Lib.hid (show opF X (k + 1) = k by rw [hst, if_pos ⟨hk0, he⟩])
          rw [he] at hc
          clear he hst hk0
          go_wp2_with fail
          go_roundw
          case rel => exact ⟨k + 1, by omega, by go_num, by rw [Hst.out]; exact Hr.out.set0 k, Hw.out.set hne _⟩
          case measure => simp [intOf]; omega
        · have Hst := Lib.hid (show opF X (k + 1) = opF X k by rw [hst, if_neg fun h => he h.2])
          have hbq : ((wordP k).toList == X.toList) = false := beq_eq_false_iff_ne.2 fun e => he (ba_inj e)
          generalize wordP k = Wk at *
          clear he hst hk0
          go_wp2_with fail
          go_roundw
          case rel => exact ⟨k + 1, by omega, by go_num, by rw [Hst.out]; exact Hr.out, Hw.out⟩
          case measure => simp [intOf]; omega
      · have Hst := Lib.hid (show opF X (k + 1) = opF X k by rw [hst, if_neg fun h => hk0 h.1])
        have hk0' : ¬ (0 : Int) < (k : Int) := by omega
        clear hst hk0
        go_wp2_with fail
        go_roundw
        case rel => exact ⟨k + 1, by omega, by go_num, by rw [Hst.out]; exact Hr.out, Hw.out⟩
        case measure => simp [intOf]; omega
    · have hk11 : k = 11 := by omega
      subst hk11
      rw [← H11.out] at Hr
      have R7 := Lib.hid Hr.out
      clear Hr Hw hr hw HX H11 hlt hk hne
      generalize opW X = n at *
      obtain ⟨c0, c1, f0, f1⟩ := R7.out.cells
      obtain ⟨d0, d1, e0, e1⟩ := R7.out.rcells
      by_cases h0 : n = 0
      · subst h0
        have HD := Lib.hid (R7.out.done 0 0)
        have hn := Hn.out rfl
        clear Hb Hg Hn
        go_wp2_with fail
        obtain ⟨p0, p1, hbz⟩ := HD.out
        refine bodyPost_ret (v := .tuple #[.agg #[.int .i64 0, .int .i64 0], .int .i64 1]) (by simp [results, Tryd.results62, go_sem, p0, p1]) rfl ?_
        unfold RetRl; rw [hn]; exact ⟨rfl, hbz⟩
      · have hcs : n = 1 ∨ n = 8 ∨ n = 2 ∨ n = 3 ∨ n = 4 ∨ n = 5 ∨ n = 6 ∨ n = 7 ∨ n = 9 ∨ n = 10 := by omega
        have Ht7 := Lib.hid (Ht.out.below R7.out.acc)
        clear Hn hle h0
        unfold RetN1 at HR
        have HI := Lib.hid (fun op a wx => isInstr_any op a wx)
        have HL := Lib.hid (fun n a wx h hx => lineIns_any n a wx h hx)
        rcases hcs with rfl | rfl | rfl | rfl | rfl | rfl | rfl | rfl | rfl | rfl
        · have hE : (readN Y).getD 0 = argW 1 Y := rfl
          rw [hE] at HR
          generalize hA : argW 1 Y = a at *
          have Ha := Lib.hid hA; clear hA hE
          generalize (readN Y).isSome = okb at *
          go_wp2_with fail
          refine (HR.out _ Ht7.out).mono ?_; rintro e w8 ⟨rfl, hb8⟩
          have R8 := Lib.hid (R7.out.next hb8)
          clear hb8 c0 c1 f0 f1 d0 d1 e0 e1
          obtain ⟨c0, c1, f0, f1⟩ := R8.out.cells
          have R9 := Lib.hid (R8.out.set1 a)
          have HtN := Lib.hid (Ht.out.below R9.out.acc)
          cases hok : okIns ((1 : Nat) : Int) a with
          | false =>
            have HIx := Lib.hid (fun wx => HI.out ((1 : Nat) : Int) a wx)
            have hfin := Hb.out 1 a rfl (by decide) Ha.out (by rw [hok]; exact fun h => Bool.noConfusion h.1)
            rw [hok] at HIx
            clear hok
            go_wp2_with fail
            refine (HIx.out _).mono ?_; rintro e w9 ⟨rfl, hb9⟩
            have R9 := Lib.hid (R9.out.next hb9)
            clear c0 c1 f0 f1
            obtain ⟨d0, d1, e0, e1⟩ := R9.out.rcells
            have HD := Lib.hid (R9.out.done 0 0)
            clear hb9
            go_wp2_with fail
            obtain ⟨p0, p1, hbz⟩ := HD.out
            refine bodyPost_ret (v := .tuple #[.agg #[.int .i64 0, .int .i64 0], .int .i64 2]) (by simp [results, Tryd.results62, go_sem, p0, p1]) rfl ?_
            unfold RetRl; rw [hfin]; exact ⟨rfl, hbz⟩
          | true =>
            have HIx := Lib.hid (fun wx => HI.out ((1 : Nat) : Int) a wx)
            have HLx := Lib.hid (fun wx hx => HL.out 1 a wx hok hx)
            rw [hok] at HIx
            by_cases hl : lineP 1 a = s
            · have hfin := Hg.out 1 a rfl (by decide) Ha.out ⟨hok, hl⟩
              rw [hl] at HLx
              clear hok hl
              go_wp2_with fail
              refine (HIx.out _).mono ?_; rintro e w9 ⟨rfl, hb9⟩
              have R9 := Lib.hid (R9.out.next hb9)
              have Ht9 := Lib.hid (HtN.out.below hb9)
              clear c0 c1 f0 f1
              obtain ⟨c90, c91, f90, f91⟩ := R9.out.cells
              clear hb9
              go_wp2_with fail
              refine (HLx.out _ Ht9.out).mono ?_; rintro e w10 ⟨rfl, hb10⟩
              have R10 := Lib.hid (R9.out.next hb10)
              clear c90 c91 f90 f91
              obtain ⟨d0, d1, e0, e1⟩ := R10.out.rcells
              obtain ⟨c100, c101, f100, f101⟩ := R10.out.cells
              have HD := Lib.hid (R10.out.done (1 : Int) a)
              clear hb10
              go_wp2_with fail
              obtain ⟨p0, p1, hbz⟩ := HD.out
              refine bodyPost_ret (v := .tuple #[.agg #[.int .i64 (1 : Int), .int .i64 a], .int .i64 0]) (by simp [results, Tryd.results62, go_sem, p0, p1]) rfl ?_
              unfold RetRl; rw [hfin]; exact ⟨rfl, hbz⟩
            · have hfin := Hb.out 1 a rfl (by decide) Ha.out (fun h => hl h.2)
              have hbn : ((lineP 1 a).toList != s.toList) = true := bne_iff_ne.2 fun e => hl (ba_inj e)
              have hbq : ((lineP 1 a).toList == s.toList) = false := beq_eq_false_iff_ne.2 fun e => hl (ba_inj e)
              generalize lineP 1 a = D at *
              clear hok hl
              go_wp2_with fail
              refine (HIx.out _).mono ?_; rintro e w9 ⟨rfl, hb9⟩
              have R9 := Lib.hid (R9.out.next hb9)
              have Ht9 := Lib.hid (HtN.out.below hb9)
              clear c0 c1 f0 f1
              obtain ⟨c90, c91, f90, f91⟩ := R9.out.cells
              clear hb9
              go_wp2_with fail
              refine (HLx.out _ Ht9.out).mono ?_; rintro e w10 ⟨rfl, hb10⟩
              have R10 := Lib.hid (R9.out.next hb10)
              clear c90 c91 f90 f91
              obtain ⟨d0, d1, e0, e1⟩ := R10.out.rcells
              have HD := Lib.hid (R10.out.done 0 0)
              clear hb10
              go_wp2_with fail
              obtain ⟨p0, p1, hbz⟩ := HD.out
              refine bodyPost_ret (v := .tuple #[.agg #[.int .i64 0, .int .i64 0], .int .i64 2]) (by simp [results, Tryd.results62, go_sem, p0, p1]) rfl ?_
              unfold RetRl; rw [hfin]; exact ⟨rfl, hbz⟩
        · have hE : (readN Y).getD 0 = argW 8 Y := rfl
          rw [hE] at HR
          generalize hA : argW 8 Y = a at *
          have Ha := Lib.hid hA; clear hA hE
          generalize (readN Y).isSome = okb at *
          go_wp2_with fail
          refine (HR.out _ Ht7.out).mono ?_; rintro e w8 ⟨rfl, hb8⟩
          have R8 := Lib.hid (R7.out.next hb8)
          clear hb8 c0 c1 f0 f1 d0 d1 e0 e1
          obtain ⟨c0, c1, f0, f1⟩ := R8.out.cells
          have R9 := Lib.hid (R8.out.set1 a)
          have HtN := Lib.hid (Ht.out.below R9.out.acc)
          cases hok : okIns ((8 : Nat) : Int) a with
          | false =>
            have HIx := Lib.hid (fun wx => HI.out ((8 : Nat) : Int) a wx)
            have hfin := Hb.out 8 a rfl (by decide) Ha.out (by rw [hok]; exact fun h => Bool.noConfusion h.1)
            rw [hok] at HIx
            clear hok
            go_wp2_with fail
            refine (HIx.out _).mono ?_; rintro e w9 ⟨rfl, hb9⟩
            have R9 := Lib.hid (R9.out.next hb9)
            clear c0 c1 f0 f1
            obtain ⟨d0, d1, e0, e1⟩ := R9.out.rcells
            have HD := Lib.hid (R9.out.done 0 0)
            clear hb9
            go_wp2_with fail
            obtain ⟨p0, p1, hbz⟩ := HD.out
            refine bodyPost_ret (v := .tuple #[.agg #[.int .i64 0, .int .i64 0], .int .i64 2]) (by simp [results, Tryd.results62, go_sem, p0, p1]) rfl ?_
            unfold RetRl; rw [hfin]; exact ⟨rfl, hbz⟩
          | true =>
            have HIx := Lib.hid (fun wx => HI.out ((8 : Nat) : Int) a wx)
            have HLx := Lib.hid (fun wx hx => HL.out 8 a wx hok hx)
            rw [hok] at HIx
            by_cases hl : lineP 8 a = s
            · have hfin := Hg.out 8 a rfl (by decide) Ha.out ⟨hok, hl⟩
              rw [hl] at HLx
              clear hok hl
              go_wp2_with fail
              refine (HIx.out _).mono ?_; rintro e w9 ⟨rfl, hb9⟩
              have R9 := Lib.hid (R9.out.next hb9)
              have Ht9 := Lib.hid (HtN.out.below hb9)
              clear c0 c1 f0 f1
              obtain ⟨c90, c91, f90, f91⟩ := R9.out.cells
              clear hb9
              go_wp2_with fail
              refine (HLx.out _ Ht9.out).mono ?_; rintro e w10 ⟨rfl, hb10⟩
              have R10 := Lib.hid (R9.out.next hb10)
              clear c90 c91 f90 f91
              obtain ⟨d0, d1, e0, e1⟩ := R10.out.rcells
              obtain ⟨c100, c101, f100, f101⟩ := R10.out.cells
              have HD := Lib.hid (R10.out.done (8 : Int) a)
              clear hb10
              go_wp2_with fail
              obtain ⟨p0, p1, hbz⟩ := HD.out
              refine bodyPost_ret (v := .tuple #[.agg #[.int .i64 (8 : Int), .int .i64 a], .int .i64 0]) (by simp [results, Tryd.results62, go_sem, p0, p1]) rfl ?_
              unfold RetRl; rw [hfin]; exact ⟨rfl, hbz⟩
            · have hfin := Hb.out 8 a rfl (by decide) Ha.out (fun h => hl h.2)
              have hbn : ((lineP 8 a).toList != s.toList) = true := bne_iff_ne.2 fun e => hl (ba_inj e)
              have hbq : ((lineP 8 a).toList == s.toList) = false := beq_eq_false_iff_ne.2 fun e => hl (ba_inj e)
              generalize lineP 8 a = D at *
              clear hok hl
              go_wp2_with fail
              refine (HIx.out _).mono ?_; rintro e w9 ⟨rfl, hb9⟩
              have R9 := Lib.hid (R9.out.next hb9)
              have Ht9 := Lib.hid (HtN.out.below hb9)
              clear c0 c1 f0 f1
              obtain ⟨c90, c91, f90, f91⟩ := R9.out.cells
              clear hb9
              go_wp2_with fail
              refine (HLx.out _ Ht9.out).mono ?_; rintro e w10 ⟨rfl, hb10⟩
              have R10 := Lib.hid (R9.out.next hb10)
              clear c90 c91 f90 f91
              obtain ⟨d0, d1, e0, e1⟩ := R10.out.rcells
              have HD := Lib.hid (R10.out.done 0 0)
              clear hb10
              go_wp2_with fail
              obtain ⟨p0, p1, hbz⟩ := HD.out
              refine bodyPost_ret (v := .tuple #[.agg #[.int .i64 0, .int .i64 0], .int .i64 2]) (by simp [results, Tryd.results62, go_sem, p0, p1]) rfl ?_
              unfold RetRl; rw [hfin]; exact ⟨rfl, hbz⟩
        · have R8 := Lib.hid (R7.out.set1 1)
          have Ht8 := Lib.hid (Ht.out.below R8.out.acc)
          have HRx := Lib.hid (HR.out _ Ht8.out)
          cases hq : readN Y with
          | none =>
            rw [hq] at HRx
            have Ha := Lib.hid (show argW 2 Y = 1 by unfold argW; rw [if_neg (by decide), if_pos (by decide), hq]; rfl)
            generalize ha1 : (1 : Int) = a at Ha
            have Ha1 := Lib.hid ha1; clear ha1 hq
            go_wp2_with fail
            refine HRx.out.mono ?_; rintro e w88 ⟨rfl, hb8⟩
            have R9 := Lib.hid (R8.out.next hb8)
            rw [Ha1.out] at R9
            clear hb8 c0 c1 f0 f1 d0 d1 e0 e1 HRx R8
            obtain ⟨c0, c1, f0, f1⟩ := R9.out.cells
            have HtN := Lib.hid (Ht.out.below R9.out.acc)
            cases hok : okIns ((2 : Nat) : Int) a with
            | false =>
              have HIx := Lib.hid (fun wx => HI.out ((2 : Nat) : Int) a wx)
              have hfin := Hb.out 2 a rfl (by decide) Ha.out (by rw [hok]; exact fun h => Bool.noConfusion h.1)
              rw [hok] at HIx
              clear hok
              go_wp2_with fail
              refine (HIx.out _).mono ?_; rintro e w9 ⟨rfl, hb9⟩
              have R9 := Lib.hid (R9.out.next hb9)
              clear c0 c1 f0 f1
              obtain ⟨d0, d1, e0, e1⟩ := R9.out.rcells
              have HD := Lib.hid (R9.out.done 0 0)
              clear hb9
              go_wp2_with fail
              obtain ⟨p0, p1, hbz⟩ := HD.out
              refine bodyPost_ret (v := .tuple #[.agg #[.int .i64 0, .int .i64 0], .int .i64 2]) (by simp [results, Tryd.results62, go_sem, p0, p1]) rfl ?_
              unfold RetRl; rw [hfin]; exact ⟨rfl, hbz⟩
            | true =>
              have HIx := Lib.hid (fun wx => HI.out ((2 : Nat) : Int) a wx)
              have HLx := Lib.hid (fun wx hx => HL.out 2 a wx hok hx)
              rw [hok] at HIx
              by_cases hl : lineP 2 a = s
              · have hfin := Hg.out 2 a rfl (by decide) Ha.out ⟨hok, hl⟩
                rw [hl] at HLx
                clear hok hl
                go_wp2_with fail
                refine (HIx.out _).mono ?_; rintro e w9 ⟨rfl, hb9⟩
                have R9 := Lib.hid (R9.out.next hb9)
                have Ht9 := Lib.hid (HtN.out.below hb9)
                clear c0 c1 f0 f1
                obtain ⟨c90, c91, f90, f91⟩ := R9.out.cells
                clear hb9
                go_wp2_with fail
                refine (HLx.out _ Ht9.out).mono ?_; rintro e w10 ⟨rfl, hb10⟩
                have R10 := Lib.hid (R9.out.next hb10)
                clear c90 c91 f90 f91
                obtain ⟨d0, d1, e0, e1⟩ := R10.out.rcells
                obtain ⟨c100, c101, f100, f101⟩ := R10.out.cells
                have HD := Lib.hid (R10.out.done (2 : Int) a)
                clear hb10
                go_wp2_with fail
                obtain ⟨p0, p1, hbz⟩ := HD.out
                refine bodyPost_ret (v := .tuple #[.agg #[.int .i64 (2 : Int), .int .i64 a], .int .i64 0]) (by simp [results, Tryd.results62, go_sem, p0, p1]) rfl ?_
                unfold RetRl; rw [hfin]; exact ⟨rfl, hbz⟩
              · have hfin := Hb.out 2 a rfl (by decide) Ha.out (fun h => hl h.2)
                have hbn : ((lineP 2 a).toList != s.toList) = true := bne_iff_ne.2 fun e => hl (ba_inj e)
                have hbq : ((lineP 2 a).toList == s.toList) = false := beq_eq_false_iff_ne.2 fun e => hl (ba_inj e)
                generalize lineP 2 a = D at *
                clear hok hl
                go_wp2_with fail
                refine (HIx.out _).mono ?_; rintro e w9 ⟨rfl, hb9⟩
                have R9 := Lib.hid (R9.out.next hb9)
                have Ht9 := Lib.hid (HtN.out.below hb9)
                clear c0 c1 f0 f1
                obtain ⟨c90, c91, f90, f91⟩ := R9.out.cells
                clear hb9
                go_wp2_with fail
                refine (HLx.out _ Ht9.out).mono ?_; rintro e w10 ⟨rfl, hb10⟩
                have R10 := Lib.hid (R9.out.next hb10)
                clear c90 c91 f90 f91
                obtain ⟨d0, d1, e0, e1⟩ := R10.out.rcells
                have HD := Lib.hid (R10.out.done 0 0)
                clear hb10
                go_wp2_with fail
                obtain ⟨p0, p1, hbz⟩ := HD.out
                refine bodyPost_ret (v := .tuple #[.agg #[.int .i64 0, .int .i64 0], .int .i64 2]) (by simp [results, Tryd.results62, go_sem, p0, p1]) rfl ?_
                unfold RetRl; rw [hfin]; exact ⟨rfl, hbz⟩
          | some a =>
            rw [hq] at HRx
            have Ha := Lib.hid (show argW 2 Y = a by unfold argW; rw [if_neg (by decide), if_pos (by decide), hq]; rfl)
            clear hq
            go_wp2_with fail
            refine HRx.out.mono ?_; rintro e w88 ⟨rfl, hb8⟩
            have R89 := Lib.hid (R8.out.next hb8)
            clear hb8 c0 c1 f0 f1 d0 d1 e0 e1 HRx R8
            obtain ⟨c0, c1, f0, f1⟩ := R89.out.cells
            have R9 := Lib.hid (R89.out.set1 a)
            have HtN := Lib.hid (Ht.out.below R9.out.acc)
            cases hok : okIns ((2 : Nat) : Int) a with
            | false =>
              have HIx := Lib.hid (fun wx => HI.out ((2 : Nat) : Int) a wx)
              have hfin := Hb.out 2 a rfl (by decide) Ha.out (by rw [hok]; exact fun h => Bool.noConfusion h.1)
              rw [hok] at HIx
              clear hok
              go_wp2_with fail
              refine (HIx.out _).mono ?_; rintro e w9 ⟨rfl, hb9⟩
              have R9 := Lib.hid (R9.out.next hb9)
              clear c0 c1 f0 f1
              obtain ⟨d0, d1, e0, e1⟩ := R9.out.rcells
              have HD := Lib.hid (R9.out.done 0 0)
              clear hb9
              go_wp2_with fail
              obtain ⟨p0, p1, hbz⟩ := HD.out
              refine bodyPost_ret (v := .tuple #[.agg #[.int .i64 0, .int .i64 0], .int .i64 2]) (by simp [results, Tryd.results62, go_sem, p0, p1]) rfl ?_
              unfold RetRl; rw [hfin]; exact ⟨rfl, hbz⟩
            | true =>
              have HIx := Lib.hid (fun wx => HI.out ((2 : Nat) : Int) a wx)
              have HLx := Lib.hid (fun wx hx => HL.out 2 a wx hok hx)
              rw [hok] at HIx
              by_cases hl : lineP 2 a = s
              · have hfin := Hg.out 2 a rfl (by decide) Ha.out ⟨hok, hl⟩
                rw [hl] at HLx
                clear hok hl
                go_wp2_with fail
                refine (HIx.out _).mono ?_; rintro e w9 ⟨rfl, hb9⟩
                have R9 := Lib.hid (R9.out.next hb9)
                have Ht9 := Lib.hid (HtN.out.below hb9)
                clear c0 c1 f0 f1
                obtain ⟨c90, c91, f90, f91⟩ := R9.out.cells
                clear hb9
                go_wp2_with fail
                refine (HLx.out _ Ht9.out).mono ?_; rintro e w10 ⟨rfl, hb10⟩
                have R10 := Lib.hid (R9.out.next hb10)
                clear c90 c91 f90 f91
                obtain ⟨d0, d1, e0, e1⟩ := R10.out.rcells
                obtain ⟨c100, c101, f100, f101⟩ := R10.out.cells
                have HD := Lib.hid (R10.out.done (2 : Int) a)
                clear hb10
                go_wp2_with fail
                obtain ⟨p0, p1, hbz⟩ := HD.out
                refine bodyPost_ret (v := .tuple #[.agg #[.int .i64 (2 : Int), .int .i64 a], .int .i64 0]) (by simp [results, Tryd.results62, go_sem, p0, p1]) rfl ?_
                unfold RetRl; rw [hfin]; exact ⟨rfl, hbz⟩
              · have hfin := Hb.out 2 a rfl (by decide) Ha.out (fun h => hl h.2)
                have hbn : ((lineP 2 a).toList != s.toList) = true := bne_iff_ne.2 fun e => hl (ba_inj e)
                have hbq : ((lineP 2 a).toList == s.toList) = false := beq_eq_false_iff_ne.2 fun e => hl (ba_inj e)
                generalize lineP 2 a = D at *
                clear hok hl
                go_wp2_with fail
                refine (HIx.out _).mono ?_; rintro e w9 ⟨rfl, hb9⟩
                have R9 := Lib.hid (R9.out.next hb9)
                have Ht9 := Lib.hid (HtN.out.below hb9)
                clear c0 c1 f0 f1
                obtain ⟨c90, c91, f90, f91⟩ := R9.out.cells
                clear hb9
                go_wp2_with fail
                refine (HLx.out _ Ht9.out).mono ?_; rintro e w10 ⟨rfl, hb10⟩
                have R10 := Lib.hid (R9.out.next hb10)
                clear c90 c91 f90 f91
                obtain ⟨d0, d1, e0, e1⟩ := R10.out.rcells
                have HD := Lib.hid (R10.out.done 0 0)
                clear hb10
                go_wp2_with fail
                obtain ⟨p0, p1, hbz⟩ := HD.out
                refine bodyPost_ret (v := .tuple #[.agg #[.int .i64 0, .int .i64 0], .int .i64 2]) (by simp [results, Tryd.results62, go_sem, p0, p1]) rfl ?_
                unfold RetRl; rw [hfin]; exact ⟨rfl, hbz⟩
        · have R8 := Lib.hid (R7.out.set1 1)
          have Ht8 := Lib.hid (Ht.out.below R8.out.acc)
          have HRx := Lib.hid (HR.out _ Ht8.out)
          cases hq : readN Y with
          | none =>
            rw [hq] at HRx
            have Ha := Lib.hid (show argW 3 Y = 1 by unfold argW; rw [if_neg (by decide), if_pos (by decide), hq]; rfl)
            generalize ha1 : (1 : Int) = a at Ha
            have Ha1 := Lib.hid ha1; clear ha1 hq
            go_wp2_with fail
            refine HRx.out.mono ?_; rintro e w88 ⟨rfl, hb8⟩
            have R9 := Lib.hid (R8.out.next hb8)
            rw [Ha1.out] at R9
            clear hb8 c0 c1 f0 f1 d0 d1 e0 e1 HRx R8
            obtain ⟨c0, c1, f0, f1⟩ := R9.out.cells
            have HtN := Lib.hid (Ht.out.below R9.out.acc)
            cases hok : okIns ((3 : Nat) : Int) a with
            | false =>
              have HIx := Lib.hid (fun wx => HI.out ((3 : Nat) : Int) a wx)
              have hfin := Hb.out 3 a rfl (by decide) Ha.out (by rw [hok]; exact fun h => Bool.noConfusion h.1)
              rw [hok] at HIx
              clear hok
              go_wp2_with fail
              refine (HIx.out _).mono ?_; rintro e w9 ⟨rfl, hb9⟩
              have R9 := Lib.hid (R9.out.next hb9)
              clear c0 c1 f0 f1
              obtain ⟨d0, d1, e0, e1⟩ := R9.out.rcells
              have HD := Lib.hid (R9.out.done 0 0)
              clear hb9
              go_wp2_with fail
              obtain ⟨p0, p1, hbz⟩ := HD.out
              refine bodyPost_ret (v := .tuple #[.agg #[.int .i64 0, .int .i64 0], .int .i64 2]) (by simp [results, Tryd.results62, go_sem, p0, p1]) rfl ?_
              unfold RetRl; rw [hfin]; exact ⟨rfl, hbz⟩
            | true =>
              have HIx := Lib.hid (fun wx => HI.out ((3 : Nat) : Int) a wx)
              have HLx := Lib.hid (fun wx hx => HL.out 3 a wx hok hx)
              rw [hok] at HIx
              by_cases hl : lineP 3 a = s
              · have hfin := Hg.out 3 a rfl (by decide) Ha.out ⟨hok, hl⟩
                rw [hl] at HLx
                clear hok hl
                go_wp2_with fail
                refine (HIx.out _).mono ?_; rintro e w9 ⟨rfl, hb9⟩
                have R9 := Lib.hid (R9.out.next hb9)
                have Ht9 := Lib.hid (HtN.out.below hb9)
                clear c0 c1 f0 f1
                obtain ⟨c90, c91, f90, f91⟩ := R9.out.cells
                clear hb9
                go_wp2_with fail
                refine (HLx.out _ Ht9.out).mono ?_; rintro e w10 ⟨rfl, hb10⟩
                have R10 := Lib.hid (R9.out.next hb10)
                clear c90 c91 f90 f91
                obtain ⟨d0, d1, e0, e1⟩ := R10.out.rcells
                obtain ⟨c100, c101, f100, f101⟩ := R10.out.cells
                have HD := Lib.hid (R10.out.done (3 : Int) a)
                clear hb10
                go_wp2_with fail
                obtain ⟨p0, p1, hbz⟩ := HD.out
                refine bodyPost_ret (v := .tuple #[.agg #[.int .i64 (3 : Int), .int .i64 a], .int .i64 0]) (by simp [results, Tryd.results62, go_sem, p0, p1]) rfl ?_
                unfold RetRl; rw [hfin]; exact ⟨rfl, hbz⟩
              · have hfin := Hb.out 3 a rfl (by decide) Ha.out (fun h => hl h.2)
                have hbn : ((lineP 3 a).toList != s.toList) = true := bne_iff_ne.2 fun e => hl (ba_inj e)
                have hbq : ((lineP 3 a).toList == s.toList) = false := beq_eq_false_iff_ne.2 fun e => hl (ba_inj e)
                generalize lineP 3 a = D at *
                clear hok hl
                go_wp2_with fail
                refine (HIx.out _).mono ?_; rintro e w9 ⟨rfl, hb9⟩
                have R9 := Lib.hid (R9.out.next hb9)
                have Ht9 := Lib.hid (HtN.out.below hb9)
                clear c0 c1 f0 f1
                obtain ⟨c90, c91, f90, f91⟩ := R9.out.cells
                clear hb9
                go_wp2_with fail
                refine (HLx.out _ Ht9.out).mono ?_; rintro e w10 ⟨rfl, hb10⟩
                have R10 := Lib.hid (R9.out.next hb10)
                clear c90 c91 f90 f91
                obtain ⟨d0, d1, e0, e1⟩ := R10.out.rcells
                have HD := Lib.hid (R10.out.done 0 0)
                clear hb10
                go_wp2_with fail
                obtain ⟨p0, p1, hbz⟩ := HD.out
                refine bodyPost_ret (v := .tuple #[.agg #[.int .i64 0, .int .i64 0], .int .i64 2]) (by simp [results, Tryd.results62, go_sem, p0, p1]) rfl ?_
                unfold RetRl; rw [hfin]; exact ⟨rfl, hbz⟩
          | some a =>
            rw [hq] at HRx
            have Ha := Lib.hid (show argW 3 Y = a by unfold argW; rw [if_neg (by decide), if_pos (by decide), hq]; rfl)
            clear hq
            go_wp2_with fail
            refine HRx.out.mono ?_; rintro e w88 ⟨rfl, hb8⟩
            have R89 := Lib.hid (R8.out.next hb8)
            clear hb8 c0 c1 f0 f1 d0 d1 e0 e1 HRx R8
            obtain ⟨c0, c1, f0, f1⟩ := R89.out.cells
            have R9 := Lib.hid (R89.out.set1 a)
            have HtN := Lib.hid (Ht.out.below R9.out.acc)
            cases hok : okIns ((3 : Nat) : Int) a with
            | false =>
              have HIx := Lib.hid (fun wx => HI.out ((3 : Nat) : Int) a wx)
              have hfin := Hb.out 3 a rfl (by decide) Ha.out (by rw [hok]; exact fun h => Bool.noConfusion h.1)
              rw [hok] at HIx
              clear hok
              go_wp2_with fail
              refine (HIx.out _).mono ?_; rintro e w9 ⟨rfl, hb9⟩
              have R9 := Lib.hid (R9.out.next hb9)
              clear c0 c1 f0 f1
              obtain ⟨d0, d1, e0, e1⟩ := R9.out.rcells
              have HD := Lib.hid (R9.out.done 0 0)
              clear hb9
              go_wp2_with fail
              obtain ⟨p0, p1, hbz⟩ := HD.out
              refine bodyPost_ret (v := .tuple #[.agg #[.int .i64 0, .int .i64 0], .int .i64 2]) (by simp [results, Tryd.results62, go_sem, p0, p1]) rfl ?_
              unfold RetRl; rw [hfin]; exact ⟨rfl, hbz⟩
            | true =>
              have HIx := Lib.hid (fun wx => HI.out ((3 : Nat) : Int) a wx)
              have HLx := Lib.hid (fun wx hx => HL.out 3 a wx hok hx)
              rw [hok] at HIx
              by_cases hl : lineP 3 a = s
              · have hfin := Hg.out 3 a rfl (by decide) Ha.out ⟨hok, hl⟩
                rw [hl] at HLx
                clear hok hl
                go_wp2_with fail
                refine (HIx.out _).mono ?_; rintro e w9 ⟨rfl, hb9⟩
                have R9 := Lib.hid (R9.out.next hb9)
                have Ht9 := Lib.hid (HtN.out.below hb9)
                clear c0 c1 f0 f1
                obtain ⟨c90, c91, f90, f91⟩ := R9.out.cells
                clear hb9
                go_wp2_with fail
                refine (HLx.out _ Ht9.out).mono ?_; rintro e w10 ⟨rfl, hb10⟩
                have R10 := Lib.hid (R9.out.next hb10)
                clear c90 c91 f90 f91
                obtain ⟨d0, d1, e0, e1⟩ := R10.out.rcells
                obtain ⟨c100, c101, f100, f101⟩ := R10.out.cells
                have HD := Lib.hid (R10.out.done (3 : Int) a)
                clear hb10
                go_wp2_with fail
                obtain ⟨p0, p1, hbz⟩ := HD.out
                refine bodyPost_ret (v := .tuple #[.agg #[.int .i64 (3 : Int), .int .i64 a], .int .i64 0]) (by simp [results, Tryd.results62, go_sem, p0, p1]) rfl ?_
                unfold RetRl; rw [hfin]; exact ⟨rfl, hbz⟩
              · have hfin := Hb.out 3 a rfl (by decide) Ha.out (fun h => hl h.2)
                have hbn : ((lineP 3 a).toList != s.toList) = true := bne_iff_ne.2 fun e => hl (ba_inj e)
                have hbq : ((lineP 3 a).toList == s.toList) = false := beq_eq_false_iff_ne.2 fun e => hl (ba_inj e)
                generalize lineP 3 a = D at *
                clear hok hl
                go_wp2_with fail
                refine (HIx.out _).mono ?_; rintro e w9 ⟨rfl, hb9⟩
                have R9 := Lib.hid (R9.out.next hb9)
                have Ht9 := Lib.hid (HtN.out.below hb9)
                clear c0 c1 f0 f1
                obtain ⟨c90, c91, f90, f91⟩ := R9.out.cells
                clear hb9
                go_wp2_with fail
                refine (HLx.out _ Ht9.out).mono ?_; rintro e w10 ⟨rfl, hb10⟩
                have R10 := Lib.hid (R9.out.next hb10)
                clear c90 c91 f90 f91
                obtain ⟨d0, d1, e0, e1⟩ := R10.out.rcells
                have HD := Lib.hid (R10.out.done 0 0)
                clear hb10
                go_wp2_with fail
                obtain ⟨p0, p1, hbz⟩ := HD.out
                refine bodyPost_ret (v := .tuple #[.agg #[.int .i64 0, .int .i64 0], .int .i64 2]) (by simp [results, Tryd.results62, go_sem, p0, p1]) rfl ?_
                unfold RetRl; rw [hfin]; exact ⟨rfl, hbz⟩
        · have R8 := Lib.hid (R7.out.set1 1)
          have Ht8 := Lib.hid (Ht.out.below R8.out.acc)
          have HRx := Lib.hid (HR.out _ Ht8.out)
          cases hq : readN Y with
          | none =>
            rw [hq] at HRx
            have Ha := Lib.hid (show argW 4 Y = 1 by unfold argW; rw [if_neg (by decide), if_pos (by decide), hq]; rfl)
            generalize ha1 : (1 : Int) = a at Ha
            have Ha1 := Lib.hid ha1; clear ha1 hq
            go_wp2_with fail
            refine HRx.out.mono ?_; rintro e w88 ⟨rfl, hb8⟩
            have R9 := Lib.hid (R8.out.next hb8)
            rw [Ha1.out] at R9
            clear hb8 c0 c1 f0 f1 d0 d1 e0 e1 HRx R8
            obtain ⟨c0, c1, f0, f1⟩ := R9.out.cells
            have HtN := Lib.hid (Ht.out.below R9.out.acc)
            cases hok : okIns ((4 : Nat) : Int) a with
            | false =>
              have HIx := Lib.hid (fun wx => HI.out ((4 : Nat) : Int) a wx)
              have hfin := Hb.out 4 a rfl (by decide) Ha.out (by rw [hok]; exact fun h => Bool.noConfusion h.1)
              rw [hok] at HIx
              clear hok
              go_wp2_with fail
              refine (HIx.out _).mono ?_; rintro e w9 ⟨rfl, hb9⟩
              have R9 := Lib.hid (R9.out.next hb9)
              clear c0 c1 f0 f1
              obtain ⟨d0, d1, e0, e1⟩ := R9.out.rcells
              have HD := Lib.hid (R9.out.done 0 0)
              clear hb9
              go_wp2_with fail
              obtain ⟨p0, p1, hbz⟩ := HD.out
              refine bodyPost_ret (v := .tuple #[.agg #[.int .i64 0, .int .i64 0], .int .i64 2]) (by simp [results, Tryd.results62, go_sem, p0, p1]) rfl ?_
              unfold RetRl; rw [hfin]; exact ⟨rfl, hbz⟩
            | true =>
              have HIx := Lib.hid (fun wx => HI.out ((4 : Nat) : Int) a wx)
              have HLx := Lib.hid (fun wx hx => HL.out 4 a wx hok hx)
              rw [hok] at HIx
              by_cases hl : lineP 4 a = s
              · have hfin := Hg.out 4 a rfl (by decide) Ha.out ⟨hok, hl⟩
                rw [hl] at HLx
                clear hok hl
                go_wp2_with fail
                refine (HIx.out _).mono ?_; rintro e w9 ⟨rfl, hb9⟩
                have R9 := Lib.hid (R9.out.next hb9)
                have Ht9 := Lib.hid (HtN.out.below hb9)
                clear c0 c1 f0 f1
                obtain ⟨c90, c91, f90, f91⟩ := R9.out.cells
                clear hb9
                go_wp2_with fail
                refine (HLx.out _ Ht9.out).mono ?_; rintro e w10 ⟨rfl, hb10⟩
                have R10 := Lib.hid (R9.out.next hb10)
                clear c90 c91 f90 f91
                obtain ⟨d0, d1, e0, e1⟩ := R10.out.rcells
                obtain ⟨c100, c101, f100, f101⟩ := R10.out.cells
                have HD := Lib.hid (R10.out.done (4 : Int) a)
                clear hb10
                go_wp2_with fail
                obtain ⟨p0, p1, hbz⟩ := HD.out
                refine bodyPost_ret (v := .tuple #[.agg #[.int .i64 (4 : Int), .int .i64 a], .int .i64 0]) (by simp [results, Tryd.results62, go_sem, p0, p1]) rfl ?_
                unfold RetRl; rw [hfin]; exact ⟨rfl, hbz⟩
              · have hfin := Hb.out 4 a rfl (by decide) Ha.out (fun h => hl h.2)
                have hbn : ((lineP 4 a).toList != s.toList) = true := bne_iff_ne.2 fun e => hl (ba_inj e)
                have hbq : ((lineP 4 a).toList == s.toList) = false := beq_eq_false_iff_ne.2 fun e => hl (ba_inj e)
                generalize lineP 4 a = D at *
                clear hok hl
                go_wp2_with fail
                refine (HIx.out _).mono ?_; rintro e w9 ⟨rfl, hb9⟩
                have R9 := Lib.hid (R9.out.next hb9)
                have Ht9 := Lib.hid (HtN.out.below hb9)
                clear c0 c1 f0 f1
                obtain ⟨c90, c91, f90, f91⟩ := R9.out.cells
                clear hb9
                go_wp2_with fail
                refine (HLx.out _ Ht9.out).mono ?_; rintro e w10 ⟨rfl, hb10⟩
                have R10 := Lib.hid (R9.out.next hb10)
                clear c90 c91 f90 f91
                obtain ⟨d0, d1, e0, e1⟩ := R10.out.rcells
                have HD := Lib.hid (R10.out.done 0 0)
                clear hb10
                go_wp2_with fail
                obtain ⟨p0, p1, hbz⟩ := HD.out
                refine bodyPost_ret (v := .tuple #[.agg #[.int .i64 0, .int .i64 0], .int .i64 2]) (by simp [results, Tryd.results62, go_sem, p0, p1]) rfl ?_
                unfold RetRl; rw [hfin]; exact ⟨rfl, hbz⟩
          | some a =>
            rw [hq] at HRx
            have Ha := Lib.hid (show argW 4 Y = a by unfold argW; rw [if_neg (by decide), if_pos (by decide), hq]; rfl)
            clear hq
            go_wp2_with fail
            refine HRx.out.mono ?_; rintro e w88 ⟨rfl, hb8⟩
            have R89 := Lib.hid (R8.out.next hb8)
            clear hb8 c0 c1 f0 f1 d0 d1 e0 e1 HRx R8
            obtain ⟨c0, c1, f0, f1⟩ := R89.out.cells
            have R9 := Lib.hid (R89.out.set1 a)
            have HtN := Lib.hid (Ht.out.below R9.out.acc)
            cases hok : okIns ((4 : Nat) : Int) a with
            | false =>
              have HIx := Lib.hid (fun wx => HI.out ((4 : Nat) : Int) a wx)
              have hfin := Hb.out 4 a rfl (by decide) Ha.out (by rw [hok]; exact fun h => Bool.noConfusion h.1)
              rw [hok] at HIx
              clear hok
              go_wp2_with fail
              refine (HIx.out _).mono ?_; rintro e w9 ⟨rfl, hb9⟩
              have R9 := Lib.hid (R9.out.next hb9)
              clear c0 c1 f0 f1
              obtain ⟨d0, d1, e0, e1⟩ := R9.out.rcells
              have HD := Lib.hid (R9.out.done 0 0)
              clear hb9
              go_wp2_with fail
              obtain ⟨p0, p1, hbz⟩ := HD.out
              refine bodyPost_ret (v := .tuple #[.agg #[.int .i64 0, .int .i64 0], .int .i64 2]) (by simp [results, Tryd.results62, go_sem, p0, p1]) rfl ?_
              unfold RetRl; rw [hfin]; exact ⟨rfl, hbz⟩
            | true =>
              have HIx := Lib.hid (fun wx => HI.out ((4 : Nat) : Int) a wx)
              have HLx := Lib.hid (fun wx hx => HL.out 4 a wx hok hx)
              rw [hok] at HIx
              by_cases hl : lineP 4 a = s
              · have hfin := Hg.out 4 a rfl (by decide) Ha.out ⟨hok, hl⟩
                rw [hl] at HLx
                clear hok hl
                go_wp2_with fail
                refine (HIx.out _).mono ?_; rintro e w9 ⟨rfl, hb9⟩
                have R9 := Lib.hid (R9.out.next hb9)
                have Ht9 := Lib.hid (HtN.out.below hb9)
                clear c0 c1 f0 f1
                obtain ⟨c90, c91, f90, f91⟩ := R9.out.cells
                clear hb9
                go_wp2_with fail
                refine (HLx.out _ Ht9.out).mono ?_; rintro e w10 ⟨rfl, hb10⟩
                have R10 := Lib.hid (R9.out.next hb10)
                clear c90 c91 f90 f91
                obtain ⟨d0, d1, e0, e1⟩ := R10.out.rcells
                obtain ⟨c100, c101, f100, f101⟩ := R10.out.cells
                have HD := Lib.hid (R10.out.done (4 : Int) a)
                clear hb10
                go_wp2_with fail
                obtain ⟨p0, p1, hbz⟩ := HD.out
                refine bodyPost_ret (v := .tuple #[.agg #[.int .i64 (4 : Int), .int .i64 a], .int .i64 0]) (by simp [results, Tryd.results62, go_sem, p0, p1]) rfl ?_
                unfold RetRl; rw [hfin]; exact ⟨rfl, hbz⟩
              · have hfin := Hb.out 4 a rfl (by decide) Ha.out (fun h => hl h.2)
                have hbn : ((lineP 4 a).toList != s.toList) = true := bne_iff_ne.2 fun e => hl (ba_inj e)
                have hbq : ((lineP 4 a).toList == s.toList) = false := beq_eq_false_iff_ne.2 fun e => hl (ba_inj e)
                generalize lineP 4 a = D at *
                clear hok hl
                go_wp2_with fail
                refine (HIx.out _).mono ?_; rintro e w9 ⟨rfl, hb9⟩
                have R9 := Lib.hid (R9.out.next hb9)
                have Ht9 := Lib.hid (HtN.out.below hb9)
                clear c0 c1 f0 f1
                obtain ⟨c90, c91, f90, f91⟩ := R9.out.cells
                clear hb9
                go_wp2_with fail
                refine (HLx.out _ Ht9.out).mono ?_; rintro e w10 ⟨rfl, hb10⟩
                have R10 := Lib.hid (R9.out.next hb10)
                clear c90 c91 f90 f91
                obtain ⟨d0, d1, e0, e1⟩ := R10.out.rcells
                have HD := Lib.hid (R10.out.done 0 0)
                clear hb10
                go_wp2_with fail
                obtain ⟨p0, p1, hbz⟩ := HD.out
                refine bodyPost_ret (v := .tuple #[.agg #[.int .i64 0, .int .i64 0], .int .i64 2]) (by simp [results, Tryd.results62, go_sem, p0, p1]) rfl ?_
                unfold RetRl; rw [hfin]; exact ⟨rfl, hbz⟩
        · have R8 := Lib.hid (R7.out.set1 1)
          have Ht8 := Lib.hid (Ht.out.below R8.out.acc)
          have HRx := Lib.hid (HR.out _ Ht8.out)
          cases hq : readN Y with
          | none =>
            rw [hq] at HRx
            have Ha := Lib.hid (show argW 5 Y = 1 by unfold argW; rw [if_neg (by decide), if_pos (by decide), hq]; rfl)
            generalize ha1 : (1 : Int) = a at Ha
            have Ha1 := Lib.hid ha1; clear ha1 hq
            go_wp2_with fail
            refine HRx.out.mono ?_; rintro e w88 ⟨rfl, hb8⟩
            have R9 := Lib.hid (R8.out.next hb8)
            rw [Ha1.out] at R9
            clear hb8 c0 c1 f0 f1 d0 d1 e0 e1 HRx R8
            obtain ⟨c0, c1, f0, f1⟩ := R9.out.cells
            have HtN := Lib.hid (Ht.out.below R9.out.acc)
            cases hok : okIns ((5 : Nat) : Int) a with
            | false =>
              have HIx := Lib.hid (fun wx => HI.out ((5 : Nat) : Int) a wx)
              have hfin := Hb.out 5 a rfl (by decide) Ha.out (by rw [hok]; exact fun h => Bool.noConfusion h.1)
              rw [hok] at HIx
              clear hok
              go_wp2_with fail
              refine (HIx.out _).mono ?_; rintro e w9 ⟨rfl, hb9⟩
              have R9 := Lib.hid (R9.out.next hb9)
              clear c0 c1 f0 f1
              obtain ⟨d0, d1, e0, e1⟩ := R9.out.rcells
              have HD := Lib.hid (R9.out.done 0 0)
              clear hb9
              go_wp2_with fail
              obtain ⟨p0, p1, hbz⟩ := HD.out
              refine bodyPost_ret (v := .tuple #[.agg #[.int .i64 0, .int .i64 0], .int .i64 2]) (by simp [results, Tryd.results62, go_sem, p0, p1]) rfl ?_
              unfold RetRl; rw [hfin]; exact ⟨rfl, hbz⟩
            | true =>
              have HIx := Lib.hid (fun wx => HI.out ((5 : Nat) : Int) a wx)
              have HLx := Lib.hid (fun wx hx => HL.out 5 a wx hok hx)
              rw [hok] at HIx
              by_cases hl : lineP 5 a = s
              · have hfin := Hg.out 5 a rfl (by decide) Ha.out ⟨hok, hl⟩
                rw [hl] at HLx
                clear hok hl
                go_wp2_with fail
                refine (HIx.out _).mono ?_; rintro e w9 ⟨rfl, hb9⟩
                have R9 := Lib.hid (R9.out.next hb9)
                have Ht9 := Lib.hid (HtN.out.below hb9)
                clear c0 c1 f0 f1
                obtain ⟨c90, c91, f90, f91⟩ := R9.out.cells
                clear hb9
                go_wp2_with fail
                refine (HLx.out _ Ht9.out).mono ?_; rintro e w10 ⟨rfl, hb10⟩
                have R10 := Lib.hid (R9.out.next hb10)
                clear c90 c91 f90 f91
                obtain ⟨d0, d1, e0, e1⟩ := R10.out.rcells
                obtain ⟨c100, c101, f100, f101⟩ := R10.out.cells
                have HD := Lib.hid (R10.out.done (5 : Int) a)
                clear hb10
                go_wp2_with fail
                obtain ⟨p0, p1, hbz⟩ := HD.out
                refine bodyPost_ret (v := .tuple #[.agg #[.int .i64 (5 : Int), .int .i64 a], .int .i64 0]) (by simp [results, Tryd.results62, go_sem, p0, p1]) rfl ?_
                unfold RetRl; rw [hfin]; exact ⟨rfl, hbz⟩
              · have hfin := Hb.out 5 a rfl (by decide) Ha.out (fun h => hl h.2)
                have hbn : ((lineP 5 a).toList != s.toList) = true := bne_iff_ne.2 fun e => hl (ba_inj e)
                have hbq : ((lineP 5 a).toList == s.toList) = false := beq_eq_false_iff_ne.2 fun e => hl (ba_inj e)
                generalize lineP 5 a = D at *
                clear hok hl
                go_wp2_with fail
                refine (HIx.out _).mono ?_; rintro e w9 ⟨rfl, hb9⟩
                have R9 := Lib.hid (R9.out.next hb9)
                have Ht9 := Lib.hid (HtN.out.below hb9)
                clear c0 c1 f0 f1
                obtain ⟨c90, c91, f90, f91⟩ := R9.out.cells
                clear hb9
                go_wp2_with fail
                refine (HLx.out _ Ht9.out).mono ?_; rintro e w10 ⟨rfl, hb10⟩
                have R10 := Lib.hid (R9.out.next hb10)
                clear c90 c91 f90 f91
                obtain ⟨d0, d1, e0, e1⟩ := R10.out.rcells
                have HD := Lib.hid (R10.out.done 0 0)
                clear hb10
                go_wp2_with fail
                obtain ⟨p0, p1, hbz⟩ := HD.out
                refine bodyPost_ret (v := .tuple #[.agg #[.int .i64 0, .int .i64 0], .int .i64 2]) (by simp [results, Tryd.results62, go_sem, p0, p1]) rfl ?_
                unfold RetRl; rw [hfin]; exact ⟨rfl, hbz⟩
          | some a =>
            rw [hq] at HRx
            have Ha := Lib.hid (show argW 5 Y = a by unfold argW; rw [if_neg (by decide), if_pos (by decide), hq]; rfl)
            clear hq
            go_wp2_with fail
            refine HRx.out.mono ?_; rintro e w88 ⟨rfl, hb8⟩
            have R89 := Lib.hid (R8.out.next hb8)
            clear hb8 c0 c1 f0 f1 d0 d1 e0 e1 HRx R8
            obtain ⟨c0, c1, f0, f1⟩ := R89.out.cells
            have R9 := Lib.hid (R89.out.set1 a)
            have HtN := Lib.hid (Ht.out.below R9.out.acc)
            cases hok : okIns ((5 : Nat) : Int) a with
            | false =>
              have HIx := Lib.hid (fun wx => HI.out ((5 : Nat) : Int) a wx)
              have hfin := Hb.out 5 a rfl (by decide) Ha.out (by rw [hok]; exact fun h => Bool.noConfusion h.1)
              rw [hok] at HIx
              clear hok
              go_wp2_with fail
              refine (HIx.out _).mono ?_; rintro e w9 ⟨rfl, hb9⟩
              have R9 := Lib.hid (R9.out.next hb9)
              clear c0 c1 f0 f1
              obtain ⟨d0, d1, e0, e1⟩ := R9.out.rcells
              have HD := Lib.hid (R9.out.done 0 0)
              clear hb9
              go_wp2_with fail
              obtain ⟨p0, p1, hbz⟩ := HD.out
              refine bodyPost_ret (v := .tuple #[.agg #[.int .i64 0, .int .i64 0], .int .i64 2]) (by simp [results, Tryd.results62, go_sem, p0, p1]) rfl ?_
              unfold RetRl; rw [hfin]; exact ⟨rfl, hbz⟩
            | true =>
              have HIx := Lib.hid (fun wx => HI.out ((5 : Nat) : Int) a wx)
              have HLx := Lib.hid (fun wx hx => HL.out 5 a wx hok hx)
              rw [hok] at HIx
              by_cases hl : lineP 5 a = s
              · have hfin := Hg.out 5 a rfl (by decide) Ha.out ⟨hok, hl⟩
                rw [hl] at HLx
                clear hok hl
                go_wp2_with fail
                refine (HIx.out _).mono ?_; rintro e w9 ⟨rfl, hb9⟩
                have R9 := Lib.hid (R9.out.next hb9)
                have Ht9 := Lib.hid (HtN.out.below hb9)
                clear c0 c1 f0 f1
                obtain ⟨c90, c91, f90, f91⟩ := R9.out.cells
                clear hb9
                go_wp2_with fail
                refine (HLx.out _ Ht9.out).mono ?_; rintro e w10 ⟨rfl, hb10⟩
                have R10 := Lib.hid (R9.out.next hb10)
                clear c90 c91 f90 f91
                obtain ⟨d0, d1, e0, e1⟩ := R10.out.rcells
                obtain ⟨c100, c101, f100, f101⟩ := R10.out.cells
                have HD := Lib.hid (R10.out.done (5 : Int) a)
                clear hb10
                go_wp2_with fail
                obtain ⟨p0, p1, hbz⟩ := HD.out
                refine bodyPost_ret (v := .tuple #[.agg #[.int .i64 (5 : Int), .int .i64 a], .int .i64 0]) (by simp [results, Tryd.results62, go_sem, p0, p1]) rfl ?_
                unfold RetRl; rw [hfin]; exact ⟨rfl, hbz⟩
              · have hfin := Hb.out 5 a rfl (by decide) Ha.out (fun h => hl h.2)
                have hbn : ((lineP 5 a).toList != s.toList) = true := bne_iff_ne.2 fun e => hl (ba_inj e)
                have hbq : ((lineP 5 a).toList == s.toList) = false := beq_eq_false_iff_ne.2 fun e => hl (ba_inj e)
                generalize lineP 5 a = D at *
                clear hok hl
                go_wp2_with fail
                refine (HIx.out _).mono ?_; rintro e w9 ⟨rfl, hb9⟩
                have R9 := Lib.hid (R9.out.next hb9)
                have Ht9 := Lib.hid (HtN.out.below hb9)
                clear c0 c1 f0 f1
                obtain ⟨c90, c91, f90, f91⟩ := R9.out.cells
                clear hb9
                go_wp2_with fail
                refine (HLx.out _ Ht9.out).mono ?_; rintro e w10 ⟨rfl, hb10⟩
                have R10 := Lib.hid (R9.out.next hb10)
                clear c90 c91 f90 f91
                obtain ⟨d0, d1, e0, e1⟩ := R10.out.rcells
                have HD := Lib.hid (R10.out.done 0 0)
                clear hb10
                go_wp2_with fail
                obtain ⟨p0, p1, hbz⟩ := HD.out
                refine bodyPost_ret (v := .tuple #[.agg #[.int .i64 0, .int .i64 0], .int .i64 2]) (by simp [results, Tryd.results62, go_sem, p0, p1]) rfl ?_
                unfold RetRl; rw [hfin]; exact ⟨rfl, hbz⟩
        · obtain ⟨a, Ha0⟩ : ∃ a : Int, a = 0 := ⟨_, rfl⟩
          have Ha := Lib.hid (show argW 6 Y = a by unfold argW; rw [if_neg (by decide), if_neg (by decide), Ha0])
          have R9 := R7
          rw [← Ha0] at R9 c1
          clear Ha0
          have HtN := Lib.hid (Ht.out.below R9.out.acc)
          cases hok : okIns ((6 : Nat) : Int) a with
          | false =>
            have HIx := Lib.hid (fun wx => HI.out ((6 : Nat) : Int) a wx)
            have hfin := Hb.out 6 a rfl (by decide) Ha.out (by rw [hok]; exact fun h => Bool.noConfusion h.1)
            rw [hok] at HIx
            clear hok
            go_wp2_with fail
            refine (HIx.out _).mono ?_; rintro e w9 ⟨rfl, hb9⟩
            have R9 := Lib.hid (R9.out.next hb9)
            clear c0 c1 f0 f1
            obtain ⟨d0, d1, e0, e1⟩ := R9.out.rcells
            have HD := Lib.hid (R9.out.done 0 0)
            clear hb9
            go_wp2_with fail
            obtain ⟨p0, p1, hbz⟩ := HD.out
            refine bodyPost_ret (v := .tuple #[.agg #[.int .i64 0, .int .i64 0], .int .i64 2]) (by simp [results, Tryd.results62, go_sem, p0, p1]) rfl ?_
            unfold RetRl; rw [hfin]; exact ⟨rfl, hbz⟩
          | true =>
            have HIx := Lib.hid (fun wx => HI.out ((6 : Nat) : Int) a wx)
            have HLx := Lib.hid (fun wx hx => HL.out 6 a wx hok hx)
            rw [hok] at HIx
            by_cases hl : lineP 6 a = s
            · have hfin := Hg.out 6 a rfl (by decide) Ha.out ⟨hok, hl⟩
              rw [hl] at HLx
              clear hok hl
              go_wp2_with fail
              refine (HIx.out _).mono ?_; rintro e w9 ⟨rfl, hb9⟩
              have R9 := Lib.hid (R9.out.next hb9)
              have Ht9 := Lib.hid (HtN.out.below hb9)
              clear c0 c1 f0 f1
              obtain ⟨c90, c91, f90, f91⟩ := R9.out.cells
              clear hb9
              go_wp2_with fail
              refine (HLx.out _ Ht9.out).mono ?_; rintro e w10 ⟨rfl, hb10⟩
              have R10 := Lib.hid (R9.out.next hb10)
              clear c90 c91 f90 f91
              obtain ⟨d0, d1, e0, e1⟩ := R10.out.rcells
              obtain ⟨c100, c101, f100, f101⟩ := R10.out.cells
              have HD := Lib.hid (R10.out.done (6 : Int) a)
              clear hb10
              go_wp2_with fail
              obtain ⟨p0, p1, hbz⟩ := HD.out
              refine bodyPost_ret (v := .tuple #[.agg #[.int .i64 (6 : Int), .int .i64 a], .int .i64 0]) (by simp [results, Tryd.results62, go_sem, p0, p1]) rfl ?_
              unfold RetRl; rw [hfin]; exact ⟨rfl, hbz⟩
            · have hfin := Hb.out 6 a rfl (by decide) Ha.out (fun h => hl h.2)
              have hbn : ((lineP 6 a).toList != s.toList) = true := bne_iff_ne.2 fun e => hl (ba_inj e)
              have hbq : ((lineP 6 a).toList == s.toList) = false := beq_eq_false_iff_ne.2 fun e => hl (ba_inj e)
              generalize lineP 6 a = D at *
              clear hok hl
              go_wp2_with fail
              refine (HIx.out _).mono ?_; rintro e w9 ⟨rfl, hb9⟩
              have R9 := Lib.hid (R9.out.next hb9)
              have Ht9 := Lib.hid (HtN.out.below hb9)
              clear c0 c1 f0 f1
              obtain ⟨c90, c91, f90, f91⟩ := R9.out.cells
              clear hb9
              go_wp2_with fail
              refine (HLx.out _ Ht9.out).mono ?_; rintro e w10 ⟨rfl, hb10⟩
              have R10 := Lib.hid (R9.out.next hb10)
              clear c90 c91 f90 f91
              obtain ⟨d0, d1, e0, e1⟩ := R10.out.rcells
              have HD := Lib.hid (R10.out.done 0 0)
              clear hb10
              go_wp2_with fail
              obtain ⟨p0, p1, hbz⟩ := HD.out
              refine bodyPost_ret (v := .tuple #[.agg #[.int .i64 0, .int .i64 0], .int .i64 2]) (by simp [results, Tryd.results62, go_sem, p0, p1]) rfl ?_
              unfold RetRl; rw [hfin]; exact ⟨rfl, hbz⟩
        · obtain ⟨a, Ha0⟩ : ∃ a : Int, a = 0 := ⟨_, rfl⟩
          have Ha := Lib.hid (show argW 7 Y = a by unfold argW; rw [if_neg (by decide), if_neg (by decide), Ha0])
          have R9 := R7
          rw [← Ha0] at R9 c1
          clear Ha0
          have HtN := Lib.hid (Ht.out.below R9.out.acc)
          cases hok : okIns ((7 : Nat) : Int) a with
          | false =>
            have HIx := Lib.hid (fun wx => HI.out ((7 : Nat) : Int) a wx)
            have hfin := Hb.out 7 a rfl (by decide) Ha.out (by rw [hok]; exact fun h => Bool.noConfusion h.1)
            rw [hok] at HIx
            clear hok
            go_wp2_with fail
            refine (HIx.out _).mono ?_; rintro e w9 ⟨rfl, hb9⟩
            have R9 := Lib.hid (R9.out.next hb9)
            clear c0 c1 f0 f1
            obtain ⟨d0, d1, e0, e1⟩ := R9.out.rcells
            have HD := Lib.hid (R9.out.done 0 0)
            clear hb9
            go_wp2_with fail
            obtain ⟨p0, p1, hbz⟩ := HD.out
            refine bodyPost_ret (v := .tuple #[.agg #[.int .i64 0, .int .i64 0], .int .i64 2]) (by simp [results, Tryd.results62, go_sem, p0, p1]) rfl ?_
            unfold RetRl; rw [hfin]; exact ⟨rfl, hbz⟩
          | true =>
            have HIx := Lib.hid (fun wx => HI.out ((7 : Nat) : Int) a wx)
            have HLx := Lib.hid (fun wx hx => HL.out 7 a wx hok hx)
            rw [hok] at HIx
            by_cases hl : lineP 7 a = s
            · have hfin := Hg.out 7 a rfl (by decide) Ha.out ⟨hok, hl⟩
              rw [hl] at HLx
              clear hok hl
              go_wp2_with fail
              refine (HIx.out _).mono ?_; rintro e w9 ⟨rfl, hb9⟩
              have R9 := Lib.hid (R9.out.next hb9)
              have Ht9 := Lib.hid (HtN.out.below hb9)
              clear c0 c1 f0 f1
              obtain ⟨c90, c91, f90, f91⟩ := R9.out.cells
              clear hb9
              go_wp2_with fail
              refine (HLx.out _ Ht9.out).mono ?_; rintro e w10 ⟨rfl, hb10⟩
              have R10 := Lib.hid (R9.out.next hb10)
              clear c90 c91 f90 f91
              obtain ⟨d0, d1, e0, e1⟩ := R10.out.rcells
              obtain ⟨c100, c101, f100, f101⟩ := R10.out.cells
              have HD := Lib.hid (R10.out.done (7 : Int) a)
              clear hb10
              go_wp2_with fail
              obtain ⟨p0, p1, hbz⟩ := HD.out
              refine bodyPost_ret (v := .tuple #[.agg #[.int .i64 (7 : Int), .int .i64 a], .int .i64 0]) (by simp [results, Tryd.results62, go_sem, p0, p1]) rfl ?_
              unfold RetRl; rw [hfin]; exact ⟨rfl, hbz⟩
            · have hfin := Hb.out 7 a rfl (by decide) Ha.out (fun h => hl h.2)
              have hbn : ((lineP 7 a).toList != s.toList) = true := bne_iff_ne.2 fun e => hl (ba_inj e)
              have hbq : ((lineP 7 a).toList == s.toList) = false := beq_eq_false_iff_ne.2 fun e => hl (ba_inj e)
              generalize lineP 7 a = D at *
              clear hok hl
              go_wp2_with fail
              refine (HIx.out _).mono ?_; rintro e w9 ⟨rfl, hb9⟩
              have R9 := Lib.hid (R9.out.next hb9)
              have Ht9 := Lib.hid (HtN.out.below hb9)
              clear c0 c1 f0 f1
              obtain ⟨c90, c91, f90, f91⟩ := R9.out.cells
              clear hb9
              go_wp2_with fail
              refine (HLx.out _ Ht9.out).mono ?_; rintro e w10 ⟨rfl, hb10⟩
              have R10 := Lib.hid (R9.out.next hb10)
              clear c90 c91 f90 f91
              obtain ⟨d0, d1, e0, e1⟩ := R10.out.rcells
              have HD := Lib.hid (R10.out.done 0 0)
              clear hb10
              go_wp2_with fail
              obtain ⟨p0, p1, hbz⟩ := HD.out
              refine bodyPost_ret (v := .tuple #[.agg #[.int .i64 0, .int .i64 0], .int .i64 2]) (by simp [results, Tryd.results62, go_sem, p0, p1]) rfl ?_
              unfold RetRl; rw [hfin]; exact ⟨rfl, hbz⟩
        · obtain ⟨a, Ha0⟩ : ∃ a : Int, a = 0 := ⟨_, rfl⟩
          have Ha := Lib.hid (show argW 9 Y = a by unfold argW; rw [if_neg (by decide), if_neg (by decide), Ha0])
          have R9 := R7
          rw [← Ha0] at R9 c1
          clear Ha0
          have HtN := Lib.hid (Ht.out.below R9.out.acc)
          cases hok : okIns ((9 : Nat) : Int) a with
          | false =>
            have HIx := Lib.hid (fun wx => HI.out ((9 : Nat) : Int) a wx)
            have hfin := Hb.out 9 a rfl (by decide) Ha.out (by rw [hok]; exact fun h => Bool.noConfusion h.1)
            rw [hok] at HIx
            clear hok
            go_wp2_with fail
            refine (HIx.out _).mono ?_; rintro e w9 ⟨rfl, hb9⟩
            have R9 := Lib.hid (R9.out.next hb9)
            clear c0 c1 f0 f1
            obtain ⟨d0, d1, e0, e1⟩ := R9.out.rcells
            have HD := Lib.hid (R9.out.done 0 0)
            clear hb9
            go_wp2_with fail
            obtain ⟨p0, p1, hbz⟩ := HD.out
            refine bodyPost_ret (v := .tuple #[.agg #[.int .i64 0, .int .i64 0], .int .i64 2]) (by simp [results, Tryd.results62, go_sem, p0, p1]) rfl ?_
            unfold RetRl; rw [hfin]; exact ⟨rfl, hbz⟩
          | true =>
            have HIx := Lib.hid (fun wx => HI.out ((9 : Nat) : Int) a wx)
            have HLx := Lib.hid (fun wx hx => HL.out 9 a wx hok hx)
            rw [hok] at HIx
            by_cases hl : lineP 9 a = s
            · have hfin := Hg.out 9 a rfl (by decide) Ha.out ⟨hok, hl⟩
              rw [hl] at HLx
              clear hok hl
              go_wp2_with fail
              refine (HIx.out _).mono ?_; rintro e w9 ⟨rfl, hb9⟩
              have R9 := Lib.hid (R9.out.next hb9)
              have Ht9 := Lib.hid (HtN.out.below hb9)
              clear c0 c1 f0 f1
              obtain ⟨c90, c91, f90, f91⟩ := R9.out.cells
              clear hb9
              go_wp2_with fail
              refine (HLx.out _ Ht9.out).mono ?_; rintro e w10 ⟨rfl, hb10⟩
              have R10 := Lib.hid (R9.out.next hb10)
              clear c90 c91 f90 f91
              obtain ⟨d0, d1, e0, e1⟩ := R10.out.rcells
              obtain ⟨c100, c101, f100, f101⟩ := R10.out.cells
              have HD := Lib.hid (R10.out.done (9 : Int) a)
              clear hb10
              go_wp2_with fail
              obtain ⟨p0, p1, hbz⟩ := HD.out
              refine bodyPost_ret (v := .tuple #[.agg #[.int .i64 (9 : Int), .int .i64 a], .int .i64 0]) (by simp [results, Tryd.results62, go_sem, p0, p1]) rfl ?_
              unfold RetRl; rw [hfin]; exact ⟨rfl, hbz⟩
            · have hfin := Hb.out 9 a rfl (by decide) Ha.out (fun h => hl h.2)
              have hbn : ((lineP 9 a).toList != s.toList) = true := bne_iff_ne.2 fun e => hl (ba_inj e)
              have hbq : ((lineP 9 a).toList == s.toList) = false := beq_eq_false_iff_ne.2 fun e => hl (ba_inj e)
              generalize lineP 9 a = D at *
              clear hok hl
              go_wp2_with fail
              refine (HIx.out _).mono ?_; rintro e w9 ⟨rfl, hb9⟩
              have R9 := Lib.hid (R9.out.next hb9)
              have Ht9 := Lib.hid (HtN.out.below hb9)
              clear c0 c1 f0 f1
              obtain ⟨c90, c91, f90, f91⟩ := R9.out.cells
              clear hb9
              go_wp2_with fail
              refine (HLx.out _ Ht9.out).mono ?_; rintro e w10 ⟨rfl, hb10⟩
              have R10 := Lib.hid (R9.out.next hb10)
              clear c90 c91 f90 f91
              obtain ⟨d0, d1, e0, e1⟩ := R10.out.rcells
              have HD := Lib.hid (R10.out.done 0 0)
              clear hb10
              go_wp2_with fail
              obtain ⟨p0, p1, hbz⟩ := HD.out
              refine bodyPost_ret (v := .tuple #[.agg #[.int .i64 0, .int .i64 0], .int .i64 2]) (by simp [results, Tryd.results62, go_sem, p0, p1]) rfl ?_
              unfold RetRl; rw [hfin]; exact ⟨rfl, hbz⟩
        · obtain ⟨a, Ha0⟩ : ∃ a : Int, a = 0 := ⟨_, rfl⟩
          have Ha := Lib.hid (show argW 10 Y = a by unfold argW; rw [if_neg (by decide), if_neg (by decide), Ha0])
          have R9 := R7
          rw [← Ha0] at R9 c1
          clear Ha0
          have HtN := Lib.hid (Ht.out.below R9.out.acc)
          cases hok : okIns ((10 : Nat) : Int) a with
          | false =>
            have HIx := Lib.hid (fun wx => HI.out ((10 : Nat) : Int) a wx)
            have hfin := Hb.out 10 a rfl (by decide) Ha.out (by rw [hok]; exact fun h => Bool.noConfusion h.1)
            rw [hok] at HIx
            clear hok
            go_wp2_with fail
            refine (HIx.out _).mono ?_; rintro e w9 ⟨rfl, hb9⟩
            have R9 := Lib.hid (R9.out.next hb9)
            clear c0 c1 f0 f1
            obtain ⟨d0, d1, e0, e1⟩ := R9.out.rcells
            have HD := Lib.hid (R9.out.done 0 0)
            clear hb9
            go_wp2_with fail
            obtain ⟨p0, p1, hbz⟩ := HD.out
            refine bodyPost_ret (v := .tuple #[.agg #[.int .i64 0, .int .i64 0], .int .i64 2]) (by simp [results, Tryd.results62, go_sem, p0, p1]) rfl ?_
            unfold RetRl; rw [hfin]; exact ⟨rfl, hbz⟩
          | true =>
            have HIx := Lib.hid (fun wx => HI.out ((10 : Nat) : Int) a wx)
            have HLx := Lib.hid (fun wx hx => HL.out 10 a wx hok hx)
            rw [hok] at HIx
            by_cases hl : lineP 10 a = s
            · have hfin := Hg.out 10 a rfl (by decide) Ha.out ⟨hok, hl⟩
              rw [hl] at HLx
              clear hok hl
              go_wp2_with fail
              refine (HIx.out _).mono ?_; rintro e w9 ⟨rfl, hb9⟩
              have R9 := Lib.hid (R9.out.next hb9)
              have Ht9 := Lib.hid (HtN.out.below hb9)
              clear c0 c1 f0 f1
              obtain ⟨c90, c91, f90, f91⟩ := R9.out.cells
              clear hb9
              go_wp2_with fail
              refine (HLx.out _ Ht9.out).mono ?_; rintro e w10 ⟨rfl, hb10⟩
              have R10 := Lib.hid (R9.out.next hb10)
              clear c90 c91 f90 f91
              obtain ⟨d0, d1, e0, e1⟩ := R10.out.rcells
              obtain ⟨c100, c101, f100, f101⟩ := R10.out.cells
              have HD := Lib.hid (R10.out.done (10 : Int) a)
              clear hb10
              go_wp2_with fail
              obtain ⟨p0, p1, hbz⟩ := HD.out
              refine bodyPost_ret (v := .tuple #[.agg #[.int .i64 (10 : Int), .int .i64 a], .int .i64 0]) (by simp [results, Tryd.results62, go_sem, p0, p1]) rfl ?_
              unfold RetRl; rw [hfin]; exact ⟨rfl, hbz⟩
            · have hfin := Hb.out 10 a rfl (by decide) Ha.out (fun h => hl h.2)
              have hbn : ((lineP 10 a).toList != s.toList) = true := bne_iff_ne.2 fun e => hl (ba_inj e)
              have hbq : ((lineP 10 a).toList == s.toList) = false := beq_eq_false_iff_ne.2 fun e => hl (ba_inj e)
              generalize lineP 10 a = D at *
              clear hok hl
              go_wp2_with fail
              refine (HIx.out _).mono ?_; rintro e w9 ⟨rfl, hb9⟩
              have R9 := Lib.hid (R9.out.next hb9)
              have Ht9 := Lib.hid (HtN.out.below hb9)
              clear c0 c1 f0 f1
              obtain ⟨c90, c91, f90, f91⟩ := R9.out.cells
              clear hb9
              go_wp2_with fail
              refine (HLx.out _ Ht9.out).mono ?_; rintro e w10 ⟨rfl, hb10⟩
              have R10 := Lib.hid (R9.out.next hb10)
              clear c90 c91 f90 f91
              obtain ⟨d0, d1, e0, e1⟩ := R10.out.rcells
              have HD := Lib.hid (R10.out.done 0 0)
              clear hb10
              go_wp2_with fail
              obtain ⟨p0, p1, hbz⟩ := HD.out
              refine bodyPost_ret (v := .tuple #[.agg #[.int .i64 0, .int .i64 0], .int .i64 2]) (by simp [results, Tryd.results62, go_sem, p0, p1]) rfl ?_
              unfold RetRl; rw [hfin]; exact ⟨rfl, hbz⟩
end Go.Proofs.YtjkjlpjeamifbaaDoor
