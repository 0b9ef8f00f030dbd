/- Registers, part 7: valid registers on both sides. -/
import Derived.Test.YtfaoilonkonmkaaReg6
namespace Go.Proofs.Ytfaoilonkonmkaa
open Go.RowKit Go.Joins

theorem Calls_same {P : Program} {f : FuncId} {args : Array Value} {w : World} {v : Value} (h : Calls P f args w fun e w' => e = .returned v ∧ w = w') : Calls P f args w fun e w' => e = .returned v ∧ w' = w :=
  h.mono fun _ _ ⟨a, b⟩ => ⟨a, b.symm⟩

theorem okReg_b {b : Int} {zs : List Int} (h : inB b 2 16 = false) : okReg b zs = false := by unfold okReg; rw [h]; rfl
theorem okReg_d {b : Int} {zs : List Int} (h : okD b zs = false) : okReg b zs = false := by unfold okReg; rw [h]; simp
theorem okReg_w {b : Int} {zs : List Int} (h : inB (zs.length : Int) 1 16 = false) : okReg b zs = false := okReg_d (by unfold okD; rw [h]; simp)
theorem okReg_g {b : Int} {zs : List Int} (h : digB b zs = false) : okReg b zs = false := okReg_d (by unfold okD; rw [h]; simp)
theorem okReg_y {b : Int} {zs : List Int} (h : inB b 2 16 = true) (h2 : inB (zs.length : Int) 1 16 = true) (h3 : digB b zs = true) : okReg b zs = decide (capV b zs ≤ 1000000000000) := by unfold okReg okD; rw [h, h2, h3]; simp

set_option maxRecDepth 100000 in
set_option maxHeartbeats 800000 in
theorem ValidRegister_any (B : Nat) (b : Int) (v : Value) (zs : List Int) (w : World) (h : Rd w B v zs.length 1 (ints zs)) (hB : B ≤ w.heap.size) (hl : zs.length ≤ 1048576) :
    Calls Try.prog 79 #[.agg #[.int .i64 b, v]] w fun e w' => e = .returned (.bool (okReg b zs)) ∧ Below w.heap.size w w' := by
  have h' := h
  obtain ⟨_, A, c, rfl, _⟩ := h'
  have hba := (Below.refl w.heap.size w).alloc (Nat.le_refl _) (.cells #[.int .i64 b, .slice A zs.length c] 28)
  have Hba := Lib.hid hba
  have H := Lib.hid (h.below (hba.mono hB))
  have hnew := heap_alloc_new w (.cells #[.int .i64 b, .slice A zs.length c] 28)
  have hz0 := Lib.hid (show B ≤ (w.alloc (.cells #[.int .i64 b, .slice A zs.length c] 28)).heap.size by simp; omega)
  obtain ⟨r0, r1, _, _⟩ := blk2 hnew
  clear hba h hnew
  have HI := Lib.hid (fun wx => isBase_any b wx)
  cases hb : inB b 2 16 with
  | false =>
    have hfin := Lib.hid (okReg_b (zs := zs) hb)
    rw [hb] at HI
    clear hb
    go_enter Try.func79, Try.ntmps79
    go_wp2_with fail
    refine (HI.out _).mono ?_; rintro e w1 ⟨rfl, rfl⟩
    go_wp2_with fail
    go_ret
    rw [hfin.out]; exact ⟨rfl, Hba.out⟩
  | true =>
    have HW := Lib.hid (fun wx => isWidth_any (zs.length : Int) wx)
    cases hw : inB (zs.length : Int) 1 16 with
    | false =>
      have hfin := Lib.hid (okReg_w (b := b) hw)
      rw [hb] at HI
      rw [hw] at HW
      clear hb hw
      go_enter Try.func79, Try.ntmps79
      go_wp2_with fail
      refine (HI.out _).mono ?_; rintro e w1 ⟨rfl, rfl⟩
      go_wp2_with fail
      refine (HW.out _).mono ?_; rintro e w1 ⟨rfl, rfl⟩
      go_wp2_with fail
      go_ret
      rw [hfin.out]; exact ⟨rfl, Hba.out⟩
    | true =>
      obtain ⟨hb1, hb2⟩ : 2 ≤ b ∧ b ≤ 16 := by simpa [inB] using hb
      have Hyes := Lib.hid (fun h => okReg_y hb hw h)
      have Hno := Lib.hid (fun h => okReg_g (b := b) (zs := zs) h)
      rw [hb] at HI
      rw [hw] at HW
      clear hb hw
      go_enter Try.func79, Try.ntmps79
      go_wp2_with fail
      refine (HI.out _).mono ?_; rintro e w1 ⟨rfl, rfl⟩
      go_wp2_with fail
      refine (HW.out _).mono ?_; rintro e w1 ⟨rfl, rfl⟩
      go_wp2_with fail
      generalize w.alloc (.cells #[.int .i64 b, .slice A zs.length c] 28) = w0 at *
      go_loop [19] (fun i => ∃ k : Nat, k ≤ zs.length ∧ digB b (zs.take k) = true ∧ i = .int .i64 k) (fun i => zs.length - (intOf i).toNat)
      case atStart => exact ⟨0, Nat.zero_le _, rfl, rfl⟩
      case round =>
        obtain ⟨k, hk, hall, rfl⟩ := hrel
        have Hall := Lib.hid hall; clear hall
        by_cases hlt : k < zs.length
        · obtain ⟨p1, o1, hA, hx⟩ := ints_rd H.out k hlt
          subst hA
          have HZ := Lib.hid (fun wx => between_any zs[k] 0 (b - 1) wx)
          have Hbad := Lib.hid (fun h => digB_bad b zs k hlt h)
          have Hst := Lib.hid (fun h => digB_step b zs k hlt Hall.out h)
          generalize zs[k] = z at *
          have hlt' : (k : Int) < (zs.length : Int) := by omega
          cases hok : inB z 0 (b - 1) with
          | false =>
            have hfin := Lib.hid (Hno.out (Hbad.out hok))
            rw [hok] at HZ
            clear Hbad Hst hok Hyes Hno
            go_wp2_with fail
            refine (HZ.out _).mono ?_; rintro e w1 ⟨rfl, rfl⟩
            go_wp2_with fail
            go_ret
            rw [hfin.out]; exact ⟨rfl, Hba.out⟩
          | true =>
            have hst := Lib.hid (Hst.out hok)
            rw [hok] at HZ
            clear Hbad Hst hok Hyes Hno
            go_wp2_with fail
            refine (HZ.out _).mono ?_; rintro e w1 ⟨rfl, rfl⟩
            go_wp2_with fail
            go_round
            case rel => exact ⟨k + 1, by omega, hst.out, by go_num⟩
            case measure => simp [intOf]; omega
        · have hall := Hall.out
          rw [List.take_of_length_le (by omega)] at hall
          have hfin := Lib.hid (Hyes.out hall)
          have HV := Lib.hid (fun wx hx hz => value_any B b (.slice A zs.length c) zs wx hx hz hb1 hb2 hall hl)
          have hlt' : (zs.length : Int) ≤ (k : Int) := by omega
          clear hall Hyes Hno
          go_wp2_with fail
          refine (HV.out _ H.out hz0.out).mono ?_; rintro e w1 ⟨rfl, hb4⟩
          go_wp2_with fail
          go_ret
          rw [hfin.out]; exact ⟨rfl, Hba.out.trans (hb4.mono Hba.out.size)⟩

set_option maxRecDepth 100000 in
set_option maxHeartbeats 800000 in
theorem l02Ok_any (B g : Nat) (b : Int) (v : Value) (zs : List Int) (w : World) (h0 : w.cell? ⟨g, 0, none⟩ = some (.int .i64 b)) (h1 : w.cell? ⟨g, 1, none⟩ = some v) (h : Rd w B v zs.length 1 (ints zs)) (hl : zs.length ≤ 1048576) :
    Calls Try.prog 76 #[.pointer (some ⟨g, 0, none⟩)] w fun e w' => e = .returned (.bool (okReg b zs)) ∧ ∃ n, w' = w.drewN n := by
  have HB := Lib.hid (fun wx => Calls_same (l02Base_any b wx))
  have h' := h
  obtain ⟨_, A, c, rfl, _⟩ := h'
  cases hb : inB b 2 16 with
  | false =>
    have hfin := Lib.hid (okReg_b (zs := zs) hb)
    rw [hb] at HB
    clear hb h
    go_enter Try.func76, Try.ntmps76
    go_wp2_with fail
    go_quiet ((go_at_call 137; exact Calls.quiet_of_same (HB.out _)))
    go_wp2_with fail
    go_ret
    rw [hfin.out]; exact ⟨rfl, _, rfl⟩
  | true =>
    obtain ⟨hb1, hb2⟩ : 2 ≤ b ∧ b ≤ 16 := by simpa [inB] using hb
    have HD := Lib.hid (fun wx hx => Calls_same (l02Digits_any B b (.slice A zs.length c) zs wx hx hb1 hb2 hl))
    cases hd : okD b zs with
    | false =>
      have hfin := Lib.hid (okReg_d hd)
      rw [hb] at HB
      rw [hd] at HD
      have H := Lib.hid h
      clear hb hd h
      go_enter Try.func76, Try.ntmps76
      go_wp2_with fail
      go_quiet (first | (go_at_call 137; exact Calls.quiet_of_same (HB.out _)) | (go_at_call 138; exact Calls.quiet_of_same (HD.out _ (H.out.drewN _))))
      go_wp2_with fail
      go_ret
      rw [hfin.out]; exact ⟨rfl, _, rfl⟩
    | true =>
      have hd2 : digB b zs = true := by unfold okD at hd; simp at hd; exact hd.1
      have HV := Lib.hid (fun wx hx => Calls_same (l02Value_any B b (.slice A zs.length c) zs wx hx hb1 hb2 hd2 hl))
      have hfin := Lib.hid (show okReg b zs = decide (capV b zs ≤ 1000000000000) by unfold okReg; rw [hb, hd]; simp)
      rw [hb] at HB
      rw [hd] at HD
      have H := Lib.hid h
      clear hb hd h hd2
      go_enter Try.func76, Try.ntmps76
      go_wp2_with fail
      go_quiet (first | (go_at_call 137; exact Calls.quiet_of_same (HB.out _)) | (go_at_call 138; exact Calls.quiet_of_same (HD.out _ (H.out.drewN _))) | (go_at_call 72; exact Calls.quiet_of_same (HV.out _ (H.out.drewN _))))
      go_wp2_with fail
      go_ret
      rw [hfin.out]; exact ⟨rfl, _, rfl⟩
end Go.Proofs.Ytfaoilonkonmkaa
