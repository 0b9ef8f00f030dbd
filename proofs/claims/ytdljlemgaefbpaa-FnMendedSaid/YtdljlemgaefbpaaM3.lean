/- Mended rows, part 3: valid pages. -/
import Derived.Test.YtdljlemgaefbpaaM2
import Derived.Test.YtdljlemgaefbpaaNm3
namespace Go.Proofs.Ytdljlemgaefbpaa
open Go.RowKit Go.Joins

theorem blk4 {w : World} {g : Nat} {a b c d : Value} {t : TypeId} (h : w.heap[g]? = some (.cells #[a, b, c, d] t (0, 0))) :
    w.cell? ⟨g, 0, none⟩ = some a ∧ w.cell? ⟨g, 1, none⟩ = some b ∧ w.cell? ⟨g, 2, none⟩ = some c ∧ w.cell? ⟨g, 3, none⟩ = some d ∧ ∀ i, w.frozen? ⟨g, i, none⟩ = false :=
  ⟨by rw [cell_of_row w g 0 _ _ _ h]; rfl, by rw [cell_of_row w g 1 _ _ _ h]; rfl, by rw [cell_of_row w g 2 _ _ _ h]; rfl, by rw [cell_of_row w g 3 _ _ _ h]; rfl, fun i => frozen_of_row w g i _ _ h⟩
/-- the last argument of a page -/
def lastA (a b : Int) (n : Nat) : Int := a + ((n : Int) - 1) * b
theorem prod_bd {n : Nat} {b : Int} (hn : 1 ≤ n ∧ n ≤ 60) (hb : 1 ≤ b ∧ b ≤ 1000) : 0 ≤ ((n : Int) - 1) * b ∧ ((n : Int) - 1) * b ≤ 59000 := by
  have h1 := Int.mul_nonneg (show 0 ≤ (n : Int) - 1 by omega) (show 0 ≤ b by omega)
  have h2 := abs_mul (a := (n : Int) - 1) (b := b) (A := 59) (B := 1000) (by omega) (by omega)
  omega
def hdOk (s : ByteArray) (a b : Int) (n : Nat) : Bool := isNm s.data.toList && inB b 1 1000 && inB n 1 60 && inB a (-1000000) 1000000 && decide (lastA a b n ≤ 1000000)
theorem pgOk_hd {s : ByteArray} {a b : Int} {n : Nat} {f : Nat → Int} : pgOk s.data.toList a b n f = (allN n (fun i => isV (f i)) && hdOk s a b n) := by
  unfold pgOk hdOk
  cases h1 : isNm s.data.toList <;> cases h2 : inB a (-1000000) 1000000 <;> cases h3 : inB b 1 1000 <;> cases h4 : inB (n : Int) 1 60 <;> cases h5 : allN n (fun i => isV (f i)) <;> try rfl
  all_goals
    have e : inB (a + ((n : Int) - 1) * b) (-1000000) 1000000 = decide (lastA a b n ≤ 1000000) := by
      have h2 := inB_iff.1 h2
      have h3 := inB_iff.1 h3
      have h4 := inB_iff.1 h4
      have hp := prod_bd (n := n) (b := b) (by omega) h3
      unfold lastA
      generalize ((n : Int) - 1) * b = P at *
      unfold inB
      rw [show decide (-1000000 ≤ a + P) = true by simp; omega]
      rfl
    rw [e]
    cases decide (lastA a b n ≤ 1000000) <;> rfl

theorem argument_c (s : ByteArray) (a b r : Int) (A : Option Addr) (n c : Nat) (w : World) (ha : -1000000 ≤ a ∧ a ≤ 1000000) (hP : 0 ≤ r * b ∧ r * b ≤ 59000) :
    Calls Try.prog 187 #[.agg #[.string s, .int .i64 a, .int .i64 b, .slice A n c], .int .i64 r] w fun e w' => e = .returned (.int .i64 (a + r * b)) ∧ Below w.heap.size w w' := by
  have hb1 := (Below.refl w.heap.size w).alloc (Nat.le_refl _) (.cells #[.string s, .int .i64 a, .int .i64 b, .slice A n c] 49)
  have Hb1 := Lib.hid hb1
  obtain ⟨f0, f1, f2, f3, _⟩ := blk4 (heap_alloc_new w (.cells #[.string s, .int .i64 a, .int .i64 b, .slice A n c] 49))
  obtain ⟨ha1, ha2⟩ := ha
  obtain ⟨P, hPe⟩ : ∃ P, r * b = P := ⟨_, rfl⟩
  rw [hPe] at hP
  obtain ⟨hP1, hP2⟩ := hP
  have hw : IntKind.i64.wrap (r * b) = P := by rw [hPe]; exact IntWalk.i64_in _ (by omega)
  have HP := Lib.hid hPe
  clear hb1 hPe
  go_enter Try.func187, Try.ntmps187
  go_wp2_with fail
  generalize w.alloc (.cells #[.string s, .int .i64 a, .int .i64 b, .slice A n c] 49) = w1 at *
  go_wp2_with fail
  go_ret
  exact ⟨ret_int (by rw [HP.out]), Hb1.out⟩
set_option maxRecDepth 100000 in
set_option maxHeartbeats 1600000 in
theorem validHead_c (s : ByteArray) (a b : Int) (A : Option Addr) (n c : Nat) (w : World) (hs : s.size ≤ 1048576) :
    Calls Try.prog 183 #[.agg #[.string s, .int .i64 a, .int .i64 b, .slice A n c], .int .i64 (n : Int)] w fun e w' => e = .returned (.bool (hdOk s a b n)) ∧ Below w.heap.size w w' := by
  have hb1 := (Below.refl w.heap.size w).alloc (Nat.le_refl _) (.cells #[.string s, .int .i64 a, .int .i64 b, .slice A n c] 49)
  have Hb1 := Lib.hid hb1
  obtain ⟨f0, f1, f2, f3, _⟩ := blk4 (heap_alloc_new w (.cells #[.string s, .int .i64 a, .int .i64 b, .slice A n c] 49))
  have HN := Lib.hid (fun wx => IsNameI_any s wx hs)
  have HB := Lib.hid (fun wx => between_any b 1 1000 wx)
  have HM := Lib.hid (fun wx => between_any (n : Int) 1 60 wx)
  have HA := Lib.hid (fun wx => between_any a (-1000000) 1000000 wx)
  have HG := Lib.hid (fun wx ha hP => argument_c s a b ((n : Int) - 1) A n c wx ha hP)
  clear hb1
  cases h1 : isNm s.data.toList with
  | false =>
    have E := Lib.hid (show hdOk s a b n = false by unfold hdOk; rw [h1]; rfl)
    rw [h1] at HN
    clear h1 HG
    go_enter Try.func183, Try.ntmps183
    go_wp2_with fail
    generalize w.alloc (.cells #[.string s, .int .i64 a, .int .i64 b, .slice A n c] 49) = w1 at *
    go_wp2_with fail
    refine (HN.out _).mono ?_; rintro e w1 ⟨rfl, rfl⟩
    go_wp2_with fail
    go_ret
    exact ⟨ret_bool E.out.symm, Hb1.out⟩
  | true =>
    cases h2 : inB b 1 1000 with
    | false =>
      have E := Lib.hid (show hdOk s a b n = false by unfold hdOk; rw [h1, h2]; rfl)
      rw [h1] at HN
      rw [h2] at HB
      clear h1 h2 HG
      go_enter Try.func183, Try.ntmps183
      go_wp2_with fail
      generalize w.alloc (.cells #[.string s, .int .i64 a, .int .i64 b, .slice A n c] 49) = w1 at *
      go_wp2_with fail
      refine (HN.out _).mono ?_; rintro e w1 ⟨rfl, rfl⟩
      go_wp2_with fail
      refine (HB.out _).mono ?_; rintro e w1 ⟨rfl, rfl⟩
      go_wp2_with fail
      go_ret
      exact ⟨ret_bool E.out.symm, Hb1.out⟩
    | true =>
      cases h3 : inB (n : Int) 1 60 with
      | false =>
        have E := Lib.hid (show hdOk s a b n = false by unfold hdOk; rw [h1, h2, h3]; rfl)
        rw [h1] at HN
        rw [h2] at HB
        rw [h3] at HM
        clear h1 h2 h3 HG
        go_enter Try.func183, Try.ntmps183
        go_wp2_with fail
        generalize w.alloc (.cells #[.string s, .int .i64 a, .int .i64 b, .slice A n c] 49) = w1 at *
        go_wp2_with fail
        refine (HN.out _).mono ?_; rintro e w1 ⟨rfl, rfl⟩
        go_wp2_with fail
        refine (HB.out _).mono ?_; rintro e w1 ⟨rfl, rfl⟩
        go_wp2_with fail
        refine (HM.out _).mono ?_; rintro e w1 ⟨rfl, rfl⟩
        go_wp2_with fail
        go_ret
        exact ⟨ret_bool E.out.symm, Hb1.out⟩
      | true =>
        cases h4 : inB a (-1000000) 1000000 with
        | false =>
          have E := Lib.hid (show hdOk s a b n = false by unfold hdOk; rw [h1, h2, h3, h4]; rfl)
          rw [h1] at HN
          rw [h2] at HB
          rw [h3] at HM
          rw [h4] at HA
          clear h1 h2 h3 h4 HG
          go_enter Try.func183, Try.ntmps183
          go_wp2_with fail
          generalize w.alloc (.cells #[.string s, .int .i64 a, .int .i64 b, .slice A n c] 49) = w1 at *
          go_wp2_with fail
          refine (HN.out _).mono ?_; rintro e w1 ⟨rfl, rfl⟩
          go_wp2_with fail
          refine (HB.out _).mono ?_; rintro e w1 ⟨rfl, rfl⟩
          go_wp2_with fail
          refine (HM.out _).mono ?_; rintro e w1 ⟨rfl, rfl⟩
          go_wp2_with fail
          refine (HA.out _).mono ?_; rintro e w1 ⟨rfl, rfl⟩
          go_wp2_with fail
          go_ret
          exact ⟨ret_bool E.out.symm, Hb1.out⟩
        | true =>
          have E := Lib.hid (show hdOk s a b n = decide (lastA a b n ≤ 1000000) by unfold hdOk; rw [h1, h2, h3, h4]; rfl)
          have hb := inB_iff.1 h2
          have hn := inB_iff.1 h3
          have ha := inB_iff.1 h4
          have hp := prod_bd (n := n) (b := b) (by omega) hb
          have HG := Lib.hid (fun wx => HG.out wx ha hp)
          unfold lastA at E
          generalize ((n : Int) - 1) * b = P at *
          rw [h1] at HN
          rw [h2] at HB
          rw [h3] at HM
          rw [h4] at HA
          clear h1 h2 h3 h4
          go_enter Try.func183, Try.ntmps183
          go_wp2_with fail
          generalize w.alloc (.cells #[.string s, .int .i64 a, .int .i64 b, .slice A n c] 49) = w1 at *
          go_wp2_with fail
          refine (HN.out _).mono ?_; rintro e w1 ⟨rfl, rfl⟩
          go_wp2_with fail
          refine (HB.out _).mono ?_; rintro e w1 ⟨rfl, rfl⟩
          go_wp2_with fail
          refine (HM.out _).mono ?_; rintro e w1 ⟨rfl, rfl⟩
          go_wp2_with fail
          refine (HA.out _).mono ?_; rintro e w1 ⟨rfl, rfl⟩
          go_wp2_with fail
          refine (HG.out _).mono ?_; rintro e w2 ⟨rfl, hb2⟩
          have Hb2 := Lib.hid (Hb1.out.trans (hb2.mono Hb1.out.size))
          clear hb2
          go_wp2_with fail
          go_ret
          exact ⟨ret_bool E.out.symm, Hb2.out⟩
set_option maxRecDepth 100000 in
set_option maxHeartbeats 1600000 in
theorem ValidPageI_c (B : Nat) (s : ByteArray) (a b : Int) (A : Option Addr) (n c : Nat) (f : Nat → Int) (w : World) (hs : s.size ≤ 1048576) (h : Rd w B (.slice A n c) n 1 (tab n f)) (hB : B ≤ w.heap.size) (hn : n ≤ 1000) :
    Calls Try.prog 169 #[.agg #[.string s, .int .i64 a, .int .i64 b, .slice A n c]] w fun e w' => e = .returned (.bool (pgOk s.data.toList a b n f)) ∧ Below w.heap.size w w' := by
  have hb1 := (Below.refl w.heap.size w).alloc (Nat.le_refl _) (.cells #[.string s, .int .i64 a, .int .i64 b, .slice A n c] 49)
  have Hb1 := Lib.hid hb1
  obtain ⟨f0, f1, f2, f3, _⟩ := blk4 (heap_alloc_new w (.cells #[.string s, .int .i64 a, .int .i64 b, .slice A n c] 49))
  have H := Lib.hid (h.below (hb1.mono hB))
  have HV := Lib.hid (fun wx => validHead_c s a b A n c wx hs)
  have Hpg := Lib.hid (pgOk_hd (s := s) (a := a) (b := b) (n := n) (f := f))
  clear hb1 h
  go_enter Try.func169, Try.ntmps169
  go_wp2_with fail
  generalize w.alloc (.cells #[.string s, .int .i64 a, .int .i64 b, .slice A n c] 49) = w1 at *
  go_wp2_with fail
  go_loop [8] (fun i => ∃ k : Nat, k ≤ n ∧ i = .int .i64 (k : Int) ∧ allN k (fun i => isV (f i)) = true) (fun i => n - (intOf i).toNat)
  case atStart => exact ⟨0, Nat.zero_le _, rfl, rfl⟩
  case round =>
    obtain ⟨k, hk, rfl, hall⟩ := hrel
    have Hall := Lib.hid hall
    clear hall
    by_cases hlt : k < n
    · obtain ⟨b1, o1, hA, _, hcc⟩ := rdF_all H.out (show 0 < n by omega)
      subst hA
      have q0 := hcc k hlt
      have hlt' : (k : Int) < (n : Int) := by omega
      have HB := Lib.hid (show ∀ wx, Calls Try.prog 109 #[.int .i64 (f k)] wx fun e w' => e = .returned (.bool (isV (f k))) ∧ wx = w' from fun wx => isValue_c (f k) wx)
      clear hcc
      cases hb : isV (f k) with
      | false =>
        have Hr := Lib.hid (show pgOk s.data.toList a b n f = false by rw [Hpg.out, allN_bad k hlt hb]; rfl)
        rw [hb] at HB
        clear hb
        generalize f k = x at *
        go_wp2_with fail
        refine (HB.out _).mono ?_; rintro e w1 ⟨rfl, rfl⟩
        go_wp2_with fail
        go_ret
        exact ⟨ret_bool Hr.out.symm, Hb1.out⟩
      | true =>
        have Hst := Lib.hid (allN_step (f := fun i => isV (f i)) Hall.out hb)
        rw [hb] at HB
        clear hb
        generalize f k = x at *
        go_wp2_with fail
        refine (HB.out _).mono ?_; rintro e w1 ⟨rfl, rfl⟩
        go_wp2_with fail
        go_round
        case rel => exact ⟨k + 1, by omega, by go_num, Hst.out⟩
        case measure => first | (simp [intOf]; done) | (simp [intOf]; omega)
    · obtain rfl : k = n := by omega
      have Hr := Lib.hid (show pgOk s.data.toList a b k f = hdOk s a b k by rw [Hpg.out, Hall.out]; rfl)
      go_wp2_with fail
      refine (HV.out _).mono ?_; rintro e w2 ⟨rfl, hb2⟩
      have Hb2 := Lib.hid (Hb1.out.trans (hb2.mono Hb1.out.size))
      clear hb2
      go_wp2_with fail
      go_ret
      exact ⟨ret_bool Hr.out.symm, Hb2.out⟩
set_option maxRecDepth 100000 in
set_option maxHeartbeats 1600000 in
theorem guessCode_c (B : Nat) (s : ByteArray) (a b : Int) (A : Option Addr) (n c : Nat) (f : Nat → Int) (o : Int) (w : World) (hs : s.size ≤ 1048576) (h : Rd w B (.slice A n c) n 1 (tab n f)) (hB : B ≤ w.heap.size) (hn : n ≤ 1000) :
    Calls Try.prog 127 #[.agg #[.string s, .int .i64 a, .int .i64 b, .slice A n c], .int .i64 o] w fun e w' => e = .returned (.int .i64 (gC s.data.toList a b n f o)) ∧ Below w.heap.size w w' := by
  have hb1 := (Below.refl w.heap.size w).alloc (Nat.le_refl _) (.cells #[.string s, .int .i64 a, .int .i64 b, .slice A n c] 49)
  have Hb1 := Lib.hid hb1
  obtain ⟨f0, f1, f2, f3, _⟩ := blk4 (heap_alloc_new w (.cells #[.string s, .int .i64 a, .int .i64 b, .slice A n c] 49))
  have hlt : w.heap.size < (w.alloc (.cells #[.string s, .int .i64 a, .int .i64 b, .slice A n c] 49)).heap.size := by simp
  have HV := Lib.hid (ValidPageI_c B s a b A n c f _ hs (h.below (hb1.mono hB)) (Nat.le_trans hB hb1.size) hn)
  have HB := Lib.hid (fun wx => between_any o 1 8 wx)
  clear hb1 h
  cases h1 : pgOk s.data.toList a b n f with
  | false =>
    have E := Lib.hid (show gC s.data.toList a b n f o = 1 by unfold gC; rw [h1]; rfl)
    rw [h1] at HV
    clear h1
    go_enter Try.func127, Try.ntmps127
    go_wp2_with fail
    generalize w.alloc (.cells #[.string s, .int .i64 a, .int .i64 b, .slice A n c] 49) = w1 at *
    go_wp2_with fail
    refine (HV.out).mono ?_; rintro e w2 ⟨rfl, hb2⟩
    have Hb2 := Lib.hid (Hb1.out.trans (hb2.mono Hb1.out.size))
    clear hb2
    go_wp2_with fail
    go_ret
    exact ⟨ret_int E.out.symm, Hb2.out⟩
  | true =>
    cases h2 : inB o 1 8 with
    | false =>
      have E := Lib.hid (show gC s.data.toList a b n f o = 2 by unfold gC; rw [h1, h2]; rfl)
      rw [h1] at HV
      rw [h2] at HB
      clear h1 h2
      go_enter Try.func127, Try.ntmps127
      go_wp2_with fail
      generalize w.alloc (.cells #[.string s, .int .i64 a, .int .i64 b, .slice A n c] 49) = w1 at *
      go_wp2_with fail
      refine (HV.out).mono ?_; rintro e w2 ⟨rfl, hb2⟩
      have Hb2 := Lib.hid (Hb1.out.trans (hb2.mono Hb1.out.size))
      clear hb2
      go_wp2_with fail
      refine (HB.out _).mono ?_; rintro e w1 ⟨rfl, rfl⟩
      go_wp2_with fail
      go_ret
      exact ⟨ret_int E.out.symm, Hb2.out⟩
    | true =>
      have E := Lib.hid (show gC s.data.toList a b n f o = if (n : Int) < 2 * o + 1 then 6 else 0 by unfold gC; rw [h1, h2]; rfl)
      obtain ⟨ho1, ho8⟩ := inB_iff.1 h2
      rw [h1] at HV
      rw [h2] at HB
      clear h1 h2
      by_cases h3 : (n : Int) < 2 * o + 1
      all_goals
        simp only [h3, if_true, if_false] at E
        go_enter Try.func127, Try.ntmps127
        go_wp2_with fail
        generalize w.alloc (.cells #[.string s, .int .i64 a, .int .i64 b, .slice A n c] 49) = w1 at *
        go_wp2_with fail
        refine (HV.out).mono ?_; rintro e w2 ⟨rfl, hb2⟩
        have Hb2 := Lib.hid (Hb1.out.trans (hb2.mono Hb1.out.size))
        have f3' := (hb2.cell (p := ⟨w.heap.size, 3, none⟩) hlt).trans f3
        clear hb2
        go_wp2_with fail
        refine (HB.out _).mono ?_; rintro e w1 ⟨rfl, rfl⟩
        go_wp2_with fail
        go_ret
        exact ⟨ret_int E.out.symm, Hb2.out⟩
end Go.Proofs.Ytdljlemgaefbpaa
