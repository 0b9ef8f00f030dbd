/- Mended rows, part 4: the reference's valid pages, and its code. -/
import Derived.Test.YtdljlemgaefbpaaM3
namespace Go.Proofs.Ytdljlemgaefbpaa
open Go.RowKit Go.Joins

theorem l18Arg_c (x : Int) (w : World) : Calls Try.prog 184 #[.int .i64 x] w fun e w' => e = .returned (.bool (inB x (-1000000) 1000000)) ∧ w = w' := by
  have HB := Lib.hid (fun wx => l00In_any x (-1000000) 1000000 wx)
  go_enter Try.func184, Try.ntmps184
  go_wp2_with fail
  refine (HB.out _).mono ?_; rintro e w1 ⟨rfl, rfl⟩
  go_wp2_with fail
  go_ret
  exact ⟨rfl, rfl⟩
theorem l00Own_c (B : Nat) (v : Value) (n : Nat) (f : Nat → Int) (w : World) (h : Rd w B v n 1 (tab n f)) (hB : B ≤ w.heap.size) (hn : n ≤ 1000) (h0 : 0 < n) :
    Calls Try.prog 131 #[v] w (RetF w n f) := by
  have H := Lib.hid h
  obtain ⟨A, c, rfl⟩ := rd_sl h
  obtain ⟨b, o, hA, hb, _⟩ := rdF_all h h0
  subst hA
  clear h
  have hb0 := Lib.hid ((Below.refl w.heap.size w).alloc (Nat.le_refl _) (.cells #[] 2))
  have ho0 := Lib.hid (World.ownsRow_made (base := w.heap.size) (e := 2) (size := 1) w #[] 0 (Nat.le_refl _) (by simp [maxLen]) rfl)
  obtain ⟨b', o', hA', hb', hcc⟩ := rdF_all (H.out.below (hb0.out.mono hB)) h0
  obtain ⟨rfl, rfl⟩ : b = b' ∧ o = o' := by simpa using hA'
  have Hcc := Lib.hid (show ∀ (i : Nat) (u : Value), (tab n f)[i]? = some u → (w.alloc (.cells #[] 2)).cell? ⟨b, o + i, none⟩ = some u from fun i u hu => by
    have hi : i < n := by have := (List.getElem?_eq_some_iff.1 hu).1; rwa [tab_len] at this
    rw [tab_at f hi] at hu
    rw [← hu]; exact hcc i hi)
  clear hcc hA'
  go_enter Try.func131, Try.ntmps131
  go_wp2_with (at_builtin; refine wpList_apr 24 2 _ 1 8 Try.underlying24 infoD rfl (by omega) _ _ rfl rfl w.heap.size _ 0 _ rfl ho0.out b o n _ (tab n f) rfl (by rw [tab_len]; omega) Hcc.out (tab_one n f) (by simp [maxLen]; omega) (by omega) hb0.out.size ?_; intro v7 w7 hown7 hg7; have Hb7 := Lib.hid (below_apd hb0.out ho0.out hg7 (Nat.le_refl _) hb0.out.size); simp only [Nat.zero_add, List.nil_append] at hown7; obtain ⟨A7, c7, rfl⟩ := own_sl hown7; have Hown7 := Lib.hid hown7; clear hown7 hg7)
  go_ret
  exact ⟨_, rfl, Hown7.out, Hb7.out⟩
set_option maxRecDepth 100000 in
set_option maxHeartbeats 3200000 in
theorem l18Ok_c (g : Nat) (B : Nat) (s : ByteArray) (a b : Int) (A : Option Addr) (n c : Nat) (f : Nat → Int) (w : World) (hs : s.size ≤ 1048576)
    (f0 : w.cell? ⟨g, 0, none⟩ = some (.string s)) (f1 : w.cell? ⟨g, 1, none⟩ = some (.int .i64 a)) (f2 : w.cell? ⟨g, 2, none⟩ = some (.int .i64 b)) (f3 : w.cell? ⟨g, 3, none⟩ = some (.slice A n c)) (h : Rd w B (.slice A n c) n 1 (tab n f)) (hn : n ≤ 1000) :
    Calls Try.prog 170 #[.pointer (some ⟨g, 0, none⟩)] w fun e w' => e = .returned (.bool (pgOk s.data.toList a b n f)) ∧ ∃ d, w' = w.drewN d := by
  have H := Lib.hid h
  have HN := Lib.hid (fun wx => flipQ (IsNameS_any s wx hs))
  have HA := Lib.hid (fun wx => flipQ (l18Arg_c a wx))
  have HB := Lib.hid (fun wx => flipQ (l00In_any b 1 1000 wx))
  have HM := Lib.hid (fun wx => flipQ (l00In_any (n : Int) 1 60 wx))
  have HL := Lib.hid (fun wx => flipQ (l18Arg_c (lastA a b n) wx))
  have hl := rd_sl h
  clear h hl
  cases h1 : isNm s.data.toList with
  | false =>
    have E := Lib.hid (show pgOk s.data.toList a b n f = false by unfold pgOk; rw [h1]; rfl)
    rw [h1] at HN
    clear h1 HL
    go_enter Try.func170, Try.ntmps170
    go_wp2_with fail
    go_quiet ((go_at_call 82; with_reducible exact Calls.quiet_of_same (HN.out _)))
    go_wp2_with fail
    go_ret
    exact ⟨ret_bool E.out.symm, nq, rfl⟩
  | true =>
    cases h2 : inB a (-1000000) 1000000 with
    | false =>
      have E := Lib.hid (show pgOk s.data.toList a b n f = false by unfold pgOk; rw [h1, h2]; rfl)
      rw [h1] at HN
      rw [h2] at HA
      clear h1 h2 HL
      go_enter Try.func170, Try.ntmps170
      go_wp2_with fail
      go_quiet ((first | (go_at_call 82; with_reducible exact Calls.quiet_of_same (HN.out _)) | (go_at_call 184; with_reducible exact Calls.quiet_of_same (HA.out _))))
      go_wp2_with fail
      go_ret
      exact ⟨ret_bool E.out.symm, nq, rfl⟩
    | true =>
      cases h3 : inB b 1 1000 with
      | false =>
        have E := Lib.hid (show pgOk s.data.toList a b n f = false by unfold pgOk; rw [h1, h2, h3]; rfl)
        rw [h1] at HN
        rw [h2] at HA
        rw [h3] at HB
        clear h1 h2 h3 HL
        go_enter Try.func170, Try.ntmps170
        go_wp2_with fail
        go_quiet ((first | (go_at_call 82; with_reducible exact Calls.quiet_of_same (HN.out _)) | (go_at_call 184; with_reducible exact Calls.quiet_of_same (HA.out _)) | (go_at_call 99; with_reducible exact Calls.quiet_of_same (HB.out _))))
        go_wp2_with fail
        go_ret
        exact ⟨ret_bool E.out.symm, nq, rfl⟩
      | true =>
        cases h4 : inB (n : Int) 1 60 with
        | false =>
          have E := Lib.hid (show pgOk s.data.toList a b n f = false by unfold pgOk; rw [h1, h2, h3, h4]; rfl)
          rw [h1] at HN
          rw [h2] at HA
          rw [h3] at HB
          rw [h4] at HM
          clear h1 h2 h3 h4 HL
          go_enter Try.func170, Try.ntmps170
          go_wp2_with fail
          go_quiet ((first | (go_at_call 82; with_reducible exact Calls.quiet_of_same (HN.out _)) | (go_at_call 184; with_reducible exact Calls.quiet_of_same (HA.out _)) | (go_at_call 99; with_reducible exact Calls.quiet_of_same (HB.out _)) | (go_at_call 99; with_reducible exact Calls.quiet_of_same (HM.out _))))
          go_wp2_with fail
          go_ret
          exact ⟨ret_bool E.out.symm, nq, rfl⟩
        | true =>
          have hb := inB_iff.1 h3
          have hn60 := inB_iff.1 h4
          have ha := inB_iff.1 h2
          have hp := prod_bd (n := n) (b := b) (by omega) hb
          have E := Lib.hid (show pgOk s.data.toList a b n f = (inB (lastA a b n) (-1000000) 1000000 && allN n (fun i => isV (f i))) by unfold pgOk lastA; rw [h1, h2, h3, h4]; rfl)
          rw [h1] at HN
          rw [h2] at HA
          rw [h3] at HB
          rw [h4] at HM
          clear h1 h2 h3 h4
          have hn1 : (1 : Int) ≤ (n : Int) := hn60.1
          have hw1 : IntKind.i64.wrap ((n : Int) - 1) = (n : Int) - 1 := IntWalk.i64_in _ (by omega)
          have hw2 : IntKind.i64.wrap (((n : Int) - 1) * b) = ((n : Int) - 1) * b := IntWalk.i64_in _ (by omega)
          have hw3 : IntKind.i64.wrap (a + ((n : Int) - 1) * b) = lastA a b n := IntWalk.i64_in _ (by omega)
          cases h5 : inB (lastA a b n) (-1000000) 1000000 with
          | false =>
            rw [h5] at HL
            have E := Lib.hid (show pgOk s.data.toList a b n f = false by rw [E.out, h5]; rfl)
            clear h5
            go_enter Try.func170, Try.ntmps170
            go_wp2_with fail
            go_quiet ((first | (go_at_call 82; with_reducible exact Calls.quiet_of_same (HN.out _)) | (go_at_call 184; with_reducible exact Calls.quiet_of_same (HA.out _)) | (go_at_call 99; with_reducible exact Calls.quiet_of_same (HB.out _)) | (go_at_call 99; with_reducible exact Calls.quiet_of_same (HM.out _)) | (go_at_call 184; with_reducible exact Calls.quiet_of_same (HL.out _))))
            go_wp2_with fail
            go_ret
            exact ⟨ret_bool E.out.symm, nq, rfl⟩
          | true =>
            rw [h5] at HL
            have E := Lib.hid (show pgOk s.data.toList a b n f = allN n (fun i => isV (f i)) by rw [E.out, h5]; rfl)
            clear h5
            go_enter Try.func170, Try.ntmps170
            go_wp2_with fail
            go_quiet ((first | (go_at_call 82; with_reducible exact Calls.quiet_of_same (HN.out _)) | (go_at_call 184; with_reducible exact Calls.quiet_of_same (HA.out _)) | (go_at_call 99; with_reducible exact Calls.quiet_of_same (HB.out _)) | (go_at_call 99; with_reducible exact Calls.quiet_of_same (HM.out _)) | (go_at_call 184; with_reducible exact Calls.quiet_of_same (HL.out _))))
            clear hw1 hw2 hw3
            go_wp2_with fail
            obtain ⟨w1, hw1⟩ : ∃ x, x = w.drewN nq := ⟨_, rfl⟩
            rw [← hw1]
            have f3 : w1.cell? ⟨g, 3, none⟩ = some (.slice A n c) := by rw [hw1]; exact f3
            have H := Lib.hid (show Rd w1 B (.slice A n c) n 1 (tab n f) by rw [hw1]; exact H.out.drewN nq)
            have Hw1 := Lib.hid hw1
            clear hw1
            go_loop [4] (fun i => ∃ k : Nat, k ≤ n ∧ i = .int .i64 (k : Int) ∧ allN k (fun i => isV (f i)) = true) (fun i => n - (intOf i).toNat)
            case atStart => exact ⟨0, Nat.zero_le _, rfl, rfl⟩
            case round =>
              obtain ⟨k, hk, rfl, hall⟩ := hrel
              have Hall := Lib.hid hall
              clear hall
              by_cases hlt : k < n
              · obtain ⟨b1, o1, hA, _, hcc⟩ := rdF_all H.out (show 0 < n by omega)
                subst hA
                have q0 := hcc k hlt
                have hlt' : (k : Int) < (n : Int) := by omega
                have HX := Lib.hid (show ∀ wx, Calls Try.prog 112 #[.int .i64 (f k)] wx fun e w' => e = .returned (.bool (isV (f k))) ∧ wx = w' from fun wx => l17Most_c (f k) wx)
                clear hcc
                cases hb : isV (f k) with
                | false =>
                  have Hr := Lib.hid (show pgOk s.data.toList a b n f = false by rw [E.out]; exact allN_bad k hlt hb)
                  rw [hb] at HX
                  clear hb
                  generalize f k = x at *
                  go_wp2_with fail
                  refine (HX.out _).mono ?_; rintro e w1 ⟨rfl, rfl⟩
                  go_wp2_with fail
                  go_ret
                  exact ⟨ret_bool Hr.out.symm, nq, Hw1.out⟩
                | true =>
                  have Hst := Lib.hid (allN_step (f := fun i => isV (f i)) Hall.out hb)
                  rw [hb] at HX
                  clear hb
                  generalize f k = x at *
                  go_wp2_with fail
                  refine (HX.out _).mono ?_; rintro e w1 ⟨rfl, rfl⟩
                  go_wp2_with fail
                  go_round
                  case rel => exact ⟨k + 1, by omega, by go_num, Hst.out⟩
                  case measure => first | (simp [intOf]; done) | (simp [intOf]; omega)
              · obtain rfl : k = n := by omega
                have Hr := Lib.hid (show pgOk s.data.toList a b k f = true by rw [E.out]; exact Hall.out)
                go_wp2_with fail
                go_ret
                exact ⟨ret_bool Hr.out.symm, nq, Hw1.out⟩
set_option maxRecDepth 100000 in
set_option maxHeartbeats 1600000 in
theorem l18Code_c (g : Nat) (B : Nat) (s : ByteArray) (a b : Int) (A : Option Addr) (n c : Nat) (f : Nat → Int) (o : Int) (w : World) (hs : s.size ≤ 1048576)
    (f0 : w.cell? ⟨g, 0, none⟩ = some (.string s)) (f1 : w.cell? ⟨g, 1, none⟩ = some (.int .i64 a)) (f2 : w.cell? ⟨g, 2, none⟩ = some (.int .i64 b)) (f3 : w.cell? ⟨g, 3, none⟩ = some (.slice A n c)) (h : Rd w B (.slice A n c) n 1 (tab n f)) (hn : n ≤ 1000) :
    Calls Try.prog 129 #[.pointer (some ⟨g, 0, none⟩), .int .i64 o] w fun e w' => e = .returned (.int .i64 (gC s.data.toList a b n f o)) ∧ ∃ d, w' = w.drewN d := by
  have HV := Lib.hid (l18Ok_c g B s a b A n c f w hs f0 f1 f2 f3 h hn)
  have HB := Lib.hid (fun wx => l00In_any o 1 8 wx)
  clear h f0 f1 f2
  cases h1 : pgOk s.data.toList a b n f with
  | false =>
    have E := Lib.hid (show gC s.data.toList a b n f o = 1 by unfold gC; rw [h1]; rfl)
    rw [h1] at HV
    clear h1
    go_enter Try.func129, Try.ntmps129
    go_wp2_with fail
    refine (HV.out).mono ?_; rintro e w2 ⟨rfl, d, rfl⟩
    go_wp2_with fail
    go_ret
    exact ⟨ret_int E.out.symm, d, rfl⟩
  | true =>
    cases h2 : inB o 1 8 with
    | false =>
      have E := Lib.hid (show gC s.data.toList a b n f o = 2 by unfold gC; rw [h1, h2]; rfl)
      rw [h1] at HV
      rw [h2] at HB
      clear h1 h2
      go_enter Try.func129, Try.ntmps129
      go_wp2_with fail
      refine (HV.out).mono ?_; rintro e w2 ⟨rfl, d, rfl⟩
      go_wp2_with fail
      refine (HB.out _).mono ?_; rintro e w1 ⟨rfl, rfl⟩
      go_wp2_with fail
      go_ret
      exact ⟨ret_int E.out.symm, d, rfl⟩
    | true =>
      have E := Lib.hid (show gC s.data.toList a b n f o = if (n : Int) < 2 * o + 1 then 6 else 0 by unfold gC; rw [h1, h2]; rfl)
      obtain ⟨ho1, ho8⟩ := inB_iff.1 h2
      rw [h1] at HV
      rw [h2] at HB
      clear h1 h2
      by_cases h3 : (n : Int) < 2 * o + 1
      all_goals
        simp only [h3, if_true, if_false] at E
        go_enter Try.func129, Try.ntmps129
        go_wp2_with fail
        refine (HV.out).mono ?_; rintro e w2 ⟨rfl, d, rfl⟩
        go_wp2_with fail
        refine (HB.out _).mono ?_; rintro e w1 ⟨rfl, rfl⟩
        go_wp2_with fail
        go_ret
        exact ⟨ret_int E.out.symm, d, rfl⟩
end Go.Proofs.Ytdljlemgaefbpaa
