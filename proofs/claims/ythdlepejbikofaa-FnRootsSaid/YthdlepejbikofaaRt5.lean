/- Roots, part 5: the law FnRoots. -/
import Derived.Test.YthdlepejbikofaaRt3
import Derived.Test.YthdlepejbikofaaRt4
namespace Go.Proofs.Ythdlepejbikofaa
open Go.RowKit Go.Joins

/-- what holds of a root -/
theorem rootR_inv (b v : Nat) (hb : 2 ≤ b) : InvR b v (rootR b v) := by
  have hB : 4 ≤ b * b := Nat.mul_le_mul hb hb
  have key : ∀ (j : Nat) (st : RSt), j ≤ (prs (b * b) v v).length → InvR b (v / (b * b) ^ j) st → InvR b v (runR b st ((prs (b * b) v v).take j).reverse) := by
    intro j
    induction j with
    | zero => intro st _ h; simpa [runR] using h
    | succ j ih =>
      intro st hj h
      have hjl : j < (prs (b * b) v v).length := by omega
      rw [List.take_succ_eq_append_getElem hjl, List.reverse_append]
      show InvR b v (runR b (stepR b st (prs (b * b) v v)[j]) ((prs (b * b) v v).take j).reverse)
      have hp := prs_get (b * b) v v j hjl
      have hsplit : v / (b * b) ^ (j + 1) * (b * b) + (prs (b * b) v v)[j] = v / (b * b) ^ j := by
        rw [hp, Nat.pow_succ, ← Nat.div_div_eq_div_mul]
        exact Nat.div_add_mod' _ _
      have hpl : (prs (b * b) v v)[j] < b * b := by rw [hp]; exact Nat.mod_lt _ (by omega)
      have hm := h.enter (p := (prs (b * b) v v)[j]) hb
      obtain ⟨s1, s2⟩ := subR_mid _ _ _ (st.rest * b * b + (prs (b * b) v v)[j]) (entR b st (prs (b * b) v v)[j]) (Nat.le_refl _) hm
      have := h.leave hb hpl s1 s2
      rw [hsplit] at this
      exact ih _ (by omega) this
  have h0 := key (prs (b * b) v v).length ⟨0, 0, []⟩ (Nat.le_refl _) (by
    rw [prs_end (b * b) (by omega) v v (Nat.le_refl _)]
    exact ⟨rfl, Nat.le_refl _, by simp, Nat.le_refl _, rfl⟩)
  rw [List.take_length] at h0
  exact h0

set_option maxRecDepth 100000 in
set_option maxHeartbeats 2000000 in
theorem walkFnRoots {W : World} (v1 : Value) (bs1 : List UInt8) (h1 : Rd W W.heap.size v1 bs1.length 1 (bs1.map byV)) (_hl1 : bs1.length ≤ maxLen) :
    Calls Try.prog 11 #[v1] W fun e w' => e = .returned (.bool true) ∧ Below W.heap.size W w' := by
  have hb0 := Below.refl W.heap.size W
  have H1 := Lib.hid h1; clear h1
  have HL := Lib.hid (f6big_any _ v1 _ _ W H1.out)
  generalize decide (4096 < bs1.length) = lg at *
  cases lg with
  | true =>
    go_enter Try.func11, Try.ntmps11
    go_wp2_with fail
    refine HL.out.mono ?_; rintro e w0 ⟨rfl, rfl⟩
    go_wp2_with fail
    go_ret
    exact ⟨rfl, hb0⟩
  | false =>
    go_enter Try.func11, Try.ntmps11
    go_wp2_with fail
    refine HL.out.mono ?_; rintro e w0 ⟨rfl, rfl⟩
    go_wp2_with fail
    refine (DrawRootOf_any W.heap.size v1 bs1 _ H1.out (Nat.le_refl _)).mono ?_; rintro e w1 ⟨⟨bi, vi, rfl⟩, hb1⟩
    cases hok : okR bi vi with
    | false =>
      have c1 := Lib.hid (fun w => RootOfI_no bi vi w hok)
      have c2 := Lib.hid (fun w => RootOfS_no bi vi w hok)
      have c3 := Lib.hid (fun w => TurnsI_no bi vi w hok)
      have c4 := Lib.hid (fun w => TurnsS_no bi vi w hok)
      clear hok
      have c5 := Lib.hid (fun w => f6ints_same 0 0 (.slice none 0 0) (.slice none 0 0) [] w ⟨rfl, none, 0, rfl, fun h => by simp at h⟩ ⟨rfl, none, 0, rfl, fun h => by simp at h⟩ (by simp))
      go_wp2_with fail
      refine (c1.out _).mono ?_; rintro e w2 ⟨rfl, rfl⟩
      go_wp2_with fail
      refine (c2.out _).mono ?_; rintro e w2 ⟨rfl, rfl⟩
      go_wp2_with fail
      refine (c3.out _).mono ?_; rintro e w2 ⟨rfl, rfl⟩
      go_wp2_with fail
      refine (c4.out _).mono ?_; rintro e w2 ⟨rfl, rfl⟩
      go_wp2_with fail
      refine (c5.out _).mono ?_; rintro e w2 ⟨rfl, n5, rfl⟩
      have hb5 := below_drewN hb1 n5
      go_wp2_with fail
      go_ret
      exact ⟨rfl, hb5⟩
    | true =>
      obtain ⟨⟨q1, q2⟩, q3, q4⟩ : (2 ≤ bi ∧ bi ≤ 16) ∧ 0 ≤ vi ∧ vi ≤ 1000000000000 := by simpa [okR, inB] using hok
      obtain ⟨b, rfl⟩ : ∃ b : Nat, bi = b := ⟨bi.toNat, by omega⟩
      obtain ⟨v, rfl⟩ : ∃ v : Nat, vi = v := ⟨vi.toNat, by omega⟩
      have p1 : 2 ≤ b := by omega
      have p2 : b ≤ 16 := by omega
      have p3 : v ≤ 1000000000000 := by omega
      clear hok q1 q2 q3 q4
      have c1 := Lib.hid (fun w => RootOfI_yes b v p1 p2 p3 w)
      have c2 := Lib.hid (fun w => RootOfS_yes b v p1 p2 p3 w)
      have c3 := Lib.hid (fun w => TurnsI_yes b v p1 p2 p3 w)
      have c4 := Lib.hid (fun w => TurnsS_yes b v p1 p2 p3 w)
      unfold RetT at c3 c4
      have hinv := rootR_inv b v p1
      generalize rootR b v = R at *
      obtain ⟨ro, re, ts⟩ := R
      obtain ⟨i1, i2, i3, i4, i5⟩ := hinv
      simp only at i1 i2 i3 i4 i5 c1 c2 c3 c4
      have hsq : ro ≤ ro * ro := by
        rcases Nat.eq_zero_or_pos ro with h | h
        · rw [h]; exact Nat.le_refl _
        · exact Nat.le_mul_of_pos_right _ h
      have hro : ro ≤ 1000000000000 := by omega
      have hre : re ≤ 1000000000000 := by omega
      have hts : ts.length ≤ 1000000000000 := by omega
      have c5 := Lib.hid (fun B1 B2 v1 v2 w h1 h2 => f6ints_same B1 B2 v1 v2 ts w h1 h2 (by omega))
      have I3 := Lib.hid i3
      have I5 := Lib.hid i5
      have hsi : (ro : Int) * (ro : Int) = ((ro * ro : Nat) : Int) := (Int.natCast_mul ro ro).symm
      have hq0 : ro * ro ≤ 1000000000000 := by omega
      have hq1 : ((ro * ro : Nat) : Int) + (re : Int) = (v : Int) := by omega
      have hq2 : (re : Int) ≤ 2 * (ro : Int) := by omega
      generalize ro * ro = Q at *
      clear i1 i2 i3 i4 i5 hsq
      go_wp2_with fail
      refine (c1.out _).mono ?_; rintro e w2 ⟨rfl, hb2⟩
      have hb02 := hb1.trans (hb2.mono hb1.size)
      clear hb2
      go_wp2_with fail
      refine (c2.out _).mono ?_; rintro e w3 ⟨rfl, hb3⟩
      have hb03 := hb02.trans (hb3.mono hb02.size)
      clear hb3 hb02
      go_wp2_with fail
      refine (c3.out _).mono ?_; rintro e w4 ⟨t4, rfl, ho4, hb4⟩
      have hb04 := hb03.trans (hb4.mono hb03.size)
      have Ho4 := Lib.hid ho4
      clear hb4 hb03 ho4
      go_wp2_with fail
      refine (c4.out _).mono ?_; rintro e w5 ⟨t5, rfl, ho5, hb5⟩
      have hb05 := hb04.trans (hb5.mono hb04.size)
      have R4 := Lib.hid (Rd.of_own (own_below Ho4.out hb5))
      have R5 := Lib.hid (Rd.of_own ho5)
      obtain ⟨_, A4, k4, rfl, _⟩ := R4.out
      obtain ⟨_, A5, k5, rfl, _⟩ := R5.out
      clear hb5 hb04 ho5
      go_wp2_with fail
      refine (c5.out _ _ _ _ _ R4.out R5.out).mono ?_; rintro e w6 ⟨rfl, n6, rfl⟩
      have hb06 := below_drewN hb05 n6
      have R6 := Lib.hid (R4.out.drewN n6)
      generalize w5.drewN n6 = w6 at *
      clear hb05 c1 c2 c3 c4 c5
      go_wp2_with fail
      go_loop [17, 18] (fun d n => ∃ (dd nn f : Nat), d = .int .i64 dd ∧ n = .int .i64 nn ∧ nn ≤ f ∧ nn ≤ ro ∧ dd + dsum b f nn = ts.length) (fun _ n => (intOf n).toNat)
      case atStart => exact ⟨0, ro, ro, rfl, rfl, Nat.le_refl _, Nat.le_refl _, by rw [Nat.zero_add]; exact I5.out⟩
      case round =>
        obtain ⟨dd, nn, f, rfl, rfl, hf, hnr, hd⟩ := hrel
        by_cases hn : 0 < nn
        · obtain ⟨f', hst, hf'⟩ := dsum_step b f nn p1 hn hf
          have hdl := Nat.div_lt_self hn (by omega : 1 < b)
          have hml := Nat.mod_lt nn (by omega : 0 < b)
          have hmd : (nn : Int) % (b : Int) = ((nn % b : Nat) : Int) := by omega
          have hdv : (nn : Int) / (b : Int) = ((nn / b : Nat) : Int) := by omega
          have Hd := Lib.hid (show dd + nn % b + dsum b f' (nn / b) = ts.length by omega)
          have hdd : dd ≤ 1000000000000 := by omega
          clear hd hst
          generalize nn % b = md at *
          generalize nn / b = dv at *
          go_wp2_with fail
          go_round
          case rel => exact ⟨dd + md, dv, f', by first | rfl | (congr 1; omega), rfl, hf', by omega, Hd.out⟩
          case measure => simp [intOf]; omega
        · have hdd : dd = ts.length := by rw [show nn = 0 by omega, dsum_zero] at hd; omega
          have hn0 : (nn : Int) ≤ 0 := by omega
          subst hdd
          clear hd
          go_wp2_with fail
          go_loop [19] (fun i => ∃ k : Nat, k ≤ ts.length ∧ i = .int .i64 k) (fun i => ts.length - (intOf i).toNat)
          case atStart => exact ⟨0, Nat.zero_le _, rfl⟩
          case round =>
            obtain ⟨k, hk, rfl⟩ := hrel
            by_cases hlt : k < ts.length
            · obtain ⟨b4, o4, hA4, hx⟩ := nums_at R6.out k hlt
              subst hA4
              have hodd := I3.out ts[k] (List.getElem_mem hlt)
              have hoi : (ts[k] : Int) % 2 = 1 := by omega
              clear hodd
              generalize ts[k] = z at *
              have hlt' : (k : Int) < (ts.length : Int) := by omega
              go_wp2_with fail
              go_round
              case rel => exact ⟨k + 1, by omega, by go_num⟩
              case measure => simp [intOf]; omega
            · have hlt' : (ts.length : Int) ≤ (k : Int) := by omega
              go_wp2_with fail
              go_ret
              exact ⟨by simp, hb06⟩
end Go.Proofs.Ythdlepejbikofaa
