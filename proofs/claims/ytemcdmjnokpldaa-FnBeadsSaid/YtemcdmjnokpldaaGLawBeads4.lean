/- Merged texts: Ab12, Ab13, Ab14, Ab15, Ab16, Ab17, Aq2, Aq3, Aq4, Bd1, Bd2, Ab22. -/
import Derived.Test.YtemcdmjnokpldaaGLawBeads3
import Derived.Test.YtemcdmjnokpldaaGLawBeads2
import Derived.Deep.DeepCutAuto
import Derived.Deep.CutRange
import Derived.Deep.CutBlock
/- Abaci: the plain setting, spec. -/
namespace Go.Proofs.Ytemcdmjnokpldaa
open Go.RowKit Go.Joins

/-- a result: the plain setting and whether it is the value's -/
def RetSet (W : World) (u l w : Int) (n : Nat) (val : Int) (e : Ending) (w' : World) : Prop := ∃ v', e = .returned (.tuple #[aggAb u l w v', .bool (decide (leftV n val = 0))]) ∧ w'.ownsRow W.heap.size 98 2 v' n (rodsC (plainRs u w n val)) ∧ Below W.heap.size W w'
theorem ret_b {a : Value} {b c : Bool} (h : b = c) : Value.tuple #[a, .bool b] = Value.tuple #[a, .bool c] := by rw [h]
set_option maxRecDepth 100000 in
set_option maxHeartbeats 3200000 in
theorem l03Set_any (B qp : Nat) (u l w val : Int) (v : Value) (rs : List (Int × Int)) (W : World) (ha : AbAt W qp u l w v) (h : Rd W B v rs.length 2 (rodsC rs)) (hB : B ≤ W.heap.size) (hok : okAb ⟨u, l, w, rs⟩ = true) (h0 : 0 ≤ val) (hv : val ≤ 1000000000000) : Calls Try.prog 81 #[.pointer (some ⟨qp, 0, none⟩), .int .i64 val] W (RetSet W u l w rs.length val) := by
  obtain ⟨hk1, _, hk3, hk4⟩ := okAb_and hok
  dsimp only at hk3 hk4
  have H := Lib.hid h
  have hqp := World.block_lt_of_cell? W _ ha.c0
  change qp < W.heap.size at hqp
  obtain ⟨_, A, c, rfl, _⟩ := h
  have hbm1 := (Below.refl W.heap.size W).alloc (Nat.le_refl _) objZ
  have hrs1 := heap_alloc_new W (.cells #[.int .i64 0, .int .i64 0, .int .i64 0, .slice none 0 0] 26)
  have ha1 := ha.below hqp hbm1
  have HC := Lib.hid (l03Own_any B qp rs.length u l w (.slice A rs.length c) (rodsC rs) (W.alloc objZ) ha1 (H.out.below (hbm1.mono hB)) (Nat.le_trans hB hbm1.size) hk3 (by omega) (rodsC_one rs))
  have hz1 := size_alloc1 W objZ
  go_enter Try.func81, Try.ntmps81
  go_upto_region 1 with (fail)
  generalize W.alloc objZ = w2 at *
  go_wp2_with fail
  refine HC.out.mono ?_; rintro e w3 ⟨g, cap, rfl, ho, hb⟩
  have hlg := ho.lt g rfl
  have hbs := hb.size
  have hbm := (Below.refl w3.heap.size w3).alloc (Nat.le_refl _) (.cells #[.int .i64 u, .int .i64 l, .int .i64 w, .slice (some ⟨g, 0, none⟩) rs.length cap] 26)
  have HP := Lib.hid (show PlAt W (w3.alloc (.cells #[.int .i64 u, .int .i64 l, .int .i64 w, .slice (some ⟨g, 0, none⟩) rs.length cap] 26)) qp W.heap.size w3.heap.size g cap rs.length u l w (.slice A rs.length c) rs from
    ⟨(ha1.below (by omega) hb).below (by omega) hbm, (hbm.block _ (by omega)).trans ((hb.block _ (by omega)).trans hrs1), heap_alloc_new w3 _, own_below (ownsRow_le ho (by omega)) hbm, (hbm1.trans (hb.mono (by omega))).trans (hbm.mono (by omega)), rfl, by omega, by omega, by omega, by omega, by omega⟩)
  go_upto_region 2 with (fail)
  generalize w3.heap.size = q at *
  generalize w3.alloc (.cells #[.int .i64 u, .int .i64 l, .int .i64 w, .slice (some ⟨g, 0, none⟩) rs.length cap] 26) = w4 at *
  clear HC ho hb hlg hbs hbm hbm1 ha1 hrs1 hz1 hB ha H
  have HPR := Lib.hid (fun d wx hx (d0 : 0 ≤ d) (d9 : d ≤ 9) => l03Digit_any qp u l w d (.slice A rs.length c) rs wx hx hk1 d0 d9)
  have hln : (rs.length : Int) ≤ 10 := by omega
  clear hk1 hok
  go_wp2_with fail
  go_loopw [1, 7] (fun s i wr => ∃ k : Nat, k ≤ rs.length ∧ i = .int .i64 (k : Int) ∧ s = .int .i64 (leftV k val) ∧ PlAt W wr qp W.heap.size q g cap rs.length u l w (.slice A rs.length c) (plainRs u w k val ++ rs.drop k)) (fun _ i _ => rs.length - (intOf i).toNat)
  case atStart => exact ⟨0, Nat.zero_le _, rfl, rfl, HP.out⟩
  case round =>
    obtain ⟨k, hk, rfl, rfl, hp⟩ := hrel
    have HP2 := Lib.hid hp
    clear hp HP
    obtain ⟨v0, v1⟩ := leftV_bd k val h0
    obtain ⟨⟨q0, q1, q2, q3⟩, _⟩ := blk4 HP2.out.out
    by_cases hlt : k < rs.length
    · have hlt' : (k : Int) < (rs.length : Int) := by omega
      obtain ⟨a0, a1, a2, a3⟩ := HP2.out.a
      have Hpl := Lib.hid (show (plainRs u w k val ++ rs.drop k).set k (plainRodA u w (leftV k val % 10)) = plainRs u w (k + 1) val ++ rs.drop (k + 1) by
        rw [set_mid _ _ k (plainRs_len u w k val).symm (by rw [List.length_drop]; omega), plainRs_succ, List.drop_drop])
      have Hlv := Lib.hid (leftV_succ k val)
      generalize plainRs u w k val ++ rs.drop k = cur at *
      generalize leftV k val = y at *
      have hm0 : 0 ≤ y % 10 := by omega
      have hm9 : y % 10 ≤ 9 := by omega
      have hmd : y.tmod 10 = y % 10 := Int.tmod_eq_emod_of_nonneg v0
      have hdv : y.tdiv 10 = y / 10 := Int.tdiv_eq_ediv_of_nonneg v0
      have hw1 : IntKind.i64.wrap (y % 10) = y % 10 := IntWalk.i64_in _ (by omega)
      have hw2 : IntKind.i64.wrap (y / 10) = y / 10 := IntWalk.i64_in _ (by omega)
      have HC := Lib.hid (HPR.out (y % 10) wr.drew (HP2.out.a.drewN 1) hm0 hm9)
      generalize plainRodA u w (y % 10) = x at *
      obtain ⟨x0, x1⟩ := x
      go_wp2_with fail
      refine wp_region_noPanic ?_
      refine wp_region_L [8] (fun w' => w'.cell? ⟨q, 3, none⟩ = some (.slice (some ⟨g, 0, none⟩) rs.length cap)) (by kernel_rfl) (q3) (fun hHeld => ?_)
      refine take_F (i := 0) (d := some 17) (v := ?_) (by kernel_rfl) (by kernel_rfl) rfl rfl (by kernel_rfl) (by kernel_rfl) (by kernel_rfl) (fun _ _ _ h => h) (Or.inl ⟨by rfl, ?_⟩) (by assumption) ?_
      rotate_left
      · (intro w hSw; (try dsimp only at hSw); go_simp; (try rw [if_neg (by omega)]); (try (with_reducible rfl)))
      simp only [Act.put, List.setIfInBounds_toArray, List.set_cons_zero, List.set_cons_succ]
      refine take_L [1] (i := 1) (d := some 18) (v := ?_) (by kernel_rfl) (by kernel_rfl) (by kernel_rfl) (by kernel_rfl) rfl rfl (by kernel_rfl) (by kernel_rfl) (by kernel_rfl) (fun _ _ _ h => h) (Or.inl ⟨by rfl, ?_⟩) (by assumption) ?_
      rotate_left
      · (intro w hSw; (try dsimp only at hSw); go_simp; (try rw [if_neg (by omega)]); (try (with_reducible rfl)))
      simp only [Act.put, List.setIfInBounds_toArray, List.set_cons_zero, List.set_cons_succ]
      refine take_F (i := 2) (d := some 19) (v := ?_) (by kernel_rfl) (by kernel_rfl) rfl rfl (by kernel_rfl) (by kernel_rfl) (by kernel_rfl) (fun _ _ _ h => h) (Or.inl ⟨by rfl, ?_⟩) (by assumption) ?_
      rotate_left
      · (intro w hSw; (try dsimp only at hSw); go_simp; (try rw [if_neg (by omega)]); (try (with_reducible rfl)))
      simp only [Act.put, List.setIfInBounds_toArray, List.set_cons_zero, List.set_cons_succ]
      refine take_F (i := 3) (d := some 20) (v := ?_) (by kernel_rfl) (by kernel_rfl) rfl rfl (by kernel_rfl) (by kernel_rfl) (by kernel_rfl) (fun _ _ _ h => h) (Or.inl ⟨by rfl, ?_⟩) (by assumption) ?_
      rotate_left
      · (intro w hSw; (try dsimp only at hSw); go_simp; (try rw [if_neg (by omega)]); (try (with_reducible rfl)))
      simp only [Act.put, List.setIfInBounds_toArray, List.set_cons_zero, List.set_cons_succ]
      refine take_F (i := 4) (d := some 21) (v := ?_) (by kernel_rfl) (by kernel_rfl) rfl rfl (by kernel_rfl) (by kernel_rfl) (by kernel_rfl) (fun _ _ _ h => h) (Or.inl ⟨by rfl, ?_⟩) (by assumption) ?_
      rotate_left
      · (intro w hSw; (try dsimp only at hSw); go_simp; (try rw [if_neg (by omega)]); (try (with_reducible rfl)))
      simp only [Act.put, List.setIfInBounds_toArray, List.set_cons_zero, List.set_cons_succ]
      refine take_F (i := 5) (d := some 22) (v := ?_) (by kernel_rfl) (by kernel_rfl) rfl rfl (by kernel_rfl) (by kernel_rfl) (by kernel_rfl) (fun _ _ _ h => h) (Or.inl ⟨by rfl, ?_⟩) (by assumption) ?_
      rotate_left
      · (intro w hSw; (try dsimp only at hSw); go_simp; (try rw [if_neg (by omega)]); (try (with_reducible rfl)))
      simp only [Act.put, List.setIfInBounds_toArray, List.set_cons_zero, List.set_cons_succ]
      refine call_L (i := 6) (d := (some 23)) rfl rfl (by kernel_rfl) (fun Kq hKq => ?_)
      go_simp
      go_at_call 139
      refine HC.out.mono ?_; rintro e w5 ⟨rfl, hb5⟩
      have HP5 := Lib.hid (HP2.out.below (below_undrew hb5))
      clear hb5 q0 q1 q2 q3 a0 a1 a2 a3
      obtain ⟨⟨q0, q1, q2, q3⟩, _⟩ := blk4 HP5.out.out
      obtain ⟨⟨o0, o1, d0, d1⟩, f0, f1⟩ := HP5.out.pre hlt
      have HP6 := Lib.hid (HP5.out.set hlt x0 x1)
      (try go_wp2_with fail)
      refine hKq.out _ _ (q3) (fun hHeld => ?_)
      clear hKq Kq
      (try simp only [Act.put, List.setIfInBounds_toArray, List.set_cons_zero, List.set_cons_succ])
      refine take_F (i := 7) (d := some 24) (v := ?_) (by kernel_rfl) (by kernel_rfl) rfl rfl (by kernel_rfl) (by kernel_rfl) (by kernel_rfl) (fun _ _ _ h => h) (Or.inl ⟨by rfl, ?_⟩) (by assumption) ?_
      rotate_left
      · (intro w hSw; (try dsimp only at hSw); go_simp; (try rw [if_neg (by omega)]); (try (with_reducible rfl)))
      simp only [Act.put, List.setIfInBounds_toArray, List.set_cons_zero, List.set_cons_succ]
      refine late_L (i := 8) (d := none) (by kernel_rfl) rfl rfl (by kernel_rfl) (fun Kq hKq => ?_)
      go_simp
      refine hKq.out _ _ ?_
      clear hKq Kq
      refine done_L (by kernel_rfl) ?_ _
      refine NoPanic.normal ?_
      clear q0 q1 q2 q3 d0 d1 f0 f1 HP5 HP2
      go_wp2_with fail
      go_roundw
      case rel => exact ⟨k + 1, by omega, by go_num, by rw [Hlv.out], by rw [← Hpl.out]; exact HP6.out⟩
      case measure => first | (simp [intOf]; done) | (simp [intOf]; omega)
    · have hkn : k = rs.length := by omega
      subst hkn
      have hlt' : ¬ (rs.length : Int) < (rs.length : Int) := by omega
      rw [List.drop_length, List.append_nil] at HP2
      obtain ⟨⟨p0, p1, p2, p3⟩, f0, f1, f2, f3⟩ := blk4 HP2.out.res
      have HD := Lib.hid (HP2.out.done (.int .i64 u) (.int .i64 l) (.int .i64 w) (.slice (some ⟨g, 0, none⟩) rs.length cap))
      have HE := Lib.hid (show (leftV rs.length val == 0) = decide (leftV rs.length val = 0) from rfl)
      have HY := Lib.hid (Eq.refl (leftV rs.length val))
      generalize hy : leftV rs.length val = y at HE v0 v1 ⊢
      have Hy := Lib.hid hy
      clear hy
      go_wp2_with fail
      obtain ⟨⟨k0, k1, k2, k3⟩, hbz, hoz⟩ := HD.out
      refine bodyPost_ret (v := .tuple #[aggAb u l w (.slice (some ⟨g, 0, none⟩) rs.length cap), .bool (y == 0)]) (by simp [results, Try.results81, go_sem, k0, k1, k2, k3]) rfl ?_
      exact ⟨_, congrArg Ending.returned (ret_b (by rw [Hy.out]; exact HE.out)), hoz, hbz⟩
end Go.Proofs.Ytemcdmjnokpldaa
/- Abaci: AbacusValue, SetAbacus, PlainAbacus, impl. -/
namespace Go.Proofs.Ytemcdmjnokpldaa
open Go.RowKit Go.Joins

theorem ret2i {a b c d : Int} (h : a = c) (k : b = d) : Ending.returned (.tuple #[.int .i64 a, .int .i64 b]) = Ending.returned (.tuple #[.int .i64 c, .int .i64 d]) := by rw [h, k]
theorem AbValueI_any (B : Nat) (u l w : Int) (v : Value) (rs : List (Int × Int)) (W : World) (h : Rd W B v rs.length 2 (rodsC rs)) (hB : B ≤ W.heap.size) (hm : rs.length ≤ 1048576) : Calls Try.prog 22 #[aggAb u l w v] W fun e w' => e = .returned (.tuple #[.int .i64 (vlV ⟨u, l, w, rs⟩), .int .i64 (vlC ⟨u, l, w, rs⟩)]) ∧ Below W.heap.size W w' := by
  have H := Lib.hid h
  obtain ⟨_, A, c, rfl, _⟩ := h
  have hb1 := (Below.refl W.heap.size W).alloc (Nat.le_refl _) (.cells #[.int .i64 u, .int .i64 l, .int .i64 w, .slice A rs.length c] 26)
  have HQ := Lib.hid (heap_alloc_new W (.cells #[.int .i64 u, .int .i64 l, .int .i64 w, .slice A rs.length c] 26))
  have hlt1 : W.heap.size < (W.alloc (.cells #[.int .i64 u, .int .i64 l, .int .i64 w, .slice A rs.length c] 26)).heap.size := by simp
  have HV := Lib.hid (ValidAbI_any B u l w (.slice A rs.length c) rs _ (H.out.below (hb1.mono hB)) (Nat.le_trans hB hb1.size) hm)
  have HB := Lib.hid hb1
  have HVL := Lib.hid (fun hok wx hx hz => valueI_any B u l w (.slice A rs.length c) rs wx hx hz hok)
  obtain ⟨c0, c1, c2, c3⟩ := four_at HQ.out
  clear hb1
  cases hok : okAb ⟨u, l, w, rs⟩
  · rw [hok] at HV
    have e1 : vlV ⟨u, l, w, rs⟩ = 0 := by unfold vlV; rw [hok]; rfl
    have e2 : vlC ⟨u, l, w, rs⟩ = 1 := by unfold vlC; rw [hok]; rfl
    rw [e1, e2]
    clear hok HVL e1 e2
    go_enter Try.func22, Try.ntmps22
    go_wp2_with fail
    refine HV.out.mono ?_; rintro e w2 ⟨rfl, hb2⟩
    have HB2 := Lib.hid (HB.out.trans (hb2.mono HB.out.size))
    clear hb2
    go_wp2_with fail
    go_ret2
    exact ⟨rfl, HB2.out⟩
  · rw [hok] at HV
    have e1 : vlV ⟨u, l, w, rs⟩ = valR w rs := by unfold vlV; rw [hok]; rfl
    have e2 : vlC ⟨u, l, w, rs⟩ = 0 := by unfold vlC; rw [hok]; rfl
    rw [e1, e2]
    have HVL2 := Lib.hid (HVL.out hok)
    generalize valR w rs = R at *
    clear hok HVL e1 e2
    go_enter Try.func22, Try.ntmps22
    go_wp2_with fail
    refine HV.out.mono ?_; rintro e w2 ⟨rfl, hb2⟩
    have HB2 := Lib.hid (HB.out.trans (hb2.mono HB.out.size))
    obtain ⟨d0, d1, d2, d3⟩ := four_at ((hb2.block _ hlt1).trans HQ.out)
    have HC := Lib.hid (HVL2.out w2 (H.out.below (HB2.out.mono hB)) (Nat.le_trans hB HB2.out.size))
    clear hb2 c0 c1 c2 c3
    go_wp2_with fail
    refine HC.out.mono ?_; rintro e w3 ⟨rfl, hb3⟩
    have HB3 := Lib.hid (HB2.out.trans (hb3.mono HB2.out.size))
    clear hb3
    go_wp2_with fail
    go_ret2
    exact ⟨rfl, HB3.out⟩
/-- a result that is refused -/
theorem RetAb.bad {W w' : World} {c : Int} (hb : Below W.heap.size W w') {a : Ab} {f : Ab → Int → Ab × Int} {x : Int} (h : f a x = (zeroAb, c)) : RetAb W (f a x) (.returned (.tuple #[aggAb 0 0 0 (.slice none 0 0), .int .i64 c])) w' := by
  rw [h]; exact ⟨_, rfl, own_nilAb _ _, hb⟩
end Go.Proofs.Ytemcdmjnokpldaa
/- Abaci: PlainAbacus, impl; AbacusValue, spec. -/
namespace Go.Proofs.Ytemcdmjnokpldaa
open Go.RowKit Go.Joins

end Go.Proofs.Ytemcdmjnokpldaa
/- Abaci: SetAbacus, PlainAbacus, spec. -/
namespace Go.Proofs.Ytemcdmjnokpldaa
open Go.RowKit Go.Joins

theorem below_eqA {w w' : World} {n : Nat} (h : w' = w.drewN n) : Below w.heap.size w w' := by rw [h]; exact below_drewN (Below.refl _ _) n

end Go.Proofs.Ytemcdmjnokpldaa
/- Abaci: equal abaci, both sides. -/
namespace Go.Proofs.Ytemcdmjnokpldaa
open Go.RowKit Go.Joins

theorem ret_boolA {a b : Bool} (h : a = b) : Ending.returned (.bool a) = .returned (.bool b) := by rw [h]
def sameB (a b : Ab) : Bool := (a.u == b.u) && (a.l == b.l) && (a.w == b.w) && (a.rods.length == b.rods.length)
def sameAb (a b : Ab) : Bool := sameB a b && decide (a.rods = b.rods)
theorem sameB_cases (u l w u' l' w' : Int) (rs rs' : List (Int × Int)) :
    ((u != u') = true ∧ sameB ⟨u, l, w, rs⟩ ⟨u', l', w', rs'⟩ = false) ∨ (u = u' ∧ (l != l') = true ∧ sameB ⟨u, l, w, rs⟩ ⟨u', l', w', rs'⟩ = false) ∨ (u = u' ∧ l = l' ∧ (w != w') = true ∧ sameB ⟨u, l, w, rs⟩ ⟨u', l', w', rs'⟩ = false) ∨
    (u = u' ∧ l = l' ∧ w = w' ∧ rs.length ≠ rs'.length ∧ sameB ⟨u, l, w, rs⟩ ⟨u', l', w', rs'⟩ = false) ∨ (u = u' ∧ l = l' ∧ w = w' ∧ rs.length = rs'.length ∧ sameB ⟨u, l, w, rs⟩ ⟨u', l', w', rs'⟩ = true) := by
  unfold sameB
  dsimp only
  by_cases h1 : u = u'
  · by_cases h2 : l = l'
    · by_cases h3 : w = w'
      · by_cases h4 : rs.length = rs'.length
        · exact .inr (.inr (.inr (.inr ⟨h1, h2, h3, h4, by simp [h1, h2, h3, h4]⟩)))
        · exact .inr (.inr (.inr (.inl ⟨h1, h2, h3, h4, by simp [h4]⟩)))
      · exact .inr (.inr (.inl ⟨h1, h2, by simpa using h3, by simp [h3]⟩))
    · exact .inr (.inl ⟨h1, by simpa using h2, by simp [h2]⟩)
  · exact .inl ⟨by simpa using h1, by simp [h1]⟩
theorem sameAb_no {a b : Ab} (h : sameB a b = false) : sameAb a b = false := by unfold sameAb; rw [h]; rfl
theorem rods_ne {rs rs' : List (Int × Int)} {k : Nat} (hk : k < rs.length) (hk' : k < rs'.length) (h : rs[k] ≠ rs'[k]) : decide (rs = rs') = false := by
  apply decide_eq_false
  intro e
  subst e
  exact h rfl
theorem take_eq_succ {rs rs' : List (Int × Int)} {k : Nat} (hk : k < rs.length) (hk' : k < rs'.length) (h : rs.take k = rs'.take k) (he : rs[k] = rs'[k]) : rs.take (k + 1) = rs'.take (k + 1) := by
  rw [List.take_succ_eq_append_getElem hk, List.take_succ_eq_append_getElem hk', h, he]
set_option maxRecDepth 100000 in
set_option maxHeartbeats 3200000 in
theorem l03Same_any (B1 B2 q1 q2 : Nat) (u l w u' l' w' : Int) (v v' : Value) (rs rs' : List (Int × Int)) (W : World) (ha : AbAt W q1 u l w v) (hr : Rd W B1 v rs.length 2 (rodsC rs)) (ha' : AbAt W q2 u' l' w' v') (hr' : Rd W B2 v' rs'.length 2 (rodsC rs')) (hm : rs.length ≤ 1048576) (hm' : rs'.length ≤ 1048576) :
    Calls Try.prog 85 #[.pointer (some ⟨q1, 0, none⟩), .pointer (some ⟨q2, 0, none⟩)] W fun e w'' => e = .returned (.bool (sameAb ⟨u, l, w, rs⟩ ⟨u', l', w', rs'⟩)) ∧ ∃ n, w'' = W.drewN n := by
  have HA := Lib.hid ha
  have HA' := Lib.hid ha'
  have H := Lib.hid hr
  have H' := Lib.hid hr'
  obtain ⟨_, A, c, rfl, _⟩ := hr
  obtain ⟨_, A', c', rfl, _⟩ := hr'
  obtain ⟨a0, a1, a2, a3⟩ := ha
  obtain ⟨b0, b1, b2, b3⟩ := ha'
  have HN := Lib.hid (fun h => sameAb_no (a := ⟨u, l, w, rs⟩) (b := ⟨u', l', w', rs'⟩) h)
  rcases sameB_cases u l w u' l' w' rs rs' with ⟨g1, g5⟩ | ⟨rfl, g1, g5⟩ | ⟨rfl, rfl, g1, g5⟩ | ⟨rfl, rfl, rfl, g1, g5⟩ | ⟨rfl, rfl, rfl, g1, g5⟩
  · rw [HN.out g5]
    clear g5 HN HA HA'
    go_enter Try.func85, Try.ntmps85
    go_wp2_with fail
    go_quiet (fail)
    go_wp2_with fail
    go_ret
    exact ⟨rfl, _, rfl⟩
  · rw [HN.out g5]
    clear g5 HN HA HA'
    go_enter Try.func85, Try.ntmps85
    go_wp2_with fail
    go_quiet (fail)
    go_wp2_with fail
    go_ret
    exact ⟨rfl, _, rfl⟩
  · rw [HN.out g5]
    clear g5 HN HA HA'
    go_enter Try.func85, Try.ntmps85
    go_wp2_with fail
    go_quiet (fail)
    go_wp2_with fail
    go_ret
    exact ⟨rfl, _, rfl⟩
  · rw [HN.out g5]
    have g2 : ((rs.length : Int) != (rs'.length : Int)) = true := by rw [bne_iff_ne]; omega
    clear g5 HN HA HA'
    go_enter Try.func85, Try.ntmps85
    go_wp2_with fail
    go_quiet (fail)
    go_wp2_with fail
    go_ret
    exact ⟨rfl, _, rfl⟩
  · have HY := Lib.hid (show sameAb ⟨u, l, w, rs⟩ ⟨u, l, w, rs'⟩ = decide (rs = rs') by unfold sameAb; rw [g5]; rfl)
    have g2 : ((rs.length : Int) != (rs'.length : Int)) = false := by rw [g1]; simp
    have G1 := Lib.hid g1
    clear g5 HN g1
    go_enter Try.func85, Try.ntmps85
    go_wp2_with fail
    go_quiet (fail)
    go_wp2_with fail
    clear a0 a1 a2 a3 b0 b1 b2 b3 g2
    go_loopw [5] (fun i wr => ∃ k n : Nat, k ≤ rs.length ∧ i = .int .i64 (k : Int) ∧ rs.take k = rs'.take k ∧ wr = W.drewN n) (fun i _ => rs.length - (intOf i).toNat)
    case atStart => exact ⟨0, _, Nat.zero_le _, rfl, rfl, rfl⟩
    case round =>
      obtain ⟨k, n, hk, rfl, htk, hwr⟩ := hrel
      have HT := Lib.hid htk
      have Hw := Lib.hid hwr
      obtain ⟨a0, a1, a2, a3⟩ : AbAt wr q1 u l w (.slice A rs.length c) := by rw [hwr]; exact HA.out.drewN n
      obtain ⟨b0, b1, b2, b3⟩ : AbAt wr q2 u l w (.slice A' rs'.length c') := by rw [hwr]; exact HA'.out.drewN n
      have HD := Lib.hid (fun m => (show wr.drewN m = W.drewN (n + m) by rw [hwr, World.drewN_drewN]))
      have HW1 : Hid (Rd wr B1 (.slice A rs.length c) rs.length 2 (rodsC rs)) := Lib.hid (by rw [hwr]; exact H.out)
      have HW2 : Hid (Rd wr B2 (.slice A' rs'.length c') rs'.length 2 (rodsC rs')) := Lib.hid (by rw [hwr]; exact H'.out)
      clear htk hwr
      by_cases hlt : k < rs.length
      · have hlt' : (k : Int) < (rs.length : Int) := by omega
        have g1 := G1.out
        have hl2 : k < rs'.length := by omega
        have hlt2 : (k : Int) < (rs'.length : Int) := by omega
        obtain ⟨b, off, hA, _, hcc⟩ := rods_at HW1.out (by omega)
        subst hA
        obtain ⟨r0, r1⟩ := hcc k hlt
        obtain ⟨b', off', hA', _, hcc'⟩ := rods_at HW2.out (by omega)
        subst hA'
        obtain ⟨s0, s1⟩ := hcc' k hl2
        have HNE := Lib.hid (fun h => rods_ne hlt hl2 h)
        have HEQ := Lib.hid (fun h => take_eq_succ hlt hl2 HT.out h)
        generalize rs[k] = x at *
        generalize rs'[k] = y at *
        obtain ⟨x0, x1⟩ := x
        obtain ⟨y0, y1⟩ := y
        dsimp only at r0 r1 s0 s1
        clear hcc hcc' g1
        by_cases h0 : x0 = y0
        · subst h0
          by_cases h1 : x1 = y1
          · subst h1
            have HE2 := Lib.hid (HEQ.out rfl)
            clear HNE HEQ
            go_wp2_with fail
            go_quiet (fail)
            go_wp2_with fail
            go_roundw
            case rel => exact ⟨k + 1, _, by omega, by go_num, HE2.out, HD.out _⟩
            case measure => first | (simp [intOf]; done) | (simp [intOf]; omega)
          · have HF := Lib.hid (HNE.out (fun e => h1 (by injection e)))
            have h1' : (x1 != y1) = true := by simpa using h1
            have h1'' : (x1 == y1) = false := by simpa using h1
            clear HNE HEQ h1
            go_wp2_with fail
            go_quiet (fail)
            go_wp2_with fail
            go_ret
            exact ⟨ret_boolA (HY.out.trans HF.out).symm, _, HD.out _⟩
        · have HF := Lib.hid (HNE.out (fun e => h0 (by injection e)))
          have h1' : (x0 != y0) = true := by simpa using h0
          have h1'' : (x0 == y0) = false := by simpa using h0
          clear HNE HEQ h0
          go_wp2_with fail
          go_quiet (fail)
          go_wp2_with fail
          go_ret
          exact ⟨ret_boolA (HY.out.trans HF.out).symm, _, HD.out _⟩
      · have hkn : k = rs.length := by omega
        have hlt' : ¬ (k : Int) < (rs.length : Int) := by omega
        have HF := Lib.hid (show decide (rs = rs') = true by
          apply decide_eq_true
          have h := HT.out
          have g1 := G1.out
          rw [hkn, List.take_length, g1, List.take_length] at h
          exact h)
        clear hkn
        go_wp2_with fail
        go_ret
        exact ⟨ret_boolA (HY.out.trans HF.out).symm, n, Hw.out⟩
theorem SameAbS_any (B : Nat) (u l w u' l' w' : Int) (v v' : Value) (rs rs' : List (Int × Int)) (W : World) (hr : Rd W B v rs.length 2 (rodsC rs)) (hr' : Rd W B v' rs'.length 2 (rodsC rs')) (hB : B ≤ W.heap.size) (hm : rs.length ≤ 1048576) (hm' : rs'.length ≤ 1048576) :
    Calls Try.prog 20 #[aggAb u l w v, aggAb u' l' w' v'] W fun e w'' => e = .returned (.bool (sameAb ⟨u, l, w, rs⟩ ⟨u', l', w', rs'⟩)) ∧ Below W.heap.size W w'' := by
  obtain ⟨h1, h2, h3⟩ := two_blocks W #[.int .i64 u, .int .i64 l, .int .i64 w, v] #[.int .i64 u', .int .i64 l', .int .i64 w', v'] 26 26
  have HC := Lib.hid (l03Same_any B B W.heap.size (W.heap.size + 1) u l w u' l' w' v v' rs rs' _ (AbAt.of h1) (hr.below (h3.mono hB)) (AbAt.of h2) (hr'.below (h3.mono hB)) hm hm')
  have HB := Lib.hid h3
  obtain ⟨_, A, c, rfl, _⟩ := hr
  obtain ⟨_, A', c', rfl, _⟩ := hr'
  generalize sameAb ⟨u, l, w, rs⟩ ⟨u', l', w', rs'⟩ = R at *
  clear h1 h2 h3
  go_enter Try.func20, Try.ntmps20
  go_wp2_with fail
  refine HC.out.mono ?_; rintro e w1 ⟨rfl, n1, rfl⟩
  go_wp2_with fail
  go_ret
  exact ⟨rfl, below_drewN HB.out _⟩
set_option maxRecDepth 100000 in
set_option maxHeartbeats 1600000 in
theorem sameBeads_any (u l w u' l' w' : Int) (A A' : Option Addr) (c c' : Nat) (rs rs' : List (Int × Int)) (W : World) (hm : rs.length ≤ 1048576) (hm' : rs'.length ≤ 1048576) :
    Calls Try.prog 82 #[aggAb u l w (.slice A rs.length c), aggAb u' l' w' (.slice A' rs'.length c')] W fun e w'' => e = .returned (.bool (sameB ⟨u, l, w, rs⟩ ⟨u', l', w', rs'⟩)) ∧ Below W.heap.size W w'' := by
  obtain ⟨h1, h2, h3⟩ := two_blocks W #[.int .i64 u, .int .i64 l, .int .i64 w, .slice A rs.length c] #[.int .i64 u', .int .i64 l', .int .i64 w', .slice A' rs'.length c'] 26 26
  have HB := Lib.hid h3
  obtain ⟨a0, a1, a2, a3⟩ := four_at h1
  obtain ⟨b0, b1, b2, b3⟩ := four_at h2
  clear h1 h2 h3
  rcases sameB_cases u l w u' l' w' rs rs' with ⟨g1, g5⟩ | ⟨rfl, g1, g5⟩ | ⟨rfl, rfl, g1, g5⟩ | ⟨rfl, rfl, rfl, g1, g5⟩ | ⟨rfl, rfl, rfl, g1, g5⟩
  · rw [g5]
    have g2 : (u == u') = false := by simpa using g1
    clear g5
    go_enter Try.func82, Try.ntmps82
    go_wp2_with fail
    go_ret
    exact ⟨rfl, HB.out⟩
  · rw [g5]
    have g2 : (l == l') = false := by simpa using g1
    clear g5
    go_enter Try.func82, Try.ntmps82
    go_wp2_with fail
    go_ret
    exact ⟨rfl, HB.out⟩
  · rw [g5]
    have g2 : (w == w') = false := by simpa using g1
    clear g5
    go_enter Try.func82, Try.ntmps82
    go_wp2_with fail
    go_ret
    exact ⟨rfl, HB.out⟩
  · rw [g5]
    have g2 : ((rs.length : Int) == (rs'.length : Int)) = false := by rw [beq_eq_false_iff_ne]; omega
    clear g5
    go_enter Try.func82, Try.ntmps82
    go_wp2_with fail
    go_ret
    exact ⟨rfl, HB.out⟩
  · rw [g5]
    have g2 : ((rs.length : Int) == (rs'.length : Int)) = true := by rw [g1]; simp
    clear g5 g1
    go_enter Try.func82, Try.ntmps82
    go_wp2_with fail
    go_ret
    exact ⟨rfl, HB.out⟩
end Go.Proofs.Ytemcdmjnokpldaa
/- Abaci: SameAbacus, impl; IsPlain, both sides. -/
namespace Go.Proofs.Ytemcdmjnokpldaa
open Go.RowKit Go.Joins

theorem two_size (W : World) (x y : Obj) : ((W.alloc x).alloc y).heap.size = W.heap.size + 1 + 1 := by simp

theorem sameAb_set {a : Ab} (h : okAb a = true) : isPl a = (decide (leftV a.rods.length (valR a.w a.rods) = 0) && sameAb ⟨a.u, a.l, a.w, plainRs a.u a.w a.rods.length (valR a.w a.rods)⟩ a) := by
  rw [isPl_iff h]
  congr 1
  unfold sameAb sameB
  simp [plainRs_len]
set_option maxRecDepth 100000 in
set_option maxHeartbeats 1600000 in
theorem IsPlainS_any (B : Nat) (u l w : Int) (v : Value) (rs : List (Int × Int)) (W : World) (h : Rd W B v rs.length 2 (rodsC rs)) (hB : B ≤ W.heap.size) (hm : rs.length ≤ 1048576) : Calls Try.prog 73 #[aggAb u l w v] W fun e w' => e = .returned (.bool (isPl ⟨u, l, w, rs⟩)) ∧ Below W.heap.size W w' := by
  have H := Lib.hid h
  obtain ⟨_, A, c, rfl, _⟩ := h
  have hb1 := (Below.refl W.heap.size W).alloc (Nat.le_refl _) (.cells #[.int .i64 u, .int .i64 l, .int .i64 w, .slice A rs.length c] 26)
  have HA := Lib.hid (AbAt.of (heap_alloc_new W (.cells #[.int .i64 u, .int .i64 l, .int .i64 w, .slice A rs.length c] 26)))
  have HV := Lib.hid (l03Ok_any W.heap.size B u l w (.slice A rs.length c) rs _ HA.out (H.out.below (hb1.mono hB)) hm)
  have HB := Lib.hid hb1
  have HS := Lib.hid (fun val hok h0 h1 wx ha hx hz => l03Set_any B W.heap.size u l w val (.slice A rs.length c) rs wx ha hx hz hok h0 h1)
  have HVL := Lib.hid (fun hok wx ha hx => l03Value_any B W.heap.size u l w (.slice A rs.length c) rs wx ha hx hok)
  have hlt1 : W.heap.size < (W.alloc (.cells #[.int .i64 u, .int .i64 l, .int .i64 w, .slice A rs.length c] 26)).heap.size := by simp
  clear hb1
  cases hok : okAb ⟨u, l, w, rs⟩
  · rw [hok] at HV
    have e1 : isPl ⟨u, l, w, rs⟩ = false := by unfold isPl; rw [hok]; rfl
    rw [e1]
    clear hok HS HVL
    go_enter Try.func73, Try.ntmps73
    go_wp2_with fail
    refine HV.out.mono ?_; rintro e w2 ⟨rfl, n2, rfl⟩
    go_wp2_with fail
    go_ret
    exact ⟨rfl, below_drewN HB.out _⟩
  rw [hok] at HV
  have HR := Lib.hid (sameAb_set hok)
  have hvb := val_bd10 hok 0
  rw [List.drop_zero] at hvb
  obtain ⟨i0, i1⟩ := hvb
  have HS2 := Lib.hid (HS.out (valR w rs) hok i0 (by dsimp only at i1; omega))
  have HVL2 := Lib.hid (HVL.out hok)
  dsimp only at HR
  have hpl := plainRs_len u w rs.length (valR w rs)
  unfold RetSet at HS2
  generalize plainRs u w rs.length (valR w rs) = ps at *
  generalize decide (leftV rs.length (valR w rs) = 0) = z at *
  generalize valR w rs = val at *
  clear hok HS HVL i0 i1
  go_enter Try.func73, Try.ntmps73
  go_wp2_with fail
  refine HV.out.mono ?_; rintro e w2 ⟨rfl, n2, hw2⟩
  have HB2 := Lib.hid (below_eqA hw2)
  have HA2 := Lib.hid (HA.out.below hlt1 HB2.out)
  have HBW2 := Lib.hid (HB.out.trans (HB2.out.mono HB.out.size))
  have HC1 := Lib.hid (HVL2.out w2 HA2.out (H.out.below (HBW2.out.mono hB)))
  have hs2 := HB2.out.size
  clear hw2 HB2
  go_wp2_with fail
  refine HC1.out.mono ?_; rintro e wv ⟨rfl, n3, hw3⟩
  have HB3 := Lib.hid (below_eqA hw3)
  have HA3 := Lib.hid (HA2.out.below (by omega) HB3.out)
  have HBW3 := Lib.hid (HBW2.out.trans (HB3.out.mono HBW2.out.size))
  have HC := Lib.hid (HS2.out wv HA3.out (H.out.below (HBW3.out.mono hB)) (Nat.le_trans hB HBW3.out.size))
  have hs3 := HB3.out.size
  clear hw3 HC1 HB3
  go_wp2_with fail
  refine HC.out.mono ?_; rintro e w3 ⟨v3, rfl, ho3, hb3⟩
  have hbm := (Below.refl w3.heap.size w3).alloc (Nat.le_refl _) (.cells #[.int .i64 u, .int .i64 l, .int .i64 w, v3] 26)
  have HN := Lib.hid (AbAt.of (heap_alloc_new w3 (.cells #[.int .i64 u, .int .i64 l, .int .i64 w, v3] 26)))
  have HO3 := Lib.hid ((Rd.of_own ho3).below hbm)
  obtain ⟨A3, c3', rfl⟩ := own_sl ho3
  have hs4 := hb3.size
  have HA4 := Lib.hid ((HA3.out.below (by omega) hb3).below (by omega) hbm)
  have HBW4 := Lib.hid ((HBW3.out.trans (hb3.mono HBW3.out.size)).trans (hbm.mono (Nat.le_trans HBW3.out.size hb3.size)))
  go_upto_region 4 with (fail)
  generalize w3.alloc (.cells #[.int .i64 u, .int .i64 l, .int .i64 w, .slice A3 rs.length c3'] 26) = w4 at *
  generalize w3.heap.size = q at *
  clear hbm ho3 hb3 HA3 HBW3 HA2 HBW2
  have HSM := Lib.hid (l03Same_any q B q W.heap.size u l w u l w (.slice A3 rs.length c3') (.slice A rs.length c) ps rs w4 HN.out (by rw [hpl]; exact HO3.out) HA4.out (H.out.below (HBW4.out.mono hB)) (by omega) hm)
  cases z with
  | false =>
    go_wp2_with fail
    go_ret
    exact ⟨by rw [HR.out]; rfl, HBW4.out⟩
  | true =>
    generalize sameAb ⟨u, l, w, ps⟩ ⟨u, l, w, rs⟩ = sm at *
    go_wp2_with fail
    refine HSM.out.mono ?_; rintro e w5 ⟨rfl, n5, hw5⟩
    have HB5 := Lib.hid (HBW4.out.trans ((below_eqA hw5).mono HBW4.out.size))
    clear hw5
    go_wp2_with fail
    go_ret
    exact ⟨ret_boolA (HR.out.trans (Bool.true_and _)).symm, HB5.out⟩
theorem plRod_no {a : Ab} {k : Nat} (hk : k < a.rods.length) (h : plRod a a.rods[k] = false) : isPl a = false := by
  unfold isPl
  rw [all_no hk h, Bool.and_false]
theorem plRod_cases (u w : Int) (l : Int) (rs : List (Int × Int)) (x : Int × Int) : (9 < shownR w x ∧ plRod ⟨u, l, w, rs⟩ x = false) ∨ (shownR w x ≤ 9 ∧ x ≠ plainRodA u w (shownR w x) ∧ plRod ⟨u, l, w, rs⟩ x = false) ∨ (shownR w x ≤ 9 ∧ x = plainRodA u w (shownR w x) ∧ plRod ⟨u, l, w, rs⟩ x = true) := by
  unfold plRod
  dsimp only
  by_cases h1 : shownR w x ≤ 9
  · by_cases h2 : x = plainRodA u w (shownR w x)
    · exact .inr (.inr ⟨h1, h2, by rw [decide_eq_true h1, beq_iff_eq.2 h2]; rfl⟩)
    · exact .inr (.inl ⟨h1, h2, by rw [decide_eq_true h1, beq_eq_false_iff_ne.2 h2]; rfl⟩)
  · exact .inl ⟨by omega, by rw [decide_eq_false h1]; rfl⟩
end Go.Proofs.Ytemcdmjnokpldaa
/- Abaci: plain laws of beads. -/
namespace Go.Proofs.Ytemcdmjnokpldaa

/-- a move: the rod, upper and lower beads -/
abbrev Mv := Int × Int × Int
/-- a digit is added to rods, the first of which is rod k -/
def addT (u w : Int) : Nat → List (Int × Int) → Int → Option (List (Int × Int) × List Mv)
  | _, [], more => if more = 0 then some ([], []) else none
  | k, r :: rs, more =>
    if more = 0 then some (r :: rs, [])
    else match addT u w (k + 1) rs ((shownR w r + more) / 10) with
      | none => none
      | some (rs', ms) => some (plainRodA u w ((shownR w r + more) % 10) :: rs', ((k : Int), (plainRodA u w ((shownR w r + more) % 10)).1 - r.1, (plainRodA u w ((shownR w r + more) % 10)).2 - r.2) :: ms)
/-- what is left to be done at rod k -/
def addR (u w : Int) (k : Nat) (more : Int) (cur : List (Int × Int)) (ms : List Mv) : Option (List (Int × Int) × List Mv) :=
  match addT u w k (cur.drop k) more with
  | none => none
  | some (t, m2) => some (cur.take k ++ t, ms ++ m2)
theorem addT_zero (u w : Int) (k : Nat) (rs : List (Int × Int)) : addT u w k rs 0 = some (rs, []) := by
  cases rs <;> simp [addT]
theorem addR_zero (u w : Int) (k : Nat) (cur : List (Int × Int)) (ms : List Mv) : addR u w k 0 cur ms = some (cur, ms) := by
  unfold addR
  rw [addT_zero]
  simp
theorem addR_full (u w : Int) {k : Nat} {more : Int} {cur : List (Int × Int)} {ms : List Mv} (hk : cur.length ≤ k) (hm : more ≠ 0) : addR u w k more cur ms = none := by
  unfold addR
  rw [List.drop_eq_nil_of_le hk]
  simp [addT, hm]
theorem addR_step (u w : Int) {k : Nat} {more : Int} {cur : List (Int × Int)} {ms : List Mv} (hk : k < cur.length) (hm : more ≠ 0) :
    addR u w k more cur ms = addR u w (k + 1) ((shownR w cur[k] + more) / 10) (cur.set k (plainRodA u w ((shownR w cur[k] + more) % 10))) (ms ++ [((k : Int), (plainRodA u w ((shownR w cur[k] + more) % 10)).1 - (cur[k]).1, (plainRodA u w ((shownR w cur[k] + more) % 10)).2 - (cur[k]).2)]) := by
  unfold addR
  rw [List.drop_eq_getElem_cons hk]
  have e1 : (cur.set k (plainRodA u w ((shownR w cur[k] + more) % 10))).drop (k + 1) = cur.drop (k + 1) := List.drop_set_of_lt (by omega)
  have e2 : (cur.set k (plainRodA u w ((shownR w cur[k] + more) % 10))).take (k + 1) = cur.take k ++ [plainRodA u w ((shownR w cur[k] + more) % 10)] := by
    rw [List.take_succ_eq_append_getElem (by rw [List.length_set]; exact hk), List.take_set_of_le (Nat.le_refl _), List.getElem_set_self]
  rw [e1, e2]
  simp only [addT, if_neg hm]
  cases addT u w (k + 1) (cur.drop (k + 1)) ((shownR w cur[k] + more) / 10) with
  | none => rfl
  | some p =>
    obtain ⟨t, m2⟩ := p
    simp
/-- the digits of a value, the least first -/
def digs : Nat → Int → List Int
  | 0, _ => []
  | n + 1, v => if v ≤ 0 then [] else v % 10 :: digs n (v / 10)
/-- digits are added from the place p - 1 down -/
def addD (u w : Int) (ds : List Int) : Nat → List (Int × Int) → List Mv → Option (List (Int × Int) × List Mv)
  | 0, cur, ms => some (cur, ms)
  | p + 1, cur, ms => match addR u w p (ds.getD p 0) cur ms with
    | none => none
    | some (c, m) => addD u w ds p c m
/-- AddOnAbacus: the abacus, the moves and the code -/
def addV (a : Ab) (v : Int) : Ab × List Mv × Int :=
  if okAb a then (if inB v 0 1000000000000 then (if isPl a then (match addD a.u a.w (digs 13 v) (digs 13 v).length a.rods [] with
      | none => (zeroAb, [], 5)
      | some (c, m) => (⟨a.u, a.l, a.w, c⟩, m, 0)) else (zeroAb, [], 6)) else (zeroAb, [], 2)) else (zeroAb, [], 1)
/-- a move of beads -/
def moveC (a : Ab) (rs : List (Int × Int)) (m : Mv) : Int :=
  if inB m.1 0 ((rs.length : Int) - 1) && inB m.2.1 (-4) 4 && inB m.2.2 (-12) 12 then
    (if inB ((rs.getD m.1.toNat (0, 0)).1 + m.2.1) 0 a.u && inB ((rs.getD m.1.toNat (0, 0)).2 + m.2.2) 0 a.l then 0 else 6)
  else 2
def moveR (rs : List (Int × Int)) (m : Mv) : List (Int × Int) := rs.set m.1.toNat ((rs.getD m.1.toNat (0, 0)).1 + m.2.1, (rs.getD m.1.toNat (0, 0)).2 + m.2.2)
/-- moves that are made, up to the first that cannot be made -/
def runM (a : Ab) : List (Int × Int) → List Mv → List (Int × Int) × Nat
  | rs, [] => (rs, 0)
  | rs, m :: ms => if moveC a rs m = 0 then ((runM a (moveR rs m) ms).1, (runM a (moveR rs m) ms).2 + 1) else (rs, 0)
/-- rods that are plain -/
def allPl (a : Ab) (rs : List (Int × Int)) : Prop := ∀ r ∈ rs, rodOk a r = true ∧ plRod a r = true
theorem plain_pl {a : Ab} (h : kindAb a = true) {d : Int} (d0 : 0 ≤ d) (d9 : d ≤ 9) : rodOk a (plainRodA a.u a.w d) = true ∧ plRod a (plainRodA a.u a.w d) = true := by
  refine ⟨plain_ok h d0 d9, ?_⟩
  unfold plRod
  rw [shown_plain, Bool.and_eq_true, decide_eq_true_eq, beq_iff_eq]
  exact ⟨d9, rfl⟩
theorem pl_bd {a : Ab} (h : kindAb a = true) {r : Int × Int} (hr : rodOk a r = true ∧ plRod a r = true) : 0 ≤ shownR a.w r ∧ shownR a.w r ≤ 9 := by
  have h1 := (shown_bd h hr.1).2.2.1
  have h2 := hr.2
  unfold plRod at h2
  rw [Bool.and_eq_true, decide_eq_true_eq] at h2
  exact ⟨h1, h2.1⟩
theorem runM_append (a : Ab) : ∀ (ms : List Mv) (rs : List (Int × Int)) (n : List Mv), (runM a rs ms).2 = ms.length → runM a rs (ms ++ n) = ((runM a (runM a rs ms).1 n).1, ms.length + (runM a (runM a rs ms).1 n).2)
  | [], rs, n, _ => by simp [runM]
  | m :: ms, rs, n, h => by
    by_cases hc : moveC a rs m = 0
    · simp only [runM, if_pos hc] at h ⊢
      have h' : (runM a (moveR rs m) ms).2 = ms.length := by simpa using h
      rw [List.cons_append]
      simp only [runM, if_pos hc]
      rw [runM_append a ms (moveR rs m) n h']
      simp
      omega
    · simp only [runM, if_neg hc] at h
      simp at h
end Go.Proofs.Ytemcdmjnokpldaa
/- Abaci: plain law of adding. -/
namespace Go.Proofs.Ytemcdmjnokpldaa

theorem getD_pre {α : Type} (pre : List α) (r : α) (rs : List α) (d : α) : (pre ++ r :: rs).getD pre.length d = r := by
  simp [List.getD]
theorem set_pre {α : Type} (pre : List α) (r r' : α) (rs : List α) : (pre ++ r :: rs).set pre.length r' = pre ++ r' :: rs := by
  simp
/-- a single move on a rod -/
theorem move_ok {a : Ab} (hk : kindAb a = true) {pre rs : List (Int × Int)} {r r' : Int × Int} (hr : rodOk a r = true) (hr' : rodOk a r' = true) :
    moveC a (pre ++ r :: rs) ((pre.length : Int), r'.1 - r.1, r'.2 - r.2) = 0 ∧ moveR (pre ++ r :: rs) ((pre.length : Int), r'.1 - r.1, r'.2 - r.2) = pre ++ r' :: rs := by
  obtain ⟨h1, h2, h3, h4, _⟩ := kind_bd hk
  obtain ⟨a1, a2, a3, a4⟩ := rodOk_bd hr
  obtain ⟨b1, b2, b3, b4⟩ := rodOk_bd hr'
  have e0 : ((pre.length : Int)).toNat = pre.length := Int.toNat_natCast _
  have e1 : r.1 + (r'.1 - r.1) = r'.1 := by omega
  have e2 : r.2 + (r'.2 - r.2) = r'.2 := by omega
  constructor
  · unfold moveC
    dsimp only
    rw [e0, getD_pre, e1, e2]
    have c1 : (inB (pre.length : Int) 0 (((pre ++ r :: rs).length : Int) - 1) && inB (r'.1 - r.1) (-4) 4 && inB (r'.2 - r.2) (-12) 12) = true := by
      unfold inB
      simp
      omega
    have c2 : (inB r'.1 0 a.u && inB r'.2 0 a.l) = true := by
      unfold inB
      simp
      omega
    rw [if_pos c1, if_pos c2]
  · unfold moveR
    dsimp only
    rw [e0, getD_pre, e1, e2, set_pre]
theorem addT_law {a : Ab} (hk : kindAb a = true) : ∀ (rs : List (Int × Int)) (k : Nat) (d : Int) (rs' : List (Int × Int)) (ms : List Mv), allPl a rs → 0 ≤ d → d ≤ 9 → addT a.u a.w k rs d = some (rs', ms) →
    rs'.length = rs.length ∧ allPl a rs' ∧ valR a.w rs' = valR a.w rs + d ∧ ∀ pre : List (Int × Int), pre.length = k → runM a (pre ++ rs) ms = (pre ++ rs', ms.length) := by
  intro rs
  induction rs with
  | nil =>
    intro k d rs' ms _ d0 _ h
    unfold addT at h
    by_cases hd : d = 0
    · rw [if_pos hd] at h
      injection h with h
      injection h with h1 h2
      subst h1; subst h2; subst hd
      refine ⟨rfl, ?_, rfl, fun pre _ => rfl⟩
      intro r hr
      cases hr
    · rw [if_neg hd] at h; cases h
  | cons r rs ih =>
    intro k d rs' ms hp d0 d9 h
    by_cases hd : d = 0
    · subst hd
      rw [addT_zero] at h
      injection h with h
      injection h with h1 h2
      subst h1; subst h2
      exact ⟨rfl, hp, by omega, fun pre _ => rfl⟩
    · simp only [addT, if_neg hd] at h
      have hpr := hp r (List.mem_cons_self ..)
      obtain ⟨s0, s9⟩ := pl_bd hk hpr
      obtain ⟨q1, q2⟩ := plain_pl hk (d := (shownR a.w r + d) % 10) (by omega) (by omega)
      have hsh : shownR a.w (plainRodA a.u a.w ((shownR a.w r + d) % 10)) = (shownR a.w r + d) % 10 := shown_plain _ _ _
      generalize plainRodA a.u a.w ((shownR a.w r + d) % 10) = r' at *
      cases ht : addT a.u a.w (k + 1) rs ((shownR a.w r + d) / 10) with
      | none => rw [ht] at h; cases h
      | some p =>
        obtain ⟨t, m2⟩ := p
        rw [ht] at h
        dsimp only at h
        injection h with h
        injection h with h1 h2
        subst h1; subst h2
        obtain ⟨i1, i2, i3, i4⟩ := ih (k + 1) _ t m2 (fun x hx => hp x (List.mem_cons_of_mem _ hx)) (by omega) (by omega) ht
        refine ⟨by rw [List.length_cons, List.length_cons, i1], ?_, ?_, ?_⟩
        · intro x hx
          rcases List.mem_cons.1 hx with rfl | hx
          · exact ⟨q1, q2⟩
          · exact i2 x hx
        · show 10 * valR a.w t + shownR a.w r' = 10 * valR a.w rs + shownR a.w r + d
          rw [i3, hsh]
          omega
        · intro pre hpre
          subst hpre
          obtain ⟨c1, c2⟩ := move_ok hk (pre := pre) (rs := rs) hpr.1 q1
          simp only [runM, if_pos c1, c2]
          have i5 := i4 (pre ++ [r']) (by simp)
          rw [List.append_assoc] at i5
          have i6 : runM a (pre ++ r' :: rs) m2 = (pre ++ r' :: t, m2.length) := by
            have : pre ++ ([r'] ++ rs) = pre ++ r' :: rs := rfl
            rw [this] at i5
            rw [i5, List.append_assoc]; rfl
          rw [i6]; rfl
theorem valR_append (w : Int) : ∀ (p q : List (Int × Int)), valR w (p ++ q) = valR w p + 10 ^ p.length * valR w q
  | [], q => by show valR w q = 0 + 10 ^ 0 * valR w q; simp
  | r :: p, q => by
    show 10 * valR w (p ++ q) + shownR w r = (10 * valR w p + shownR w r) + 10 ^ (p.length + 1) * valR w q
    rw [valR_append w p q, Int.pow_succ, Int.mul_add, Int.mul_comm ((10 : Int) ^ p.length) 10, Int.mul_assoc]
    omega
def sumD : List Int → Int
  | [] => 0
  | d :: ds => d + 10 * sumD ds
theorem sumD_take : ∀ (ds : List Int) (p : Nat), p < ds.length → sumD (ds.take (p + 1)) = sumD (ds.take p) + 10 ^ p * ds.getD p 0
  | d :: ds, 0, _ => by simp [sumD]
  | d :: ds, p + 1, h => by
    have ih := sumD_take ds p (by simpa using h)
    show d + 10 * sumD (ds.take (p + 1)) = d + 10 * sumD (ds.take p) + 10 ^ (p + 1) * ds.getD p 0
    rw [ih, Int.pow_succ, Int.mul_add, Int.mul_comm ((10 : Int) ^ p) 10, Int.mul_assoc]
    omega
theorem digs_all : ∀ (n : Nat) (v : Int), ∀ d ∈ digs n v, 0 ≤ d ∧ d ≤ 9
  | 0, _, _, h => by cases h
  | n + 1, v, d, h => by
    unfold digs at h
    split at h
    · cases h
    · rcases List.mem_cons.1 h with rfl | h'
      · omega
      · exact digs_all n _ d h'
theorem digs_sum : ∀ (n : Nat) (v : Int), 0 ≤ v → v < 10 ^ n → sumD (digs n v) = v
  | 0, v, h0, h => by
    have : v < 1 := by simpa using h
    show (0 : Int) = v
    omega
  | n + 1, v, h0, h => by
    unfold digs
    split
    · show (0 : Int) = v; omega
    · show v % 10 + 10 * sumD (digs n (v / 10)) = v
      rw [Int.pow_succ] at h
      rw [digs_sum n (v / 10) (by omega) (by omega)]
      omega
theorem addR_law {a : Ab} (hk : kindAb a = true) {k : Nat} {d : Int} {cur c : List (Int × Int)} {ms m : List Mv} (hp : allPl a cur) (d0 : 0 ≤ d) (d9 : d ≤ 9) (h : addR a.u a.w k d cur ms = some (c, m)) :
    c.length = cur.length ∧ allPl a c ∧ (k ≤ cur.length → valR a.w c = valR a.w cur + 10 ^ k * d) ∧ (cur.length < k → d = 0) ∧ ∃ n, m = ms ++ n ∧ runM a cur n = (c, n.length) := by
  unfold addR at h
  cases ht : addT a.u a.w k (cur.drop k) d with
  | none => rw [ht] at h; cases h
  | some p =>
    obtain ⟨t, m2⟩ := p
    rw [ht] at h
    dsimp only at h
    injection h with h
    injection h with h1 h2
    subst h1; subst h2
    by_cases hkl : k ≤ cur.length
    · obtain ⟨i1, i2, i3, i4⟩ := addT_law hk _ k d t m2 (fun x hx => hp x (List.mem_of_mem_drop hx)) d0 d9 ht
      have hl : (cur.take k).length = k := by rw [List.length_take]; omega
      have i5 := i4 (cur.take k) hl
      rw [List.take_append_drop] at i5
      refine ⟨by rw [List.length_append, hl, i1, List.length_drop]; omega, ?_, fun _ => ?_, fun h => absurd h (by omega), m2, rfl, i5⟩
      · intro x hx
        rcases List.mem_append.1 hx with hx | hx
        · exact hp x (List.mem_of_mem_take hx)
        · exact i2 x hx
      · rw [valR_append, hl, i3, Int.mul_add]
        have e := valR_append a.w (cur.take k) (cur.drop k)
        rw [List.take_append_drop, hl] at e
        rw [e]; omega
    · rw [List.drop_eq_nil_of_le (by omega)] at ht
      by_cases hd : d = 0
      · subst hd
        rw [addT_zero] at ht
        injection ht with ht
        injection ht with h1 h2
        subst h1; subst h2
        have e : cur.take k = cur := List.take_of_length_le (by omega)
        rw [e, List.append_nil]
        exact ⟨rfl, hp, fun h => absurd h hkl, fun _ => rfl, [], rfl, rfl⟩
      · simp [addT, hd] at ht
theorem addD_law {a : Ab} (hk : kindAb a = true) (ds : List Int) (hds : ∀ d ∈ ds, 0 ≤ d ∧ d ≤ 9) : ∀ (p : Nat) (cur c : List (Int × Int)) (ms m : List Mv), p ≤ ds.length → allPl a cur → addD a.u a.w ds p cur ms = some (c, m) →
    c.length = cur.length ∧ allPl a c ∧ valR a.w c = valR a.w cur + sumD (ds.take p) ∧ ∃ n, m = ms ++ n ∧ runM a cur n = (c, n.length) := by
  intro p
  induction p with
  | zero =>
    intro cur c ms m _ hp h
    unfold addD at h
    injection h with h
    injection h with h1 h2
    subst h1; subst h2
    exact ⟨rfl, hp, by show _ = _ + 0; omega, [], by simp, rfl⟩
  | succ p ih =>
    intro cur c ms m hpl hp h
    simp only [addD] at h
    have hd : 0 ≤ ds.getD p 0 ∧ ds.getD p 0 ≤ 9 := by
      have : ds.getD p 0 = ds[p] := by simp [List.getD, List.getElem?_eq_getElem (show p < ds.length by omega)]
      rw [this]; exact hds _ (List.getElem_mem _)
    cases hr : addR a.u a.w p (ds.getD p 0) cur ms with
    | none => rw [hr] at h; cases h
    | some x =>
      obtain ⟨c1, m1⟩ := x
      rw [hr] at h
      dsimp only at h
      obtain ⟨l1, p1, v1, z1, n1, e1, r1⟩ := addR_law hk hp hd.1 hd.2 hr
      obtain ⟨l2, p2, v2, n2, e2, r2⟩ := ih c1 c m1 m (by omega) p1 h
      refine ⟨l2.trans l1, p2, ?_, n1 ++ n2, by rw [e2, e1, List.append_assoc], ?_⟩
      · rw [v2, sumD_take ds p (by omega)]
        by_cases hle : p ≤ cur.length
        · rw [v1 hle]; omega
        · rw [z1 (by omega), Int.mul_zero]
          have hz := z1 (by omega)
          rw [hz] at hr
          rw [addR_zero] at hr
          injection hr with hr
          injection hr with h1 h2
          subst h1; omega
      · rw [runM_append a n1 cur n2 (by rw [r1]), r1, r2]; simp
theorem allPl_of {a : Ab} (h : isPl a = true) : okAb a = true ∧ allPl a a.rods := by
  unfold isPl at h
  rw [Bool.and_eq_true, List.all_eq_true] at h
  refine ⟨h.1, fun r hr => ⟨?_, h.2 r hr⟩⟩
  have := (okAb_and h.1).2.1
  rw [List.all_eq_true] at this
  exact this r hr
/-- the law -/
theorem addV_ok {a : Ab} {v : Int} (h : (addV a v).2.2 = 0) :
    vlC a = 0 ∧ vlC (addV a v).1 = 0 ∧ vlV (addV a v).1 = vlV a + v ∧ isPl (addV a v).1 = true ∧ okAb a = true ∧ (addV a v).1 = ⟨a.u, a.l, a.w, (addV a v).1.rods⟩ ∧ (addV a v).1.rods.length = a.rods.length ∧ runM a a.rods (addV a v).2.1 = ((addV a v).1.rods, (addV a v).2.1.length) := by
  unfold addV at h ⊢
  by_cases h1 : okAb a = true
  · rw [if_pos h1] at h ⊢
    by_cases h2 : inB v 0 1000000000000 = true
    · rw [if_pos h2] at h ⊢
      by_cases h3 : isPl a = true
      · rw [if_pos h3] at h ⊢
        obtain ⟨_, hp⟩ := allPl_of h3
        obtain ⟨hk, _, hn1, hn10⟩ := okAb_and h1
        obtain ⟨v0, v1⟩ := inB_bd h2
        cases hd : addD a.u a.w (digs 13 v) (digs 13 v).length a.rods [] with
        | none =>
          rw [hd] at h
          dsimp only at h
          omega
        | some x =>
          obtain ⟨c, m⟩ := x
          obtain ⟨l1, p1, e1, n, en, rn⟩ := addD_law hk _ (digs_all 13 v) _ _ _ _ _ (Nat.le_refl _) hp hd
          rw [List.take_length, digs_sum 13 v v0 (by omega)] at e1
          have hok : okAb ⟨a.u, a.l, a.w, c⟩ = true := by
            refine okAb_mk hk ?_ (by show 1 ≤ c.length; omega) (by show c.length ≤ 10; omega)
            rw [List.all_eq_true]
            exact fun r hr => (p1 r hr).1
          have hpl : isPl ⟨a.u, a.l, a.w, c⟩ = true := by
            unfold isPl
            rw [hok, Bool.true_and, List.all_eq_true]
            exact fun r hr => (p1 r hr).2
          dsimp only
          unfold vlC vlV
          rw [if_pos h1, if_pos hok, if_pos hok, if_pos h1]
          refine ⟨rfl, rfl, e1, hpl, h1, rfl, l1, ?_⟩
          rw [en, List.nil_append]; exact rn
      · rw [if_neg h3] at h; exact absurd h (by decide)
    · rw [if_neg h2] at h; exact absurd h (by decide)
  · rw [if_neg h1] at h; exact absurd h (by decide)
end Go.Proofs.Ytemcdmjnokpldaa
/- Abaci: plain law of the beads between two settings. -/
namespace Go.Proofs.Ytemcdmjnokpldaa

def absI (x : Int) : Int := if x < 0 then -x else x
def absR (x y : Int × Int) : Int := absI (x.1 - y.1) + absI (x.2 - y.2)
def sumK (rs rs' : List (Int × Int)) : Nat → Int
  | 0 => 0
  | k + 1 => sumK rs rs' k + absR (rs.getD k (0, 0)) (rs'.getD k (0, 0))
def betC (a b : Ab) : Int := if okAb a && okAb b then (if sameB a b then 0 else 6) else 1
def betV (a b : Ab) : Int := if betC a b = 0 then sumK a.rods b.rods a.rods.length else 0
theorem absI_nn (x : Int) : 0 ≤ absI x := by unfold absI; split <;> omega
theorem absI_zero {x : Int} : absI x = 0 ↔ x = 0 := by unfold absI; split <;> omega
theorem absI_neg (x y : Int) : absI (x - y) = absI (y - x) := by unfold absI; split <;> split <;> omega
theorem absR_nn (x y : Int × Int) : 0 ≤ absR x y := by have := absI_nn (x.1 - y.1); have := absI_nn (x.2 - y.2); unfold absR; omega
theorem absR_comm (x y : Int × Int) : absR x y = absR y x := by unfold absR; rw [absI_neg x.1 y.1, absI_neg x.2 y.2]
theorem absR_zero {x y : Int × Int} : absR x y = 0 ↔ x = y := by
  have h1 := absI_nn (x.1 - y.1); have h2 := absI_nn (x.2 - y.2)
  unfold absR
  constructor
  · intro h
    have a1 := absI_zero.1 (show absI (x.1 - y.1) = 0 by omega)
    have a2 := absI_zero.1 (show absI (x.2 - y.2) = 0 by omega)
    exact Prod.ext (by omega) (by omega)
  · rintro rfl
    rw [show x.1 - x.1 = 0 by omega, show x.2 - x.2 = 0 by omega]; rfl
theorem sumK_nn (rs rs' : List (Int × Int)) : ∀ k, 0 ≤ sumK rs rs' k
  | 0 => Int.le_refl 0
  | k + 1 => by have := sumK_nn rs rs' k; have := absR_nn (rs.getD k (0, 0)) (rs'.getD k (0, 0)); show 0 ≤ _ + _; omega
theorem sumK_comm (rs rs' : List (Int × Int)) : ∀ k, sumK rs rs' k = sumK rs' rs k
  | 0 => rfl
  | k + 1 => by show _ + _ = _ + _; rw [sumK_comm rs rs' k, absR_comm]
theorem sumK_zero (rs rs' : List (Int × Int)) : ∀ k, sumK rs rs' k = 0 ↔ ∀ j, j < k → rs.getD j (0, 0) = rs'.getD j (0, 0)
  | 0 => by simp [sumK]
  | k + 1 => by
    have h1 := sumK_nn rs rs' k
    have h2 := absR_nn (rs.getD k (0, 0)) (rs'.getD k (0, 0))
    have ih := sumK_zero rs rs' k
    have e : sumK rs rs' (k + 1) = sumK rs rs' k + absR (rs.getD k (0, 0)) (rs'.getD k (0, 0)) := rfl
    rw [e]
    constructor
    · intro h j hj
      have a1 := ih.1 (by omega)
      have a2 := absR_zero.1 (show absR (rs.getD k (0, 0)) (rs'.getD k (0, 0)) = 0 by omega)
      by_cases hjk : j = k
      · subst hjk; exact a2
      · exact a1 j (by omega)
    · intro h
      have a1 := ih.2 (fun j hj => h j (by omega))
      have a2 := absR_zero.2 (h k (by omega))
      omega
theorem list_getD_eq {rs rs' : List (Int × Int)} (hl : rs.length = rs'.length) (h : ∀ j, j < rs.length → rs.getD j (0, 0) = rs'.getD j (0, 0)) : rs = rs' := by
  apply List.ext_getElem hl
  intro i h1 h2
  have := h i h1
  simpa [List.getD, List.getElem?_eq_getElem h1, List.getElem?_eq_getElem h2] using this
theorem sameB_comm (a b : Ab) : sameB a b = sameB b a := by
  unfold sameB
  rw [Bool.eq_iff_iff]
  simp only [Bool.and_eq_true, beq_iff_eq]
  constructor
  · rintro ⟨⟨⟨h1, h2⟩, h3⟩, h4⟩; exact ⟨⟨⟨h1.symm, h2.symm⟩, h3.symm⟩, h4.symm⟩
  · rintro ⟨⟨⟨h1, h2⟩, h3⟩, h4⟩; exact ⟨⟨⟨h1.symm, h2.symm⟩, h3.symm⟩, h4.symm⟩
theorem bet_law {a b : Ab} (h : betC a b = 0) : betC b a = 0 ∧ betV b a = betV a b ∧ sameAb a b = (betV a b == 0) := by
  have hs : okAb a = true ∧ okAb b = true ∧ sameB a b = true := by
    unfold betC at h
    cases h1 : okAb a <;> cases h2 : okAb b <;> cases h3 : sameB a b <;> simp_all
  obtain ⟨h1, h2, h3⟩ := hs
  have hl : a.rods.length = b.rods.length := by
    have := h3
    unfold sameB at this
    simp only [Bool.and_eq_true, beq_iff_eq] at this
    exact this.2
  have hc : betC b a = 0 := by unfold betC; rw [h1, h2, sameB_comm, h3]; rfl
  have hv : betV a b = sumK a.rods b.rods a.rods.length := by unfold betV; rw [if_pos h]
  have hv' : betV b a = sumK b.rods a.rods b.rods.length := by unfold betV; rw [if_pos hc]
  refine ⟨hc, by rw [hv, hv', sumK_comm, hl], ?_⟩
  rw [hv, Bool.eq_iff_iff, beq_iff_eq, sumK_zero]
  unfold sameAb
  rw [h3, Bool.true_and, decide_eq_true_eq]
  constructor
  · intro e j _; rw [e]
  · intro h; exact list_getD_eq hl h
/-- bounds of a sum -/
theorem sumK_le {a : Ab} (hk : kindAb a = true) {rs rs' : List (Int × Int)} (h : ∀ r ∈ rs, rodOk a r = true) (h' : ∀ r ∈ rs', rodOk a r = true) : ∀ k, k ≤ rs.length → k ≤ rs'.length → 0 ≤ sumK rs rs' k ∧ sumK rs rs' k ≤ 16 * k
  | 0, _, _ => ⟨Int.le_refl 0, Int.le_refl 0⟩
  | k + 1, h1, h2 => by
    obtain ⟨i1, i2⟩ := sumK_le hk h h' k (by omega) (by omega)
    obtain ⟨b1, b2, b3, b4, _⟩ := kind_bd hk
    have e1 : rs.getD k (0, 0) = rs[k] := by simp [List.getD, List.getElem?_eq_getElem (show k < rs.length by omega)]
    have e2 : rs'.getD k (0, 0) = rs'[k] := by simp [List.getD, List.getElem?_eq_getElem (show k < rs'.length by omega)]
    have r1 := rodOk_bd (h _ (List.getElem_mem (show k < rs.length by omega)))
    have r2 := rodOk_bd (h' _ (List.getElem_mem (show k < rs'.length by omega)))
    show 0 ≤ sumK rs rs' k + absR _ _ ∧ sumK rs rs' k + absR _ _ ≤ 16 * ((k + 1 : Nat) : Int)
    rw [e1, e2]
    generalize rs[k] = x at *
    generalize rs'[k] = y at *
    unfold absR absI
    split <;> split <;> omega
/-- the cases of a move -/
theorem moveC_cases (a : Ab) (rs : List (Int × Int)) (m : Mv) :
    (inB m.1 0 ((rs.length : Int) - 1) = false ∧ moveC a rs m = 2) ∨ (inB m.1 0 ((rs.length : Int) - 1) = true ∧ inB m.2.1 (-4) 4 = false ∧ moveC a rs m = 2) ∨ (inB m.1 0 ((rs.length : Int) - 1) = true ∧ inB m.2.1 (-4) 4 = true ∧ inB m.2.2 (-12) 12 = false ∧ moveC a rs m = 2) ∨
    (inB m.1 0 ((rs.length : Int) - 1) = true ∧ inB m.2.1 (-4) 4 = true ∧ inB m.2.2 (-12) 12 = true ∧ inB ((rs.getD m.1.toNat (0, 0)).1 + m.2.1) 0 a.u = false ∧ moveC a rs m = 6) ∨
    (inB m.1 0 ((rs.length : Int) - 1) = true ∧ inB m.2.1 (-4) 4 = true ∧ inB m.2.2 (-12) 12 = true ∧ inB ((rs.getD m.1.toNat (0, 0)).1 + m.2.1) 0 a.u = true ∧ inB ((rs.getD m.1.toNat (0, 0)).2 + m.2.2) 0 a.l = false ∧ moveC a rs m = 6) ∨
    (inB m.1 0 ((rs.length : Int) - 1) = true ∧ inB m.2.1 (-4) 4 = true ∧ inB m.2.2 (-12) 12 = true ∧ inB ((rs.getD m.1.toNat (0, 0)).1 + m.2.1) 0 a.u = true ∧ inB ((rs.getD m.1.toNat (0, 0)).2 + m.2.2) 0 a.l = true ∧ moveC a rs m = 0) := by
  unfold moveC
  cases inB m.1 0 ((rs.length : Int) - 1) <;> cases inB m.2.1 (-4) 4 <;> cases inB m.2.2 (-12) 12 <;> cases inB ((rs.getD m.1.toNat (0, 0)).1 + m.2.1) 0 a.u <;> cases inB ((rs.getD m.1.toNat (0, 0)).2 + m.2.2) 0 a.l <;> simp
end Go.Proofs.Ytemcdmjnokpldaa
/- Beads: BeadsBetween, both sides. -/
namespace Go.Proofs.Ytemcdmjnokpldaa
open Go.RowKit Go.Joins

theorem absoluteB_any (x : Int) (w : World) (h1 : -1000 ≤ x) (h2 : x ≤ 1000) : Calls Try.prog 83 #[.int .i64 x] w fun e w' => e = .returned (.int .i64 (absI x)) ∧ w' = w := by
  by_cases h : x < 0
  · have e : absI x = -x := if_pos h
    rw [e]
    have hw : IntKind.i64.wrap (-x) = -x := IntWalk.i64_in _ (by omega)
    go_enter Try.func83, Try.ntmps83
    go_wp2_with fail
    go_ret
    exact ⟨rfl, rfl⟩
  · have e : absI x = x := if_neg h
    rw [e]
    go_enter Try.func83, Try.ntmps83
    go_wp2_with fail
    go_ret
    exact ⟨rfl, rfl⟩
theorem l00Max_any (a b : Int) (w : World) : Calls Try.prog 141 #[.int .i64 a, .int .i64 b] w fun e w' => e = .returned (.int .i64 (max a b)) ∧ w' = w := by
  by_cases h : b < a
  · have e : max a b = a := by omega
    rw [e]
    go_enter Try.func141, Try.ntmps141
    go_wp2_with fail
    go_ret
    exact ⟨rfl, rfl⟩
  · have e : max a b = b := by omega
    rw [e]
    go_enter Try.func141, Try.ntmps141
    go_wp2_with fail
    go_ret
    exact ⟨rfl, rfl⟩
theorem l03SizeB_any (x : Int) (w : World) (h1 : -1000 ≤ x) (h2 : x ≤ 1000) : Calls Try.prog 84 #[.int .i64 x] w fun e w' => e = .returned (.int .i64 (absI x)) ∧ w' = w := by
  have e : max x (-x) = absI x := by unfold absI; split <;> omega
  have HM := Lib.hid (fun wx => l00Max_any x (-x) wx)
  rw [e] at HM
  have hw : IntKind.i64.wrap (-x) = -x := IntWalk.i64_in _ (by omega)
  generalize absI x = z at *
  clear e
  go_enter Try.func84, Try.ntmps84
  go_wp2_with fail
  refine (HM.out _).mono ?_; rintro e w1 ⟨rfl, rfl⟩
  go_wp2_with fail
  go_ret
  exact ⟨rfl, rfl⟩
theorem betC_no {a b : Ab} (h : okAb a = false ∨ okAb b = false) : betC a b = 1 ∧ betV a b = 0 := by
  have e : betC a b = 1 := by unfold betC; rcases h with h | h <;> rw [h] <;> simp
  refine ⟨e, ?_⟩
  unfold betV; rw [e]; rfl
theorem betC_st {a b : Ab} (h1 : okAb a = true) (h2 : okAb b = true) (h : sameB a b = false) : betC a b = 6 ∧ betV a b = 0 := by
  have e : betC a b = 6 := by unfold betC; rw [h1, h2, h]; rfl
  refine ⟨e, ?_⟩
  unfold betV; rw [e]; rfl
theorem betC_ok {a b : Ab} (h1 : okAb a = true) (h2 : okAb b = true) (h : sameB a b = true) : betC a b = 0 ∧ betV a b = sumK a.rods b.rods a.rods.length := by
  have e : betC a b = 0 := by unfold betC; rw [h1, h2, h]; rfl
  refine ⟨e, ?_⟩
  unfold betV; rw [e]; rfl
set_option maxRecDepth 100000 in
set_option maxHeartbeats 3200000 in
theorem BetI_any (B : Nat) (u l w u' l' w' : Int) (v v' : Value) (rs rs' : List (Int × Int)) (W : World) (hr : Rd W B v rs.length 2 (rodsC rs)) (hr' : Rd W B v' rs'.length 2 (rodsC rs')) (hB : B ≤ W.heap.size) (hm : rs.length ≤ 1048576) (hm' : rs'.length ≤ 1048576) :
    Calls Try.prog 18 #[aggAb u l w v, aggAb u' l' w' v'] W fun e w'' => e = .returned (.tuple #[.int .i64 (betV ⟨u, l, w, rs⟩ ⟨u', l', w', rs'⟩), .int .i64 (betC ⟨u, l, w, rs⟩ ⟨u', l', w', rs'⟩)]) ∧ Below W.heap.size W w'' := by
  have H := Lib.hid hr
  have H' := Lib.hid hr'
  obtain ⟨_, A, c, rfl, _⟩ := hr
  obtain ⟨_, A', c', rfl, _⟩ := hr'
  obtain ⟨h1, h2, h3⟩ := two_blocks W #[.int .i64 u, .int .i64 l, .int .i64 w, .slice A rs.length c] #[.int .i64 u', .int .i64 l', .int .i64 w', .slice A' rs'.length c'] 26 26
  have HB := Lib.hid h3
  have Q1 := Lib.hid h1
  have Q2 := Lib.hid h2
  have HVa := Lib.hid (fun wx hx hz => ValidAbI_any B u l w (.slice A rs.length c) rs wx hx hz hm)
  have HVb := Lib.hid (fun wx hx hz => ValidAbI_any B u' l' w' (.slice A' rs'.length c') rs' wx hx hz hm')
  have HS := Lib.hid (fun wx => sameBeads_any u l w u' l' w' A A' c c' rs rs' wx hm hm')
  have hz := two_size W (.cells #[.int .i64 u, .int .i64 l, .int .i64 w, .slice A rs.length c] 26) (.cells #[.int .i64 u', .int .i64 l', .int .i64 w', .slice A' rs'.length c'] 26)
  have HVa1 := Lib.hid (HVa.out _ (H.out.below (h3.mono hB)) (Nat.le_trans hB h3.size))
  obtain ⟨a0, a1, a2, a3⟩ := four_at h1
  obtain ⟨b0, b1, b2, b3⟩ := four_at h2
  clear h1 h2 h3
  cases oa : okAb ⟨u, l, w, rs⟩
  · obtain ⟨e1, e2⟩ := betC_no (a := ⟨u, l, w, rs⟩) (b := ⟨u', l', w', rs'⟩) (.inl oa)
    rw [e1, e2]
    rw [oa] at HVa1
    clear e1 e2 hz
    go_enter Try.func18, Try.ntmps18
    go_wp2_with fail
    refine HVa1.out.mono ?_; rintro e w1 ⟨rfl, hb1⟩
    have HB1 := Lib.hid (HB.out.trans (hb1.mono HB.out.size))
    clear hb1
    go_wp2_with fail
    go_ret2
    exact ⟨rfl, HB1.out⟩
  rw [oa] at HVa1
  cases ob : okAb ⟨u', l', w', rs'⟩
  · obtain ⟨e1, e2⟩ := betC_no (a := ⟨u, l, w, rs⟩) (b := ⟨u', l', w', rs'⟩) (.inr ob)
    rw [e1, e2]
    rw [ob] at HVb
    clear e1 e2
    go_enter Try.func18, Try.ntmps18
    go_wp2_with fail
    refine HVa1.out.mono ?_; rintro e w1 ⟨rfl, hb1⟩
    have HB1 := Lib.hid (HB.out.trans (hb1.mono HB.out.size))
    obtain ⟨d0, d1, d2, d3⟩ := four_at ((hb1.block _ (by omega)).trans Q2.out)
    have HVb1 := Lib.hid (HVb.out w1 (H'.out.below (HB1.out.mono hB)) (Nat.le_trans hB HB1.out.size))
    clear hb1 a0 a1 a2 a3 b0 b1 b2 b3 hz
    go_wp2_with fail
    refine HVb1.out.mono ?_; rintro e w2 ⟨rfl, hb2⟩
    have HB2 := Lib.hid (HB1.out.trans (hb2.mono HB1.out.size))
    clear hb2 d0 d1 d2 d3
    go_wp2_with fail
    go_ret2
    exact ⟨rfl, HB2.out⟩
  rw [ob] at HVb
  cases os : sameB ⟨u, l, w, rs⟩ ⟨u', l', w', rs'⟩
  · obtain ⟨e1, e2⟩ := betC_st oa ob os
    rw [e1, e2]
    rw [os] at HS
    clear e1 e2
    go_enter Try.func18, Try.ntmps18
    go_wp2_with fail
    refine HVa1.out.mono ?_; rintro e w1 ⟨rfl, hb1⟩
    have HB1 := Lib.hid (HB.out.trans (hb1.mono HB.out.size))
    have q11 := (hb1.block _ (by omega)).trans Q1.out
    have q21 := (hb1.block _ (by omega)).trans Q2.out
    have hs1 := hb1.size
    obtain ⟨d0, d1, d2, d3⟩ := four_at q21
    have HVb1 := Lib.hid (HVb.out w1 (H'.out.below (HB1.out.mono hB)) (Nat.le_trans hB HB1.out.size))
    have Q11 := Lib.hid q11
    have Q21 := Lib.hid q21
    clear hb1 a0 a1 a2 a3 b0 b1 b2 b3 q11 q21
    go_wp2_with fail
    refine HVb1.out.mono ?_; rintro e w2 ⟨rfl, hb2⟩
    have HB2 := Lib.hid (HB1.out.trans (hb2.mono HB1.out.size))
    have q12 := (hb2.block _ (by omega)).trans Q11.out
    have q22 := (hb2.block _ (by omega)).trans Q21.out
    clear hb2 d0 d1 d2 d3
    obtain ⟨d0, d1, d2, d3⟩ := four_at q12
    obtain ⟨b0, b1, b2, b3⟩ := four_at q22
    clear q12 q22 hz hs1
    go_wp2_with fail
    refine (HS.out _).mono ?_; rintro e w3 ⟨rfl, hb3⟩
    have HB3 := Lib.hid (HB2.out.trans (hb3.mono HB2.out.size))
    clear hb3
    go_wp2_with fail
    go_ret2
    exact ⟨rfl, HB3.out⟩
  obtain ⟨e1, e2⟩ := betC_ok oa ob os
  rw [e1]
  have HV := Lib.hid e2
  rw [os] at HS
  have hln : rs.length = rs'.length := by
    unfold sameB at os
    simp only [Bool.and_eq_true, beq_iff_eq] at os
    exact os.2
  have huu : u = u' ∧ l = l' ∧ w = w' := by
    unfold sameB at os
    simp only [Bool.and_eq_true, beq_iff_eq] at os
    exact ⟨os.1.1.1, os.1.1.2, os.1.2⟩
  obtain ⟨rfl, rfl, rfl⟩ := huu
  have hka := (okAb_and oa).1
  have hra : ∀ r ∈ rs, rodOk ⟨u, l, w, rs⟩ r = true := by have := (okAb_and oa).2.1; rwa [List.all_eq_true] at this
  have hrb : ∀ r ∈ rs', rodOk ⟨u, l, w, rs⟩ r = true := by have := (okAb_and ob).2.1; rw [List.all_eq_true] at this; exact this
  have h10 := (okAb_and oa).2.2.2
  obtain ⟨u0, u4, l1, l12, _⟩ := kind_bd hka
  have HSB := Lib.hid (fun k h1 h2 => sumK_le hka hra hrb k h1 h2)
  have HRa := Lib.hid (fun k (hk : k < rs.length) => rodOk_bd (hra _ (List.getElem_mem hk)))
  have HRb := Lib.hid (fun k (hk : k < rs'.length) => rodOk_bd (hrb _ (List.getElem_mem hk)))
  have HAb := Lib.hid (fun x wx h1 h2 => absoluteB_any x wx h1 h2)
  have HG := Lib.hid hln
  dsimp only at h10 u0 u4 l1 l12 HRa HRb HV
  clear e1 e2 hka hra hrb hln oa ob os
  go_enter Try.func18, Try.ntmps18
  go_wp2_with fail
  refine HVa1.out.mono ?_; rintro e w1 ⟨rfl, hb1⟩
  have HB1 := Lib.hid (HB.out.trans (hb1.mono HB.out.size))
  have q11 := (hb1.block _ (by omega)).trans Q1.out
  have q21 := (hb1.block _ (by omega)).trans Q2.out
  have hs1 := hb1.size
  obtain ⟨d0, d1, d2, d3⟩ := four_at q21
  have HVb1 := Lib.hid (HVb.out w1 (H'.out.below (HB1.out.mono hB)) (Nat.le_trans hB HB1.out.size))
  have Q11 := Lib.hid q11
  have Q21 := Lib.hid q21
  clear hb1 a0 a1 a2 a3 b0 b1 b2 b3 q11 q21
  go_wp2_with fail
  refine HVb1.out.mono ?_; rintro e w2 ⟨rfl, hb2⟩
  have HB2 := Lib.hid (HB1.out.trans (hb2.mono HB1.out.size))
  have q12 := (hb2.block _ (by omega)).trans Q11.out
  have q22 := (hb2.block _ (by omega)).trans Q21.out
  have hs2 := hb2.size
  have Q12 := Lib.hid q12
  have Q22 := Lib.hid q22
  clear hb2 d0 d1 d2 d3
  obtain ⟨d0, d1, d2, d3⟩ := four_at q12
  obtain ⟨b0, b1, b2, b3⟩ := four_at q22
  clear q12 q22
  go_wp2_with fail
  refine (HS.out _).mono ?_; rintro e w3 ⟨rfl, hb3⟩
  have HB3 := Lib.hid (HB2.out.trans (hb3.mono HB2.out.size))
  have HA3 := Lib.hid (AbAt.of ((hb3.block _ (by omega)).trans Q12.out))
  have HA3' := Lib.hid (AbAt.of ((hb3.block _ (by omega)).trans Q22.out))
  have HW1 := Lib.hid (H.out.below (HB3.out.mono hB))
  have HW2 := Lib.hid (H'.out.below (HB3.out.mono hB))
  clear hb3 d0 d1 d2 d3 b0 b1 b2 b3 hs1 hs2 hz Q12 Q22 Q11 Q21 HB2 HB1
  obtain ⟨a0, a1, a2, a3⟩ := HA3.out
  go_wp2_with fail
  clear a0 a1 a2 a3
  go_loopw [6, 23] (fun s i wr => ∃ k n : Nat, k ≤ rs.length ∧ i = .int .i64 (k : Int) ∧ s = .int .i64 (sumK rs rs' k) ∧ wr = w3.drewN n) (fun _ i _ => rs.length - (intOf i).toNat)
  case atStart => exact ⟨0, 0, Nat.zero_le _, rfl, rfl, rfl⟩
  case round =>
    obtain ⟨k, n, hk, rfl, rfl, hwr⟩ := hrel
    have Hw := Lib.hid hwr
    obtain ⟨a0, a1, a2, a3⟩ : AbAt wr W.heap.size u l w (.slice A rs.length c) := by rw [hwr]; exact HA3.out.drewN n
    obtain ⟨b0, b1, b2, b3⟩ : AbAt wr (W.heap.size + 1) u l w (.slice A' rs'.length c') := by rw [hwr]; exact HA3'.out.drewN n
    have HD := Lib.hid (fun m => (show wr.drewN m = w3.drewN (n + m) by rw [hwr, World.drewN_drewN]))
    have HX1 : Hid (Rd wr B (.slice A rs.length c) rs.length 2 (rodsC rs)) := Lib.hid (by rw [hwr]; exact HW1.out)
    have HX2 : Hid (Rd wr B (.slice A' rs'.length c') rs'.length 2 (rodsC rs')) := Lib.hid (by rw [hwr]; exact HW2.out)
    have g1 := HG.out
    obtain ⟨sb0, sb1⟩ := HSB.out k hk (by omega)
    clear hwr
    by_cases hlt : k < rs.length
    · have hlt' : (k : Int) < (rs.length : Int) := by omega
      have hl2 : k < rs'.length := by omega
      have hlt2 : (k : Int) < (rs'.length : Int) := by omega
      obtain ⟨b, off, hA, _, hcc⟩ := rods_at HX1.out (by omega)
      subst hA
      obtain ⟨r0, r1⟩ := hcc k hlt
      obtain ⟨b', off', hA', _, hcc'⟩ := rods_at HX2.out (by omega)
      subst hA'
      obtain ⟨s0, s1⟩ := hcc' k hl2
      have hx := HRa.out k hlt
      have hy := HRb.out k hl2
      have HSu := Lib.hid (show sumK rs rs' (k + 1) = sumK rs rs' k + absR rs[k] rs'[k] by
        show sumK rs rs' k + absR (rs.getD k (0, 0)) (rs'.getD k (0, 0)) = _
        rw [show rs.getD k (0, 0) = rs[k] by simp [List.getD, List.getElem?_eq_getElem hlt], show rs'.getD k (0, 0) = rs'[k] by simp [List.getD, List.getElem?_eq_getElem hl2]])
      have HAR := Lib.hid (show absR rs[k] rs'[k] = absI ((rs[k]).1 - (rs'[k]).1) + absI ((rs[k]).2 - (rs'[k]).2) from rfl)
      generalize absR rs[k] rs'[k] = ar at *
      generalize rs[k] = x at *
      generalize rs'[k] = y at *
      obtain ⟨x0, x1⟩ := x
      obtain ⟨y0, y1⟩ := y
      dsimp only at r0 r1 s0 s1 hx hy HAR
      have HA0 := Lib.hid (fun wx => HAb.out (x0 - y0) wx (by omega) (by omega))
      have HA1 := Lib.hid (fun wx => HAb.out (x1 - y1) wx (by omega) (by omega))
      have n0 := absI_nn (x0 - y0)
      have n1 := absI_nn (x1 - y1)
      have m0 : absI (x0 - y0) ≤ 100 := by unfold absI; split <;> omega
      have m1 : absI (x1 - y1) ≤ 100 := by unfold absI; split <;> omega
      have hw1 : IntKind.i64.wrap (x0 - y0) = x0 - y0 := IntWalk.i64_in _ (by omega)
      have hw2 : IntKind.i64.wrap (x1 - y1) = x1 - y1 := IntWalk.i64_in _ (by omega)
      generalize absI (x0 - y0) = z0 at *
      generalize absI (x1 - y1) = z1 at *
      generalize sumK rs rs' k = s at *
      have hw3 : IntKind.i64.wrap (z0 + z1) = z0 + z1 := IntWalk.i64_in _ (by omega)
      have hw4 : IntKind.i64.wrap (s + (z0 + z1)) = s + (z0 + z1) := IntWalk.i64_in _ (by omega)
      clear hcc hcc' g1 hx hy
      go_wp2_with fail
      go_quiet ((go_at_call 83; first | (with_reducible exact Calls.quiet_of_same (HA0.out _)) | (with_reducible exact Calls.quiet_of_same (HA1.out _))))
      go_wp2_with fail
      go_roundw
      case rel => exact ⟨k + 1, _, by omega, by go_num, by rw [HSu.out, HAR.out], HD.out _⟩
      case measure => first | (simp [intOf]; done) | (simp [intOf]; omega)
    · have hkn : k = rs.length := by omega
      have hlt' : ¬ (k : Int) < (rs.length : Int) := by omega
      have HF := Lib.hid (show sumK rs rs' k = betV ⟨u, l, w, rs⟩ ⟨u, l, w, rs'⟩ by rw [HV.out, hkn])
      generalize sumK rs rs' k = s at *
      clear hkn
      go_wp2_with fail
      go_ret2
      exact ⟨ret2i HF.out rfl, by rw [Hw.out]; exact below_drewN HB3.out _⟩
end Go.Proofs.Ytemcdmjnokpldaa
/- Beads: BeadsBetween, spec. -/
namespace Go.Proofs.Ytemcdmjnokpldaa
open Go.RowKit Go.Joins

set_option maxRecDepth 100000 in
set_option maxHeartbeats 3200000 in
theorem BetS_any (B : Nat) (u l w u' l' w' : Int) (v v' : Value) (rs rs' : List (Int × Int)) (W : World) (hr : Rd W B v rs.length 2 (rodsC rs)) (hr' : Rd W B v' rs'.length 2 (rodsC rs')) (hB : B ≤ W.heap.size) (hm : rs.length ≤ 1048576) (hm' : rs'.length ≤ 1048576) :
    Calls Try.prog 19 #[aggAb u l w v, aggAb u' l' w' v'] W fun e w'' => e = .returned (.tuple #[.int .i64 (betV ⟨u, l, w, rs⟩ ⟨u', l', w', rs'⟩), .int .i64 (betC ⟨u, l, w, rs⟩ ⟨u', l', w', rs'⟩)]) ∧ Below W.heap.size W w'' := by
  obtain ⟨h1, h2, h3⟩ := two_blocks W #[.int .i64 u, .int .i64 l, .int .i64 w, v] #[.int .i64 u', .int .i64 l', .int .i64 w', v'] 26 26
  have HB := Lib.hid h3
  have HA := Lib.hid (AbAt.of h1)
  have HA' := Lib.hid (AbAt.of h2)
  have H := Lib.hid (hr.below (h3.mono hB))
  have H' := Lib.hid (hr'.below (h3.mono hB))
  obtain ⟨_, A, c, rfl, _⟩ := hr
  obtain ⟨_, A', c', rfl, _⟩ := hr'
  clear h1 h2 h3
  have hWx : ∃ Wx, Wx = (W.alloc (.cells #[.int .i64 u, .int .i64 l, .int .i64 w, .slice A rs.length c] 26)).alloc (.cells #[.int .i64 u', .int .i64 l', .int .i64 w', .slice A' rs'.length c'] 26) := ⟨_, rfl⟩
  go_enter Try.func19, Try.ntmps19
  go_upto_region 1 with (fail)
  clear hWx
  generalize (W.alloc (.cells #[.int .i64 u, .int .i64 l, .int .i64 w, .slice A rs.length c] 26)).alloc (.cells #[.int .i64 u', .int .i64 l', .int .i64 w', .slice A' rs'.length c'] 26) = Wx at *
  have HVa := Lib.hid (l03Ok_any W.heap.size B u l w (.slice A rs.length c) rs Wx HA.out H.out hm)
  have HVb := Lib.hid (fun n => l03Ok_any (W.heap.size + 1) B u' l' w' (.slice A' rs'.length c') rs' (Wx.drewN n) (HA'.out.drewN n) (H'.out.drewN n) hm')
  cases oa : okAb ⟨u, l, w, rs⟩
  · obtain ⟨e1, e2⟩ := betC_no (a := ⟨u, l, w, rs⟩) (b := ⟨u', l', w', rs'⟩) (.inl oa)
    have E1 := Lib.hid e1
    have E2 := Lib.hid e2
    rw [oa] at HVa
    clear e1 e2
    go_wp2_with fail
    refine HVa.out.mono ?_; rintro e w1 ⟨rfl, n1, rfl⟩
    go_wp2_with fail
    go_ret2
    exact ⟨ret2i E2.out.symm E1.out.symm, below_drewN HB.out _⟩
  rw [oa] at HVa
  cases ob : okAb ⟨u', l', w', rs'⟩
  · obtain ⟨e1, e2⟩ := betC_no (a := ⟨u, l, w, rs⟩) (b := ⟨u', l', w', rs'⟩) (.inr ob)
    have E1 := Lib.hid e1
    have E2 := Lib.hid e2
    rw [ob] at HVb
    clear e1 e2
    go_wp2_with fail
    refine HVa.out.mono ?_; rintro e w1 ⟨rfl, n1, rfl⟩
    go_wp2_with fail
    refine (HVb.out n1).mono ?_; rintro e w2 ⟨rfl, n2, rfl⟩
    go_wp2_with fail
    go_ret2
    exact ⟨ret2i E2.out.symm E1.out.symm, below_drewN HB.out _⟩
  rw [ob] at HVb
  go_wp2_with fail
  refine HVa.out.mono ?_; rintro e w1 ⟨rfl, n1, rfl⟩
  go_wp2_with fail
  refine (HVb.out n1).mono ?_; rintro e w2 ⟨rfl, n2, hw2⟩
  obtain ⟨a0, a1, a2, a3⟩ : AbAt w2 W.heap.size u l w (.slice A rs.length c) := by rw [hw2]; exact (HA.out.drewN n1).drewN n2
  obtain ⟨b0, b1, b2, b3⟩ : AbAt w2 (W.heap.size + 1) u' l' w' (.slice A' rs'.length c') := by rw [hw2]; exact (HA'.out.drewN n1).drewN n2
  have HW2 : Hid (w2 = Wx.drewN (n1 + n2)) := Lib.hid (by rw [hw2, World.drewN_drewN])
  have HBb := Lib.hid (show Below W.heap.size W w2 by rw [HW2.out]; exact below_drewN HB.out _)
  clear hw2
  rcases sameB_cases u l w u' l' w' rs rs' with ⟨g1, g5⟩ | ⟨rfl, g1, g5⟩ | ⟨rfl, rfl, g1, g5⟩ | ⟨rfl, rfl, rfl, g1, g5⟩ | ⟨rfl, rfl, rfl, g1, g5⟩
  · obtain ⟨e1, e2⟩ := betC_st oa ob g5
    have E1 := Lib.hid e1
    have E2 := Lib.hid e2
    clear e1 e2 g5 oa ob
    go_wp2_with fail
    go_ret2
    exact ⟨ret2i E2.out.symm E1.out.symm, HBb.out⟩
  · obtain ⟨e1, e2⟩ := betC_st oa ob g5
    have E1 := Lib.hid e1
    have E2 := Lib.hid e2
    clear e1 e2 g5 oa ob
    go_wp2_with fail
    go_ret2
    exact ⟨ret2i E2.out.symm E1.out.symm, HBb.out⟩
  · obtain ⟨e1, e2⟩ := betC_st oa ob g5
    have E1 := Lib.hid e1
    have E2 := Lib.hid e2
    clear e1 e2 g5 oa ob
    go_wp2_with fail
    go_ret2
    exact ⟨ret2i E2.out.symm E1.out.symm, HBb.out⟩
  · obtain ⟨e1, e2⟩ := betC_st oa ob g5
    have E1 := Lib.hid e1
    have E2 := Lib.hid e2
    have g2 : ((rs.length : Int) != (rs'.length : Int)) = true := by rw [bne_iff_ne]; omega
    clear e1 e2 g5 oa ob
    go_wp2_with fail
    go_ret2
    exact ⟨ret2i E2.out.symm E1.out.symm, HBb.out⟩
  · obtain ⟨e1, e2⟩ := betC_ok oa ob g5
    have E1 := Lib.hid e1
    have HV := Lib.hid e2
    have hka := (okAb_and oa).1
    have hra : ∀ r ∈ rs, rodOk ⟨u, l, w, rs⟩ r = true := by have := (okAb_and oa).2.1; rwa [List.all_eq_true] at this
    have hrb : ∀ r ∈ rs', rodOk ⟨u, l, w, rs⟩ r = true := by have := (okAb_and ob).2.1; rw [List.all_eq_true] at this; exact this
    have h10 := (okAb_and oa).2.2.2
    obtain ⟨u0, u4, l1, l12, _⟩ := kind_bd hka
    have HSB := Lib.hid (fun k h1 h2 => sumK_le hka hra hrb k h1 h2)
    have HRa := Lib.hid (fun k (hk : k < rs.length) => rodOk_bd (hra _ (List.getElem_mem hk)))
    have HRb := Lib.hid (fun k (hk : k < rs'.length) => rodOk_bd (hrb _ (List.getElem_mem hk)))
    have HAb := Lib.hid (fun x wx h1 h2 => l03SizeB_any x wx h1 h2)
    have HG := Lib.hid g1
    have g2 : ((rs.length : Int) != (rs'.length : Int)) = false := by rw [g1]; simp
    dsimp only at h10 u0 u4 l1 l12 HRa HRb HV
    clear e1 e2 hka hra hrb g1 oa ob g5
    go_wp2_with fail
    clear a0 a1 a2 a3 b0 b1 b2 b3 g2
    go_loopw [6, 7] (fun s i wr => ∃ k n : Nat, k ≤ rs.length ∧ i = .int .i64 (k : Int) ∧ s = .int .i64 (sumK rs rs' k) ∧ wr = Wx.drewN n) (fun _ i _ => rs.length - (intOf i).toNat)
    case atStart => exact ⟨0, _, Nat.zero_le _, rfl, rfl, HW2.out⟩
    case round =>
      obtain ⟨k, n, hk, rfl, rfl, hwr⟩ := hrel
      have Hw := Lib.hid hwr
      obtain ⟨a0, a1, a2, a3⟩ : AbAt wr W.heap.size u l w (.slice A rs.length c) := by rw [hwr]; exact HA.out.drewN n
      obtain ⟨b0, b1, b2, b3⟩ : AbAt wr (W.heap.size + 1) u l w (.slice A' rs'.length c') := by rw [hwr]; exact HA'.out.drewN n
      have HD := Lib.hid (fun m => (show wr.drewN m = Wx.drewN (n + m) by rw [hwr, World.drewN_drewN]))
      have HX1 : Hid (Rd wr B (.slice A rs.length c) rs.length 2 (rodsC rs)) := Lib.hid (by rw [hwr]; exact H.out)
      have HX2 : Hid (Rd wr B (.slice A' rs'.length c') rs'.length 2 (rodsC rs')) := Lib.hid (by rw [hwr]; exact H'.out)
      have g1 := HG.out
      obtain ⟨sb0, sb1⟩ := HSB.out k hk (by omega)
      clear hwr
      by_cases hlt : k < rs.length
      · have hlt' : (k : Int) < (rs.length : Int) := by omega
        have hl2 : k < rs'.length := by omega
        have hlt2 : (k : Int) < (rs'.length : Int) := by omega
        obtain ⟨b, off, hA, _, hcc⟩ := rods_at HX1.out (by omega)
        subst hA
        obtain ⟨r0, r1⟩ := hcc k hlt
        obtain ⟨b', off', hA', _, hcc'⟩ := rods_at HX2.out (by omega)
        subst hA'
        obtain ⟨s0, s1⟩ := hcc' k hl2
        have hx := HRa.out k hlt
        have hy := HRb.out k hl2
        have HSu := Lib.hid (show sumK rs rs' (k + 1) = sumK rs rs' k + absR rs[k] rs'[k] by
          show sumK rs rs' k + absR (rs.getD k (0, 0)) (rs'.getD k (0, 0)) = _
          rw [show rs.getD k (0, 0) = rs[k] by simp [List.getD, List.getElem?_eq_getElem hlt], show rs'.getD k (0, 0) = rs'[k] by simp [List.getD, List.getElem?_eq_getElem hl2]])
        have HAR := Lib.hid (show absR rs[k] rs'[k] = absI ((rs[k]).1 - (rs'[k]).1) + absI ((rs[k]).2 - (rs'[k]).2) from rfl)
        generalize absR rs[k] rs'[k] = ar at *
        generalize rs[k] = x at *
        generalize rs'[k] = y at *
        obtain ⟨x0, x1⟩ := x
        obtain ⟨y0, y1⟩ := y
        dsimp only at r0 r1 s0 s1 hx hy HAR
        have HA0 := Lib.hid (fun wx => HAb.out (x0 - y0) wx (by omega) (by omega))
        have HA1 := Lib.hid (fun wx => HAb.out (x1 - y1) wx (by omega) (by omega))
        have n0 := absI_nn (x0 - y0)
        have n1 := absI_nn (x1 - y1)
        have m0 : absI (x0 - y0) ≤ 100 := by unfold absI; split <;> omega
        have m1 : absI (x1 - y1) ≤ 100 := by unfold absI; split <;> omega
        have hw1 : IntKind.i64.wrap (x0 - y0) = x0 - y0 := IntWalk.i64_in _ (by omega)
        have hw2 : IntKind.i64.wrap (x1 - y1) = x1 - y1 := IntWalk.i64_in _ (by omega)
        generalize absI (x0 - y0) = z0 at *
        generalize absI (x1 - y1) = z1 at *
        generalize sumK rs rs' k = s at *
        have hw3 : IntKind.i64.wrap (z0 + z1) = z0 + z1 := IntWalk.i64_in _ (by omega)
        have hw4 : IntKind.i64.wrap (s + (z0 + z1)) = s + (z0 + z1) := IntWalk.i64_in _ (by omega)
        clear hcc hcc' g1 hx hy
        go_wp2_with fail
        go_quiet ((go_at_call 84; first | (with_reducible exact Calls.quiet_of_same (HA0.out _)) | (with_reducible exact Calls.quiet_of_same (HA1.out _))))
        go_wp2_with fail
        go_roundw
        case rel => exact ⟨k + 1, _, by omega, by go_num, by rw [HSu.out, HAR.out], HD.out _⟩
        case measure => first | (simp [intOf]; done) | (simp [intOf]; omega)
      · have hkn : k = rs.length := by omega
        have hlt' : ¬ (k : Int) < (rs.length : Int) := by omega
        have HF := Lib.hid (show sumK rs rs' k = betV ⟨u, l, w, rs⟩ ⟨u, l, w, rs'⟩ by rw [HV.out, hkn])
        generalize sumK rs rs' k = s at *
        clear hkn
        go_wp2_with fail
        go_ret2
        exact ⟨ret2i HF.out E1.out.symm, by rw [Hw.out]; exact below_drewN HB.out _⟩
end Go.Proofs.Ytemcdmjnokpldaa
/- Abaci that are drawn: l03Draw. -/
namespace Go.Proofs.Ytemcdmjnokpldaa
open Go.RowKit Go.Joins

/-- an abacus under way: the result's block r is fresh, the abacus lies in block q, its rods in a row of the call's own -/
structure NwA (W w : World) (B g k : Nat) (bs : List UInt8) (r q : Nat) (a b c v : Value) (n : Nat) (cs : List Value) : Prop where
  lt : g < W.heap.size
  src : SrcAt w B g k bs
  gr : W.grownBy w (some g)
  hr : w.heap[r]? = some (.cells #[.int .i64 0, .int .i64 0, .int .i64 0, .slice none 0 0] 26 (0, 0))
  hq : w.heap[q]? = some (.cells #[a, b, c, v] 26 (0, 0))
  row : w.ownsRow W.heap.size 98 2 v n cs
  lr : W.heap.size ≤ r
  rq : r < q
section
variable {W w w' : World} {B g k k' r q : Nat} {bs : List UInt8} {a b c v : Value} {n : Nat} {cs : List Value}
theorem rod_ne {w : World} {base n : Nat} {v : Value} {cs : List Value} {q : Nat} {x : Array Value} {fr : Nat × Nat} (h : w.ownsRow base 98 2 v n cs) (hq : w.heap[q]? = some (.cells x 26 fr)) : v.ownBlock ≠ some q := by
  intro e
  rcases h.2 with ⟨rfl, _⟩ | ⟨g, cap, cur, rfl, _, hg, _⟩
  · cases e
  · injection e with e
    have e2 : g = q := e
    subst e2
    rw [hq] at hg
    injection hg with hg
    injection hg with _ h2 _
    exact absurd h2 (by decide)
theorem NwA.row_lt (h : NwA W w B g k bs r q a b c v n cs) : ∀ x, v.ownBlock = some x → W.heap.size ≤ x ∧ x ≠ r ∧ x ≠ q := fun x hx =>
  ⟨(h.row.lt x hx).1, fun e => rod_ne h.row h.hr (by rw [hx, e]), fun e => rod_ne h.row h.hq (by rw [hx, e])⟩
theorem NwA.draw (h : NwA W w B g k bs r q a b c v n cs) (hs : SrcAt w' B g k' bs) (hg : w.grownBy w' (some g)) : NwA W w' B g k' bs r q a b c v n cs :=
  ⟨h.lt, hs, grown_trans h.gr hg, (hg.block _ (blk_ltN h.hr) (fun e => by have := h.lt; have := h.lr; injection e; omega)).trans h.hr, (hg.block q (blk_ltN h.hq) (fun e => by have := h.lt; have := h.lr; have := h.rq; injection e; omega)).trans h.hq,
   h.row.kept hg (by
    cases hv : v.ownBlock with
    | none => exact .inl rfl
    | some x => exact .inr fun e => by have := (h.row.lt x hv).1; have := h.lt; injection e; omega), h.lr, h.rq⟩
theorem NwA.below (h : NwA W w B g k bs r q a b c v n cs) (hb : Below w.heap.size w w') : NwA W w' B g k bs r q a b c v n cs :=
  ⟨h.lt, h.src.below hb, grown_below h.gr hb, (hb.block _ (blk_ltN h.hr)).trans h.hr, (hb.block _ (blk_ltN h.hq)).trans h.hq, own_below h.row hb, h.lr, h.rq⟩
/-- a field of the abacus is written (no slice) -/
theorem NwA.set (h : NwA W w B g k bs r q a b c v n cs) (i : Nat) (x a' b' c' v' : Value) (hc : (#[a, b, c, v] : Array Value).setIfInBounds i x = #[a', b', c', v']) {n' : Nat} {cs' : List Value} (hrow : w.ownsRow W.heap.size 98 2 v' n' cs') : NwA W (w.setCell ⟨q, i, none⟩ x) B g k bs r q a' b' c' v' n' cs' := by
  have h1 := heap_setCell_same w q i _ _ x h.hq
  rw [hc] at h1
  have hg : w.grownBy (w.setCell ⟨q, i, none⟩ x) (some q) := grown_setCell (a := w) (p := ⟨q, i, none⟩) ⟨rfl, rfl, rfl, Nat.le_refl _, fun _ _ _ => rfl⟩ (.inl rfl) x
  have hqW : W.heap.size ≤ q := by have := h.lr; have := h.rq; omega
  refine ⟨h.lt, h.src.grown hg (fun y hy => by cases hy; exact Nat.lt_of_lt_of_le h.lt hqW), grownBy_row h.gr hg (fun y hy => by cases hy; exact hqW), (Below.heap_setCell _ _ _ _ (Nat.ne_of_lt h.rq)).trans h.hr, h1, ?_, h.lr, h.rq⟩
  exact ownsRow_setCell_other hrow (a := ⟨q, i, none⟩) (fun e => rod_ne hrow h.hq e) x
/-- the row has grown -/
theorem NwA.app {v' : Value} {n' : Nat} {cs' : List Value} (h : NwA W w B g k bs r q a b c v n cs) (hrow : w'.ownsRow W.heap.size 98 2 v' n' cs') (hg : w.grownBy w' v.ownBlock) : NwA W (w'.setCell ⟨q, 3, none⟩ v') B g k bs r q a b c v' n' cs' := by
  have hne := h.row_lt
  have h1 : NwA W w' B g k bs r q a b c v' n' cs' → NwA W (w'.setCell ⟨q, 3, none⟩ v') B g k bs r q a b c v' n' cs' := fun h0 => h0.set 3 v' a b c v' rfl h0.row
  have hq' := (hg.block q (blk_ltN h.hq) (fun e => (hne q e.symm).2.2 rfl)).trans h.hq
  have hr' := (hg.block r (blk_ltN h.hr) (fun e => (hne r e.symm).2.1 rfl)).trans h.hr
  have h2 := heap_setCell_same w' q 3 _ _ v' hq'
  have hgq : w'.grownBy (w'.setCell ⟨q, 3, none⟩ v') (some q) := grown_setCell (a := w') (p := ⟨q, 3, none⟩) ⟨rfl, rfl, rfl, Nat.le_refl _, fun _ _ _ => rfl⟩ (.inl rfl) v'
  have hqW : W.heap.size ≤ q := by have := h.lr; have := h.rq; omega
  exact ⟨h.lt, (h.src.grown hg (fun x hx => Nat.lt_of_lt_of_le h.lt (hne x hx).1)).grown hgq (fun y hy => by cases hy; exact Nat.lt_of_lt_of_le h.lt hqW), grownBy_row (grownBy_row h.gr hg (fun x hx => (hne x hx).1)) hgq (fun y hy => by cases hy; exact hqW), (Below.heap_setCell _ _ _ _ (Nat.ne_of_lt h.rq)).trans hr', h2, ownsRow_setCell_other hrow (a := ⟨q, 3, none⟩) (fun e => rod_ne hrow hq' e) v', h.lr, h.rq⟩
theorem NwA.more (h : NwA W w B g k bs r q a b c v n cs) (hk : k ≤ k') : NwA W w B g k' bs r q a b c v n cs := ⟨h.lt, h.src.more hk, h.gr, h.hr, h.hq, h.row, h.lr, h.rq⟩
/-- the abacus is written anew, with no rods -/
theorem NwA.anew (h : NwA W w B g k bs r q a b c v n cs) (a' b' c' : Value) : NwA W (put4 w q a' b' c' (.slice none 0 0)) B g k bs r q a' b' c' (.slice none 0 0) 0 (rodsC []) :=
  (((h.set 0 a' a' b c v rfl h.row).set 1 b' a' b' c v rfl (h.set 0 a' a' b c v rfl h.row).row).set 2 c' a' b' c' v rfl ((h.set 0 a' a' b c v rfl h.row).set 1 b' a' b' c v rfl (h.set 0 a' a' b c v rfl h.row).row).row).set 3 (.slice none 0 0) a' b' c' (.slice none 0 0) rfl (own_nilAb _ _)
/-- a cell of the row is written -/
theorem NwA.put {gg cap : Nat} (h : NwA W w B g k bs r q a b c (.slice (some ⟨gg, 0, none⟩) n cap) n cs) (j : Nat) (hj : j < cs.length) (x : Value) : NwA W (w.setCell ⟨gg, j, none⟩ x) B g k bs r q a b c (.slice (some ⟨gg, 0, none⟩) n cap) n (cs.set j x) := by
  obtain ⟨h1, h2, h3⟩ := h.row_lt gg rfl
  have hg : w.grownBy (w.setCell ⟨gg, j, none⟩ x) (some gg) := grown_setCell (a := w) (p := ⟨gg, j, none⟩) ⟨rfl, rfl, rfl, Nat.le_refl _, fun _ _ _ => rfl⟩ (.inl rfl) x
  exact ⟨h.lt, h.src.grown hg (fun y hy => by cases hy; exact Nat.lt_of_lt_of_le h.lt h1), grownBy_row h.gr hg (fun y hy => by cases hy; exact h1), (Below.heap_setCell _ _ _ _ (Ne.symm h2)).trans h.hr, (Below.heap_setCell _ _ _ _ (Ne.symm h3)).trans h.hq, (own_put h.row j hj x).1, h.lr, h.rq⟩
/-- the result is stored -/
theorem NwA.done (h : NwA W w B g k bs r q a b c v n cs) :
    ((put4 w r a b c v).cell? ⟨r, 0, none⟩ = some a ∧ (put4 w r a b c v).cell? ⟨r, 1, none⟩ = some b ∧ (put4 w r a b c v).cell? ⟨r, 2, none⟩ = some c ∧ (put4 w r a b c v).cell? ⟨r, 3, none⟩ = some v) ∧
    SrcAt (put4 w r a b c v) B g k bs ∧ W.grownBy (put4 w r a b c v) (some g) ∧ (put4 w r a b c v).ownsRow W.heap.size 98 2 v n cs := by
  have g4 := heap_setCell_same _ r 3 _ _ v (heap_setCell_same _ r 2 _ _ c (heap_setCell_same _ r 1 _ _ b (heap_setCell_same w r 0 _ _ a h.hr)))
  have g0 : w.grownBy w (some r) := ⟨rfl, rfl, rfl, Nat.le_refl _, fun _ _ _ => rfl⟩
  have hg : w.grownBy (put4 w r a b c v) (some r) := grown_setCell (grown_setCell (grown_setCell (grown_setCell g0 (p := ⟨r, 0, none⟩) (.inl rfl) _) (p := ⟨r, 1, none⟩) (.inl rfl) _) (p := ⟨r, 2, none⟩) (.inl rfl) _) (p := ⟨r, 3, none⟩) (.inl rfl) _
  have hne : v.ownBlock ≠ some r := rod_ne h.row h.hr
  exact ⟨(blk4 g4).1, h.src.grown hg (fun x hx => by cases hx; exact Nat.lt_of_lt_of_le h.lt h.lr), grownBy_row h.gr hg (fun x hx => by cases hx; exact h.lr),
    ownsRow_setCell_other (ownsRow_setCell_other (ownsRow_setCell_other (ownsRow_setCell_other h.row (a := ⟨r, 0, none⟩) hne a) (a := ⟨r, 1, none⟩) hne b) (a := ⟨r, 2, none⟩) hne c) (a := ⟨r, 3, none⟩) hne v⟩
end
theorem rodsC_snoc (rs : List (Int × Int)) (a b : Int) : rodsC (rs ++ [(a, b)]) = rodsC rs ++ [.int .i64 a, .int .i64 b] := by
  show (rs ++ [(a, b)]).flatMap cellsRd = _
  rw [List.flatMap_append]; rfl
/-- a drawn abacus -/
def RetDa (W : World) (B g k : Nat) (bs : List UInt8) (P : Ab → Prop) (e : Ending) (w' : World) : Prop :=
  ∃ (a : Ab) (v : Value), e = .returned (aggAb a.u a.l a.w v) ∧ P a ∧ a.rods.length ≤ 11 ∧ w'.ownsRow W.heap.size 98 2 v a.rods.length (rodsC a.rods) ∧ SrcAt w' B g k bs ∧ W.grownBy w' (some g)
set_option maxRecDepth 100000 in
set_option maxHeartbeats 6400000 in
theorem l03Draw_any (B g k : Nat) (bs : List UInt8) (W : World) (hs : SrcAt W B g k bs) (hk : k < 4611686018427380000) : Calls Try.prog 135 #[.pointer (some ⟨g, 0, none⟩)] W (RetDa W B g (k + 60) bs (fun a => kindAb a = true ∧ 0 < a.rods.length)) := by
  have hlt := hs.lt
  obtain ⟨h1, h2, h3⟩ := two_blocks W #[.int .i64 0, .int .i64 0, .int .i64 0, .slice none 0 0] #[.int .i64 1, .int .i64 4, .int .i64 5, .slice none 0 0] 26 26
  have HN := Lib.hid (show NwA W ((W.alloc objZ).alloc (.cells #[.int .i64 1, .int .i64 4, .int .i64 5, .slice none 0 0] 26)) B g k bs W.heap.size (W.heap.size + 1) (.int .i64 1) (.int .i64 4) (.int .i64 5) (.slice none 0 0) 0 (rodsC []) from
    ⟨hlt, hs.below h3, grown_of_below h3 _, h1, h2, own_nilAb _ _, Nat.le_refl _, Nat.lt_succ_self _⟩)
  clear h1 h2 h3 hs
  go_enter Try.func135, Try.ntmps135
  go_upto_region 2 with (fail)
  generalize (W.alloc objZ).alloc (.cells #[.int .i64 1, .int .i64 4, .int .i64 5, .slice none 0 0] 26) = w1 at *
  go_wp2_with fail
  refine (pick_any B g _ bs 4 _ HN.out.src (by omega)).mono ?_; rintro e w2 ⟨x, rfl, ⟨hx0, hx1, _⟩, hs2, hg2⟩
  have HN2 := Lib.hid (HN.out.draw hs2 hg2)
  clear hs2 hg2 hx1 HN
  go_upto_block 0 with (fail)
  go_cut [] (fun wx => ∃ (u l w : Int), kindAb ⟨u, l, w, []⟩ = true ∧ NwA W wx B g (k + 6) bs W.heap.size (W.heap.size + 1) (.int .i64 u) (.int .i64 l) (.int .i64 w) (.slice none 0 0) 0 (rodsC []))
  case first =>
    obtain ⟨⟨q0, q1, q2, q3⟩, f0, f1, f2, f3⟩ := blk4 HN2.out.hq
    by_cases e0 : x = 0
    · subst e0
      have HN3 := Lib.hid (HN2.out.anew (.int .i64 2) (.int .i64 5) (.int .i64 5))
      go_wp2_with fail
      go_meet
      exact ⟨2, 5, 5, by decide, HN3.out.more (by omega)⟩
    have b0 : (x == 0) = false := by simpa using e0
    by_cases e1 : x = 1
    · subst e1
      go_wp2_with fail
      refine (pick_any B g _ bs 2 _ HN2.out.src (by omega)).mono ?_; rintro e w3 ⟨y, rfl, ⟨hy0, hy1, _⟩, hs3, hg3⟩
      have HN3 := Lib.hid (HN2.out.draw hs3 hg3)
      have hy2 := hy1 (by omega)
      have hwy : IntKind.i64.wrap (9 + y) = 9 + y := IntWalk.i64_in _ (by omega)
      clear hs3 hg3 HN2 hy1 q0 q1 q2 q3 f0 f1 f2 f3
      go_wp2_with fail
      refine (pick_any B g _ bs 9 _ HN3.out.src (by omega)).mono ?_; rintro e w4 ⟨z, rfl, ⟨hz0, hz1, _⟩, hs4, hg4⟩
      have HN4 := Lib.hid (HN3.out.draw hs4 hg4)
      have hz2 := hz1 (by omega)
      have hwz : IntKind.i64.wrap (1 + z) = 1 + z := IntWalk.i64_in _ (by omega)
      clear hs4 hg4 HN3 hz1
      obtain ⟨⟨q0, q1, q2, q3⟩, f0, f1, f2, f3⟩ := blk4 HN4.out.hq
      have HN5 := Lib.hid (HN4.out.anew (.int .i64 0) (.int .i64 (9 + y)) (.int .i64 (1 + z)))
      go_wp2_with fail
      go_meet
      exact ⟨0, 9 + y, 1 + z, by unfold kindAb inB; simp; omega, HN5.out.more (by omega)⟩
    · have b1 : (x == 1) = false := by simpa using e1
      go_wp2_with fail
      go_meet
      exact ⟨1, 4, 5, by decide, HN2.out.more (by omega)⟩
  case rest =>
    obtain ⟨u, l, w, hkd, hnw⟩ := hcut
    have HK := Lib.hid hkd
    have HN3 := Lib.hid hnw
    clear hnw hkd HN2
    go_wp2_with fail
    refine (pick_any B g _ bs 6 _ HN3.out.src (by omega)).mono ?_; rintro e w4 ⟨y, rfl, ⟨hy0, hy1, _⟩, hs4, hg4⟩
    have HN4 := Lib.hid (HN3.out.draw hs4 hg4)
    have hy2 := hy1 (by omega)
    obtain ⟨K0, hK0⟩ : ∃ K0 : Nat, 1 + y = (K0 : Int) := ⟨(1 + y).toNat, by omega⟩
    have hwy : IntKind.i64.wrap (1 + y) = (K0 : Int) := (IntWalk.i64_in _ (by omega)).trans hK0
    have hK1 : 1 ≤ K0 ∧ K0 ≤ 6 := by omega
    clear hs4 hg4 HN3 hy1 hK0
    go_wp2_with fail
    clear hwy
    go_loopw [4] (fun i wr => ∃ (j : Nat) (rs : List (Int × Int)) (v : Value), rs.length + j = K0 ∧ i = .int .i64 (j : Int) ∧ NwA W wr B g (k + 8 + 4 * rs.length) bs W.heap.size (W.heap.size + 1) (.int .i64 u) (.int .i64 l) (.int .i64 w) v rs.length (rodsC rs)) (fun i _ => (intOf i).toNat)
    case atStart => exact ⟨K0, [], _, by simp, rfl, HN4.out⟩
    case round =>
      obtain ⟨j, rs, v, hj, rfl, hn⟩ := hrel
      have HN5 := Lib.hid hn
      clear hn HN4
      by_cases hj0 : j = 0
      · subst hj0
        have h1 : ¬ (0 : Int) < ((0 : Nat) : Int) := by omega
        have hjn : 1 ≤ rs.length ∧ rs.length ≤ 6 := by omega
        obtain ⟨gg, cc, rfl⟩ := ownsRow_form HN5.out.row (by omega)
        obtain ⟨u0, u4, l1, l12, w1', w10, _, _⟩ := kind_bd HK.out
        dsimp only at u0 u4 l1 l12 w1' w10
        have HND := Lib.hid (fun wx (hx : NwA W wx B g (k + 8 + 4 * rs.length + 2) bs W.heap.size (W.heap.size + 1) (.int .i64 u) (.int .i64 l) (.int .i64 w) (.slice (some ⟨gg, 0, none⟩) rs.length cc) rs.length (rodsC rs)) => hx.done)
        go_wp2_with fail
        refine (one_any B g _ bs 4 _ HN5.out.src (by omega)).mono ?_; rintro e w6 ⟨y4, rfl, hs6, hg6⟩
        have HN6 := Lib.hid (HN5.out.draw hs6 hg6)
        clear hs6 hg6 HN5 HND
        cases y4 with
        | false =>
          obtain ⟨⟨q0, q1, q2, q3⟩, _⟩ := blk4 HN6.out.hq
          obtain ⟨⟨r0, r1, r2, r3⟩, s0, s1, s2, s3⟩ := blk4 HN6.out.hr
          have HD := Lib.hid HN6.out.done
          go_wp2_with fail
          obtain ⟨⟨k0, k1, k2, k3⟩, hsz, hgz, hoz⟩ := HD.out
          refine bodyPost_ret (v := aggAb u l w (.slice (some ⟨gg, 0, none⟩) rs.length cc)) (by simp [results, Try.results135, go_sem, k0, k1, k2, k3]) rfl ?_
          exact ⟨⟨u, l, w, rs⟩, _, rfl, ⟨HK.out, by (try rw [List.length_set]); show 0 < rs.length; omega⟩, by show rs.length ≤ 11; (try rw [List.length_set]); omega, hoz, hsz.more (by omega), hgz⟩
        | true =>
          obtain ⟨⟨q0, q1, q2, q3⟩, _⟩ := blk4 HN6.out.hq
          go_wp2_with fail
          refine (pick_any B g _ bs (rs.length : Int) _ HN6.out.src (by omega)).mono ?_; rintro e w7 ⟨at', rfl, ⟨ha0, ha1, ha2⟩, hs7, hg7⟩
          have HN7 := Lib.hid (HN6.out.draw hs7 hg7)
          obtain ⟨m, rfl⟩ : ∃ m : Nat, at' = (m : Int) := ⟨at'.toNat, by omega⟩
          have hml : m < rs.length := by
            by_cases e : 1 < (rs.length : Int)
            · have := ha1 e; omega
            · have := ha2 (by omega); omega
          have hml2 : (m : Int) < (rs.length : Int) := by omega
          clear hs7 hg7 ha1 ha2 HN6 q0 q1 q2 q3
          obtain ⟨⟨q0, q1, q2, q3⟩, _⟩ := blk4 HN7.out.hq
          have hwu : IntKind.i64.wrap (u + 1) = u + 1 := IntWalk.i64_in _ (by omega)
          have hwl : IntKind.i64.wrap (l + 1) = l + 1 := IntWalk.i64_in _ (by omega)
          go_wp2_with fail
          refine wp_region_noPanic ?_
          refine wp_region_L [15] (fun w' => w'.cell? ⟨W.heap.size + 1, 0, none⟩ = some (.int .i64 u) ∧ w'.cell? ⟨W.heap.size + 1, 1, none⟩ = some (.int .i64 l) ∧ w'.cell? ⟨W.heap.size + 1, 3, none⟩ = some (.slice (some ⟨gg, 0, none⟩) rs.length cc)) (by kernel_rfl) (⟨q0, q1, q3⟩) (fun hHeld => ?_)
          refine take_F (i := 0) (d := some 47) (v := ?_) (by kernel_rfl) (by kernel_rfl) rfl rfl (by kernel_rfl) (by kernel_rfl) (by kernel_rfl) (fun _ _ _ h => h) (Or.inl ⟨by rfl, ?_⟩) (by assumption) ?_
          rotate_left
          · (intro w hSw; (try dsimp only at hSw); go_simp; (try rw [if_neg (by omega)]); (try (with_reducible rfl)))
          simp only [Act.put, List.setIfInBounds_toArray, List.set_cons_zero, List.set_cons_succ]
          refine take_L [1] (i := 1) (d := some 48) (v := ?_) (by kernel_rfl) (by kernel_rfl) (by kernel_rfl) (by kernel_rfl) rfl rfl (by kernel_rfl) (by kernel_rfl) (by kernel_rfl) (fun _ _ _ h => h) (Or.inl ⟨by rfl, ?_⟩) (by assumption) ?_
          rotate_left
          · (intro w hSw; (try dsimp only at hSw); go_simp; (try rw [if_neg (by omega)]); (try (with_reducible rfl)))
          simp only [Act.put, List.setIfInBounds_toArray, List.set_cons_zero, List.set_cons_succ]
          refine take_F (i := 2) (d := some 49) (v := ?_) (by kernel_rfl) (by kernel_rfl) rfl rfl (by kernel_rfl) (by kernel_rfl) (by kernel_rfl) (fun _ _ _ h => h) (Or.inl ⟨by rfl, ?_⟩) (by assumption) ?_
          rotate_left
          · (intro w hSw; (try dsimp only at hSw); go_simp; (try rw [if_neg (by omega)]); (try (with_reducible rfl)))
          simp only [Act.put, List.setIfInBounds_toArray, List.set_cons_zero, List.set_cons_succ]
          refine take_F (i := 3) (d := some 50) (v := ?_) (by kernel_rfl) (by kernel_rfl) rfl rfl (by kernel_rfl) (by kernel_rfl) (by kernel_rfl) (fun _ _ _ h => h) (Or.inl ⟨by rfl, ?_⟩) (by assumption) ?_
          rotate_left
          · (intro w hSw; (try dsimp only at hSw); go_simp; (try rw [if_neg (by omega)]); (try (with_reducible rfl)))
          simp only [Act.put, List.setIfInBounds_toArray, List.set_cons_zero, List.set_cons_succ]
          refine take_F (i := 4) (d := some 51) (v := ?_) (by kernel_rfl) (by kernel_rfl) rfl rfl (by kernel_rfl) (by kernel_rfl) (by kernel_rfl) (fun _ _ _ h => h) (Or.inl ⟨by rfl, ?_⟩) (by assumption) ?_
          rotate_left
          · (intro w hSw; (try dsimp only at hSw); go_simp; (try rw [if_neg (by omega)]); (try (with_reducible rfl)))
          simp only [Act.put, List.setIfInBounds_toArray, List.set_cons_zero, List.set_cons_succ]
          refine take_L [5] (i := 5) (d := some 52) (v := ?_) (by kernel_rfl) (by kernel_rfl) (by kernel_rfl) (by kernel_rfl) rfl rfl (by kernel_rfl) (by kernel_rfl) (by kernel_rfl) (fun _ _ _ h => h) (Or.inl ⟨by rfl, ?_⟩) (by assumption) ?_
          rotate_left
          · (intro w hSw; (try dsimp only at hSw); go_simp; (try rw [if_neg (by omega)]); (try (with_reducible rfl)))
          simp only [Act.put, List.setIfInBounds_toArray, List.set_cons_zero, List.set_cons_succ]
          refine take_F (i := 6) (d := some 53) (v := ?_) (by kernel_rfl) (by kernel_rfl) rfl rfl (by kernel_rfl) (by kernel_rfl) (by kernel_rfl) (fun _ _ _ h => h) (Or.inl ⟨by rfl, ?_⟩) (by assumption) ?_
          rotate_left
          · (intro w hSw; (try dsimp only at hSw); go_simp; (try rw [if_neg (by omega)]); (try (with_reducible rfl)))
          simp only [Act.put, List.setIfInBounds_toArray, List.set_cons_zero, List.set_cons_succ]
          refine take_F (i := 8) (d := some 55) (v := ?_) (by kernel_rfl) (by kernel_rfl) rfl rfl (by kernel_rfl) (by kernel_rfl) (by kernel_rfl) (fun _ _ _ h => h) (Or.inl ⟨by rfl, ?_⟩) (by assumption) ?_
          rotate_left
          · (intro w hSw; (try dsimp only at hSw); go_simp; (try rw [if_neg (by omega)]); (try (with_reducible rfl)))
          simp only [Act.put, List.setIfInBounds_toArray, List.set_cons_zero, List.set_cons_succ]
          refine take_F (i := 9) (d := some 56) (v := ?_) (by kernel_rfl) (by kernel_rfl) rfl rfl (by kernel_rfl) (by kernel_rfl) (by kernel_rfl) (fun _ _ _ h => h) (Or.inl ⟨by rfl, ?_⟩) (by assumption) ?_
          rotate_left
          · (intro w hSw; (try dsimp only at hSw); go_simp; (try rw [if_neg (by omega)]); (try (with_reducible rfl)))
          simp only [Act.put, List.setIfInBounds_toArray, List.set_cons_zero, List.set_cons_succ]
          refine take_L [10] (i := 10) (d := some 57) (v := ?_) (by kernel_rfl) (by kernel_rfl) (by kernel_rfl) (by kernel_rfl) rfl rfl (by kernel_rfl) (by kernel_rfl) (by kernel_rfl) (fun _ _ _ h => h) (Or.inl ⟨by rfl, ?_⟩) (by assumption) ?_
          rotate_left
          · (intro w hSw; (try dsimp only at hSw); go_simp; (try rw [if_neg (by omega)]); (try (with_reducible rfl)))
          simp only [Act.put, List.setIfInBounds_toArray, List.set_cons_zero, List.set_cons_succ]
          refine take_F (i := 11) (d := some 58) (v := ?_) (by kernel_rfl) (by kernel_rfl) rfl rfl (by kernel_rfl) (by kernel_rfl) (by kernel_rfl) (fun _ _ _ h => h) (Or.inl ⟨by rfl, ?_⟩) (by assumption) ?_
          rotate_left
          · (intro w hSw; (try dsimp only at hSw); go_simp; (try rw [if_neg (by omega)]); (try (with_reducible rfl)))
          simp only [Act.put, List.setIfInBounds_toArray, List.set_cons_zero, List.set_cons_succ]
          refine call_L (i := 7) (d := (some 54)) rfl rfl (by kernel_rfl) (fun Kq hKq => ?_)
          go_simp
          go_at_call 77
          refine (pick_any B g _ bs (u + 1) _ (SrcAt.drew HN7.out.src) (by omega)).mono ?_; rintro e w8 ⟨x0, rfl, ⟨x00, _, _⟩, hs8, hg8⟩
          have HN8 := Lib.hid (HN7.out.draw hs8 (grown_undrew hg8))
          clear hs8 hg8 q0 q1 q2 q3
          obtain ⟨⟨q0, q1, q2, q3⟩, _⟩ := blk4 HN8.out.hq
          (try go_wp2_with fail)
          refine hKq.out _ _ (⟨q0, q1, q3⟩) (fun hHeld => ?_)
          clear hKq Kq
          (try simp only [Act.put, List.setIfInBounds_toArray, List.set_cons_zero, List.set_cons_succ])
          refine call_L (i := 12) (d := (some 59)) rfl rfl (by kernel_rfl) (fun Kq hKq => ?_)
          go_simp
          go_at_call 77
          refine (pick_any B g _ bs (l + 1) _ HN8.out.src (by omega)).mono ?_; rintro e w9 ⟨x1, rfl, ⟨x10, _, _⟩, hs9, hg9⟩
          have HN9 := Lib.hid (HN8.out.draw hs9 hg9)
          clear hs9 hg9 q0 q1 q2 q3
          obtain ⟨⟨q0, q1, q2, q3⟩, _⟩ := blk4 HN9.out.hq
          have hlc := rodsC_len rs
          obtain ⟨_, o0, f0⟩ := own_put HN9.out.row (m * 2) (by omega) undef
          obtain ⟨_, o1, f1⟩ := own_put HN9.out.row (m * 2 + 1) (by omega) undef
          have HNp := Lib.hid ((HN9.out.put (m * 2) (by omega) (.int .i64 x0)).put (m * 2 + 1) (by rw [List.length_set]; omega) (.int .i64 x1))
          rw [rodsC_set] at HNp
          (try go_wp2_with fail)
          refine hKq.out _ _ (⟨q0, q1, q3⟩) (fun hHeld => ?_)
          clear hKq Kq
          (try simp only [Act.put, List.setIfInBounds_toArray, List.set_cons_zero, List.set_cons_succ])
          refine take_F (i := 13) (d := some 60) (v := ?_) (by kernel_rfl) (by kernel_rfl) rfl rfl (by kernel_rfl) (by kernel_rfl) (by kernel_rfl) (fun _ _ _ h => h) (Or.inl ⟨by rfl, ?_⟩) (by assumption) ?_
          rotate_left
          · (intro w hSw; (try dsimp only at hSw); go_simp; (try rw [if_neg (by omega)]); (try (with_reducible rfl)))
          simp only [Act.put, List.setIfInBounds_toArray, List.set_cons_zero, List.set_cons_succ]
          refine take_F (i := 14) (d := some 61) (v := ?_) (by kernel_rfl) (by kernel_rfl) rfl rfl (by kernel_rfl) (by kernel_rfl) (by kernel_rfl) (fun _ _ _ h => h) (Or.inl ⟨by rfl, ?_⟩) (by assumption) ?_
          rotate_left
          · (intro w hSw; (try dsimp only at hSw); go_simp; (try rw [if_neg (by omega)]); (try (with_reducible rfl)))
          simp only [Act.put, List.setIfInBounds_toArray, List.set_cons_zero, List.set_cons_succ]
          refine late_L (i := 15) (d := none) (by kernel_rfl) rfl rfl (by kernel_rfl) (fun Kq hKq => ?_)
          go_simp
          refine hKq.out _ _ ?_
          clear hKq Kq
          refine done_L (by kernel_rfl) ?_ _
          refine NoPanic.normal ?_
          clear q0 q1 q2 q3 o0 o1 f0 f1 HN7 HN8 HN9
          obtain ⟨⟨q0, q1, q2, q3⟩, _⟩ := blk4 HNp.out.hq
          obtain ⟨⟨r0, r1, r2, r3⟩, s0, s1, s2, s3⟩ := blk4 HNp.out.hr
          have HD := Lib.hid HNp.out.done
          go_wp2_with fail
          obtain ⟨⟨k0, k1, k2, k3⟩, hsz, hgz, hoz⟩ := HD.out
          refine bodyPost_ret (v := aggAb u l w (.slice (some ⟨gg, 0, none⟩) rs.length cc)) (by simp [results, Try.results135, go_sem, k0, k1, k2, k3]) rfl ?_
          exact ⟨⟨u, l, w, (rs.set m (x0, x1))⟩, _, rfl, ⟨HK.out, by (try rw [List.length_set]); show 0 < rs.length; omega⟩, by show (rs.set m (x0, x1)).length ≤ 11; (try rw [List.length_set]); omega, by show World.ownsRow _ _ _ _ _ (rs.set m (x0, x1)).length _; rw [List.length_set]; exact hoz, hsz.more (by omega), hgz⟩
      · obtain ⟨i, rfl⟩ : ∃ i : Nat, j = i + 1 := ⟨j - 1, by omega⟩
        have h1 : (0 : Int) < ((i + 1 : Nat) : Int) := by omega
        have hwi : IntKind.i64.wrap (((i + 1 : Nat) : Int) - 1) = (i : Int) := (IntWalk.i64_in _ (by omega)).trans (by omega)
        go_wp2_with fail
        refine (pick_any B g _ bs 10 _ HN5.out.src (by omega)).mono ?_; rintro e w6 ⟨d, rfl, ⟨d0, d1, _⟩, hs6, hg6⟩
        have HN6 := Lib.hid (HN5.out.draw hs6 hg6)
        have d9 := d1 (by omega)
        clear hs6 hg6 HN5 d1
        go_wp2_with fail
        refine (one_any B g _ bs 3 _ HN6.out.src (by omega)).mono ?_; rintro e w7 ⟨y3, rfl, hs7, hg7⟩
        have HN7 := Lib.hid ((HN6.out.draw hs7 hg7).more (k' := k + 8 + 4 * rs.length + 4) (by omega))
        clear hs7 hg7 HN6
        go_upto_if 32 with (fail)
        go_cut [5] (fun s5 wx => ∃ d' : Int, s5 = .int .i64 d' ∧ (0 ≤ d' ∧ d' ≤ 9) ∧ NwA W wx B g (k + 8 + 4 * rs.length + 4) bs W.heap.size (W.heap.size + 1) (.int .i64 u) (.int .i64 l) (.int .i64 w) v rs.length (rodsC rs))
        case first =>
          cases y3 with
          | true =>
            go_wp2_with fail
            go_meet
            exact ⟨9, rfl, by omega, HN7.out⟩
          | false =>
            go_wp2_with fail
            go_meet
            exact ⟨d, rfl, by omega, HN7.out⟩
        case rest =>
          obtain ⟨d', rfl, ⟨e0, e9⟩, hn7⟩ := hcut
          clear HN7
          have HN7 := Lib.hid hn7
          clear hn7
          obtain ⟨A, c, rfl⟩ := own_sl HN7.out.row
          obtain ⟨⟨q0, q1, q2, q3⟩, _⟩ := blk4 HN7.out.hq
          rename World => w7
          have HC := Lib.hid (l03Digit_any (W.heap.size + 1) u l w d' (.slice A rs.length c) [] w7.drew ⟨q0, q1, q2, q3⟩ HK.out e0 e9)
          have hlr : rs.length < 6 := by omega
          have hmx : rs.length + 1 ≤ maxLen := by simp [maxLen]; omega
          have hby : (rs.length + 1) * 16 ≤ 140737488355328 := by omega
          generalize plainRodA u w d' = x at *
          obtain ⟨x0, x1⟩ := x
          go_wp2_with fail
          refine wp_region_noPanic ?_
          refine wp_region_L [7,6,5] (fun w' => w'.cell? ⟨W.heap.size + 1, 3, none⟩ = some (.slice A rs.length c)) (by kernel_rfl) (q3) (fun hHeld => ?_)
          refine take_F (i := 0) (d := some 33) (v := ?_) (by kernel_rfl) (by kernel_rfl) rfl rfl (by kernel_rfl) (by kernel_rfl) (by kernel_rfl) (fun _ _ _ h => h) (Or.inl ⟨by rfl, ?_⟩) (by assumption) ?_
          rotate_left
          · (intro w hSw; (try dsimp only at hSw); go_simp; (try rw [if_neg (by omega)]); (try (with_reducible rfl)))
          simp only [Act.put, List.setIfInBounds_toArray, List.set_cons_zero, List.set_cons_succ]
          refine take_L [1] (i := 1) (d := some 34) (v := ?_) (by kernel_rfl) (by kernel_rfl) (by kernel_rfl) (by kernel_rfl) rfl rfl (by kernel_rfl) (by kernel_rfl) (by kernel_rfl) (fun _ _ _ h => h) (Or.inl ⟨by rfl, ?_⟩) (by assumption) ?_
          rotate_left
          · (intro w hSw; (try dsimp only at hSw); go_simp; (try rw [if_neg (by omega)]); (try (with_reducible rfl)))
          simp only [Act.put, List.setIfInBounds_toArray, List.set_cons_zero, List.set_cons_succ]
          refine take_F (i := 2) (d := some 35) (v := ?_) (by kernel_rfl) (by kernel_rfl) rfl rfl (by kernel_rfl) (by kernel_rfl) (by kernel_rfl) (fun _ _ _ h => h) (Or.inl ⟨by rfl, ?_⟩) (by assumption) ?_
          rotate_left
          · (intro w hSw; (try dsimp only at hSw); go_simp; (try rw [if_neg (by omega)]); (try (with_reducible rfl)))
          simp only [Act.put, List.setIfInBounds_toArray, List.set_cons_zero, List.set_cons_succ]
          refine call_L (i := 3) (d := (some 36)) rfl rfl (by kernel_rfl) (fun Kq hKq => ?_)
          go_simp
          go_at_call 139
          refine HC.out.mono ?_; rintro e w8 ⟨rfl, hb8⟩
          have HN8 := Lib.hid (HN7.out.below (below_undrew hb8))
          clear hb8 q0 q1 q2 q3
          obtain ⟨⟨q0, q1, q2, q3⟩, _⟩ := blk4 HN8.out.hq
          have hbm := (Below.refl w8.heap.size w8).alloc (Nat.le_refl _) (.cells #[.int .i64 x0, .int .i64 x1] 98)
          have HN9 := Lib.hid (HN8.out.below hbm)
          have q9 := (blk4 HN9.out.hq).1.2.2.2
          have hsz9 := HN8.out.gr.size
          have Hrow := Lib.hid HN8.out.row
          have Hgl := Lib.hid (fun (v' : Value) (w' : World) (ho : w'.ownsRow W.heap.size 98 2 v' (rs.length + 1) (rodsC rs ++ #[Value.int .i64 x0, .int .i64 x1].toList)) hg => HN8.out.app ho hg)
          clear hbm
          (try go_wp2_with fail)
          refine hKq.out _ _ (q3) (fun hHeld => ?_)
          clear hKq Kq
          (try simp only [Act.put, List.setIfInBounds_toArray, List.set_cons_zero, List.set_cons_succ])
          refine call_L (i := 4) (d := (some 37)) rfl rfl (by kernel_rfl) (fun Kq hKq => ?_)
          go_simp
          refine hKq.out _ _ (q9) (fun hHeld => ?_)
          clear hKq Kq
          (try simp only [Act.put, List.setIfInBounds_toArray, List.set_cons_zero, List.set_cons_succ])
          refine late_L (i := 5) (d := (some 38)) (by kernel_rfl) rfl rfl (by kernel_rfl) (fun Kq hKq => ?_)
          refine step_apd0 24 98 _ 2 16 Try.underlying24 infoRod rfl (by omega) _ _ (by rfl) (by rfl) W.heap.size _ rs.length _ (by rfl) Hrow.out #[.int .i64 x0, .int .i64 x1] 1 1 (by rfl) (by rfl) (by simp [Value.oneCell']) hmx hby hsz9 ?_; intro v10 w10 hown10 hg10
          have HN10 := Lib.hid (Hgl.out v10 w10 hown10 hg10)
          have hq10 := (hg10.block _ (blk_ltN HN8.out.hq) (fun e => (HN8.out.row_lt _ e.symm).2.2 rfl)).trans HN8.out.hq
          obtain ⟨A10, c10, rfl⟩ := own_sl hown10
          clear q0 q1 q2 q3 q9 hown10 hg10 HN9 HN8 HN7 Hrow Hgl
          obtain ⟨⟨q0, q1, q2, q3⟩, f0, f1, f2, f3⟩ := blk4 hq10
          clear hq10
          refine hKq.out _ _ ?_
          clear hKq Kq
          simp only [Act.put, List.setIfInBounds_toArray]
          refine late_L (i := 6) (d := (some 39)) (by kernel_rfl) rfl rfl (by kernel_rfl) (fun Kq hKq => ?_)
          go_simp
          refine hKq.out _ _ ?_
          clear hKq Kq
          refine late_L (i := 7) (d := none) (by kernel_rfl) rfl rfl (by kernel_rfl) (fun Kq hKq => ?_)
          go_simp
          refine hKq.out _ _ ?_
          clear hKq Kq
          refine done_L (by kernel_rfl) ?_ _
          refine NoPanic.normal ?_
          (try go_wp2_with fail)
          go_roundw
          case rel => exact ⟨i, rs ++ [(x0, x1)], _, by rw [List.length_append]; show rs.length + 1 + i = K0; omega, rfl, by rw [List.length_append, rodsC_snoc]; exact HN10.out.more (by show _ ≤ k + 8 + 4 * (rs.length + 1); omega)⟩
          case measure => first | (simp [intOf]; done) | (simp [intOf]; omega)
end Go.Proofs.Ytemcdmjnokpldaa
