/- Merged texts: Fi6, Fi7, Lib6, Fi8, U3. -/
import Derived.Test.YtemcdmjnokpldaaGLawFiner2
import Derived.Test.YtemcdmjnokpldaaGLawFiner1
import Derived.Maps.AppendAt
/- Finer tables, part 6: ValueBetween and LeadingDifferences, both sides. -/
namespace Go.Proofs.Ytemcdmjnokpldaa
open Go.RowKit Go.Joins

/-- the first differences of values -/
def ldsF (f : Nat → Int) : Nat → Int := fun j => Dn j f 0
theorem lds_of {n : Nat} {f : Nat → Int} (h : Small 100000 n f) : Lds (ldsF f) n := by
  intro k hk
  have := Small.Dn h k 0 (by omega)
  show (Dn k f 0).natAbs ≤ _
  omega
theorem lds_sm : 2 ^ 6 * 100000 ≤ 4611686018427387903 := by decide
theorem leadI_any (B : Nat) (v : Value) (n : Nat) (f : Nat → Int) (w : World) (h : Rd w B v n 1 (tab n f)) (hB : B ≤ w.heap.size) (hn : n ≤ 6) (hS : Small 100000 n f) :
    Calls Try.prog 98 #[v, .int .i64 (n : Int)] w (RetF w n (ldsF f)) := leading_any B v n 100000 n f w h hB (by omega) (Nat.le_refl _) hS (pow_mul_le lds_sm hn)
def codeB (n : Nat) (f : Nat → Int) (x q : Int) : Bool := knownB n f && (inB q 1 20 && inB x (-120) 120)
theorem codeB_ok {n : Nat} {f : Nat → Int} {x q : Int} (h : codeB n f x q = true) : ∃ p : Nat, q = (p : Int) ∧ Small 100000 n f ∧ VB (ldsF f) x p n := by
  unfold codeB at h
  rw [Bool.and_eq_true, Bool.and_eq_true] at h
  obtain ⟨hS, h1, h6⟩ := knownB_ok h.1
  have h2 := inB_iff.1 h.2.1
  have h3 := inB_iff.1 h.2.2
  exact ⟨q.toNat, by omega, hS, h1, h6, by omega, by omega, h3.1, h3.2, lds_of hS⟩
theorem codeB_k {n : Nat} {f : Nat → Int} {x q : Int} (h : knownB n f = false) : codeB n f x q = false := by unfold codeB; rw [h, Bool.false_and]
theorem codeB_f {n : Nat} {f : Nat → Int} {x q : Int} (h : inB q 1 20 = false) : codeB n f x q = false := by unfold codeB; rw [h, Bool.false_and, Bool.and_false]
theorem codeB_x {n : Nat} {f : Nat → Int} {x q : Int} (h : inB x (-120) 120 = false) : codeB n f x q = false := by unfold codeB; rw [h, Bool.and_false, Bool.and_false]
theorem codeB_all {n : Nat} {f : Nat → Int} {x q : Int} (h1 : knownB n f = true) (h2 : inB q 1 20 = true) (h3 : inB x (-120) 120 = true) : codeB n f x q = true := by unfold codeB; rw [h1, h2, h3]; rfl
/-- the value between: code, fraction -/
def vbOk (n : Nat) (f : Nat → Int) (x q : Int) : Bool := okQ (vaN (ldsF f) x q.toNat n) (vaD (ldsF f) x q.toNat n)
def vbC (n : Nat) (f : Nat → Int) (x q : Int) : Int := if codeB n f x q then (if vbOk n f x q then 0 else 5) else 2
def vbN (n : Nat) (f : Nat → Int) (x q : Int) : Int := if codeB n f x q && vbOk n f x q then vaN (ldsF f) x q.toNat n else 0
def vbD (n : Nat) (f : Nat → Int) (x q : Int) : Int := if codeB n f x q && vbOk n f x q then vaD (ldsF f) x q.toNat n else 0
def RetVB (n : Nat) (f : Nat → Int) (x q : Int) (w : World) (e : Ending) (w' : World) : Prop := e = .returned (.tuple #[aggQ (vbN n f x q) (vbD n f x q), .int .i64 (vbC n f x q)]) ∧ Below w.heap.size w w'
theorem vb_bad {n : Nat} {f : Nat → Int} {x q : Int} (h : codeB n f x q = false) : vbN n f x q = 0 ∧ vbD n f x q = 0 ∧ vbC n f x q = 2 := by unfold vbN vbD vbC; rw [h]; exact ⟨rfl, rfl, rfl⟩
theorem vb_full {n p : Nat} {f : Nat → Int} {x : Int} (h : codeB n f x (p : Int) = true) (h2 : okQ (vaN (ldsF f) x p n) (vaD (ldsF f) x p n) = false) : vbN n f x p = 0 ∧ vbD n f x p = 0 ∧ vbC n f x p = 5 := by
  have h3 : vbOk n f x p = false := by unfold vbOk; rw [Int.toNat_natCast]; exact h2
  unfold vbN vbD vbC; rw [h, h3]; exact ⟨rfl, rfl, rfl⟩
theorem vb_ok {n p : Nat} {f : Nat → Int} {x : Int} (h : codeB n f x (p : Int) = true) (h2 : okQ (vaN (ldsF f) x p n) (vaD (ldsF f) x p n) = true) : vbN n f x p = vaN (ldsF f) x p n ∧ vbD n f x p = vaD (ldsF f) x p n ∧ vbC n f x p = 0 := by
  have h3 : vbOk n f x p = true := by unfold vbOk; rw [Int.toNat_natCast]; exact h2
  unfold vbN vbD vbC; rw [h, h3, Int.toNat_natCast]; exact ⟨rfl, rfl, rfl⟩
theorem l19Code_any (B : Nat) (v : Value) (n : Nat) (f : Nat → Int) (x q : Int) (w : World) (h : Rd w B v n 1 (tab n f)) (hn : n ≤ 1000) :
    Calls Try.prog 93 #[v, .int .i64 x, .int .i64 q] w fun e w' => e = .returned (.int .i64 (if codeB n f x q then 0 else 2)) ∧ w = w' := by
  have HK := Lib.hid (fun (_ : Unit) => knownS_c B v n f w h hn)
  have HQ := Lib.hid (fun wx => l00In_any q 1 20 wx)
  have HX := Lib.hid (fun wx => l00In_any x (-120) 120 wx)
  obtain ⟨A, c, rfl⟩ := rd_sl h
  clear h
  cases h1 : knownB n f with
  | false =>
    rw [codeB_k h1]
    rw [h1] at HK
    clear h1
    go_enter Try.func93, Try.ntmps93
    go_wp2_with fail
    refine (HK.out ()).mono ?_; rintro e w1 ⟨rfl, rfl⟩
    go_wp2_with fail
    go_ret
    exact ⟨rfl, rfl⟩
  | true =>
    cases h2 : inB q 1 20 with
    | false =>
      rw [codeB_f h2]
      rw [h1] at HK
      rw [h2] at HQ
      clear h1 h2
      go_enter Try.func93, Try.ntmps93
      go_wp2_with fail
      refine (HK.out ()).mono ?_; rintro e w1 ⟨rfl, rfl⟩
      go_wp2_with fail
      refine (HQ.out _).mono ?_; rintro e w1 ⟨rfl, rfl⟩
      go_wp2_with fail
      go_ret
      exact ⟨rfl, rfl⟩
    | true =>
      cases h3 : inB x (-120) 120 with
      | false =>
        rw [codeB_x h3]
        rw [h1] at HK
        rw [h2] at HQ
        rw [h3] at HX
        clear h1 h2 h3
        go_enter Try.func93, Try.ntmps93
        go_wp2_with fail
        refine (HK.out ()).mono ?_; rintro e w1 ⟨rfl, rfl⟩
        go_wp2_with fail
        refine (HQ.out _).mono ?_; rintro e w1 ⟨rfl, rfl⟩
        go_wp2_with fail
        refine (HX.out _).mono ?_; rintro e w1 ⟨rfl, rfl⟩
        go_wp2_with fail
        go_ret
        exact ⟨rfl, rfl⟩
      | true =>
        rw [codeB_all h1 h2 h3]
        rw [h1] at HK
        rw [h2] at HQ
        rw [h3] at HX
        clear h1 h2 h3
        go_enter Try.func93, Try.ntmps93
        go_wp2_with fail
        refine (HK.out ()).mono ?_; rintro e w1 ⟨rfl, rfl⟩
        go_wp2_with fail
        refine (HQ.out _).mono ?_; rintro e w1 ⟨rfl, rfl⟩
        go_wp2_with fail
        refine (HX.out _).mono ?_; rintro e w1 ⟨rfl, rfl⟩
        go_wp2_with fail
        go_ret
        exact ⟨rfl, rfl⟩
set_option maxRecDepth 100000 in
set_option maxHeartbeats 3200000 in
theorem VBetweenI_any (B : Nat) (v : Value) (n : Nat) (f : Nat → Int) (x q : Int) (w : World) (h : Rd w B v n 1 (tab n f)) (hB : B ≤ w.heap.size) (hn : n ≤ 1000) :
    Calls Try.prog 28 #[v, .int .i64 x, .int .i64 q] w (RetVB n f x q w) := by
  have hb0 := (Below.refl w.heap.size w).alloc (Nat.le_refl _) (.cells #[.int .i64 0, .int .i64 0] 56)
  have H := Lib.hid (h.below (hb0.mono hB))
  have hsz := Nat.le_trans hB hb0.size
  have HR := Lib.hid (show FrB w (w.alloc (.cells #[.int .i64 0, .int .i64 0] 56)) w.heap.size (.int .i64 0) (.int .i64 0) from FrB.new (Below.refl _ _) _ _)
  clear hb0
  have HK := Lib.hid (fun (_ : Unit) => knownI_c B v n f _ H.out hn)
  have HQ := Lib.hid (fun wx => fine_c q wx)
  have HX := Lib.hid (fun wx => between_any x (-120) 120 wx)
  obtain ⟨A, c, rfl⟩ := rd_sl h
  clear h
  generalize hw1 : w.alloc (.cells #[.int .i64 0, .int .i64 0] 56) = w1 at *
  cases h1 : knownB n f with
  | false =>
    have Hr := Lib.hid (vb_bad (codeB_k (x := x) (q := q) h1))
    rw [h1] at HK
    clear h1
    obtain ⟨r0, r1, r2, r3⟩ := blk2 HR.out.res
    go_enter Try.func28, Try.ntmps28
    go_upto_region 1 with (fail)
    clear hw1
    go_wp2_with fail
    refine (HK.out ()).mono ?_; rintro e w1 ⟨rfl, rfl⟩
    have HF := Lib.hid (HR.out.put (.int .i64 0) (.int .i64 0))
    obtain ⟨k0, k1, _, _⟩ := blk2 HF.out.res
    go_wp2_with fail
    exact bodyPost_ret (v := .tuple #[aggQ 0 0, .int .i64 2]) (by simp [results, Try.results28, go_sem, k0, k1]) rfl ⟨by rw [Hr.out.1, Hr.out.2.1, Hr.out.2.2], HF.out.bel⟩
  | true =>
    cases h2 : inB q 1 20 with
    | false =>
      have Hr := Lib.hid (vb_bad (codeB_f (n := n) (f := f) (x := x) h2))
      rw [h1] at HK
      rw [h2] at HQ
      clear h1 h2
      obtain ⟨r0, r1, r2, r3⟩ := blk2 HR.out.res
      go_enter Try.func28, Try.ntmps28
      go_upto_region 1 with (fail)
      clear hw1
      go_wp2_with fail
      refine (HK.out ()).mono ?_; rintro e w1 ⟨rfl, rfl⟩
      go_wp2_with fail
      refine (HQ.out _).mono ?_; rintro e w1 ⟨rfl, rfl⟩
      have HF := Lib.hid (HR.out.put (.int .i64 0) (.int .i64 0))
      obtain ⟨k0, k1, _, _⟩ := blk2 HF.out.res
      go_wp2_with fail
      exact bodyPost_ret (v := .tuple #[aggQ 0 0, .int .i64 2]) (by simp [results, Try.results28, go_sem, k0, k1]) rfl ⟨by rw [Hr.out.1, Hr.out.2.1, Hr.out.2.2], HF.out.bel⟩
    | true =>
      cases h3 : inB x (-120) 120 with
      | false =>
        have Hr := Lib.hid (vb_bad (codeB_x (n := n) (f := f) (q := q) h3))
        rw [h1] at HK
        rw [h2] at HQ
        rw [h3] at HX
        clear h1 h2 h3
        obtain ⟨r0, r1, r2, r3⟩ := blk2 HR.out.res
        go_enter Try.func28, Try.ntmps28
        go_upto_region 1 with (fail)
        clear hw1
        go_wp2_with fail
        refine (HK.out ()).mono ?_; rintro e w1 ⟨rfl, rfl⟩
        go_wp2_with fail
        refine (HQ.out _).mono ?_; rintro e w1 ⟨rfl, rfl⟩
        go_wp2_with fail
        refine (HX.out _).mono ?_; rintro e w1 ⟨rfl, rfl⟩
        have HF := Lib.hid (HR.out.put (.int .i64 0) (.int .i64 0))
        obtain ⟨k0, k1, _, _⟩ := blk2 HF.out.res
        go_wp2_with fail
        exact bodyPost_ret (v := .tuple #[aggQ 0 0, .int .i64 2]) (by simp [results, Try.results28, go_sem, k0, k1]) rfl ⟨by rw [Hr.out.1, Hr.out.2.1, Hr.out.2.2], HF.out.bel⟩
      | true =>
        have hc := codeB_all h1 h2 h3
        obtain ⟨p, rfl, hS, hvb⟩ := codeB_ok hc
        have Hc := Lib.hid hc
        have HVB := Lib.hid hvb
        have HL := Lib.hid (leadI_any B _ n f w1 H.out hsz hvb.n6 hS)
        unfold RetF at HL
        rw [h1] at HK
        rw [h2] at HQ
        rw [h3] at HX
        clear h1 h2 h3 hc hS hvb
        go_enter Try.func28, Try.ntmps28
        go_upto_region 1 with (fail)
        clear hw1
        go_wp2_with fail
        refine (HK.out ()).mono ?_; rintro e w1 ⟨rfl, rfl⟩
        go_wp2_with fail
        refine (HQ.out _).mono ?_; rintro e w1 ⟨rfl, rfl⟩
        go_wp2_with fail
        refine (HX.out _).mono ?_; rintro e w1 ⟨rfl, rfl⟩
        go_wp2_with fail
        refine (HL.out).mono ?_; rintro e w2 ⟨v2, rfl, ho2, hb2⟩
        have HR2 := Lib.hid (HR.out.below hb2)
        obtain ⟨A2, c2, rfl⟩ := own_sl ho2
        have HV := Lib.hid (valueAt_any w2.heap.size _ n (ldsF f) x p w2 (Rd.of_own ho2) (Nat.le_refl _) HVB.out)
        unfold RetQ at HV
        clear ho2 hb2
        go_wp2_with fail
        refine (HV.out).mono ?_; rintro e w3 ⟨rfl, hb3⟩
        have HR3 := Lib.hid (HR2.out.below hb3)
        clear hb3
        go_upto_region 4 with (fail)
        have HrF := Lib.hid (fun h => vb_full Hc.out h)
        have HrO := Lib.hid (fun h => vb_ok Hc.out h)
        generalize vaN (ldsF f) x p n = N at *
        generalize vaD (ldsF f) x p n = D at *
        have HT := Lib.hid (FrB.new (Below.refl w3.heap.size w3) (.int .i64 N) (.int .i64 (D : Int)))
        have HR4 := Lib.hid (HR3.out.alloc (.cells #[.int .i64 N, .int .i64 (D : Int)] 56))
        generalize w3.alloc (.cells #[.int .i64 N, .int .i64 (D : Int)] 56) = w4 at *
        have ht3 : w.heap.size < w3.heap.size := blk_ltF HR3.out.res
        generalize hg : w3.heap.size = t at *
        have Hg := Lib.hid hg
        clear hg
        obtain ⟨t0, t1, _, _⟩ := blk2 HT.out.res
        have HP := Lib.hid (fun wx => isPlain_any N (D : Int) wx)
        clear HVB Hc
        go_wp2_with fail
        refine (HP.out _).mono ?_; rintro e w5 ⟨rfl, hb5⟩
        have HR5 := Lib.hid (HR4.out.below hb5)
        have HT5 := Lib.hid (HT.out.below hb5)
        clear hb5 t0 t1
        cases ho : okQ N (D : Int) with
        | false =>
          have Hr := Lib.hid (HrF.out ho)
          obtain ⟨r0, r1, r2, r3⟩ := blk2 HR5.out.res
          have HF := Lib.hid (HR5.out.put (.int .i64 0) (.int .i64 0))
          obtain ⟨k0, k1, _, _⟩ := blk2 HF.out.res
          go_wp2_with fail
          exact bodyPost_ret (v := .tuple #[aggQ 0 0, .int .i64 5]) (by simp [results, Try.results28, go_sem, k0, k1]) rfl ⟨by rw [Hr.out.1, Hr.out.2.1, Hr.out.2.2], HF.out.bel⟩
        | true =>
          have Hr := Lib.hid (HrO.out ho)
          obtain ⟨r0, r1, r2, r3⟩ := blk2 HR5.out.res
          obtain ⟨t0, t1, _, _⟩ := blk2 HT5.out.res
          have HF := Lib.hid (HR5.out.put (.int .i64 N) (.int .i64 (D : Int)))
          obtain ⟨k0, k1, _, _⟩ := blk2 HF.out.res
          go_wp2_with fail
          exact bodyPost_ret (v := .tuple #[aggQ N (D : Int), .int .i64 0]) (by simp [results, Try.results28, go_sem, k0, k1]) rfl ⟨by rw [Hr.out.1, Hr.out.2.1, Hr.out.2.2], HF.out.bel⟩
set_option maxRecDepth 100000 in
set_option maxHeartbeats 3200000 in
theorem VBetweenS_any (B : Nat) (v : Value) (n : Nat) (f : Nat → Int) (x q : Int) (w : World) (h : Rd w B v n 1 (tab n f)) (hB : B ≤ w.heap.size) (hn : n ≤ 1000) :
    Calls Try.prog 29 #[v, .int .i64 x, .int .i64 q] w (RetVB n f x q w) := by
  have hb0 := (Below.refl w.heap.size w).alloc (Nat.le_refl _) (.cells #[.int .i64 0, .int .i64 0] 56)
  have H := Lib.hid (h.below (hb0.mono hB))
  have hsz := Nat.le_trans hB hb0.size
  have HR := Lib.hid (show FrB w (w.alloc (.cells #[.int .i64 0, .int .i64 0] 56)) w.heap.size (.int .i64 0) (.int .i64 0) from FrB.new (Below.refl _ _) _ _)
  clear hb0
  have HK := Lib.hid (fun (_ : Unit) => l19Code_any B v n f x q _ H.out hn)
  obtain ⟨A, c, rfl⟩ := rd_sl h
  clear h
  generalize hw1 : w.alloc (.cells #[.int .i64 0, .int .i64 0] 56) = w1 at *
  cases hc : codeB n f x q with
  | false =>
    have Hr := Lib.hid (vb_bad hc)
    rw [hc] at HK
    clear hc
    obtain ⟨r0, r1, r2, r3⟩ := blk2 HR.out.res
    go_enter Try.func29, Try.ntmps29
    go_upto_region 1 with (fail)
    clear hw1
    go_wp2_with fail
    refine (HK.out ()).mono ?_; rintro e w1 ⟨rfl, rfl⟩
    have HF := Lib.hid (HR.out.put (.int .i64 0) (.int .i64 0))
    obtain ⟨k0, k1, _, _⟩ := blk2 HF.out.res
    go_wp2_with fail
    exact bodyPost_ret (v := .tuple #[aggQ 0 0, .int .i64 2]) (by simp [results, Try.results29, go_sem, k0, k1]) rfl ⟨by rw [Hr.out.1, Hr.out.2.1, Hr.out.2.2], HF.out.bel⟩
  | true =>
    obtain ⟨p, rfl, hS, hvb⟩ := codeB_ok hc
    have Hc := Lib.hid hc
    have HVB := Lib.hid hvb
    have HL := Lib.hid (l19Leads_any B _ n f w1 H.out hsz hvb.n1 hvb.n6 hS)
    unfold RetF at HL
    rw [hc] at HK
    clear hc hS hvb
    go_enter Try.func29, Try.ntmps29
    go_upto_region 1 with (fail)
    clear hw1
    go_wp2_with fail
    refine (HK.out ()).mono ?_; rintro e w1 ⟨rfl, rfl⟩
    go_wp2_with fail
    refine (HL.out).mono ?_; rintro e w2 ⟨v2, rfl, ho2, hb2⟩
    have HR2 := Lib.hid (HR.out.below hb2)
    obtain ⟨A2, c2, rfl⟩ := own_sl ho2
    have HV := Lib.hid (l19At_any w2.heap.size _ n (ldsF f) x p w2 (Rd.of_own ho2) (Nat.le_refl _) HVB.out)
    unfold RetQ at HV
    clear ho2 hb2
    go_wp2_with fail
    refine (HV.out).mono ?_; rintro e w3 ⟨rfl, hb3⟩
    have HR3 := Lib.hid (HR2.out.below hb3)
    clear hb3
    go_upto_region 5 with (fail)
    have HrF := Lib.hid (fun h => vb_full Hc.out h)
    have HrO := Lib.hid (fun h => vb_ok Hc.out h)
    generalize vaN (ldsF f) x p n = N at *
    generalize vaD (ldsF f) x p n = D at *
    have HT := Lib.hid (FrB.new (Below.refl w3.heap.size w3) (.int .i64 N) (.int .i64 (D : Int)))
    have HR4 := Lib.hid (HR3.out.alloc (.cells #[.int .i64 N, .int .i64 (D : Int)] 56))
    generalize w3.alloc (.cells #[.int .i64 N, .int .i64 (D : Int)] 56) = w4 at *
    have ht3 : w.heap.size < w3.heap.size := blk_ltF HR3.out.res
    generalize hg : w3.heap.size = t at *
    have Hg := Lib.hid hg
    clear hg
    obtain ⟨t0, t1, _, _⟩ := blk2 HT.out.res
    have HP := Lib.hid (fun wx => l19Ok_any N (D : Int) wx)
    clear HVB Hc
    go_wp2_with fail
    refine (HP.out _).mono ?_; rintro e w5 ⟨rfl, hb5⟩
    have HR5 := Lib.hid (HR4.out.below hb5)
    have HT5 := Lib.hid (HT.out.below hb5)
    clear hb5 t0 t1
    cases ho : okQ N (D : Int) with
    | false =>
      have Hr := Lib.hid (HrF.out ho)
      obtain ⟨r0, r1, r2, r3⟩ := blk2 HR5.out.res
      have HF := Lib.hid (HR5.out.put (.int .i64 0) (.int .i64 0))
      obtain ⟨k0, k1, _, _⟩ := blk2 HF.out.res
      go_wp2_with fail
      exact bodyPost_ret (v := .tuple #[aggQ 0 0, .int .i64 5]) (by simp [results, Try.results29, go_sem, k0, k1]) rfl ⟨by rw [Hr.out.1, Hr.out.2.1, Hr.out.2.2], HF.out.bel⟩
    | true =>
      have Hr := Lib.hid (HrO.out ho)
      obtain ⟨r0, r1, r2, r3⟩ := blk2 HR5.out.res
      obtain ⟨t0, t1, _, _⟩ := blk2 HT5.out.res
      have HF := Lib.hid (HR5.out.put (.int .i64 N) (.int .i64 (D : Int)))
      obtain ⟨k0, k1, _, _⟩ := blk2 HF.out.res
      go_wp2_with fail
      exact bodyPost_ret (v := .tuple #[aggQ N (D : Int), .int .i64 0]) (by simp [results, Try.results29, go_sem, k0, k1]) rfl ⟨by rw [Hr.out.1, Hr.out.2.1, Hr.out.2.2], HF.out.bel⟩
/-- the first differences: a row and a code -/
def ldN (n : Nat) (f : Nat → Int) : Nat := if knownB n f then n else 0
def ldC (n : Nat) (f : Nat → Int) : Int := if knownB n f then 0 else 2
def RetLD (n : Nat) (f : Nat → Int) (w : World) (e : Ending) (w' : World) : Prop := ∃ v, e = .returned (.tuple #[v, .int .i64 (ldC n f)]) ∧ w'.ownsRow w.heap.size 2 1 v (ldN n f) (tab (ldN n f) (ldsF f)) ∧ Below w.heap.size w w'
theorem own_nil (w : World) (base : Nat) (e : TypeId) (sz : Nat) : w.ownsRow base e sz (.slice none 0 0) 0 [] := ⟨by simp, .inl ⟨rfl, rfl⟩⟩
set_option maxRecDepth 100000 in
set_option maxHeartbeats 3200000 in
theorem LeadsI_any (B : Nat) (v : Value) (n : Nat) (f : Nat → Int) (w : World) (h : Rd w B v n 1 (tab n f)) (hB : B ≤ w.heap.size) (hn : n ≤ 1000) :
    Calls Try.prog 34 #[v] w (RetLD n f w) := by
  have HK := Lib.hid (fun (_ : Unit) => knownI_c B v n f w h hn)
  have H := Lib.hid h
  obtain ⟨A, c, rfl⟩ := rd_sl h
  have hb0 := Lib.hid (Below.refl w.heap.size w)
  clear h
  cases h1 : knownB n f with
  | false =>
    have e1 : ldN n f = 0 := by unfold ldN; rw [h1]; rfl
    have e2 : ldC n f = 2 := by unfold ldC; rw [h1]; rfl
    have Hr := Lib.hid (show RetLD n f w (.returned (.tuple #[.slice none 0 0, .int .i64 2])) w from ⟨_, by rw [e2], by rw [e1]; exact own_nil _ _ _ _, hb0.out⟩)
    rw [h1] at HK
    clear h1 e1 e2
    go_enter Try.func34, Try.ntmps34
    go_wp2_with fail
    refine (HK.out ()).mono ?_; rintro e w1 ⟨rfl, rfl⟩
    go_wp2_with fail
    go_ret2
    exact Hr.out
  | true =>
    have e1 : ldN n f = n := by unfold ldN; rw [h1]; rfl
    have e2 : ldC n f = 0 := by unfold ldC; rw [h1]; rfl
    have Hr := Lib.hid (show ∀ v w', w'.ownsRow w.heap.size 2 1 v n (tab n (ldsF f)) → Below w.heap.size w w' → RetLD n f w (.returned (.tuple #[v, .int .i64 0])) w' from fun v w' h1 h2 => ⟨_, by rw [e2], by rw [e1]; exact h1, h2⟩)
    obtain ⟨hS, hn1, hn6⟩ := knownB_ok h1
    have HL := Lib.hid (leadI_any B _ n f w H.out hB hn6 hS)
    unfold RetF at HL
    rw [h1] at HK
    clear h1 e1 e2 hS hn1 hn6
    go_enter Try.func34, Try.ntmps34
    go_wp2_with fail
    refine (HK.out ()).mono ?_; rintro e w1 ⟨rfl, rfl⟩
    go_wp2_with fail
    refine (HL.out).mono ?_; rintro e w2 ⟨v2, rfl, ho2, hb2⟩
    obtain ⟨A2, c2, rfl⟩ := own_sl ho2
    have Hz := Lib.hid (Hr.out _ _ ho2 hb2)
    clear ho2 hb2
    go_wp2_with fail
    go_ret2
    exact Hz.out
set_option maxRecDepth 100000 in
set_option maxHeartbeats 3200000 in
theorem LeadsS_any (B : Nat) (v : Value) (n : Nat) (f : Nat → Int) (w : World) (h : Rd w B v n 1 (tab n f)) (hB : B ≤ w.heap.size) (hn : n ≤ 1000) :
    Calls Try.prog 35 #[v] w (RetLD n f w) := by
  have HK := Lib.hid (fun (_ : Unit) => knownS_c B v n f w h hn)
  have H := Lib.hid h
  obtain ⟨A, c, rfl⟩ := rd_sl h
  have hb0 := Lib.hid (Below.refl w.heap.size w)
  clear h
  cases h1 : knownB n f with
  | false =>
    have e1 : ldN n f = 0 := by unfold ldN; rw [h1]; rfl
    have e2 : ldC n f = 2 := by unfold ldC; rw [h1]; rfl
    have Hr := Lib.hid (show RetLD n f w (.returned (.tuple #[.slice none 0 0, .int .i64 2])) w from ⟨_, by rw [e2], by rw [e1]; exact own_nil _ _ _ _, hb0.out⟩)
    rw [h1] at HK
    clear h1 e1 e2
    go_enter Try.func35, Try.ntmps35
    go_wp2_with fail
    refine (HK.out ()).mono ?_; rintro e w1 ⟨rfl, rfl⟩
    go_wp2_with fail
    go_ret2
    exact Hr.out
  | true =>
    have e1 : ldN n f = n := by unfold ldN; rw [h1]; rfl
    have e2 : ldC n f = 0 := by unfold ldC; rw [h1]; rfl
    have Hr := Lib.hid (show ∀ v w', w'.ownsRow w.heap.size 2 1 v n (tab n (ldsF f)) → Below w.heap.size w w' → RetLD n f w (.returned (.tuple #[v, .int .i64 0])) w' from fun v w' h1 h2 => ⟨_, by rw [e2], by rw [e1]; exact h1, h2⟩)
    obtain ⟨hS, hn1, hn6⟩ := knownB_ok h1
    have HL := Lib.hid (l19Leads_any B _ n f w H.out hB hn1 hn6 hS)
    unfold RetF at HL
    rw [h1] at HK
    clear h1 e1 e2 hS hn1 hn6
    go_enter Try.func35, Try.ntmps35
    go_wp2_with fail
    refine (HK.out ()).mono ?_; rintro e w1 ⟨rfl, rfl⟩
    go_wp2_with fail
    refine (HL.out).mono ?_; rintro e w2 ⟨v2, rfl, ho2, hb2⟩
    obtain ⟨A2, c2, rfl⟩ := own_sl ho2
    have Hz := Lib.hid (Hr.out _ _ ho2 hb2)
    clear ho2 hb2
    go_wp2_with fail
    go_ret2
    exact Hz.out
end Go.Proofs.Ytemcdmjnokpldaa
/- Finer tables, part 7: finer tables, both sides. -/
namespace Go.Proofs.Ytemcdmjnokpldaa
open Go.RowKit Go.Joins

/-- the first n fractions -/
def tabQ (n : Nat) (a b : Nat → Int) : List Value := (List.range n).flatMap fun i => [.int .i64 (a i), .int .i64 (b i)]
theorem tabQ_succ (n : Nat) (a b : Nat → Int) : tabQ (n + 1) a b = tabQ n a b ++ [.int .i64 (a n), .int .i64 (b n)] := by simp [tabQ, List.range_succ]
theorem tabQ_len (a b : Nat → Int) : ∀ n, (tabQ n a b).length = n * 2
  | 0 => rfl
  | n + 1 => by rw [tabQ_succ, List.length_append, tabQ_len a b n]; simp; omega
theorem tabQ_at (a b : Nat → Int) : ∀ n k, k < n → (tabQ n a b)[k * 2]? = some (.int .i64 (a k)) ∧ (tabQ n a b)[k * 2 + 1]? = some (.int .i64 (b k))
  | 0, k, h => by omega
  | n + 1, k, h => by
    have hl := tabQ_len a b n
    rw [tabQ_succ]
    by_cases hk : k < n
    · rw [List.getElem?_append_left (by omega), List.getElem?_append_left (by omega)]
      exact tabQ_at a b n k hk
    · obtain rfl : k = n := by omega
      rw [List.getElem?_append_right (by omega), List.getElem?_append_right (by omega), hl, show k * 2 - k * 2 = 0 by omega, show k * 2 + 1 - k * 2 = 1 by omega]
      exact ⟨rfl, rfl⟩
theorem tabQ_congr {n : Nat} {a b c d : Nat → Int} (h : ∀ k, k < n → a k = c k ∧ b k = d k) : tabQ n a b = tabQ n c d := by
  unfold tabQ
  have : ∀ i ∈ List.range n, [Value.int .i64 (a i), .int .i64 (b i)] = [.int .i64 (c i), .int .i64 (d i)] := fun i hi => by
    have := h i (List.mem_range.1 hi)
    rw [this.1, this.2]
  rw [List.flatMap_def, List.flatMap_def, List.map_congr_left this]
theorem tabQ_one (n : Nat) (a b : Nat → Int) : ∀ u ∈ tabQ n a b, u.oneCell' = true := by
  intro u hu
  obtain ⟨i, _, h⟩ := List.mem_flatMap.1 hu
  simp at h
  rcases h with rfl | rfl <;> rfl
theorem rdQ_at {w : World} {B n n' c : Nat} {A : Option Addr} {a b : Nat → Int} (h : Rd w B (.slice A n' c) n 2 (tabQ n a b)) (k : Nat) (hk : k < n) :
    ∃ g o, A = some ⟨g, o, none⟩ ∧ g < B ∧ w.cell? ⟨g, o + k * 2, none⟩ = some (.int .i64 (a k)) ∧ w.cell? ⟨g, o + k * 2 + 1, none⟩ = some (.int .i64 (b k)) := by
  obtain ⟨_, A', c', hv, hc⟩ := h
  injection hv with e1 e2 e3
  subst e1
  obtain ⟨g, o, hA, hb, hcc⟩ := hc (by omega)
  obtain ⟨t1, t2⟩ := tabQ_at a b n k hk
  exact ⟨g, o, hA, hb, hcc _ _ t1, by have := hcc _ _ t2; rwa [← Nat.add_assoc] at this⟩
theorem infoQ : (Try.prog.info? 56).map (fun i => (i.zero, i.size, i.bytes)) = some (some (.agg #[.int .i64 0, .int .i64 0]), 2, 16) := by kernel_rfl
/-- the values of the finer table -/
def ftA (L : Nat → Int) (p n : Nat) : Nat → Int := fun i => vaN L (i : Int) p n
def ftB (L : Nat → Int) (p n : Nat) : Nat → Int := fun i => vaD L (i : Int) p n
def ftOk (L : Nat → Int) (p n : Nat) : Nat → Bool := fun i => okQ (ftA L p n i) (ftB L p n i)
/-- a row of fractions of the call's own and a code -/
def RetQs (m : Nat) (a b : Nat → Int) (code : Int) (w : World) (e : Ending) (w' : World) : Prop :=
  ∃ v, e = .returned (.tuple #[v, .int .i64 code]) ∧ w'.ownsRow w.heap.size 56 2 v m (tabQ m a b) ∧ Below w.heap.size w w'
theorem RetQs.none {a b : Nat → Int} {code : Int} {w w' : World} (h : Below w.heap.size w w') : RetQs 0 a b code w (.returned (.tuple #[.slice none 0 0, .int .i64 code])) w' := ⟨_, rfl, own_nil _ _ _ _, h⟩
/-- .. from a later world -/
theorem RetQs.from {m : Nat} {a b : Nat → Int} {code : Int} {w w1 w' : World} {e : Ending} (h : RetQs m a b code w1 e w') (hb : Below w.heap.size w w1) : RetQs m a b code w e w' := by
  obtain ⟨v, h1, h2, h3⟩ := h
  exact ⟨v, h1, ownsRow_le h2 hb.size, hb.trans (h3.mono hb.size)⟩
def finN (c : Nat) (g : Nat → Bool) : Nat := if allN c g then c else 0
def finC (c : Nat) (g : Nat → Bool) : Int := if allN c g then 0 else 5
theorem fin_bad {c : Nat} {g : Nat → Bool} (h : allN c g = false) : finN c g = 0 ∧ finC c g = 5 := by unfold finN finC; rw [h]; exact ⟨rfl, rfl⟩
theorem fin_ok {c : Nat} {g : Nat → Bool} (h : allN c g = true) : finN c g = c ∧ finC c g = 0 := by unfold finN finC; rw [h]; exact ⟨rfl, rfl⟩
set_option maxRecDepth 100000 in
set_option maxHeartbeats 6400000 in
theorem finer_any (B : Nat) (v : Value) (n c p : Nat) (f : Nat → Int) (w : World) (h : Rd w B v n 1 (tab n f)) (hB : B ≤ w.heap.size) (hn : n ≤ 6) (hS : Small 100000 n f) (hc : c ≤ 120) (hvb : ∀ k : Nat, k < c → VB (ldsF f) (k : Int) p n) :
    Calls Try.prog 92 #[v, .int .i64 (p : Int), .int .i64 (c : Int)] w (RetQs (finN c (ftOk (ldsF f) p n)) (ftA (ldsF f) p n) (ftB (ldsF f) p n) (finC c (ftOk (ldsF f) p n)) w) := by
  have HL := Lib.hid (leadI_any B v n f w h hB hn hS)
  unfold RetF at HL
  have HVB := Lib.hid hvb
  obtain ⟨A, c0, rfl⟩ := rd_sl h
  clear h hvb hS
  go_enter Try.func92, Try.ntmps92
  go_wp2_with fail
  refine (HL.out).mono ?_; rintro e w2 ⟨v2, rfl, ho2, hb2⟩
  obtain ⟨A2, c2, rfl⟩ := own_sl ho2
  have R2 := Lib.hid (Rd.of_own ho2)
  have Hb2 := Lib.hid hb2
  have Hb0 := Lib.hid ((Below.refl w2.heap.size w2).alloc (Nat.le_refl _) (.cells #[] 56))
  have Ho0 := Lib.hid (World.ownsRow_made (base := w2.heap.size) (e := 56) (size := 2) w2 #[] 0 (Nat.le_refl _) (by simp [maxLen]) rfl)
  clear ho2 hb2
  go_wp2_with fail
  go_loopw [9, 18] (fun a i wr => ∃ k : Nat, k ≤ c ∧ i = .int .i64 (k : Int) ∧ allN k (ftOk (ldsF f) p n) = true ∧ wr.ownsRow w2.heap.size 56 2 a k (tabQ k (ftA (ldsF f) p n) (ftB (ldsF f) p n)) ∧ Below w2.heap.size w2 wr) (fun _ i _ => c - (intOf i).toNat)
  case atStart => exact ⟨0, Nat.zero_le _, rfl, rfl, Ho0.out, Hb0.out⟩
  case round =>
    obtain ⟨k, hk, rfl, hall, hown, hbl⟩ := hrel
    obtain ⟨A3, c3, rfl⟩ := own_sl hown
    have Hown := Lib.hid hown
    have Hbl := Lib.hid hbl
    have Hall := Lib.hid hall
    clear hall hown hbl
    by_cases hlt : k < c
    · have hlt' : (k : Int) < (c : Int) := by omega
      have hvb := HVB.out k hlt
      have HV := Lib.hid (valueAt_any wr.heap.size _ n (ldsF f) (k : Int) p wr (rdN R2.out Hbl.out) (Nat.le_refl _) hvb)
      unfold RetQ at HV
      have Hsc := Lib.hid (tabQ_succ k (ftA (ldsF f) p n) (ftB (ldsF f) p n))
      have e1 : ftA (ldsF f) p n k = vaN (ldsF f) (k : Int) p n := rfl
      have e2 : ftB (ldsF f) p n k = vaD (ldsF f) (k : Int) p n := rfl
      have e3 : ftOk (ldsF f) p n k = okQ (vaN (ldsF f) (k : Int) p n) (vaD (ldsF f) (k : Int) p n) := rfl
      rw [e1, e2] at Hsc
      have HbadF := Lib.hid (fun h => fin_bad (allN_bad (f := ftOk (ldsF f) p n) k hlt (e3.trans h)))
      have HokF := Lib.hid (fun h => allN_step (f := ftOk (ldsF f) p n) Hall.out (e3.trans h))
      clear e1 e2 e3 hvb
      generalize vaN (ldsF f) (k : Int) p n = N at *
      generalize vaD (ldsF f) (k : Int) p n = D at *
      have hkc : k < 120 := by omega
      go_wp2_with fail
      refine (HV.out).mono ?_; rintro e w5 ⟨rfl, hb5⟩
      have Hb5 := Lib.hid (Hbl.out.trans (hb5.mono Hbl.out.size))
      have Ho5 := Lib.hid (own_below Hown.out hb5)
      clear hb5
      go_upto_region 6 with (fail)
      have HT := Lib.hid (FrB.new (Below.refl w5.heap.size w5) (.int .i64 N) (.int .i64 (D : Int)))
      have hba := (Below.refl w5.heap.size w5).alloc (Nat.le_refl _) (.cells #[.int .i64 N, .int .i64 (D : Int)] 56)
      have Hb6 := Lib.hid (Hb5.out.trans (hba.mono Hb5.out.size))
      have Ho6 := Lib.hid (own_below Ho5.out hba)
      clear hba
      generalize w5.alloc (.cells #[.int .i64 N, .int .i64 (D : Int)] 56) = w6 at *
      generalize hg : w5.heap.size = t at *
      have Hg := Lib.hid hg
      clear hg
      obtain ⟨t0, t1, _, _⟩ := blk2 HT.out.res
      have HP := Lib.hid (fun wx => isPlain_any N (D : Int) wx)
      go_wp2_with fail
      refine (HP.out _).mono ?_; rintro e w7 ⟨rfl, hb7⟩
      have HT7 := Lib.hid (HT.out.below hb7)
      have Hb7 := Lib.hid (Hb6.out.trans (hb7.mono Hb6.out.size))
      have Ho7 := Lib.hid (own_below Ho6.out hb7)
      clear hb7 t0 t1
      cases ho : okQ N (D : Int) with
      | false =>
        have Hr := Lib.hid (HbadF.out ho)
        clear ho
        go_wp2_with fail
        go_ret2
        exact RetQs.from (by rw [Hr.out.1, Hr.out.2]; exact RetQs.none Hb7.out) Hb2.out
      | true =>
        have Hok := Lib.hid (HokF.out ho)
        clear ho
        obtain ⟨t0, t1, _, _⟩ := blk2 HT7.out.res
        go_wp2_with (at_builtin; refine wpList_apd 52 56 _ 2 16 Try.underlying52 infoQ rfl (by omega) _ _ rfl rfl w2.heap.size _ k _ rfl Ho7.out #[.int .i64 N, .int .i64 (D : Int)] 1 1 rfl rfl (by simp [Value.oneCell']) (by simp [maxLen]; omega) (by omega) Hb7.out.size ?_; intro v8 w8 hown8 hg8; have Hb8 := Lib.hid (below_apd Hb7.out Ho7.out hg8 (Nat.le_refl _) Hb7.out.size); obtain ⟨A8, c8, rfl⟩ := own_sl hown8; have Hown8 := Lib.hid hown8; clear hown8 hg8)
        go_roundw
        case rel => exact ⟨k + 1, by omega, by go_num, Hok.out, by rw [Hsc.out]; exact Hown8.out, Hb8.out⟩
        case measure => first | (simp [intOf]; done) | (simp [intOf]; omega)
    · obtain rfl : k = c := by omega
      have Hr := Lib.hid (fin_ok Hall.out)
      have hlt' : ¬ ((k : Int) < (k : Int)) := by omega
      go_wp2_with fail
      go_ret2
      exact RetQs.from (by rw [Hr.out.1, Hr.out.2]; exact ⟨_, rfl, Hown.out, Hbl.out⟩) Hb2.out
/-- the finer table: code and number -/
def ftC (n : Nat) (f : Nat → Int) (p c : Int) : Int := if codeB n f 0 p && inB c 0 120 then finC c.toNat (ftOk (ldsF f) p.toNat n) else 2
def ftN (n : Nat) (f : Nat → Int) (p c : Int) : Nat := if codeB n f 0 p && inB c 0 120 then finN c.toNat (ftOk (ldsF f) p.toNat n) else 0
def RetFT (n : Nat) (f : Nat → Int) (p c : Int) (w : World) (e : Ending) (w' : World) : Prop := RetQs (ftN n f p c) (ftA (ldsF f) p.toNat n) (ftB (ldsF f) p.toNat n) (ftC n f p c) w e w'
theorem ft_bad {n : Nat} {f : Nat → Int} {p c : Int} (h : (codeB n f 0 p && inB c 0 120) = false) : ftN n f p c = 0 ∧ ftC n f p c = 2 := by unfold ftN ftC; rw [h]; exact ⟨rfl, rfl⟩
theorem ft_ok {n : Nat} {f : Nat → Int} {p c : Nat} (h : (codeB n f 0 (p : Int) && inB (c : Int) 0 120) = true) : ftN n f p c = finN c (ftOk (ldsF f) p n) ∧ ftC n f p c = finC c (ftOk (ldsF f) p n) := by unfold ftN ftC; rw [h, Int.toNat_natCast, Int.toNat_natCast]; exact ⟨rfl, rfl⟩
theorem VB.any {L : Nat → Int} {x y : Int} {q n : Nat} (h : VB L x q n) (h1 : -120 ≤ y) (h2 : y ≤ 120) : VB L y q n := ⟨h.n1, h.n6, h.q1, h.q20, h1, h2, h.lds⟩
theorem in0 : inB (0 : Int) (-120) 120 = true := by decide
theorem RetFT.bad {n : Nat} {f : Nat → Int} {p c : Int} {w w' : World} (h : (codeB n f 0 p && inB c 0 120) = false) (hb : Below w.heap.size w w') : RetFT n f p c w (.returned (.tuple #[.slice none 0 0, .int .i64 2])) w' := by
  obtain ⟨e1, e2⟩ := ft_bad h
  unfold RetFT
  rw [e1, e2]
  exact RetQs.none hb
set_option maxRecDepth 100000 in
set_option maxHeartbeats 3200000 in
theorem FTableI_any (B : Nat) (v : Value) (n : Nat) (f : Nat → Int) (p c : Int) (w : World) (h : Rd w B v n 1 (tab n f)) (hB : B ≤ w.heap.size) (hn : n ≤ 1000) :
    Calls Try.prog 25 #[v, .int .i64 p, .int .i64 c] w (RetFT n f p c w) := by
  have HK := Lib.hid (fun (_ : Unit) => knownI_c B v n f w h hn)
  have H := Lib.hid h
  have HQ := Lib.hid (fun wx => fine_c p wx)
  have HX := Lib.hid (fun wx => between_any c 0 120 wx)
  obtain ⟨A, c0, rfl⟩ := rd_sl h
  have hb0 := Lib.hid (Below.refl w.heap.size w)
  clear h
  cases h1 : knownB n f with
  | false =>
    have Hr := Lib.hid (RetFT.bad (c := c) (by rw [codeB_k (x := 0) (q := p) h1]; rfl) hb0.out)
    rw [h1] at HK
    clear h1
    go_enter Try.func25, Try.ntmps25
    go_wp2_with fail
    refine (HK.out ()).mono ?_; rintro e w1 ⟨rfl, rfl⟩
    go_wp2_with fail
    go_ret2
    exact Hr.out
  | true =>
    cases h2 : inB p 1 20 with
    | false =>
      have Hr := Lib.hid (RetFT.bad (c := c) (by rw [codeB_f (n := n) (f := f) (x := 0) h2]; rfl) hb0.out)
      rw [h1] at HK
      rw [h2] at HQ
      clear h1 h2
      go_enter Try.func25, Try.ntmps25
      go_wp2_with fail
      refine (HK.out ()).mono ?_; rintro e w1 ⟨rfl, rfl⟩
      go_wp2_with fail
      refine (HQ.out _).mono ?_; rintro e w1 ⟨rfl, rfl⟩
      go_wp2_with fail
      go_ret2
      exact Hr.out
    | true =>
      cases h3 : inB c 0 120 with
      | false =>
        have Hr := Lib.hid (RetFT.bad (n := n) (f := f) (p := p) (by rw [h3, Bool.and_false]) hb0.out)
        rw [h1] at HK
        rw [h2] at HQ
        rw [h3] at HX
        clear h1 h2 h3
        go_enter Try.func25, Try.ntmps25
        go_wp2_with fail
        refine (HK.out ()).mono ?_; rintro e w1 ⟨rfl, rfl⟩
        go_wp2_with fail
        refine (HQ.out _).mono ?_; rintro e w1 ⟨rfl, rfl⟩
        go_wp2_with fail
        refine (HX.out _).mono ?_; rintro e w1 ⟨rfl, rfl⟩
        go_wp2_with fail
        go_ret2
        exact Hr.out
      | true =>
        have hc := codeB_all h1 h2 in0
        obtain ⟨q, rfl, hS, hvb⟩ := codeB_ok hc
        have h3' := inB_iff.1 h3
        obtain ⟨m, rfl⟩ : ∃ m : Nat, c = (m : Int) := ⟨c.toNat, by omega⟩
        have Hr := Lib.hid (ft_ok (n := n) (f := f) (p := q) (c := m) (by rw [hc, h3]; rfl))
        have HF := Lib.hid (finer_any B _ n m q f w H.out hB hvb.n6 hS (by omega) (fun k hk => hvb.any (by omega) (by omega)))
        unfold RetQs at HF
        rw [h1] at HK
        rw [h2] at HQ
        rw [h3] at HX
        clear h1 h2 h3 h3' hc hS hvb
        go_enter Try.func25, Try.ntmps25
        go_wp2_with fail
        refine (HK.out ()).mono ?_; rintro e w1 ⟨rfl, rfl⟩
        go_wp2_with fail
        refine (HQ.out _).mono ?_; rintro e w1 ⟨rfl, rfl⟩
        go_wp2_with fail
        refine (HX.out _).mono ?_; rintro e w1 ⟨rfl, rfl⟩
        go_wp2_with fail
        refine (HF.out).mono ?_; rintro e w2 ⟨v2, rfl, ho2, hb2⟩
        have Hz := Lib.hid (show RetFT n f (q : Int) (m : Int) w (.returned (.tuple #[v2, .int .i64 (finC m (ftOk (ldsF f) q n))])) w2 from by
          unfold RetFT
          rw [Hr.out.1, Hr.out.2, Int.toNat_natCast]
          exact ⟨_, rfl, ho2, hb2⟩)
        obtain ⟨A2, c2, rfl⟩ := own_sl ho2
        clear ho2 hb2
        go_wp2_with fail
        go_ret2
        exact Hz.out
set_option maxRecDepth 100000 in
set_option maxHeartbeats 6400000 in
theorem FTableS_any (B : Nat) (v : Value) (n : Nat) (f : Nat → Int) (p c : Int) (w : World) (h : Rd w B v n 1 (tab n f)) (hB : B ≤ w.heap.size) (hn : n ≤ 1000) :
    Calls Try.prog 26 #[v, .int .i64 p, .int .i64 c] w (RetFT n f p c w) := by
  have HK := Lib.hid (fun (_ : Unit) => l19Code_any B v n f 0 p w h hn)
  have H := Lib.hid h
  have HX := Lib.hid (fun wx => l00In_any c 0 120 wx)
  obtain ⟨A, c0, rfl⟩ := rd_sl h
  have hb0 := Lib.hid (Below.refl w.heap.size w)
  clear h
  cases h1 : codeB n f 0 p with
  | false =>
    have Hr := Lib.hid (RetFT.bad (c := c) (by rw [h1]; rfl) hb0.out)
    rw [h1] at HK
    clear h1
    go_enter Try.func26, Try.ntmps26
    go_wp2_with fail
    refine (HK.out ()).mono ?_; rintro e w1 ⟨rfl, rfl⟩
    go_wp2_with fail
    go_ret2
    exact Hr.out
  | true =>
    cases h3 : inB c 0 120 with
    | false =>
      have Hr := Lib.hid (RetFT.bad (n := n) (f := f) (p := p) (by rw [h3, Bool.and_false]) hb0.out)
      rw [h1] at HK
      rw [h3] at HX
      clear h1 h3
      go_enter Try.func26, Try.ntmps26
      go_wp2_with fail
      refine (HK.out ()).mono ?_; rintro e w1 ⟨rfl, rfl⟩
      go_wp2_with fail
      refine (HX.out _).mono ?_; rintro e w1 ⟨rfl, rfl⟩
      go_wp2_with fail
      go_ret2
      exact Hr.out
    | true =>
      obtain ⟨p, rfl, hS, hvb⟩ := codeB_ok h1
      have h3' := inB_iff.1 h3
      obtain ⟨c, rfl⟩ : ∃ m : Nat, c = (m : Int) := ⟨c.toNat, by omega⟩
      have Hft := Lib.hid (ft_ok (n := n) (f := f) (p := p) (c := c) (by rw [h1, h3]; rfl))
      have HL := Lib.hid (l19Leads_any B _ n f w H.out hB hvb.n1 hvb.n6 hS)
      unfold RetF at HL
      have HVB := Lib.hid (fun k (hk : k < c) => hvb.any (y := (k : Int)) (by omega) (by omega))
      have hc : c ≤ 120 := by omega
      have hn : n ≤ 6 := hvb.n6
      have Hfin := Lib.hid (fun e w' (h : RetQs (finN c (ftOk (ldsF f) p n)) (ftA (ldsF f) p n) (ftB (ldsF f) p n) (finC c (ftOk (ldsF f) p n)) w e w') => (show RetFT n f (p : Int) (c : Int) w e w' from by
        unfold RetFT
        rw [Hft.out.1, Hft.out.2, Int.toNat_natCast]
        exact h))
      rw [h1] at HK
      rw [h3] at HX
      clear h1 h3 h3' hS hvb
      go_enter Try.func26, Try.ntmps26
      go_wp2_with fail
      refine (HK.out ()).mono ?_; rintro e w1 ⟨rfl, rfl⟩
      go_wp2_with fail
      refine (HX.out _).mono ?_; rintro e w1 ⟨rfl, rfl⟩
      go_wp2_with fail
      refine (HL.out).mono ?_; rintro e w2 ⟨v2, rfl, ho2, hb2⟩
      obtain ⟨A2, c2, rfl⟩ := own_sl ho2
      have R2 := Lib.hid (Rd.of_own ho2)
      have Hb2 := Lib.hid hb2
      have Hb0 := Lib.hid ((Below.refl w2.heap.size w2).alloc (Nat.le_refl _) (.cells #[] 56))
      have Ho0 := Lib.hid (World.ownsRow_made (base := w2.heap.size) (e := 56) (size := 2) w2 #[] 0 (Nat.le_refl _) (by simp [maxLen]) rfl)
      clear ho2 hb2
      go_wp2_with fail
      go_loopw [10, 11] (fun a i wr => ∃ k : Nat, k ≤ c ∧ i = .int .i64 (k : Int) ∧ allN k (ftOk (ldsF f) p n) = true ∧ wr.ownsRow w2.heap.size 56 2 a k (tabQ k (ftA (ldsF f) p n) (ftB (ldsF f) p n)) ∧ Below w2.heap.size w2 wr) (fun _ i _ => c - (intOf i).toNat)
      case atStart => exact ⟨0, Nat.zero_le _, rfl, rfl, Ho0.out, Hb0.out⟩
      case round =>
        obtain ⟨k, hk, rfl, hall, hown, hbl⟩ := hrel
        obtain ⟨A3, c3, rfl⟩ := own_sl hown
        have Hown := Lib.hid hown
        have Hbl := Lib.hid hbl
        have Hall := Lib.hid hall
        clear hall hown hbl
        by_cases hlt : k < c
        · have hlt' : (k : Int) < (c : Int) := by omega
          have hvb := HVB.out k hlt
          have HV := Lib.hid (l19At_any wr.heap.size _ n (ldsF f) (k : Int) p wr (rdN R2.out Hbl.out) (Nat.le_refl _) hvb)
          unfold RetQ at HV
          have Hsc := Lib.hid (tabQ_succ k (ftA (ldsF f) p n) (ftB (ldsF f) p n))
          have e1 : ftA (ldsF f) p n k = vaN (ldsF f) (k : Int) p n := rfl
          have e2 : ftB (ldsF f) p n k = vaD (ldsF f) (k : Int) p n := rfl
          have e3 : ftOk (ldsF f) p n k = okQ (vaN (ldsF f) (k : Int) p n) (vaD (ldsF f) (k : Int) p n) := rfl
          rw [e1, e2] at Hsc
          have HbadF := Lib.hid (fun h => fin_bad (allN_bad (f := ftOk (ldsF f) p n) k hlt (e3.trans h)))
          have HokF := Lib.hid (fun h => allN_step (f := ftOk (ldsF f) p n) Hall.out (e3.trans h))
          clear e1 e2 e3 hvb
          generalize vaN (ldsF f) (k : Int) p n = N at *
          generalize vaD (ldsF f) (k : Int) p n = D at *
          have hkc : k < 120 := by omega
          go_wp2_with fail
          refine (HV.out).mono ?_; rintro e w5 ⟨rfl, hb5⟩
          have Hb5 := Lib.hid (Hbl.out.trans (hb5.mono Hbl.out.size))
          have Ho5 := Lib.hid (own_below Hown.out hb5)
          clear hb5
          go_upto_region 12 with (fail)
          have HT := Lib.hid (FrB.new (Below.refl w5.heap.size w5) (.int .i64 N) (.int .i64 (D : Int)))
          have hba := (Below.refl w5.heap.size w5).alloc (Nat.le_refl _) (.cells #[.int .i64 N, .int .i64 (D : Int)] 56)
          have Hb6 := Lib.hid (Hb5.out.trans (hba.mono Hb5.out.size))
          have Ho6 := Lib.hid (own_below Ho5.out hba)
          clear hba
          generalize w5.alloc (.cells #[.int .i64 N, .int .i64 (D : Int)] 56) = w6 at *
          generalize hg : w5.heap.size = t at *
          have Hg := Lib.hid hg
          clear hg
          obtain ⟨t0, t1, _, _⟩ := blk2 HT.out.res
          have HP := Lib.hid (fun wx => l19Ok_any N (D : Int) wx)
          go_wp2_with fail
          refine (HP.out _).mono ?_; rintro e w7 ⟨rfl, hb7⟩
          have HT7 := Lib.hid (HT.out.below hb7)
          have Hb7 := Lib.hid (Hb6.out.trans (hb7.mono Hb6.out.size))
          have Ho7 := Lib.hid (own_below Ho6.out hb7)
          clear hb7 t0 t1
          cases ho : okQ N (D : Int) with
          | false =>
            have Hr := Lib.hid (HbadF.out ho)
            clear ho
            go_wp2_with fail
            go_ret2
            exact Hfin.out _ _ (RetQs.from (by rw [Hr.out.1, Hr.out.2]; exact RetQs.none Hb7.out) Hb2.out)
          | true =>
            have Hok := Lib.hid (HokF.out ho)
            clear ho
            obtain ⟨t0, t1, _, _⟩ := blk2 HT7.out.res
            go_wp2_with (at_builtin; refine wpList_apd 52 56 _ 2 16 Try.underlying52 infoQ rfl (by omega) _ _ rfl rfl w2.heap.size _ k _ rfl Ho7.out #[.int .i64 N, .int .i64 (D : Int)] 1 1 rfl rfl (by simp [Value.oneCell']) (by simp [maxLen]; omega) (by omega) Hb7.out.size ?_; intro v8 w8 hown8 hg8; have Hb8 := Lib.hid (below_apd Hb7.out Ho7.out hg8 (Nat.le_refl _) Hb7.out.size); obtain ⟨A8, c8, rfl⟩ := own_sl hown8; have Hown8 := Lib.hid hown8; clear hown8 hg8)
            go_roundw
            case rel => exact ⟨k + 1, by omega, by go_num, Hok.out, by rw [Hsc.out]; exact Hown8.out, Hb8.out⟩
            case measure => first | (simp [intOf]; done) | (simp [intOf]; omega)
        · obtain rfl : k = c := by omega
          have Hr := Lib.hid (fin_ok Hall.out)
          have hlt' : ¬ ((k : Int) < (k : Int)) := by omega
          go_wp2_with fail
          go_ret2
          exact Hfin.out _ _ (RetQs.from (by rw [Hr.out.1, Hr.out.2]; exact ⟨_, rfl, Hown.out, Hbl.out⟩) Hb2.out)
end Go.Proofs.Ytemcdmjnokpldaa
/- append to one of several own rows: where the grown row lies. -/
namespace Go.Proofs.Ytemcdmjnokpldaa
open Go.RowKit Go.Joins

theorem wp_apd_at {P : Program} {w : World} {o : Oper} {a : Act} {K : Act → World → Prop} {Q : Exit → Act → World → Prop} (t e : TypeId) (z : Value) (size bytes : Nat)
    (ht : P.underlying t = some (.slice e)) (hinfo : (P.info? e).map (fun i => (i.zero, i.size, i.bytes)) = some (some z, size, bytes)) (hzs : z.cells.size = size) (hsz : 0 < size)
    (s x : Operand) (ho : o.op = .call { callee := .builtin .append, args := #[s, x], argTypes := #[t, t] })
    (base : Nat) (v : Value) (n : Nat) (xs : List Value) (hs : a.eval s = v) (hown : w.ownsRow base e size v n xs)
    (cs : Array Value) (m c : Nat) (hx : a.eval x = .slice (some ⟨w.heap.size, 0, none⟩) m c) (hl : cs.toList.length = m * size) (h1 : ∀ u ∈ cs.toList, u.oneCell' = true)
    (h63 : n + m ≤ maxLen) (hbytes : (n + m) * bytes ≤ 140737488355328) (hbase : base ≤ w.heap.size)
    (h : ∀ v' w', w'.ownsRow base e size v' (n + m) (xs ++ cs.toList) → w.grownBy w' v.ownBlock → w.heap.size + 1 ≤ w'.heap.size → (v'.ownBlock = v.ownBlock ∨ v'.ownBlock = some (w.heap.size + 1)) → K (a.put o.dst v') w') :
    o.wp P a (w.alloc (.cells cs e)) K Q := by
  obtain ⟨i, hi, hz, h2, h3⟩ := info_parts hinfo
  obtain ⟨v', w', hr, ho', hg', _, hat⟩ := run_append_own_at (P := P) (w.alloc (.cells cs e)) base t o.type e i z size bytes ht hi hz h2 h3 hzs hsz v n xs (hown.alloc _) ⟨w.heap.size, 0, none⟩ m c cs.toList hl (new_cells w cs e) h1 h63 hbytes (by simp; omega)
  unfold Oper.wp execOp
  simp only [ho, resolve, invoke, builtin, Sem.run_bind, Sem.run_pure, Result.andThen_ok, List.map_toArray, List.map_cons, List.map_nil, hs, hx, hr]
  refine h v' w' ho' ⟨hg'.os, hg'.tape, hg'.output, Nat.le_trans (by simp) hg'.size, fun k hk hne => ?_⟩ (Nat.le_trans (by simp) hg'.size) (by simpa using hat)
  rw [hg'.block k (by simp; omega) hne]
  exact Below.heap_alloc w _ k hk

/-- at a step of a region that draws, behind a call (no draw of its own) -/
theorem step_apd0_at {P : Program} {w : World} {ops : Array Oper} {o : Oper} {a : Act} {K : Act → World → Prop} {Q : Exit → Act → World → Prop} {E : Prop} (t e : TypeId) (z : Value) (size bytes : Nat)
    (ht : P.underlying t = some (.slice e)) (hinfo : (P.info? e).map (fun i => (i.zero, i.size, i.bytes)) = some (some z, size, bytes)) (hzs : z.cells.size = size) (hsz : 0 < size)
    (s x : Operand) (hgd : o.guard = none) (ho : o.op = .call { callee := .builtin .append, args := #[s, x], argTypes := #[t, t] })
    (base : Nat) (v : Value) (n : Nat) (xs : List Value) (hs : a.eval s = v) (hown : w.ownsRow base e size v n xs)
    (cs : Array Value) (m c : Nat) (hx : a.eval x = .slice (some ⟨w.heap.size, 0, none⟩) m c) (hl : cs.toList.length = m * size) (h1 : ∀ u ∈ cs.toList, u.oneCell' = true)
    (h63 : n + m ≤ maxLen) (hbytes : (n + m) * bytes ≤ 140737488355328) (hbase : base ≤ w.heap.size)
    (h : ∀ v' w', w'.ownsRow base e size v' (n + m) (xs ++ cs.toList) → w.grownBy w' v.ownBlock → w.heap.size + 1 ≤ w'.heap.size → (v'.ownBlock = v.ownBlock ∨ v'.ownBlock = some (w.heap.size + 1)) → K (a.put o.dst v') w') :
    if Region.wanted o (yielded ops a.tmps) = true then Oper.wp P o a (w.alloc (.cells cs e)) K Q else E := by
  have hw : Region.wanted o (yielded ops a.tmps) = true := by simp [Region.wanted, hgd]
  rw [if_pos hw]
  exact wp_apd_at (w := w) t e z size bytes ht hinfo hzs hsz s x ho base v n xs hs hown cs m c hx hl h1 h63 hbytes hbase h

/-- another own row is kept by an append -/
theorem own_grown {w w' : World} {base : Nat} {e : TypeId} {size n : Nat} {v : Value} {xs : List Value} {row : Option Nat} (hown : w.ownsRow base e size v n xs) (hg : w.grownBy w' row)
    (hne : ∀ g, v.ownBlock = some g → row ≠ some g) : w'.ownsRow base e size v n xs := by
  rcases hown.2 with ⟨hv, h0⟩ | ⟨g, cap, cur, hv, hbg, hgg, h1, h2, h3, h4⟩
  · exact ⟨hown.1, .inl ⟨hv, h0⟩⟩
  · refine ⟨hown.1, .inr ⟨g, cap, cur, hv, hbg, ?_, h1, h2, h3, h4⟩⟩
    have hlt : g < w.heap.size := (Array.getElem?_eq_some_iff.mp hgg).1
    rw [hg.block g hlt (fun e1 => hne g (by simp [hv, Value.ownBlock]) e1.symm)]
    exact hgg
end Go.Proofs.Ytemcdmjnokpldaa
/- Finer tables, part 8: first differences of a finer table, both sides. -/
namespace Go.Proofs.Ytemcdmjnokpldaa
open Go.RowKit Go.Joins

def okL (n : Nat) (a b : Nat → Int) : Bool := allN n (fun i => okQ (a i) (b i))
set_option maxRecDepth 100000 in
set_option maxHeartbeats 1600000 in
theorem l19List_any (B : Nat) (v : Value) (n : Nat) (a b : Nat → Int) (w : World) (h : Rd w B v n 2 (tabQ n a b)) (hB : B ≤ w.heap.size) (hn : n ≤ 1000) :
    Calls Try.prog 102 #[v] w fun e w' => e = .returned (.bool (okL n a b)) ∧ Below w.heap.size w w' := by
  have H := Lib.hid h
  obtain ⟨A, c, rfl⟩ := rd_sl h
  have hb0 := Lib.hid (Below.refl w.heap.size w)
  clear h
  go_enter Try.func102, Try.ntmps102
  go_wp2_with fail
  go_loopw [3] (fun i wr => ∃ k : Nat, k ≤ n ∧ i = .int .i64 (k : Int) ∧ okL k a b = true ∧ Below w.heap.size w wr) (fun i _ => n - (intOf i).toNat)
  case atStart => exact ⟨0, Nat.zero_le _, rfl, rfl, hb0.out⟩
  case round =>
    obtain ⟨k, hk, rfl, hall, hbl⟩ := hrel
    have Hall := Lib.hid hall
    have Hbl := Lib.hid hbl
    clear hall hbl
    by_cases hlt : k < n
    · obtain ⟨g, o, hA, hg, q0, q1⟩ := rdQ_at (H.out.below (Hbl.out.mono hB)) k hlt
      subst hA
      have hlt' : (k : Int) < (n : Int) := by omega
      have HB := Lib.hid (fun h => allN_bad (f := fun i => okQ (a i) (b i)) k hlt h)
      have HG := Lib.hid (fun h => allN_step (f := fun i => okQ (a i) (b i)) Hall.out h)
      have HP := Lib.hid (fun wx => l19Ok_any (a k) (b k) wx)
      generalize a k = x at *
      generalize b k = y at *
      go_wp2_with fail
      refine (HP.out _).mono ?_; rintro e w2 ⟨rfl, hb2⟩
      have Hb2 := Lib.hid (Hbl.out.trans (hb2.mono Hbl.out.size))
      clear hb2
      cases ho : okQ x y with
      | false =>
        have Hr := Lib.hid (HB.out ho)
        clear ho
        go_wp2_with fail
        go_ret
        exact ⟨ret_bool Hr.out.symm, Hb2.out⟩
      | true =>
        have Hr := Lib.hid (HG.out ho)
        clear ho
        go_wp2_with fail
        go_roundw
        case rel => exact ⟨k + 1, by omega, by go_num, Hr.out, Hb2.out⟩
        case measure => first | (simp [intOf]; done) | (simp [intOf]; omega)
    · obtain rfl : k = n := by omega
      have hlt' : ¬ ((k : Int) < (k : Int)) := by omega
      go_wp2_with fail
      go_ret
      exact ⟨ret_bool Hall.out.symm, Hbl.out⟩

/-- the values of the finer table, over the whole denominator -/
def fdV (f : Nat → Int) (n p : Nat) : Nat → Int := fun i => smQ (ldsF f) (i : Int) p (n - 1) n
def fdA (f : Nat → Int) (n p j : Nat) : Nat → Int := fun i => lowN (Dn j (fdV f n p) i) (bel p (n - 1))
def fdB (f : Nat → Int) (n p j : Nat) : Nat → Int := fun i => (lowD (Dn j (fdV f n p) i) (bel p (n - 1)) : Int)
/-- the first ones -/
def fd0 (f : Nat → Int) (n p : Nat) : Nat → Int := fun j => fdA f n p j 0
def fd1 (f : Nat → Int) (n p : Nat) : Nat → Int := fun j => fdB f n p j 0
def fdOk (f : Nat → Int) (n p : Nat) : Nat → Bool := fun j => okQ (fd0 f n p j) (fd1 f n p j)
theorem fdV_small {f : Nat → Int} {n p : Nat} {x : Int} (hv : VB (ldsF f) x p n) : Small 63000000000000000 n (fdV f n p) := by
  intro i hi
  have h6 := hv.n6
  have h20 := hv.q20
  have h1 := smQ_bd (L := ldsF f) (x := (i : Int)) (R := 100) (n := n - 1) hv.q1 hv.Q (fun k hk => by
    have h1 := kq_le (k := k) (q := p) (by omega) hv.q20
    have h3 : (k : Int) * (p : Int) ≤ 4 * (p : Int) := Int.mul_le_mul_of_nonneg_right (by omega) (by omega)
    omega) hv.lds (by have := hv.n1; omega) n (Nat.le_refl _)
  have h2 : 2 ^ n ≤ 64 := Nat.le_trans (Nat.pow_le_pow_right (by omega) h6) (by decide)
  have h3 := pow100 (m := n - 1) (by omega)
  have h4 := Nat.le_trans h1 (Nat.le_trans (Nat.mul_le_mul (show 2 ^ n - 1 ≤ 63 by omega) (Nat.mul_le_mul (Nat.le_refl 100000) h3)) (by omega : 63 * (100000 * 10000000000) ≤ 63000000000000000))
  show _ ≤ smQ (ldsF f) (i : Int) p (n - 1) n ∧ smQ (ldsF f) (i : Int) p (n - 1) n ≤ _
  omega
theorem fd_step {V : Nat → Int} {j m : Nat} : Dn (j + 1) V m = Dn j V (m + 1) - Dn j V m := rfl
theorem fd_small {f : Nat → Int} {n p : Nat} {x : Int} (hv : VB (ldsF f) x p n) (j i : Nat) (hi : i + j < n) : (Dn j (fdV f n p) i).natAbs ≤ 2016000000000000000 := by
  have h1 := Small.Dn (fdV_small hv) j i (by omega)
  have h2 : 2 ^ j * 63000000000000000 ≤ 32 * 63000000000000000 := Nat.mul_le_mul_right _ (pow2k (by have := hv.n6; omega))
  omega
def fdC (f : Nat → Int) (n : Nat) (p : Int) : Int := if ftC n f p n = 0 then finC n (fdOk f n p.toNat) else ftC n f p n
def fdN (f : Nat → Int) (n : Nat) (p : Int) : Nat := if ftC n f p n = 0 then finN n (fdOk f n p.toNat) else 0
def RetFD (n : Nat) (f : Nat → Int) (p : Int) (w : World) (e : Ending) (w' : World) : Prop := RetQs (fdN f n p) (fd0 f n p.toNat) (fd1 f n p.toNat) (fdC f n p) w e w'
theorem fd_bad {f : Nat → Int} {n : Nat} {p c : Int} (h : ftC n f p n = c) (hc : c ≠ 0) : fdN f n p = 0 ∧ fdC f n p = c := by
  unfold fdN fdC
  rw [h, if_neg hc, if_neg hc]
  exact ⟨rfl, rfl⟩
theorem fd_ok {f : Nat → Int} {n p : Nat} (h : ftC n f p n = 0) : fdN f n p = finN n (fdOk f n p) ∧ fdC f n p = finC n (fdOk f n p) := by
  unfold fdN fdC
  rw [if_pos h, if_pos h, Int.toNat_natCast]
  exact ⟨rfl, rfl⟩
theorem ft_code {f : Nat → Int} {n p : Nat} (h : codeB n f 0 (p : Int) = true) : ftN n f p n = finN n (ftOk (ldsF f) p n) ∧ ftC n f p n = finC n (ftOk (ldsF f) p n) := by
  obtain ⟨_, _, _, hv⟩ := codeB_ok h
  have h6 := hv.n6
  exact ft_ok (by rw [h]; have : inB (n : Int) 0 120 = true := inB_iff.2 (by omega); rw [this]; rfl)
theorem ft_codeF {f : Nat → Int} {n : Nat} {p : Int} (h : codeB n f 0 p = false) : ftC n f p n = 2 := (ft_bad (by rw [h]; rfl)).2
theorem fin_cases (c : Nat) (g : Nat → Bool) : (allN c g = true ∧ finN c g = c ∧ finC c g = 0) ∨ (allN c g = false ∧ finN c g = 0 ∧ finC c g = 5) := by
  cases h : allN c g with
  | true => exact .inl ⟨rfl, fin_ok h⟩
  | false => exact .inr ⟨rfl, fin_bad h⟩
theorem own_apartQ {w w2 w' : World} {b1 n1 n2 s1 s2 : Nat} {e1 e2 : TypeId} {v1 v2 : Value} {c1 c2 : List Value} (h1 : w.ownsRow b1 e1 s1 v1 n1 c1) (h2 : w2.ownsRow w.heap.size e2 s2 v2 n2 c2) (hg : w2.grownBy w' v1.ownBlock) : w'.ownsRow w.heap.size e2 s2 v2 n2 c2 := own_apart h1 h2 hg
set_option maxRecDepth 100000 in
set_option maxHeartbeats 12800000 in
theorem FDiffI_any (B : Nat) (v : Value) (n : Nat) (f : Nat → Int) (p : Int) (w : World) (h : Rd w B v n 1 (tab n f)) (hB : B ≤ w.heap.size) (hn : n ≤ 1000) :
    Calls Try.prog 31 #[v, .int .i64 p] w (RetFD n f p w) := by
  have HK := Lib.hid (fun (_ : Unit) => knownI_c B v n f w h hn)
  have H := Lib.hid h
  have HQ := Lib.hid (fun wx => fine_c p wx)
  obtain ⟨A, c0, rfl⟩ := rd_sl h
  have hb0 := Lib.hid (Below.refl w.heap.size w)
  clear h
  cases h1 : knownB n f with
  | false =>
    have Hr := Lib.hid (fd_bad (ft_codeF (codeB_k (x := 0) (q := p) h1)) (by decide))
    rw [h1] at HK
    clear h1
    go_enter Try.func31, Try.ntmps31
    go_wp2_with fail
    refine (HK.out ()).mono ?_; rintro e w1 ⟨rfl, rfl⟩
    go_wp2_with fail
    go_ret2
    unfold RetFD
    rw [Hr.out.1, Hr.out.2]
    exact RetQs.none hb0.out
  | true =>
    cases h2 : inB p 1 20 with
    | false =>
      have Hr := Lib.hid (fd_bad (ft_codeF (codeB_f (n := n) (f := f) (x := 0) h2)) (by decide))
      rw [h1] at HK
      rw [h2] at HQ
      clear h1 h2
      go_enter Try.func31, Try.ntmps31
      go_wp2_with fail
      refine (HK.out ()).mono ?_; rintro e w1 ⟨rfl, rfl⟩
      go_wp2_with fail
      refine (HQ.out _).mono ?_; rintro e w1 ⟨rfl, rfl⟩
      go_wp2_with fail
      go_ret2
      unfold RetFD
      rw [Hr.out.1, Hr.out.2]
      exact RetQs.none hb0.out
    | true =>
      have hc := codeB_all h1 h2 in0
      obtain ⟨p, rfl, hS, hvb⟩ := codeB_ok hc
      have HFT := Lib.hid (ft_code hc)
      have HVB := Lib.hid hvb
      have hn6 := hvb.n6
      have HFn := Lib.hid (finer_any B _ n n p f w H.out hB hn6 hS (by omega) (fun k hk => hvb.any (by omega) (by omega)))
      unfold RetQs at HFn
      rw [h1] at HK
      rw [h2] at HQ
      clear h1 h2 hc hS hvb
      rcases fin_cases n (ftOk (ldsF f) p n) with ⟨f1, f2, f3⟩ | ⟨f1, f2, f3⟩
      · rw [f2, f3] at HFT HFn
        have HF0 := Lib.hid (And.intro f1 HFT.out)
        clear f1 f2 f3 HFT
        have Hfin := Lib.hid (fun e w' (h : RetQs (finN n (fdOk f n p)) (fd0 f n p) (fd1 f n p) (finC n (fdOk f n p)) w e w') => (show RetFD n f (p : Int) w e w' from by
          unfold RetFD
          obtain ⟨e1, e2⟩ := fd_ok (HF0.out.2.2)
          rw [e1, e2, Int.toNat_natCast]
          exact h))
        have Hmade := Lib.hid (fun w1 => World.ownsRow_made (base := w1.heap.size) (e := 56) (size := 2) w1 #[] 0 (Nat.le_refl _) (by simp [maxLen]) rfl)
        go_enter Try.func31, Try.ntmps31
        go_wp2_with fail
        refine (HK.out ()).mono ?_; rintro e w1 ⟨rfl, rfl⟩
        go_wp2_with fail
        refine (HQ.out _).mono ?_; rintro e w1 ⟨rfl, rfl⟩
        go_wp2_with fail
        refine (HFn.out).mono ?_; rintro e w2 ⟨v2, rfl, ho2, hb2⟩
        have HbN := Lib.hid (hb2.alloc hb2.size (.cells #[] 56))
        have HoN := Lib.hid (ownsRow_le (Hmade.out w2) hb2.size)
        have HrN := Lib.hid (fun (w' : World) (hg : (w2.alloc (.cells #[] 56)).grownBy w' ((Value.slice (some ⟨w2.heap.size, 0, none⟩) 0 0).ownBlock)) => rd_apart (Hmade.out w2) (Nat.le_refl _) (Nat.le_of_lt (by simp)) ((Rd.of_own ho2).below ((Below.refl _ _).alloc (Nat.le_refl _) _)) hg)
        obtain ⟨A2, c2, rfl⟩ := own_sl ho2
        clear ho2 hb2
        go_wp2_with fail
        go_loopw [6, 8] (fun b a wr => ∃ j : Nat, j ≤ n ∧ allN j (fdOk f n p) = true ∧ wr.ownsRow w.heap.size 56 2 a j (tabQ j (fd0 f n p) (fd1 f n p)) ∧ (∀ w', wr.grownBy w' a.ownBlock → Rd w' w'.heap.size b (n - j) 2 (tabQ (n - j) (fdA f n p j) (fdB f n p j))) ∧ Below w.heap.size w wr) (fun b _ _ => match b with | .slice _ m _ => m | _ => 0)
        case atStart => exact ⟨0, Nat.zero_le _, rfl, HoN.out, HrN.out, HbN.out⟩
        case round =>
          obtain ⟨j, hj, hall, hown, hrd, hbl⟩ := hrel
          obtain ⟨A3, c3, rfl⟩ := own_sl hown
          have hrd0 := hrd wr ⟨rfl, rfl, rfl, Nat.le_refl _, fun _ _ _ => rfl⟩
          obtain ⟨A4, c4, rfl⟩ := rd_sl hrd0
          have Hown := Lib.hid hown
          have Hbl := Lib.hid hbl
          have Hrd := Lib.hid hrd
          have Hall := Lib.hid hall
          clear hall
          clear hown hbl hrd
          obtain ⟨wo, rfl⟩ : ∃ x, x = wr := ⟨_, rfl⟩
          by_cases hlt : j < n
          · obtain ⟨b1, o1, hA, hb1, q0, q1⟩ := rdQ_at hrd0 0 (by omega)
            subst hA
            rw [Nat.zero_mul, Nat.add_zero] at q0 q1
            have Hsc := Lib.hid (tabQ_succ j (fd0 f n p) (fd1 f n p))
            have e1 : fd0 f n p j = fdA f n p j 0 := rfl
            have e2 : fd1 f n p j = fdB f n p j 0 := rfl
            rw [e1, e2] at Hsc
            have HSm := Lib.hid (fun i hi => fd_small HVB.out j i hi)
            have HSm2 := Lib.hid (fun i hi => fd_small HVB.out (j + 1) i hi)
            have hnj : n - j - 1 = n - (j + 1) := by omega
            generalize hm : n - j = m at *
            have hm6 : m ≤ 6 := by omega
            have hm0 : 0 < m := by omega
            have Hnj := Lib.hid hnj
            have hpos' : (0 : Int) < (m : Int) := by omega
            have hj6 : j < 6 := by omega
            have HokF := Lib.hid (fun h => fin_bad (allN_bad (f := fdOk f n p) j hlt h))
            have HokT := Lib.hid (fun h => allN_step (f := fdOk f n p) Hall.out h)
            have e3 : fdOk f n p j = okQ (fdA f n p j 0) (fdB f n p j 0) := rfl
            rw [e3] at HokF HokT
            clear e3
            clear hrd0 hnj e1 e2
            generalize hx0 : fdA f n p j 0 = x0 at *
            generalize hy0 : fdB f n p j 0 = y0 at *
            have Hm := Lib.hid hm
            clear hx0 hy0 hm
            have HP := Lib.hid (fun wx => isPlain_any x0 y0 wx)
            go_wp2_with fail
            refine (HP.out _).mono ?_; rintro e wp ⟨rfl, hbp⟩
            have Hblp := Lib.hid (Hbl.out.trans (hbp.mono Hbl.out.size))
            have Hownp := Lib.hid (own_below Hown.out hbp)
            have Hrdp := Lib.hid (fun w' hg => Hrd.out w' (grown_trans (grown_of_below hbp _) hg))
            have q0 := (hbp.cell (p := ⟨b1, o1, none⟩) (by exact hb1)).trans q0
            have q1 := (hbp.cell (p := ⟨b1, o1 + 1, none⟩) (by exact hb1)).trans q1
            clear Hrd
            have Hrd := Hrdp
            clear Hrdp hbp hb1
            cases ho : okQ x0 y0 with
            | false =>
              have Hr := Lib.hid (HokF.out ho)
              clear ho
              go_wp2_with fail
              go_ret2
              exact Hfin.out _ _ (by rw [Hr.out.1, Hr.out.2]; exact RetQs.none Hblp.out)
            | true =>
              have Hok2 := Lib.hid (HokT.out ho)
              clear ho
              go_wp2_with (at_builtin; refine wpList_apd 52 56 _ 2 16 Try.underlying52 infoQ rfl (by omega) _ _ rfl rfl w.heap.size _ j _ rfl Hownp.out #[.int .i64 x0, .int .i64 y0] 1 1 rfl rfl (by simp [Value.oneCell']) (by simp [maxLen]; omega) (by omega) Hblp.out.size ?_; intro v7 w7 hown7 hg7; have Hb7 := Lib.hid (below_apd Hblp.out Hownp.out hg7 (Nat.le_refl _) Hblp.out.size); obtain ⟨A7, c7, rfl⟩ := own_sl hown7; have Hown7 := Lib.hid hown7; have Hrd7 := Lib.hid (Hrd.out w7 hg7); clear hown7 hg7)
              have hbz := (Below.refl w7.heap.size w7).alloc (Nat.le_refl _) (.cells #[] 56)
              have Hbz := Lib.hid hbz
              have Hoz := Lib.hid (Hmade.out w7)
              clear hbz
              go_loopw [9, 10] (fun a i wr => ∃ k m' : Nat, m' + 1 = k ∧ k ≤ m ∧ i = .int .i64 (k : Int) ∧ wr.ownsRow w7.heap.size 56 2 a m' (tabQ m' (fdA f n p (j + 1)) (fdB f n p (j + 1))) ∧ Below w7.heap.size w7 wr) (fun _ i _ => m + 1 - (intOf i).toNat)
              case atStart => exact ⟨1, 0, rfl, by omega, rfl, Hoz.out, Hbz.out⟩
              case round =>
                obtain ⟨k, m', hkp, hk, rfl, hown, hbl⟩ := hrel
                obtain ⟨A9, c9, rfl⟩ := own_sl hown
                have Hownn := Lib.hid hown
                have Hbln := Lib.hid hbl
                clear hown
                by_cases hlk : k < m
                · obtain ⟨b1', o1', hA, hb1', p0, p1⟩ := rdQ_at (Hrd7.out.below hbl) k hlk
                  obtain ⟨rfl, rfl⟩ : b1 = b1' ∧ o1 = o1' := by simpa using hA
                  obtain ⟨b2', o2', hA2, hb2', p2, p3⟩ := rdQ_at (Hrd7.out.below hbl) m' (by omega)
                  obtain ⟨rfl, rfl⟩ : b1 = b2' ∧ o1 = o2' := by simpa using hA2
                  have s1 := HSm.out k (by have := Hm.out; omega)
                  have s0 := HSm.out m' (by have := Hm.out; omega)
                  have Hsc9 := Lib.hid (tabQ_succ m' (fdA f n p (j + 1)) (fdB f n p (j + 1)))
                  have a1 : fdA f n p j k = lowN (Dn j (fdV f n p) k) (bel p (n - 1)) := rfl
                  have a2 : fdB f n p j k = (lowD (Dn j (fdV f n p) k) (bel p (n - 1)) : Int) := rfl
                  have a3 : fdA f n p j m' = lowN (Dn j (fdV f n p) m') (bel p (n - 1)) := rfl
                  have a4 : fdB f n p j m' = (lowD (Dn j (fdV f n p) m') (bel p (n - 1)) : Int) := rfl
                  have a5 : fdA f n p (j + 1) m' = lowN (Dn j (fdV f n p) k - Dn j (fdV f n p) m') (bel p (n - 1)) := by subst hkp; rfl
                  have a6 : fdB f n p (j + 1) m' = (lowD (Dn j (fdV f n p) k - Dn j (fdV f n p) m') (bel p (n - 1)) : Int) := by subst hkp; rfl
                  rw [a1] at p0
                  rw [a2] at p1
                  rw [a3] at p2
                  rw [a4] at p3
                  rw [a5, a6] at Hsc9
                  have hM1 := HVB.out.be (n - 1) (Nat.le_refl _)
                  have hM0 := HVB.out.belp (n - 1)
                  have hbd := low_bd (Dn j (fdV f n p) m') (bel p (n - 1))
                  have HSu := Lib.hid (fun wx => sum_any (Dn j (fdV f n p) k) (-(Dn j (fdV f n p) m')) (bel p (n - 1)) wx hM0 (by omega) (by omega) (by omega))
                  obtain ⟨hn1, hn2⟩ := Prod.mk.inj (low_neg (Dn j (fdV f n p) m') hM0)
                  rw [hn1, hn2, ← Int.sub_eq_add_neg] at HSu
                  clear hn1 hn2
                  unfold RetQ at HSu
                  clear a1 a2 a3 a4 a5 a6 hA hA2 hb1' hb2'
                  generalize lowN (Dn j (fdV f n p) k - Dn j (fdV f n p) m') (bel p (n - 1)) = N3 at *
                  generalize lowD (Dn j (fdV f n p) k - Dn j (fdV f n p) m') (bel p (n - 1)) = D3 at *
                  generalize lowN (Dn j (fdV f n p) k) (bel p (n - 1)) = N1 at *
                  generalize lowD (Dn j (fdV f n p) k) (bel p (n - 1)) = D1 at *
                  generalize lowN (Dn j (fdV f n p) m') (bel p (n - 1)) = N2 at *
                  generalize lowD (Dn j (fdV f n p) m') (bel p (n - 1)) = D2 at *
                  have hlt' : (k : Int) < (m : Int) := by omega
                  have hm1 : IntKind.i64.wrap ((k : Int) - 1) = (m' : Int) := by rw [IntWalk.i64_in _ (by omega)]; omega
                  have hm2 : (m' : Int) < (m : Int) := by omega
                  have hng : IntKind.i64.wrap (-N2) = -N2 := IntWalk.i64_in _ (by omega)
                  have hmx : m' + 1 ≤ maxLen := by simp [maxLen]; omega
                  have hby : (m' + 1) * 16 ≤ 140737488355328 := by omega
                  have Hkp := Lib.hid hkp
                  clear hbl s1 s0 hkp hbd hM1 hM0
                  go_upto_region 15 with (fail)
                  refine wp_region_noPanic ?_
                  refine wp_region_L [22,21,20,19] (fun w' => w'.cell? ⟨b1, o1 + k * 2, none⟩ = some (.int .i64 N1) ∧ w'.cell? ⟨b1, o1 + k * 2 + 1, none⟩ = some (.int .i64 (D1 : Int)) ∧ w'.cell? ⟨b1, o1 + m' * 2, none⟩ = some (.int .i64 N2) ∧ w'.cell? ⟨b1, o1 + m' * 2 + 1, none⟩ = some (.int .i64 (D2 : Int))) (by kernel_rfl) (⟨p0, p1, p2, p3⟩) (fun hHeld => ?_)
                  refine take_F (i := 0) (d := some 52) (v := ?_) (by kernel_rfl) (by kernel_rfl) rfl rfl (by kernel_rfl) (by kernel_rfl) (by kernel_rfl) (fun _ _ _ h => h) (Or.inl ⟨by rfl, ?_⟩) (by assumption) ?_
                  rotate_left
                  · (intro w hSw; (try dsimp only at hSw); go_simp; (try rw [if_neg (by omega)]); (try (with_reducible rfl)))
                  simp only [Act.put, List.setIfInBounds_toArray, List.set_cons_zero, List.set_cons_succ]
                  refine take_F (i := 1) (d := some 53) (v := ?_) (by kernel_rfl) (by kernel_rfl) rfl rfl (by kernel_rfl) (by kernel_rfl) (by kernel_rfl) (fun _ _ _ h => h) (Or.inl ⟨by rfl, ?_⟩) (by assumption) ?_
                  rotate_left
                  · (intro w hSw; (try dsimp only at hSw); go_simp; (try rw [if_neg (by omega)]); (try (with_reducible rfl)))
                  simp only [Act.put, List.setIfInBounds_toArray, List.set_cons_zero, List.set_cons_succ]
                  refine take_F (i := 2) (d := some 54) (v := ?_) (by kernel_rfl) (by kernel_rfl) rfl rfl (by kernel_rfl) (by kernel_rfl) (by kernel_rfl) (fun _ _ _ h => h) (Or.inl ⟨by rfl, ?_⟩) (by assumption) ?_
                  rotate_left
                  · (intro w hSw; (try dsimp only at hSw); go_simp; (try rw [if_neg (by omega)]); (try (with_reducible rfl)))
                  simp only [Act.put, List.setIfInBounds_toArray, List.set_cons_zero, List.set_cons_succ]
                  refine take_F (i := 3) (d := some 55) (v := ?_) (by kernel_rfl) (by kernel_rfl) rfl rfl (by kernel_rfl) (by kernel_rfl) (by kernel_rfl) (fun _ _ _ h => h) (Or.inl ⟨by rfl, ?_⟩) (by assumption) ?_
                  rotate_left
                  · (intro w hSw; (try dsimp only at hSw); go_simp; (try rw [if_neg (by omega)]); (try (with_reducible rfl)))
                  simp only [Act.put, List.setIfInBounds_toArray, List.set_cons_zero, List.set_cons_succ]
                  refine take_L [4] (i := 4) (d := some 56) (v := ?_) (by kernel_rfl) (by kernel_rfl) (by kernel_rfl) (by kernel_rfl) rfl rfl (by kernel_rfl) (by kernel_rfl) (by kernel_rfl) (fun _ _ _ h => h) (Or.inl ⟨by rfl, ?_⟩) (by assumption) ?_
                  rotate_left
                  · (intro w hSw; (try dsimp only at hSw); go_simp; (try rw [if_neg (by omega)]); (try (with_reducible rfl)))
                  simp only [Act.put, List.setIfInBounds_toArray, List.set_cons_zero, List.set_cons_succ]
                  refine take_F (i := 5) (d := some 57) (v := ?_) (by kernel_rfl) (by kernel_rfl) rfl rfl (by kernel_rfl) (by kernel_rfl) (by kernel_rfl) (fun _ _ _ h => h) (Or.inl ⟨by rfl, ?_⟩) (by assumption) ?_
                  rotate_left
                  · (intro w hSw; (try dsimp only at hSw); go_simp; (try rw [if_neg (by omega)]); (try (with_reducible rfl)))
                  simp only [Act.put, List.setIfInBounds_toArray, List.set_cons_zero, List.set_cons_succ]
                  refine take_F (i := 6) (d := some 58) (v := ?_) (by kernel_rfl) (by kernel_rfl) rfl rfl (by kernel_rfl) (by kernel_rfl) (by kernel_rfl) (fun _ _ _ h => h) (Or.inl ⟨by rfl, ?_⟩) (by assumption) ?_
                  rotate_left
                  · (intro w hSw; (try dsimp only at hSw); go_simp; (try rw [if_neg (by omega)]); (try (with_reducible rfl)))
                  simp only [Act.put, List.setIfInBounds_toArray, List.set_cons_zero, List.set_cons_succ]
                  refine take_F (i := 7) (d := some 59) (v := ?_) (by kernel_rfl) (by kernel_rfl) rfl rfl (by kernel_rfl) (by kernel_rfl) (by kernel_rfl) (fun _ _ _ h => h) (Or.inl ⟨by rfl, ?_⟩) (by assumption) ?_
                  rotate_left
                  · (intro w hSw; (try dsimp only at hSw); go_simp; (try rw [if_neg (by omega)]); (try (with_reducible rfl)))
                  simp only [Act.put, List.setIfInBounds_toArray, List.set_cons_zero, List.set_cons_succ]
                  refine take_F (i := 8) (d := some 60) (v := ?_) (by kernel_rfl) (by kernel_rfl) rfl rfl (by kernel_rfl) (by kernel_rfl) (by kernel_rfl) (fun _ _ _ h => h) (Or.inl ⟨by rfl, ?_⟩) (by assumption) ?_
                  rotate_left
                  · (intro w hSw; (try dsimp only at hSw); go_simp; (try rw [if_neg (by omega)]); (try (with_reducible rfl)))
                  simp only [Act.put, List.setIfInBounds_toArray, List.set_cons_zero, List.set_cons_succ]
                  refine take_F (i := 9) (d := some 61) (v := ?_) (by kernel_rfl) (by kernel_rfl) rfl rfl (by kernel_rfl) (by kernel_rfl) (by kernel_rfl) (fun _ _ _ h => h) (Or.inl ⟨by rfl, ?_⟩) (by assumption) ?_
                  rotate_left
                  · (intro w hSw; (try dsimp only at hSw); go_simp; (try rw [if_neg (by omega)]); (try (with_reducible rfl)))
                  simp only [Act.put, List.setIfInBounds_toArray, List.set_cons_zero, List.set_cons_succ]
                  refine take_L [18,11,10] (i := 10) (d := some 62) (v := ?_) (by kernel_rfl) (by kernel_rfl) (by kernel_rfl) (by kernel_rfl) rfl rfl (by kernel_rfl) (by kernel_rfl) (by kernel_rfl) (fun _ _ _ h => h) (Or.inl ⟨by rfl, ?_⟩) (by assumption) ?_
                  rotate_left
                  · (intro w hSw; (try dsimp only at hSw); go_simp; (try rw [if_neg (by omega)]); (try (with_reducible rfl)))
                  simp only [Act.put, List.setIfInBounds_toArray, List.set_cons_zero, List.set_cons_succ]
                  refine take_F (i := 11) (d := some 63) (v := ?_) (by kernel_rfl) (by kernel_rfl) rfl rfl (by kernel_rfl) (by kernel_rfl) (by kernel_rfl) (fun _ _ _ h => h) (Or.inl ⟨by rfl, ?_⟩) (by assumption) ?_
                  rotate_left
                  · (intro w hSw; (try dsimp only at hSw); go_simp; (try rw [if_neg (by omega)]); (try (with_reducible rfl)))
                  simp only [Act.put, List.setIfInBounds_toArray, List.set_cons_zero, List.set_cons_succ]
                  refine take_F (i := 12) (d := some 64) (v := ?_) (by kernel_rfl) (by kernel_rfl) rfl rfl (by kernel_rfl) (by kernel_rfl) (by kernel_rfl) (fun _ _ _ h => h) (Or.inl ⟨by rfl, ?_⟩) (by assumption) ?_
                  rotate_left
                  · (intro w hSw; (try dsimp only at hSw); go_simp; (try rw [if_neg (by omega)]); (try (with_reducible rfl)))
                  simp only [Act.put, List.setIfInBounds_toArray, List.set_cons_zero, List.set_cons_succ]
                  refine take_F (i := 13) (d := some 65) (v := ?_) (by kernel_rfl) (by kernel_rfl) rfl rfl (by kernel_rfl) (by kernel_rfl) (by kernel_rfl) (fun _ _ _ h => h) (Or.inl ⟨by rfl, ?_⟩) (by assumption) ?_
                  rotate_left
                  · (intro w hSw; (try dsimp only at hSw); go_simp; (try rw [if_neg (by omega)]); (try (with_reducible rfl)))
                  simp only [Act.put, List.setIfInBounds_toArray, List.set_cons_zero, List.set_cons_succ]
                  refine take_F (i := 14) (d := some 66) (v := ?_) (by kernel_rfl) (by kernel_rfl) rfl rfl (by kernel_rfl) (by kernel_rfl) (by kernel_rfl) (fun _ _ _ h => h) (Or.inl ⟨by rfl, ?_⟩) (by assumption) ?_
                  rotate_left
                  · (intro w hSw; (try dsimp only at hSw); go_simp; (try rw [if_neg (by omega)]); (try (with_reducible rfl)))
                  simp only [Act.put, List.setIfInBounds_toArray, List.set_cons_zero, List.set_cons_succ]
                  refine take_F (i := 15) (d := some 67) (v := ?_) (by kernel_rfl) (by kernel_rfl) rfl rfl (by kernel_rfl) (by kernel_rfl) (by kernel_rfl) (fun _ _ _ h => h) (Or.inl ⟨by rfl, ?_⟩) (by assumption) ?_
                  rotate_left
                  · (intro w hSw; (try dsimp only at hSw); go_simp; (try rw [if_neg (by omega)]); (try (with_reducible rfl)))
                  simp only [Act.put, List.setIfInBounds_toArray, List.set_cons_zero, List.set_cons_succ]
                  refine take_F (i := 16) (d := some 68) (v := ?_) (by kernel_rfl) (by kernel_rfl) rfl rfl (by kernel_rfl) (by kernel_rfl) (by kernel_rfl) (fun _ _ _ h => h) (Or.inl ⟨by rfl, ?_⟩) (by assumption) ?_
                  rotate_left
                  · (intro w hSw; (try dsimp only at hSw); go_simp; (try rw [if_neg (by omega)]); (try (with_reducible rfl)))
                  simp only [Act.put, List.setIfInBounds_toArray, List.set_cons_zero, List.set_cons_succ]
                  refine take_L [18,17] (i := 17) (d := some 69) (v := ?_) (by kernel_rfl) (by kernel_rfl) (by kernel_rfl) (by kernel_rfl) rfl rfl (by kernel_rfl) (by kernel_rfl) (by kernel_rfl) (fun _ _ _ h => h) (Or.inl ⟨by rfl, ?_⟩) (by assumption) ?_
                  rotate_left
                  · (intro w hSw; (try dsimp only at hSw); go_simp; (try rw [if_neg (by omega)]); (try (with_reducible rfl)))
                  simp only [Act.put, List.setIfInBounds_toArray, List.set_cons_zero, List.set_cons_succ]
                  refine take_F (i := 18) (d := some 70) (v := ?_) (by kernel_rfl) (by kernel_rfl) rfl rfl (by kernel_rfl) (by kernel_rfl) (by kernel_rfl) (fun _ _ _ h => h) (Or.inl ⟨by rfl, ?_⟩) (by assumption) ?_
                  rotate_left
                  · (intro w hSw; (try dsimp only at hSw); go_simp; (try rw [if_neg (by omega)]); (try (with_reducible rfl)))
                  simp only [Act.put, List.setIfInBounds_toArray, List.set_cons_zero, List.set_cons_succ]
                  refine late_L (i := 19) (d := (some 71)) (by kernel_rfl) rfl rfl (by kernel_rfl) (fun Kq hKq => ?_)
                  go_simp
                  go_at_call 100
                  refine (HSu.out _).mono ?_; rintro e w8 ⟨rfl, hb8⟩
                  have Hb8 := Lib.hid (Hbln.out.trans ((below_undrew hb8).mono Hbln.out.size))
                  have Ho8 := Lib.hid (own_below Hownn.out (below_undrew hb8))
                  clear hb8 p0 p1 p2 p3
                  (try go_wp2_with fail)
                  refine hKq.out _ _ ?_
                  clear hKq Kq
                  refine late_L (i := 20) (d := (some 72)) (by kernel_rfl) rfl rfl (by kernel_rfl) (fun Kq hKq => ?_)
                  go_simp
                  refine hKq.out _ _ ?_
                  clear hKq Kq
                  refine late_L (i := 21) (d := (some 73)) (by kernel_rfl) rfl rfl (by kernel_rfl) (fun Kq hKq => ?_)
                  refine step_apd0 52 56 _ 2 16 Try.underlying52 infoQ rfl (by omega) _ _ (by rfl) (by rfl) w7.heap.size _ m' _ (by rfl) Ho8.out #[.int .i64 N3, .int .i64 (D3 : Int)] 1 1 (by rfl) (by rfl) (by simp [Value.oneCell']) hmx hby Hb8.out.size ?_; intro v10 w10 hown10 hg10
                  have Hb10 := Lib.hid (below_apd Hb8.out Ho8.out hg10 (Nat.le_refl _) Hb8.out.size)
                  obtain ⟨A10, c10, rfl⟩ := own_sl hown10
                  have Hown10 := Lib.hid hown10
                  clear hown10 hg10
                  refine hKq.out _ _ ?_
                  clear hKq Kq
                  simp only [Act.put, List.setIfInBounds_toArray]
                  refine late_L (i := 22) (d := (some 9)) (by kernel_rfl) rfl rfl (by kernel_rfl) (fun Kq hKq => ?_)
                  go_simp
                  refine hKq.out _ _ ?_
                  clear hKq Kq
                  refine done_L (by kernel_rfl) ?_ _
                  refine NoPanic.normal ?_
                  go_wp2_with fail
                  go_roundw
                  case rel => exact ⟨k + 1, m' + 1, by rw [Hkp.out], by omega, by go_num, by rw [Hsc9.out]; exact Hown10.out, Hb10.out⟩
                  case measure => first | (simp [intOf]; done) | (simp [intOf]; omega)
                · have hkm : m' = m - 1 := by omega
                  have hlt' : (m : Int) ≤ (k : Int) := by omega
                  subst hkm
                  have Hap := Lib.hid (fun w' hg => own_apart (w' := w') Hown7.out Hownn.out hg)
                  have Ho8 := Lib.hid (own_below Hown7.out hbl)
                  have Hb8 := Lib.hid (Hb7.out.trans (hbl.mono Hb7.out.size))
                  clear hbl
                  go_wp2_with fail
                  go_roundw
                  case rel => exact ⟨j + 1, by omega, Hok2.out, by rw [Hsc.out]; exact Ho8.out, fun w' hg => by rw [← Hnj.out]; exact Rd.of_own (Hap.out w' hg), Hb8.out⟩
                  case measure => first | (simp; done) | (simp; omega) | omega
          · obtain rfl : j = n := by omega
            have hz : j - j = 0 := by omega
            rw [hz] at *
            have Hr := Lib.hid (fin_ok Hall.out)
            go_wp2_with fail
            go_ret2
            exact Hfin.out _ _ (by rw [Hr.out.1, Hr.out.2]; exact ⟨_, rfl, Hown.out, Hbl.out⟩)
      · rw [f2, f3] at HFT HFn
        have Hr := Lib.hid (fd_bad HFT.out.2 (by decide))
        clear f1 f2 f3 HFT
        go_enter Try.func31, Try.ntmps31
        go_wp2_with fail
        refine (HK.out ()).mono ?_; rintro e w1 ⟨rfl, rfl⟩
        go_wp2_with fail
        refine (HQ.out _).mono ?_; rintro e w1 ⟨rfl, rfl⟩
        go_wp2_with fail
        refine (HFn.out).mono ?_; rintro e w2 ⟨v2, rfl, ho2, hb2⟩
        have Hb2 := Lib.hid hb2
        obtain ⟨A2, c2, rfl⟩ := own_sl ho2
        clear ho2 hb2
        go_wp2_with fail
        go_ret2
        unfold RetFD
        rw [Hr.out.1, Hr.out.2]
        exact RetQs.none Hb2.out
set_option maxRecDepth 100000 in
set_option maxHeartbeats 12800000 in
theorem FDiffS_any (B : Nat) (v : Value) (n : Nat) (f : Nat → Int) (p : Int) (w : World) (h : Rd w B v n 1 (tab n f)) (hB : B ≤ w.heap.size) (hn : n ≤ 1000) :
    Calls Try.prog 32 #[v, .int .i64 p] w (RetFD n f p w) := by
  have HFn := Lib.hid (FTableS_any B v n f p (n : Int) w h hB hn)
  have H := Lib.hid h
  unfold RetFT RetQs at HFn
  obtain ⟨A, c0, rfl⟩ := rd_sl h
  clear h
  cases h1 : codeB n f 0 p with
  | false =>
    have hft := ft_codeF h1
    have Hr := Lib.hid (fd_bad hft (by decide))
    rw [hft] at HFn
    clear h1 hft
    go_enter Try.func32, Try.ntmps32
    go_wp2_with fail
    refine (HFn.out).mono ?_; rintro e w2 ⟨v2, rfl, ho2, hb2⟩
    have Hb2 := Lib.hid hb2
    obtain ⟨A2, c2, rfl⟩ := own_sl ho2
    clear ho2 hb2
    go_wp2_with fail
    go_ret2
    unfold RetFD
    rw [Hr.out.1, Hr.out.2]
    exact RetQs.none Hb2.out
  | true =>
    obtain ⟨p, rfl, hS, hvb⟩ := codeB_ok h1
    have HFT := Lib.hid (ft_code h1)
    have HVB := Lib.hid hvb
    have hn6 := hvb.n6
    have hn1 := hvb.n1
    have hq1 := hvb.q1
    have hq20 := hvb.q20
    rw [Int.toNat_natCast] at HFn
    clear h1 hS hvb
    rcases fin_cases n (ftOk (ldsF f) p n) with ⟨f1, f2, f3⟩ | ⟨f1, f2, f3⟩
    · rw [f2, f3] at HFT
      rw [HFT.out.1, HFT.out.2] at HFn
      have HF0 := Lib.hid (And.intro f1 HFT.out)
      clear f1 f2 f3 HFT
      have Hfin := Lib.hid (fun e w' (h : RetQs (finN n (fdOk f n p)) (fd0 f n p) (fd1 f n p) (finC n (fdOk f n p)) w e w') => (show RetFD n f (p : Int) w e w' from by
        unfold RetFD
        obtain ⟨e1, e2⟩ := fd_ok (HF0.out.2.2)
        rw [e1, e2, Int.toNat_natCast]
        exact h))
      have Hmade := Lib.hid (fun w1 => World.ownsRow_made (base := w1.heap.size) (e := 56) (size := 2) w1 #[] 0 (Nat.le_refl _) (by simp [maxLen]) rfl)
      go_enter Try.func32, Try.ntmps32
      go_wp2_with fail
      refine (HFn.out).mono ?_; rintro e w2 ⟨v2, rfl, ho2, hb2⟩
      have HbN := Lib.hid (hb2.alloc hb2.size (.cells #[] 56))
      have HoN := Lib.hid (ownsRow_le (Hmade.out w2) hb2.size)
      have HrN := Lib.hid (fun (w' : World) (hg : (w2.alloc (.cells #[] 56)).grownBy w' ((Value.slice (some ⟨w2.heap.size, 0, none⟩) 0 0).ownBlock)) => rd_apart (Hmade.out w2) (Nat.le_refl _) (Nat.le_of_lt (by simp)) ((Rd.of_own ho2).below ((Below.refl _ _).alloc (Nat.le_refl _) _)) hg)
      obtain ⟨A2, c2, rfl⟩ := own_sl ho2
      clear ho2 hb2
      go_wp2_with fail
      go_loop [8, 9] (fun a i => ∃ k : Nat, k ≤ n - 1 ∧ a = .int .i64 (bel p k : Int) ∧ i = .int .i64 ((k + 1 : Nat) : Int)) (fun _ i => n - (intOf i).toNat)
      case atStart => exact ⟨0, by omega, rfl, rfl⟩
      case round =>
        obtain ⟨k, hk, rfl, rfl⟩ := hrel
        by_cases hlt : k < n - 1
        · have hlt' : (k : Int) + 1 < (n : Int) := by omega
          have g2 := HVB.out.be (k + 1) (by omega)
          have r2 : bel p (k + 1) = bel p k * (p * (k + 1)) := rfl
          have hE2 : p * (k + 1) ≤ 20 * 6 := Nat.mul_le_mul (by omega) (by omega)
          obtain ⟨E, hE⟩ : ∃ E, p * (k + 1) = E := ⟨_, rfl⟩
          rw [hE] at r2 hE2
          have hEi : ((k : Int) + 1) * (p : Int) = (E : Int) := by rw [Int.mul_comm, ← hE, Int.natCast_mul, Int.natCast_add]; rfl
          have hEw : IntKind.i64.wrap (((k : Int) + 1) * (p : Int)) = (E : Int) := by rw [hEi]; exact IntWalk.i64_in _ (by omega)
          have hBw : IntKind.i64.wrap ((bel p k : Int) * (E : Int)) = (bel p (k + 1) : Int) := by rw [← Int.natCast_mul, ← r2]; exact IntWalk.i64_in _ (by omega)
          clear r2 hE hEi g2
          obtain ⟨d1, hd1⟩ : ∃ d, bel p (k + 1) = d := ⟨_, rfl⟩
          rw [hd1] at hBw
          have Hd1 := Lib.hid hd1
          clear hd1
          generalize bel p k = d0 at *
          go_wp2_with fail
          go_round
          case rel => exact ⟨k + 1, by omega, by rw [Hd1.out], by go_num⟩
          case measure => first | (simp [intOf]; done) | (simp [intOf]; omega)
        · obtain rfl : k = n - 1 := by omega
          have hlt' : (n : Int) ≤ ((n - 1 : Nat) : Int) + 1 := by omega
          go_wp2_with fail
          go_loopw [6, 10] (fun b a wr => ∃ j : Nat, j ≤ n ∧ wr.ownsRow w.heap.size 56 2 a j (tabQ j (fd0 f n p) (fd1 f n p)) ∧ (∀ w', wr.grownBy w' a.ownBlock → Rd w' w'.heap.size b (n - j) 2 (tabQ (n - j) (fdA f n p j) (fdB f n p j))) ∧ Below w.heap.size w wr) (fun b _ _ => match b with | .slice _ m _ => m | _ => 0)
          case atStart => exact ⟨0, Nat.zero_le _, HoN.out, HrN.out, HbN.out⟩
          case round =>
            obtain ⟨j, hj, hown, hrd, hbl⟩ := hrel
            obtain ⟨A3, c3, rfl⟩ := own_sl hown
            have hrd0 := hrd wr ⟨rfl, rfl, rfl, Nat.le_refl _, fun _ _ _ => rfl⟩
            obtain ⟨A4, c4, rfl⟩ := rd_sl hrd0
            have Hown := Lib.hid hown
            have Hbl := Lib.hid hbl
            have Hrd := Lib.hid hrd
            clear hown hbl hrd
            obtain ⟨wo, rfl⟩ : ∃ x, x = wr := ⟨_, rfl⟩
            by_cases hlt : j < n
            · obtain ⟨b1, o1, hA, hb1, q0, q1⟩ := rdQ_at hrd0 0 (by omega)
              subst hA
              rw [Nat.zero_mul, Nat.add_zero] at q0 q1
              have Hsc := Lib.hid (tabQ_succ j (fd0 f n p) (fd1 f n p))
              have e1 : fd0 f n p j = fdA f n p j 0 := rfl
              have e2 : fd1 f n p j = fdB f n p j 0 := rfl
              rw [e1, e2] at Hsc
              have HSm := Lib.hid (fun i hi => fd_small HVB.out j i hi)
              have HSm2 := Lib.hid (fun i hi => fd_small HVB.out (j + 1) i hi)
              have hnj : n - j - 1 = n - (j + 1) := by omega
              generalize hm : n - j = m at *
              have hm6 : m ≤ 6 := by omega
              have hm0 : 0 < m := by omega
              have Hnj := Lib.hid hnj
              have hpos' : (0 : Int) < (m : Int) := by omega
              have hj6 : j < 6 := by omega
              clear hrd0 hnj e1 e2
              generalize hx0 : fdA f n p j 0 = x0 at *
              generalize hy0 : fdB f n p j 0 = y0 at *
              have Hm := Lib.hid hm
              clear hx0 hy0 hm
              clear hb1
              go_wp2_with (at_builtin; refine wpList_apd 52 56 _ 2 16 Try.underlying52 infoQ rfl (by omega) _ _ rfl rfl w.heap.size _ j _ rfl Hown.out #[.int .i64 x0, .int .i64 y0] 1 1 rfl rfl (by simp [Value.oneCell']) (by simp [maxLen]; omega) (by omega) Hbl.out.size ?_; intro v7 w7 hown7 hg7; have Hb7 := Lib.hid (below_apd Hbl.out Hown.out hg7 (Nat.le_refl _) Hbl.out.size); obtain ⟨A7, c7, rfl⟩ := own_sl hown7; have Hown7 := Lib.hid hown7; have Hrd7 := Lib.hid (Hrd.out w7 hg7); clear hown7 hg7)
              have hbz := (Below.refl w7.heap.size w7).alloc (Nat.le_refl _) (.cells #[] 56)
              have Hbz := Lib.hid hbz
              have Hoz := Lib.hid (Hmade.out w7)
              clear hbz
              go_loopw [11, 12] (fun a i wr => ∃ k m' : Nat, m' + 1 = k ∧ k ≤ m ∧ i = .int .i64 (k : Int) ∧ wr.ownsRow w7.heap.size 56 2 a m' (tabQ m' (fdA f n p (j + 1)) (fdB f n p (j + 1))) ∧ Below w7.heap.size w7 wr) (fun _ i _ => m + 1 - (intOf i).toNat)
              case atStart => exact ⟨1, 0, rfl, by omega, rfl, Hoz.out, Hbz.out⟩
              case round =>
                obtain ⟨k, m', hkp, hk, rfl, hown, hbl⟩ := hrel
                obtain ⟨A9, c9, rfl⟩ := own_sl hown
                have Hownn := Lib.hid hown
                have Hbln := Lib.hid hbl
                clear hown
                by_cases hlk : k < m
                · obtain ⟨b1', o1', hA, hb1', p0, p1⟩ := rdQ_at (Hrd7.out.below hbl) k hlk
                  obtain ⟨rfl, rfl⟩ : b1 = b1' ∧ o1 = o1' := by simpa using hA
                  obtain ⟨b2', o2', hA2, hb2', p2, p3⟩ := rdQ_at (Hrd7.out.below hbl) m' (by omega)
                  obtain ⟨rfl, rfl⟩ : b1 = b2' ∧ o1 = o2' := by simpa using hA2
                  have s1 := HSm.out k (by have := Hm.out; omega)
                  have s0 := HSm.out m' (by have := Hm.out; omega)
                  have Hsc9 := Lib.hid (tabQ_succ m' (fdA f n p (j + 1)) (fdB f n p (j + 1)))
                  have a1 : fdA f n p j k = lowN (Dn j (fdV f n p) k) (bel p (n - 1)) := rfl
                  have a2 : fdB f n p j k = (lowD (Dn j (fdV f n p) k) (bel p (n - 1)) : Int) := rfl
                  have a3 : fdA f n p j m' = lowN (Dn j (fdV f n p) m') (bel p (n - 1)) := rfl
                  have a4 : fdB f n p j m' = (lowD (Dn j (fdV f n p) m') (bel p (n - 1)) : Int) := rfl
                  have a5 : fdA f n p (j + 1) m' = lowN (Dn j (fdV f n p) k - Dn j (fdV f n p) m') (bel p (n - 1)) := by subst hkp; rfl
                  have a6 : fdB f n p (j + 1) m' = (lowD (Dn j (fdV f n p) k - Dn j (fdV f n p) m') (bel p (n - 1)) : Int) := by subst hkp; rfl
                  rw [a1] at p0
                  rw [a2] at p1
                  rw [a3] at p2
                  rw [a4] at p3
                  rw [a5, a6] at Hsc9
                  have hM1 := HVB.out.be (n - 1) (Nat.le_refl _)
                  have hM0 := HVB.out.belp (n - 1)
                  have hbd := low_bd (Dn j (fdV f n p) m') (bel p (n - 1))
                  have HSu := Lib.hid (fun wx => l19Minus_any (Dn j (fdV f n p) k) (Dn j (fdV f n p) m') (bel p (n - 1)) wx hM0 (by omega) (by omega) (by omega))
                  unfold RetQ at HSu
                  clear a1 a2 a3 a4 a5 a6 hA hA2 hb1' hb2'
                  generalize lowN (Dn j (fdV f n p) k - Dn j (fdV f n p) m') (bel p (n - 1)) = N3 at *
                  generalize lowD (Dn j (fdV f n p) k - Dn j (fdV f n p) m') (bel p (n - 1)) = D3 at *
                  generalize lowN (Dn j (fdV f n p) k) (bel p (n - 1)) = N1 at *
                  generalize lowD (Dn j (fdV f n p) k) (bel p (n - 1)) = D1 at *
                  generalize lowN (Dn j (fdV f n p) m') (bel p (n - 1)) = N2 at *
                  generalize lowD (Dn j (fdV f n p) m') (bel p (n - 1)) = D2 at *
                  have hlt' : (k : Int) < (m : Int) := by omega
                  have hm1 : IntKind.i64.wrap ((k : Int) - 1) = (m' : Int) := by rw [IntWalk.i64_in _ (by omega)]; omega
                  have hm2 : (m' : Int) < (m : Int) := by omega
                  have hng : IntKind.i64.wrap (-N2) = -N2 := IntWalk.i64_in _ (by omega)
                  have hmx : m' + 1 ≤ maxLen := by simp [maxLen]; omega
                  have hby : (m' + 1) * 16 ≤ 140737488355328 := by omega
                  have Hkp := Lib.hid hkp
                  clear hbl s1 s0 hkp hbd hM1 hM0
                  go_upto_region 16 with (fail)
                  refine wp_region_noPanic ?_
                  refine wp_region_L [14,13,12,11] (fun w' => w'.cell? ⟨b1, o1 + k * 2, none⟩ = some (.int .i64 N1) ∧ w'.cell? ⟨b1, o1 + k * 2 + 1, none⟩ = some (.int .i64 (D1 : Int)) ∧ w'.cell? ⟨b1, o1 + m' * 2, none⟩ = some (.int .i64 N2) ∧ w'.cell? ⟨b1, o1 + m' * 2 + 1, none⟩ = some (.int .i64 (D2 : Int))) (by kernel_rfl) (⟨p0, p1, p2, p3⟩) (fun hHeld => ?_)
                  refine take_F (i := 0) (d := some 52) (v := ?_) (by kernel_rfl) (by kernel_rfl) rfl rfl (by kernel_rfl) (by kernel_rfl) (by kernel_rfl) (fun _ _ _ h => h) (Or.inl ⟨by rfl, ?_⟩) (by assumption) ?_
                  rotate_left
                  · (intro w hSw; (try dsimp only at hSw); go_simp; (try rw [if_neg (by omega)]); (try (with_reducible rfl)))
                  simp only [Act.put, List.setIfInBounds_toArray, List.set_cons_zero, List.set_cons_succ]
                  refine take_F (i := 1) (d := some 53) (v := ?_) (by kernel_rfl) (by kernel_rfl) rfl rfl (by kernel_rfl) (by kernel_rfl) (by kernel_rfl) (fun _ _ _ h => h) (Or.inl ⟨by rfl, ?_⟩) (by assumption) ?_
                  rotate_left
                  · (intro w hSw; (try dsimp only at hSw); go_simp; (try rw [if_neg (by omega)]); (try (with_reducible rfl)))
                  simp only [Act.put, List.setIfInBounds_toArray, List.set_cons_zero, List.set_cons_succ]
                  refine take_F (i := 2) (d := some 54) (v := ?_) (by kernel_rfl) (by kernel_rfl) rfl rfl (by kernel_rfl) (by kernel_rfl) (by kernel_rfl) (fun _ _ _ h => h) (Or.inl ⟨by rfl, ?_⟩) (by assumption) ?_
                  rotate_left
                  · (intro w hSw; (try dsimp only at hSw); go_simp; (try rw [if_neg (by omega)]); (try (with_reducible rfl)))
                  simp only [Act.put, List.setIfInBounds_toArray, List.set_cons_zero, List.set_cons_succ]
                  refine take_F (i := 3) (d := some 55) (v := ?_) (by kernel_rfl) (by kernel_rfl) rfl rfl (by kernel_rfl) (by kernel_rfl) (by kernel_rfl) (fun _ _ _ h => h) (Or.inl ⟨by rfl, ?_⟩) (by assumption) ?_
                  rotate_left
                  · (intro w hSw; (try dsimp only at hSw); go_simp; (try rw [if_neg (by omega)]); (try (with_reducible rfl)))
                  simp only [Act.put, List.setIfInBounds_toArray, List.set_cons_zero, List.set_cons_succ]
                  refine take_L [4] (i := 4) (d := some 56) (v := ?_) (by kernel_rfl) (by kernel_rfl) (by kernel_rfl) (by kernel_rfl) rfl rfl (by kernel_rfl) (by kernel_rfl) (by kernel_rfl) (fun _ _ _ h => h) (Or.inl ⟨by rfl, ?_⟩) (by assumption) ?_
                  rotate_left
                  · (intro w hSw; (try dsimp only at hSw); go_simp; (try rw [if_neg (by omega)]); (try (with_reducible rfl)))
                  simp only [Act.put, List.setIfInBounds_toArray, List.set_cons_zero, List.set_cons_succ]
                  refine take_F (i := 5) (d := some 57) (v := ?_) (by kernel_rfl) (by kernel_rfl) rfl rfl (by kernel_rfl) (by kernel_rfl) (by kernel_rfl) (fun _ _ _ h => h) (Or.inl ⟨by rfl, ?_⟩) (by assumption) ?_
                  rotate_left
                  · (intro w hSw; (try dsimp only at hSw); go_simp; (try rw [if_neg (by omega)]); (try (with_reducible rfl)))
                  simp only [Act.put, List.setIfInBounds_toArray, List.set_cons_zero, List.set_cons_succ]
                  refine take_F (i := 6) (d := some 58) (v := ?_) (by kernel_rfl) (by kernel_rfl) rfl rfl (by kernel_rfl) (by kernel_rfl) (by kernel_rfl) (fun _ _ _ h => h) (Or.inl ⟨by rfl, ?_⟩) (by assumption) ?_
                  rotate_left
                  · (intro w hSw; (try dsimp only at hSw); go_simp; (try rw [if_neg (by omega)]); (try (with_reducible rfl)))
                  simp only [Act.put, List.setIfInBounds_toArray, List.set_cons_zero, List.set_cons_succ]
                  refine take_F (i := 7) (d := some 59) (v := ?_) (by kernel_rfl) (by kernel_rfl) rfl rfl (by kernel_rfl) (by kernel_rfl) (by kernel_rfl) (fun _ _ _ h => h) (Or.inl ⟨by rfl, ?_⟩) (by assumption) ?_
                  rotate_left
                  · (intro w hSw; (try dsimp only at hSw); go_simp; (try rw [if_neg (by omega)]); (try (with_reducible rfl)))
                  simp only [Act.put, List.setIfInBounds_toArray, List.set_cons_zero, List.set_cons_succ]
                  refine take_F (i := 8) (d := some 60) (v := ?_) (by kernel_rfl) (by kernel_rfl) rfl rfl (by kernel_rfl) (by kernel_rfl) (by kernel_rfl) (fun _ _ _ h => h) (Or.inl ⟨by rfl, ?_⟩) (by assumption) ?_
                  rotate_left
                  · (intro w hSw; (try dsimp only at hSw); go_simp; (try rw [if_neg (by omega)]); (try (with_reducible rfl)))
                  simp only [Act.put, List.setIfInBounds_toArray, List.set_cons_zero, List.set_cons_succ]
                  refine take_L [9] (i := 9) (d := some 61) (v := ?_) (by kernel_rfl) (by kernel_rfl) (by kernel_rfl) (by kernel_rfl) rfl rfl (by kernel_rfl) (by kernel_rfl) (by kernel_rfl) (fun _ _ _ h => h) (Or.inl ⟨by rfl, ?_⟩) (by assumption) ?_
                  rotate_left
                  · (intro w hSw; (try dsimp only at hSw); go_simp; (try rw [if_neg (by omega)]); (try (with_reducible rfl)))
                  simp only [Act.put, List.setIfInBounds_toArray, List.set_cons_zero, List.set_cons_succ]
                  refine take_F (i := 10) (d := some 62) (v := ?_) (by kernel_rfl) (by kernel_rfl) rfl rfl (by kernel_rfl) (by kernel_rfl) (by kernel_rfl) (fun _ _ _ h => h) (Or.inl ⟨by rfl, ?_⟩) (by assumption) ?_
                  rotate_left
                  · (intro w hSw; (try dsimp only at hSw); go_simp; (try rw [if_neg (by omega)]); (try (with_reducible rfl)))
                  simp only [Act.put, List.setIfInBounds_toArray, List.set_cons_zero, List.set_cons_succ]
                  refine late_L (i := 11) (d := (some 63)) (by kernel_rfl) rfl rfl (by kernel_rfl) (fun Kq hKq => ?_)
                  go_simp
                  go_at_call 101
                  refine (HSu.out _).mono ?_; rintro e w8 ⟨rfl, hb8⟩
                  have Hb8 := Lib.hid (Hbln.out.trans ((below_undrew hb8).mono Hbln.out.size))
                  have Ho8 := Lib.hid (own_below Hownn.out (below_undrew hb8))
                  clear hb8 p0 p1 p2 p3
                  (try go_wp2_with fail)
                  refine hKq.out _ _ ?_
                  clear hKq Kq
                  refine late_L (i := 12) (d := (some 64)) (by kernel_rfl) rfl rfl (by kernel_rfl) (fun Kq hKq => ?_)
                  go_simp
                  refine hKq.out _ _ ?_
                  clear hKq Kq
                  refine late_L (i := 13) (d := (some 65)) (by kernel_rfl) rfl rfl (by kernel_rfl) (fun Kq hKq => ?_)
                  refine step_apd0 52 56 _ 2 16 Try.underlying52 infoQ rfl (by omega) _ _ (by rfl) (by rfl) w7.heap.size _ m' _ (by rfl) Ho8.out #[.int .i64 N3, .int .i64 (D3 : Int)] 1 1 (by rfl) (by rfl) (by simp [Value.oneCell']) hmx hby Hb8.out.size ?_; intro v10 w10 hown10 hg10
                  have Hb10 := Lib.hid (below_apd Hb8.out Ho8.out hg10 (Nat.le_refl _) Hb8.out.size)
                  obtain ⟨A10, c10, rfl⟩ := own_sl hown10
                  have Hown10 := Lib.hid hown10
                  clear hown10 hg10
                  refine hKq.out _ _ ?_
                  clear hKq Kq
                  simp only [Act.put, List.setIfInBounds_toArray]
                  refine late_L (i := 14) (d := (some 11)) (by kernel_rfl) rfl rfl (by kernel_rfl) (fun Kq hKq => ?_)
                  go_simp
                  refine hKq.out _ _ ?_
                  clear hKq Kq
                  refine done_L (by kernel_rfl) ?_ _
                  refine NoPanic.normal ?_
                  go_wp2_with fail
                  go_roundw
                  case rel => exact ⟨k + 1, m' + 1, by rw [Hkp.out], by omega, by go_num, by rw [Hsc9.out]; exact Hown10.out, Hb10.out⟩
                  case measure => first | (simp [intOf]; done) | (simp [intOf]; omega)
                · have hkm : m' = m - 1 := by omega
                  have hlt' : (m : Int) ≤ (k : Int) := by omega
                  subst hkm
                  have Hap := Lib.hid (fun w' hg => own_apart (w' := w') Hown7.out Hownn.out hg)
                  have Ho8 := Lib.hid (own_below Hown7.out hbl)
                  have Hb8 := Lib.hid (Hb7.out.trans (hbl.mono Hb7.out.size))
                  clear hbl
                  go_wp2_with fail
                  go_roundw
                  case rel => exact ⟨j + 1, by omega, by rw [Hsc.out]; exact Ho8.out, fun w' hg => by rw [← Hnj.out]; exact Rd.of_own (Hap.out w' hg), Hb8.out⟩
                  case measure => first | (simp; done) | (simp; omega) | omega
            · obtain rfl : j = n := by omega
              have hz : j - j = 0 := by omega
              rw [hz] at *
              have HLi := Lib.hid (l19List_any wo.heap.size _ j _ _ wo (Rd.of_own Hown.out) (Nat.le_refl _) (by omega))
              have e4 : okL j (fd0 f j p) (fd1 f j p) = allN j (fdOk f j p) := rfl
              rw [e4] at HLi
              clear e4
              go_wp2_with fail
              refine (HLi.out).mono ?_; rintro e w9 ⟨rfl, hb9⟩
              have Hb9 := Lib.hid (Hbl.out.trans (hb9.mono Hbl.out.size))
              have Ho9 := Lib.hid (own_below Hown.out hb9)
              clear hb9
              cases ho : allN j (fdOk f j p) with
              | false =>
                have Hr := Lib.hid (fin_bad ho)
                clear ho
                go_wp2_with fail
                go_ret2
                exact Hfin.out _ _ (by rw [Hr.out.1, Hr.out.2]; exact RetQs.none Hb9.out)
              | true =>
                have Hr := Lib.hid (fin_ok ho)
                clear ho
                go_wp2_with fail
                go_ret2
                exact Hfin.out _ _ (by rw [Hr.out.1, Hr.out.2]; exact ⟨_, rfl, Ho9.out, Hb9.out⟩)
    · rw [f2, f3] at HFT
      rw [HFT.out.1, HFT.out.2] at HFn
      have Hr := Lib.hid (fd_bad HFT.out.2 (by decide))
      clear f1 f2 f3 HFT
      go_enter Try.func32, Try.ntmps32
      go_wp2_with fail
      refine (HFn.out).mono ?_; rintro e w2 ⟨v2, rfl, ho2, hb2⟩
      have Hb2 := Lib.hid hb2
      obtain ⟨A2, c2, rfl⟩ := own_sl ho2
      clear ho2 hb2
      go_wp2_with fail
      go_ret2
      unfold RetFD
      rw [Hr.out.1, Hr.out.2]
      exact RetQs.none Hb2.out
end Go.Proofs.Ytemcdmjnokpldaa
/- Errors of tables, part 3: rounded tables. -/
namespace Go.Proofs.Ytemcdmjnokpldaa
open Go.RowKit Go.Joins

set_option maxRecDepth 100000 in
set_option maxHeartbeats 1600000 in
theorem f6ints_same (B1 B2 : Nat) (v1 v2 : Value) (n : Nat) (f g : Nat → Int) (w : World) (h : Rd w B1 v1 n 1 (tab n f)) (h' : Rd w B2 v2 n 1 (tab n g)) (hn : n ≤ 1000) (he : ∀ i, i < n → f i = g i) :
    Calls Try.prog 37 #[v1, v2] w fun e w' => e = .returned (.bool true) ∧ ∃ k, w' = w.drewN k := by
  have H := Lib.hid h
  have H' := Lib.hid h'
  have HE := Lib.hid he
  obtain ⟨A, c, rfl⟩ := rd_sl h
  obtain ⟨A', c', rfl⟩ := rd_sl h'
  clear h h' he
  go_enter Try.func37, Try.ntmps37
  go_wp2_with fail
  go_loopw [5] (fun i wr => ∃ (k d : Nat), k ≤ n ∧ i = .int .i64 (k : Int) ∧ wr = w.drewN d) (fun i _ => n - (intOf i).toNat)
  case atStart => exact ⟨0, 0, Nat.zero_le _, rfl, rfl⟩
  case round =>
    obtain ⟨k, d, hk, rfl, rfl⟩ := hrel
    by_cases hlt : k < n
    · obtain ⟨b1, o1, hA, _, hcc⟩ := rdF_all H.out (by omega)
      obtain ⟨b2, o2, hA', _, hcc'⟩ := rdF_all H'.out (by omega)
      subst hA hA'
      have q0 := hcc k hlt
      have q1 := hcc' k hlt
      rw [← HE.out k hlt] at q1
      have hlt' : (k : Int) < (n : Int) := by omega
      generalize f k = x at *
      clear hcc hcc'
      go_wp2_with fail
      go_quiet (fail)
      go_wp2_with fail
      go_roundw
      case rel => exact ⟨k + 1, d + _, by omega, by go_num, rfl⟩
      case measure => first | (simp [intOf]; done) | (simp [intOf]; omega)
    · have hlt' : (n : Int) ≤ (k : Int) := by omega
      go_wp2_with fail
      go_ret
      exact ⟨rfl, d, rfl⟩
theorem f6big_c (B n : Nat) (v : Value) (xs : List Value) (w : World) (h : Rd w B v n 1 xs) : Calls Try.prog 7 #[v] w fun e w' => e = .returned (.bool (decide (4096 < n))) ∧ w = w' := by
  obtain ⟨A, c, rfl⟩ := rd_sl h
  clear h
  by_cases hc : 4096 < n
  · have h1 : (4096 : Int) < (n : Int) := by omega
    go_enter Try.func7, Try.ntmps7
    go_wp2_with fail
    go_ret
    exact ⟨ret_bool (by simp [hc]), rfl⟩
  · have h1 : ¬ (4096 : Int) < (n : Int) := by omega
    go_enter Try.func7, Try.ntmps7
    go_wp2_with fail
    go_ret
    exact ⟨ret_bool (by simp [hc]), rfl⟩
/-- a table, or none and a code -/
def RetTab (w : World) (code : Int) (n : Nat) (f : Nat → Int) (e : Ending) (w' : World) : Prop :=
  ∃ v m, e = .returned (.tuple #[v, .int .i64 code]) ∧ (code = 0 → m = n) ∧ (code ≠ 0 → m = 0) ∧ w'.ownsRow w.heap.size 2 1 v m (tab m f) ∧ Below w.heap.size w w'
theorem RetTab.no {w w' : World} {code : Int} {n : Nat} {f : Nat → Int} (h : code ≠ 0) (hb : Below w.heap.size w w') : RetTab w code n f (.returned (.tuple #[.slice none 0 0, .int .i64 code])) w' :=
  ⟨_, 0, rfl, fun e => absurd e h, fun _ => rfl, World.ownsRow_nil _ _ _ _, hb⟩
theorem RetTab.yes {w w' : World} {n : Nat} {f : Nat → Int} {v : Value} (h : w'.ownsRow w.heap.size 2 1 v n (tab n f)) (hb : Below w.heap.size w w') : RetTab w 0 n f (.returned (.tuple #[v, .int .i64 0])) w' :=
  ⟨_, n, rfl, fun _ => rfl, fun e => absurd rfl e, h, hb⟩
/-- .. with the code by its equation -/
theorem RetTab.no' {w w' : World} {code c : Int} {n : Nat} {f : Nat → Int} (he : code = c) (h : c ≠ 0) (hb : Below w.heap.size w w') : RetTab w code n f (.returned (.tuple #[.slice none 0 0, .int .i64 c])) w' := by
  subst he; exact RetTab.no h hb
theorem RetTab.yes' {w w' : World} {code : Int} {n : Nat} {f : Nat → Int} {v : Value} (he : code = 0) (h : w'.ownsRow w.heap.size 2 1 v n (tab n f)) (hb : Below w.heap.size w w') : RetTab w code n f (.returned (.tuple #[v, .int .i64 0])) w' := by
  subst he; exact RetTab.yes h hb

/-- the greatest error of the first k values -/
def wmx (f : Nat → Int) (u : Int) : Nat → Int
  | 0 => 0
  | k + 1 => max (wmx f u k) (((f k - ru (f k) u * u).natAbs : Nat) : Int)
theorem wmx_bd {f : Nat → Int} {u : Int} {n : Nat} (hu : 1 ≤ u ∧ u ≤ 1000000) : ∀ k, 0 ≤ wmx f u k ∧ wmx f u k ≤ 1000000 ∧ 2 * wmx f u k ≤ u
  | 0 => by show (0 : Int) ≤ 0 ∧ (0 : Int) ≤ 1000000 ∧ 2 * (0 : Int) ≤ u; omega
  | k + 1 => by
    have h1 := wmx_bd (f := f) (n := n) hu k
    have h2 := ru_bd (v := f k) (u := u) (by omega)
    have e : wmx f u (k + 1) = max (wmx f u k) (((f k - ru (f k) u * u).natAbs : Nat) : Int) := rfl
    omega
end Go.Proofs.Ytemcdmjnokpldaa
