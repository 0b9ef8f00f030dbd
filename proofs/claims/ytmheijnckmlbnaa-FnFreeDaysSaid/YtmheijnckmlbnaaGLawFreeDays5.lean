/- Merged texts: Fd4, Src, One, Dg1, Dr1, Bk4, Dl1, Dl2, Dl0, Fd5, Lq0. -/
import Derived.Test.YtmheijnckmlbnaaGLawFreeDays4
import Derived.Test.YtmheijnckmlbnaaGLawFreeDays1
import Derived.Lib.SmallJoins
import Derived.Laws.BitsAllLaws
import Derived.Test.YtmheijnckmlbnaaGLawFreeDays3
import Derived.Deep.DeepCutAuto
import Derived.Deep.CutRange
/- Loans: the first free day, both sides. -/
namespace Go.Proofs.Ytmheijnckmlbnaa
open Go.RowKit Go.Joins

theorem free_cases (xs : List Ln) (e : ByteArray) (d n : Int) : (loansOk xs = false ∧ freeC xs e d n = 1 ∧ freeA xs e d n = 0) ∨ (loansOk xs = true ∧ inB d 0 100000 = false ∧ freeC xs e d n = 2 ∧ freeA xs e d n = 0) ∨
    (loansOk xs = true ∧ inB d 0 100000 = true ∧ inB n 1 1000 = false ∧ freeC xs e d n = 2 ∧ freeA xs e d n = 0) ∨
    (loansOk xs = true ∧ inB d 0 100000 = true ∧ inB n 1 1000 = true ∧ inB (freeF xs e d n + n - 1) 0 100000 = false ∧ freeC xs e d n = 3 ∧ freeA xs e d n = 0) ∨
    (loansOk xs = true ∧ inB d 0 100000 = true ∧ inB n 1 1000 = true ∧ inB (freeF xs e d n + n - 1) 0 100000 = true ∧ freeC xs e d n = 0 ∧ freeA xs e d n = freeF xs e d n) := by
  have h0 : freeA xs e d n = if freeC xs e d n = 0 then freeF xs e d n else 0 := rfl
  have h1 : freeC xs e d n = if loansOk xs = false then 1 else if (inB d 0 100000 && inB n 1 1000) = false then 2 else if inB (freeF xs e d n + n - 1) 0 100000 = false then 3 else 0 := rfl
  rw [h0, h1]
  cases loansOk xs <;> cases inB d 0 100000 <;> cases inB n 1 1000 <;> cases inB (freeF xs e d n + n - 1) 0 100000 <;> simp
def freeK (xs : List Ln) (e : ByteArray) (d n : Int) (k : Nat) : Int := (xs.take k).foldl (stepF e n) d
theorem freeK_0 (xs : List Ln) (e : ByteArray) (d n : Int) : freeK xs e d n 0 = d := rfl
theorem freeK_at (xs : List Ln) (e : ByteArray) (d n : Int) (k : Nat) (hk : k < xs.length) : freeK xs e d n (k + 1) = stepF e n (freeK xs e d n k) xs[k] := by
  unfold freeK
  rw [List.take_succ_eq_append_getElem hk, List.foldl_append]; rfl
theorem freeK_end (xs : List Ln) (e : ByteArray) (d n : Int) : freeK xs e d n xs.length = freeF xs e d n := by unfold freeK; rw [List.take_length]; rfl
theorem freeK_bd {xs : List Ln} (h : loansOk xs = true) (e : ByteArray) {d : Int} (n : Int) (hd : inB d 0 100000 = true) : ∀ k, k ≤ xs.length → 0 ≤ freeK xs e d n k ∧ freeK xs e d n k ≤ 100001 := by
  intro k
  induction k with
  | zero =>
    intro _
    rw [freeK_0]
    unfold inB at hd
    simp only [Bool.and_eq_true, decide_eq_true_eq] at hd
    omega
  | succ k ih =>
    intro hk
    have h1 := ih (by omega)
    rw [freeK_at xs e d n k hk]
    have h2 := (OkP.of h).one k hk
    unfold loanOk inB at h2
    simp only [Bool.and_eq_true, decide_eq_true_eq] at h2
    unfold stepF
    split <;> omega
theorem step_cases (e : ByteArray) (n a : Int) (x : Ln) : ((x.what.toList == e.toList) = false ∧ stepF e n a x = a) ∨ ((x.what.toList == e.toList) = true ∧ decide (x.from_ ≤ a + n - 1) = false ∧ stepF e n a x = a) ∨
    ((x.what.toList == e.toList) = true ∧ decide (x.from_ ≤ a + n - 1) = true ∧ decide (a ≤ x.till) = false ∧ stepF e n a x = a) ∨ ((x.what.toList == e.toList) = true ∧ decide (x.from_ ≤ a + n - 1) = true ∧ decide (a ≤ x.till) = true ∧ stepF e n a x = x.till + 1) := by
  unfold stepF
  by_cases h : x.what = e
  · rw [h]
    by_cases h1 : x.from_ ≤ a + n - 1 <;> by_cases h2 : a ≤ x.till <;> simp [h1, h2]
  · exact .inl ⟨beq_eq_false_iff_ne.2 fun e => h (ba_inj e), by rw [if_neg (fun h3 => h h3.1)]⟩
theorem nums_of {n : Int} (h : inB n 1 1000 = true) : 1 ≤ n ∧ n ≤ 1000 := by
  unfold inB at h
  simp only [Bool.and_eq_true, decide_eq_true_eq] at h
  exact h
theorem tills_of {xs : List Ln} (h : loansOk xs = true) (k : Nat) (hk : k < xs.length) : 0 ≤ xs[k].till ∧ xs[k].till ≤ 100000 := by
  have h2 := (OkP.of h).one k hk
  unfold loanOk inB at h2
  simp only [Bool.and_eq_true, decide_eq_true_eq] at h2
  omega

set_option maxRecDepth 100000 in
set_option maxHeartbeats 3200000 in
theorem FreeI_any (B : Nat) (v : Value) (xs : List Ln) (e : ByteArray) (d n : Int) (w : World) (h : RdL w B v xs) (hB : B ≤ w.heap.size) (hl : xs.length ≤ 1048576) (hsm : ∀ x ∈ xs, smL x) (hcap : ∀ A n c, v = .slice A n c → n ≤ c ∧ c ≤ maxLen) :
    Calls Try.prog 8 #[v, .string e, .int .i64 d, .int .i64 n] w fun en w' => en = .returned (.tuple #[.int .i64 (freeA xs e d n), .int .i64 (freeC xs e d n)]) ∧ Below w.heap.size w w' := by
  have HV := Lib.hid (ValidLoansI_any B v xs w h hB hl hsm hcap)
  have HD := Lib.hid (fun d wx => isDay_any d wx)
  have HN := Lib.hid (fun wx => between_any n 1 1000 wx)
  have H := Lib.hid h
  have hcs := free_cases xs e d n
  have hend := freeK_end xs e d n
  have Hbd := Lib.hid (fun h1 hd => freeK_bd (xs := xs) h1 e (d := d) n hd)
  have Htl := Lib.hid (fun h1 => tills_of (xs := xs) h1)
  generalize freeC xs e d n = C at *
  generalize freeA xs e d n = A0 at *
  generalize freeF xs e d n = F at *
  obtain ⟨A, c, rfl⟩ := h.slice
  clear h hsm hcap
  rcases hcs with ⟨g1, g2, g3⟩ | ⟨g1, gd, g2, g3⟩ | ⟨g1, gd, gn, g2, g3⟩ | hcs
  · subst g2 g3
    rw [g1] at HV
    clear g1
    go_enter Try.func8, Try.ntmps8
    go_wp2_with fail
    refine HV.out.mono ?_; rintro e w1 ⟨rfl, hb1⟩
    go_wp2_with fail
    go_ret2
    exact ⟨rfl, hb1⟩
  · subst g2 g3
    have HD1 := Lib.hid (HD.out d)
    rw [gd] at HD1
    rw [g1] at HV
    clear g1 gd
    go_enter Try.func8, Try.ntmps8
    go_wp2_with fail
    refine HV.out.mono ?_; rintro e w1 ⟨rfl, hb1⟩
    go_wp2_with fail
    refine (HD1.out _).mono ?_; rintro e w2 ⟨rfl, rfl⟩
    go_wp2_with fail
    go_ret2
    exact ⟨rfl, hb1⟩
  · subst g2 g3
    have HD1 := Lib.hid (HD.out d)
    rw [gd] at HD1
    rw [gn] at HN
    rw [g1] at HV
    clear g1 gd gn
    go_enter Try.func8, Try.ntmps8
    go_wp2_with fail
    refine HV.out.mono ?_; rintro e w1 ⟨rfl, hb1⟩
    go_wp2_with fail
    refine (HD1.out _).mono ?_; rintro e w2 ⟨rfl, rfl⟩
    go_wp2_with fail
    refine (HN.out _).mono ?_; rintro e w2 ⟨rfl, rfl⟩
    go_wp2_with fail
    go_ret2
    exact ⟨rfl, hb1⟩
  · obtain ⟨g1, gd, gn, hcs⟩ : loansOk xs = true ∧ inB d 0 100000 = true ∧ inB n 1 1000 = true ∧ ((inB (F + n - 1) 0 100000 = false ∧ C = 3 ∧ A0 = 0) ∨ (inB (F + n - 1) 0 100000 = true ∧ C = 0 ∧ A0 = F)) := by
      rcases hcs with ⟨g1, gd, gn, g4⟩ | ⟨g1, gd, gn, g4⟩
      · exact ⟨g1, gd, gn, .inl g4⟩
      · exact ⟨g1, gd, gn, .inr g4⟩
    have Hk := Lib.hid (Hbd.out g1 gd)
    have Ht := Lib.hid (Htl.out g1)
    obtain ⟨hn1, hn2⟩ := nums_of gn
    have HD1 := Lib.hid (HD.out d)
    have HDF := Lib.hid (HD.out (F + n - 1))
    rw [gd] at HD1
    rw [gn] at HN
    rw [g1] at HV
    have Hcs := Lib.hid hcs
    have Hend := Lib.hid hend
    clear g1 gd gn Hbd HD hcs hend Htl
    go_enter Try.func8, Try.ntmps8
    go_wp2_with fail
    refine HV.out.mono ?_; rintro en w1 ⟨rfl, hb1⟩
    go_wp2_with fail
    refine (HD1.out _).mono ?_; rintro en w2 ⟨rfl, rfl⟩
    go_wp2_with fail
    refine (HN.out _).mono ?_; rintro en w2 ⟨rfl, rfl⟩
    have H1 := Lib.hid (H.out.below (hb1.mono hB))
    have hB1 := Nat.le_trans hB hb1.size
    have Hb1 := Lib.hid hb1
    clear hb1 H HV HD1 HN
    go_wp2_with fail
    go_loopw [2, 25] (fun a i wr => ∃ k : Nat, k ≤ xs.length ∧ a = .int .i64 (freeK xs e d n k) ∧ i = .int .i64 (k : Int) ∧ Below w1.heap.size w1 wr) (fun _ i _ => xs.length - (intOf i).toNat)
    case atStart => exact ⟨0, Nat.zero_le _, rfl, rfl, Below.refl _ _⟩
    case round =>
      obtain ⟨k, hk, rfl, rfl, hbl⟩ := hrel
      obtain ⟨ha0, ha1⟩ := Hk.out k hk
      by_cases hlt : k < xs.length
      · have HR := Lib.hid (H1.out.below (hbl.mono hB1))
        obtain ⟨b1, o1, hA, hE⟩ := HR.out.at k hlt
        subst hA
        have hlt' : (k : Int) < (xs.length : Int) := by omega
        have Hst := Lib.hid (freeK_at xs e d n k hlt)
        obtain ⟨ht0, ht1⟩ := Ht.out k hlt
        generalize freeK xs e d n k = a at *
        have hcs := step_cases e n a xs[k]
        generalize stepF e n a xs[k] = a2 at *
        generalize xs[k] = x at *
        obtain ⟨xa, xb, xf, xt⟩ := x
        obtain ⟨hbB, e0, e1, e2, e3⟩ := hE
        dsimp only at e0 e1 e2 e3 hcs ht0 ht1
        have Hba := Lib.hid (hbl.alloc hbl.size (.cells #[.string xa, .string xb, .int .i64 xf, .int .i64 xt] 40))
        clear hbl
        have hw1 : IntKind.i64.wrap (a + n - 1) = a + n - 1 := IntWalk.i64_in _ (by omega)
        rcases hcs with ⟨f1, f2⟩ | ⟨f1, f2, f3⟩ | ⟨f1, f2, f3, f4⟩ | ⟨f1, f2, f3, f4⟩
        · subst f2
          go_wp2_with fail
          go_roundw
          case rel => exact ⟨k + 1, by omega, by rw [Hst.out], by go_num, Hba.out⟩
          case measure => simp [intOf]; omega
        · subst f3
          have f2' : ¬ xf ≤ a2 + n - 1 := of_decide_eq_false f2
          go_wp2_with fail
          go_roundw
          case rel => exact ⟨k + 1, by omega, by rw [Hst.out], by go_num, Hba.out⟩
          case measure => simp [intOf]; omega
        · subst f4
          have f2' : xf ≤ a2 + n - 1 := of_decide_eq_true f2
          have f3' : ¬ a2 ≤ xt := of_decide_eq_false f3
          go_wp2_with fail
          go_roundw
          case rel => exact ⟨k + 1, by omega, by rw [Hst.out], by go_num, Hba.out⟩
          case measure => simp [intOf]; omega
        · subst f4
          have f2' : xf ≤ a + n - 1 := of_decide_eq_true f2
          have f3' : a ≤ xt := of_decide_eq_true f3
          go_wp2_with fail
          go_roundw
          case rel => exact ⟨k + 1, by omega, by rw [Hst.out], by go_num, Hba.out⟩
          case measure => simp [intOf]; omega
      · have hkl : k = xs.length := by omega
        subst hkl
        have hlt' : ¬ (xs.length : Int) < (xs.length : Int) := by omega
        have hbf := Lib.hid (Hb1.out.trans (hbl.mono Hb1.out.size))
        rw [Hend.out] at ha0 ha1
        rw [Hend.out]
        have hw1 : IntKind.i64.wrap (F + n - 1) = F + n - 1 := IntWalk.i64_in _ (by omega)
        rcases Hcs.out with ⟨f1, f2, f3⟩ | ⟨f1, f2, f3⟩
        · subst f2 f3
          rw [f1] at HDF
          clear f1
          go_wp2_with fail
          refine (HDF.out _).mono ?_; rintro en w2 ⟨rfl, rfl⟩
          go_wp2_with fail
          go_ret2
          exact ⟨rfl, hbf.out⟩
        · subst f2 f3
          rw [f1] at HDF
          clear f1
          go_wp2_with fail
          refine (HDF.out _).mono ?_; rintro en w2 ⟨rfl, rfl⟩
          go_wp2_with fail
          go_ret2
          exact ⟨rfl, hbf.out⟩

set_option maxRecDepth 100000 in
set_option maxHeartbeats 3200000 in
theorem FreeS_any (B : Nat) (v : Value) (xs : List Ln) (e : ByteArray) (d n : Int) (w : World) (h : RdL w B v xs) (hl : xs.length ≤ 1048576) (hsm : ∀ x ∈ xs, smL x) :
    Calls Try.prog 9 #[v, .string e, .int .i64 d, .int .i64 n] w fun en w' => en = .returned (.tuple #[.int .i64 (freeA xs e d n), .int .i64 (freeC xs e d n)]) ∧ ∃ m, w' = w.drewN m := by
  have HV := Lib.hid (l23Ok_any B v xs w h hl hsm)
  have HD := Lib.hid (fun d wx => l23Day_any d wx)
  have HN := Lib.hid (fun wx => l00In_any n 1 1000 wx)
  have H := Lib.hid h
  have hcs := free_cases xs e d n
  have hend := freeK_end xs e d n
  have Hbd := Lib.hid (fun h1 hd => freeK_bd (xs := xs) h1 e (d := d) n hd)
  have Htl := Lib.hid (fun h1 => tills_of (xs := xs) h1)
  generalize freeC xs e d n = C at *
  generalize freeA xs e d n = A0 at *
  generalize freeF xs e d n = F at *
  obtain ⟨A, c, rfl⟩ := h.slice
  clear h hsm
  rcases hcs with ⟨g1, g2, g3⟩ | ⟨g1, gd, g2, g3⟩ | ⟨g1, gd, gn, g2, g3⟩ | hcs
  · subst g2 g3
    rw [g1] at HV
    clear g1
    go_enter Try.func9, Try.ntmps9
    go_wp2_with fail
    refine HV.out.mono ?_; rintro e w1 ⟨rfl, n1, rfl⟩
    go_wp2_with fail
    go_ret2
    exact ⟨rfl, _, rfl⟩
  · subst g2 g3
    have HD1 := Lib.hid (HD.out d)
    rw [gd] at HD1
    rw [g1] at HV
    clear g1 gd
    go_enter Try.func9, Try.ntmps9
    go_wp2_with fail
    refine HV.out.mono ?_; rintro e w1 ⟨rfl, n1, rfl⟩
    go_wp2_with fail
    refine (HD1.out _).mono ?_; rintro e w2 ⟨rfl, rfl⟩
    go_wp2_with fail
    go_ret2
    exact ⟨rfl, _, rfl⟩
  · subst g2 g3
    have HD1 := Lib.hid (HD.out d)
    rw [gd] at HD1
    rw [gn] at HN
    rw [g1] at HV
    clear g1 gd gn
    go_enter Try.func9, Try.ntmps9
    go_wp2_with fail
    refine HV.out.mono ?_; rintro e w1 ⟨rfl, n1, rfl⟩
    go_wp2_with fail
    refine (HD1.out _).mono ?_; rintro e w2 ⟨rfl, rfl⟩
    go_wp2_with fail
    refine (HN.out _).mono ?_; rintro e w2 ⟨rfl, rfl⟩
    go_wp2_with fail
    go_ret2
    exact ⟨rfl, _, rfl⟩
  · obtain ⟨g1, gd, gn, hcs⟩ : loansOk xs = true ∧ inB d 0 100000 = true ∧ inB n 1 1000 = true ∧ ((inB (F + n - 1) 0 100000 = false ∧ C = 3 ∧ A0 = 0) ∨ (inB (F + n - 1) 0 100000 = true ∧ C = 0 ∧ A0 = F)) := by
      rcases hcs with ⟨g1, gd, gn, g4⟩ | ⟨g1, gd, gn, g4⟩
      · exact ⟨g1, gd, gn, .inl g4⟩
      · exact ⟨g1, gd, gn, .inr g4⟩
    have Hk := Lib.hid (Hbd.out g1 gd)
    have Ht := Lib.hid (Htl.out g1)
    obtain ⟨hn1, hn2⟩ := nums_of gn
    have HD1 := Lib.hid (HD.out d)
    have HDF := Lib.hid (HD.out (F + n - 1))
    rw [gd] at HD1
    rw [gn] at HN
    rw [g1] at HV
    have Hcs := Lib.hid hcs
    have Hend := Lib.hid hend
    clear g1 gd gn Hbd HD hcs hend Htl
    go_enter Try.func9, Try.ntmps9
    go_wp2_with fail
    refine HV.out.mono ?_; rintro en w1 ⟨rfl, n1, rfl⟩
    go_wp2_with fail
    refine (HD1.out _).mono ?_; rintro en w2 ⟨rfl, rfl⟩
    go_wp2_with fail
    refine (HN.out _).mono ?_; rintro en w2 ⟨rfl, rfl⟩
    have H1 := Lib.hid (H.out.drewN n1)
    clear HV HD1 HN
    go_wp2_with fail
    go_loopw [10, 11] (fun a i wr => ∃ k : Nat, k ≤ xs.length ∧ a = .int .i64 (freeK xs e d n k) ∧ i = .int .i64 (k : Int) ∧ wr = w.drewN n1) (fun _ i _ => xs.length - (intOf i).toNat)
    case atStart => exact ⟨0, Nat.zero_le _, rfl, rfl, rfl⟩
    case round =>
      obtain ⟨k, hk, rfl, rfl, rfl⟩ := hrel
      obtain ⟨ha0, ha1⟩ := Hk.out k hk
      by_cases hlt : k < xs.length
      · obtain ⟨b1, o1, hA, hE⟩ := H1.out.at k hlt
        subst hA
        have hlt' : (k : Int) < (xs.length : Int) := by omega
        have Hst := Lib.hid (freeK_at xs e d n k hlt)
        obtain ⟨ht0, ht1⟩ := Ht.out k hlt
        generalize freeK xs e d n k = a at *
        have hcs := step_cases e n a xs[k]
        generalize stepF e n a xs[k] = a2 at *
        generalize xs[k] = x at *
        obtain ⟨xa, xb, xf, xt⟩ := x
        obtain ⟨hbB, e0, e1, e2, e3⟩ := hE
        dsimp only at e0 e1 e2 e3 hcs ht0 ht1
        clear e1
        have hw1 : IntKind.i64.wrap (a + n - 1) = a + n - 1 := IntWalk.i64_in _ (by omega)
        rcases hcs with ⟨f1, f2⟩ | ⟨f1, f2, f3⟩ | ⟨f1, f2, f3, f4⟩ | ⟨f1, f2, f3, f4⟩
        · subst f2
          go_wp2_with fail
          go_roundw
          case rel => exact ⟨k + 1, by omega, by rw [Hst.out], by go_num, by trivial⟩
          case measure => simp [intOf]; omega
        · subst f3
          have f2' : ¬ xf ≤ a2 + n - 1 := of_decide_eq_false f2
          go_wp2_with fail
          go_roundw
          case rel => exact ⟨k + 1, by omega, by rw [Hst.out], by go_num, by trivial⟩
          case measure => simp [intOf]; omega
        · subst f4
          have f2' : xf ≤ a2 + n - 1 := of_decide_eq_true f2
          have f3' : ¬ a2 ≤ xt := of_decide_eq_false f3
          go_wp2_with fail
          go_roundw
          case rel => exact ⟨k + 1, by omega, by rw [Hst.out], by go_num, by trivial⟩
          case measure => simp [intOf]; omega
        · subst f4
          have f2' : xf ≤ a + n - 1 := of_decide_eq_true f2
          have f3' : a ≤ xt := of_decide_eq_true f3
          go_wp2_with fail
          go_roundw
          case rel => exact ⟨k + 1, by omega, by rw [Hst.out], by go_num, by trivial⟩
          case measure => simp [intOf]; omega
      · have hkl : k = xs.length := by omega
        subst hkl
        have hlt' : ¬ (xs.length : Int) < (xs.length : Int) := by omega
        rw [Hend.out] at ha0 ha1
        rw [Hend.out]
        have hw1 : IntKind.i64.wrap (F + n - 1) = F + n - 1 := IntWalk.i64_in _ (by omega)
        rcases Hcs.out with ⟨f1, f2, f3⟩ | ⟨f1, f2, f3⟩
        · subst f2 f3
          rw [f1] at HDF
          clear f1
          go_wp2_with fail
          refine (HDF.out _).mono ?_; rintro en w2 ⟨rfl, rfl⟩
          go_wp2_with fail
          go_ret2
          exact ⟨rfl, _, rfl⟩
        · subst f2 f3
          rw [f1] at HDF
          clear f1
          go_wp2_with fail
          refine (HDF.out _).mono ?_; rintro en w2 ⟨rfl, rfl⟩
          go_wp2_with fail
          go_ret2
          exact ⟨rfl, _, rfl⟩
end Go.Proofs.Ytmheijnckmlbnaa
/- The source of draws (l00Src): what each draw hands back, and that only its own block turns. -/
namespace Go.Proofs.Ytmheijnckmlbnaa
open Go.RowKit Go.Joins

/-- block g is a source over the bytes bs, at most k of its draws are done; the bytes lie below block B -/
def SrcAt (w : World) (B g k : Nat) (bs : List UInt8) : Prop :=
  ∃ (cv : Value) (p s : Nat), w.heap[g]? = some (.cells #[cv, .int .i64 p, .int .u64 s] 112 (0, 0)) ∧ Rd w B cv bs.length 1 (bs.map byV) ∧ p ≤ k ∧ s < 18446744073709551616 ∧ B ≤ g

theorem SrcAt.lt {w : World} {B g k : Nat} {bs : List UInt8} (h : SrcAt w B g k bs) : g < w.heap.size := by
  obtain ⟨cv, p, s, h, _⟩ := h
  exact (Array.getElem?_eq_some_iff.1 h).1
theorem SrcAt.more {w : World} {B g k k' : Nat} {bs : List UInt8} (h : SrcAt w B g k bs) (hk : k ≤ k') : SrcAt w B g k' bs := by
  obtain ⟨cv, p, s, h1, h2, h3, h4, h5⟩ := h
  exact ⟨cv, p, s, h1, h2, by omega, h4, h5⟩
/-- kept by all that leaves its blocks alone -/
theorem SrcAt.grown {w w' : World} {B g k : Nat} {bs : List UInt8} {r : Option Nat} (h : SrcAt w B g k bs) (hg : w.grownBy w' r) (hr : ∀ x, r = some x → g < x) : SrcAt w' B g k bs := by
  obtain ⟨cv, p, s, h1, h2, h3, h4, h5⟩ := h
  have hlt := (Array.getElem?_eq_some_iff.1 h1).1
  refine ⟨cv, p, s, (hg.block g hlt (fun e => by have := hr g e.symm; omega)).trans h1, h2.keep fun q hq => World.cell?_of_block (hg.block q.block (by omega) (fun e => by have := hr _ e.symm; omega)), h3, h4, h5⟩
theorem SrcAt.below {w w' : World} {B g k : Nat} {bs : List UInt8} (h : SrcAt w B g k bs) (hb : Below w.heap.size w w') : SrcAt w' B g k bs := h.grown (grown_of_below hb none) (fun x hx => by cases hx)
theorem SrcAt.drewN {w : World} {B g k : Nat} {bs : List UInt8} (h : SrcAt w B g k bs) (n : Nat) : SrcAt (w.drewN n) B g k bs := h
theorem SrcAt.drew {w : World} {B g k : Nat} {bs : List UInt8} (h : SrcAt w B g k bs) : SrcAt w.drew B g k bs := h

/-- a draw: a number with a property is handed back, only block g has turned -/
def Drawn (w : World) (B g k : Nat) (bs : List UInt8) (p : Int → Prop) (e : Ending) (w' : World) : Prop :=
  ∃ x, e = .returned (.int .i64 x) ∧ p x ∧ SrcAt w' B g k bs ∧ w.grownBy w' (some g)

theorem src_cells {w : World} {g : Nat} {a b c : Value} {t : TypeId} (h : w.heap[g]? = some (.cells #[a, b, c] t (0, 0))) :
    w.cell? ⟨g, 0, none⟩ = some a ∧ w.cell? ⟨g, 1, none⟩ = some b ∧ w.cell? ⟨g, 2, none⟩ = some c ∧ ∀ i, w.frozen? ⟨g, i, none⟩ = false := by
  refine ⟨?_, ?_, ?_, fun i => ?_⟩
  · rw [cell_of_row w g 0 _ _ _ h]; rfl
  · rw [cell_of_row w g 1 _ _ _ h]; rfl
  · rw [cell_of_row w g 2 _ _ _ h]; rfl
  · exact frozen_of_row w g i _ _ h

theorem u64_bd (x : Int) : 0 ≤ IntKind.u64.wrap x ∧ IntKind.u64.wrap x < 18446744073709551616 := by
  rw [IntKind.wrap_u64]; omega

theorem src_step {w : World} {B g k p : Nat} {c0 c2 : Value} {bs : List UInt8} (h1 : w.heap[g]? = some (.cells #[c0, .int .i64 p, c2] 112 (0, 0))) (h2 : Rd w B c0 bs.length 1 (bs.map byV)) (h3 : p ≤ k) (h5 : B ≤ g) (X : Int) (a b : Nat) :
    SrcAt ((((w.drewN a).setCell ⟨g, 1, none⟩ (.int .i64 ((p : Int) + 1))).setCell ⟨g, 2, none⟩ (.int .u64 (IntKind.u64.wrap X))).drewN b) B g (k + 1) bs ∧
    w.grownBy ((((w.drewN a).setCell ⟨g, 1, none⟩ (.int .i64 ((p : Int) + 1))).setCell ⟨g, 2, none⟩ (.int .u64 (IntKind.u64.wrap X))).drewN b) (some g) := by
  have hh := u64_bd X
  have e1 := heap_setCell_same (w.drewN a) g 1 _ _ (.int .i64 ((p : Int) + 1)) h1
  have e2 := heap_setCell_same _ g 2 _ _ (.int .u64 (IntKind.u64.wrap X)) e1
  have hg : w.grownBy ((((w.drewN a).setCell ⟨g, 1, none⟩ (.int .i64 ((p : Int) + 1))).setCell ⟨g, 2, none⟩ (.int .u64 (IntKind.u64.wrap X))).drewN b) (some g) := by
    refine ⟨rfl, rfl, rfl, by simp [World.setCell, World.drewN], fun i _ hne => ?_⟩
    have hi : i ≠ g := fun e => hne (by rw [e])
    show ((((w.drewN a).setCell ⟨g, 1, none⟩ _).setCell ⟨g, 2, none⟩ _)).heap[i]? = _
    rw [Below.heap_setCell _ _ _ _ hi, Below.heap_setCell _ _ _ _ hi]
    rfl
  refine ⟨⟨c0, p + 1, (IntKind.u64.wrap X).toNat, ?_, ?_, by omega, by omega, h5⟩, hg⟩
  · rw [Int.toNat_of_nonneg hh.1]
    exact e2
  · refine h2.keep fun q hq => World.cell?_of_block ?_
    have hlt : g < w.heap.size := (Array.getElem?_eq_some_iff.1 h1).1
    exact hg.block q.block (by omega) (fun e => by injection e with e; omega)

theorem and255 (X : Int) (h0 : 0 ≤ X) (h1 : X < 18446744073709551616) : 0 ≤ wrap64 (bits .and .u64 X 255) ∧ wrap64 (bits .and .u64 X 255) ≤ 255 := by
  rw [u64_and X 255 h0 h1 (by omega) (by omega)]
  have h := Nat.and_le_right (n := X.toNat) (m := (255 : Int).toNat)
  have h' : (255 : Int).toNat = 255 := rfl
  rw [IntWalk.wrap64_in _ ⟨by omega, by omega⟩]
  omega

set_option maxRecDepth 100000 in
set_option maxHeartbeats 800000 in
theorem next_any (B g k : Nat) (bs : List UInt8) (w : World) (h : SrcAt w B g k bs) (hk : k < 4611686018427387904) :
    Calls Try.prog 94 #[.pointer (some ⟨g, 0, none⟩)] w (Drawn w B g (k + 1) bs fun x => 0 ≤ x ∧ x ≤ 255) := by
  obtain ⟨cv, p, s, h1, hRd, h3, h4, h5⟩ := h
  have hRd' := hRd
  obtain ⟨_, A, c, rfl, h2⟩ := hRd'
  have hRd := Lib.hid hRd
  obtain ⟨hc0, hc1, hc2, hfz⟩ := src_cells h1
  have hf1 := hfz 1
  have hf2 := hfz 2
  clear hfz
  have H1 := Lib.hid h1; clear h1
  have H2 := Lib.hid h2; clear h2
  by_cases hlt : p < bs.length
  · obtain ⟨b1, o1, rfl, hb1, hcc⟩ := H2.out (by omega)
    have hx := hcc p (byV bs[p]) (by simp [hlt])
    have hne : b1 ≠ g := by omega
    have hlt' : (p : Int) < (bs.length : Int) := by omega
    clear hcc
    unfold byV at hx
    have hx8 := bs[p].toNat_lt
    generalize bs[p].toNat = x at *
    have hxb : (x : Int) < 256 := by omega
    have hxi : (0 : Int) ≤ (x : Int) := by omega
    clear hx8
    have hwx : IntKind.i64.wrap (x : Int) = x := IntWalk.i64_in _ (by omega)
    go_enter Try.func94, Try.ntmps94
    go_wp2_with fail
    go_quiet (fail)
    go_wp2_with fail
    go_quiet (fail)
    clear hwx
    go_wp2_with fail
    go_quiet (fail)
    go_wp2_with fail
    go_ret
    have hs := src_step H1.out (hRd.out) h3 h5
    exact ⟨_, rfl, ⟨by omega, by omega⟩, (hs _ _ _).1, (hs _ _ _).2⟩
  · have hge : (bs.length : Int) ≤ (p : Int) := by omega
    go_enter Try.func94, Try.ntmps94
    go_wp2_with fail
    go_quiet (fail)
    go_wp2_with fail
    go_quiet (fail)
    go_wp2_with fail
    go_ret
    have hs := src_step H1.out (hRd.out) h3 h5
    exact ⟨_, rfl, and255 _ (by have := u64_bd (IntKind.u64.wrap (IntKind.u64.wrap ((s : Int) * 6364136223846793005)) + 1442695040888963407); omega) (by have := u64_bd (IntKind.u64.wrap (IntKind.u64.wrap ((s : Int) * 6364136223846793005)) + 1442695040888963407); omega), (hs _ _ _).1, (hs _ _ _).2⟩
/-- a draw: a bool is handed back -/
def DrawnB (w : World) (B g k : Nat) (bs : List UInt8) (e : Ending) (w' : World) : Prop :=
  ∃ x : Bool, e = .returned (.bool x) ∧ SrcAt w' B g k bs ∧ w.grownBy w' (some g)

set_option maxRecDepth 100000 in
set_option maxHeartbeats 800000 in
theorem pick_any (B g k : Nat) (bs : List UInt8) (n : Int) (w : World) (h : SrcAt w B g k bs) (hk : k < 4611686018427387900) :
    Calls Try.prog 48 #[.pointer (some ⟨g, 0, none⟩), .int .i64 n] w (Drawn w B g (k + 2) bs fun x => 0 ≤ x ∧ (2 ≤ n → x < n) ∧ (n ≤ 1 → x = 0)) := by
  by_cases h1 : n ≤ 1
  · have hg0 : w.grownBy w (some g) := ⟨rfl, rfl, rfl, Nat.le_refl _, fun _ _ _ => rfl⟩
    have H := Lib.hid h; clear h
    go_enter Try.func48, Try.ntmps48
    go_wp2_with fail
    go_ret
    exact ⟨0, rfl, ⟨by omega, by omega, by omega⟩, H.out.more (by omega), hg0⟩
  · by_cases h2 : n ≤ 200
    · have H := Lib.hid h; clear h
      go_enter Try.func48, Try.ntmps48
      go_wp2_with fail
      refine (next_any B g k bs _ H.out (by omega)).mono ?_; rintro e w1 ⟨x, rfl, ⟨hx0, hx1⟩, hs1, hg1⟩
      have Hs1 := Lib.hid hs1; clear hs1
      go_wp2_with fail
      go_ret
      have := Int.emod_nonneg x (by omega : n ≠ 0)
      have := Int.emod_lt_of_pos x (by omega : 0 < n)
      exact ⟨_, rfl, ⟨by omega, by omega, by omega⟩, Hs1.out.more (by omega), hg1⟩
    · have H := Lib.hid h; clear h
      go_enter Try.func48, Try.ntmps48
      go_wp2_with fail
      refine (next_any B g k bs _ H.out (by omega)).mono ?_; rintro e w1 ⟨x, rfl, ⟨hx0, hx1⟩, hs1, hg1⟩
      have Hs1 := Lib.hid hs1; clear hs1
      go_wp2_with fail
      refine (next_any B g (k + 1) bs _ Hs1.out (by omega)).mono ?_; rintro e w2 ⟨y, rfl, ⟨hy0, hy1⟩, hs2, hg2⟩
      have Hs2 := Lib.hid hs2; clear hs2
      have hg := grown_trans hg1 hg2
      go_wp2_with fail
      go_ret
      have := Int.emod_nonneg (x * 256 + y) (by omega : n ≠ 0)
      have := Int.emod_lt_of_pos (x * 256 + y) (by omega : 0 < n)
      exact ⟨_, rfl, ⟨by omega, by omega, by omega⟩, Hs2.out, hg⟩

set_option maxHeartbeats 400000 in
theorem l00From_any (B : Nat) (cv : Value) (bs : List UInt8) (w : World) (h : Rd w B cv bs.length 1 (bs.map byV)) (hB : B ≤ w.heap.size) :
    Calls Try.prog 46 #[cv] w fun e w' => e = .returned (.pointer (some ⟨w.heap.size, 0, none⟩)) ∧ SrcAt w' B w.heap.size 0 bs ∧ Below w.heap.size w w' ∧ w.heap.size < w'.heap.size := by
  have hb := (Below.refl w.heap.size w).alloc (Nat.le_refl _)
  have hs : ∀ t, SrcAt (w.alloc (.cells #[cv, .int .i64 0, .int .u64 0] t)) B w.heap.size 0 bs ∨ t ≠ 112 := fun t => by
    by_cases ht : t = 112
    · subst ht
      exact .inl ⟨cv, 0, 0, heap_alloc_new w _, h.below ((hb _).mono hB), Nat.le_refl _, by omega, hB⟩
    · exact .inr ht
  obtain ⟨_, A, c, rfl, h2⟩ := h
  clear h2
  have Hs := Lib.hid hs; clear hs
  go_enter Try.func46, Try.ntmps46
  go_wp2_with fail
  go_ret
  exact ⟨rfl, (Hs.out _).resolve_right (by simp), hb _, by simp⟩

end Go.Proofs.Ytmheijnckmlbnaa
/- The draw 'one'. -/
namespace Go.Proofs.Ytmheijnckmlbnaa
open Go.RowKit Go.Joins

set_option maxHeartbeats 400000 in
theorem one_any (B g k : Nat) (bs : List UInt8) (n : Int) (w : World) (h : SrcAt w B g k bs) (hk : k < 4611686018427387900) :
    Calls Try.prog 78 #[.pointer (some ⟨g, 0, none⟩), .int .i64 n] w (DrawnB w B g (k + 2) bs) := by
  have H := Lib.hid h; clear h
  go_enter Try.func78, Try.ntmps78
  go_wp2_with fail
  refine (pick_any B g k bs n _ H.out (by omega)).mono ?_; rintro e w1 ⟨x, rfl, _, hs1, hg1⟩
  have Hs1 := Lib.hid hs1; clear hs1
  go_wp2_with fail
  go_ret
  exact ⟨_, rfl, Hs1.out, hg1⟩

end Go.Proofs.Ytmheijnckmlbnaa
/- Draws: a row of the call's own that grows while numbers are drawn; a text is spoilt (l01Spoil). -/
namespace Go.Proofs.Ytmheijnckmlbnaa
open Go.RowKit Go.Joins

/-- in the world w, reached from W: the source g has done at most k draws, v is a row of the call's own, and of what was there only the source has turned -/
structure DrR (W w : World) (B g k : Nat) (bs : List UInt8) (e : TypeId) (sz : Nat) (v : Value) (n : Nat) (cs : List Value) : Prop where
  lt : g < W.heap.size
  src : SrcAt w B g k bs
  row : w.ownsRow W.heap.size e sz v n cs
  gr : W.grownBy w (some g)
theorem DrR.draw {W w w' : World} {B g k k' : Nat} {bs : List UInt8} {e : TypeId} {sz n : Nat} {v : Value} {cs : List Value} (h : DrR W w B g k bs e sz v n cs) (hs : SrcAt w' B g k' bs) (hg : w.grownBy w' (some g)) : DrR W w' B g k' bs e sz v n cs :=
  ⟨h.lt, hs, h.row.kept hg (by
    cases hv : v.ownBlock with
    | none => exact .inl rfl
    | some x => exact .inr fun e => by have := (h.row.lt x hv).1; have := h.lt; injection e; omega), grown_trans h.gr hg⟩
theorem DrR.below {W w w' : World} {B g k : Nat} {bs : List UInt8} {e : TypeId} {sz n : Nat} {v : Value} {cs : List Value} (h : DrR W w B g k bs e sz v n cs) (hb : Below w.heap.size w w') : DrR W w' B g k bs e sz v n cs :=
  ⟨h.lt, h.src.below hb, own_below h.row hb, grown_below h.gr hb⟩
theorem DrR.more {W w : World} {B g k k' : Nat} {bs : List UInt8} {e : TypeId} {sz n : Nat} {v : Value} {cs : List Value} (h : DrR W w B g k bs e sz v n cs) (hk : k ≤ k') : DrR W w B g k' bs e sz v n cs :=
  ⟨h.lt, h.src.more hk, h.row, h.gr⟩
theorem grownBy_row {W w w' : World} {g : Nat} {ob : Option Nat} (h : W.grownBy w (some g)) (hg : w.grownBy w' ob) (ho : ∀ x, ob = some x → W.heap.size ≤ x) : W.grownBy w' (some g) :=
  ⟨hg.os.trans h.os, hg.tape.trans h.tape, hg.output.trans h.output, Nat.le_trans h.size hg.size, fun i hi hne => (hg.block i (Nat.lt_of_lt_of_le hi h.size) (fun e => by have := ho i e.symm; omega)).trans (h.block i hi hne)⟩
theorem DrR.app {W w w' : World} {B g k : Nat} {bs : List UInt8} {e : TypeId} {sz n n' : Nat} {v v' : Value} {cs cs' : List Value} (h : DrR W w B g k bs e sz v n cs) (hr : w'.ownsRow W.heap.size e sz v' n' cs') (hg : w.grownBy w' v.ownBlock) : DrR W w' B g k bs e sz v' n' cs' :=
  ⟨h.lt, h.src.grown hg (fun x hx => Nat.lt_of_lt_of_le h.lt (h.row.lt x hx).1), hr, grownBy_row h.gr hg (fun x hx => (h.row.lt x hx).1)⟩
theorem DrR.drewN {W w : World} {B g k : Nat} {bs : List UInt8} {e : TypeId} {sz n : Nat} {v : Value} {cs : List Value} (h : DrR W w B g k bs e sz v n cs) (m : Nat) : DrR W (w.drewN m) B g k bs e sz v n cs :=
  ⟨h.lt, h.src.drewN m, h.row.drewN m, grown_below h.gr (below_drewN (Below.refl _ _) m)⟩
theorem DrR.size {W w : World} {B g k : Nat} {bs : List UInt8} {e : TypeId} {sz n : Nat} {v : Value} {cs : List Value} (h : DrR W w B g k bs e sz v n cs) : W.heap.size ≤ w.heap.size := h.gr.size
theorem DrR.nil {W : World} {B g k : Nat} {bs : List UInt8} (h : SrcAt W B g k bs) (e : TypeId) (sz : Nat) : DrR W W B g k bs e sz (.slice none 0 0) 0 [] :=
  ⟨h.lt, h, ⟨by simp, .inl ⟨rfl, rfl⟩⟩, ⟨rfl, rfl, rfl, Nat.le_refl _, fun _ _ _ => rfl⟩⟩
theorem DrR.made {W : World} {B g k : Nat} {bs : List UInt8} (h : SrcAt W B g k bs) (e : TypeId) (sz : Nat) : DrR W (W.alloc (.cells #[] e)) B g k bs e sz (.slice (some ⟨W.heap.size, 0, none⟩) 0 0) 0 [] :=
  have hb := (Below.refl W.heap.size W).alloc (Nat.le_refl _) (.cells #[] e)
  ⟨h.lt, h.below hb, World.ownsRow_made (base := W.heap.size) (e := e) (size := sz) W #[] 0 (Nat.le_refl _) (by simp [maxLen]) (by simp), grown_of_below hb _⟩
/-- what a later call sees: the row's owner has gone on -/
theorem DrR.from {W W' w : World} {B g k : Nat} {bs : List UInt8} {e : TypeId} {sz n : Nat} {v : Value} {cs : List Value} (h : DrR W' w B g k bs e sz v n cs) (hg : W.grownBy W' (some g)) (hl : g < W.heap.size) : DrR W w B g k bs e sz v n cs :=
  ⟨hl, h.src, ownsRow_le h.row hg.size, grown_trans hg h.gr⟩

set_option maxRecDepth 100000 in
set_option maxHeartbeats 400000 in
theorem text_in (B g k b m : Nat) (l : List ByteArray) (bs : List UInt8) (w : World) (h : SrcAt w B g k bs) (hk : k < 4611686018427387800) (hm : l.length = m) (hm2 : 2 ≤ m) (hm3 : m ≤ 200) (hb : b ≠ g) (hbl : b < w.heap.size)
    (hc : ∀ i (hi : i < l.length), w.cell? ⟨b, i, none⟩ = some (.string l[i])) :
    Calls Try.prog 59 #[.pointer (some ⟨g, 0, none⟩), .slice (some ⟨b, 0, none⟩) m m] w fun e w' => ∃ z, z ∈ l ∧ e = .returned (.string z) ∧ SrcAt w' B g (k + 2) bs ∧ w.grownBy w' (some g) := by
  have H := Lib.hid h; clear h
  have Hc := Lib.hid hc; clear hc
  have hm4 : (m : Int) ≤ 200 := by omega
  go_enter Try.func59, Try.ntmps59
  go_wp2_with fail
  refine (pick_any B g k bs m _ H.out (by omega)).mono ?_; rintro e w1 ⟨x, rfl, ⟨hx0, hx1, _⟩, hs1, hg1⟩
  have Hs1 := Lib.hid hs1; clear hs1
  obtain ⟨i, rfl⟩ : ∃ i : Nat, x = i := ⟨x.toNat, by omega⟩
  have hx2 := hx1 (by omega)
  have hi : i < l.length := by omega
  have hcell := (World.cell?_of_block (a := ⟨b, i, none⟩) (hg1.block b hbl (fun e => hb (by injection e)))).trans (Hc.out i hi)
  have hmem := Lib.hid (List.getElem_mem hi)
  generalize l[i] = z at *
  clear hx1
  go_wp2_with fail
  go_ret
  exact ⟨z, hmem.out, rfl, Hs1.out, hg1⟩
theorem alloc_strs (w : World) (l : List ByteArray) (t : TypeId) : ∀ i (hi : i < l.length), (w.alloc (.cells (l.map Value.string).toArray t)).cell? ⟨w.heap.size, i, none⟩ = some (.string l[i]) := fun i hi => by
  have := new_cells w (l.map Value.string).toArray t i (.string l[i]) (by simp [hi])
  rwa [show (⟨w.heap.size, 0, none⟩ : Addr).add i = ⟨w.heap.size, i, none⟩ by unfold Addr.add; split <;> simp_all] at this
/-- .. from texts just laid out, in a region that draws its order -/
theorem text_new (B g k m : Nat) (l : List ByteArray) (bs : List UInt8) (w : World) (h : SrcAt w B g k bs) (hk : k < 4611686018427387800) (hm : l.length = m) (hm2 : 2 ≤ m) (hm3 : m ≤ 200) :
    Calls Try.prog 59 #[.pointer (some ⟨g, 0, none⟩), .slice (some ⟨w.heap.size, 0, none⟩) m m] (w.alloc (.cells (l.map Value.string).toArray 9)) fun e w' => ∃ z, z ∈ l ∧ e = .returned (.string z) ∧ SrcAt w' B g (k + 2) bs ∧ w.grownBy w' (some g) := by
  have hlt := h.lt
  refine (text_in B g k w.heap.size m l bs _ (h.below ((Below.refl w.heap.size w).alloc (Nat.le_refl _) _)) hk hm hm2 hm3 (by omega) (by simp) (alloc_strs w l _)).mono ?_
  rintro e w' ⟨z, h1, h2, h3, h4⟩
  exact ⟨z, h1, h2, h3, grown_from_alloc h4⟩
theorem text_newd (B g k m : Nat) (l : List ByteArray) (bs : List UInt8) (w : World) (h : SrcAt w B g k bs) (hk : k < 4611686018427387800) (hm : l.length = m) (hm2 : 2 ≤ m) (hm3 : m ≤ 200) :
    Calls Try.prog 59 #[.pointer (some ⟨g, 0, none⟩), .slice (some ⟨w.heap.size, 0, none⟩) m m] (w.alloc (.cells (l.map Value.string).toArray 9)).drew fun e w' => ∃ z, z ∈ l ∧ e = .returned (.string z) ∧ SrcAt w' B g (k + 2) bs ∧ w.grownBy w' (some g) := by
  have hlt := h.lt
  refine (text_in B g k w.heap.size m l bs _ (SrcAt.drew (h.below ((Below.refl w.heap.size w).alloc (Nat.le_refl _) _))) hk hm hm2 hm3 (by omega) (by simp) (fun i hi => alloc_strs w l 9 i hi)).mono ?_
  rintro e w' ⟨z, h1, h2, h3, h4⟩
  exact ⟨z, h1, h2, h3, grown_from_alloc (grown_undrew h4)⟩

theorem ne_some0 {s : ByteArray} (h : 0 < s.size) : s.toList.isEmpty = false := by
  rw [ByteArray.toList_eq, List.isEmpty_eq_false_iff]
  intro e
  have h1 : s.data.toList.length = s.size := by simp
  rw [e] at h1
  simp at h1; omega
theorem ne_none0 {s : ByteArray} (h : s.size = 0) : s.toList.isEmpty = true := by
  rw [ByteArray.toList_eq, List.isEmpty_iff]
  exact List.eq_nil_of_length_eq_zero (by simpa using h)
def spoilL : List ByteArray := [⟨#[32]⟩, ⟨#[48]⟩, ⟨#[45]⟩, ⟨#[120]⟩, ⟨#[49]⟩, ⟨#[57]⟩, ⟨#[46]⟩]
theorem spoilL_one : ∀ z ∈ spoilL, z.size = 1 := by decide
def RetSp (w : World) (B g k : Nat) (bs : List UInt8) (n : Nat) (e : Ending) (w' : World) : Prop := ∃ z : ByteArray, e = .returned (.string z) ∧ z.size ≤ n ∧ SrcAt w' B g k bs ∧ w.grownBy w' (some g)

end Go.Proofs.Ytmheijnckmlbnaa
/- Draws: one of some numbers is drawn. -/
namespace Go.Proofs.Ytmheijnckmlbnaa
open Go.RowKit Go.Joins

set_option maxHeartbeats 400000 in
theorem among_in (B g k m : Nat) (l : List Int) (bs : List UInt8) (w : World) (h : SrcAt w B g k bs) (hk : k < 4611686018427387800) (hm : l.length = m) (hm2 : 2 ≤ m) (hm3 : m ≤ 200) :
    Calls Try.prog 49 #[.pointer (some ⟨g, 0, none⟩), .slice (some ⟨w.heap.size, 0, none⟩) m m] (w.alloc (.cells (l.map (Value.int .i64)).toArray 2)) fun e w' => ∃ x : Int, x ∈ l ∧ e = .returned (.int .i64 x) ∧ SrcAt w' B g (k + 2) bs ∧ w.grownBy w' (some g) := by
  have hlt := h.lt
  have hbk := (Below.refl w.heap.size w).alloc (Nat.le_refl _) (.cells (l.map (Value.int .i64)).toArray 2)
  have hnc : ∀ i (hi : i < l.length), (w.alloc (.cells (l.map (Value.int .i64)).toArray 2)).cell? ⟨w.heap.size, i, none⟩ = some (.int .i64 l[i]) := fun i hi => by
    have := new_cells w (l.map (Value.int .i64)).toArray 2 i (.int .i64 l[i]) (by simp [hi])
    rwa [show (⟨w.heap.size, 0, none⟩ : Addr).add i = ⟨w.heap.size, i, none⟩ by unfold Addr.add; split <;> simp_all] at this
  have H := Lib.hid (h.below hbk); clear h
  have Hc := Lib.hid hnc; clear hnc
  have Hg := Lib.hid (fun w' (h : (w.alloc (.cells (l.map (Value.int .i64)).toArray 2)).grownBy w' (some g)) => grown_from_alloc h)
  have hsz : w.heap.size < (w.alloc (.cells (l.map (Value.int .i64)).toArray 2)).heap.size := by simp
  have hm4 : (m : Int) ≤ 200 := by omega
  clear hbk
  generalize w.alloc (.cells (l.map (Value.int .i64)).toArray 2) = wl at *
  go_enter Try.func49, Try.ntmps49
  go_wp2_with fail
  refine (pick_any B g k bs m _ H.out (by omega)).mono ?_; rintro e w1 ⟨x, rfl, ⟨hx0, hx1, _⟩, hs1, hg1⟩
  have Hs1 := Lib.hid hs1; clear hs1
  obtain ⟨i, rfl⟩ : ∃ i : Nat, x = i := ⟨x.toNat, by omega⟩
  have hx2 := hx1 (by omega)
  have hi : i < l.length := by omega
  have hcell := (World.cell?_of_block (a := ⟨w.heap.size, i, none⟩) (hg1.block w.heap.size hsz (fun e => by injection e; omega))).trans (Hc.out i hi)
  have hg2 := Hg.out _ hg1
  have hin := Lib.hid (show l[i] ∈ l from List.getElem_mem hi)
  generalize l[i] = z at *
  clear hx1 hg1
  go_wp2_with fail
  go_ret
  exact ⟨z, hin.out, rfl, Hs1.out, hg2⟩
end Go.Proofs.Ytmheijnckmlbnaa
/- Blocks of four cells. -/
namespace Go.Proofs.Ytmheijnckmlbnaa
open Go.RowKit Go.Joins

abbrev put4 (w : World) (g : Nat) (a b c d : Value) : World := (((w.setCell ⟨g, 0, none⟩ a).setCell ⟨g, 1, none⟩ b).setCell ⟨g, 2, none⟩ c).setCell ⟨g, 3, none⟩ d
theorem blk4 {w : World} {g : Nat} {a b c d : Value} {t : TypeId} (h : w.heap[g]? = some (.cells #[a, b, c, d] t (0, 0))) :
    (w.cell? ⟨g, 0, none⟩ = some a ∧ w.cell? ⟨g, 1, none⟩ = some b ∧ w.cell? ⟨g, 2, none⟩ = some c ∧ w.cell? ⟨g, 3, none⟩ = some d) ∧
    (w.frozen? ⟨g, 0, none⟩ = false ∧ w.frozen? ⟨g, 1, none⟩ = false ∧ w.frozen? ⟨g, 2, none⟩ = false ∧ w.frozen? ⟨g, 3, none⟩ = false) :=
  ⟨four_at h, frozen_of_row w g 0 _ _ h, frozen_of_row w g 1 _ _ h, frozen_of_row w g 2 _ _ h, frozen_of_row w g 3 _ _ h⟩
/-- a result of four fields in a block of its own: ahead of the store -/
theorem res4_pre {w w2 : World} {x y z u : Value} {t : TypeId} (h : Below (w.alloc (.cells #[x, y, z, u] t)).heap.size (w.alloc (.cells #[x, y, z, u] t)) w2) :
    (w2.cell? ⟨w.heap.size, 0, none⟩ = some x ∧ w2.cell? ⟨w.heap.size, 1, none⟩ = some y ∧ w2.cell? ⟨w.heap.size, 2, none⟩ = some z ∧ w2.cell? ⟨w.heap.size, 3, none⟩ = some u) ∧
    (w2.frozen? ⟨w.heap.size, 0, none⟩ = false ∧ w2.frozen? ⟨w.heap.size, 1, none⟩ = false ∧ w2.frozen? ⟨w.heap.size, 2, none⟩ = false ∧ w2.frozen? ⟨w.heap.size, 3, none⟩ = false) :=
  blk4 ((h.block w.heap.size (by simp)).trans (heap_alloc_new w _))
/-- .. and behind it -/
theorem res4_post {w w2 : World} {x y z u : Value} {t : TypeId} (h : Below (w.alloc (.cells #[x, y, z, u] t)).heap.size (w.alloc (.cells #[x, y, z, u] t)) w2) (a b c d : Value) :
    ((put4 w2 w.heap.size a b c d).cell? ⟨w.heap.size, 0, none⟩ = some a ∧ (put4 w2 w.heap.size a b c d).cell? ⟨w.heap.size, 1, none⟩ = some b ∧ (put4 w2 w.heap.size a b c d).cell? ⟨w.heap.size, 2, none⟩ = some c ∧ (put4 w2 w.heap.size a b c d).cell? ⟨w.heap.size, 3, none⟩ = some d) ∧
    Below w.heap.size w (put4 w2 w.heap.size a b c d) := by
  have g := heap_setCell_same _ w.heap.size 3 _ _ d (heap_setCell_same _ w.heap.size 2 _ _ c (heap_setCell_same _ w.heap.size 1 _ _ b (heap_setCell_same w2 w.heap.size 0 _ _ a ((h.block w.heap.size (by simp)).trans (heap_alloc_new w _)))))
  refine ⟨(blk4 g).1, ?_⟩
  have h0 : Below w.heap.size w w2 := ((Below.refl w.heap.size w).alloc (Nat.le_refl _) _).trans (h.mono (by simp))
  exact (((h0.setCell (p := ⟨w.heap.size, 0, none⟩) (Nat.le_refl _) a).setCell (p := ⟨w.heap.size, 1, none⟩) (Nat.le_refl _) b).setCell (p := ⟨w.heap.size, 2, none⟩) (Nat.le_refl _) c).setCell (p := ⟨w.heap.size, 3, none⟩) (Nat.le_refl _) d
end Go.Proofs.Ytmheijnckmlbnaa
/- Loans that are drawn: l23Exhibit, l23New. -/
namespace Go.Proofs.Ytmheijnckmlbnaa
open Go.RowKit Go.Joins

def exhL : List ByteArray := [⟨#[97, 98, 97, 99, 117, 115]⟩, ⟨#[101, 110, 103, 105, 110, 101]⟩, ⟨#[97, 114, 105, 116, 104]⟩, ⟨#[114, 111, 100, 45, 49]⟩]
theorem exhL_sz : ∀ z ∈ exhL, z.size ≤ 7 := by decide
def whoL : List ByteArray := [⟨#[112, 97, 114, 105, 115]⟩, ⟨#[108, 111, 110, 100, 111, 110]⟩, ⟨#[98, 111, 110, 110]⟩]
theorem whoL_sz : ∀ z ∈ whoL, z.size ≤ 7 := by decide
def oddL : List ByteArray := [⟨#[]⟩, ⟨#[65, 98, 97, 99, 117, 115]⟩]
theorem oddL_sz : ∀ z ∈ oddL, z.size ≤ 7 := by decide
set_option maxRecDepth 100000 in
set_option maxHeartbeats 400000 in
theorem exhibit_any (B g k : Nat) (bs : List UInt8) (w : World) (hs : SrcAt w B g k bs) (hk : k < 4611686018427380000) :
    Calls Try.prog 93 #[.pointer (some ⟨g, 0, none⟩)] w fun e w' => ∃ z : ByteArray, e = .returned (.string z) ∧ z.size ≤ 7 ∧ SrcAt w' B g (k + 2) bs ∧ w.grownBy w' (some g) := by
  have H := Lib.hid hs; clear hs
  go_enter Try.func93, Try.ntmps93
  go_wp2_with fail
  refine (text_new B g k 4 exhL bs w H.out (by omega) rfl (by omega) (by omega)).mono ?_; rintro e w1 ⟨z, hz, rfl, hs1, hg1⟩
  have hz7 := exhL_sz z hz
  have Hs1 := Lib.hid hs1
  have Hg1 := Lib.hid hg1
  clear hz hs1 hg1
  go_wp2_with fail
  go_ret
  exact ⟨z, rfl, hz7, Hs1.out, Hg1.out⟩

/-- a loan under way: the result's block is fresh, the loan lies in block q -/
structure NwL (W w : World) (B g k : Nat) (bs : List UInt8) (q : Nat) (a b : Value) (f t : Value) : Prop where
  lt : g < W.heap.size
  src : SrcAt w B g k bs
  gr : W.grownBy w (some g)
  hr : w.heap[W.heap.size]? = some (.cells #[.string ⟨#[]⟩, .string ⟨#[]⟩, .int .i64 0, .int .i64 0] 40 (0, 0))
  hq : w.heap[q]? = some (.cells #[a, b, f, t] 40 (0, 0))
  rq : W.heap.size < q
theorem NwL.draw {W w w' : World} {B g k k' q : Nat} {bs : List UInt8} {a b f t : Value} (h : NwL W w B g k bs q a b f t) (hs : SrcAt w' B g k' bs) (hg : w.grownBy w' (some g)) : NwL W w' B g k' bs q a b f t :=
  have hq := (Array.getElem?_eq_some_iff.1 h.hq).1
  ⟨h.lt, hs, grown_trans h.gr hg, (hg.block _ (by have := h.rq; omega) (fun e => by have := h.lt; injection e; omega)).trans h.hr, (hg.block q hq (fun e => by have := h.lt; have := h.rq; injection e; omega)).trans h.hq, h.rq⟩
theorem NwL.set {W w : World} {B g k q : Nat} {bs : List UInt8} {a b f t : Value} (h : NwL W w B g k bs q a b f t) (i : Nat) (u : Value) {cs : Array Value} (hc : (#[a, b, f, t] : Array Value).setIfInBounds i u = cs) {a' b' f' t' : Value} (he : cs = #[a', b', f', t']) : NwL W (w.setCell ⟨q, i, none⟩ u) B g k bs q a' b' f' t' := by
  have h1 := heap_setCell_same w q i _ _ u h.hq
  rw [hc, he] at h1
  have hg : w.grownBy (w.setCell ⟨q, i, none⟩ u) (some q) := grown_setCell (a := w) (p := ⟨q, i, none⟩) ⟨rfl, rfl, rfl, Nat.le_refl _, fun _ _ _ => rfl⟩ (.inl rfl) u
  exact ⟨h.lt, h.src.grown hg (fun x hx => by cases hx; exact Nat.lt_trans h.lt h.rq), grownBy_row h.gr hg (fun x hx => by cases hx; exact Nat.le_of_lt h.rq), (Below.heap_setCell _ _ _ _ (Nat.ne_of_lt h.rq)).trans h.hr, h1, h.rq⟩
theorem NwL.done {W w : World} {B g k q : Nat} {bs : List UInt8} {a b f t : Value} (h : NwL W w B g k bs q a b f t) (a' b' f' t' : Value) :
    ((put4 w W.heap.size a' b' f' t').cell? ⟨W.heap.size, 0, none⟩ = some a' ∧ (put4 w W.heap.size a' b' f' t').cell? ⟨W.heap.size, 1, none⟩ = some b' ∧ (put4 w W.heap.size a' b' f' t').cell? ⟨W.heap.size, 2, none⟩ = some f' ∧ (put4 w W.heap.size a' b' f' t').cell? ⟨W.heap.size, 3, none⟩ = some t') ∧
    SrcAt (put4 w W.heap.size a' b' f' t') B g k bs ∧ W.grownBy (put4 w W.heap.size a' b' f' t') (some g) := by
  have g4 := heap_setCell_same _ W.heap.size 3 _ _ t' (heap_setCell_same _ W.heap.size 2 _ _ f' (heap_setCell_same _ W.heap.size 1 _ _ b' (heap_setCell_same w W.heap.size 0 _ _ a' h.hr)))
  have g0 : w.grownBy w (some W.heap.size) := ⟨rfl, rfl, rfl, Nat.le_refl _, fun _ _ _ => rfl⟩
  have hg : w.grownBy (put4 w W.heap.size a' b' f' t') (some W.heap.size) := grown_setCell (grown_setCell (grown_setCell (grown_setCell g0 (p := ⟨W.heap.size, 0, none⟩) (.inl rfl) a') (p := ⟨W.heap.size, 1, none⟩) (.inl rfl) b') (p := ⟨W.heap.size, 2, none⟩) (.inl rfl) f') (p := ⟨W.heap.size, 3, none⟩) (.inl rfl) t'
  exact ⟨(blk4 g4).1, h.src.grown hg (fun x hx => by cases hx; exact h.lt), grownBy_row h.gr hg (fun x hx => by cases hx; exact Nat.le_refl _)⟩
def RetNw (w : World) (B g k : Nat) (bs : List UInt8) (e : Ending) (w' : World) : Prop := ∃ x : Ln, e = .returned (aggL x) ∧ x.what.size ≤ 7 ∧ x.who.size ≤ 7 ∧ SrcAt w' B g k bs ∧ w.grownBy w' (some g)

set_option maxRecDepth 100000 in
set_option maxHeartbeats 3200000 in
theorem l23New_any (B g k : Nat) (bs : List UInt8) (w : World) (hs : SrcAt w B g k bs) (hk : k < 4611686018427380000) :
    Calls Try.prog 99 #[.pointer (some ⟨g, 0, none⟩)] w (RetNw w B g (k + 12) bs) := by
  have hlt := hs.lt
  have hb0 := (Below.refl w.heap.size w).alloc (Nat.le_refl _) (.cells #[.string ⟨#[]⟩, .string ⟨#[]⟩, .int .i64 0, .int .i64 0] 40)
  have H0 := Lib.hid (hs.below hb0)
  have Hr0 := Lib.hid (heap_alloc_new w (.cells #[.string ⟨#[]⟩, .string ⟨#[]⟩, .int .i64 0, .int .i64 0] 40))
  have Hg0 := Lib.hid (grown_of_below hb0 (some g))
  clear hs hb0
  go_enter Try.func99, Try.ntmps99
  go_wp2_with fail
  refine (exhibit_any B g k bs _ H0.out hk).mono ?_; rintro e w1 ⟨a, rfl, ha, hs1, hg1⟩
  have Hs1 := Lib.hid hs1
  have Hg1 := Lib.hid (grown_trans Hg0.out hg1)
  have Hr1 := Lib.hid ((hg1.block w.heap.size (by simp) (fun e => by injection e; omega)).trans Hr0.out)
  have hz1 : w.heap.size < w1.heap.size := (Array.getElem?_eq_some_iff.1 Hr1.out).1
  clear hs1 hg1 H0 Hr0 Hg0
  go_wp2_with fail
  refine (text_new B g _ 3 whoL bs w1 Hs1.out (by omega) rfl (by omega) (by omega)).mono ?_; rintro e w2 ⟨b, hb, rfl, hs2, hg2⟩
  have hb7 := whoL_sz b hb
  have Hs2 := Lib.hid hs2
  have Hg2 := Lib.hid (grown_trans Hg1.out hg2)
  have Hr2 := Lib.hid ((hg2.block w.heap.size hz1 (fun e => by injection e; omega)).trans Hr1.out)
  have hz2 := hg2.size
  clear hs2 hg2 Hs1 Hr1 Hg1 hb
  go_wp2_with fail
  refine (pick_any B g _ bs 60 w2 Hs2.out (by omega)).mono ?_; rintro e w3 ⟨f, rfl, ⟨hf0, hf1, _⟩, hs3, hg3⟩
  have hf60 := hf1 (by omega)
  have hz3 := hg3.size
  have hbw := (Below.refl w3.heap.size w3).alloc (Nat.le_refl _) (.cells #[.string a, .string b, .int .i64 f, .int .i64 0] 40)
  have HN4 := Lib.hid (show NwL w (w3.alloc (.cells #[.string a, .string b, .int .i64 f, .int .i64 0] 40)) B g (k + 2 + 2 + 2) bs w3.heap.size (.string a) (.string b) (.int .i64 f) (.int .i64 0) from
    ⟨hlt, hs3.below hbw, grown_below (grown_trans Hg2.out hg3) hbw, (hbw.block _ (by omega)).trans ((hg3.block w.heap.size (by omega) (fun e => by injection e; omega)).trans Hr2.out), heap_alloc_new w3 _, by omega⟩)
  clear hs3 hg3 Hs2 Hr2 Hg2 hf1 hbw
  go_upto_region 2 with (fail)
  generalize hq : w3.heap.size = q at *
  generalize w3.alloc (.cells #[.string a, .string b, .int .i64 f, .int .i64 0] 40) = w4 at *
  clear hq hz1 hz2 hz3
  obtain ⟨⟨_, _, q2, _⟩, _, _, _, f3⟩ := blk4 HN4.out.hq
  have HP := Lib.hid (pick_any B g _ bs 12 w4.drew (SrcAt.drew HN4.out.src) (by omega))
  refine wp_region_noPanic ?_
  refine wp_region_L [6] (fun w' => w'.cell? ⟨q, 2, none⟩ = some (.int .i64 f)) (by kernel_rfl) (q2) (fun hHeld => ?_)
  refine take_F (i := 0) (d := some 12) (v := ?_) (by kernel_rfl) (by kernel_rfl) rfl rfl (by kernel_rfl) (by kernel_rfl) (by kernel_rfl) (fun _ _ _ h => h) (Or.inl ⟨by rfl, ?_⟩) (by assumption) ?_
  rotate_left
  · (intro w hSw; (try dsimp only at hSw); go_simp; (try rw [if_neg (by omega)]); (try (with_reducible rfl)))
  simp only [Act.put, List.setIfInBounds_toArray, List.set_cons_zero, List.set_cons_succ]
  refine take_L [4,1] (i := 1) (d := some 13) (v := ?_) (by kernel_rfl) (by kernel_rfl) (by kernel_rfl) (by kernel_rfl) rfl rfl (by kernel_rfl) (by kernel_rfl) (by kernel_rfl) (fun _ _ _ h => h) (Or.inl ⟨by rfl, ?_⟩) (by assumption) ?_
  rotate_left
  · (intro w hSw; (try dsimp only at hSw); go_simp; (try rw [if_neg (by omega)]); (try (with_reducible rfl)))
  simp only [Act.put, List.setIfInBounds_toArray, List.set_cons_zero, List.set_cons_succ]
  refine take_F (i := 2) (d := some 14) (v := ?_) (by kernel_rfl) (by kernel_rfl) rfl rfl (by kernel_rfl) (by kernel_rfl) (by kernel_rfl) (fun _ _ _ h => h) (Or.inl ⟨by rfl, ?_⟩) (by assumption) ?_
  rotate_left
  · (intro w hSw; (try dsimp only at hSw); go_simp; (try rw [if_neg (by omega)]); (try (with_reducible rfl)))
  simp only [Act.put, List.setIfInBounds_toArray, List.set_cons_zero, List.set_cons_succ]
  refine call_L (i := 3) (d := (some 15)) rfl rfl (by kernel_rfl) (fun Kq hKq => ?_)
  go_simp
  go_at_call 48
  refine HP.out.mono ?_; rintro e w5 ⟨y, rfl, ⟨hy0, hy1, _⟩, hs5, hg5⟩
  have hy12 := hy1 (by omega)
  have HN5 := Lib.hid (HN4.out.draw hs5 (grown_undrew hg5))
  obtain ⟨⟨_, _, q5, p5⟩, _, _, _, f5⟩ := blk4 HN5.out.hq
  have hwr : IntKind.i64.wrap (f + y) = f + y := IntWalk.i64_in _ (by omega)
  clear hs5 hg5 hy1 q2 f3
  (try go_wp2_with fail)
  refine hKq.out _ _ (q5) (fun hHeld => ?_)
  clear hKq Kq
  (try simp only [Act.put, List.setIfInBounds_toArray, List.set_cons_zero, List.set_cons_succ])
  refine take_F (i := 4) (d := some 16) (v := ?_) (by kernel_rfl) (by kernel_rfl) rfl rfl (by kernel_rfl) (by kernel_rfl) (by kernel_rfl) (fun _ _ _ h => h) (Or.inl ⟨by rfl, ?_⟩) (by assumption) ?_
  rotate_left
  · (intro w hSw; (try dsimp only at hSw); go_simp; (try rw [if_neg (by omega)]); (try (with_reducible rfl)))
  simp only [Act.put, List.setIfInBounds_toArray, List.set_cons_zero, List.set_cons_succ]
  refine take_F (i := 5) (d := some 17) (v := ?_) (by kernel_rfl) (by kernel_rfl) rfl rfl (by kernel_rfl) (by kernel_rfl) (by kernel_rfl) (fun _ _ _ h => h) (Or.inl ⟨by rfl, ?_⟩) (by assumption) ?_
  rotate_left
  · (intro w hSw; (try dsimp only at hSw); go_simp; (try rw [if_neg (by omega)]); (try (with_reducible rfl)))
  simp only [Act.put, List.setIfInBounds_toArray, List.set_cons_zero, List.set_cons_succ]
  refine late_L (i := 6) (d := none) (by kernel_rfl) rfl rfl (by kernel_rfl) (fun Kq hKq => ?_)
  go_simp
  refine hKq.out _ _ ?_
  clear hKq Kq
  refine done_L (by kernel_rfl) ?_ _
  refine NoPanic.normal ?_
  have HN6 := Lib.hid (HN5.out.set 3 (.int .i64 (f + y)) rfl rfl)
  generalize w5.setCell ⟨q, 3, none⟩ (.int .i64 (f + y)) = w6 at *
  clear q5 p5 f5 HN4 HN5 HP hwr
  go_wp2_with fail
  refine (pick_any B g _ bs 24 w6 HN6.out.src (by omega)).mono ?_; rintro e w7 ⟨x, rfl, ⟨hx0, hx1, _⟩, hs7, hg7⟩
  have HN := Lib.hid (HN6.out.draw hs7 hg7)
  clear hs7 hg7 hx1 HN6
  by_cases e0 : x = 0
  · subst e0
    go_wp2_with fail
    refine (text_new B g _ 2 oddL bs w7 HN.out.src (by omega) rfl (by omega) (by omega)).mono ?_; rintro e w8 ⟨z, hz, rfl, hs8, hg8⟩
    have hz7 := oddL_sz z hz
    have HN8 := Lib.hid (HN.out.draw hs8 hg8)
    obtain ⟨⟨p0, _⟩, f0, _⟩ := blk4 HN8.out.hq
    clear hs8 hg8 hz HN
    have HN := Lib.hid (HN8.out.set 0 (.string z) rfl rfl)
    go_upto_region 12 with (fail)
    generalize w8.setCell ⟨q, 0, none⟩ (.string z) = w9 at *
    clear HN8 p0 f0
    obtain ⟨⟨q0, q1, q2, q3⟩, _⟩ := blk4 HN.out.hq
    obtain ⟨⟨r0, r1, r2, r3⟩, s0, s1, s2, s3⟩ := blk4 HN.out.hr
    have HD := Lib.hid (HN.out.done (.string z) (.string b) (.int .i64 (f)) (.int .i64 (f + y)))
    go_wp2_with fail
    obtain ⟨⟨k0, k1, k2, k3⟩, hsz, hgz⟩ := HD.out
    refine bodyPost_ret (v := .agg #[.string z, .string b, .int .i64 (f), .int .i64 (f + y)]) (by simp [results, Try.results99, go_sem, k0, k1, k2, k3]) rfl ?_
    exact ⟨⟨z, b, f, f + y⟩, rfl, by dsimp only; omega, by dsimp only; omega, hsz.more (by omega), hgz⟩
  have b0 : (x == 0) = false := by simpa using e0
  by_cases e1 : x = 1
  · subst e1
    obtain ⟨⟨_, _, p2, p3⟩, _, _, _, f3⟩ := blk4 HN.out.hq
    have HN8 := HN
    clear HN
    have HN := Lib.hid (HN8.out.set 3 (.int .i64 (f - 1)) rfl rfl)
    go_upto_region 12 with (fail)
    generalize w7.setCell ⟨q, 3, none⟩ (.int .i64 (f - 1)) = w9 at *
    clear HN8 p2 p3 f3
    obtain ⟨⟨q0, q1, q2, q3⟩, _⟩ := blk4 HN.out.hq
    obtain ⟨⟨r0, r1, r2, r3⟩, s0, s1, s2, s3⟩ := blk4 HN.out.hr
    have HD := Lib.hid (HN.out.done (.string a) (.string b) (.int .i64 (f)) (.int .i64 (f - 1)))
    go_wp2_with fail
    obtain ⟨⟨k0, k1, k2, k3⟩, hsz, hgz⟩ := HD.out
    refine bodyPost_ret (v := .agg #[.string a, .string b, .int .i64 (f), .int .i64 (f - 1)]) (by simp [results, Try.results99, go_sem, k0, k1, k2, k3]) rfl ?_
    exact ⟨⟨a, b, f, f - 1⟩, rfl, by dsimp only; omega, by dsimp only; omega, hsz.more (by omega), hgz⟩
  have b1 : (x == 1) = false := by simpa using e1
  by_cases e2 : x = 2
  · subst e2
    go_wp2_with fail
    refine (among_in B g _ 3 [-1, 0, -9223372036854775808] bs w7 HN.out.src (by omega) rfl (by omega) (by omega)).mono ?_; rintro e w8 ⟨z, _, rfl, hs8, hg8⟩
    have HN8 := Lib.hid (HN.out.draw hs8 hg8)
    obtain ⟨⟨_, _, p2, _⟩, _, _, f2, _⟩ := blk4 HN8.out.hq
    clear hs8 hg8 HN
    have HN := Lib.hid (HN8.out.set 2 (.int .i64 z) rfl rfl)
    go_upto_region 12 with (fail)
    generalize w8.setCell ⟨q, 2, none⟩ (.int .i64 z) = w9 at *
    clear HN8 p2 f2
    obtain ⟨⟨q0, q1, q2, q3⟩, _⟩ := blk4 HN.out.hq
    obtain ⟨⟨r0, r1, r2, r3⟩, s0, s1, s2, s3⟩ := blk4 HN.out.hr
    have HD := Lib.hid (HN.out.done (.string a) (.string b) (.int .i64 (z)) (.int .i64 (f + y)))
    go_wp2_with fail
    obtain ⟨⟨k0, k1, k2, k3⟩, hsz, hgz⟩ := HD.out
    refine bodyPost_ret (v := .agg #[.string a, .string b, .int .i64 (z), .int .i64 (f + y)]) (by simp [results, Try.results99, go_sem, k0, k1, k2, k3]) rfl ?_
    exact ⟨⟨a, b, z, f + y⟩, rfl, by dsimp only; omega, by dsimp only; omega, hsz.more (by omega), hgz⟩
  have b2 : (x == 2) = false := by simpa using e2
  by_cases e3 : x = 3
  · subst e3
    go_wp2_with fail
    refine (among_in B g _ 3 [100000, 100001, 9223372036854775807] bs w7 HN.out.src (by omega) rfl (by omega) (by omega)).mono ?_; rintro e w8 ⟨z, _, rfl, hs8, hg8⟩
    have HN8 := Lib.hid (HN.out.draw hs8 hg8)
    obtain ⟨⟨_, _, _, p3⟩, _, _, _, f3⟩ := blk4 HN8.out.hq
    clear hs8 hg8 HN
    have HN := Lib.hid (HN8.out.set 3 (.int .i64 z) rfl rfl)
    go_upto_region 12 with (fail)
    generalize w8.setCell ⟨q, 3, none⟩ (.int .i64 z) = w9 at *
    clear HN8 p3 f3
    obtain ⟨⟨q0, q1, q2, q3⟩, _⟩ := blk4 HN.out.hq
    obtain ⟨⟨r0, r1, r2, r3⟩, s0, s1, s2, s3⟩ := blk4 HN.out.hr
    have HD := Lib.hid (HN.out.done (.string a) (.string b) (.int .i64 (f)) (.int .i64 (z)))
    go_wp2_with fail
    obtain ⟨⟨k0, k1, k2, k3⟩, hsz, hgz⟩ := HD.out
    refine bodyPost_ret (v := .agg #[.string a, .string b, .int .i64 (f), .int .i64 (z)]) (by simp [results, Try.results99, go_sem, k0, k1, k2, k3]) rfl ?_
    exact ⟨⟨a, b, f, z⟩, rfl, by dsimp only; omega, by dsimp only; omega, hsz.more (by omega), hgz⟩
  have b3 : (x == 3) = false := by simpa using e3
  obtain ⟨⟨q0, q1, q2, q3⟩, _⟩ := blk4 HN.out.hq
  obtain ⟨⟨r0, r1, r2, r3⟩, s0, s1, s2, s3⟩ := blk4 HN.out.hr
  have HD := Lib.hid (HN.out.done (.string a) (.string b) (.int .i64 (f)) (.int .i64 (f + y)))
  go_wp2_with fail
  obtain ⟨⟨k0, k1, k2, k3⟩, hsz, hgz⟩ := HD.out
  refine bodyPost_ret (v := .agg #[.string a, .string b, .int .i64 (f), .int .i64 (f + y)]) (by simp [results, Try.results99, go_sem, k0, k1, k2, k3]) rfl ?_
  exact ⟨⟨a, b, f, f + y⟩, rfl, by dsimp only; omega, by dsimp only; omega, hsz.more (by omega), hgz⟩
end Go.Proofs.Ytmheijnckmlbnaa
/- Loans that are drawn: l23Draw, l23Bent. -/
namespace Go.Proofs.Ytmheijnckmlbnaa
open Go.RowKit Go.Joins

def smX (x : Ln) : Prop := x.what.size ≤ 16 ∧ x.who.size ≤ 16
theorem smX.sm {x : Ln} (h : smX x) : smL x := ⟨Nat.le_trans h.1 (by omega), Nat.le_trans h.2 (by omega)⟩
/-- a drawn list of loans: L bounds its length -/
structure DrM (W w : World) (B g k : Nat) (bs : List UInt8) (v : Value) (xs : List Ln) : Prop where
  dr : DrR W w B g k bs 40 4 v xs.length (xs.flatMap cellsL)
  len : xs.length ≤ 62
  sm : ∀ x ∈ xs, smX x
  nn : ∃ b c, v = .slice (some ⟨b, 0, none⟩) xs.length c
/-- .. whose days are small -/
structure DrL (W w : World) (B g k : Nat) (bs : List UInt8) (v : Value) (xs : List Ln) : Prop extends DrM W w B g k bs v xs where
  bd : ∀ x ∈ xs, 0 ≤ x.till ∧ x.till ≤ 100000
theorem DrM.draw {W w w' : World} {B g k k' : Nat} {bs : List UInt8} {v : Value} {xs : List Ln} (h : DrM W w B g k bs v xs) (hs : SrcAt w' B g k' bs) (hg : w.grownBy w' (some g)) : DrM W w' B g k' bs v xs := ⟨h.dr.draw hs hg, h.len, h.sm, h.nn⟩
theorem DrL.draw {W w w' : World} {B g k k' : Nat} {bs : List UInt8} {v : Value} {xs : List Ln} (h : DrL W w B g k bs v xs) (hs : SrcAt w' B g k' bs) (hg : w.grownBy w' (some g)) : DrL W w' B g k' bs v xs := ⟨h.toDrM.draw hs hg, h.bd⟩
theorem DrM.more {W w : World} {B g k k' : Nat} {bs : List UInt8} {v : Value} {xs : List Ln} (h : DrM W w B g k bs v xs) (hk : k ≤ k') : DrM W w B g k' bs v xs := ⟨h.dr.more hk, h.len, h.sm, h.nn⟩
theorem DrL.more {W w : World} {B g k k' : Nat} {bs : List UInt8} {v : Value} {xs : List Ln} (h : DrL W w B g k bs v xs) (hk : k ≤ k') : DrL W w B g k' bs v xs := ⟨h.toDrM.more hk, h.bd⟩
theorem DrM.below {W w w' : World} {B g k : Nat} {bs : List UInt8} {v : Value} {xs : List Ln} (h : DrM W w B g k bs v xs) (hb : Below w.heap.size w w') : DrM W w' B g k bs v xs := ⟨h.dr.below hb, h.len, h.sm, h.nn⟩
theorem DrL.below {W w w' : World} {B g k : Nat} {bs : List UInt8} {v : Value} {xs : List Ln} (h : DrL W w B g k bs v xs) (hb : Below w.heap.size w w') : DrL W w' B g k bs v xs := ⟨h.toDrM.below hb, h.bd⟩
theorem DrM.cellsAt {W w : World} {B g k b c : Nat} {bs : List UInt8} {xs : List Ln} (h : DrM W w B g k bs (.slice (some ⟨b, 0, none⟩) xs.length c) xs) (i : Nat) (hi : i < xs.length) :
    w.cell? ⟨b, i * 4, none⟩ = some (.string xs[i].what) ∧ w.cell? ⟨b, i * 4 + 1, none⟩ = some (.string xs[i].who) ∧ w.cell? ⟨b, i * 4 + 2, none⟩ = some (.int .i64 xs[i].from_) ∧ w.cell? ⟨b, i * 4 + 3, none⟩ = some (.int .i64 xs[i].till) ∧
    w.frozen? ⟨b, i * 4, none⟩ = false ∧ w.frozen? ⟨b, i * 4 + 1, none⟩ = false ∧ w.frozen? ⟨b, i * 4 + 2, none⟩ = false ∧ w.frozen? ⟨b, i * 4 + 3, none⟩ = false := by
  have hat : ∀ j u, j < 4 → (cellsL xs[i])[j]? = some u → w.cell? ⟨b, i * 4 + j, none⟩ = some u := fun j u hj hu =>
    (h.dr.row.cellAt (i * 4 + j) (by omega)).trans ((flat_at cellsL 4 (fun _ => rfl) xs i j hi hj).trans hu)
  exact ⟨hat 0 _ (by omega) rfl, hat 1 _ (by omega) rfl, hat 2 _ (by omega) rfl, hat 3 _ (by omega) rfl, h.dr.row.frozenAt _, h.dr.row.frozenAt _, h.dr.row.frozenAt _, h.dr.row.frozenAt _⟩
theorem DrM.put4 {W w : World} {B g k b c : Nat} {bs : List UInt8} {xs : List Ln} (h : DrM W w B g k bs (.slice (some ⟨b, 0, none⟩) xs.length c) xs) (i : Nat) (hi : i < xs.length) (xa xb : ByteArray) (xf xt : Int) (hx : smX ⟨xa, xb, xf, xt⟩) :
    ∃ zs, zs.length = xs.length ∧ DrM W ((((w.setCell ⟨b, i * 4, none⟩ (.string xa)).setCell ⟨b, i * 4 + 1, none⟩ (.string xb)).setCell ⟨b, i * 4 + 2, none⟩ (.int .i64 xf)).setCell ⟨b, i * 4 + 3, none⟩ (.int .i64 xt)) B g k bs (.slice (some ⟨b, 0, none⟩) xs.length c) zs := by
  obtain ⟨h1, g1⟩ := h.dr.row.stored (i * 4) (.string xa)
  obtain ⟨h2, g2⟩ := h1.stored (i * 4 + 1) (.string xb)
  obtain ⟨h3, g3⟩ := h2.stored (i * 4 + 2) (.int .i64 xf)
  obtain ⟨h4, g4⟩ := h3.stored (i * 4 + 3) (.int .i64 xt)
  rw [flat_set4 xs i hi] at h4
  refine ⟨xs.set i ⟨xa, xb, xf, xt⟩, List.length_set, ⟨h.dr.app (by rw [List.length_set]; exact h4) (grown_trans (grown_trans (grown_trans g1 g2) g3) g4), by rw [List.length_set]; exact h.len, fun x hxm => ?_, ⟨b, c, by rw [List.length_set]⟩⟩⟩
  rcases List.mem_or_eq_of_mem_set hxm with hxm | rfl
  · exact h.sm x hxm
  · exact hx
theorem DrM.putT {W w : World} {B g k b c : Nat} {bs : List UInt8} {xs : List Ln} (h : DrM W w B g k bs (.slice (some ⟨b, 0, none⟩) xs.length c) xs) (i : Nat) (hi : i < xs.length) (z : Int) :
    ∃ zs, zs.length = xs.length ∧ DrM W (w.setCell ⟨b, i * 4 + 3, none⟩ (.int .i64 z)) B g k bs (.slice (some ⟨b, 0, none⟩) xs.length c) zs := by
  obtain ⟨h1, g1⟩ := h.dr.row.stored (i * 4 + 3) (.int .i64 z)
  rw [flat_setT xs z i hi] at h1
  refine ⟨_, List.length_set, ⟨h.dr.app (by rw [List.length_set]; exact h1) g1, by rw [List.length_set]; exact h.len, fun x hxm => ?_, ⟨b, c, by rw [List.length_set]⟩⟩⟩
  rcases List.mem_or_eq_of_mem_set hxm with hxm | rfl
  · exact h.sm x hxm
  · exact h.sm xs[i] (List.getElem_mem hi)
theorem DrL.putT {W w : World} {B g k b c : Nat} {bs : List UInt8} {xs : List Ln} (h : DrL W w B g k bs (.slice (some ⟨b, 0, none⟩) xs.length c) xs) (i : Nat) (hi : i < xs.length) (z : Int) :
    ∃ zs, zs.length = xs.length ∧ DrM W (w.setCell ⟨b, i * 4 + 3, none⟩ (.int .i64 z)) B g k bs (.slice (some ⟨b, 0, none⟩) xs.length c) zs := h.toDrM.putT i hi z
theorem DrL.cellsAt {W w : World} {B g k b c : Nat} {bs : List UInt8} {xs : List Ln} (h : DrL W w B g k bs (.slice (some ⟨b, 0, none⟩) xs.length c) xs) (i : Nat) (hi : i < xs.length) :
    w.cell? ⟨b, i * 4, none⟩ = some (.string xs[i].what) ∧ w.cell? ⟨b, i * 4 + 1, none⟩ = some (.string xs[i].who) ∧ w.cell? ⟨b, i * 4 + 2, none⟩ = some (.int .i64 xs[i].from_) ∧ w.cell? ⟨b, i * 4 + 3, none⟩ = some (.int .i64 xs[i].till) ∧
    w.frozen? ⟨b, i * 4, none⟩ = false ∧ w.frozen? ⟨b, i * 4 + 1, none⟩ = false ∧ w.frozen? ⟨b, i * 4 + 2, none⟩ = false ∧ w.frozen? ⟨b, i * 4 + 3, none⟩ = false := h.toDrM.cellsAt i hi
theorem DrL.put4 {W w : World} {B g k b c : Nat} {bs : List UInt8} {xs : List Ln} (h : DrL W w B g k bs (.slice (some ⟨b, 0, none⟩) xs.length c) xs) (i : Nat) (hi : i < xs.length) (xa xb : ByteArray) (xf xt : Int) (hx : smX ⟨xa, xb, xf, xt⟩) :
    ∃ zs, zs.length = xs.length ∧ DrM W ((((w.setCell ⟨b, i * 4, none⟩ (.string xa)).setCell ⟨b, i * 4 + 1, none⟩ (.string xb)).setCell ⟨b, i * 4 + 2, none⟩ (.int .i64 xf)).setCell ⟨b, i * 4 + 3, none⟩ (.int .i64 xt)) B g k bs (.slice (some ⟨b, 0, none⟩) xs.length c) zs := h.toDrM.put4 i hi xa xb xf xt hx
theorem addR_mem {xs : List Ln} {x : Ln} : ∀ y ∈ addR xs x, y ∈ xs ∨ y = x := by
  unfold addR
  split
  · intro y hy
    rcases List.mem_append.1 hy with hy | hy
    · exact .inl (List.mem_of_mem_take hy)
    · rcases List.mem_cons.1 hy with hy | hy
      · exact .inr hy
      · exact .inl (List.mem_of_mem_drop hy)
  · simp
theorem loans_bd {xs : List Ln} (h : loansOk xs = true) : ∀ x ∈ xs, 0 ≤ x.till ∧ x.till ≤ 100000 := by
  intro x hx
  obtain ⟨i, hi, rfl⟩ := List.mem_iff_getElem.1 hx
  have := (OkP.of h).one i hi
  unfold loanOk inB at this
  simp only [Bool.and_eq_true, decide_eq_true_eq] at this
  omega
theorem own_cap3 {w : World} {base n m c size : Nat} {e : TypeId} {A : Option Addr} {cs : List Value} (h : w.ownsRow base e size (.slice A m c) n cs) : m ≤ c ∧ c ≤ maxLen := by
  rcases h.2 with ⟨h0, _⟩ | ⟨g, cap, _, hv, _, _, h1, h2, _⟩
  · injection h0 with _ h1 h2
    subst h1 h2
    exact ⟨Nat.le_refl _, Nat.zero_le _⟩
  · injection hv with _ h3 h4
    subst h3 h4
    exact ⟨h1, h2⟩
theorem DrM.rd {W w : World} {B g k : Nat} {bs : List UInt8} {v : Value} {xs : List Ln} (h : DrM W w B g k bs v xs) : RdL w w.heap.size v xs := Rd.of_own h.dr.row
def RetLd (w : World) (B g k : Nat) (bs : List UInt8) (e : Ending) (w' : World) : Prop := ∃ v xs, e = .returned v ∧ DrL w w' B g k bs v xs ∧ loansOk xs = true
def RetLb (w : World) (B g k : Nat) (bs : List UInt8) (e : Ending) (w' : World) : Prop := ∃ v xs, e = .returned v ∧ DrM w w' B g k bs v xs
theorem RetLb.of2 {w w' : World} {B g k n : Nat} {bs : List UInt8} {v : Value} {xs : List Ln} {e : Ending} (h : DrM w w' B g k bs v xs) (he : e = .returned v) (hk : k ≤ n) : RetLb w B g n bs e w' := ⟨v, xs, he, h.more hk⟩
theorem RetLb.of {w w' : World} {B g k n : Nat} {bs : List UInt8} {v : Value} {xs : List Ln} {e : Ending} (h : DrL w w' B g k bs v xs) (he : e = .returned v) (hk : k ≤ n) : RetLb w B g n bs e w' := ⟨v, xs, he, h.toDrM.more hk⟩
theorem loans_60' {xs : List Ln} (h : loansOk xs = true) : xs.length ≤ 60 := (OkP.of h).len
/-- the loan that is added comes into the list -/
theorem DrL.add {W w1 w' : World} {B g k : Nat} {bs : List UInt8} {v v' : Value} {xs : List Ln} {x : Ln} (h : DrL W w1 B g k bs v xs) (hx : smX x) (h0 : addC xs x = 0) (ho : OwnL w' w1.heap.size v' (addR xs x)) (hb : Below w1.heap.size w1 w') : DrL W w' B g k bs v' (addR xs x) := by
  have hok := add_ok h0
  have h60 := loans_60' hok
  have hn : 0 < (addR xs x).length := by
    obtain ⟨j, hj, he, _⟩ := add_facts h0
    rw [he, List.length_append, List.length_cons]; omega
  refine ⟨⟨⟨h.dr.lt, h.dr.src.below hb, ownsRow_le ho h.dr.size, grown_below h.dr.gr hb⟩, by omega, fun y hy => ?_, ?_⟩, loans_bd hok⟩
  · rcases addR_mem y hy with hy | rfl
    · exact h.sm y hy
    · exact hx
  · obtain ⟨b, c, hv, _⟩ := own_posC ho hn
    exact ⟨b, c, hv⟩

theorem ones4d (a b : ByteArray) (f t : Int) : ∀ u ∈ (#[Value.string a, Value.string b, .int .i64 f, .int .i64 t] : Array Value).toList, u.oneCell' = true := by
  simp [Value.oneCell']
theorem DrL.snocE {W w w' : World} {B g k : Nat} {bs : List UInt8} {v v' : Value} {xs : List Ln} (h : DrL W w B g k bs v xs) (hl : xs.length < 62)
    (hr : w'.ownsRow W.heap.size 40 4 v' (xs.length + 1) (xs.flatMap cellsL ++ (#[Value.string ⟨#[97, 98, 97, 99, 117, 115]⟩, .string ⟨#[98, 111, 110, 110]⟩, .int .i64 (2 * (xs.length : Int)), .int .i64 (2 * (xs.length : Int) + 1)] : Array Value).toList)) (hg : w.grownBy w' v.ownBlock) :
    ∃ zs, zs.length = xs.length + 1 ∧ DrL W w' B g k bs v' zs := by
  have e : xs.flatMap cellsL ++ (#[Value.string ⟨#[97, 98, 97, 99, 117, 115]⟩, .string ⟨#[98, 111, 110, 110]⟩, .int .i64 (2 * (xs.length : Int)), .int .i64 (2 * (xs.length : Int) + 1)] : Array Value).toList = (xs ++ [(⟨⟨#[97, 98, 97, 99, 117, 115]⟩, ⟨#[98, 111, 110, 110]⟩, 2 * (xs.length : Int), 2 * (xs.length : Int) + 1⟩ : Ln)]).flatMap cellsL := by
    rw [List.flatMap_append]; simp [cellsL]
  rw [e] at hr
  have hlen : (xs ++ [(⟨⟨#[97, 98, 97, 99, 117, 115]⟩, ⟨#[98, 111, 110, 110]⟩, 2 * (xs.length : Int), 2 * (xs.length : Int) + 1⟩ : Ln)]).length = xs.length + 1 := by simp
  refine ⟨_, hlen, ⟨⟨h.dr.app (by rw [hlen]; exact hr) hg, by rw [hlen]; omega, fun y hy => ?_, ?_⟩, fun y hy => ?_⟩⟩
  · rcases List.mem_append.1 hy with hy | hy
    · exact h.sm y hy
    · rw [List.mem_singleton.1 hy]; exact ⟨show (⟨#[97, 98, 97, 99, 117, 115]⟩ : ByteArray).size ≤ 16 by decide, show (⟨#[98, 111, 110, 110]⟩ : ByteArray).size ≤ 16 by decide⟩
  · obtain ⟨b, c, hv, _⟩ := own_posC hr (by omega)
    exact ⟨b, c, by rw [hv, hlen]⟩
  · rcases List.mem_append.1 hy with hy | hy
    · exact h.bd y hy
    · rw [List.mem_singleton.1 hy]
      dsimp only
      omega

set_option maxRecDepth 100000 in
set_option maxHeartbeats 3200000 in
theorem l23Draw_any (B g k : Nat) (bs : List UInt8) (w : World) (hs : SrcAt w B g k bs) (hk : k + 200 ≤ 4611686018427380000) :
    Calls Try.prog 98 #[.pointer (some ⟨g, 0, none⟩)] w (RetLd w B g (k + 98) bs) := by
  have HD0 := Lib.hid (show DrL w (w.alloc (.cells #[] 40)) B g k bs (.slice (some ⟨w.heap.size, 0, none⟩) 0 0) [] from ⟨⟨DrR.made hs _ _, by simp, fun x hx => (by cases hx), _, _, rfl⟩, fun x hx => (by cases hx)⟩)
  clear hs
  go_enter Try.func98, Try.ntmps98
  go_wp2_with fail
  refine (pick_any B g k bs 9 _ HD0.out.dr.src (by omega)).mono ?_; rintro e w1 ⟨x, rfl, ⟨hx0, hx1, _⟩, hs1, hg1⟩
  obtain ⟨c, rfl⟩ : ∃ c : Nat, x = (c : Int) := ⟨x.toNat, by omega⟩
  have hc8 : c ≤ 8 := by have := hx1 (by omega); omega
  have HD1 := Lib.hid (HD0.out.draw hs1 hg1)
  clear hx1 hs1 hg1 HD0
  go_wp2_with fail
  go_loopw [3, 4] (fun o i wr => ∃ (j : Nat) (xs : List Ln), j ≤ c ∧ i = .int .i64 (j : Int) ∧ DrL w wr B g (k + 2 + (8 - j) * 12) bs o xs ∧ loansOk xs = true) (fun _ i _ => (intOf i).toNat)
  case atStart => exact ⟨c, [], Nat.le_refl _, rfl, HD1.out.more (by omega), rfl⟩
  case round =>
    obtain ⟨j, xs, hjc, rfl, hd, hok⟩ := hrel
    obtain ⟨b0, c0, rfl⟩ := hd.nn
    have HD := Lib.hid hd
    have Hok := Lib.hid hok
    have hxl := hd.len
    clear hd HD1 hok
    by_cases hj : 0 < j
    · have hj' : (0 : Int) < (j : Int) := by omega
      have hjj : (j : Int) - 1 = ((j - 1 : Nat) : Int) := by omega
      have Hjj := Lib.hid hjj; clear hjj
      have hKK : (8 - (j - 1)) * 12 = (8 - j) * 12 + 12 := by omega
      have HKK := Lib.hid hKK; clear hKK
      have hKm : (8 - j) * 12 ≤ 96 := by omega
      generalize (8 - j) * 12 = K at *
      go_wp2_with fail
      refine (l23New_any B g _ bs _ HD.out.dr.src (by omega)).mono ?_; rintro e w2 ⟨x, rfl, hxa, hxb, hs2, hg2⟩
      have Hx := Lib.hid (show smX x from ⟨by omega, by omega⟩)
      have HD2 := Lib.hid (HD.out.draw hs2 hg2)
      obtain ⟨hcap, hcap2⟩ := own_cap3 HD2.out.dr.row
      have HA := Lib.hid (AddS_any w2.heap.size b0 0 c0 xs x w2 HD2.out.rd (Nat.le_refl _) (by omega) (fun y hy => (HD2.out.sm y hy).sm) Hx.out.sm hcap hcap2)
      have Hadd := Lib.hid (fun (v' : Value) (w' : World) h0 ho hb => DrL.add (v' := v') (w' := w') HD2.out Hx.out h0 ho hb)
      have Haok := Lib.hid (fun h => add_ok (xs := xs) (x := x) h)
      unfold RetLn at HA
      by_cases h0 : addC xs x = 0
      · rw [h0] at HA
        have Haok2 := Lib.hid (Haok.out h0)
        have Hadd2 := Lib.hid (fun v' w' => Hadd.out v' w' h0)
        clear hs2 hg2 HD hxa hxb hcap hcap2 Haok Hadd h0
        generalize addR xs x = ys at *
        obtain ⟨xa, xb, xf, xt⟩ := x
        go_wp2_with fail
        refine HA.out.mono ?_; rintro e w3 ⟨v3, rfl, ho3, hb3⟩
        have HD3 := Lib.hid (Hadd2.out v3 w3 ho3 hb3)
        obtain ⟨b3, c3, rfl⟩ := HD3.out.nn
        clear ho3 hb3 Hadd2 HA
        go_wp2_with fail
        go_roundw
        case rel => exact ⟨j - 1, ys, by omega, by rw [Hjj.out], by rw [HKK.out]; exact HD3.out.more (by omega), Haok2.out⟩
        case measure => simp [intOf]; omega
      · have hne : (addC xs x == 0) = false := by rw [beq_eq_false_iff_ne]; exact h0
        clear hs2 hg2 HD hxa hxb hcap hcap2 Haok Hadd h0
        generalize addC xs x = C at *
        generalize addR xs x = ys at *
        obtain ⟨xa, xb, xf, xt⟩ := x
        go_wp2_with fail
        refine HA.out.mono ?_; rintro e w3 ⟨v3, rfl, ho3, hb3⟩
        have HD3 := Lib.hid (HD2.out.below hb3)
        obtain ⟨A3, c3, rfl⟩ := OwnL.slice ho3
        clear ho3 hb3 HA
        go_wp2_with fail
        go_roundw
        case rel => exact ⟨j - 1, xs, by omega, by rw [Hjj.out], by rw [HKK.out]; exact HD3.out.more (by omega), Hok.out⟩
        case measure => simp [intOf]; omega
    · have hj0 : j = 0 := by omega
      subst hj0
      go_wp2_with fail
      go_ret
      exact ⟨_, xs, rfl, HD.out.more (by omega), Hok.out⟩

set_option maxRecDepth 100000 in
set_option maxHeartbeats 6400000 in
theorem l23Bent_any (B g k : Nat) (bs : List UInt8) (w : World) (hs : SrcAt w B g k bs) (hk : k + 300 ≤ 4611686018427380000) :
    Calls Try.prog 56 #[.pointer (some ⟨g, 0, none⟩)] w (RetLb w B g (k + 200) bs) := by
  have H := Lib.hid hs
  have hlt := hs.lt
  clear hs
  go_enter Try.func56, Try.ntmps56
  go_wp2_with fail
  refine (l23Draw_any B g k bs _ H.out (by omega)).mono ?_; rintro e w1 ⟨v, xs, rfl, hd1, _⟩
  obtain ⟨b0, c0, rfl⟩ := hd1.nn
  have HD1 := Lib.hid hd1
  clear hd1 H
  go_wp2_with fail
  refine (one_any B g _ bs 24 _ HD1.out.dr.src (by omega)).mono ?_; rintro e w2 ⟨y, rfl, hs2, hg2⟩
  have HD2 := Lib.hid (HD1.out.draw hs2 hg2)
  clear hs2 hg2 HD1
  cases y with
  | false =>
    have hxl := HD2.out.len
    by_cases hl0 : xs.length = 0
    · have h00 : ((xs.length : Int) == 0) = true := by rw [beq_iff_eq]; omega
      have Hl0 := Lib.hid hl0; clear hl0
      go_wp2_with fail
      go_ret
      have hfin := HD2.out
      exact RetLb.of hfin rfl (by omega)
    have h00 : ((xs.length : Int) == 0) = false := by rw [beq_eq_false_iff_ne]; omega
    go_wp2_with fail
    refine (pick_any B g _ bs _ _ HD2.out.dr.src (by omega)).mono ?_; rintro e wp ⟨x, rfl, ⟨hx0, hx1, hx2⟩, hs2, hg2⟩
    obtain ⟨i, rfl⟩ : ∃ i : Nat, x = i := ⟨x.toNat, by omega⟩
    have hi : i < xs.length := by
      by_cases h1 : xs.length = 1
      · have := hx2 (by omega); omega
      · have := hx1 (by omega); omega
    have hi' : (i : Int) < (xs.length : Int) := by omega
    have HE2 := Lib.hid (HD2.out.draw hs2 hg2)
    clear hs2 hg2 hx1 hx2 HD2
    go_wp2_with fail
    refine (pick_any B g _ bs 16 _ HE2.out.dr.src (by omega)).mono ?_; rintro e wq ⟨x, rfl, ⟨hx0, hx1, hx2⟩, hs3, hg3⟩
    have HE3 := Lib.hid (HE2.out.draw hs3 hg3)
    clear hs3 hg3 hx1 hx2 HE2
    by_cases e0 : x = 0
    · subst e0
      go_wp2_with fail
      refine (l23New_any B g _ bs _ HE3.out.dr.src (by omega)).mono ?_; rintro e ws ⟨⟨xa, xb, xf, xt⟩, rfl, hxa, hxb, hs4, hg4⟩
      have HE4 := Lib.hid (HE3.out.draw hs4 hg4)
      obtain ⟨p0, p1, p2, p3, q0, q1, q2, q3⟩ := HE4.out.cellsAt i hi
      obtain ⟨zs, hzl, hd5⟩ := HE4.out.put4 i hi xa xb xf xt ⟨show xa.size ≤ 16 from Nat.le_trans hxa (by omega), show xb.size ≤ 16 from Nat.le_trans hxb (by omega)⟩
      have HE5 := Lib.hid hd5
      clear hs4 hg4 HE3 hzl hd5 hxa hxb
      go_wp2_with fail
      go_ret
      have hfin := HE5.out
      exact RetLb.of2 hfin rfl (by omega)
    have hq0 : (x == 0) = false := by simpa using e0
    by_cases e1 : x = 1
    · subst e1
      obtain ⟨p0, p1, p2, p3, q0, q1, q2, q3⟩ := HE3.out.cellsAt i hi
      obtain ⟨ht0, ht1⟩ := HE3.out.bd xs[i] (List.getElem_mem hi)
      have Hput := Lib.hid (fun z k' w' (hs : SrcAt w' B g k' bs) (hg : wq.grownBy w' (some g)) => (HE3.out.draw hs hg).putT i hi z)
      have HP := Lib.hid (pick_any B g _ bs 30 wq.drew (SrcAt.drew HE3.out.dr.src) (by omega))
      have hbg : b0 ≠ g := by have := (HE3.out.dr.row.lt b0 rfl).1; have := HE3.out.dr.lt; omega
      have hblt := (HE3.out.dr.row.lt b0 rfl).2
      generalize xs[i].till = T at *
      clear p0 p1 p2 q0 q1 q2
      have hiz : (0 : Int) ≤ (i : Int) := by omega
      go_wp2_with fail
      refine wp_region_noPanic ?_
      refine wp_region_L [10] (fun w' => w'.cell? ⟨b0, i * 4 + 3, none⟩ = some (.int .i64 T)) (by kernel_rfl) (p3) (fun hHeld => ?_)
      refine take_F (i := 0) (d := some 49) (v := ?_) (by kernel_rfl) (by kernel_rfl) rfl rfl (by kernel_rfl) (by kernel_rfl) (by kernel_rfl) (fun _ _ _ h => h) (Or.inl ⟨by rfl, ?_⟩) (by assumption) ?_
      rotate_left
      · (intro w hSw; (try dsimp only at hSw); go_simp; (try rw [if_neg (by omega)]); (try (with_reducible rfl)))
      simp only [Act.put, List.setIfInBounds_toArray, List.set_cons_zero, List.set_cons_succ]
      refine take_F (i := 1) (d := some 50) (v := ?_) (by kernel_rfl) (by kernel_rfl) rfl rfl (by kernel_rfl) (by kernel_rfl) (by kernel_rfl) (fun _ _ _ h => h) (Or.inl ⟨by rfl, ?_⟩) (by assumption) ?_
      rotate_left
      · (intro w hSw; (try dsimp only at hSw); go_simp; (try rw [if_neg (by omega)]); (try (with_reducible rfl)))
      simp only [Act.put, List.setIfInBounds_toArray, List.set_cons_zero, List.set_cons_succ]
      refine take_F (i := 2) (d := some 51) (v := ?_) (by kernel_rfl) (by kernel_rfl) rfl rfl (by kernel_rfl) (by kernel_rfl) (by kernel_rfl) (fun _ _ _ h => h) (Or.inl ⟨by rfl, ?_⟩) (by assumption) ?_
      rotate_left
      · (intro w hSw; (try dsimp only at hSw); go_simp; (try rw [if_neg (by omega)]); (try (with_reducible rfl)))
      simp only [Act.put, List.setIfInBounds_toArray, List.set_cons_zero, List.set_cons_succ]
      refine take_F (i := 3) (d := some 52) (v := ?_) (by kernel_rfl) (by kernel_rfl) rfl rfl (by kernel_rfl) (by kernel_rfl) (by kernel_rfl) (fun _ _ _ h => h) (Or.inl ⟨by rfl, ?_⟩) (by assumption) ?_
      rotate_left
      · (intro w hSw; (try dsimp only at hSw); go_simp; (try rw [if_neg (by omega)]); (try (with_reducible rfl)))
      simp only [Act.put, List.setIfInBounds_toArray, List.set_cons_zero, List.set_cons_succ]
      refine take_L [4] (i := 4) (d := some 53) (v := ?_) (by kernel_rfl) (by kernel_rfl) (by kernel_rfl) (by kernel_rfl) rfl rfl (by kernel_rfl) (by kernel_rfl) (by kernel_rfl) (fun _ _ _ h => h) (Or.inl ⟨by rfl, ?_⟩) (by assumption) ?_
      rotate_left
      · (intro w hSw; (try dsimp only at hSw); go_simp; (try rw [if_neg (by omega)]); (try (with_reducible rfl)))
      simp only [Act.put, List.setIfInBounds_toArray, List.set_cons_zero, List.set_cons_succ]
      refine take_F (i := 5) (d := some 54) (v := ?_) (by kernel_rfl) (by kernel_rfl) rfl rfl (by kernel_rfl) (by kernel_rfl) (by kernel_rfl) (fun _ _ _ h => h) (Or.inl ⟨by rfl, ?_⟩) (by assumption) ?_
      rotate_left
      · (intro w hSw; (try dsimp only at hSw); go_simp; (try rw [if_neg (by omega)]); (try (with_reducible rfl)))
      simp only [Act.put, List.setIfInBounds_toArray, List.set_cons_zero, List.set_cons_succ]
      refine call_L (i := 6) (d := (some 55)) rfl rfl (by kernel_rfl) (fun Kq hKq => ?_)
      go_simp
      go_at_call 48
      refine HP.out.mono ?_; rintro e ws ⟨y, rfl, ⟨hy0, hy1, _⟩, hs5, hg5⟩
      have hy30 := hy1 (by omega)
      have q5 := (World.cell?_of_block (a := ⟨b0, i * 4 + 3, none⟩) (hg5.block b0 (by simpa using hblt) (fun e => hbg (by injection e)))).trans p3
      have f5 := (World.frozen?_of_block (a := ⟨b0, i * 4 + 3, none⟩) (hg5.block b0 (by simpa using hblt) (fun e => hbg (by injection e)))).trans q3
      obtain ⟨zs, hzl, hd6⟩ := Hput.out (T + y) _ _ hs5 (grown_undrew hg5)
      have HE6 := Lib.hid hd6
      have hwr : IntKind.i64.wrap (T + y) = T + y := IntWalk.i64_in _ (by omega)
      clear hs5 hg5 hy1 hzl hd6 p3 q3
      (try go_wp2_with fail)
      refine hKq.out _ _ (q5) (fun hHeld => ?_)
      clear hKq Kq
      (try simp only [Act.put, List.setIfInBounds_toArray, List.set_cons_zero, List.set_cons_succ])
      refine take_F (i := 7) (d := some 56) (v := ?_) (by kernel_rfl) (by kernel_rfl) rfl rfl (by kernel_rfl) (by kernel_rfl) (by kernel_rfl) (fun _ _ _ h => h) (Or.inl ⟨by rfl, ?_⟩) (by assumption) ?_
      rotate_left
      · (intro w hSw; (try dsimp only at hSw); go_simp; (try rw [if_neg (by omega)]); (try (with_reducible rfl)))
      simp only [Act.put, List.setIfInBounds_toArray, List.set_cons_zero, List.set_cons_succ]
      refine take_F (i := 8) (d := some 57) (v := ?_) (by kernel_rfl) (by kernel_rfl) rfl rfl (by kernel_rfl) (by kernel_rfl) (by kernel_rfl) (fun _ _ _ h => h) (Or.inl ⟨by rfl, ?_⟩) (by assumption) ?_
      rotate_left
      · (intro w hSw; (try dsimp only at hSw); go_simp; (try rw [if_neg (by omega)]); (try (with_reducible rfl)))
      simp only [Act.put, List.setIfInBounds_toArray, List.set_cons_zero, List.set_cons_succ]
      refine take_F (i := 9) (d := some 58) (v := ?_) (by kernel_rfl) (by kernel_rfl) rfl rfl (by kernel_rfl) (by kernel_rfl) (by kernel_rfl) (fun _ _ _ h => h) (Or.inl ⟨by rfl, ?_⟩) (by assumption) ?_
      rotate_left
      · (intro w hSw; (try dsimp only at hSw); go_simp; (try rw [if_neg (by omega)]); (try (with_reducible rfl)))
      simp only [Act.put, List.setIfInBounds_toArray, List.set_cons_zero, List.set_cons_succ]
      refine late_L (i := 10) (d := none) (by kernel_rfl) rfl rfl (by kernel_rfl) (fun Kq hKq => ?_)
      go_simp
      refine hKq.out _ _ ?_
      clear hKq Kq
      refine done_L (by kernel_rfl) ?_ _
      refine NoPanic.normal ?_
      clear q5 f5 HE3 HP Hput hwr
      go_wp2_with fail
      go_ret
      have hfin := HE6.out
      exact RetLb.of2 hfin rfl (by omega)
    have hq1 : (x == 1) = false := by simpa using e1
    go_wp2_with fail
    go_ret
    have hfin := HE3.out
    exact RetLb.of hfin rfl (by omega)
  | true =>
    have HM := Lib.hid (show DrL w (w2.alloc (.cells #[] 40)) B g (k + 98 + 2) bs (.slice (some ⟨w2.heap.size, 0, none⟩) 0 0) [] from
      ⟨⟨DrR.from (W' := w2) (DrR.made HD2.out.dr.src _ _) HD2.out.dr.gr hlt, by simp, fun x hx => (by cases hx), _, _, rfl⟩, fun x hx => (by cases hx)⟩)
    clear HD2
    go_wp2_with fail
    refine (pick_any B g _ bs 2 _ HM.out.dr.src (by omega)).mono ?_; rintro e w4 ⟨y, rfl, ⟨hy0, hy1, _⟩, hs4, hg4⟩
    have hy2 := hy1 (by omega)
    obtain ⟨c, hc, hc4⟩ : ∃ c : Nat, 60 + y = (c : Int) ∧ c ≤ 61 := ⟨(60 + y).toNat, by omega, by omega⟩
    have HD4 := Lib.hid (HM.out.draw hs4 hg4)
    clear hs4 hg4 hy1 HM
    go_wp2_with fail
    (try rw [hc])
    clear hc
    go_loopw [3, 4] (fun o i wr => ∃ (j : Nat) (xs : List Ln), j + xs.length = c ∧ i = .int .i64 (j : Int) ∧ DrL w wr B g (k + 98 + 2 + 2) bs o xs) (fun _ i _ => (intOf i).toNat)
    case atStart => exact ⟨c, [], by simp, rfl, HD4.out⟩
    case round =>
      obtain ⟨j, xs, hjc, rfl, hp⟩ := hrel
      obtain ⟨b0, c0, rfl⟩ := hp.nn
      have HP := Lib.hid hp
      have hll2 := hp.len
      have hj61 : j ≤ 61 := by omega
      have Hjc := Lib.hid hjc
      clear hp HD4
      by_cases hj : 0 < j
      · have hj' : (0 : Int) < (j : Int) := by omega
        have hjj : (j : Int) - 1 = ((j - 1 : Nat) : Int) := by omega
        have Hjj := Lib.hid hjj; clear hjj hjc
        have Hon := Lib.hid (ones4d ⟨#[97, 98, 97, 99, 117, 115]⟩ ⟨#[98, 111, 110, 110]⟩ (2 * (xs.length : Int)) (2 * (xs.length : Int) + 1))
        go_wp2_with (at_builtin; refine wpList_apd 24 40 _ 4 48 Try.underlying24 infoL rfl (by omega) _ _ rfl rfl w.heap.size _ _ _ rfl HP.out.dr.row #[.string ⟨#[97, 98, 97, 99, 117, 115]⟩, .string ⟨#[98, 111, 110, 110]⟩, .int .i64 (2 * (xs.length : Int)), .int .i64 (2 * (xs.length : Int) + 1)] 1 1 rfl rfl Hon.out (by simp [maxLen]; omega) (by omega) HP.out.dr.size ?_; intro v7 w7 hown7 hg7; obtain ⟨zs7, hzl7, hd7⟩ := HP.out.snocE (by have := Hjc.out; omega) hown7 hg7; have HD7 := Lib.hid hd7; have Hzl7 := Lib.hid hzl7; obtain ⟨b7, cp7, rfl⟩ := hd7.nn; clear hown7 hg7 hd7 hzl7)
        go_roundw
        case rel => exact ⟨j - 1, zs7, by have := Hjc.out; have := Hzl7.out; omega, by rw [Hjj.out], HD7.out⟩
        case measure => simp [intOf]; omega
      · have hj0 : j = 0 := by omega
        subst hj0
        clear hjc Hjc hll2
        have hxl := HP.out.len
        by_cases hl0 : xs.length = 0
        · have h00 : ((xs.length : Int) == 0) = true := by rw [beq_iff_eq]; omega
          have Hl0 := Lib.hid hl0; clear hl0
          go_wp2_with fail
          go_ret
          have hfin := HP.out
          exact RetLb.of hfin rfl (by omega)
        have h00 : ((xs.length : Int) == 0) = false := by rw [beq_eq_false_iff_ne]; omega
        go_wp2_with fail
        refine (pick_any B g _ bs _ _ HP.out.dr.src (by omega)).mono ?_; rintro e wp ⟨x, rfl, ⟨hx0, hx1, hx2⟩, hs2, hg2⟩
        obtain ⟨i, rfl⟩ : ∃ i : Nat, x = i := ⟨x.toNat, by omega⟩
        have hi : i < xs.length := by
          by_cases h1 : xs.length = 1
          · have := hx2 (by omega); omega
          · have := hx1 (by omega); omega
        have hi' : (i : Int) < (xs.length : Int) := by omega
        have HE2 := Lib.hid (HP.out.draw hs2 hg2)
        clear hs2 hg2 hx1 hx2 HP
        go_wp2_with fail
        refine (pick_any B g _ bs 16 _ HE2.out.dr.src (by omega)).mono ?_; rintro e wq ⟨x, rfl, ⟨hx0, hx1, hx2⟩, hs3, hg3⟩
        have HE3 := Lib.hid (HE2.out.draw hs3 hg3)
        clear hs3 hg3 hx1 hx2 HE2
        by_cases e0 : x = 0
        · subst e0
          go_wp2_with fail
          refine (l23New_any B g _ bs _ HE3.out.dr.src (by omega)).mono ?_; rintro e ws ⟨⟨xa, xb, xf, xt⟩, rfl, hxa, hxb, hs4, hg4⟩
          have HE4 := Lib.hid (HE3.out.draw hs4 hg4)
          obtain ⟨p0, p1, p2, p3, q0, q1, q2, q3⟩ := HE4.out.cellsAt i hi
          obtain ⟨zs, hzl, hd5⟩ := HE4.out.put4 i hi xa xb xf xt ⟨show xa.size ≤ 16 from Nat.le_trans hxa (by omega), show xb.size ≤ 16 from Nat.le_trans hxb (by omega)⟩
          have HE5 := Lib.hid hd5
          clear hs4 hg4 HE3 hzl hd5 hxa hxb
          go_wp2_with fail
          go_ret
          have hfin := HE5.out
          exact RetLb.of2 hfin rfl (by omega)
        have hq0 : (x == 0) = false := by simpa using e0
        by_cases e1 : x = 1
        · subst e1
          obtain ⟨p0, p1, p2, p3, q0, q1, q2, q3⟩ := HE3.out.cellsAt i hi
          obtain ⟨ht0, ht1⟩ := HE3.out.bd xs[i] (List.getElem_mem hi)
          have Hput := Lib.hid (fun z k' w' (hs : SrcAt w' B g k' bs) (hg : wq.grownBy w' (some g)) => (HE3.out.draw hs hg).putT i hi z)
          have HP := Lib.hid (pick_any B g _ bs 30 wq.drew (SrcAt.drew HE3.out.dr.src) (by omega))
          have hbg : b0 ≠ g := by have := (HE3.out.dr.row.lt b0 rfl).1; have := HE3.out.dr.lt; omega
          have hblt := (HE3.out.dr.row.lt b0 rfl).2
          generalize xs[i].till = T at *
          clear p0 p1 p2 q0 q1 q2
          have hiz : (0 : Int) ≤ (i : Int) := by omega
          go_wp2_with fail
          refine wp_region_noPanic ?_
          refine wp_region_L [10] (fun w' => w'.cell? ⟨b0, i * 4 + 3, none⟩ = some (.int .i64 T)) (by kernel_rfl) (p3) (fun hHeld => ?_)
          refine take_F (i := 0) (d := some 49) (v := ?_) (by kernel_rfl) (by kernel_rfl) rfl rfl (by kernel_rfl) (by kernel_rfl) (by kernel_rfl) (fun _ _ _ h => h) (Or.inl ⟨by rfl, ?_⟩) (by assumption) ?_
          rotate_left
          · (intro w hSw; (try dsimp only at hSw); go_simp; (try rw [if_neg (by omega)]); (try (with_reducible rfl)))
          simp only [Act.put, List.setIfInBounds_toArray, List.set_cons_zero, List.set_cons_succ]
          refine take_F (i := 1) (d := some 50) (v := ?_) (by kernel_rfl) (by kernel_rfl) rfl rfl (by kernel_rfl) (by kernel_rfl) (by kernel_rfl) (fun _ _ _ h => h) (Or.inl ⟨by rfl, ?_⟩) (by assumption) ?_
          rotate_left
          · (intro w hSw; (try dsimp only at hSw); go_simp; (try rw [if_neg (by omega)]); (try (with_reducible rfl)))
          simp only [Act.put, List.setIfInBounds_toArray, List.set_cons_zero, List.set_cons_succ]
          refine take_F (i := 2) (d := some 51) (v := ?_) (by kernel_rfl) (by kernel_rfl) rfl rfl (by kernel_rfl) (by kernel_rfl) (by kernel_rfl) (fun _ _ _ h => h) (Or.inl ⟨by rfl, ?_⟩) (by assumption) ?_
          rotate_left
          · (intro w hSw; (try dsimp only at hSw); go_simp; (try rw [if_neg (by omega)]); (try (with_reducible rfl)))
          simp only [Act.put, List.setIfInBounds_toArray, List.set_cons_zero, List.set_cons_succ]
          refine take_F (i := 3) (d := some 52) (v := ?_) (by kernel_rfl) (by kernel_rfl) rfl rfl (by kernel_rfl) (by kernel_rfl) (by kernel_rfl) (fun _ _ _ h => h) (Or.inl ⟨by rfl, ?_⟩) (by assumption) ?_
          rotate_left
          · (intro w hSw; (try dsimp only at hSw); go_simp; (try rw [if_neg (by omega)]); (try (with_reducible rfl)))
          simp only [Act.put, List.setIfInBounds_toArray, List.set_cons_zero, List.set_cons_succ]
          refine take_L [4] (i := 4) (d := some 53) (v := ?_) (by kernel_rfl) (by kernel_rfl) (by kernel_rfl) (by kernel_rfl) rfl rfl (by kernel_rfl) (by kernel_rfl) (by kernel_rfl) (fun _ _ _ h => h) (Or.inl ⟨by rfl, ?_⟩) (by assumption) ?_
          rotate_left
          · (intro w hSw; (try dsimp only at hSw); go_simp; (try rw [if_neg (by omega)]); (try (with_reducible rfl)))
          simp only [Act.put, List.setIfInBounds_toArray, List.set_cons_zero, List.set_cons_succ]
          refine take_F (i := 5) (d := some 54) (v := ?_) (by kernel_rfl) (by kernel_rfl) rfl rfl (by kernel_rfl) (by kernel_rfl) (by kernel_rfl) (fun _ _ _ h => h) (Or.inl ⟨by rfl, ?_⟩) (by assumption) ?_
          rotate_left
          · (intro w hSw; (try dsimp only at hSw); go_simp; (try rw [if_neg (by omega)]); (try (with_reducible rfl)))
          simp only [Act.put, List.setIfInBounds_toArray, List.set_cons_zero, List.set_cons_succ]
          refine call_L (i := 6) (d := (some 55)) rfl rfl (by kernel_rfl) (fun Kq hKq => ?_)
          go_simp
          go_at_call 48
          refine HP.out.mono ?_; rintro e ws ⟨y, rfl, ⟨hy0, hy1, _⟩, hs5, hg5⟩
          have hy30 := hy1 (by omega)
          have q5 := (World.cell?_of_block (a := ⟨b0, i * 4 + 3, none⟩) (hg5.block b0 (by simpa using hblt) (fun e => hbg (by injection e)))).trans p3
          have f5 := (World.frozen?_of_block (a := ⟨b0, i * 4 + 3, none⟩) (hg5.block b0 (by simpa using hblt) (fun e => hbg (by injection e)))).trans q3
          obtain ⟨zs, hzl, hd6⟩ := Hput.out (T + y) _ _ hs5 (grown_undrew hg5)
          have HE6 := Lib.hid hd6
          have hwr : IntKind.i64.wrap (T + y) = T + y := IntWalk.i64_in _ (by omega)
          clear hs5 hg5 hy1 hzl hd6 p3 q3
          (try go_wp2_with fail)
          refine hKq.out _ _ (q5) (fun hHeld => ?_)
          clear hKq Kq
          (try simp only [Act.put, List.setIfInBounds_toArray, List.set_cons_zero, List.set_cons_succ])
          refine take_F (i := 7) (d := some 56) (v := ?_) (by kernel_rfl) (by kernel_rfl) rfl rfl (by kernel_rfl) (by kernel_rfl) (by kernel_rfl) (fun _ _ _ h => h) (Or.inl ⟨by rfl, ?_⟩) (by assumption) ?_
          rotate_left
          · (intro w hSw; (try dsimp only at hSw); go_simp; (try rw [if_neg (by omega)]); (try (with_reducible rfl)))
          simp only [Act.put, List.setIfInBounds_toArray, List.set_cons_zero, List.set_cons_succ]
          refine take_F (i := 8) (d := some 57) (v := ?_) (by kernel_rfl) (by kernel_rfl) rfl rfl (by kernel_rfl) (by kernel_rfl) (by kernel_rfl) (fun _ _ _ h => h) (Or.inl ⟨by rfl, ?_⟩) (by assumption) ?_
          rotate_left
          · (intro w hSw; (try dsimp only at hSw); go_simp; (try rw [if_neg (by omega)]); (try (with_reducible rfl)))
          simp only [Act.put, List.setIfInBounds_toArray, List.set_cons_zero, List.set_cons_succ]
          refine take_F (i := 9) (d := some 58) (v := ?_) (by kernel_rfl) (by kernel_rfl) rfl rfl (by kernel_rfl) (by kernel_rfl) (by kernel_rfl) (fun _ _ _ h => h) (Or.inl ⟨by rfl, ?_⟩) (by assumption) ?_
          rotate_left
          · (intro w hSw; (try dsimp only at hSw); go_simp; (try rw [if_neg (by omega)]); (try (with_reducible rfl)))
          simp only [Act.put, List.setIfInBounds_toArray, List.set_cons_zero, List.set_cons_succ]
          refine late_L (i := 10) (d := none) (by kernel_rfl) rfl rfl (by kernel_rfl) (fun Kq hKq => ?_)
          go_simp
          refine hKq.out _ _ ?_
          clear hKq Kq
          refine done_L (by kernel_rfl) ?_ _
          refine NoPanic.normal ?_
          clear q5 f5 HE3 HP Hput hwr
          go_wp2_with fail
          go_ret
          have hfin := HE6.out
          exact RetLb.of2 hfin rfl (by omega)
        have hq1 : (x == 1) = false := by simpa using e1
        go_wp2_with fail
        go_ret
        have hfin := HE3.out
        exact RetLb.of hfin rfl (by omega)
end Go.Proofs.Ytmheijnckmlbnaa
/- Loans: draws that the laws share. -/
namespace Go.Proofs.Ytmheijnckmlbnaa
open Go.RowKit Go.Joins

/-- a list of loans of the call's own -/
structure NewLs (w w' : World) (v : Value) (xs : List Ln) : Prop where
  own : OwnL w' w.heap.size v xs
  len : xs.length ≤ 62
  sm : ∀ x ∈ xs, smX x
  nn : ∃ b c, v = .slice (some ⟨b, 0, none⟩) xs.length c
  bel : Below w.heap.size w w'
theorem below_srcL {W w1 w : World} {g : Nat} (h : Below W.heap.size W w1) (hg : w1.grownBy w (some g)) (hl : W.heap.size ≤ g) : Below W.heap.size W w :=
  h.grown hg h.size (fun x hx => by cases hx; exact hl)
theorem NewLs.of {w w1 w' : World} {B g k : Nat} {bs : List UInt8} {v : Value} {xs : List Ln} (h : DrM w1 w' B g k bs v xs) (hb : Below w.heap.size w w1) (hg : w.heap.size ≤ g) : NewLs w w' v xs :=
  ⟨ownsRow_le h.dr.row hb.size, h.len, h.sm, h.nn, below_srcL hb h.dr.gr hg⟩
theorem NewLs.drewN {w w' : World} {v : Value} {xs : List Ln} (h : NewLs w w' v xs) (n : Nat) : NewLs w (w'.drewN n) v xs := ⟨World.ownsRow.drewN h.own n, h.len, h.sm, h.nn, below_drewN h.bel n⟩
theorem NewLs.below {w w' w2 : World} {v : Value} {xs : List Ln} (h : NewLs w w' v xs) (hb : Below w'.heap.size w' w2) : NewLs w w2 v xs := ⟨own_below h.own hb, h.len, h.sm, h.nn, h.bel.trans (hb.mono h.bel.size)⟩
def TwoR (w : World) (e : Ending) (w' : World) : Prop := ∃ (v : Value) (xs : List Ln) (s : ByteArray) (d : Int), e = .returned (.tuple #[v, .string s, .int .i64 d]) ∧ NewLs w w' v xs
def TwoR2 (w : World) (e : Ending) (w' : World) : Prop := ∃ (v : Value) (xs : List Ln) (s : ByteArray) (d : Int), e = .returned (.tuple #[v, .string s, .int .i64 d]) ∧ NewLs w w' v xs ∧ s.size ≤ 16
set_option maxRecDepth 100000 in
set_option maxHeartbeats 3200000 in
theorem l23Two2_any (B : Nat) (cv : Value) (bs : List UInt8) (w : World) (h : Rd w B cv bs.length 1 (bs.map byV)) (hB : B ≤ w.heap.size) : Calls Try.prog 47 #[cv] w (TwoR2 w) := by
  have HF := Lib.hid (l00From_any B cv bs w h hB)
  obtain ⟨_, A, c, rfl, _⟩ := h
  go_enter Try.func47, Try.ntmps47
  go_wp2_with fail
  refine HF.out.mono ?_; rintro e w1 ⟨rfl, hs1, hb1, hl1⟩
  have Hs1 := Lib.hid hs1
  have Hb1 := Lib.hid hb1
  clear hs1 hb1 HF
  go_wp2_with fail
  refine (l23Bent_any B _ 0 bs _ Hs1.out (by omega)).mono ?_; rintro e w2 ⟨v2, xs, rfl, hd2⟩
  obtain ⟨b0, c0, rfl⟩ := hd2.nn
  have HD2 := Lib.hid hd2
  clear hd2 Hs1
  go_wp2_with fail
  refine (exhibit_any B _ _ bs _ HD2.out.dr.src (by omega)).mono ?_; rintro e w3 ⟨z, rfl, hz, hs3, hg3⟩
  have HD3 := Lib.hid (HD2.out.draw hs3 hg3)
  have hxl := HD2.out.len
  clear hs3 hg3 HD2
  by_cases hl0 : xs.length = 0
  · have h00 : ¬ (0 : Int) < (xs.length : Int) := by omega
    have Hl0 := Lib.hid hl0; clear hl0
    go_wp2_with fail
    refine (pick_any B _ _ bs 75 _ HD3.out.dr.src (by omega)).mono ?_; rintro e w4 ⟨y, rfl, ⟨hy0, hy1, _⟩, hs4, hg4⟩
    have hy75 := hy1 (by omega)
    have HD4 := Lib.hid (HD3.out.draw hs4 hg4)
    clear hs4 hg4 hy1 HD3
    go_wp2_with fail
    go_ret3
    exact ⟨_, xs, z, y - 3, rfl, NewLs.of HD4.out Hb1.out (Nat.le_refl _), Nat.le_trans hz (by omega)⟩
  · have h00 : (0 : Int) < (xs.length : Int) := by omega
    go_wp2_with fail
    refine (one_any B _ _ bs 2 _ HD3.out.dr.src (by omega)).mono ?_; rintro e w4 ⟨y, rfl, hs4, hg4⟩
    have HD4 := Lib.hid (HD3.out.draw hs4 hg4)
    clear hs4 hg4 HD3
    cases y with
    | false =>
      go_wp2_with fail
      refine (pick_any B _ _ bs 75 _ HD4.out.dr.src (by omega)).mono ?_; rintro e w5 ⟨y, rfl, ⟨hy0, hy1, _⟩, hs5, hg5⟩
      have hy75 := hy1 (by omega)
      have HD5 := Lib.hid (HD4.out.draw hs5 hg5)
      clear hs5 hg5 hy1 HD4
      go_wp2_with fail
      go_ret3
      exact ⟨_, xs, z, y - 3, rfl, NewLs.of HD5.out Hb1.out (Nat.le_refl _), Nat.le_trans hz (by omega)⟩
    | true =>
      go_wp2_with fail
      refine (pick_any B _ _ bs _ _ HD4.out.dr.src (by omega)).mono ?_; rintro e w5 ⟨x, rfl, ⟨hx0, hx1, hx2⟩, hs5, hg5⟩
      obtain ⟨i, rfl⟩ : ∃ i : Nat, x = i := ⟨x.toNat, by omega⟩
      have hi : i < xs.length := by
        by_cases h1 : xs.length = 1
        · have := hx2 (by omega); omega
        · have := hx1 (by omega); omega
      have hi' : (i : Int) < (xs.length : Int) := by omega
      have HD5 := Lib.hid (HD4.out.draw hs5 hg5)
      obtain ⟨p0, p1, p2, p3, _, _, _, _⟩ := HD5.out.cellsAt i hi
      have Hsx := Lib.hid (HD5.out.sm xs[i] (List.getElem_mem hi)).1
      clear hs5 hg5 hx1 hx2 HD4
      generalize xs[i] = x at *
      obtain ⟨a, b, f, t⟩ := x
      dsimp only at p0 p1 p2 p3 Hsx
      obtain ⟨f0, f1, f2, f3⟩ := four_at (heap_alloc_new w5 (.cells #[.string a, .string b, .int .i64 f, .int .i64 t] 40))
      have hba := Lib.hid ((Below.refl w5.heap.size w5).alloc (Nat.le_refl _) (.cells #[.string a, .string b, .int .i64 f, .int .i64 t] 40))
      go_wp2_with fail
      go_quiet (fail)
      go_wp2_with fail
      go_ret3
      exact ⟨_, xs, a, f, rfl, NewLs.drewN (NewLs.of (HD5.out.below hba.out) Hb1.out (Nat.le_refl _)) _, Hsx.out⟩
theorem l23Two_any (B : Nat) (cv : Value) (bs : List UInt8) (w : World) (h : Rd w B cv bs.length 1 (bs.map byV)) (hB : B ≤ w.heap.size) : Calls Try.prog 47 #[cv] w (TwoR w) :=
  (l23Two2_any B cv bs w h hB).mono fun _ _ ⟨v, xs, s, d, h1, h2, _⟩ => ⟨v, xs, s, d, h1, h2⟩
def OneR (w : World) (e : Ending) (w' : World) : Prop := ∃ (v : Value) (xs : List Ln), e = .returned v ∧ NewLs w w' v xs
end Go.Proofs.Ytmheijnckmlbnaa
/- Loans: the draws of FnFreeDays. -/
namespace Go.Proofs.Ytmheijnckmlbnaa
open Go.RowKit Go.Joins

def DayR (w : World) (e : Ending) (w' : World) : Prop := ∃ (v : Value) (xs : List Ln) (d : Int), e = .returned (.tuple #[v, .int .i64 d]) ∧ NewLs w w' v xs
set_option maxRecDepth 100000 in
set_option maxHeartbeats 800000 in
theorem drawLA_any (B : Nat) (cv : Value) (bs : List UInt8) (w : World) (h : Rd w B cv bs.length 1 (bs.map byV)) (hB : B ≤ w.heap.size) : Calls Try.prog 13 #[cv] w (DayR w) := by
  have HF := Lib.hid (l23Two_any B cv bs w h hB)
  obtain ⟨_, A, c, rfl, _⟩ := h
  go_enter Try.func13, Try.ntmps13
  go_wp2_with fail
  refine HF.out.mono ?_; rintro e w1 ⟨v, xs, s, d, rfl, hn⟩
  obtain ⟨b0, c0, rfl⟩ := hn.nn
  have HN := Lib.hid hn; clear hn
  go_wp2_with fail
  go_ret2
  exact ⟨_, xs, d, rfl, HN.out⟩
set_option maxRecDepth 100000 in
set_option maxHeartbeats 800000 in
theorem drawBD_any (B : Nat) (cv : Value) (bs : List UInt8) (w : World) (h : Rd w B cv bs.length 1 (bs.map byV)) (hB : B ≤ w.heap.size) : Calls Try.prog 10 #[cv] w (OneR w) := by
  have HF := Lib.hid (l00From_any B cv bs w h hB)
  obtain ⟨_, A, c, rfl, _⟩ := h
  go_enter Try.func10, Try.ntmps10
  go_wp2_with fail
  refine HF.out.mono ?_; rintro e w1 ⟨rfl, hs1, hb1, hl1⟩
  have Hs1 := Lib.hid hs1
  have Hb1 := Lib.hid hb1
  clear hs1 hb1 HF
  go_wp2_with fail
  refine (l23Bent_any B _ 0 bs _ Hs1.out (by omega)).mono ?_; rintro e w2 ⟨v2, xs, rfl, hd2⟩
  obtain ⟨b0, c0, rfl⟩ := hd2.nn
  have HD2 := Lib.hid hd2
  clear hd2 Hs1
  go_wp2_with fail
  go_ret
  exact ⟨_, xs, rfl, NewLs.of HD2.out Hb1.out (Nat.le_refl _)⟩
def whoL4 : List ByteArray := [⟨#[112, 97, 114, 105, 115]⟩, ⟨#[108, 111, 110, 100, 111, 110]⟩, ⟨#[98, 111, 110, 110]⟩, ⟨#[114, 111, 109, 101]⟩]
def WhoR (w : World) (e : Ending) (w' : World) : Prop := ∃ (v : Value) (xs : List Ln) (s : ByteArray), e = .returned (.tuple #[v, .string s]) ∧ NewLs w w' v xs
set_option maxRecDepth 100000 in
set_option maxHeartbeats 800000 in
theorem drawLO_any (B : Nat) (cv : Value) (bs : List UInt8) (w : World) (h : Rd w B cv bs.length 1 (bs.map byV)) (hB : B ≤ w.heap.size) : Calls Try.prog 16 #[cv] w (WhoR w) := by
  have HF := Lib.hid (l00From_any B cv bs w h hB)
  obtain ⟨_, A, c, rfl, _⟩ := h
  go_enter Try.func16, Try.ntmps16
  go_wp2_with fail
  refine HF.out.mono ?_; rintro e w1 ⟨rfl, hs1, hb1, hl1⟩
  have Hs1 := Lib.hid hs1
  have Hb1 := Lib.hid hb1
  clear hs1 hb1 HF
  go_wp2_with fail
  refine (l23Bent_any B _ 0 bs _ Hs1.out (by omega)).mono ?_; rintro e w2 ⟨v2, xs, rfl, hd2⟩
  obtain ⟨b0, c0, rfl⟩ := hd2.nn
  have HD2 := Lib.hid hd2
  clear hd2 Hs1
  go_wp2_with fail
  refine (text_new B _ _ 4 whoL4 bs w2 HD2.out.dr.src (by omega) rfl (by omega) (by omega)).mono ?_; rintro e w3 ⟨z, _, rfl, hs3, hg3⟩
  have HD3 := Lib.hid (HD2.out.draw hs3 hg3)
  clear hs3 hg3
  go_wp2_with fail
  go_ret2
  exact ⟨_, xs, z, rfl, NewLs.of HD3.out Hb1.out (Nat.le_refl _)⟩
theorem results_tmp4 {fn : Func} {t u v x : Tmp} (h : fn.results = #[.tmp t, .tmp u, .tmp v, .tmp x]) (tmps : Array Value) (P : Program) (w : World) :
    (results fn tmps).run P w = .ok (.tuple #[tmps.getD t undef, tmps.getD u undef, tmps.getD v undef, tmps.getD x undef]) w := by
  simp [results, h]
def FreeR (w : World) (e : Ending) (w' : World) : Prop := ∃ (v : Value) (xs : List Ln) (s : ByteArray) (d n : Int), e = .returned (.tuple #[v, .string s, .int .i64 d, .int .i64 n]) ∧ NewLs w w' v xs ∧ s.size ≤ 16
set_option maxRecDepth 100000 in
set_option maxHeartbeats 1600000 in
theorem drawFF_any (B : Nat) (cv : Value) (bs : List UInt8) (w : World) (h : Rd w B cv bs.length 1 (bs.map byV)) (hB : B ≤ w.heap.size) : Calls Try.prog 7 #[cv] w (FreeR w) := by
  have HF := Lib.hid (l00From_any B cv bs w h hB)
  have H := Lib.hid h
  obtain ⟨_, A, c, rfl, _⟩ := h
  go_enter Try.func7, Try.ntmps7
  go_wp2_with fail
  refine HF.out.mono ?_; rintro e w1 ⟨rfl, hs1, hb1, hl1⟩
  have Hs1 := Lib.hid hs1
  have Hb1 := Lib.hid hb1
  have HT := Lib.hid (l23Two2_any B _ bs w1 (H.out.below (hb1.mono hB)) (Nat.le_trans hB hb1.size))
  clear hs1 hb1 HF
  go_wp2_with fail
  refine HT.out.mono ?_; rintro e w2 ⟨v2, xs, s, d, rfl, hn, hs16⟩
  obtain ⟨b0, c0, rfl⟩ := hn.nn
  have HD2 := Lib.hid (show DrM w1 w2 B w.heap.size 0 bs _ xs from ⟨⟨hl1, Hs1.out.below hn.bel, hn.own, grown_of_below hn.bel _⟩, hn.len, hn.sm, hn.nn⟩)
  clear hn Hs1 HT
  go_wp2_with fail
  refine (pick_any B _ _ bs 20 _ HD2.out.dr.src (by omega)).mono ?_; rintro e w3 ⟨y, rfl, ⟨hy0, hy1, _⟩, hs3, hg3⟩
  have hy20 := hy1 (by omega)
  have HD3 := Lib.hid (HD2.out.draw hs3 hg3)
  have hwr : IntKind.i64.wrap (1 + y) = 1 + y := IntWalk.i64_in _ (by omega)
  clear hs3 hg3 hy1 HD2
  go_wp2_with fail
  refine (pick_any B _ _ bs 12 _ HD3.out.dr.src (by omega)).mono ?_; rintro e w4 ⟨x, rfl, ⟨hx0, hx1, _⟩, hs4, hg4⟩
  have HD4 := Lib.hid (HD3.out.draw hs4 hg4)
  clear hs4 hg4 hx1 HD3
  by_cases e0 : x = 0
  · subst e0
    go_wp2_with fail
    refine (among_in B _ _ 5 [-1, 0, 1000, 1001, 9223372036854775807] bs w4 HD4.out.dr.src (by omega) rfl (by omega) (by omega)).mono ?_; rintro e w5 ⟨z, hz, rfl, hs5, hg5⟩
    have HD5 := Lib.hid (HD4.out.draw hs5 hg5)
    clear hs5 hg5
    go_wp2_with fail
    ((try simp only [Exit.inBlock, Exit.then]); refine bodyPost_ret (results_tmp4 rfl _ _ _) rfl ?_)
    exact ⟨_, xs, s, d, z, rfl, NewLs.of HD5.out Hb1.out (Nat.le_refl _), hs16⟩
  have b0 : (x == 0) = false := by simpa using e0
  by_cases e1 : x = 1
  · subst e1
    go_wp2_with fail
    refine (among_in B _ _ 5 [-1, 99999, 100000, 100001, 9223372036854775807] bs w4 HD4.out.dr.src (by omega) rfl (by omega) (by omega)).mono ?_; rintro e w5 ⟨z, hz, rfl, hs5, hg5⟩
    have HD5 := Lib.hid (HD4.out.draw hs5 hg5)
    clear hs5 hg5
    go_wp2_with fail
    ((try simp only [Exit.inBlock, Exit.then]); refine bodyPost_ret (results_tmp4 rfl _ _ _) rfl ?_)
    exact ⟨_, xs, s, z, 1 + y, rfl, NewLs.of HD5.out Hb1.out (Nat.le_refl _), hs16⟩
  have b1 : (x == 1) = false := by simpa using e1
  go_wp2_with fail
  ((try simp only [Exit.inBlock, Exit.then]); refine bodyPost_ret (results_tmp4 rfl _ _ _) rfl ?_)
  exact ⟨_, xs, s, d, 1 + y, rfl, NewLs.of HD4.out Hb1.out (Nat.le_refl _), hs16⟩
end Go.Proofs.Ytmheijnckmlbnaa
/- Loans: small contracts for the laws. -/
namespace Go.Proofs.Ytmheijnckmlbnaa
open Go.RowKit Go.Joins

set_option maxRecDepth 100000 in
set_option maxHeartbeats 1600000 in
/-- a day at which nothing is lent: the row may be empty -/
theorem BorrowN_any (B : Nat) (v : Value) (xs : List Ln) (s : ByteArray) (d : Int) (w : World) (h : RdL w B v xs) (hB : B ≤ w.heap.size) (hl : xs.length ≤ 1048576) (hsm : ∀ x ∈ xs, smL x) (hcap : ∀ A n c, v = .slice A n c → n ≤ c ∧ c ≤ maxLen) (hok : loansOk xs = true) (hn : askLc xs s d = 3) :
    Calls Try.prog 20 #[v, .string s, .int .i64 d] w fun e w' => e = .returned (.tuple #[.string ⟨#[]⟩, .int .i64 3]) ∧ Below w.heap.size w w' := by
  have HV := Lib.hid (ValidLoansI_any B v xs w h hB hl hsm hcap)
  have HA := Lib.hid (fun wx hx hz => loanAt_any B v xs s d wx hx hz hl)
  have H := Lib.hid h
  obtain ⟨A, c, rfl⟩ := h.slice
  rcases can_cases xs s d with ⟨g1, g2, _, _, g3⟩ | ⟨g1, g2, g3, _, _, g4⟩ | ⟨i, hi, g1, g2, g3, _, _, g4⟩
  · rw [hok] at g1; cases g1
  · rw [g1] at HV
    rw [g2] at HA
    clear g1 g2 h hsm hok hn g3 g4 hcap
    go_enter Try.func20, Try.ntmps20
    go_wp2_with fail
    refine HV.out.mono ?_; rintro e w1 ⟨rfl, hb1⟩
    go_wp2_with fail
    refine (HA.out _ (H.out.below (hb1.mono hB)) (Nat.le_trans hB hb1.size)).mono ?_; rintro e w2 ⟨rfl, hb2⟩
    go_wp2_with fail
    go_ret2
    exact ⟨rfl, hb1.trans (hb2.mono hb1.size)⟩
  · rw [hn] at g3; cases g3
set_option maxRecDepth 100000 in
set_option maxHeartbeats 400000 in
theorem f6big_l (B n : Nat) (v : Value) (xs : List Value) (w : World) (h : Rd w B v n 1 xs) : Calls Try.prog 6 #[v] w fun e w' => e = .returned (.bool (decide (4096 < n))) ∧ w = w' := by
  obtain ⟨_, A, c, rfl, _⟩ := h
  by_cases hn : 4096 < n
  · have hn' : (4096 : Int) < (n : Int) := by omega
    rw [decide_eq_true hn]
    go_enter Try.func6, Try.ntmps6
    go_wp2_with fail
    go_ret
    exact ⟨rfl, rfl⟩
  · have hn' : ¬ (4096 : Int) < (n : Int) := by omega
    rw [decide_eq_false hn]
    go_enter Try.func6, Try.ntmps6
    go_wp2_with fail
    go_ret
    exact ⟨rfl, rfl⟩
theorem below_eqL {w w' : World} {n : Nat} (h : w' = w.drewN n) : Below w.heap.size w w' := by rw [h]; exact below_drewN (Below.refl _ _) n
theorem rdNL {w w' : World} {v : Value} {xs : List Ln} (h : RdL w w.heap.size v xs) (hb : Below w.heap.size w w') : RdL w' w'.heap.size v xs := h.next hb
theorem blkN {w w' : World} {q : Nat} {o : Obj} (h : w.heap[q]? = some o) (hb : Below w.heap.size w w') : w'.heap[q]? = some o := (hb.block q (Array.getElem?_eq_some_iff.1 h).1).trans h
theorem rdL_some {w : World} {B n c : Nat} {A : Option Addr} {xs : List Ln} (h : RdL w B (.slice A n c) xs) (hn : 0 < xs.length) : ∃ b o, A = some ⟨b, o, none⟩ := by
  obtain ⟨_, A', c', hv, h2⟩ := h
  injection hv with e1 _ _
  obtain ⟨b, o, hA, _⟩ := h2 (by omega)
  exact ⟨b, o, e1.trans hA⟩
end Go.Proofs.Ytmheijnckmlbnaa
