/- Loans, part 16: finding a loan, both sides. -/
import Derived.Test.YtfaoilonkonmkaaLo14
namespace Go.Proofs.Ytfaoilonkonmkaa
open Go.RowKit Go.Joins

def hits (x : Ln) (ex : ByteArray) (day : Int) : Bool := decide (x.what = ex) && inB day x.from_ x.till
theorem hit_cases (x : Ln) (ex : ByteArray) (day : Int) : ((x.what.toList == ex.toList) = false ∧ hits x ex day = false) ∨ ((x.what.toList == ex.toList) = true ∧ inB day x.from_ x.till = false ∧ hits x ex day = false) ∨
    ((x.what.toList == ex.toList) = true ∧ inB day x.from_ x.till = true ∧ hits x ex day = true) := by
  unfold hits
  by_cases h : x.what = ex
  · rw [h]
    cases inB day x.from_ x.till <;> simp
  · exact .inl ⟨beq_eq_false_iff_ne.2 fun e => h (ba_inj e), by simp [h]⟩
def findL : List Ln → ByteArray → Int → Nat → Int
  | [], _, _, _ => -1
  | x :: l, s, d, k => if hits x s d = true then (k : Int) else findL l s d (k + 1)
theorem findL_at (xs : List Ln) (s : ByteArray) (d : Int) (k : Nat) (hk : k < xs.length) : findL (xs.drop k) s d k = if hits xs[k] s d = true then (k : Int) else findL (xs.drop (k + 1)) s d (k + 1) := by
  rw [List.drop_eq_getElem_cons hk]; rfl
theorem findL_end (xs : List Ln) (s : ByteArray) (d : Int) (k : Nat) (hk : xs.length ≤ k) : findL (xs.drop k) s d k = -1 := by rw [List.drop_of_length_le hk]; rfl
theorem findL_bd (s : ByteArray) (d : Int) : ∀ (xs : List Ln) (k : Nat), findL xs s d k = -1 ∨ ∃ i, i < xs.length ∧ findL xs s d k = ((k + i : Nat) : Int) := by
  intro xs
  induction xs with
  | nil => intro k; exact .inl rfl
  | cons x l ih =>
    intro k
    unfold findL
    split
    · exact .inr ⟨0, by simp, rfl⟩
    · rcases ih (k + 1) with h | ⟨i, h1, h2⟩
      · exact .inl h
      · exact .inr ⟨i + 1, by simp; omega, by rw [h2]; congr 1; omega⟩

set_option maxRecDepth 100000 in
set_option maxHeartbeats 1600000 in
theorem loanAt_any (B : Nat) (v : Value) (xs : List Ln) (s : ByteArray) (d : Int) (w : World) (h : RdL w B v xs) (hB : B ≤ w.heap.size) (hl : xs.length ≤ 1048576) :
    Calls Try.prog 108 #[v, .string s, .int .i64 d] w fun e w' => e = .returned (.int .i64 (findL xs s d 0)) ∧ Below w.heap.size w w' := by
  have H := Lib.hid h
  obtain ⟨A, c, rfl⟩ := h.slice
  clear h
  have hb0 := Below.refl w.heap.size w
  go_enter Try.func108, Try.ntmps108
  go_wp2_with fail
  go_loopw [11] (fun i wr => ∃ k : Nat, k ≤ xs.length ∧ findL xs s d 0 = findL (xs.drop k) s d k ∧ i = .int .i64 (k : Int) ∧ Below w.heap.size w wr) (fun i _ => xs.length - (intOf i).toNat)
  case atStart => exact ⟨0, Nat.zero_le _, rfl, rfl, hb0⟩
  case round =>
    obtain ⟨k, hk, heq, rfl, hbl⟩ := hrel
    have Heq := Lib.hid heq; clear heq
    by_cases hlt : k < xs.length
    · obtain ⟨b1, o1, hA, hE⟩ := (H.out.below (hbl.mono hB)).at k hlt
      subst hA
      have hlt' : (k : Int) < (xs.length : Int) := by omega
      have Hst := Lib.hid (findL_at xs s d k hlt)
      generalize xs[k] = x at *
      have HB := Lib.hid (fun wx => between_any d x.from_ x.till wx)
      have hcs := hit_cases x s d
      obtain ⟨xa, xb, xf, xt⟩ := x
      obtain ⟨hbB, e0, e1, e2, e3⟩ := hE
      dsimp only at e0 e1 e2 e3 HB hcs
      have hba := Lib.hid (hbl.alloc hbl.size (.cells #[.string xa, .string xb, .int .i64 xf, .int .i64 xt] 63))
      clear hbl
      rcases hcs with ⟨g1, hf⟩ | ⟨g1, g2, hf⟩ | ⟨g1, g2, hf⟩
      · have hfin := Lib.hid (show findL xs s d 0 = findL (xs.drop (k + 1)) s d (k + 1) by rw [Heq.out, Hst.out]; exact if_neg (by rw [hf]; simp))
        clear hf
        go_wp2_with fail
        go_roundw
        case rel => exact ⟨k + 1, by omega, hfin.out, by go_num, hba.out⟩
        case measure => simp [intOf]; omega
      · have hfin := Lib.hid (show findL xs s d 0 = findL (xs.drop (k + 1)) s d (k + 1) by rw [Heq.out, Hst.out]; exact if_neg (by rw [hf]; simp))
        rw [g2] at HB
        clear hf g2
        go_wp2_with fail
        refine (HB.out _).mono ?_; rintro e w1 ⟨rfl, rfl⟩
        go_wp2_with fail
        go_roundw
        case rel => exact ⟨k + 1, by omega, hfin.out, by go_num, hba.out⟩
        case measure => simp [intOf]; omega
      · have hfin := Lib.hid (show findL xs s d 0 = (k : Int) by rw [Heq.out, Hst.out]; exact if_pos hf)
        rw [g2] at HB
        clear hf g2
        go_wp2_with fail
        refine (HB.out _).mono ?_; rintro e w1 ⟨rfl, rfl⟩
        go_wp2_with fail
        go_ret
        rw [hfin.out]; exact ⟨rfl, hba.out⟩
    · have hfin := Lib.hid (show findL xs s d 0 = -1 by rw [Heq.out, findL_end xs s d k (by omega)])
      have hlt' : (xs.length : Int) ≤ (k : Int) := by omega
      go_wp2_with fail
      go_ret
      rw [hfin.out]; exact ⟨rfl, hbl⟩

set_option maxRecDepth 100000 in
set_option maxHeartbeats 1600000 in
theorem l23Find_any (B : Nat) (v : Value) (xs : List Ln) (s : ByteArray) (d : Int) (w : World) (h : RdL w B v xs) (hl : xs.length ≤ 1048576) :
    Calls Try.prog 155 #[v, .string s, .int .i64 d] w fun e w' => e = .returned (.int .i64 (findL xs s d 0)) ∧ ∃ n, w' = w.drewN n := by
  have H := Lib.hid h
  obtain ⟨A, c, rfl⟩ := h.slice
  clear h
  go_enter Try.func155, Try.ntmps155
  go_wp2_with fail
  go_loopw [7] (fun i wr => ∃ k m0 : Nat, k ≤ xs.length ∧ findL xs s d 0 = findL (xs.drop k) s d k ∧ i = .int .i64 (k : Int) ∧ wr = w.drewN m0) (fun i _ => xs.length - (intOf i).toNat)
  case atStart => exact ⟨0, 0, Nat.zero_le _, rfl, rfl, rfl⟩
  case round =>
    obtain ⟨k, m0, hk, heq, rfl, hwr⟩ := hrel
    have Heq := Lib.hid heq; clear heq
    have Hw := Lib.hid (fun n => (show wr.drewN n = w.drewN (m0 + n) by rw [hwr, World.drewN_drewN]))
    have Hw0 := Lib.hid hwr
    have Hr : Hid (RdL wr B (.slice A xs.length c) xs) := Lib.hid (by rw [hwr]; exact H.out.drewN m0)
    clear hwr
    by_cases hlt : k < xs.length
    · obtain ⟨b1, o1, hA, hE⟩ := Hr.out.at k hlt
      subst hA
      have hlt' : (k : Int) < (xs.length : Int) := by omega
      have Hst := Lib.hid (findL_at xs s d k hlt)
      generalize xs[k] = x at *
      have HB := Lib.hid (fun wx => flipC (l00In_any d x.from_ x.till wx))
      have hcs := hit_cases x s d
      obtain ⟨xa, xb, xf, xt⟩ := x
      obtain ⟨hbB, e0, e1, e2, e3⟩ := hE
      dsimp only at e0 e1 e2 e3 HB hcs
      clear e1
      rcases hcs with ⟨g1, hf⟩ | ⟨g1, g2, hf⟩ | ⟨g1, g2, hf⟩
      · have hfin := Lib.hid (show findL xs s d 0 = findL (xs.drop (k + 1)) s d (k + 1) by rw [Heq.out, Hst.out]; exact if_neg (by rw [hf]; simp))
        clear hf
        go_wp2_with fail
        go_quiet (fail)
        go_wp2_with fail
        go_roundw
        case rel => exact ⟨k + 1, _, by omega, hfin.out, by go_num, Hw.out _⟩
        case measure => simp [intOf]; omega
      · have hfin := Lib.hid (show findL xs s d 0 = findL (xs.drop (k + 1)) s d (k + 1) by rw [Heq.out, Hst.out]; exact if_neg (by rw [hf]; simp))
        rw [g2] at HB
        clear hf g2
        go_wp2_with fail
        go_quiet ((go_at_call 122; exact Calls.quiet_of_same (HB.out _)))
        go_wp2_with fail
        go_roundw
        case rel => exact ⟨k + 1, _, by omega, hfin.out, by go_num, Hw.out _⟩
        case measure => simp [intOf]; omega
      · have hfin := Lib.hid (show findL xs s d 0 = (k : Int) by rw [Heq.out, Hst.out]; exact if_pos hf)
        rw [g2] at HB
        clear hf g2
        go_wp2_with fail
        go_quiet ((go_at_call 122; exact Calls.quiet_of_same (HB.out _)))
        go_wp2_with fail
        go_ret
        rw [hfin.out]; exact ⟨rfl, _, Hw.out _⟩
    · have hfin := Lib.hid (show findL xs s d 0 = -1 by rw [Heq.out, findL_end xs s d k (by omega)])
      have hlt' : (xs.length : Int) ≤ (k : Int) := by omega
      go_wp2_with fail
      go_ret
      rw [hfin.out]; exact ⟨rfl, _, Hw0.out⟩

def askLc (xs : List Ln) (s : ByteArray) (d : Int) : Int := if loansOk xs = false then 1 else if findL xs s d 0 < 0 then 3 else 0
def askLi (xs : List Ln) (s : ByteArray) (d : Int) : Int := if askLc xs s d = 0 then findL xs s d 0 else 0
theorem askL_cases (xs : List Ln) (s : ByteArray) (d : Int) : (loansOk xs = false ∧ askLc xs s d = 1 ∧ askLi xs s d = 0) ∨ (loansOk xs = true ∧ findL xs s d 0 = -1 ∧ askLc xs s d = 3 ∧ askLi xs s d = 0) ∨
    ∃ i : Nat, i < xs.length ∧ loansOk xs = true ∧ findL xs s d 0 = (i : Int) ∧ askLc xs s d = 0 ∧ askLi xs s d = (i : Int) := by
  cases h : loansOk xs with
  | false =>
    have : askLc xs s d = 1 := by unfold askLc; rw [if_pos h]
    exact .inl ⟨rfl, this, by unfold askLi; rw [this]; rfl⟩
  | true =>
    rcases findL_bd s d xs 0 with h1 | ⟨i, hi, h1⟩
    · have : askLc xs s d = 3 := by unfold askLc; rw [h, h1]; rfl
      exact .inr (.inl ⟨rfl, h1, this, by unfold askLi; rw [this]; rfl⟩)
    · rw [Nat.zero_add] at h1
      have : askLc xs s d = 0 := by unfold askLc; rw [h, h1, if_neg (by simp), if_neg (by omega)]
      exact .inr (.inr ⟨i, hi, rfl, h1, this, by unfold askLi; rw [if_pos this, h1]⟩)

set_option maxRecDepth 100000 in
set_option maxHeartbeats 1600000 in
theorem l23Ask_any (B : Nat) (v : Value) (xs : List Ln) (s : ByteArray) (d : Int) (w : World) (h : RdL w B v xs) (hl : xs.length ≤ 1048576) (hsm : ∀ x ∈ xs, smL x) :
    Calls Try.prog 107 #[v, .string s, .int .i64 d] w fun e w' => e = .returned (.tuple #[.int .i64 (askLi xs s d), .int .i64 (askLc xs s d)]) ∧ ∃ n, w' = w.drewN n := by
  have HV := Lib.hid (l23Ok_any B v xs w h hl hsm)
  have HF := Lib.hid (fun n => l23Find_any B v xs s d (w.drewN n) (h.drewN n) hl)
  have hcs := askL_cases xs s d
  obtain ⟨A, c, rfl⟩ := h.slice
  clear h hsm
  rcases hcs with ⟨g1, g2, g3⟩ | ⟨g1, g2, g3, g4⟩ | ⟨i, hi, g1, g2, g3, g4⟩
  · rw [g2, g3]
    rw [g1] at HV
    clear g1 g2 g3
    go_enter Try.func107, Try.ntmps107
    go_wp2_with fail
    refine HV.out.mono ?_; rintro e w1 ⟨rfl, n1, rfl⟩
    go_wp2_with fail
    go_ret2
    exact ⟨rfl, _, rfl⟩
  · rw [g3, g4]
    rw [g1] at HV
    rw [g2] at HF
    clear g1 g2 g3 g4
    go_enter Try.func107, Try.ntmps107
    go_wp2_with fail
    refine HV.out.mono ?_; rintro e w1 ⟨rfl, n1, rfl⟩
    go_wp2_with fail
    refine (HF.out n1).mono ?_; rintro e w2 ⟨rfl, n2, rfl⟩
    go_wp2_with fail
    go_ret2
    exact ⟨rfl, _, rfl⟩
  · rw [g3, g4]
    rw [g1] at HV
    rw [g2] at HF
    have hi0 : ¬ ((i : Int) < 0) := by omega
    clear g1 g2 g3 g4
    go_enter Try.func107, Try.ntmps107
    go_wp2_with fail
    refine HV.out.mono ?_; rintro e w1 ⟨rfl, n1, rfl⟩
    go_wp2_with fail
    refine (HF.out n1).mono ?_; rintro e w2 ⟨rfl, n2, rfl⟩
    go_wp2_with fail
    go_ret2
    exact ⟨rfl, _, rfl⟩
end Go.Proofs.Ytfaoilonkonmkaa
