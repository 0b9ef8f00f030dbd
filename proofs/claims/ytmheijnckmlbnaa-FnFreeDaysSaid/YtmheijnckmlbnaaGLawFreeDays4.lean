/- Merged texts: Lo16, Lo17, Lq1, Lib5, Lib7, Lq2, Lq3, Lq6, Fd1, Fd2, Fd3. -/
import Derived.Test.YtmheijnckmlbnaaGLawFreeDays3
import Derived.Test.YtmheijnckmlbnaaGLawFreeDays1
import Derived.Lib.SmallJoins
import Derived.Test.YtmheijnckmlbnaaGLawFreeDays2
import Derived.Deep.DeepCutAuto
import Derived.Deep.CutRange
/- Loans, part 16: finding a loan, both sides. -/
namespace Go.Proofs.Ytmheijnckmlbnaa
open Go.RowKit Go.Joins

def hits (x : Ln) (ex : ByteArray) (day : Int) : Bool := decide (x.what = ex) && inB day x.from_ x.till
theorem hit_cases (x : Ln) (ex : ByteArray) (day : Int) : ((x.what.toList == ex.toList) = false ∧ hits x ex day = false) ∨ ((x.what.toList == ex.toList) = true ∧ inB day x.from_ x.till = false ∧ hits x ex day = false) ∨
    ((x.what.toList == ex.toList) = true ∧ inB day x.from_ x.till = true ∧ hits x ex day = true) := by
  unfold hits
  by_cases h : x.what = ex
  · rw [h]
    cases inB day x.from_ x.till <;> simp
  · exact .inl ⟨beq_eq_false_iff_ne.2 fun e => h (ba_inj e), by simp [h]⟩
def findL : List Ln → ByteArray → Int → Nat → Int
  | [], _, _, _ => -1
  | x :: l, s, d, k => if hits x s d = true then (k : Int) else findL l s d (k + 1)
theorem findL_at (xs : List Ln) (s : ByteArray) (d : Int) (k : Nat) (hk : k < xs.length) : findL (xs.drop k) s d k = if hits xs[k] s d = true then (k : Int) else findL (xs.drop (k + 1)) s d (k + 1) := by
  rw [List.drop_eq_getElem_cons hk]; rfl
theorem findL_end (xs : List Ln) (s : ByteArray) (d : Int) (k : Nat) (hk : xs.length ≤ k) : findL (xs.drop k) s d k = -1 := by rw [List.drop_of_length_le hk]; rfl
theorem findL_bd (s : ByteArray) (d : Int) : ∀ (xs : List Ln) (k : Nat), findL xs s d k = -1 ∨ ∃ i, i < xs.length ∧ findL xs s d k = ((k + i : Nat) : Int) := by
  intro xs
  induction xs with
  | nil => intro k; exact .inl rfl
  | cons x l ih =>
    intro k
    unfold findL
    split
    · exact .inr ⟨0, by simp, rfl⟩
    · rcases ih (k + 1) with h | ⟨i, h1, h2⟩
      · exact .inl h
      · exact .inr ⟨i + 1, by simp; omega, by rw [h2]; congr 1; omega⟩

set_option maxRecDepth 100000 in
set_option maxHeartbeats 1600000 in
theorem loanAt_any (B : Nat) (v : Value) (xs : List Ln) (s : ByteArray) (d : Int) (w : World) (h : RdL w B v xs) (hB : B ≤ w.heap.size) (hl : xs.length ≤ 1048576) :
    Calls Try.prog 60 #[v, .string s, .int .i64 d] w fun e w' => e = .returned (.int .i64 (findL xs s d 0)) ∧ Below w.heap.size w w' := by
  have H := Lib.hid h
  obtain ⟨A, c, rfl⟩ := h.slice
  clear h
  have hb0 := Below.refl w.heap.size w
  go_enter Try.func60, Try.ntmps60
  go_wp2_with fail
  go_loopw [11] (fun i wr => ∃ k : Nat, k ≤ xs.length ∧ findL xs s d 0 = findL (xs.drop k) s d k ∧ i = .int .i64 (k : Int) ∧ Below w.heap.size w wr) (fun i _ => xs.length - (intOf i).toNat)
  case atStart => exact ⟨0, Nat.zero_le _, rfl, rfl, hb0⟩
  case round =>
    obtain ⟨k, hk, heq, rfl, hbl⟩ := hrel
    have Heq := Lib.hid heq; clear heq
    by_cases hlt : k < xs.length
    · obtain ⟨b1, o1, hA, hE⟩ := (H.out.below (hbl.mono hB)).at k hlt
      subst hA
      have hlt' : (k : Int) < (xs.length : Int) := by omega
      have Hst := Lib.hid (findL_at xs s d k hlt)
      generalize xs[k] = x at *
      have HB := Lib.hid (fun wx => between_any d x.from_ x.till wx)
      have hcs := hit_cases x s d
      obtain ⟨xa, xb, xf, xt⟩ := x
      obtain ⟨hbB, e0, e1, e2, e3⟩ := hE
      dsimp only at e0 e1 e2 e3 HB hcs
      have hba := Lib.hid (hbl.alloc hbl.size (.cells #[.string xa, .string xb, .int .i64 xf, .int .i64 xt] 40))
      clear hbl
      rcases hcs with ⟨g1, hf⟩ | ⟨g1, g2, hf⟩ | ⟨g1, g2, hf⟩
      · have hfin := Lib.hid (show findL xs s d 0 = findL (xs.drop (k + 1)) s d (k + 1) by rw [Heq.out, Hst.out]; exact if_neg (by rw [hf]; simp))
        clear hf
        go_wp2_with fail
        go_roundw
        case rel => exact ⟨k + 1, by omega, hfin.out, by go_num, hba.out⟩
        case measure => simp [intOf]; omega
      · have hfin := Lib.hid (show findL xs s d 0 = findL (xs.drop (k + 1)) s d (k + 1) by rw [Heq.out, Hst.out]; exact if_neg (by rw [hf]; simp))
        rw [g2] at HB
        clear hf g2
        go_wp2_with fail
        refine (HB.out _).mono ?_; rintro e w1 ⟨rfl, rfl⟩
        go_wp2_with fail
        go_roundw
        case rel => exact ⟨k + 1, by omega, hfin.out, by go_num, hba.out⟩
        case measure => simp [intOf]; omega
      · have hfin := Lib.hid (show findL xs s d 0 = (k : Int) by rw [Heq.out, Hst.out]; exact if_pos hf)
        rw [g2] at HB
        clear hf g2
        go_wp2_with fail
        refine (HB.out _).mono ?_; rintro e w1 ⟨rfl, rfl⟩
        go_wp2_with fail
        go_ret
        rw [hfin.out]; exact ⟨rfl, hba.out⟩
    · have hfin := Lib.hid (show findL xs s d 0 = -1 by rw [Heq.out, findL_end xs s d k (by omega)])
      have hlt' : (xs.length : Int) ≤ (k : Int) := by omega
      go_wp2_with fail
      go_ret
      rw [hfin.out]; exact ⟨rfl, hbl⟩

def askLc (xs : List Ln) (s : ByteArray) (d : Int) : Int := if loansOk xs = false then 1 else if findL xs s d 0 < 0 then 3 else 0
def askLi (xs : List Ln) (s : ByteArray) (d : Int) : Int := if askLc xs s d = 0 then findL xs s d 0 else 0
theorem askL_cases (xs : List Ln) (s : ByteArray) (d : Int) : (loansOk xs = false ∧ askLc xs s d = 1 ∧ askLi xs s d = 0) ∨ (loansOk xs = true ∧ findL xs s d 0 = -1 ∧ askLc xs s d = 3 ∧ askLi xs s d = 0) ∨
    ∃ i : Nat, i < xs.length ∧ loansOk xs = true ∧ findL xs s d 0 = (i : Int) ∧ askLc xs s d = 0 ∧ askLi xs s d = (i : Int) := by
  cases h : loansOk xs with
  | false =>
    have : askLc xs s d = 1 := by unfold askLc; rw [if_pos h]
    exact .inl ⟨rfl, this, by unfold askLi; rw [this]; rfl⟩
  | true =>
    rcases findL_bd s d xs 0 with h1 | ⟨i, hi, h1⟩
    · have : askLc xs s d = 3 := by unfold askLc; rw [h, h1]; rfl
      exact .inr (.inl ⟨rfl, h1, this, by unfold askLi; rw [this]; rfl⟩)
    · rw [Nat.zero_add] at h1
      have : askLc xs s d = 0 := by unfold askLc; rw [h, h1, if_neg (by simp), if_neg (by omega)]
      exact .inr (.inr ⟨i, hi, rfl, h1, this, by unfold askLi; rw [if_pos this, h1]⟩)

end Go.Proofs.Ytmheijnckmlbnaa
/- Loans, part 17: a loan ends early, both sides. -/
namespace Go.Proofs.Ytmheijnckmlbnaa
open Go.RowKit Go.Joins

theorem own_pos {w : World} {base n size : Nat} {e : TypeId} {v : Value} {cs : List Value} (h : w.ownsRow base e size v n cs) (hn : 0 < n) : ∃ g cap, v = .slice (some ⟨g, 0, none⟩) n cap := by
  rcases ownsRow_forms h with ⟨_, h0⟩ | ⟨g, cap, rfl⟩
  · omega
  · exact ⟨g, cap, rfl⟩
theorem own_cell {w : World} {base n size g cap : Nat} {e : TypeId} {cs : List Value} (h : w.ownsRow base e size (.slice (some ⟨g, 0, none⟩) n cap) n cs) (j : Nat) (hj : j < n * size) : ∃ u, w.cell? ⟨g, j, none⟩ = some u ∧ w.frozen? ⟨g, j, none⟩ = false := by
  obtain ⟨u, hu⟩ : ∃ u, cs[j]? = some u := ⟨_, List.getElem?_eq_getElem (by have := h.1; omega)⟩
  exact ⟨u, (h.cellAt j (by omega)).trans hu, h.frozenAt j⟩
theorem flat_set4 (xs : List Ln) (i : Nat) (hi : i < xs.length) (a b : ByteArray) (f t : Int) :
    (((((xs.flatMap cellsL).set (i * 4) (.string a)).set (i * 4 + 1) (.string b)).set (i * 4 + 2) (.int .i64 f)).set (i * 4 + 3) (.int .i64 t)) = (xs.set i ⟨a, b, f, t⟩).flatMap cellsL := by
  have e : (xs.drop i).flatMap cellsL = cellsL xs[i] ++ (xs.drop (i + 1)).flatMap cellsL := by rw [List.drop_eq_getElem_cons hi, List.flatMap_cons]
  rw [flat_part i, set4 _ _ (i * 4) (by rw [flat_len cellsL 4 (fun _ => rfl), List.length_take]; omega) (by rw [flat_len cellsL 4 (fun _ => rfl), List.length_drop]; omega), e, List.set_eq_take_append_cons_drop, if_pos hi, List.flatMap_append, List.flatMap_cons]
  simp [cellsL]
theorem flat_setT (xs : List Ln) (d : Int) : ∀ (i : Nat) (hi : i < xs.length), (xs.flatMap cellsL).set (i * 4 + 3) (.int .i64 d) = (xs.set i ⟨xs[i].what, xs[i].who, xs[i].from_, d⟩).flatMap cellsL := by
  induction xs with
  | nil => intro i hi; simp at hi
  | cons x l ih =>
    intro i hi
    cases i with
    | zero => simp [cellsL]
    | succ j =>
      have hj : j < l.length := by simpa using hi
      have e1 : ((x :: l).flatMap cellsL) = cellsL x ++ l.flatMap cellsL := by rw [List.flatMap_cons]
      have e2 : (x :: l)[j + 1] = l[j] := rfl
      rw [e1, e2, List.set_cons_succ, List.flatMap_cons, ← ih j hj, List.set_append_right _ _ (by simp [cellsL]; omega)]
      congr 2
      simp [cellsL]; omega
theorem own_loan {w : World} {base g cap : Nat} {xs : List Ln} (h : w.ownsRow base 40 4 (.slice (some ⟨g, 0, none⟩) xs.length cap) xs.length (xs.flatMap cellsL)) (i : Nat) (hi : i < xs.length) :
    w.cell? ⟨g, i * 4, none⟩ = some (.string xs[i].what) ∧ w.cell? ⟨g, i * 4 + 1, none⟩ = some (.string xs[i].who) ∧ w.cell? ⟨g, i * 4 + 2, none⟩ = some (.int .i64 xs[i].from_) ∧ w.cell? ⟨g, i * 4 + 3, none⟩ = some (.int .i64 xs[i].till) := by
  have hr : RdL w w.heap.size (.slice (some ⟨g, 0, none⟩) xs.length cap) xs := Rd.of_own h
  obtain ⟨b1, o1, hA, hE⟩ := hr.at i hi
  obtain ⟨rfl, rfl⟩ : g = b1 ∧ 0 = o1 := by simpa using hA
  rw [Nat.zero_add] at hE
  exact ⟨hE.c0, hE.c1, hE.c2, hE.c3⟩
def retR (xs : List Ln) (s : ByteArray) (d : Int) : List Ln :=
  if askLc xs s d = 0 then xs.set (askLi xs s d).toNat ⟨(atL xs (askLi xs s d).toNat).what, (atL xs (askLi xs s d).toNat).who, (atL xs (askLi xs s d).toNat).from_, d⟩ else []
theorem retR_len (xs : List Ln) (s : ByteArray) (d : Int) : (retR xs s d).length ≤ xs.length := by
  unfold retR; split <;> simp
theorem ret_cases (xs : List Ln) (s : ByteArray) (d : Int) : (loansOk xs = false ∧ askLc xs s d = 1 ∧ askLi xs s d = 0 ∧ retR xs s d = []) ∨ (loansOk xs = true ∧ findL xs s d 0 = -1 ∧ askLc xs s d = 3 ∧ askLi xs s d = 0 ∧ retR xs s d = []) ∨
    ∃ (i : Nat) (hi : i < xs.length), loansOk xs = true ∧ findL xs s d 0 = (i : Int) ∧ askLc xs s d = 0 ∧ askLi xs s d = (i : Int) ∧ retR xs s d = xs.set i ⟨xs[i].what, xs[i].who, xs[i].from_, d⟩ := by
  rcases askL_cases xs s d with ⟨h1, h2, h3⟩ | ⟨h1, h2, h3, h4⟩ | ⟨i, hi, h1, h2, h3, h4⟩
  · exact .inl ⟨h1, h2, h3, by unfold retR; rw [h2]; rfl⟩
  · exact .inr (.inl ⟨h1, h2, h3, h4, by unfold retR; rw [h3]; rfl⟩)
  · refine .inr (.inr ⟨i, hi, h1, h2, h3, h4, ?_⟩)
    unfold retR
    rw [if_pos h3, h4, Int.toNat_natCast, atL_at xs i hi]
theorem OwnL.of {w : World} {base base' n : Nat} {v : Value} {cs : List Value} {zs : List Ln} (h : w.ownsRow base' 40 4 v n cs) (hb : base ≤ base') (hn : n = zs.length) (hc : cs = zs.flatMap cellsL) : OwnL w base v zs := by
  subst hn hc
  exact ownsRow_le h hb

end Go.Proofs.Ytmheijnckmlbnaa
/- Loans: what becomes of valid lists, in plain words. -/
namespace Go.Proofs.Ytmheijnckmlbnaa

theorem bl_trans : ∀ a b c : List UInt8, Op.bytesLess a b = true → Op.bytesLess b c = true → Op.bytesLess a c = true
  | [], _, [], _, h => by cases ‹List UInt8› <;> simp [Op.bytesLess] at h
  | [], _, _ :: _, _, _ => by simp [Op.bytesLess]
  | _ :: _, [], _, h, _ => by simp [Op.bytesLess] at h
  | _ :: _, _ :: _, [], _, h => by simp [Op.bytesLess] at h
  | a :: x, b :: y, c :: z, h1, h2 => by
    have ih := bl_trans x y z
    simp only [Op.bytesLess, Bool.or_eq_true, Bool.and_eq_true, decide_eq_true_eq, beq_iff_eq, UInt8.lt_iff_toNat_lt] at h1 h2 ⊢
    rcases h1 with h1 | ⟨h1, h3⟩
    · rcases h2 with h2 | ⟨h2, h4⟩
      · exact .inl (by omega)
      · subst h2; exact .inl h1
    · subst h1
      rcases h2 with h2 | ⟨h2, h4⟩
      · exact .inl h2
      · exact .inr ⟨h2, ih h3 h4⟩
theorem before_trans {x y z : Ln} (h1 : before x y = true) (h2 : before y z = true) : before x z = true := by
  unfold before at *
  simp only [Bool.or_eq_true, Bool.and_eq_true, decide_eq_true_eq] at *
  rcases h1 with h1 | ⟨h1, h3⟩
  · rcases h2 with h2 | ⟨h2, h4⟩
    · exact .inl (by omega)
    · exact .inl (by omega)
  · rcases h2 with h2 | ⟨h2, h4⟩
    · exact .inl (by omega)
    · exact .inr ⟨by omega, bl_trans _ _ _ h3 h4⟩
/-- each two loans are in order and do not clash -/
structure OkP (xs : List Ln) : Prop where
  len : xs.length ≤ 60
  one : ∀ i (hi : i < xs.length), loanOk xs[i] = true
  two : ∀ i j (hi : i < xs.length) (hj : j < xs.length), i < j → before xs[i] xs[j] = true ∧ clash xs[i] xs[j] = false
theorem OkP.of {xs : List Ln} (h : loansOk xs = true) : OkP xs := by
  have hl := loansOk_len h
  unfold loansOk at h
  simp only [Bool.and_eq_true] at h
  have hp : ∀ i (hi : i < xs.length), loanOk xs[i] = true ∧ (i = 0 ∨ ∃ m, ∃ hm : m + 1 = i, before (xs[m]'(by omega)) xs[i] = true) ∧ ∀ k (hk : k < i), clash (xs[k]'(by omega)) xs[i] = false := fun i hi => by
    have h1 := chk_get h.1 hi
    unfold placeS at h1
    rw [atL_at xs i hi] at h1
    simp only [Bool.and_eq_true, Bool.or_eq_true, decide_eq_true_eq] at h1
    refine ⟨h1.1.1, ?_, fun k hk => ?_⟩
    · rcases h1.1.2 with h2 | h2
      · exact .inl h2
      · by_cases h0 : i = 0
        · exact .inl h0
        · rw [atL_at xs (i - 1) (by omega)] at h2
          exact .inr ⟨i - 1, by omega, h2⟩
    · have h2 := chk_get h1.2 hk
      unfold freeS at h2
      rw [atL_at xs i hi, atL_at xs k (by omega)] at h2
      simpa using h2
  refine ⟨hl, fun i hi => (hp i hi).1, fun i j hi hj hij => ⟨?_, (hp j hj).2.2 i hij⟩⟩
  have key : ∀ (d i : Nat) (hj : i + d + 1 < xs.length), before (xs[i]'(by omega)) xs[i + d + 1] = true := by
    intro d
    induction d with
    | zero =>
      intro i hj
      rcases (hp (i + 0 + 1) hj).2.1 with h0 | ⟨m, hm, h2⟩
      · omega
      · have : m = i := by omega
        subst this; exact h2
    | succ d ih =>
      intro i hj
      have h1 := ih i (by omega)
      rcases (hp (i + (d + 1) + 1) hj).2.1 with h0 | ⟨m, hm, h2⟩
      · omega
      · have : m = i + d + 1 := by omega
        subst this
        exact before_trans h1 h2
  have := key (j - i - 1) i (by omega)
  simpa only [show i + (j - i - 1) + 1 = j by omega] using this
theorem OkP.to {xs : List Ln} (h : OkP xs) : loansOk xs = true := by
  unfold loansOk
  simp only [Bool.and_eq_true, decide_eq_true_eq]
  refine ⟨?_, h.len⟩
  unfold chk
  rw [List.all_eq_true]
  intro i hi
  have hi := List.mem_range.1 hi
  refine place_4 hi (h.one i hi) ?_ ?_
  · rcases Nat.eq_zero_or_pos i with h0 | h0
    · exact .inl h0
    · refine .inr ⟨i - 1, by omega, ?_⟩
      rw [atL_at xs (i - 1) (by omega)]
      exact (h.two (i - 1) i (by omega) hi (by omega)).1
  · unfold chk
    rw [List.all_eq_true]
    intro k hk
    have hk := List.mem_range.1 hk
    refine free_step hi ?_
    rw [atL_at xs k (by omega)]
    exact (h.two k i (by omega) hi hk).2
theorem addC_0 {xs : List Ln} {x : Ln} (h : addC xs x = 0) : loansOk xs = true ∧ loanOk x = true ∧ chk xs.length (hitI xs x) = true ∧ xs.length < 60 := by
  unfold addC at h
  split at h
  · cases h
  · rename_i h1
    split at h
    · cases h
    · rename_i h2
      split at h
      · cases h
      · rename_i h3
        split at h
        · cases h
        · exact ⟨by simpa using h1, by simpa using h2, by simpa using h3, by omega⟩
theorem dnS_up (p : Nat → Bool) : ∀ n j, dnS p n ≤ j → j < n → p j = true := by
  intro n
  induction n with
  | zero => intro j _ h; omega
  | succ n ih =>
    intro j h1 h2
    unfold dnS at h1
    split at h1
    · rename_i h3
      by_cases e : j = n
      · subst e; exact h3
      · exact ih j h1 (by omega)
    · omega
theorem dnS_stop (p : Nat → Bool) : ∀ n, 0 < dnS p n → p (dnS p n - 1) = false := by
  intro n
  induction n with
  | zero => intro h; simp [dnS] at h
  | succ n ih =>
    intro h
    unfold dnS at h ⊢
    split
    · rename_i h3
      rw [if_pos h3] at h
      exact ih h
    · rename_i h3
      simpa using h3
theorem ins_at {xs : List Ln} {x : Ln} {k : Nat} (hk : k ≤ xs.length) (i : Nat) (hi : i < (xs.take k ++ x :: xs.drop k).length) :
    (∃ h : i < k, (xs.take k ++ x :: xs.drop k)[i] = xs[i]'(by omega)) ∨ (i = k ∧ (xs.take k ++ x :: xs.drop k)[i] = x) ∨ (∃ h : k < i, (xs.take k ++ x :: xs.drop k)[i] = xs[i - 1]'(by simp at hi; omega)) := by
  have hl : (xs.take k).length = k := by rw [List.length_take]; omega
  rcases Nat.lt_trichotomy i k with h | h | h
  · refine .inl ⟨h, ?_⟩
    rw [List.getElem_append_left (by omega), List.getElem_take]
  · refine .inr (.inl ⟨h, ?_⟩)
    subst h
    rw [List.getElem_append_right (by omega)]
    simp only [hl, Nat.sub_self, List.getElem_cons_zero]
  · refine .inr (.inr ⟨h, ?_⟩)
    rw [List.getElem_append_right (by omega)]
    simp only [hl]
    obtain ⟨m, hm⟩ : ∃ m, i - k = m + 1 := ⟨i - k - 1, by omega⟩
    simp only [hm, List.getElem_cons_succ, List.getElem_drop]
    congr 1
    omega
theorem add_facts {xs : List Ln} {x : Ln} (h : addC xs x = 0) : ∃ k, k ≤ xs.length ∧ addR xs x = xs.take k ++ x :: xs.drop k ∧ OkP xs ∧ loanOk x = true ∧ xs.length < 60 ∧
    (∀ j (hj : j < xs.length), clash x xs[j] = false) ∧ (∀ j (hj : j < xs.length), k ≤ j → before x xs[j] = true) ∧ (∀ j (hj : j < xs.length), j < k → before xs[j] x = true) := by
  obtain ⟨h1, h2, h3, h4⟩ := addC_0 h
  have hP := OkP.of h1
  have hc : ∀ j (hj : j < xs.length), clash x xs[j] = false := fun j hj => by
    have := chk_get h3 hj
    unfold hitI at this
    rw [atL_at xs j hj] at this
    simpa using this
  refine ⟨addAt xs x, addAt_le xs x, by unfold addR; rw [if_pos h], hP, h2, h4, hc, fun j hj hk => ?_, fun j hj hk => ?_⟩
  · have := dnS_up _ _ j hk hj
    rwa [atL_at xs j hj] at this
  · have h5 := addAt_le xs x
    have h6 : before (xs[addAt xs x - 1]'(by omega)) x = true := by
      have h7 := dnS_stop (fun k => before x (atL xs k)) xs.length (by show 0 < addAt xs x; omega)
      have h8 : before x (xs[addAt xs x - 1]'(by omega)) = false := by
        have e : dnS (fun k => before x (atL xs k)) xs.length = addAt xs x := rfl
        rw [e, atL_at xs (addAt xs x - 1) (by omega)] at h7
        exact h7
      have h9 := before_flip h2 (hP.one (addAt xs x - 1) (by omega)) (hc _ (by omega))
      rw [h8] at h9
      simpa using h9.symm
    by_cases e : j = addAt xs x - 1
    · subst e; exact h6
    · exact before_trans (hP.two j (addAt xs x - 1) hj (by omega) (by omega)).1 h6
theorem add_ok {xs : List Ln} {x : Ln} (h : addC xs x = 0) : loansOk (addR xs x) = true := by
  obtain ⟨k, hk, he, hP, hx, hl, hc, hu, hd⟩ := add_facts h
  rw [he]
  refine OkP.to ⟨by rw [List.length_append, List.length_cons, List.length_take, List.length_drop]; omega, fun i hi => ?_, fun i j hi hj hij => ?_⟩
  · rcases ins_at hk i hi with ⟨h1, h2⟩ | ⟨h1, h2⟩ | ⟨h1, h2⟩
    · rw [h2]; exact hP.one _ _
    · rw [h2]; exact hx
    · rw [h2]; exact hP.one _ _
  · have hcc : ∀ j (hj : j < xs.length), clash xs[j] x = false := fun j hj => by rw [clash_comm]; exact hc j hj
    have hjl : j < xs.length + 1 := by rw [List.length_append, List.length_cons, List.length_take, List.length_drop] at hj; omega
    rcases ins_at hk i hi with ⟨h1, h2⟩ | ⟨h1, h2⟩ | ⟨h1, h2⟩
    · rcases ins_at hk j hj with ⟨h3, h4⟩ | ⟨h3, h4⟩ | ⟨h3, h4⟩
      · rw [h2, h4]; exact hP.two _ _ _ _ hij
      · rw [h2, h4]; exact ⟨hd i (by omega) h1, hcc i (by omega)⟩
      · rw [h2, h4]; exact hP.two _ _ _ _ (by omega)
    · rcases ins_at hk j hj with ⟨h3, h4⟩ | ⟨h3, h4⟩ | ⟨h3, h4⟩
      · omega
      · omega
      · rw [h2, h4]; exact ⟨hu (j - 1) (by omega) (by omega), hc (j - 1) (by omega)⟩
    · rcases ins_at hk j hj with ⟨h3, h4⟩ | ⟨h3, h4⟩ | ⟨h3, h4⟩
      · omega
      · omega
      · rw [h2, h4]; exact hP.two _ _ _ _ (by omega)
end Go.Proofs.Ytmheijnckmlbnaa
/- Small laws for quiet calls. -/
namespace Go.Proofs.Ytmheijnckmlbnaa
open Go.RowKit Go.Joins

theorem rdN {w w' : World} {v : Value} {n sz : Nat} {cs : List Value} (h : Rd w w.heap.size v n sz cs) (hb : Below w.heap.size w w') : Rd w' w'.heap.size v n sz cs := (h.below hb).more hb.size
theorem own_posC {w : World} {base n size : Nat} {e : TypeId} {v : Value} {cs : List Value} (h : w.ownsRow base e size v n cs) (hn : 0 < n) : ∃ g cap, v = .slice (some ⟨g, 0, none⟩) n cap ∧ n ≤ cap ∧ cap ≤ maxLen := by
  rcases h.2 with ⟨_, h0⟩ | ⟨g, cap, _, hv, _, _, h1, h2, _⟩
  · omega
  · exact ⟨g, cap, hv, h1, h2⟩
theorem flipQ {P : Program} {f : FuncId} {args : Array Value} {w : World} {v : Value} (h : Calls P f args w fun e w' => e = .returned v ∧ w = w') : Calls P f args w fun e w' => e = .returned v ∧ w' = w :=
  h.mono fun _ _ ⟨h1, h2⟩ => ⟨h1, h2.symm⟩
theorem abs_mul {a b A B : Int} (ha : -A ≤ a ∧ a ≤ A) (hb : -B ≤ b ∧ b ≤ B) : -(A * B) ≤ a * b ∧ a * b ≤ A * B := by
  have h1 : a.natAbs ≤ A.natAbs := by omega
  have h2 : b.natAbs ≤ B.natAbs := by omega
  have h3 : (a * b).natAbs ≤ A.natAbs * B.natAbs := by rw [Int.natAbs_mul]; exact Nat.mul_le_mul h1 h2
  have h4 : (A * B).natAbs = A.natAbs * B.natAbs := Int.natAbs_mul A B
  have h5 : 0 ≤ A * B := Int.mul_nonneg (by omega) (by omega)
  omega

/-- a result of two fields in a block of its own: ahead of the store -/
theorem res2_pre {w w2 : World} {x y : Value} {t : TypeId} (h : Below (w.alloc (.cells #[x, y] t)).heap.size (w.alloc (.cells #[x, y] t)) w2) :
    w2.cell? ⟨w.heap.size, 0, none⟩ = some x ∧ w2.cell? ⟨w.heap.size, 1, none⟩ = some y ∧ w2.frozen? ⟨w.heap.size, 0, none⟩ = false ∧ w2.frozen? ⟨w.heap.size, 1, none⟩ = false :=
  blk2 ((h.block w.heap.size (by simp)).trans (heap_alloc_new w _))
/-- .. and behind it -/
theorem res2_post {w w2 : World} {x y : Value} {t : TypeId} (h : Below (w.alloc (.cells #[x, y] t)).heap.size (w.alloc (.cells #[x, y] t)) w2) (a b : Value) :
    ((w2.setCell ⟨w.heap.size, 0, none⟩ a).setCell ⟨w.heap.size, 1, none⟩ b).cell? ⟨w.heap.size, 0, none⟩ = some a ∧ ((w2.setCell ⟨w.heap.size, 0, none⟩ a).setCell ⟨w.heap.size, 1, none⟩ b).cell? ⟨w.heap.size, 1, none⟩ = some b ∧
    Below w.heap.size w ((w2.setCell ⟨w.heap.size, 0, none⟩ a).setCell ⟨w.heap.size, 1, none⟩ b) := by
  have g := heap_setCell_same _ w.heap.size 1 _ _ b (heap_setCell_same w2 w.heap.size 0 _ _ a ((h.block w.heap.size (by simp)).trans (heap_alloc_new w _)))
  obtain ⟨p, q, _, _⟩ := blk2 g
  exact ⟨p, q, ((((Below.refl w.heap.size w).alloc (Nat.le_refl _) _).trans (h.mono (by simp))).setCell (p := ⟨w.heap.size, 0, none⟩) (Nat.le_refl _) a).setCell (p := ⟨w.heap.size, 1, none⟩) (Nat.le_refl _) b⟩
theorem res2_own {w2 : World} {base B n sz : Nat} {e : TypeId} {v : Value} {xs : List Value} (h : w2.ownsRow base e sz v n xs) {g : Nat} (hg : g < base) (hB : B ≤ base) (a b : Value) : ((w2.setCell ⟨g, 0, none⟩ a).setCell ⟨g, 1, none⟩ b).ownsRow B e sz v n xs :=
  ownsRow_le (ownsRow_setCell_below (ownsRow_setCell_below h (a := ⟨g, 0, none⟩) hg a) (a := ⟨g, 1, none⟩) hg b) hB
/-- a boxed argument of two fields -/
theorem box2 {w : World} {x y : Value} {t : TypeId} : (w.alloc (.cells #[x, y] t)).cell? ⟨w.heap.size, 0, none⟩ = some x ∧ (w.alloc (.cells #[x, y] t)).cell? ⟨w.heap.size, 1, none⟩ = some y :=
  have h := blk2 (heap_alloc_new w (.cells #[x, y] t))
  ⟨h.1, h.2.1⟩

theorem cell_alloc {w : World} {g i : Nat} {v : Value} (h : w.cell? ⟨g, i, none⟩ = some v) (o : Obj) : (w.alloc o).cell? ⟨g, i, none⟩ = some v :=
  (((Below.refl w.heap.size w).alloc (Nat.le_refl _) o).cell (p := ⟨g, i, none⟩) (World.block_lt_of_cell? w _ h)).trans h
/-- append of new elements at a step of a region that draws, where the world has no draw of its own (behind a call) -/
theorem step_apd0 {P : Program} {w : World} {ops : Array Oper} {o : Oper} {a : Act} {K : Act → World → Prop} {Q : Exit → Act → World → Prop} {E : Prop} (t e : TypeId) (z : Value) (size bytes : Nat)
    (ht : P.underlying t = some (.slice e)) (hinfo : (P.info? e).map (fun i => (i.zero, i.size, i.bytes)) = some (some z, size, bytes)) (hzs : z.cells.size = size) (hsz : 0 < size)
    (s x : Operand) (hgd : o.guard = none) (ho : o.op = .call { callee := .builtin .append, args := #[s, x], argTypes := #[t, t] })
    (base : Nat) (v : Value) (n : Nat) (xs : List Value) (hs : a.eval s = v) (hown : w.ownsRow base e size v n xs)
    (cs : Array Value) (m c : Nat) (hx : a.eval x = .slice (some ⟨w.heap.size, 0, none⟩) m c) (hl : cs.toList.length = m * size) (h1 : ∀ u ∈ cs.toList, u.oneCell' = true)
    (h63 : n + m ≤ maxLen) (hbytes : (n + m) * bytes ≤ 140737488355328) (hbase : base ≤ w.heap.size)
    (h : ∀ v' w', w'.ownsRow base e size v' (n + m) (xs ++ cs.toList) → w.grownBy w' v.ownBlock → K (a.put o.dst v') w') :
    if Region.wanted o (yielded ops a.tmps) = true then Oper.wp P o a (w.alloc (.cells cs e)) K Q else E := by
  have hw : Region.wanted o (yielded ops a.tmps) = true := by simp [Region.wanted, hgd]
  rw [if_pos hw]
  exact wp_apd (w := w) t e z size bytes ht hinfo hzs hsz s x ho base v n xs hs hown cs m c hx hl h1 h63 hbytes hbase h
end Go.Proofs.Ytmheijnckmlbnaa
/- A region that draws its order and whose last operations write where the region has loaded: the loads are taken first; S is not asked behind those last operations (Ls). No program is named here. -/
namespace Go.Proofs.Ytmheijnckmlbnaa
open Go.RowKit

section
variable {P : Program} {ops : Array Oper} {Q : Exit → Act → World → Prop} {md : Region.Mode} {S : World → Prop} {L : Nat} {Ls : List Nat}

/-- every operation that has come up has those ahead of it come up -/
def ClosedL (md : Region.Mode) (ops : Array Oper) (listed : Array Bool) : Prop :=
  ∀ (k : Nat) (o : Oper), ops[k]? = some o → listed.getD k true = true → ∀ e ∈ o.after, Region.binds md e = true → listed.getD e.on false = true
def closedB (md : Region.Mode) (ops : Array Oper) (listed : Array Bool) : Bool :=
  (List.range ops.size).all fun k => !listed.getD k true || ((ops[k]?).map (·.after.all fun e => !Region.binds md e || listed.getD e.on false)).getD true
theorem closedB_spec {listed : Array Bool} (h : closedB md ops listed = true) : ClosedL md ops listed := by
  intro k o ho hk e he hb
  unfold closedB at h
  rw [List.all_eq_true] at h
  have h1 := h k (List.mem_range.2 (Array.getElem?_eq_some_iff.1 ho).1)
  rw [ho, hk] at h1
  simp only [Bool.not_true, Bool.false_or, Option.map_some, Option.getD_some] at h1
  have h2 := Array.all_eq_true_iff_forall_mem.1 h1 e he
  rw [hb] at h2
  simpa using h2
theorem ClosedL.set {listed : Array Bool} {j : Nat} (h : ClosedL md ops listed) (hj : j ∈ Region.ready md ops listed) : ClosedL md ops (listed.setIfInBounds j true) := by
  intro k o ho hk e he hb
  by_cases hkj : j = k
  · subst hkj
    obtain ⟨_, o', ho', hall⟩ := mem_ready.1 hj
    rw [ho] at ho'
    cases ho'
    exact getD_set_true (hall e he hb)
  · rw [getD_set_ne true hkj] at hk
    exact getD_set_true (h k o ho hk e he hb)
/-- a chain of operations, each of which waits for the next -/
def waitsB (md : Region.Mode) (ops : Array Oper) : List Nat → Bool
  | x :: y :: rest => (((ops[x]?).map (·.after.any fun e => Region.binds md e && e.on == y)).getD false) && waitsB md ops (y :: rest)
  | _ => true
theorem waits_cons {x y : Nat} {rest : List Nat} (h : waitsB md ops (x :: y :: rest) = true) : (∃ o, ops[x]? = some o ∧ ∃ e ∈ o.after, Region.binds md e = true ∧ e.on = y) ∧ waitsB md ops (y :: rest) = true := by
  unfold waitsB at h
  rw [Bool.and_eq_true] at h
  refine ⟨?_, h.2⟩
  cases ho : ops[x]? with
  | none => rw [ho] at h; simp at h
  | some o =>
    rw [ho] at h
    simp only [Option.map_some, Option.getD_some] at h
    obtain ⟨e, he, hb⟩ := Array.any_eq_true'.1 h.1
    simp only [Bool.and_eq_true, beq_iff_eq] at hb
    exact ⟨o, rfl, e, he, hb.1, hb.2⟩
theorem getD_ft {l : Array Bool} {i : Nat} (h : l.getD i false = true) : l.getD i true = true := by
  rcases Nat.lt_or_ge i l.size with h' | h'
  · simp [h'] at h ⊢; exact h
  · simp [Array.getElem?_eq_none h'] at h
theorem listed_last {listed : Array Bool} (hc : ClosedL md ops listed) : ∀ (rest : List Nat) (y : Nat), listed.getD y false = true → waitsB md ops (y :: rest) = true → listed.getD ((y :: rest).getLast (by simp)) false = true
  | [], _, h, _ => h
  | z :: rest, y, h, hw => by
    obtain ⟨⟨o, ho, e, he, hb, hon⟩, hw2⟩ := waits_cons hw
    have h2 := hc y o ho (getD_ft h) e he hb
    rw [hon] at h2
    have h3 := listed_last hc rest z h2 hw2
    rw [List.getLast_cons (by simp)]
    exact h3
def lateB (md : Region.Mode) (ops : Array Oper) (L : Nat) (p : List Nat) (i : Nat) : Bool := !p.isEmpty && waitsB md ops (L :: p) && p.getLast? == some i
theorem late_not {listed : Array Bool} {p : List Nat} {i : Nat} (hc : ClosedL md ops listed) (h : lateB md ops L p i = true) (hi : listed.getD i true = false) : L ∉ Region.ready md ops listed := by
  intro hL
  unfold lateB at h
  simp only [Bool.and_eq_true, beq_iff_eq] at h
  obtain ⟨⟨h0, h1⟩, h2⟩ := h
  cases p with
  | nil => simp at h0
  | cons y rest =>
    obtain ⟨⟨o, ho, e, he, hb, hon⟩, hw⟩ := waits_cons h1
    obtain ⟨_, o', ho', hall⟩ := mem_ready.1 hL
    rw [ho] at ho'
    cases ho'
    have hy := hall e he hb
    rw [hon] at hy
    have hl := listed_last hc rest y hy hw
    rw [List.getLast?_eq_some_getLast (by simp)] at h2
    injection h2 with h2
    rw [h2] at hl
    rw [getD_ft hl] at hi
    cases hi

/-- what comes behind L in a list -/
def behind (L : Nat) : List Nat → List Nat
  | [] => []
  | x :: l => if x == L then l else behind L l
/-- every one of Ls waits for i, by the chain Ls ++ p -/
def lateAll (md : Region.Mode) (ops : Array Oper) (Ls p : List Nat) (i : Nat) : Bool := Ls.all fun L => lateB md ops L (behind L (Ls ++ p)) i
theorem lateAll_spec {p : List Nat} {i : Nat} (h : lateAll md ops Ls p i = true) (hL : L ∈ Ls) : lateB md ops L (behind L (Ls ++ p)) i = true := List.all_eq_true.1 h L hL
/-- none of the last ones has come up -/
def noneL (Ls : List Nat) (listed : Array Bool) : Bool := Ls.all fun L => !listed.getD L false
theorem noneL_set {listed : Array Bool} {j : Nat} (hj : j ∉ Ls) (h : noneL Ls listed = true) : noneL Ls (listed.setIfInBounds j true) = true := by
  unfold noneL at *
  rw [List.all_eq_true] at *
  intro L hL
  rw [getD_set_ne false (show j ≠ L from fun e => hj (e ▸ hL))]
  exact h L hL
theorem noneL_of {listed : Array Bool} {j : Nat} (h : noneL Ls (listed.setIfInBounds j true) = true) : noneL Ls listed = true := by
  unfold noneL at *
  rw [List.all_eq_true] at *
  intro L hL
  have h1 := h L hL
  cases hb : listed.getD L false with
  | false => rfl
  | true => rw [getD_set_true hb] at h1; exact h1
/-- whatever order is picked, and S holds as long as none of the last ones has come up -/
def wpAnyL (P : Program) (md : Region.Mode) (ops : Array Oper) (Q : Exit → Act → World → Prop) (S : World → Prop) (Ls : List Nat) : Nat → Array Bool → Act → World → Prop
  | 0, listed, a, w => Region.ready md ops listed = [] ∧ Q .normal a w
  | fuel + 1, listed, a, w =>
    (Region.ready md ops listed = [] → Q .normal a w) ∧
    ∀ i ∈ Region.ready md ops listed, wpOp P ops Q i (fun a' w' => (noneL Ls (listed.setIfInBounds i true) = true → S w') ∧ wpAnyL P md ops Q S Ls fuel (listed.setIfInBounds i true) a' w') a w
theorem wpAny_of_L : ∀ (fuel : Nat) (listed : Array Bool) (a : Act) (w : World), wpAnyL P md ops Q S Ls fuel listed a w → wpAny P md ops Q fuel listed a w
  | 0, _, _, _, h => h
  | fuel + 1, _, _, _, h => ⟨h.1, fun i hi => wpOp_mono (fun a' w' h' => wpAny_of_L fuel _ a' w' h'.2) (h.2 i hi)⟩

theorem wpAnyL_first {S0 : World → Prop} {i : Nat} {oi : Oper} {v : Value} (hi : ops[i]? = some oi) (hsel : ∀ (j : Nat) (o : Oper) cs b, ops[j]? = some o → o.op ≠ .select cs b)
    (hQ : ∀ c a w, Q (.panic c) (a.put oi.dst v) w → Q (.panic c) a w) (hiL : i ∉ Ls) (p : List Nat) (hor : (lateAll md ops Ls p i = true ∧ ∀ w, S w → S0 w) ∨ ∀ w, S0 w) :
    ∀ (fuel : Nat) (listed : Array Bool) (a : Act) (w : World), ClosedL md ops listed → (noneL Ls listed = true → S w) → ((∀ w, S0 w) ∨ noneL Ls listed = true) →
      (∀ j oj, ops[j]? = some oj → j ≠ i → listed.getD j true = false → (∀ e ∈ oj.after, Region.binds md e = true → e.on ≠ i) → oi.apart ops oj = true) →
      i ∈ Region.ready md ops listed → YieldsIf P ops S0 oi v a →
      wpAnyL P md ops Q S Ls fuel (listed.setIfInBounds i true) (a.put oi.dst v) w → wpAnyL P md ops Q S Ls (fuel + 1) listed a w := by
  have hS0 : ∀ (listed : Array Bool) (w : World), (noneL Ls listed = true → S w) → ((∀ w, S0 w) ∨ noneL Ls listed = true) → S0 w := fun listed w hS hn => by
    rcases hn with h | h
    · exact h w
    · rcases hor with h' | h'
      · exact h'.2 w (hS h)
      · exact h' w
  intro fuel
  induction fuel with
  | zero =>
    intro listed a w _ hS hn _ hr hy H
    refine ⟨fun h => (by rw [h] at hr; cases hr), fun j hj => ?_⟩
    by_cases hji : j = i
    · subst hji
      exact hy.wpOp hi (hS0 listed w hS hn) ⟨fun h => hS (noneL_of h), H⟩
    · have hm := ready_mono hj hji
      rw [H.1] at hm
      cases hm
  | succ fuel ih =>
    intro listed a w hc hS hn hfree hr hy H
    refine ⟨fun h => (by rw [h] at hr; cases hr), fun j hj => ?_⟩
    by_cases hji : j = i
    · subst hji
      exact hy.wpOp hi (hS0 listed w hS hn) ⟨fun h => hS (noneL_of h), H⟩
    · have hu := (mem_ready.1 hr).1
      have h1 := H.2 j (ready_mono hj hji)
      have hn' : (∀ w, S0 w) ∨ noneL Ls (listed.setIfInBounds j true) = true := by
        rcases hn with h | h
        · exact .inl h
        · rcases hor with h' | h'
          · exact .inr (noneL_set (fun e => late_not hc (lateAll_spec h'.1 e) hu hj) h)
          · exact .inl h'
      obtain ⟨hjun, oj, hoj, hall⟩ := mem_ready.1 hj
      have hnot : ∀ e ∈ oj.after, Region.binds md e = true → e.on ≠ i := fun e he hb heq => by
        have h2 := hall e he hb
        rw [heq] at h2
        rw [getD_ft h2] at hu
        cases hu
      have h2 := wpOp_putIf hoj (hfree j oj hoj hji hjun hnot) (fun cs b => hsel i oi cs b hi) (fun cs b => hsel j oj cs b hoj) hQ hy h1
      have hfree' : ∀ k ok, ops[k]? = some ok → k ≠ i → (listed.setIfInBounds j true).getD k true = false →
          (∀ e ∈ ok.after, Region.binds md e = true → e.on ≠ i) → oi.apart ops ok = true := fun k ok hk hki hun hno => by
        by_cases hjk : j = k
        · subst hjk
          exact hfree j ok hk hki hjun hno
        · rw [getD_set_ne true hjk] at hun
          exact hfree k ok hk hki hun hno
      refine wpOp_mono (fun a' w' h3 => ?_) h2
      have hS' : noneL Ls (listed.setIfInBounds j true) = true → S w' := fun h => h3.2.1 (by
        rw [Array.setIfInBounds_comm _ _ (Ne.symm hji)]
        exact noneL_set hiL h)
      refine ⟨hS', ih (listed.setIfInBounds j true) a' w' (hc.set hj) hS' hn' hfree' (ready_mono hr (Ne.symm hji)) h3.1 ?_⟩
      rw [Array.setIfInBounds_comm _ _ hji]
      exact h3.2.2

/-- a load: taken first, under S -/
theorem take_L {i : Nat} {oi : Oper} {d : Option Nat} {v : Value} {fuel : Nat} {listed : Array Bool} {a : Act} {w : World} (p : List Nat) (hL : lateAll md ops Ls p i = true) (hc : closedB md ops listed = true) (hn : noneL Ls listed = true) (hiL : Ls.contains i = false) (hi : ops[i]? = some oi) (hd : oi.dst = d)
    (hs : Region.noSelect ops = true) (hf : Region.free md ops listed i = true) (hr : (Region.ready md ops listed).contains i = true)
    (hQ : ∀ c a w, Q (.panic c) (a.put d v) w → Q (.panic c) a w) (hy : YieldsIf P ops S oi v a) (hS : S w)
    (h : wpAnyL P md ops Q S Ls fuel (listed.setIfInBounds i true) (a.put d v) w) : wpAnyL P md ops Q S Ls (fuel + 1) listed a w := by
  subst hd
  exact wpAnyL_first hi (Region.noSelect_spec hs) hQ (fun e => by simp [e] at hiL) p (.inl ⟨hL, fun _ h => h⟩) fuel listed a w (closedB_spec hc) (fun _ => hS) (.inr hn) (Region.free_spec hi hf) (by simpa using hr) hy h
/-- what yields in whatever world: taken first -/
theorem take_F {i : Nat} {oi : Oper} {d : Option Nat} {v : Value} {fuel : Nat} {listed : Array Bool} {a : Act} {w : World} (hc : closedB md ops listed = true) (hiL : Ls.contains i = false) (hi : ops[i]? = some oi) (hd : oi.dst = d)
    (hs : Region.noSelect ops = true) (hf : Region.free md ops listed i = true) (hr : (Region.ready md ops listed).contains i = true)
    (hQ : ∀ c a w, Q (.panic c) (a.put d v) w → Q (.panic c) a w) (hy : YieldsIf P ops (fun _ => True) oi v a) (hS : S w)
    (h : wpAnyL P md ops Q S Ls fuel (listed.setIfInBounds i true) (a.put d v) w) : wpAnyL P md ops Q S Ls (fuel + 1) listed a w := by
  subst hd
  exact wpAnyL_first (S0 := fun _ => True) hi (Region.noSelect_spec hs) hQ (fun e => by simp [e] at hiL) [] (.inr fun _ => trivial) fuel listed a w (closedB_spec hc) (fun _ => hS) (.inl fun _ => trivial) (Region.free_spec hi hf) (by simpa using hr) hy h
/-- the only operation that may come up; S is shown anew -/
theorem call_L {i : Nat} {o : Oper} {d : Option Nat} {fuel : Nat} {listed : Array Bool} {a : Act} {w : World} (ho : ops[i]? = some o) (hd : o.dst = d) (hr : Region.ready md ops listed = [i])
    (h : ∀ K' : Act → World → Prop, Shut (∀ a w, S w → (S w → wpAnyL P md ops Q S Ls fuel (listed.setIfInBounds i true) a w) → K' a w) → if Region.wanted o (yielded ops a.tmps) = true then Oper.wp P o a w K' Q else K' (a.put d undef) w) :
    wpAnyL P md ops Q S Ls (fuel + 1) listed a w := by
  subst hd
  refine ⟨fun h0 => absurd (h0.symm.trans hr) (by simp), fun j hj => ?_⟩
  rw [hr] at hj
  obtain rfl := List.mem_singleton.1 hj
  exact wpOp_step ho (fun K' hK => h K' (fun a w hS hW => hK a w ⟨fun _ => hS, hW hS⟩))
/-- two operations that may come up -/
theorem both_L {i j : Nat} {oi oj : Oper} {di dj : Option Nat} {fuel : Nat} {listed : Array Bool} {a : Act} {w : World} (hoi : ops[i]? = some oi) (hdi : oi.dst = di) (hoj : ops[j]? = some oj) (hdj : oj.dst = dj) (hr : Region.ready md ops listed = [i, j])
    (h1 : ∀ K' : Act → World → Prop, Shut (∀ a w, S w → (S w → wpAnyL P md ops Q S Ls fuel (listed.setIfInBounds i true) a w) → K' a w) → if Region.wanted oi (yielded ops a.tmps) = true then Oper.wp P oi a w K' Q else K' (a.put di undef) w)
    (h2 : ∀ K' : Act → World → Prop, Shut (∀ a w, S w → (S w → wpAnyL P md ops Q S Ls fuel (listed.setIfInBounds j true) a w) → K' a w) → if Region.wanted oj (yielded ops a.tmps) = true then Oper.wp P oj a w K' Q else K' (a.put dj undef) w) :
    wpAnyL P md ops Q S Ls (fuel + 1) listed a w := by
  subst hdi
  subst hdj
  refine ⟨fun h0 => absurd (h0.symm.trans hr) (by simp), fun k hk => ?_⟩
  rw [hr] at hk
  rcases List.mem_cons.1 hk with rfl | hk
  · exact wpOp_step hoi (fun K' hK => h1 K' (fun a w hS hW => hK a w ⟨fun _ => hS, hW hS⟩))
  · obtain rfl := List.mem_singleton.1 hk
    exact wpOp_step hoj (fun K' hK => h2 K' (fun a w hS hW => hK a w ⟨fun _ => hS, hW hS⟩))
/-- .. and S is not asked -/
theorem late_L {i : Nat} {o : Oper} {d : Option Nat} {fuel : Nat} {listed : Array Bool} {a : Act} {w : World} (hi : noneL Ls (listed.setIfInBounds i true) = false) (ho : ops[i]? = some o) (hd : o.dst = d) (hr : Region.ready md ops listed = [i])
    (h : ∀ K' : Act → World → Prop, Shut (∀ a w, wpAnyL P md ops Q S Ls fuel (listed.setIfInBounds i true) a w → K' a w) → if Region.wanted o (yielded ops a.tmps) = true then Oper.wp P o a w K' Q else K' (a.put d undef) w) :
    wpAnyL P md ops Q S Ls (fuel + 1) listed a w := by
  subst hd
  refine ⟨fun h0 => absurd (h0.symm.trans hr) (by simp), fun j hj => ?_⟩
  rw [hr] at hj
  obtain rfl := List.mem_singleton.1 hj
  exact wpOp_step ho (fun K' hK => h K' (fun a w hW => hK a w ⟨fun hne => absurd (hi.symm.trans hne) (by simp), hW⟩))
theorem done_L {listed : Array Bool} {a : Act} {w : World} (hr : Region.ready md ops listed = []) (h : Q .normal a w) : ∀ fuel, wpAnyL P md ops Q S Ls fuel listed a w
  | 0 => ⟨hr, h⟩
  | _ + 1 => ⟨fun _ => h, by rw [hr]; simp⟩
theorem wp_region_L {id : Nat} {a : Act} {w : World} (Ls : List Nat) (S : World → Prop) (hm : P.follows .mixedOrders = true) (hS : S w.drew)
    (h : S w.drew → wpAnyL P .any ops Q S Ls ops.size (Array.replicate ops.size false) a w.drew) : (Code.region id ops true).wp P Q a w :=
  wp_region_any hm (wpAny_of_L _ _ _ _ (h hS))
end
end Go.Proofs.Ytmheijnckmlbnaa
/- Loans: CancelLoan and BorrowerAt, both sides. -/
namespace Go.Proofs.Ytmheijnckmlbnaa
open Go.RowKit Go.Joins

def canR (xs : List Ln) (s : ByteArray) (d : Int) : List Ln := if askLc xs s d = 0 then xs.take (askLi xs s d).toNat ++ xs.drop ((askLi xs s d).toNat + 1) else []
def borS (xs : List Ln) (s : ByteArray) (d : Int) : ByteArray := if askLc xs s d = 0 then (atL xs (askLi xs s d).toNat).who else ⟨#[]⟩
theorem canR_len (xs : List Ln) (s : ByteArray) (d : Int) : (canR xs s d).length ≤ xs.length := by
  unfold canR; split
  · rw [List.length_append, List.length_take, List.length_drop]; omega
  · simp
theorem canR_mem {xs : List Ln} {s : ByteArray} {d : Int} : ∀ x ∈ canR xs s d, x ∈ xs := by
  unfold canR; split
  · intro x hx
    rcases List.mem_append.1 hx with hx | hx
    · exact List.mem_of_mem_take hx
    · exact List.mem_of_mem_drop hx
  · simp
theorem can_cases (xs : List Ln) (s : ByteArray) (d : Int) : (loansOk xs = false ∧ askLc xs s d = 1 ∧ askLi xs s d = 0 ∧ canR xs s d = [] ∧ borS xs s d = ⟨#[]⟩) ∨ (loansOk xs = true ∧ findL xs s d 0 = -1 ∧ askLc xs s d = 3 ∧ askLi xs s d = 0 ∧ canR xs s d = [] ∧ borS xs s d = ⟨#[]⟩) ∨
    ∃ (i : Nat) (hi : i < xs.length), loansOk xs = true ∧ findL xs s d 0 = (i : Int) ∧ askLc xs s d = 0 ∧ askLi xs s d = (i : Int) ∧ canR xs s d = xs.take i ++ xs.drop (i + 1) ∧ borS xs s d = xs[i].who := by
  rcases askL_cases xs s d with ⟨h1, h2, h3⟩ | ⟨h1, h2, h3, h4⟩ | ⟨i, hi, h1, h2, h3, h4⟩
  · exact .inl ⟨h1, h2, h3, by unfold canR; rw [h2]; rfl, by unfold borS; rw [h2]; rfl⟩
  · exact .inr (.inl ⟨h1, h2, h3, h4, by unfold canR; rw [h3]; rfl, by unfold borS; rw [h3]; rfl⟩)
  · refine .inr (.inr ⟨i, hi, h1, h2, h3, h4, ?_, ?_⟩)
    · unfold canR
      rw [if_pos h3, h4, Int.toNat_natCast]
    · unfold borS
      rw [if_pos h3, h4, Int.toNat_natCast, atL_at xs i hi]
theorem flat_take4 (xs : List Ln) (i : Nat) (h : i ≤ xs.length) : ((xs.take i).flatMap cellsL).length = i * 4 := by rw [flat_len cellsL 4 (fun _ => rfl), List.length_take]; omega
theorem flat_drop4 (xs : List Ln) (i : Nat) : ((xs.drop i).flatMap cellsL).length = (xs.length - i) * 4 := by rw [flat_len cellsL 4 (fun _ => rfl), List.length_drop]
theorem can_own {w : World} {base base' : Nat} {v : Value} {xs : List Ln} {i : Nat} (hi : i < xs.length) (h : w.ownsRow base' 40 4 v (i + (xs.length - (i + 1))) ([] ++ (xs.take i).flatMap cellsL ++ (xs.drop (i + 1)).flatMap cellsL)) (hb : base ≤ base') : OwnL w base v (xs.take i ++ xs.drop (i + 1)) := by
  refine OwnL.of h hb ?_ ?_
  · rw [List.length_append, List.length_take, List.length_drop]; omega
  · rw [List.nil_append, List.flatMap_append]
def canO (o c i : Nat) : Nat := if c = i + 1 then o else o + (i + 1) * 4
theorem canO_addr (b o c i : Nat) : (if c = i + 1 then some (⟨b, o, none⟩ : Addr) else some ⟨b, o + (i + 1) * 4, none⟩) = some ⟨b, canO o c i, none⟩ := by unfold canO; split <;> rfl
theorem can_rest {w : World} {B b o c : Nat} {xs : List Ln} {i : Nat} (h : RdL w B (.slice (some ⟨b, o, none⟩) xs.length c) xs) (hi : i < xs.length) (hc : xs.length ≤ c) :
    ∀ (j : Nat) (u : Value), ((xs.drop (i + 1)).flatMap cellsL)[j]? = some u → w.cell? ⟨b, canO o c i + j, none⟩ = some u := by
  intro j u hu
  unfold canO
  by_cases e : c = i + 1
  · have h1 := (List.getElem?_eq_some_iff.1 hu).1
    rw [flat_drop4] at h1
    have : xs.length - (i + 1) = 0 := by omega
    rw [this] at h1; omega
  · rw [if_neg e]; exact h.tail (i + 1) (by omega) j u hu
theorem own_sl_of {w : World} {base n size : Nat} {e : TypeId} {v : Value} {cs : List Value} (h : w.ownsRow base e size v n cs) : ∃ A c, v = .slice A n c := by
  obtain ⟨_, A, c, hv, _⟩ := Rd.of_own h
  exact ⟨A, c, hv⟩
theorem own_one {w w4 : World} {v : Value} {n : Nat} {cs : List Value} (_ho : w4.ownsRow w.heap.size 40 4 v n cs) (hg : (w.alloc (.cells #[] 40)).drew.grownBy w4 (some w.heap.size)) : Below w.heap.size w w4 :=
  ((Below.refl w.heap.size w).alloc (Nat.le_refl _) _).grown (grown_undrew hg) (by simp) (fun k e => by cases e; exact Nat.le_refl _)

theorem own_oneS {w w4 : World} {v : Value} {n : Nat} {cs : List Value} (_ho : w4.ownsRow w.heap.size 40 4 v n cs) (hg : (w.alloc (.cells #[] 40)).grownBy w4 (some w.heap.size)) : Below w.heap.size w w4 :=
  ((Below.refl w.heap.size w).alloc (Nat.le_refl _) _).grown hg (by simp) (fun k e => by cases e; exact Nat.le_refl _)

def RetBw (w : World) (xs : List Ln) (s : ByteArray) (d : Int) (e : Ending) (w' : World) : Prop := e = .returned (.tuple #[.string (borS xs s d), .int .i64 (askLc xs s d)]) ∧ Below w.heap.size w w'
set_option maxRecDepth 100000 in
set_option maxHeartbeats 1600000 in
theorem BorrowI_any (B b o c : Nat) (xs : List Ln) (s : ByteArray) (d : Int) (w : World) (h : RdL w B (.slice (some ⟨b, o, none⟩) xs.length c) xs) (hB : B ≤ w.heap.size) (hl : xs.length ≤ 1048576) (hsm : ∀ x ∈ xs, smL x) (hc : xs.length ≤ c) (hc2 : c ≤ maxLen) :
    Calls Try.prog 20 #[.slice (some ⟨b, o, none⟩) xs.length c, .string s, .int .i64 d] w (RetBw w xs s d) := by
  have HV := Lib.hid (ValidLoansI_any B (.slice (some ⟨b, o, none⟩) xs.length c) xs w h hB hl hsm (fun A n c' e => by injection e with _ e2 e3; exact ⟨by omega, by omega⟩))
  have HA := Lib.hid (fun wx hx hz => loanAt_any B (.slice (some ⟨b, o, none⟩) xs.length c) xs s d wx hx hz hl)
  have hcs := can_cases xs s d
  unfold RetBw
  generalize askLc xs s d = C at *
  generalize borS xs s d = R at *
  have H := Lib.hid h
  clear h hsm hc2
  rcases hcs with ⟨g1, g2, _, _, g3⟩ | ⟨g1, g2, g3, _, _, g4⟩ | ⟨i, hi, g1, g2, g3, _, _, g4⟩
  · subst g2 g3
    rw [g1] at HV
    clear g1
    go_enter Try.func20, Try.ntmps20
    go_wp2_with fail
    refine HV.out.mono ?_; rintro e w1 ⟨rfl, hb1⟩
    go_wp2_with fail
    go_ret2
    exact ⟨rfl, hb1⟩
  · subst g3 g4
    rw [g1] at HV
    rw [g2] at HA
    clear g1 g2
    go_enter Try.func20, Try.ntmps20
    go_wp2_with fail
    refine HV.out.mono ?_; rintro e w1 ⟨rfl, hb1⟩
    go_wp2_with fail
    refine (HA.out _ (H.out.below (hb1.mono hB)) (Nat.le_trans hB hb1.size)).mono ?_; rintro e w2 ⟨rfl, hb2⟩
    go_wp2_with fail
    go_ret2
    exact ⟨rfl, hb1.trans (hb2.mono hb1.size)⟩
  · subst g3
    rw [g1] at HV
    rw [g2] at HA
    have hi' : (i : Int) < (xs.length : Int) := by omega
    have hi0 : ¬ ((i : Int) < 0) := by omega
    have Hg4 := Lib.hid g4
    clear g1 g2 g4
    go_enter Try.func20, Try.ntmps20
    go_wp2_with fail
    refine HV.out.mono ?_; rintro e w1 ⟨rfl, hb1⟩
    go_wp2_with fail
    refine (HA.out _ (H.out.below (hb1.mono hB)) (Nat.le_trans hB hb1.size)).mono ?_; rintro e w2 ⟨rfl, hb2⟩
    have hbl := hb1.trans (hb2.mono hb1.size)
    obtain ⟨b1, o1, hA1, hE⟩ := (H.out.below (hbl.mono hB)).at i hi
    injection hA1 with hA2
    injection hA2 with hA3 hA4
    subst hA3 hA4
    obtain ⟨_, _, p1, _, _⟩ := hE
    rw [← Hg4.out] at p1
    go_wp2_with fail
    go_ret2
    exact ⟨rfl, hbl⟩
end Go.Proofs.Ytmheijnckmlbnaa
/- Loans: the plain law of FnLoans. -/
namespace Go.Proofs.Ytmheijnckmlbnaa

theorem loan_days' {x : Ln} (h : loanOk x = true) : 0 ≤ x.from_ ∧ x.from_ ≤ x.till := by
  unfold loanOk inB at h
  simp only [Bool.and_eq_true, decide_eq_true_eq] at h
  omega
theorem hits_uniq {xs : List Ln} (h : OkP xs) {s : ByteArray} {d : Int} {i j : Nat} (hi : i < xs.length) (hj : j < xs.length) (h1 : hits xs[i] s d = true) (h2 : hits xs[j] s d = true) : i = j := by
  have key : ∀ i j (hi : i < xs.length) (hj : j < xs.length), hits xs[i] s d = true → hits xs[j] s d = true → ¬ i < j := fun i j hi hj h1 h2 hij => by
    have hc := (h.two i j hi hj hij).2
    unfold hits inB at h1 h2
    unfold clash at hc
    simp only [Bool.and_eq_true, decide_eq_true_eq] at h1 h2
    have : (decide (xs[i].what = xs[j].what) && decide (xs[i].from_ ≤ xs[j].till) && decide (xs[j].from_ ≤ xs[i].till)) = true := by
      simp only [Bool.and_eq_true, decide_eq_true_eq]
      exact ⟨⟨h1.1.trans h2.1.symm, by omega⟩, by omega⟩
    rw [hc] at this; cases this
  rcases Nat.lt_trichotomy i j with h3 | h3 | h3
  · exact absurd h3 (key i j hi hj h1 h2)
  · exact h3
  · exact absurd h3 (key j i hj hi h2 h1)
theorem find_hit : ∀ (l : List Ln) (s : ByteArray) (d : Int) (k : Nat), findL l s d k = -1 ∨ ∃ i, ∃ hi : i < l.length, findL l s d k = ((k + i : Nat) : Int) ∧ hits l[i] s d = true := by
  intro l
  induction l with
  | nil => intro s d k; exact .inl rfl
  | cons x l ih =>
    intro s d k
    unfold findL
    split
    · rename_i h; exact .inr ⟨0, by simp, by simp, h⟩
    · rcases ih s d (k + 1) with h | ⟨i, hi, h1, h2⟩
      · exact .inl h
      · exact .inr ⟨i + 1, by simp; omega, by rw [h1]; congr 1; omega, h2⟩
theorem find_none : ∀ (l : List Ln) (s : ByteArray) (d : Int) (k : Nat), (∀ x ∈ l, hits x s d = false) → findL l s d k = -1 := by
  intro l
  induction l with
  | nil => intro s d k _; rfl
  | cons x l ih =>
    intro s d k h
    unfold findL
    rw [if_neg (by rw [h x (by simp)]; simp)]
    exact ih s d (k + 1) (fun y hy => h y (by simp [hy]))
theorem find_some {xs : List Ln} {s : ByteArray} {d : Int} {i : Nat} (h : OkP xs) (hi : i < xs.length) (h1 : hits xs[i] s d = true) : findL xs s d 0 = (i : Int) := by
  rcases find_hit xs s d 0 with h2 | ⟨j, hj, h2, h3⟩
  · exfalso
    have key : ∀ (l : List Ln) (k : Nat), findL l s d k = -1 → ∀ x ∈ l, hits x s d = false := by
      intro l
      induction l with
      | nil => intro k _ x hx; cases hx
      | cons y l ih =>
        intro k hk x hx
        unfold findL at hk
        split at hk
        · omega
        · rename_i hy
          rcases List.mem_cons.1 hx with rfl | hx
          · simpa using hy
          · exact ih (k + 1) hk x hx
    rw [key xs 0 h2 xs[i] (List.getElem_mem hi)] at h1
    cases h1
  · rw [h2, Nat.zero_add, hits_uniq h hj hi h3 h1]
theorem ask_0 {xs : List Ln} {s : ByteArray} {d : Int} (h : askLc xs s d = 0) : ∃ i, ∃ hi : i < xs.length, OkP xs ∧ hits xs[i] s d = true ∧ canR xs s d = xs.take i ++ xs.drop (i + 1) ∧ borS xs s d = xs[i].who ∧ retR xs s d = xs.set i ⟨xs[i].what, xs[i].who, xs[i].from_, d⟩ := by
  rcases can_cases xs s d with ⟨_, h2, _⟩ | ⟨_, _, h2, _⟩ | ⟨i, hi, h1, h2, h3, h4, h5, h6⟩
  · rw [h] at h2; cases h2
  · rw [h] at h2; cases h2
  · refine ⟨i, hi, OkP.of h1, ?_, h5, h6, ?_⟩
    · rcases find_hit xs s d 0 with h7 | ⟨j, hj, h7, h8⟩
      · rw [h2] at h7; omega
      · rw [h2] at h7
        have : j = i := by omega
        subst this; exact h8
    · rcases ret_cases xs s d with ⟨_, g2, _⟩ | ⟨_, _, g2, _⟩ | ⟨j, hj, _, g2, _, _, g5⟩
      · rw [h] at g2; cases g2
      · rw [h] at g2; cases g2
      · rw [h2] at g2
        have : i = j := by omega
        subst this; exact g5
theorem ask_of {xs : List Ln} {s : ByteArray} {d : Int} {i : Nat} (h : OkP xs) (hi : i < xs.length) (h1 : hits xs[i] s d = true) : askLc xs s d = 0 ∧ canR xs s d = xs.take i ++ xs.drop (i + 1) ∧ borS xs s d = xs[i].who := by
  have hf := find_some h hi h1
  have hk := h.to
  rcases can_cases xs s d with ⟨g1, _⟩ | ⟨_, g2, _⟩ | ⟨j, hj, g1, g2, g3, g4, g5, g6⟩
  · rw [hk] at g1; cases g1
  · rw [hf] at g2; omega
  · rw [hf] at g2
    have : i = j := by omega
    subst this
    exact ⟨g3, g5, g6⟩
theorem ask_none {xs : List Ln} {s : ByteArray} {d : Int} (h : OkP xs) (h1 : ∀ x ∈ xs, hits x s d = false) : askLc xs s d = 3 := by
  have hf := find_none xs s d 0 h1
  unfold askLc
  rw [if_neg (by rw [h.to]; simp), hf]; rfl
theorem del_at {xs : List Ln} {i : Nat} (hi : i < xs.length) (j : Nat) (hj : j < (xs.take i ++ xs.drop (i + 1)).length) : ∃ m, ∃ hm : m < xs.length, (xs.take i ++ xs.drop (i + 1))[j] = xs[m] ∧ m ≠ i ∧ ((j < i ∧ m = j) ∨ (i ≤ j ∧ m = j + 1)) := by
  have hl : (xs.take i).length = i := by rw [List.length_take]; omega
  have hjl : j < i + (xs.length - (i + 1)) := by rw [List.length_append, hl, List.length_drop] at hj; exact hj
  by_cases h : j < i
  · refine ⟨j, by omega, ?_, by omega, .inl ⟨h, rfl⟩⟩
    rw [List.getElem_append_left (by omega), List.getElem_take]
  · refine ⟨j + 1, by omega, ?_, by omega, .inr ⟨by omega, rfl⟩⟩
    rw [List.getElem_append_right (by omega), List.getElem_drop]
    simp only [hl]
    congr 1; omega
/-- what is cancelled is free again, and the list stays valid -/
theorem cancel_law {xs : List Ln} {s : ByteArray} {d : Int} (h : askLc xs s d = 0) : loansOk (canR xs s d) = true ∧ askLc (canR xs s d) s d = 3 ∧ loansOk (retR xs s d) = true := by
  obtain ⟨i, hi, hP, hh, hc, _, hr⟩ := ask_0 h
  have hP2 : OkP (canR xs s d) := by
    rw [hc]
    refine ⟨by have := hP.len; rw [List.length_append, List.length_take, List.length_drop]; omega, fun j hj => ?_, fun j k hj hk hjk => ?_⟩
    · obtain ⟨m, hm, he, _⟩ := del_at hi j hj
      rw [he]; exact hP.one m hm
    · obtain ⟨m, hm, he, _, h1⟩ := del_at hi j hj
      obtain ⟨m2, hm2, he2, _, h2⟩ := del_at hi k hk
      rw [he, he2]
      exact hP.two m m2 hm hm2 (by omega)
  refine ⟨hP2.to, ?_, ?_⟩
  · refine ask_none hP2 fun x hx => ?_
    rw [hc] at hx
    obtain ⟨j, hj, rfl⟩ := List.mem_iff_getElem.1 hx
    obtain ⟨m, hm, he, hne, _⟩ := del_at hi j hj
    rw [he]
    cases hq : hits xs[m] s d with
    | false => rfl
    | true => exact absurd (hits_uniq hP hm hi hq hh) hne
  · rw [hr]
    unfold hits inB at hh
    simp only [Bool.and_eq_true, decide_eq_true_eq] at hh
    have hx := hP.one i hi
    have hd := loan_days' hx
    refine OkP.to ⟨by rw [List.length_set]; exact hP.len, fun j hj => ?_, fun j k hj hk hjk => ?_⟩
    · rw [List.length_set] at hj
      by_cases e : i = j
      · subst e
        rw [List.getElem_set_self]
        unfold loanOk inB at hx ⊢
        simp only [Bool.and_eq_true, decide_eq_true_eq] at hx ⊢
        exact ⟨⟨⟨⟨hx.1.1.1.1, hx.1.1.1.2⟩, hx.1.1.2⟩, by omega⟩, by omega⟩
      · rw [List.getElem_set_ne e]; exact hP.one j hj
    · rw [List.length_set] at hj hk
      obtain ⟨t1, t2⟩ := hP.two j k hj hk hjk
      by_cases e : i = j
      · subst e
        rw [List.getElem_set_self, List.getElem_set_ne (by omega)]
        refine ⟨by unfold before at t1 ⊢; exact t1, ?_⟩
        unfold clash at t2 ⊢
        simp only [Bool.and_eq_false_iff, decide_eq_false_iff_not] at t2 ⊢
        rcases t2 with (t2 | t2) | t2
        · exact .inl (.inl t2)
        · exact .inl (.inr t2)
        · exact .inr (by omega)
      · rw [List.getElem_set_ne e]
        by_cases e2 : i = k
        · subst e2
          rw [List.getElem_set_self]
          refine ⟨by unfold before at t1 ⊢; exact t1, ?_⟩
          unfold clash at t2 ⊢
          simp only [Bool.and_eq_false_iff, decide_eq_false_iff_not] at t2 ⊢
          rcases t2 with (t2 | t2) | t2
          · exact .inl (.inl t2)
          · exact .inl (.inr (by omega))
          · exact .inr t2
        · rw [List.getElem_set_ne e2]; exact ⟨t1, t2⟩
/-- what is lent has its borrower, and is undone -/
theorem add_law {xs : List Ln} {x : Ln} (h : addC xs x = 0) (d : Int) (h0 : x.from_ ≤ d) (h1 : d ≤ x.till) : askLc (addR xs x) x.what d = 0 ∧ borS (addR xs x) x.what d = x.who ∧ canR (addR xs x) x.what d = xs := by
  have hP := OkP.of (add_ok h)
  obtain ⟨k, hk, he, _⟩ := add_facts h
  have hl : (xs.take k).length = k := by rw [List.length_take]; omega
  have hki : k < (addR xs x).length := by rw [he, List.length_append, List.length_cons, hl]; omega
  have hx : (addR xs x)[k] = x := by
    simp only [he]
    rw [List.getElem_append_right (by omega)]
    simp [hl]
  have hh : hits (addR xs x)[k] x.what d = true := by
    rw [hx]
    unfold hits inB
    simp only [Bool.and_eq_true, decide_eq_true_eq]
    exact ⟨trivial, h0, h1⟩
  obtain ⟨a1, a2, a3⟩ := ask_of hP hki hh
  refine ⟨a1, by rw [a3, hx], ?_⟩
  rw [a2, he, List.take_append_of_le_length (by omega), List.take_of_length_le (by omega), List.drop_append, hl, List.drop_of_length_le (by omega), List.nil_append, show k + 1 - k = 1 by omega]
  simp
end Go.Proofs.Ytmheijnckmlbnaa
/- Loans: the plain law of FnFreeDays. -/
namespace Go.Proofs.Ytmheijnckmlbnaa

/-- a loan moves the start behind its end -/
def stepF (e : ByteArray) (n : Int) (a : Int) (x : Ln) : Int := if x.what = e ∧ x.from_ ≤ a + n - 1 ∧ a ≤ x.till then x.till + 1 else a
def freeF (xs : List Ln) (e : ByteArray) (d n : Int) : Int := xs.foldl (stepF e n) d
def freeC (xs : List Ln) (e : ByteArray) (d n : Int) : Int := if loansOk xs = false then 1 else if (inB d 0 100000 && inB n 1 1000) = false then 2 else if inB (freeF xs e d n + n - 1) 0 100000 = false then 3 else 0
def freeA (xs : List Ln) (e : ByteArray) (d n : Int) : Int := if freeC xs e d n = 0 then freeF xs e d n else 0
theorem before_le {x y : Ln} (h : before x y = true) : x.from_ ≤ y.from_ := by
  unfold before at h
  simp only [Bool.or_eq_true, Bool.and_eq_true, decide_eq_true_eq] at h
  rcases h with h | ⟨h, _⟩ <;> omega
theorem freeF_take {xs : List Ln} (h : OkP xs) (e : ByteArray) (d n : Int) : ∀ k, k ≤ xs.length → d ≤ freeF (xs.take k) e d n ∧ ∀ j (hj : j < xs.length), j < k → xs[j].what = e → ¬ (xs[j].from_ ≤ freeF (xs.take k) e d n + n - 1 ∧ freeF (xs.take k) e d n ≤ xs[j].till) := by
  intro k
  induction k with
  | zero => intro _; exact ⟨by simp [freeF], fun j _ hj => absurd hj (by omega)⟩
  | succ k ih =>
    intro hk
    obtain ⟨i1, i2⟩ := ih (by omega)
    have e1 : freeF (xs.take (k + 1)) e d n = stepF e n (freeF (xs.take k) e d n) xs[k] := by
      unfold freeF
      rw [List.take_succ_eq_append_getElem (by omega), List.foldl_append]; rfl
    rw [e1]
    generalize freeF (xs.take k) e d n = a at *
    unfold stepF
    split
    · rename_i hc
      obtain ⟨c1, c2, c3⟩ := hc
      refine ⟨by omega, fun j hj hjk hw => ?_⟩
      by_cases hjk2 : j = k
      · subst hjk2; omega
      · have h3 := i2 j hj (by omega) hw
        have h4 := before_le (h.two j k hj (by omega) (by omega)).1
        omega
    · rename_i hc
      refine ⟨i1, fun j hj hjk hw => ?_⟩
      by_cases hjk2 : j = k
      · subst hjk2; exact fun h5 => hc ⟨hw, h5⟩
      · exact i2 j hj (by omega) hw
theorem free_law {xs : List Ln} (h : OkP xs) (e : ByteArray) (d n : Int) : d ≤ freeF xs e d n ∧ ∀ j (hj : j < xs.length), xs[j].what = e → ¬ (xs[j].from_ ≤ freeF xs e d n + n - 1 ∧ freeF xs e d n ≤ xs[j].till) := by
  have := freeF_take h e d n xs.length (Nat.le_refl _)
  rw [List.take_length] at this
  exact ⟨this.1, fun j hj hw => this.2 j hj hj hw⟩
theorem freeC_0 {xs : List Ln} {e : ByteArray} {d n : Int} (h : freeC xs e d n = 0) : loansOk xs = true ∧ 0 ≤ d ∧ d ≤ 100000 ∧ 1 ≤ n ∧ n ≤ 1000 ∧ freeF xs e d n + n - 1 ≤ 100000 := by
  unfold freeC at h
  split at h
  · cases h
  · rename_i h1
    split at h
    · cases h
    · rename_i h2
      split at h
      · cases h
      · rename_i h3
        unfold inB at h2 h3
        simp at h1 h2 h3
        exact ⟨h1, by omega, by omega, by omega, by omega, by omega⟩
/-- at the free days nothing is lent -/
theorem free_ask {xs : List Ln} {e : ByteArray} {d n : Int} (h : freeC xs e d n = 0) (k : Int) (h0 : freeF xs e d n ≤ k) (h1 : k ≤ freeF xs e d n + n - 1) : askLc xs e k = 3 := by
  obtain ⟨hok, _⟩ := freeC_0 h
  obtain ⟨_, hl⟩ := free_law (OkP.of hok) e d n
  have hf : findL xs e k 0 = -1 := find_none xs e k 0 (fun x hx => by
    obtain ⟨j, hj, rfl⟩ := List.mem_iff_getElem.1 hx
    cases hh : hits xs[j] e k with
    | false => rfl
    | true =>
      exfalso
      unfold hits inB at hh
      simp only [Bool.and_eq_true, decide_eq_true_eq] at hh
      exact hl j hj hh.1 (by omega))
  unfold askLc
  rw [hf, hok, if_neg (by simp), if_pos (by omega)]
theorem free_add {xs : List Ln} {e : ByteArray} {d n : Int} (h : freeC xs e d n = 0) :
    addC xs ⟨e, ⟨#[120]⟩, freeF xs e d n, freeF xs e d n + n - 1⟩ = 5 ∨ (addC xs ⟨e, ⟨#[120]⟩, freeF xs e d n, freeF xs e d n + n - 1⟩ = 2 ∧ isNm e.data.toList = false) ∨
      (addC xs ⟨e, ⟨#[120]⟩, freeF xs e d n, freeF xs e d n + n - 1⟩ = 0 ∧ (addR xs ⟨e, ⟨#[120]⟩, freeF xs e d n, freeF xs e d n + n - 1⟩).length = xs.length + 1) := by
  obtain ⟨hok, d0, d1, n0, n1, hh⟩ := freeC_0 h
  obtain ⟨hd, hl⟩ := free_law (OkP.of hok) e d n
  generalize freeF xs e d n = a at *
  cases hn : isNm e.data.toList with
  | false =>
    refine .inr (.inl ⟨?_, rfl⟩)
    unfold addC loanOk
    rw [hok, hn, if_neg (by simp), if_pos (by simp)]
  | true =>
    have hlo : loanOk ⟨e, ⟨#[120]⟩, a, a + n - 1⟩ = true := by
      unfold loanOk
      rw [show isNm (⟨e, ⟨#[120]⟩, a, a + n - 1⟩ : Ln).what.data.toList = true from hn, show isNm (⟨e, ⟨#[120]⟩, a, a + n - 1⟩ : Ln).who.data.toList = true from (by decide : isNm [120] = true)]
      unfold inB
      simp
      omega
    have hck : chk xs.length (hitI xs ⟨e, ⟨#[120]⟩, a, a + n - 1⟩) = true := by
      unfold chk
      rw [List.all_eq_true]
      intro j hj
      have hj' := List.mem_range.1 hj
      unfold hitI
      rw [show atL xs j = xs[j] from by unfold atL; simp [hj']]
      have := hl j hj'
      unfold clash
      simp only [Bool.not_eq_true', Bool.and_eq_false_iff, decide_eq_false_iff_not]
      by_cases hw : xs[j].what = e
      · have := this hw
        by_cases h5 : a ≤ xs[j].till
        · exact .inr (by omega)
        · exact .inl (.inr h5)
      · exact .inl (.inl (fun h => hw h.symm))
    by_cases h60 : 60 ≤ xs.length
    · refine .inl ?_
      unfold addC
      rw [hok, hlo, hck, if_neg (by simp), if_neg (by simp), if_neg (by simp), if_pos h60]
    · have h0 : addC xs ⟨e, ⟨#[120]⟩, a, a + n - 1⟩ = 0 := by
        unfold addC
        rw [hok, hlo, hck, if_neg (by simp), if_neg (by simp), if_neg (by simp), if_neg h60]
      refine .inr (.inr ⟨h0, ?_⟩)
      obtain ⟨k, hk, he, _⟩ := add_facts h0
      rw [he, List.length_append, List.length_cons, List.length_take, List.length_drop]; omega

/-- how many loans hold a day -/
def cntL (xs : List Ln) (d : Int) : Nat := (xs.filter fun x => inB d x.from_ x.till).length
def busS (xs : List Ln) (p : Int × Int) (x : Ln) : Int × Int := if p.2 < (cntL xs x.from_ : Int) then (x.from_, (cntL xs x.from_ : Int)) else p
def busF (xs : List Ln) : Int × Int := xs.foldl (busS xs) (0, 0)
theorem bus_fold (xs : List Ln) : ∀ (l : List Ln) (p : Int × Int), p.2 ≤ (l.foldl (busS xs) p).2 ∧ ∀ x ∈ l, (cntL xs x.from_ : Int) ≤ (l.foldl (busS xs) p).2 := by
  intro l
  induction l with
  | nil => intro p; exact ⟨Int.le_refl _, fun x hx => by cases hx⟩
  | cons y l ih =>
    intro p
    obtain ⟨h1, h2⟩ := ih (busS xs p y)
    rw [List.foldl_cons]
    have h3 : p.2 ≤ (busS xs p y).2 ∧ (cntL xs y.from_ : Int) ≤ (busS xs p y).2 := by
      unfold busS
      split
      · exact ⟨by dsimp only; omega, Int.le_refl _⟩
      · exact ⟨Int.le_refl _, by omega⟩
    refine ⟨by omega, fun x hx => ?_⟩
    rcases List.mem_cons.1 hx with rfl | hx
    · omega
    · exact h2 x hx
theorem bus_from {xs : List Ln} : ∀ x ∈ xs, (cntL xs x.from_ : Int) ≤ (busF xs).2 := (bus_fold xs xs (0, 0)).2
theorem last_from : ∀ (l : List Ln), l ≠ [] → ∃ f ∈ l, ∀ x ∈ l, x.from_ ≤ f.from_ := by
  intro l
  induction l with
  | nil => intro h; exact absurd rfl h
  | cons y l ih =>
    intro _
    by_cases hl : l = []
    · subst hl
      exact ⟨y, by simp, fun x hx => by rw [List.mem_singleton.1 hx]; exact Int.le_refl _⟩
    · obtain ⟨f, hf, hm⟩ := ih hl
      by_cases hy : f.from_ ≤ y.from_
      · exact ⟨y, by simp, fun x hx => by
          rcases List.mem_cons.1 hx with rfl | hx
          · exact Int.le_refl _
          · have := hm x hx; omega⟩
      · exact ⟨f, by simp [hf], fun x hx => by
          rcases List.mem_cons.1 hx with rfl | hx
          · omega
          · exact hm x hx⟩
theorem filter_le {p q : Ln → Bool} : ∀ (l : List Ln), (∀ x ∈ l, p x = true → q x = true) → (l.filter p).length ≤ (l.filter q).length := by
  intro l
  induction l with
  | nil => intro _; exact Nat.le_refl _
  | cons y l ih =>
    intro h
    have h1 := ih (fun x hx => h x (by simp [hx]))
    have h2 := h y (by simp)
    rw [List.filter_cons, List.filter_cons]
    by_cases hp : p y = true
    · rw [if_pos hp, if_pos (h2 hp)]; simp; exact h1
    · rw [if_neg hp]
      split
      · simp; omega
      · exact h1
/-- no day has more loans than the busiest one -/
theorem bus_law {xs : List Ln} (d : Int) : (cntL xs d : Int) ≤ (busF xs).2 := by
  have h0 : (0 : Int) ≤ (busF xs).2 := (bus_fold xs xs (0, 0)).1
  by_cases hn : xs.filter (fun x => inB d x.from_ x.till) = []
  · unfold cntL; rw [hn]; simpa using h0
  · obtain ⟨f, hf, hm⟩ := last_from _ hn
    obtain ⟨hf1, hf2⟩ := List.mem_filter.1 hf
    have h1 := bus_from f hf1
    have h2 : cntL xs d ≤ cntL xs f.from_ := by
      unfold cntL
      apply filter_le
      intro x hx hp
      have h3 := hm x (List.mem_filter.2 ⟨hx, hp⟩)
      unfold inB at hp hf2 ⊢
      simp only [Bool.and_eq_true, decide_eq_true_eq] at hp hf2 ⊢
      omega
    omega
end Go.Proofs.Ytmheijnckmlbnaa
/- Loans: how many are lent at a day, both sides. -/
namespace Go.Proofs.Ytmheijnckmlbnaa
open Go.RowKit Go.Joins

theorem cntL_at (xs : List Ln) (d : Int) (k : Nat) (hk : k < xs.length) : cntL (xs.drop k) d = (if inB d xs[k].from_ xs[k].till = true then 1 else 0) + cntL (xs.drop (k + 1)) d := by
  unfold cntL
  rw [List.drop_eq_getElem_cons hk, List.filter_cons]
  split
  · rw [List.length_cons]; omega
  · omega
theorem cntL_end (xs : List Ln) (d : Int) (k : Nat) (hk : xs.length ≤ k) : cntL (xs.drop k) d = 0 := by rw [List.drop_of_length_le hk]; rfl
theorem cntL_le (xs : List Ln) (d : Int) : cntL xs d ≤ xs.length := List.length_filter_le _ _

set_option maxRecDepth 100000 in
set_option maxHeartbeats 1600000 in
theorem lentAt_any (B : Nat) (v : Value) (xs : List Ln) (d : Int) (w : World) (h : RdL w B v xs) (hB : B ≤ w.heap.size) (hl : xs.length ≤ 1048576) :
    Calls Try.prog 57 #[v, .int .i64 d] w fun e w' => e = .returned (.int .i64 (cntL xs d : Nat)) ∧ Below w.heap.size w w' := by
  have H := Lib.hid h
  obtain ⟨A, c, rfl⟩ := h.slice
  clear h
  have hb0 := Below.refl w.heap.size w
  go_enter Try.func57, Try.ntmps57
  go_wp2_with fail
  go_loopw [5, 10] (fun n i wr => ∃ k j : Nat, k ≤ xs.length ∧ j ≤ k ∧ cntL xs d = j + cntL (xs.drop k) d ∧ n = .int .i64 (j : Int) ∧ i = .int .i64 (k : Int) ∧ Below w.heap.size w wr) (fun _ i _ => xs.length - (intOf i).toNat)
  case atStart => exact ⟨0, 0, Nat.zero_le _, Nat.le_refl _, by simp, rfl, rfl, hb0⟩
  case round =>
    obtain ⟨k, j, hk, hj, heq, rfl, rfl, hbl⟩ := hrel
    have Heq := Lib.hid heq; clear heq
    by_cases hlt : k < xs.length
    · obtain ⟨b1, o1, hA, hE⟩ := (H.out.below (hbl.mono hB)).at k hlt
      subst hA
      have hlt' : (k : Int) < (xs.length : Int) := by omega
      have Hst := Lib.hid (cntL_at xs d k hlt)
      generalize xs[k] = x at *
      have HB := Lib.hid (fun wx => between_any d x.from_ x.till wx)
      obtain ⟨xa, xb, xf, xt⟩ := x
      obtain ⟨hbB, e0, e1, e2, e3⟩ := hE
      dsimp only at e0 e1 e2 e3 HB Hst
      have hba := Lib.hid (hbl.alloc hbl.size (.cells #[.string xa, .string xb, .int .i64 xf, .int .i64 xt] 40))
      clear hbl
      cases hz : inB d xf xt with
      | true =>
        have hfin := Lib.hid (show cntL xs d = (j + 1) + cntL (xs.drop (k + 1)) d by rw [Heq.out, Hst.out, if_pos hz]; omega)
        rw [hz] at HB
        clear hz Hst
        go_wp2_with fail
        refine (HB.out _).mono ?_; rintro e w1 ⟨rfl, rfl⟩
        go_wp2_with fail
        go_roundw
        case rel => exact ⟨k + 1, j + 1, by omega, by omega, hfin.out, by go_num, by go_num, hba.out⟩
        case measure => simp [intOf]; omega
      | false =>
        have hfin := Lib.hid (show cntL xs d = j + cntL (xs.drop (k + 1)) d by rw [Heq.out, Hst.out, if_neg (by rw [hz]; decide)]; omega)
        rw [hz] at HB
        clear hz Hst
        go_wp2_with fail
        refine (HB.out _).mono ?_; rintro e w1 ⟨rfl, rfl⟩
        go_wp2_with fail
        go_roundw
        case rel => exact ⟨k + 1, j, by omega, by omega, hfin.out, by go_num, by go_num, hba.out⟩
        case measure => simp [intOf]; omega
    · have hfin := Lib.hid (show cntL xs d = j by rw [Heq.out, cntL_end xs d k (by omega)]; rfl)
      have hlt' : (xs.length : Int) ≤ (k : Int) := by omega
      go_wp2_with fail
      go_ret
      rw [hfin.out]; exact ⟨rfl, hbl⟩
set_option maxRecDepth 100000 in
set_option maxHeartbeats 1600000 in
theorem l23Lent_any (B : Nat) (v : Value) (xs : List Ln) (d : Int) (w : World) (h : RdL w B v xs) (hl : xs.length ≤ 1048576) :
    Calls Try.prog 58 #[v, .int .i64 d] w fun e w' => e = .returned (.int .i64 (cntL xs d : Nat)) ∧ ∃ n, w' = w.drewN n := by
  have H := Lib.hid h
  obtain ⟨A, c, rfl⟩ := h.slice
  clear h
  go_enter Try.func58, Try.ntmps58
  go_wp2_with fail
  go_loopw [5, 6] (fun n i wr => ∃ k j m0 : Nat, k ≤ xs.length ∧ j ≤ k ∧ cntL xs d = j + cntL (xs.drop k) d ∧ n = .int .i64 (j : Int) ∧ i = .int .i64 (k : Int) ∧ wr = w.drewN m0) (fun _ i _ => xs.length - (intOf i).toNat)
  case atStart => exact ⟨0, 0, 0, Nat.zero_le _, Nat.le_refl _, by simp, rfl, rfl, rfl⟩
  case round =>
    obtain ⟨k, j, m0, hk, hj, heq, rfl, rfl, hwr⟩ := hrel
    have Heq := Lib.hid heq; clear heq
    have Hw := Lib.hid (fun n => (show wr.drewN n = w.drewN (m0 + n) by rw [hwr, World.drewN_drewN]))
    have Hw0 := Lib.hid hwr
    have Hr : Hid (RdL wr B (.slice A xs.length c) xs) := Lib.hid (by rw [hwr]; exact H.out.drewN m0)
    clear hwr
    by_cases hlt : k < xs.length
    · obtain ⟨b1, o1, hA, hE⟩ := Hr.out.at k hlt
      subst hA
      have hlt' : (k : Int) < (xs.length : Int) := by omega
      have Hst := Lib.hid (cntL_at xs d k hlt)
      generalize xs[k] = x at *
      have HB := Lib.hid (fun wx => flipC (l00In_any d x.from_ x.till wx))
      obtain ⟨xa, xb, xf, xt⟩ := x
      obtain ⟨hbB, e0, e1, e2, e3⟩ := hE
      dsimp only at e0 e1 e2 e3 HB Hst
      clear e0 e1
      cases hz : inB d xf xt with
      | true =>
        have hfin := Lib.hid (show cntL xs d = (j + 1) + cntL (xs.drop (k + 1)) d by rw [Heq.out, Hst.out, if_pos hz]; omega)
        rw [hz] at HB
        clear hz Hst
        go_wp2_with fail
        go_quiet ((go_at_call 55; exact Calls.quiet_of_same (HB.out _)))
        go_wp2_with fail
        go_roundw
        case rel => exact ⟨k + 1, j + 1, _, by omega, by omega, hfin.out, by go_num, by go_num, Hw.out _⟩
        case measure => simp [intOf]; omega
      | false =>
        have hfin := Lib.hid (show cntL xs d = j + cntL (xs.drop (k + 1)) d by rw [Heq.out, Hst.out, if_neg (by rw [hz]; decide)]; omega)
        rw [hz] at HB
        clear hz Hst
        go_wp2_with fail
        go_quiet ((go_at_call 55; exact Calls.quiet_of_same (HB.out _)))
        go_wp2_with fail
        go_roundw
        case rel => exact ⟨k + 1, j, _, by omega, by omega, hfin.out, by go_num, by go_num, Hw.out _⟩
        case measure => simp [intOf]; omega
    · have hfin := Lib.hid (show cntL xs d = j by rw [Heq.out, cntL_end xs d k (by omega)]; rfl)
      have hlt' : (xs.length : Int) ≤ (k : Int) := by omega
      go_wp2_with fail
      go_ret
      rw [hfin.out]; exact ⟨rfl, _, Hw0.out⟩
def lentV (xs : List Ln) (d : Int) : Int := if loansOk xs = true then (cntL xs d : Nat) else 0
def lentC (xs : List Ln) : Int := if loansOk xs = true then 0 else 1
set_option maxRecDepth 100000 in
set_option maxHeartbeats 800000 in
theorem LentI_any (B : Nat) (v : Value) (xs : List Ln) (d : Int) (w : World) (h : RdL w B v xs) (hB : B ≤ w.heap.size) (hl : xs.length ≤ 1048576) (hsm : ∀ x ∈ xs, smL x) (hcap : ∀ A n c, v = .slice A n c → n ≤ c ∧ c ≤ maxLen) :
    Calls Try.prog 14 #[v, .int .i64 d] w fun e w' => e = .returned (.tuple #[.int .i64 (lentV xs d), .int .i64 (lentC xs)]) ∧ Below w.heap.size w w' := by
  have HV := Lib.hid (ValidLoansI_any B v xs w h hB hl hsm hcap)
  have HL := Lib.hid (fun wx hx hz => lentAt_any B v xs d wx hx hz hl)
  have H := Lib.hid h
  obtain ⟨A, c, rfl⟩ := h.slice
  clear h hsm hcap
  unfold lentV lentC
  generalize cntL xs d = n at *
  cases hz : loansOk xs with
  | false =>
    rw [hz] at HV
    clear hz
    go_enter Try.func14, Try.ntmps14
    go_wp2_with fail
    refine HV.out.mono ?_; rintro e w1 ⟨rfl, hb1⟩
    go_wp2_with fail
    go_ret2
    exact ⟨rfl, hb1⟩
  | true =>
    rw [hz] at HV
    clear hz
    go_enter Try.func14, Try.ntmps14
    go_wp2_with fail
    refine HV.out.mono ?_; rintro e w1 ⟨rfl, hb1⟩
    go_wp2_with fail
    refine (HL.out _ (H.out.below (hb1.mono hB)) (Nat.le_trans hB hb1.size)).mono ?_; rintro e w2 ⟨rfl, hb2⟩
    go_wp2_with fail
    go_ret2
    exact ⟨rfl, hb1.trans (hb2.mono hb1.size)⟩
set_option maxRecDepth 100000 in
set_option maxHeartbeats 800000 in
theorem LentS_any (B : Nat) (v : Value) (xs : List Ln) (d : Int) (w : World) (h : RdL w B v xs) (hl : xs.length ≤ 1048576) (hsm : ∀ x ∈ xs, smL x) :
    Calls Try.prog 15 #[v, .int .i64 d] w fun e w' => e = .returned (.tuple #[.int .i64 (lentV xs d), .int .i64 (lentC xs)]) ∧ ∃ n, w' = w.drewN n := by
  have HV := Lib.hid (l23Ok_any B v xs w h hl hsm)
  have HL := Lib.hid (fun n => l23Lent_any B v xs d (w.drewN n) (h.drewN n) hl)
  obtain ⟨A, c, rfl⟩ := h.slice
  clear h hsm
  unfold lentV lentC
  generalize cntL xs d = n at *
  cases hz : loansOk xs with
  | false =>
    rw [hz] at HV
    clear hz
    go_enter Try.func15, Try.ntmps15
    go_wp2_with fail
    refine HV.out.mono ?_; rintro e w1 ⟨rfl, n1, rfl⟩
    go_wp2_with fail
    go_ret2
    exact ⟨rfl, _, rfl⟩
  | true =>
    rw [hz] at HV
    clear hz
    go_enter Try.func15, Try.ntmps15
    go_wp2_with fail
    refine HV.out.mono ?_; rintro e w1 ⟨rfl, n1, rfl⟩
    go_wp2_with fail
    refine (HL.out n1).mono ?_; rintro e w2 ⟨rfl, n2, rfl⟩
    go_wp2_with fail
    go_ret2
    exact ⟨rfl, _, rfl⟩
end Go.Proofs.Ytmheijnckmlbnaa
/- Loans: the busiest day, both sides. -/
namespace Go.Proofs.Ytmheijnckmlbnaa
open Go.RowKit Go.Joins

def busC (xs : List Ln) : Int := if loansOk xs = false then 1 else if xs.length = 0 then 3 else 0
def busD (xs : List Ln) : Int := if busC xs = 0 then (busF xs).1 else 0
def busM (xs : List Ln) : Int := if busC xs = 0 then (busF xs).2 else 0
theorem bus_cases (xs : List Ln) : (loansOk xs = false ∧ busC xs = 1 ∧ busD xs = 0 ∧ busM xs = 0) ∨ (loansOk xs = true ∧ xs.length = 0 ∧ busC xs = 3 ∧ busD xs = 0 ∧ busM xs = 0) ∨
    (loansOk xs = true ∧ 0 < xs.length ∧ busC xs = 0 ∧ busD xs = (busF xs).1 ∧ busM xs = (busF xs).2) := by
  have h1 : busD xs = if busC xs = 0 then (busF xs).1 else 0 := rfl
  have h2 : busM xs = if busC xs = 0 then (busF xs).2 else 0 := rfl
  cases h : loansOk xs with
  | false =>
    have h3 : busC xs = 1 := by unfold busC; rw [if_pos h]
    rw [h3] at h1 h2
    exact .inl ⟨rfl, h3, h1, h2⟩
  | true =>
    by_cases hl : xs.length = 0
    · have h3 : busC xs = 3 := by unfold busC; rw [h, if_neg (by simp), if_pos hl]
      rw [h3] at h1 h2
      exact .inr (.inl ⟨rfl, hl, h3, h1, h2⟩)
    · have h3 : busC xs = 0 := by unfold busC; rw [h, if_neg (by simp), if_neg hl]
      rw [h3] at h1 h2
      exact .inr (.inr ⟨rfl, by omega, h3, h1, h2⟩)
def busK (xs : List Ln) (k : Nat) : Int × Int := (xs.take k).foldl (busS xs) (0, 0)
theorem busK_0 (xs : List Ln) : busK xs 0 = (0, 0) := rfl
theorem busK_at (xs : List Ln) (k : Nat) (hk : k < xs.length) : busK xs (k + 1) = busS xs (busK xs k) xs[k] := by
  unfold busK
  rw [List.take_succ_eq_append_getElem hk, List.foldl_append]; rfl
theorem busK_end (xs : List Ln) : busK xs xs.length = busF xs := by unfold busK; rw [List.take_length]; rfl

set_option maxRecDepth 100000 in
set_option maxHeartbeats 1600000 in
theorem BusI_any (B : Nat) (v : Value) (xs : List Ln) (w : World) (h : RdL w B v xs) (hB : B ≤ w.heap.size) (hl : xs.length ≤ 1048576) (hsm : ∀ x ∈ xs, smL x) (hcap : ∀ A n c, v = .slice A n c → n ≤ c ∧ c ≤ maxLen) :
    Calls Try.prog 11 #[v] w fun e w' => e = .returned (.tuple #[.int .i64 (busD xs), .int .i64 (busM xs), .int .i64 (busC xs)]) ∧ Below w.heap.size w w' := by
  have HV := Lib.hid (ValidLoansI_any B v xs w h hB hl hsm hcap)
  have HL := Lib.hid (fun d wx hx hz => lentAt_any B v xs d wx hx hz hl)
  have H := Lib.hid h
  have hcs := bus_cases xs
  have Hend := Lib.hid (busK_end xs)
  generalize busF xs = bf at *
  obtain ⟨fd, fm⟩ := bf
  dsimp only at hcs
  generalize busC xs = C at *
  generalize busD xs = D at *
  generalize busM xs = M at *
  obtain ⟨A, c, rfl⟩ := h.slice
  clear h hsm hcap
  rcases hcs with ⟨g1, g2, g3, g4⟩ | ⟨g1, gl, g2, g3, g4⟩ | ⟨g1, gl, g2, g3, g4⟩
  · subst g2 g3 g4
    rw [g1] at HV
    clear g1
    go_enter Try.func11, Try.ntmps11
    go_wp2_with fail
    refine HV.out.mono ?_; rintro e w1 ⟨rfl, hb1⟩
    go_wp2_with fail
    go_ret3
    exact ⟨rfl, hb1⟩
  · subst g2 g3 g4
    rw [g1] at HV
    have hz : ((xs.length : Int) == 0) = true := by rw [gl]; rfl
    clear g1 gl
    go_enter Try.func11, Try.ntmps11
    go_wp2_with fail
    refine HV.out.mono ?_; rintro e w1 ⟨rfl, hb1⟩
    go_wp2_with fail
    go_ret3
    exact ⟨rfl, hb1⟩
  · subst g2 g3 g4
    rw [g1] at HV
    have hz : ((xs.length : Int) == 0) = false := by rw [beq_eq_false_iff_ne]; omega
    clear g1
    go_enter Try.func11, Try.ntmps11
    go_wp2_with fail
    refine HV.out.mono ?_; rintro e w1 ⟨rfl, hb1⟩
    have H1 := Lib.hid (H.out.below (hb1.mono hB))
    have hB1 := Nat.le_trans hB hb1.size
    have Hb1 := Lib.hid hb1
    clear hb1 H HV
    go_wp2_with fail
    go_loopw [5, 6, 18] (fun d m i wr => ∃ k : Nat, k ≤ xs.length ∧ d = .int .i64 (busK xs k).1 ∧ m = .int .i64 (busK xs k).2 ∧ i = .int .i64 (k : Int) ∧ Below w1.heap.size w1 wr) (fun _ _ i _ => xs.length - (intOf i).toNat)
    case atStart => exact ⟨0, Nat.zero_le _, rfl, rfl, rfl, Below.refl _ _⟩
    case round =>
      obtain ⟨k, hk, rfl, rfl, rfl, hbl⟩ := hrel
      by_cases hlt : k < xs.length
      · have HR := Lib.hid (H1.out.below (hbl.mono hB1))
        obtain ⟨b1, o1, hA, hE⟩ := HR.out.at k hlt
        subst hA
        have hlt' : (k : Int) < (xs.length : Int) := by omega
        have Hst := Lib.hid (busK_at xs k hlt)
        have HLx := Lib.hid (HL.out xs[k].from_)
        generalize busK xs k = p at *
        obtain ⟨d, m⟩ := p
        unfold busS at Hst
        dsimp only at Hst
        generalize xs[k] = x at *
        obtain ⟨xa, xb, xf, xt⟩ := x
        obtain ⟨hbB, e0, e1, e2, e3⟩ := hE
        dsimp only at e0 e1 e2 e3 HLx Hst
        generalize cntL xs xf = n at *
        have hbz := (Below.refl wr.heap.size wr).alloc (Nat.le_refl _) (.cells #[.string xa, .string xb, .int .i64 xf, .int .i64 xt] 40)
        have HR2 := Lib.hid (HR.out.below (hbz.mono (Nat.le_trans hB1 hbl.size)))
        have hbz2 := Nat.le_trans hB1 (Nat.le_trans hbl.size hbz.size)
        have Hba := Lib.hid (hbl.alloc hbl.size (.cells #[.string xa, .string xb, .int .i64 xf, .int .i64 xt] 40))
        have HQ := Lib.hid (heap_alloc_new wr (.cells #[.string xa, .string xb, .int .i64 xf, .int .i64 xt] 40))
        clear hbl hbz
        by_cases hgt : m < (n : Int)
        · have hst : busK xs (k + 1) = (xf, (n : Int)) := by rw [Hst.out, if_pos hgt]
          have Hs := Lib.hid hst
          clear Hst hst
          go_wp2_with fail
          refine (HLx.out _ HR2.out hbz2).mono ?_; rintro e w2 ⟨rfl, hb2⟩
          obtain ⟨p0, p1, p2, p3⟩ := four_at ((hb2.block wr.heap.size (by simp)).trans HQ.out)
          have Hbf := Lib.hid (Hba.out.trans (hb2.mono Hba.out.size))
          clear e0 e1 e2 e3
          go_wp2_with fail
          go_roundw
          case rel => exact ⟨k + 1, by omega, by rw [Hs.out], by rw [Hs.out], by go_num, Hbf.out⟩
          case measure => simp [intOf]; omega
        · have hst : busK xs (k + 1) = (d, m) := by rw [Hst.out, if_neg hgt]
          have Hs := Lib.hid hst
          clear Hst hst
          go_wp2_with fail
          refine (HLx.out _ HR2.out hbz2).mono ?_; rintro e w2 ⟨rfl, hb2⟩
          have Hbf := Lib.hid (Hba.out.trans (hb2.mono Hba.out.size))
          clear e0 e1 e2 e3
          go_wp2_with fail
          go_roundw
          case rel => exact ⟨k + 1, by omega, by rw [Hs.out], by rw [Hs.out], by go_num, Hbf.out⟩
          case measure => simp [intOf]; omega
      · have hkl : k = xs.length := by omega
        subst hkl
        have hlt' : ¬ (xs.length : Int) < (xs.length : Int) := by omega
        rw [Hend.out]
        dsimp only
        go_wp2_with fail
        go_ret3
        exact ⟨rfl, Hb1.out.trans (hbl.mono Hb1.out.size)⟩

theorem cntL_pos {xs : List Ln} {x : Ln} (hx : x ∈ xs) (hv : x.from_ ≤ x.till) : 0 < cntL xs x.from_ := by
  unfold cntL
  refine List.length_pos_iff.2 (List.ne_nil_of_mem (List.mem_filter.2 ⟨hx, ?_⟩))
  unfold inB
  simp only [Bool.and_eq_true, decide_eq_true_eq]
  omega
/-- the reference begins with the first loan's day -/
theorem busK_1 {xs : List Ln} (h : loansOk xs = true) (hl : 0 < xs.length) : busK xs 1 = (xs[0].from_, (cntL xs xs[0].from_ : Int)) := by
  rw [busK_at xs 0 hl, busK_0]
  have h1 := (OkP.of h).one 0 hl
  have h2 : xs[0].from_ ≤ xs[0].till := by
    unfold loanOk at h1
    simp only [Bool.and_eq_true, decide_eq_true_eq] at h1
    exact h1.2
  have h3 := cntL_pos (List.getElem_mem hl) h2
  unfold busS
  dsimp only
  rw [if_pos (by omega)]
theorem busK_cnt {xs : List Ln} (h : loansOk xs = true) : ∀ k, 1 ≤ k → k ≤ xs.length → (busK xs k).2 = (cntL xs (busK xs k).1 : Int) := by
  intro k
  induction k with
  | zero => intro h; omega
  | succ k ih =>
    intro _ hk
    by_cases h0 : k = 0
    · subst h0
      rw [busK_1 h hk]
    · have h1 := ih (by omega) (by omega)
      rw [busK_at xs k hk]
      unfold busS
      split
      · rfl
      · exact h1

set_option maxRecDepth 100000 in
set_option maxHeartbeats 1600000 in
theorem BusS_any (B : Nat) (v : Value) (xs : List Ln) (w : World) (h : RdL w B v xs) (hl : xs.length ≤ 1048576) (hsm : ∀ x ∈ xs, smL x) :
    Calls Try.prog 12 #[v] w fun e w' => e = .returned (.tuple #[.int .i64 (busD xs), .int .i64 (busM xs), .int .i64 (busC xs)]) ∧ ∃ n, w' = w.drewN n := by
  have HV := Lib.hid (l23Ok_any B v xs w h hl hsm)
  have HL := Lib.hid (fun d n => l23Lent_any B v xs d (w.drewN n) (h.drewN n) hl)
  have H := Lib.hid h
  have hcs := bus_cases xs
  have Hend := Lib.hid (busK_end xs)
  generalize busF xs = bf at *
  obtain ⟨fd, fm⟩ := bf
  dsimp only at hcs
  generalize busC xs = C at *
  generalize busD xs = D at *
  generalize busM xs = M at *
  obtain ⟨A, c, rfl⟩ := h.slice
  clear h hsm
  rcases hcs with ⟨g1, g2, g3, g4⟩ | ⟨g1, gl, g2, g3, g4⟩ | ⟨g1, gl, g2, g3, g4⟩
  · subst g2 g3 g4
    rw [g1] at HV
    clear g1
    go_enter Try.func12, Try.ntmps12
    go_wp2_with fail
    refine HV.out.mono ?_; rintro e w1 ⟨rfl, n1, rfl⟩
    go_wp2_with fail
    go_ret3
    exact ⟨rfl, _, rfl⟩
  · subst g2 g3 g4
    rw [g1] at HV
    have hz : ((xs.length : Int) == 0) = true := by rw [gl]; rfl
    clear g1 gl
    go_enter Try.func12, Try.ntmps12
    go_wp2_with fail
    refine HV.out.mono ?_; rintro e w1 ⟨rfl, n1, rfl⟩
    go_wp2_with fail
    go_ret3
    exact ⟨rfl, _, rfl⟩
  · subst g2 g3 g4
    rw [g1] at HV
    have hz : ((xs.length : Int) == 0) = false := by rw [beq_eq_false_iff_ne]; omega
    have hz1 : (0 : Int) < (xs.length : Int) := by omega
    have H1 := Lib.hid (busK_1 g1 gl)
    have Hc := Lib.hid (fun k h1 h2 => busK_cnt (xs := xs) g1 k h1 h2)
    obtain ⟨b0, o0, hA, hE0⟩ := H.out.at 0 gl
    subst hA
    have z2 := hE0.c2
    have Hgl := Lib.hid gl
    simp only [Nat.zero_mul, Nat.add_zero] at z2
    clear hE0
    generalize xs[0].from_ = f0 at *
    clear g1 gl
    go_enter Try.func12, Try.ntmps12
    go_wp2_with fail
    refine HV.out.mono ?_; rintro e w1 ⟨rfl, n1, rfl⟩
    have z2' : (w.drewN n1).cell? ⟨b0, o0 + 2, none⟩ = some (.int .i64 f0) := z2
    clear HV
    go_wp2_with fail
    go_loopw [5, 6] (fun d i wr => ∃ k m0 : Nat, 1 ≤ k ∧ k ≤ xs.length ∧ d = .int .i64 (busK xs k).1 ∧ i = .int .i64 (k : Int) ∧ wr = w.drewN m0) (fun _ i _ => xs.length - (intOf i).toNat)
    case atStart => exact ⟨1, _, Nat.le_refl _, Hgl.out, by rw [H1.out], rfl, rfl⟩
    case round =>
      obtain ⟨k, m0, hk1, hk, rfl, rfl, hwr⟩ := hrel
      have Hck := Lib.hid (Hc.out k hk1 hk)
      subst hwr
      have Hr := Lib.hid (H.out.drewN m0)
      by_cases hlt : k < xs.length
      · obtain ⟨b1, o1, hA, hE⟩ := Hr.out.at k hlt
        injection hA with hA2
        injection hA2 with hA3 hA4
        subst hA3 hA4
        have hlt' : (k : Int) < (xs.length : Int) := by omega
        have Hst := Lib.hid (busK_at xs k hlt)
        generalize hp : busK xs k = p at *
        obtain ⟨d, m⟩ := p
        unfold busS at Hst
        dsimp only at Hst Hck
        have hm := Hck.out
        clear Hck hp
        subst hm
        generalize xs[k] = x at *
        obtain ⟨xa, xb, xf, xt⟩ := x
        obtain ⟨hbB, e0, e1, e2, e3⟩ := hE
        dsimp only at e0 e1 e2 e3 Hst
        have HC1 := Lib.hid (HL.out xf)
        have HC2 := Lib.hid (HL.out d)
        clear e0 e1 e3
        generalize cntL xs xf = n at *
        generalize cntL xs d = m at *
        by_cases hgt : (m : Int) < (n : Int)
        · have hst : busK xs (k + 1) = (xf, (n : Int)) := by rw [Hst.out, if_pos hgt]
          have hgt' : decide (m < n) = true := decide_eq_true (by omega)
          have Hs := Lib.hid hst
          clear Hst hst
          go_wp2_with fail
          refine (HC1.out _).mono ?_; rintro e w2 ⟨rfl, n2, rfl⟩
          go_wp2_with fail
          refine (HC2.out _).mono ?_; rintro e w2 ⟨rfl, n3, rfl⟩
          have e2' : (w.drewN (m0 + n2 + n3)).cell? ⟨b0, o0 + k * 4 + 2, none⟩ = some (.int .i64 xf) := e2
          go_wp2_with fail
          go_roundw
          case rel => exact ⟨k + 1, _, by omega, by omega, by rw [Hs.out], by go_num, rfl⟩
          case measure => simp [intOf]; omega
        · have hst : busK xs (k + 1) = (d, (m : Int)) := by rw [Hst.out, if_neg hgt]
          have hgt' : decide (m < n) = false := decide_eq_false (by omega)
          have Hs := Lib.hid hst
          clear Hst hst
          go_wp2_with fail
          refine (HC1.out _).mono ?_; rintro e w2 ⟨rfl, n2, rfl⟩
          go_wp2_with fail
          refine (HC2.out _).mono ?_; rintro e w2 ⟨rfl, n3, rfl⟩
          go_wp2_with fail
          go_roundw
          case rel => exact ⟨k + 1, _, by omega, by omega, by rw [Hs.out], by go_num, rfl⟩
          case measure => simp [intOf]; omega
      · have hkl : k = xs.length := by omega
        subst hkl
        have hlt' : ¬ (xs.length : Int) < (xs.length : Int) := by omega
        have hck := Hck.out
        rw [Hend.out] at hck
        dsimp only at hck
        have HC2 := Lib.hid (HL.out D)
        rw [← hck] at HC2
        rw [Hend.out]
        dsimp only
        clear Hck hck
        go_wp2_with fail
        refine (HC2.out _).mono ?_; rintro e w2 ⟨rfl, n2, rfl⟩
        go_wp2_with fail
        go_ret3
        exact ⟨rfl, _, rfl⟩
end Go.Proofs.Ytmheijnckmlbnaa
/- Loans: the loans of a borrower, both sides. -/
namespace Go.Proofs.Ytmheijnckmlbnaa
open Go.RowKit Go.Joins

def isWho (s : ByteArray) (x : Ln) : Bool := x.who.toList == s.toList
def ofR (xs : List Ln) (s : ByteArray) : List Ln := if loansOk xs = true then xs.filter (isWho s) else []
theorem ofR_len (xs : List Ln) (s : ByteArray) : (ofR xs s).length ≤ xs.length := by
  unfold ofR
  split
  · exact List.length_filter_le _ _
  · simp
theorem fil_yes {xs : List Ln} {p : Ln → Bool} {k : Nat} (hk : k < xs.length) (h : p xs[k] = true) : (xs.take (k + 1)).filter p = (xs.take k).filter p ++ [xs[k]] := by
  rw [List.take_succ_eq_append_getElem hk, List.filter_append, List.filter_cons, if_pos h]; rfl
theorem fil_no {xs : List Ln} {p : Ln → Bool} {k : Nat} (hk : k < xs.length) (h : p xs[k] = false) : (xs.take (k + 1)).filter p = (xs.take k).filter p := by
  rw [List.take_succ_eq_append_getElem hk, List.filter_append, List.filter_cons, if_neg (by rw [h]; decide)]; simp
theorem ones4o (a b : ByteArray) (f t : Int) : ∀ u ∈ (#[Value.string a, Value.string b, .int .i64 f, .int .i64 t] : Array Value).toList, u.oneCell' = true := by
  simp [Value.oneCell']
theorem sl_ofR {w : World} {base n size : Nat} {e : TypeId} {v : Value} {cs : List Value} (h : w.ownsRow base e size v n cs) : ∃ A c, v = .slice A n c := by
  obtain ⟨_, A, c, hv, _⟩ := Rd.of_own h
  exact ⟨A, c, hv⟩
theorem snocO {w : World} {base n : Nat} {v : Value} {zs : List Ln} {a b : ByteArray} {f t : Int} (h : w.ownsRow base 40 4 v (n + 1) (zs.flatMap cellsL ++ (#[Value.string a, Value.string b, .int .i64 f, .int .i64 t] : Array Value).toList)) :
    w.ownsRow base 40 4 v (n + 1) ((zs ++ [(⟨a, b, f, t⟩ : Ln)]).flatMap cellsL) := by
  rw [List.flatMap_append]
  simpa [cellsL] using h

set_option maxRecDepth 100000 in
set_option maxHeartbeats 3200000 in
theorem LoansOfI_any (B : Nat) (v : Value) (xs : List Ln) (s : ByteArray) (w : World) (h : RdL w B v xs) (hB : B ≤ w.heap.size) (hl : xs.length ≤ 1048576) (hsm : ∀ x ∈ xs, smL x) (hcap : ∀ A n c, v = .slice A n c → n ≤ c ∧ c ≤ maxLen) :
    Calls Try.prog 17 #[v, .string s] w (RetLn (lentC xs) (ofR xs s) w) := by
  have HV := Lib.hid (ValidLoansI_any B v xs w h hB hl hsm hcap)
  have H := Lib.hid h
  obtain ⟨A, c, rfl⟩ := h.slice
  clear h hsm hcap
  cases hz : loansOk xs with
  | false =>
    have Hf := Lib.hid (show lentC xs = 1 ∧ ofR xs s = [] by unfold lentC ofR; rw [hz]; exact ⟨rfl, rfl⟩)
    rw [hz] at HV
    clear hz
    generalize lentC xs = C1 at *
    generalize ofR xs s = R at *
    go_enter Try.func17, Try.ntmps17
    go_wp2_with fail
    refine HV.out.mono ?_; rintro e w1 ⟨rfl, hb1⟩
    go_wp2_with fail
    go_ret2
    exact RetLn_no Hf.out hb1
  | true =>
    have Hf := Lib.hid (show lentC xs = 0 ∧ ofR xs s = xs.filter (isWho s) by unfold lentC ofR; rw [hz]; exact ⟨rfl, rfl⟩)
    rw [hz] at HV
    clear hz
    generalize lentC xs = C1 at *
    generalize ofR xs s = R at *
    go_enter Try.func17, Try.ntmps17
    go_wp2_with fail
    refine HV.out.mono ?_; rintro e w1 ⟨rfl, hb1⟩
    have H1 := Lib.hid (H.out.below (hb1.mono hB))
    have hB1 := Nat.le_trans hB hb1.size
    have Hb1 := Lib.hid hb1
    have hb0 := Lib.hid ((Below.refl w1.heap.size w1).alloc (Nat.le_refl _) (.cells #[] 40))
    have ho0 := Lib.hid (World.ownsRow_made (base := w1.heap.size) (e := 40) (size := 4) w1 #[] 0 (Nat.le_refl _) (by simp [maxLen]) rfl)
    clear hb1 H HV
    go_wp2_with fail
    go_loopw [6, 15] (fun o i wr => ∃ k m : Nat, k ≤ xs.length ∧ m ≤ k ∧ i = .int .i64 (k : Int) ∧ ((xs.take k).filter (isWho s)).length = m ∧ wr.ownsRow w1.heap.size 40 4 o m (((xs.take k).filter (isWho s)).flatMap cellsL) ∧ Below w1.heap.size w1 wr) (fun _ i _ => xs.length - (intOf i).toNat)
    case atStart => exact ⟨0, 0, Nat.zero_le _, Nat.le_refl _, rfl, rfl, ho0.out, hb0.out⟩
    case round =>
      obtain ⟨k, m, hk, hm, rfl, hlen, hown, hbl⟩ := hrel
      have Hown := Lib.hid hown
      have Hlen := Lib.hid hlen
      obtain ⟨A6, c6, rfl⟩ := sl_ofR hown
      clear hown hlen
      by_cases hlt : k < xs.length
      · have HR := Lib.hid (H1.out.below (hbl.mono hB1))
        obtain ⟨b1, o1, hA, hE⟩ := HR.out.at k hlt
        subst hA
        have hlt' : (k : Int) < (xs.length : Int) := by omega
        have Hy := Lib.hid (fun h => fil_yes (p := isWho s) hlt h)
        have Hn := Lib.hid (fun h => fil_no (p := isWho s) hlt h)
        generalize (xs.take k).filter (isWho s) = acc at *
        generalize xs[k] = x at *
        obtain ⟨xa, xb, xf, xt⟩ := x
        obtain ⟨hbB, e0, e1, e2, e3⟩ := hE
        dsimp only at e0 e1 e2 e3
        have Hbz := Lib.hid ((Below.refl wr.heap.size wr).alloc (Nat.le_refl _) (.cells #[.string xa, .string xb, .int .i64 xf, .int .i64 xt] 40))
        have Hba := Lib.hid (hbl.alloc hbl.size (.cells #[.string xa, .string xb, .int .i64 xf, .int .i64 xt] 40))
        clear hbl
        cases hw : (xb.toList == s.toList) with
        | false =>
          have Hs := Lib.hid (Hn.out hw)
          have Ho7 := Lib.hid (own_below Hown.out Hbz.out)
          clear Hy Hn
          go_wp2_with fail
          go_roundw
          case rel => exact ⟨k + 1, m, by omega, by omega, by go_num, by rw [Hs.out]; exact Hlen.out, by rw [Hs.out]; exact Ho7.out, Hba.out⟩
          case measure => simp [intOf]; omega
        | true =>
          have Hs := Lib.hid (Hy.out hw)
          have Ho7 := Lib.hid (own_below Hown.out Hbz.out)
          have Hon := Lib.hid (ones4o xa xb xf xt)
          obtain ⟨c0, c1, c2, c3⟩ := four_at (heap_alloc_new wr (.cells #[.string xa, .string xb, .int .i64 xf, .int .i64 xt] 40))
          have hz7 := Hba.out.size
          clear Hy Hn Hbz
          go_upto_region 8 with (fail)
          clear e0 e1 e2 e3 hbB
          generalize wr.heap.size = q at *
          generalize wr.alloc (.cells #[.string xa, .string xb, .int .i64 xf, .int .i64 xt] 40) = w8 at *
          go_wp2_with (at_builtin; refine wpList_apd 24 40 _ 4 48 Try.underlying24 infoL rfl (by omega) _ _ rfl rfl w1.heap.size _ m _ rfl Ho7.out #[.string xa, .string xb, .int .i64 xf, .int .i64 xt] 1 1 rfl rfl Hon.out (by simp [maxLen]; omega) (by omega) hz7 ?_; intro v9 w9 hown9 hg9; have Hb9 := Lib.hid (below_apd Hba.out Ho7.out hg9 (Nat.le_refl _) hz7); have Ho9 := Lib.hid (snocO hown9); clear hown9 hg9)
          go_roundw
          case rel => exact ⟨k + 1, m + 1, by omega, by omega, by go_num, by rw [Hs.out, List.length_append, Hlen.out]; rfl, by rw [Hs.out]; exact Ho9.out, Hb9.out⟩
          case measure => simp [intOf]; omega
      · have hkl : k = xs.length := by omega
        subst hkl
        have hlt' : ¬ (xs.length : Int) < (xs.length : Int) := by omega
        have hown2 := Hown.out
        have hlen2 := Hlen.out
        rw [List.take_length] at hown2 hlen2
        have hO := OwnL.of hown2 Hb1.out.size hlen2.symm rfl
        have HO := Lib.hid hO
        clear hown2 hlen2 hO
        go_wp2_with fail
        go_ret2
        exact RetLn_yes Hf.out HO.out (Hb1.out.trans (hbl.mono Hb1.out.size))

set_option maxRecDepth 100000 in
set_option maxHeartbeats 3200000 in
theorem LoansOfS_any (B : Nat) (v : Value) (xs : List Ln) (s : ByteArray) (w : World) (h : RdL w B v xs) (hB : B ≤ w.heap.size) (hl : xs.length ≤ 1048576) (hsm : ∀ x ∈ xs, smL x) :
    Calls Try.prog 18 #[v, .string s] w (RetLn (lentC xs) (ofR xs s) w) := by
  have HV := Lib.hid (l23Ok_any B v xs w h hl hsm)
  have H := Lib.hid h
  obtain ⟨A, c, rfl⟩ := h.slice
  clear h hsm
  cases hz : loansOk xs with
  | false =>
    have Hf := Lib.hid (show lentC xs = 1 ∧ ofR xs s = [] by unfold lentC ofR; rw [hz]; exact ⟨rfl, rfl⟩)
    rw [hz] at HV
    clear hz
    generalize lentC xs = C1 at *
    generalize ofR xs s = R at *
    go_enter Try.func18, Try.ntmps18
    go_wp2_with fail
    refine HV.out.mono ?_; rintro e w1 ⟨rfl, n1, rfl⟩
    go_wp2_with fail
    go_ret2
    exact RetLn_no Hf.out (below_drewN (Below.refl _ _) n1)
  | true =>
    have Hf := Lib.hid (show lentC xs = 0 ∧ ofR xs s = xs.filter (isWho s) by unfold lentC ofR; rw [hz]; exact ⟨rfl, rfl⟩)
    rw [hz] at HV
    clear hz
    generalize lentC xs = C1 at *
    generalize ofR xs s = R at *
    go_enter Try.func18, Try.ntmps18
    go_wp2_with fail
    refine HV.out.mono ?_; rintro e w1 ⟨rfl, n1, hw⟩
    have hb1 : Below w.heap.size w w1 := by rw [hw]; exact below_drewN (Below.refl _ _) n1
    clear hw
    have H1 := Lib.hid (H.out.below (hb1.mono hB))
    have hB1 := Nat.le_trans hB hb1.size
    have Hb1 := Lib.hid hb1
    have hb0 := Lib.hid ((Below.refl w1.heap.size w1).alloc (Nat.le_refl _) (.cells #[] 40))
    have ho0 := Lib.hid (World.ownsRow_made (base := w1.heap.size) (e := 40) (size := 4) w1 #[] 0 (Nat.le_refl _) (by simp [maxLen]) rfl)
    clear hb1 H HV
    go_wp2_with fail
    go_loopw [6, 7] (fun o i wr => ∃ k m : Nat, k ≤ xs.length ∧ m ≤ k ∧ i = .int .i64 (k : Int) ∧ ((xs.take k).filter (isWho s)).length = m ∧ wr.ownsRow w1.heap.size 40 4 o m (((xs.take k).filter (isWho s)).flatMap cellsL) ∧ Below w1.heap.size w1 wr) (fun _ i _ => xs.length - (intOf i).toNat)
    case atStart => exact ⟨0, 0, Nat.zero_le _, Nat.le_refl _, rfl, rfl, ho0.out, hb0.out⟩
    case round =>
      obtain ⟨k, m, hk, hm, rfl, hlen, hown, hbl⟩ := hrel
      have Hown := Lib.hid hown
      have Hlen := Lib.hid hlen
      obtain ⟨A6, c6, rfl⟩ := sl_ofR hown
      clear hown hlen
      by_cases hlt : k < xs.length
      · have HR := Lib.hid (H1.out.below (hbl.mono hB1))
        obtain ⟨b1, o1, hA, hE⟩ := HR.out.at k hlt
        subst hA
        have hlt' : (k : Int) < (xs.length : Int) := by omega
        have Hy := Lib.hid (fun h => fil_yes (p := isWho s) hlt h)
        have Hn := Lib.hid (fun h => fil_no (p := isWho s) hlt h)
        generalize (xs.take k).filter (isWho s) = acc at *
        generalize xs[k] = x at *
        obtain ⟨xa, xb, xf, xt⟩ := x
        obtain ⟨hbB, e0, e1, e2, e3⟩ := hE
        dsimp only at e0 e1 e2 e3
        have Hba := Lib.hid hbl
        have hz7 := hbl.size
        clear hbl
        cases hw : (xb.toList == s.toList) with
        | false =>
          have Hs := Lib.hid (Hn.out hw)
          clear Hy Hn
          go_wp2_with fail
          go_roundw
          case rel => exact ⟨k + 1, m, by omega, by omega, by go_num, by rw [Hs.out]; exact Hlen.out, by rw [Hs.out]; exact Hown.out, Hba.out⟩
          case measure => simp [intOf]; omega
        | true =>
          have Hs := Lib.hid (Hy.out hw)
          have Hon := Lib.hid (ones4o xa xb xf xt)
          clear Hy Hn
          go_wp2_with (at_builtin; refine wpList_apd 24 40 _ 4 48 Try.underlying24 infoL rfl (by omega) _ _ rfl rfl w1.heap.size _ m _ rfl Hown.out #[.string xa, .string xb, .int .i64 xf, .int .i64 xt] 1 1 rfl rfl Hon.out (by simp [maxLen]; omega) (by omega) hz7 ?_; intro v9 w9 hown9 hg9; have Hb9 := Lib.hid (below_apd Hba.out Hown.out hg9 (Nat.le_refl _) hz7); have Ho9 := Lib.hid (snocO hown9); clear hown9 hg9)
          go_roundw
          case rel => exact ⟨k + 1, m + 1, by omega, by omega, by go_num, by rw [Hs.out, List.length_append, Hlen.out]; rfl, by rw [Hs.out]; exact Ho9.out, Hb9.out⟩
          case measure => simp [intOf]; omega
      · have hkl : k = xs.length := by omega
        subst hkl
        have hlt' : ¬ (xs.length : Int) < (xs.length : Int) := by omega
        have hown2 := Hown.out
        have hlen2 := Hlen.out
        rw [List.take_length] at hown2 hlen2
        have hO := OwnL.of hown2 Hb1.out.size hlen2.symm rfl
        have HO := Lib.hid hO
        clear hown2 hlen2 hO
        go_wp2_with fail
        go_ret2
        exact RetLn_yes Hf.out HO.out (Hb1.out.trans (hbl.mono Hb1.out.size))
end Go.Proofs.Ytmheijnckmlbnaa
