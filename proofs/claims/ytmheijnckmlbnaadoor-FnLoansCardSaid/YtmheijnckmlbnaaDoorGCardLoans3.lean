/- Merged texts: Ld3, Lo2, Lo3, Lo4, Lo5, Nm1, Nm2, Nm3, En6, En7, En8, En5. -/
import Derived.Test.YtmheijnckmlbnaaDoorGCardLoans2
import Derived.Test.YtmheijnckmlbnaaDoorGCardLoans1
import Derived.Lib.SmallJoins
/- A loan's line, read: the plain law. -/
namespace Go.Proofs.YtmheijnckmlbnaaDoor

def both (a b : Option Int) : Option (Int × Int) := match a, b with
  | some x, some y => some (x, y)
  | _, _ => none
theorem both_some {a b : Option Int} {p : Int × Int} (h : both a b = some p) : a = some p.1 ∧ b = some p.2 := by
  cases a <;> cases b <;> simp [both] at h
  subst h; exact ⟨rfl, rfl⟩
/-- two numbers with two points between them -/
def two2 (s : ByteArray) : Option (Int × Int) := if fnd2 46 s < s.size then both (readN (s.extract 0 (fnd2 46 s))) (readN (s.extract (fnd2 46 s + 2) s.size)) else none
theorem fnd_not {c : UInt8} {s : ByteArray} {i : Nat} (h : i < fnd c s) (hi : i < s.size) : s[i] ≠ c := by
  have := List.not_of_lt_findIdx (p := (· == c)) (xs := s.data.toList) (i := i) h
  intro e
  have h' : s.data.toList[i]'(by simpa using hi) = c := by rw [← e]; rfl
  simp [h'] at this
theorem fnd_ge {c : UInt8} {s : ByteArray} {k : Nat} (hk : k ≤ s.size) (h : ∀ i (hi : i < s.size), i < k → s[i] ≠ c) : k ≤ fnd c s := by
  induction k with
  | zero => exact Nat.zero_le _
  | succ k ih =>
    have h1 := ih (by omega) fun i hi hl => h i hi (by omega)
    exact fnd_ne c s k h1 (by omega) (h k (by omega) (by omega))
theorem readN_no {r : ByteArray} {a : Int} (c : UInt8) (h1 : isDg c = false) (h2 : c ≠ 45) (h : readN r = some a) : fnd c r = r.size := by
  have h0 := fnd_le c r
  rcases Nat.lt_or_ge (fnd c r) r.size with hl | hg
  · have he := fnd_at c r hl
    rw [readN_none_of (fnd c r) hl (by rw [he]; exact h1) (by rw [he]; exact h2)] at h
    cases h
  · omega
theorem split3 {s x e y : ByteArray} (h : splitB 46 s = [x, e, y]) (h0 : e.size = 0) : fnd2 46 s < s.size ∧ x = s.extract 0 (fnd2 46 s) ∧ y = s.extract (fnd2 46 s + 2) s.size := by
  rcases Nat.lt_or_ge (fnd 46 s) s.size with h1 | h1
  · rw [splitB_yes h1] at h
    injection h with hx ht
    have hz := tail_sizeS s (fnd 46 s + 1)
    have hb := fnd_at 46 s h1
    have hfn : ∀ i (q : i < s.size), i < fnd 46 s → s[i] ≠ 46 := fun i q hi => fnd_not hi q
    have htt := fun m (h : fnd 46 s + 1 ≤ m) => tail_tail s (fnd 46 s + 1) m h (by omega)
    generalize fnd 46 s = f at *
    have hge : ∀ (q : 0 < (s.extract (f + 1) s.size).size), (s.extract (f + 1) s.size)[0] = s[f + 1]'(by omega) := fun q => by
      rw [ByteArray.getElem_extract]
    have hx2 := htt (f + 2) (by omega)
    rw [show f + 2 - (f + 1) = 1 by omega] at hx2
    clear htt
    rcases Nat.lt_or_ge (fnd 46 (s.extract (f + 1) s.size)) (s.extract (f + 1) s.size).size with h2 | h2
    · rw [splitB_yes h2] at ht
      injection ht with he ht2
      have hf0 : fnd 46 (s.extract (f + 1) s.size) = 0 := by
        have := congrArg ByteArray.size he
        rw [ByteArray.size_extract] at this
        omega
      have hat := fnd_at 46 _ h2
      rw [hf0] at h2 ht2
      simp only [hf0] at hat
      rw [hge (by omega)] at hat
      have hhit : hit2 46 s f = true := (hit2_iff _ _ _).2 ⟨by omega, hb, hat⟩
      have hno : f ≤ fnd2 46 s := by
        rcases Nat.lt_or_ge (fnd2 46 s) f with hl | hg
        · exfalso
          obtain ⟨q, e1, _⟩ := (hit2_iff _ _ _).1 (fnd2_hit (c := 46) (s := s) (by omega))
          exact hfn _ (by omega) hl e1
        · exact hg
      have he2 := fnd2_eq hno hhit
      refine ⟨by omega, by rw [he2]; exact hx.symm, ?_⟩
      rw [Nat.zero_add, hz, hx2] at ht2
      rw [he2]
      exact (splitB_one' ht2).symm
    · rw [splitB_no h2] at ht
      injection ht with _ h4
      cases h4
  · rw [splitB_no h1] at h
    injection h with _ h4
    cases h4
theorem split3' {s : ByteArray} {p : Int × Int} (h : two2 s = some p) : splitB 46 s = [s.extract 0 (fnd2 46 s), ⟨#[]⟩, s.extract (fnd2 46 s + 2) s.size] := by
  unfold two2 at h
  split at h
  · rename_i hk
    obtain ⟨ha, hb⟩ := both_some h
    obtain ⟨q, e1, e2⟩ := (hit2_iff _ _ _).1 (fnd2_hit hk)
    have hx := readN_no 46 (by decide) (by decide) ha
    have hy := readN_no 46 (by decide) (by decide) hb
    have hxs : (s.extract 0 (fnd2 46 s)).size = fnd2 46 s := by rw [ByteArray.size_extract]; omega
    have hf : fnd 46 s = fnd2 46 s := by
      refine fnd_eq 46 s _ (fnd_ge (by omega) fun i hi hl => ?_) hk e1
      have h1 := fnd_not (c := 46) (s := s.extract 0 (fnd2 46 s)) (i := i) (by rw [hx]; omega) (by omega)
      rw [ByteArray.getElem_extract] at h1
      simp only [Nat.zero_add] at h1
      exact h1
    have hz := tail_sizeS s (fnd2 46 s + 1)
    have hf0 : fnd 46 (s.extract (fnd2 46 s + 1) s.size) = 0 := by
      refine fnd_eq 46 _ 0 (Nat.zero_le _) (by omega) ?_
      rw [ByteArray.getElem_extract]
      simp only [Nat.add_zero]
      exact e2
    rw [splitB_yes (by omega), hf, splitB_yes (s := s.extract (fnd2 46 s + 1) s.size) (by omega), hf0]
    have ht := tail_tail s (fnd2 46 s + 1) (fnd2 46 s + 2) (by omega) (by omega)
    rw [show fnd2 46 s + 2 - (fnd2 46 s + 1) = 0 + 1 by omega, ← hz] at ht
    rw [ht, splitB_no (s := s.extract (fnd2 46 s + 2) s.size) (by omega)]
    have he : (s.extract (fnd2 46 s + 1) s.size).extract 0 0 = ⟨#[]⟩ := by
      apply ByteArray.ext; simp
    rw [he]
  · cases h
/-- what the reference sees -/
theorem two2_cases (s : ByteArray) : (∃ x y, splitB 46 s = [x, ⟨#[]⟩, y] ∧ two2 s = both (readN x) (readN y)) ∨
    (two2 s = none ∧ ((splitB 46 s).length ≠ 3 ∨ ∃ x e y, splitB 46 s = [x, e, y] ∧ e.size ≠ 0)) := by
  by_cases h : (splitB 46 s).length = 3
  · obtain ⟨x, e, y, he⟩ : ∃ x e y, splitB 46 s = [x, e, y] := by
      generalize splitB 46 s = L at *
      match L, h with
      | [x, e, y], _ => exact ⟨x, e, y, rfl⟩
    by_cases h0 : e.size = 0
    · obtain ⟨h1, rfl, rfl⟩ := split3 he h0
      have e0 : e = ⟨#[]⟩ := by
        obtain ⟨⟨l⟩⟩ := e
        have : l = [] := List.eq_nil_of_length_eq_zero h0
        rw [this]
      subst e0
      exact .inl ⟨_, _, he, by unfold two2; rw [if_pos h1]⟩
    · refine .inr ⟨?_, .inr ⟨x, e, y, he, h0⟩⟩
      cases hq : two2 s with
      | none => rfl
      | some p =>
        have := split3' hq
        rw [he] at this
        injection this with _ h2
        injection h2 with h3 _
        exact absurd (by rw [h3]; rfl) h0
  · refine .inr ⟨?_, .inl h⟩
    cases hq : two2 s with
    | none => rfl
    | some p => exact absurd (by rw [split3' hq]; rfl) h
/-- a loan's line, read -/
def rdLn (s : ByteArray) : Option Ln := match splitB 32 s with
  | [x, a, b] => (two2 x).map fun p => ⟨a, b, p.1, p.2⟩
  | _ => none
theorem rdLn_three {s x a b : ByteArray} (h : splitB 32 s = [x, a, b]) : rdLn s = (two2 x).map fun p => ⟨a, b, p.1, p.2⟩ := by unfold rdLn; rw [h]
theorem rdLn_not {s : ByteArray} (h : (splitB 32 s).length ≠ 3) : rdLn s = none := by
  unfold rdLn
  split
  · rename_i he; rw [he] at h; exact absurd rfl h
  · rfl
end Go.Proofs.YtmheijnckmlbnaaDoor
/- Loans, part 2: sizes of lists, one loan's copy and equality. -/
namespace Go.Proofs.YtmheijnckmlbnaaDoor
open Go.RowKit Go.Joins

def SzLs (xs : List Ln) (left : Int) (w : World) (e : Ending) (w' : World) : Prop := ∃ r : Int, e = .returned (.int .i64 r) ∧ r ≤ left ∧ (0 ≤ r → xs.length ≤ 1048576 ∧ ∀ x ∈ xs, smL x) ∧ Below w.heap.size w w'
end Go.Proofs.YtmheijnckmlbnaaDoor
/- Loans, part 3: lists of loans copied and compared. -/
namespace Go.Proofs.YtmheijnckmlbnaaDoor
open Go.RowKit Go.Joins

theorem set4 (l r : List Value) (n : Nat) (hn : l.length = n) (hr : 4 ≤ r.length) (a b c d : Value) :
    ((((l ++ r).set n a).set (n + 1) b).set (n + 2) c).set (n + 3) d = (l ++ [a, b, c, d]) ++ r.drop 4 := by
  subst hn
  match r, hr with
  | x0 :: x1 :: x2 :: x3 :: r, _ =>
    rw [List.set_append_right _ _ (Nat.le_refl _), List.set_append_right _ _ (by omega), List.set_append_right _ _ (by omega), List.set_append_right _ _ (by omega)]
    simp

end Go.Proofs.YtmheijnckmlbnaaDoor
/- Loans, part 4: lists of loans compared. -/
namespace Go.Proofs.YtmheijnckmlbnaaDoor
open Go.RowKit Go.Joins

def EightC (w : World) (b1 o1 b2 o2 : Nat) (a b : ByteArray) (f t : Int) : Prop :=
  w.cell? ⟨b1, o1, none⟩ = some (.string a) ∧ w.cell? ⟨b1, o1 + 1, none⟩ = some (.string b) ∧ w.cell? ⟨b1, o1 + 2, none⟩ = some (.int .i64 f) ∧ w.cell? ⟨b1, o1 + 3, none⟩ = some (.int .i64 t) ∧ w.cell? ⟨b2, o2, none⟩ = some (.string a) ∧ w.cell? ⟨b2, o2 + 1, none⟩ = some (.string b) ∧ w.cell? ⟨b2, o2 + 2, none⟩ = some (.int .i64 f) ∧ w.cell? ⟨b2, o2 + 3, none⟩ = some (.int .i64 t)
theorem eight_cells {W w1 : World} {b1 o1 b2 o2 : Nat} {a b : ByteArray} {f t : Int} (hb : Below W.heap.size W w1) (h : EightC W b1 o1 b2 o2 a b f t) : EightC w1 b1 o1 b2 o2 a b f t :=
  have k {p : Addr} {v : Value} (h : W.cell? p = some v) : w1.cell? p = some v := (hb.cell (World.block_lt_of_cell? W _ h)).trans h
  ⟨k h.1, k h.2.1, k h.2.2.1, k h.2.2.2.1, k h.2.2.2.2.1, k h.2.2.2.2.2.1, k h.2.2.2.2.2.2.1, k h.2.2.2.2.2.2.2⟩

end Go.Proofs.YtmheijnckmlbnaaDoor
/- Loans, part 5: the reading of an argument. -/
namespace Go.Proofs.YtmheijnckmlbnaaDoor
open Go.ChangeShapes Go.WideShapes Go.ChangeAt Go.RowKit

end Go.Proofs.YtmheijnckmlbnaaDoor
/- Names: IsName on both sides. -/
namespace Go.Proofs.YtmheijnckmlbnaaDoor
open Go.RowKit Go.Joins

def smC (c : Nat) : Bool := decide (97 ≤ c) && decide (c ≤ 122)
def dgC (c : Nat) : Bool := decide (48 ≤ c) && decide (c ≤ 57)
def okC (c : Nat) : Bool := smC c || dgC c || decide (c = 45)
/-- a name -/
def isNm (l : List UInt8) : Bool := match l with
  | [] => false
  | c :: t => decide (t.length < 12) && smC c.toNat && (c :: t).all fun c => okC c.toNat
theorem isNm_nil : isNm [] = false := rfl
theorem isNm_cons (c : UInt8) (t : List UInt8) : isNm (c :: t) = (decide (t.length < 12) && smC c.toNat && (c :: t).all fun c => okC c.toNat) := rfl
theorem isNm_long (l : List UInt8) (h : 12 < l.length) : isNm l = false := by
  cases l with
  | nil => rfl
  | cons c t =>
    have : ¬ t.length < 12 := by simp at h; omega
    simp [isNm, this]
theorem isNm_bad (l : List UInt8) (k : Nat) (hk : k < l.length) (h : okC l[k].toNat = false) : isNm l = false := by
  cases l with
  | nil => rfl
  | cons c t =>
    have : ((c :: t).all fun c => okC c.toNat) = false := by
      rw [List.all_eq_false]
      exact ⟨_, List.getElem_mem hk, by simp [h]⟩
    rw [isNm_cons, this, Bool.and_false]
theorem isNm_first (l : List UInt8) (hk : 0 < l.length) (h : smC l[0].toNat = false) : isNm l = false := by
  cases l with
  | nil => rfl
  | cons c t => simp at h; simp [isNm, h]
theorem isNm_yes (l : List UInt8) (hk : 0 < l.length) (hk2 : l.length ≤ 12) (h : smC l[0].toNat = true) (ha : (l.all fun c => okC c.toNat) = true) : isNm l = true := by
  cases l with
  | nil => simp at hk
  | cons c t =>
    simp only [List.length_cons] at hk2
    have : t.length < 12 := by omega
    simp at h
    rw [isNm_cons, ha, h]
    simp [this]
theorem all_step (l : List UInt8) (k : Nat) (hk : k < l.length) (h0 : ((l.take k).all fun c => okC c.toNat) = true) (h : okC l[k].toNat = true) : ((l.take (k + 1)).all fun c => okC c.toNat) = true := by
  rw [List.take_succ_eq_append_getElem hk, List.all_append, h0]
  simp [h]
theorem chr_cases (x : Nat) : (smC x = true ∧ 97 ≤ x ∧ x ≤ 122) ∨ (smC x = false ∧ dgC x = true ∧ 48 ≤ x ∧ x ≤ 57) ∨ (smC x = false ∧ dgC x = false ∧ x = 45) ∨ (smC x = false ∧ dgC x = false ∧ x ≠ 45 ∧ x < 97) ∨ (smC x = false ∧ dgC x = false ∧ x ≠ 45 ∧ 122 < x) := by
  simp only [smC, dgC, Bool.and_eq_true, Bool.and_eq_false_iff, decide_eq_true_eq, decide_eq_false_iff_not]
  omega

theorem isDigit_any (x : Nat) (w : World) :
    Calls Tryd.prog 91 #[.int .u8 (x : Int)] w fun e w' => e = .returned (.bool (dgC x)) ∧ w = w' := by
  by_cases h1 : 48 ≤ x
  · by_cases h2 : x ≤ 57
    all_goals
      have e1 := Lib.hid (show dgC x = decide (x ≤ 57) by simp [dgC, h1])
      go_enter Tryd.func91, Tryd.ntmps91
      go_wp2
      go_ret
      rw [e1.out]; simp [h2] <;> omega
  · have e1 := Lib.hid (show dgC x = false by simp [dgC, h1])
    have h1' : (x : Int) < 48 := by omega
    go_enter Tryd.func91, Tryd.ntmps91
    go_wp2
    go_ret
    rw [e1.out]; exact ⟨rfl, rfl⟩
theorem l01Small_any (x : Nat) (w : World) :
    Calls Tryd.prog 106 #[.int .u8 (x : Int)] w fun e w' => e = .returned (.bool (smC x)) ∧ w = w' := by
  by_cases h1 : 97 ≤ x
  · by_cases h2 : x ≤ 122
    all_goals
      have e1 := Lib.hid (show smC x = decide (x ≤ 122) by simp [smC, h1])
      go_enter Tryd.func106, Tryd.ntmps106
      go_wp2
      go_ret
      rw [e1.out]; simp [h2] <;> omega
  · have e1 := Lib.hid (show smC x = false by simp [smC, h1])
    have h1' : (x : Int) < 97 := by omega
    go_enter Tryd.func106, Tryd.ntmps106
    go_wp2
    go_ret
    rw [e1.out]; exact ⟨rfl, rfl⟩
theorem l01Digit_any (x : Nat) (w : World) :
    Calls Tryd.prog 107 #[.int .u8 (x : Int)] w fun e w' => e = .returned (.bool (dgC x)) ∧ w = w' := by
  by_cases h1 : 48 ≤ x
  · by_cases h2 : x ≤ 57
    all_goals
      have e1 := Lib.hid (show dgC x = decide (x ≤ 57) by simp [dgC, h1])
      go_enter Tryd.func107, Tryd.ntmps107
      go_wp2
      go_ret
      rw [e1.out]; simp [h2] <;> omega
  · have e1 := Lib.hid (show dgC x = false by simp [dgC, h1])
    have h1' : (x : Int) < 48 := by omega
    go_enter Tryd.func107, Tryd.ntmps107
    go_wp2
    go_ret
    rw [e1.out]; exact ⟨rfl, rfl⟩
end Go.Proofs.YtmheijnckmlbnaaDoor
/- Names, part 2: the walks of IsName. -/
namespace Go.Proofs.YtmheijnckmlbnaaDoor
open Go.RowKit Go.Joins

theorem okC_sm {x : Nat} (h : smC x = true) : okC x = true := by simp [okC, h]
theorem okC_dg {x : Nat} (h : dgC x = true) : okC x = true := by simp [okC, h]
theorem okC_da {x : Nat} (h : x = 45) : okC x = true := by simp [okC, h]
theorem okC_no {x : Nat} (h : smC x = false) (h2 : dgC x = false) (h3 : x ≠ 45) : okC x = false := by simp [okC, h, h2, h3]

set_option maxRecDepth 100000 in
set_option maxHeartbeats 1600000 in
theorem IsNameI_any (s : ByteArray) (w : World) (hs : s.size ≤ 1048576) :
    Calls Tryd.prog 84 #[.string s] w fun e w' => e = .returned (.bool (isNm s.data.toList)) ∧ w = w' := by
  have hsz : s.data.toList.length = s.size := by simp
  have Hsz := Lib.hid hsz; clear hsz
  by_cases h0 : s.size = 0
  · have hfin := Lib.hid (show isNm s.data.toList = false by
      have he : s.data.toList = [] := List.eq_nil_of_length_eq_zero (by rw [Hsz.out, h0])
      rw [he]; rfl)
    have hq : ((s.size : Int) == 0) = true := by simp [h0]
    clear h0
    go_enter Tryd.func84, Tryd.ntmps84
    go_wp2_with fail
    go_ret
    rw [hfin.out]; exact ⟨rfl, rfl⟩
  · have hq : ((s.size : Int) == 0) = false := by simpa using h0
    by_cases h12 : 12 < s.size
    · have hfin := Lib.hid (isNm_long s.data.toList (by rw [Hsz.out]; exact h12))
      have hq2 : (12 : Int) < (s.size : Int) := by omega
      clear h0
      go_enter Tryd.func84, Tryd.ntmps84
      go_wp2_with fail
      go_ret
      rw [hfin.out]; exact ⟨rfl, rfl⟩
    · have hq2 : (s.size : Int) ≤ 12 := by omega
      have hp : 0 < s.data.toList.length := by rw [Hsz.out]; omega
      have Hp := Lib.hid hp
      go_enter Tryd.func84, Tryd.ntmps84
      go_wp2_with fail
      go_loop [15] (fun i => ∃ k : Nat, k ≤ s.size ∧ ((s.data.toList.take k).all fun c => okC c.toNat) = true ∧ (0 < k → smC (s.data.toList[0]'hp).toNat = true) ∧ i = .int .i64 k) (fun i => s.size - (intOf i).toNat)
      case atStart => exact ⟨0, Nat.zero_le _, rfl, by omega, rfl⟩
      case round =>
        obtain ⟨k, hk, hall, hfst, rfl⟩ := hrel
        have Hall := Lib.hid hall; clear hall
        have Hfst := Lib.hid hfst; clear hfst
        by_cases hlt : k < s.size
        · have hkl : k < s.data.toList.length := by rw [Hsz.out]; exact hlt
          have Hbad := Lib.hid (show okC s[k].toNat = false → isNm s.data.toList = false from fun h => isNm_bad s.data.toList k hkl h)
          have Hst := Lib.hid (show okC s[k].toNat = true → ((s.data.toList.take (k + 1)).all fun c => okC c.toNat) = true from fun h => all_step s.data.toList k hkl Hall.out h)
          have Hfk := Lib.hid (show smC s[k].toNat = true → smC (s.data.toList[0]'hp).toNat = true from fun h => by
            by_cases hk0 : k = 0
            · subst hk0; exact h
            · exact Hfst.out (by omega))
          have Hf0 := Lib.hid (show k = 0 → smC s[k].toNat = false → isNm s.data.toList = false from fun h h2 => isNm_first s.data.toList hp (by subst h; exact h2))
          have hx8 := s[k].toNat_lt
          have hx9 : (s[k].toNat : Int) < 256 := by omega
          have HD := Lib.hid (fun wx => isDigit_any s[k].toNat wx)
          clear hx8
          have hlt' : (k : Int) < (s.size : Int) := by omega
          by_cases hk0 : k = 0
          · have hqk : ((k : Int) == 0) = true := by simp [hk0]
            rcases chr_cases s[k].toNat with ⟨c1, c2, c3⟩ | ⟨c1, c2, c3, c4⟩ | ⟨c1, c2, c3⟩ | ⟨c1, c2, c3, c4⟩ | ⟨c1, c2, c3, c4⟩
            · have hst := Lib.hid (Hst.out (okC_sm c1))
              have hf := Lib.hid (Hfk.out c1)
              clear Hbad Hst Hfk Hf0 c1 hk0
              have d1 : (97 : Int) ≤ (s[k].toNat : Int) := by omega
              have d2 : (s[k].toNat : Int) ≤ 122 := by omega
              go_wp2_with fail
              go_round
              case rel => exact ⟨k + 1, by omega, hst.out, fun _ => hf.out, by go_num⟩
              case measure => simp [intOf]; omega
            all_goals
              have hfin := Lib.hid (Hf0.out hk0 c1)
              clear Hbad Hst Hfk Hf0 c1 c2 hk0
              rcases Nat.lt_or_ge s[k].toNat 97 with d0 | d0
              · first
                | (exfalso; omega)
                | (have d1 : (s[k].toNat : Int) < 97 := by omega
                   go_wp2_with fail
                   go_ret
                   rw [hfin.out]; exact ⟨rfl, rfl⟩)
              · first
                | (exfalso; omega)
                | (have d1 : (97 : Int) ≤ (s[k].toNat : Int) := by omega
                   have d2 : decide ((s[k].toNat : Int) ≤ 122) = false := by rw [decide_eq_false_iff_not]; omega
                   go_wp2_with fail
                   go_ret
                   rw [hfin.out]; exact ⟨rfl, rfl⟩)
          · have hqk : ((k : Int) == 0) = false := by simpa using hk0
            have hf := Lib.hid (Hfst.out (by omega))
            rcases chr_cases s[k].toNat with ⟨c1, c2, c3⟩ | ⟨c1, c2, c3, c4⟩ | ⟨c1, c2, c3⟩ | ⟨c1, c2, c3, c4⟩ | ⟨c1, c2, c3, c4⟩
            · have hst := Lib.hid (Hst.out (okC_sm c1))
              clear Hbad Hst Hfk Hf0 c1 hk0
              have d1 : (97 : Int) ≤ (s[k].toNat : Int) := by omega
              have d2 : (s[k].toNat : Int) ≤ 122 := by omega
              go_wp2_with fail
              go_round
              case rel => exact ⟨k + 1, by omega, hst.out, fun _ => hf.out, by go_num⟩
              case measure => simp [intOf]; omega
            · have hst := Lib.hid (Hst.out (okC_dg c2))
              rw [c2] at HD
              clear Hbad Hst Hfk Hf0 c1 c2 hk0
              have d1 : (s[k].toNat : Int) < 97 := by omega
              have d3 : ((s[k].toNat : Int) != 45) = true := by rw [bne_iff_ne]; omega
              go_wp2_with fail
              refine (HD.out _).mono ?_; rintro e w1 ⟨rfl, rfl⟩
              go_wp2_with fail
              go_round
              case rel => exact ⟨k + 1, by omega, hst.out, fun _ => hf.out, by go_num⟩
              case measure => simp [intOf]; omega
            · have hst := Lib.hid (Hst.out (okC_da c3))
              clear Hbad Hst Hfk Hf0 c1 c2 hk0
              have d1 : (s[k].toNat : Int) < 97 := by omega
              have d3 : ((s[k].toNat : Int) != 45) = false := by simp [c3]
              clear c3
              go_wp2_with fail
              go_round
              case rel => exact ⟨k + 1, by omega, hst.out, fun _ => hf.out, by go_num⟩
              case measure => simp [intOf]; omega
            · have hfin := Lib.hid (Hbad.out (okC_no c1 c2 c3))
              rw [c2] at HD
              have d1 : (s[k].toNat : Int) < 97 := by omega
              have d3 : ((s[k].toNat : Int) != 45) = true := by rw [bne_iff_ne]; omega
              clear Hbad Hst Hfk Hf0 c1 c2 c3 hk0
              go_wp2_with fail
              refine (HD.out _).mono ?_; rintro e w1 ⟨rfl, rfl⟩
              go_wp2_with fail
              go_ret
              rw [hfin.out]; exact ⟨rfl, rfl⟩
            · have hfin := Lib.hid (Hbad.out (okC_no c1 c2 c3))
              rw [c2] at HD
              have d1 : (97 : Int) ≤ (s[k].toNat : Int) := by omega
              have d2 : decide ((s[k].toNat : Int) ≤ 122) = false := by rw [decide_eq_false_iff_not]; omega
              have d3 : ((s[k].toNat : Int) != 45) = true := by rw [bne_iff_ne]; omega
              clear Hbad Hst Hfk Hf0 c1 c2 c3 hk0
              go_wp2_with fail
              refine (HD.out _).mono ?_; rintro e w1 ⟨rfl, rfl⟩
              go_wp2_with fail
              go_ret
              rw [hfin.out]; exact ⟨rfl, rfl⟩
        · have hfin := Lib.hid (show isNm s.data.toList = true from isNm_yes _ hp (by rw [Hsz.out]; omega) (Hfst.out (by omega)) (by
            have := Hall.out
            rwa [List.take_of_length_le (by rw [Hsz.out]; omega)] at this))
          have hlt' : (s.size : Int) ≤ (k : Int) := by omega
          go_wp2_with fail
          go_ret
          rw [hfin.out]; exact ⟨rfl, rfl⟩
end Go.Proofs.YtmheijnckmlbnaaDoor
/- Names, part 3: the reference's IsName. -/
namespace Go.Proofs.YtmheijnckmlbnaaDoor
open Go.RowKit Go.Joins

theorem toList_ne {s : ByteArray} (h : s.size ≠ 0) : s.toList.isEmpty = false := by
  cases hs : s.toList.isEmpty with
  | false => rfl
  | true =>
    have h1 : s.toList = [] := by simpa using hs
    have h2 := congrArg List.length h1
    rw [ByteArray.toList_eq] at h2
    simp at h2
    exact absurd h2 (by simpa using h)

set_option maxRecDepth 100000 in
set_option maxHeartbeats 1600000 in
theorem IsNameS_any (s : ByteArray) (w : World) (hs : s.size ≤ 1048576) :
    Calls Tryd.prog 86 #[.string s] w fun e w' => e = .returned (.bool (isNm s.data.toList)) ∧ w = w' := by
  have hsz : s.data.toList.length = s.size := by simp
  have Hsz := Lib.hid hsz; clear hsz
  by_cases h0 : s.size = 0
  · obtain rfl : s = ⟨#[]⟩ := by
      obtain ⟨⟨l⟩⟩ := s
      have : l = [] := List.eq_nil_of_length_eq_zero h0
      rw [this]
    clear h0
    go_enter Tryd.func86, Tryd.ntmps86
    go_wp2_with fail
    go_ret
    exact ⟨rfl, rfl⟩
  · have he := toList_ne h0
    have hp : 0 < s.data.toList.length := by rw [Hsz.out]; omega
    have hp0 : 0 < s.size := by omega
    have hp1 : (0 : Int) < (s.size : Int) := by omega
    by_cases h12 : 12 < s.size
    · have hfin := Lib.hid (isNm_long s.data.toList (by rw [Hsz.out]; exact h12))
      have hq2 : (12 : Int) < (s.size : Int) := by omega
      clear h0
      go_enter Tryd.func86, Tryd.ntmps86
      go_wp2_with fail
      go_ret
      rw [hfin.out]; exact ⟨rfl, rfl⟩
    · have hq2 : (s.size : Int) ≤ 12 := by omega
      have HS := Lib.hid (fun wx => l01Small_any s[0].toNat wx)
      have hx8 := s[0].toNat_lt
      cases hsm : smC s[0].toNat with
      | false =>
        have hfin := Lib.hid (isNm_first s.data.toList hp hsm)
        rw [hsm] at HS
        clear hsm h0
        go_enter Tryd.func86, Tryd.ntmps86
        go_wp2_with fail
        refine (HS.out _).mono ?_; rintro e w1 ⟨rfl, rfl⟩
        go_wp2_with fail
        go_ret
        rw [hfin.out]; exact ⟨rfl, rfl⟩
      | true =>
        have Hyes := Lib.hid (fun h => isNm_yes s.data.toList hp (by rw [Hsz.out]; omega) hsm h)
        rw [hsm] at HS
        clear hsm h0
        go_enter Tryd.func86, Tryd.ntmps86
        go_wp2_with fail
        refine (HS.out _).mono ?_; rintro e w1 ⟨rfl, rfl⟩
        go_wp2_with fail
        go_loop [3] (fun i => ∃ k : Nat, k ≤ s.size ∧ ((s.data.toList.take k).all fun c => okC c.toNat) = true ∧ i = .int .i64 k) (fun i => s.size - (intOf i).toNat)
        case atStart => exact ⟨0, Nat.zero_le _, rfl, rfl⟩
        case round =>
          obtain ⟨k, hk, hall, rfl⟩ := hrel
          have Hall := Lib.hid hall; clear hall
          by_cases hlt : k < s.size
          · have hkl : k < s.data.toList.length := by rw [Hsz.out]; exact hlt
            have Hbad := Lib.hid (show okC s[k].toNat = false → isNm s.data.toList = false from fun h => isNm_bad s.data.toList k hkl h)
            have Hst := Lib.hid (show okC s[k].toNat = true → ((s.data.toList.take (k + 1)).all fun c => okC c.toNat) = true from fun h => all_step s.data.toList k hkl Hall.out h)
            have hx8 := s[k].toNat_lt
            have hx9 : (s[k].toNat : Int) < 256 := by omega
            have HC := Lib.hid (fun wx => l01Small_any s[k].toNat wx)
            have HD := Lib.hid (fun wx => l01Digit_any s[k].toNat wx)
            clear hx8
            have hlt' : (k : Int) < (s.size : Int) := by omega
            cases c1 : smC s[k].toNat with
            | true =>
              have hst := Lib.hid (Hst.out (okC_sm c1))
              rw [c1] at HC
              clear Hbad Hst c1
              go_wp2_with fail
              refine (HC.out _).mono ?_; rintro e w1 ⟨rfl, rfl⟩
              go_wp2_with fail
              go_round
              case rel => exact ⟨k + 1, by omega, hst.out, by go_num⟩
              case measure => simp [intOf]; omega
            | false =>
              rw [c1] at HC
              cases c2 : dgC s[k].toNat with
              | true =>
                have hst := Lib.hid (Hst.out (okC_dg c2))
                rw [c2] at HD
                clear Hbad Hst c1 c2
                go_wp2_with fail
                refine (HC.out _).mono ?_; rintro e w1 ⟨rfl, rfl⟩
                go_wp2_with fail
                refine (HD.out _).mono ?_; rintro e w1 ⟨rfl, rfl⟩
                go_wp2_with fail
                go_round
                case rel => exact ⟨k + 1, by omega, hst.out, by go_num⟩
                case measure => simp [intOf]; omega
              | false =>
                rw [c2] at HD
                by_cases c3 : s[k].toNat = 45
                · have hst := Lib.hid (Hst.out (okC_da c3))
                  have d3 : ((s[k].toNat : Int) != 45) = false := by simp [c3]
                  clear Hbad Hst c1 c2 c3
                  go_wp2_with fail
                  refine (HC.out _).mono ?_; rintro e w1 ⟨rfl, rfl⟩
                  go_wp2_with fail
                  refine (HD.out _).mono ?_; rintro e w1 ⟨rfl, rfl⟩
                  go_wp2_with fail
                  go_round
                  case rel => exact ⟨k + 1, by omega, hst.out, by go_num⟩
                  case measure => simp [intOf]; omega
                · have hfin := Lib.hid (Hbad.out (okC_no c1 c2 c3))
                  have d3 : ((s[k].toNat : Int) != 45) = true := by rw [bne_iff_ne]; omega
                  clear Hbad Hst c1 c2 c3
                  go_wp2_with fail
                  refine (HC.out _).mono ?_; rintro e w1 ⟨rfl, rfl⟩
                  go_wp2_with fail
                  refine (HD.out _).mono ?_; rintro e w1 ⟨rfl, rfl⟩
                  go_wp2_with fail
                  go_ret
                  rw [hfin.out]; exact ⟨rfl, rfl⟩
          · have hfin := Lib.hid (Hyes.out (by
              have := Hall.out
              rwa [List.take_of_length_le (by rw [Hsz.out]; omega)] at this))
            have hlt' : (s.size : Int) ≤ (k : Int) := by omega
            go_wp2_with fail
            go_ret
            rw [hfin.out]; exact ⟨rfl, rfl⟩
end Go.Proofs.YtmheijnckmlbnaaDoor
/- Entries, part 6: a valid entry, both sides. -/
namespace Go.Proofs.YtmheijnckmlbnaaDoor
open Go.RowKit Go.Joins

/-- all of the first n -/
def chk (n : Nat) (f : Nat → Bool) : Bool := (List.range n).all f
theorem chk_bad {n : Nat} {f : Nat → Bool} (k : Nat) (hk : k < n) (h : f k = false) : chk n f = false := by
  unfold chk
  rw [List.all_eq_false]
  exact ⟨k, List.mem_range.2 hk, by simp [h]⟩
theorem chk_step {f : Nat → Bool} {k : Nat} (h0 : chk k f = true) (h : f k = true) : chk (k + 1) f = true := by
  unfold chk at *
  rw [List.range_succ, List.all_append, h0]
  simp [h]
def lessS (a b : ByteArray) : Bool := Op.bytesLess a.toList b.toList
theorem bl_tot : ∀ a b : List UInt8, Op.bytesLess a b = !(Op.bytesLess b a || b == a)
  | [], [] => rfl
  | [], _ :: _ => by simp [Op.bytesLess]
  | _ :: _, [] => by simp [Op.bytesLess]
  | a :: x, b :: y => by
    have ih := bl_tot x y
    rcases Nat.lt_trichotomy a.toNat b.toNat with h | h | h
    · have h1 : a < b := UInt8.lt_iff_toNat_lt.2 h
      have h2 : ¬ b < a := fun e => by have := UInt8.lt_iff_toNat_lt.1 e; omega
      have h3 : b ≠ a := fun e => by rw [e] at h; omega
      simp [Op.bytesLess, h1, h2, h3]
    · have h1 : a = b := UInt8.toNat_inj.1 h
      subst h1
      have h2 : ¬ a < a := fun e => by have := UInt8.lt_iff_toNat_lt.1 e; omega
      simp only [Op.bytesLess, h2, ih]
      simp
    · have h1 : ¬ a < b := fun e => by have := UInt8.lt_iff_toNat_lt.1 e; omega
      have h2 : b < a := UInt8.lt_iff_toNat_lt.2 h
      have h3 : a ≠ b := fun e => by rw [e] at h; omega
      simp [Op.bytesLess, h1, h2, h3]
/-- what the two sides ask of neighbours -/
theorem less_yes {a b : ByteArray} (h : lessS a b = true) : (Op.bytesLess b.toList a.toList || b.toList == a.toList) = false ∧ Op.bytesLess b.toList a.toList = false ∧ (b.toList == a.toList) = false ∧ Op.bytesLess a.toList b.toList = true := by
  have h1 := bl_tot a.toList b.toList
  unfold lessS at h
  rw [h] at h1
  have h2 : (Op.bytesLess b.toList a.toList || b.toList == a.toList) = false := by simpa using h1.symm
  have h3 := h2
  rw [Bool.or_eq_false_iff] at h3
  exact ⟨h2, h3.1, h3.2, h⟩
theorem less_no {a b : ByteArray} (h : lessS a b = false) : (Op.bytesLess b.toList a.toList || b.toList == a.toList) = true ∧ Op.bytesLess a.toList b.toList = false := by
  have h1 := bl_tot a.toList b.toList
  unfold lessS at h
  rw [h] at h1
  refine ⟨?_, h⟩
  cases hh : (Op.bytesLess b.toList a.toList || b.toList == a.toList) with
  | true => rfl
  | false => rw [hh] at h1; simp at h1

def wordOk (l : List ByteArray) (i : Nat) : Bool := isNm (l.getD i ⟨#[]⟩).data.toList && (decide (i = 0) || lessS (l.getD (i - 1) ⟨#[]⟩) (l.getD i ⟨#[]⟩))
def entOk (x : Ent) : Bool := inB x.num 1 1000000 && isNm x.name.data.toList && isNm x.maker.data.toList && inB x.year 1000 3000 && decide (x.words.length ≤ 8) && chk x.words.length (wordOk x.words)
theorem getD_at (l : List ByteArray) (k : Nat) (hk : k < l.length) : l.getD k ⟨#[]⟩ = l[k] := by simp [List.getD, hk]
theorem wordOk_nm (l : List ByteArray) (k : Nat) (hk : k < l.length) (h : isNm l[k].data.toList = false) : wordOk l k = false := by unfold wordOk; rw [getD_at l k hk, h]; rfl
theorem wordOk_0 (l : List ByteArray) (hk : 0 < l.length) (h : isNm l[0].data.toList = true) : wordOk l 0 = true := by unfold wordOk; rw [getD_at l 0 hk, h]; rfl
theorem wordOk_s (l : List ByteArray) (k : Nat) (hk : k + 1 < l.length) (h : isNm l[k + 1].data.toList = true) : wordOk l (k + 1) = lessS l[k] l[k + 1] := by
  unfold wordOk
  rw [getD_at l (k + 1) hk, h, show k + 1 - 1 = k by omega, getD_at l k (by omega)]
  simp
theorem entOk_1 {x : Ent} (h : inB x.num 1 1000000 = false) : entOk x = false := by unfold entOk; rw [h]; rfl
theorem entOk_2 {x : Ent} (h : isNm x.name.data.toList = false) : entOk x = false := by unfold entOk; rw [h]; simp
theorem entOk_3 {x : Ent} (h : isNm x.maker.data.toList = false) : entOk x = false := by unfold entOk; rw [h]; simp
theorem entOk_4 {x : Ent} (h : inB x.year 1000 3000 = false) : entOk x = false := by unfold entOk; rw [h]; simp
theorem entOk_5 {x : Ent} (h : 8 < x.words.length) : entOk x = false := by unfold entOk; rw [decide_eq_false (by omega)]; simp
theorem entOk_6 {x : Ent} (h1 : inB x.num 1 1000000 = true) (h2 : isNm x.name.data.toList = true) (h3 : isNm x.maker.data.toList = true) (h4 : inB x.year 1000 3000 = true) (h5 : x.words.length ≤ 8) : entOk x = chk x.words.length (wordOk x.words) := by unfold entOk; rw [h1, h2, h3, h4, decide_eq_true h5]; simp

set_option maxRecDepth 100000 in
set_option maxHeartbeats 3200000 in
theorem validEntry_any (B : Nat) (x : Ent) (A : Option Addr) (c : Nat) (w : World) (h : Rd w B (.slice A x.words.length c) x.words.length 1 (strs x.words)) (hB : B ≤ w.heap.size) (hsm : smE x) :
    Calls Tryd.prog 98 #[aggE x A c] w fun e w' => e = .returned (.bool (entOk x)) ∧ Below w.heap.size w w' := by
  obtain ⟨num, name, maker, year, words⟩ := x
  obtain ⟨l1, l2, l3, l4⟩ := hsm
  dsimp only at *
  have hsz := Lib.hid l4
  have hb0 := Lib.hid ((Below.refl w.heap.size w).alloc (Nat.le_refl _) (.cells #[.int .i64 num, .string name, .string maker, .int .i64 year, .slice A words.length c] 99))
  have H := Lib.hid (h.below (hb0.out.mono hB))
  have HB1 := Lib.hid (fun wx => between_any num 1 1000000 wx)
  have HB2 := Lib.hid (fun wx => IsNameI_any name wx l1)
  have HB3 := Lib.hid (fun wx => IsNameI_any maker wx l2)
  have HB4 := Lib.hid (fun wx => between_any year 1000 3000 wx)
  clear h l4
  cases g1 : inB num 1 1000000 with
  | false =>
    have hfin := Lib.hid (entOk_1 (x := ⟨num, name, maker, year, words⟩) g1)
    rw [g1] at HB1
    clear g1
    go_enter Tryd.func98, Tryd.ntmps98
    go_wp2_with fail
    refine (HB1.out _).mono ?_; rintro e w1 ⟨rfl, rfl⟩
    go_wp2_with fail
    go_ret
    rw [hfin.out]; exact ⟨rfl, hb0.out⟩
  | true =>
    rw [g1] at HB1
    cases g2 : isNm name.data.toList with
    | false =>
      have hfin := Lib.hid (entOk_2 (x := ⟨num, name, maker, year, words⟩) g2)
      rw [g2] at HB2
      clear g1 g2
      go_enter Tryd.func98, Tryd.ntmps98
      go_wp2_with fail
      refine (HB1.out _).mono ?_; rintro e w1 ⟨rfl, rfl⟩
      go_wp2_with fail
      refine (HB2.out _).mono ?_; rintro e w1 ⟨rfl, rfl⟩
      go_wp2_with fail
      go_ret
      rw [hfin.out]; exact ⟨rfl, hb0.out⟩
    | true =>
      rw [g2] at HB2
      cases g3 : isNm maker.data.toList with
      | false =>
        have hfin := Lib.hid (entOk_3 (x := ⟨num, name, maker, year, words⟩) g3)
        rw [g3] at HB3
        clear g1 g2 g3
        go_enter Tryd.func98, Tryd.ntmps98
        go_wp2_with fail
        refine (HB1.out _).mono ?_; rintro e w1 ⟨rfl, rfl⟩
        go_wp2_with fail
        refine (HB2.out _).mono ?_; rintro e w1 ⟨rfl, rfl⟩
        go_wp2_with fail
        refine (HB3.out _).mono ?_; rintro e w1 ⟨rfl, rfl⟩
        go_wp2_with fail
        go_ret
        rw [hfin.out]; exact ⟨rfl, hb0.out⟩
      | true =>
        rw [g3] at HB3
        cases g4 : inB year 1000 3000 with
        | false =>
          have hfin := Lib.hid (entOk_4 (x := ⟨num, name, maker, year, words⟩) g4)
          rw [g4] at HB4
          clear g1 g2 g3 g4
          go_enter Tryd.func98, Tryd.ntmps98
          go_wp2_with fail
          refine (HB1.out _).mono ?_; rintro e w1 ⟨rfl, rfl⟩
          go_wp2_with fail
          refine (HB2.out _).mono ?_; rintro e w1 ⟨rfl, rfl⟩
          go_wp2_with fail
          refine (HB3.out _).mono ?_; rintro e w1 ⟨rfl, rfl⟩
          go_wp2_with fail
          refine (HB4.out _).mono ?_; rintro e w1 ⟨rfl, rfl⟩
          go_wp2_with fail
          go_ret
          rw [hfin.out]; exact ⟨rfl, hb0.out⟩
        | true =>
          rw [g4] at HB4
          by_cases g5 : 8 < words.length
          · have hfin := Lib.hid (entOk_5 (x := ⟨num, name, maker, year, words⟩) g5)
            have g5' : (8 : Int) < (words.length : Int) := by omega
            clear g1 g2 g3 g4
            go_enter Tryd.func98, Tryd.ntmps98
            go_wp2_with fail
            refine (HB1.out _).mono ?_; rintro e w1 ⟨rfl, rfl⟩
            go_wp2_with fail
            refine (HB2.out _).mono ?_; rintro e w1 ⟨rfl, rfl⟩
            go_wp2_with fail
            refine (HB3.out _).mono ?_; rintro e w1 ⟨rfl, rfl⟩
            go_wp2_with fail
            refine (HB4.out _).mono ?_; rintro e w1 ⟨rfl, rfl⟩
            go_wp2_with fail
            go_ret
            rw [hfin.out]; exact ⟨rfl, hb0.out⟩
          · have hfin := Lib.hid (entOk_6 (x := ⟨num, name, maker, year, words⟩) g1 g2 g3 g4 (by show words.length ≤ 8; omega))
            (try dsimp only at hfin)
            have g5' : (words.length : Int) ≤ 8 := by omega
            clear g1 g2 g3 g4
            go_enter Tryd.func98, Tryd.ntmps98
            go_wp2_with fail
            refine (HB1.out _).mono ?_; rintro e w1 ⟨rfl, rfl⟩
            go_wp2_with fail
            refine (HB2.out _).mono ?_; rintro e w1 ⟨rfl, rfl⟩
            go_wp2_with fail
            refine (HB3.out _).mono ?_; rintro e w1 ⟨rfl, rfl⟩
            go_wp2_with fail
            refine (HB4.out _).mono ?_; rintro e w1 ⟨rfl, rfl⟩
            go_wp2_with fail
            go_loop [36] (fun i => ∃ k : Nat, k ≤ words.length ∧ chk k (wordOk words) = true ∧ i = .int .i64 k) (fun i => words.length - (intOf i).toNat)
            case atStart => exact ⟨0, Nat.zero_le _, rfl, rfl⟩
            case round =>
              obtain ⟨k, hk, hall, rfl⟩ := hrel
              have Hall := Lib.hid hall; clear hall
              by_cases hlt : k < words.length
              · obtain ⟨_, b1, o1, hA, hx⟩ := rd_at H.out k hlt
                have HA := Lib.hid hA
                have hlt' : (k : Int) < (words.length : Int) := by omega
                have Hbad := Lib.hid (fun h => hfin.out.trans (chk_bad (f := wordOk words) k hlt h))
                have Hst := Lib.hid (fun h => chk_step (f := wordOk words) (k := k) Hall.out h)
                have Hn := Lib.hid (fun h => wordOk_nm words k hlt h)
                have HN := Lib.hid (fun wx => IsNameI_any words[k] wx (hsz.out _ (List.getElem_mem hlt)))
                cases k with
                | zero =>
                  have H0 := Lib.hid (fun h => wordOk_0 words hlt h)
                  generalize words[0] = z at *
                  subst hA
                  rw [Nat.add_zero] at hx
                  clear HA
                  cases g : isNm z.data.toList with
                  | false =>
                    have hf := Lib.hid (Hbad.out (Hn.out g))
                    rw [g] at HN
                    clear Hbad Hst Hn g H0
                    go_wp2_with fail
                    refine (HN.out _).mono ?_; rintro e w1 ⟨rfl, rfl⟩
                    go_wp2_with fail
                    go_ret
                    rw [hf.out]; exact ⟨rfl, hb0.out⟩
                  | true =>
                    have hst := Lib.hid (Hst.out (H0.out g))
                    rw [g] at HN
                    clear Hbad Hst Hn g H0
                    go_wp2_with fail
                    refine (HN.out _).mono ?_; rintro e w1 ⟨rfl, rfl⟩
                    go_wp2_with fail
                    go_round
                    case rel => exact ⟨1, by omega, hst.out, by go_num⟩
                    case measure => simp [intOf]; omega
                | succ m =>
                  obtain ⟨_, b1', o1', hA', hy⟩ := rd_at H.out m (by omega)
                  rw [HA.out] at hA'
                  obtain ⟨rfl, rfl⟩ : b1 = b1' ∧ o1 = o1' := by simpa using hA'
                  have H0 := Lib.hid (fun h => wordOk_s words m hlt h)
                  generalize words[m + 1] = z at *
                  generalize words[m] = y at *
                  subst hA
                  clear hA'
                  cases g : isNm z.data.toList with
                  | false =>
                    have hf := Lib.hid (Hbad.out (Hn.out g))
                    rw [g] at HN
                    clear Hbad Hst Hn g H0
                    go_wp2_with fail
                    refine (HN.out _).mono ?_; rintro e w1 ⟨rfl, rfl⟩
                    go_wp2_with fail
                    go_ret
                    rw [hf.out]; exact ⟨rfl, hb0.out⟩
                  | true =>
                    rw [g] at HN
                    have h1 := H0.out g
                    have hm1 : IntKind.i64.wrap (((m + 1 : Nat) : Int) - 1) = (m : Int) := by rw [IntWalk.i64_in _ (by omega)]; omega
                    have hm2 : ((m + 1 : Nat) : Int) - 1 = (m : Int) := by omega
                    have hpos : (0 : Int) < ((m + 1 : Nat) : Int) := by omega
                    cases gl : lessS y z with
                    | true =>
                      have hst := Lib.hid (Hst.out (h1.trans gl))
                      obtain ⟨t1, t2, t3, t4⟩ := less_yes gl
                      clear Hbad Hst Hn g H0 h1 gl
                      go_wp2_with fail
                      refine (HN.out _).mono ?_; rintro e w1 ⟨rfl, rfl⟩
                      go_wp2_with fail
                      clear hm1 hm2
                      go_round
                      case rel => exact ⟨m + 1 + 1, by omega, hst.out, by go_num⟩
                      case measure => simp [intOf]; omega
                    | false =>
                      have hf := Lib.hid (Hbad.out (h1.trans gl))
                      obtain ⟨t1, t2⟩ := less_no gl
                      clear Hbad Hst Hn g H0 h1 gl
                      go_wp2_with fail
                      refine (HN.out _).mono ?_; rintro e w1 ⟨rfl, rfl⟩
                      go_wp2_with fail
                      clear hm1 hm2
                      go_ret
                      rw [hf.out]; exact ⟨rfl, hb0.out⟩
              · have hf := Lib.hid (show entOk ⟨num, name, maker, year, words⟩ = true by rw [hfin.out, show words.length = k by omega]; exact Hall.out)
                have hlt' : (words.length : Int) ≤ (k : Int) := by omega
                go_wp2_with fail
                go_ret
                rw [hf.out]; exact ⟨rfl, hb0.out⟩
end Go.Proofs.YtmheijnckmlbnaaDoor
/- Entries, part 7: a valid entry, the reference's side. -/
namespace Go.Proofs.YtmheijnckmlbnaaDoor
open Go.RowKit Go.Joins

theorem flipC {P : Program} {f : FuncId} {args : Array Value} {w : World} {v : Value} (h : Calls P f args w fun e w' => e = .returned v ∧ w = w') : Calls P f args w fun e w' => e = .returned v ∧ w' = w :=
  h.mono fun _ _ ⟨a, b⟩ => ⟨a, b.symm⟩

set_option maxRecDepth 100000 in
set_option maxHeartbeats 3200000 in
theorem l25One_any (B b o : Nat) (x : Ent) (A : Option Addr) (c : Nat) (w : World) (h : EntAt w B b o x A c) (hsm : smE x) :
    Calls Tryd.prog 95 #[.pointer (some ⟨b, o, none⟩)] w fun e w' => e = .returned (.bool (entOk x)) ∧ ∃ n, w' = w.drewN n := by
  obtain ⟨num, name, maker, year, words⟩ := x
  obtain ⟨l1, l2, l3, l4⟩ := hsm
  have HE := Lib.hid h
  obtain ⟨hbB, e0, e1, e2, e3, e4, ew⟩ := h
  dsimp only at *
  have hsz := Lib.hid l4
  have H := Lib.hid ew
  have HB1 := Lib.hid (fun wx => l00In_any num 1 1000000 wx)
  have HB2 := Lib.hid (fun wx => IsNameS_any name wx l1)
  have HB3 := Lib.hid (fun wx => IsNameS_any maker wx l2)
  have HB4 := Lib.hid (fun wx => l00In_any year 1000 3000 wx)
  clear ew l4
  cases g1 : inB num 1 1000000 with
  | false =>
    have hfin := Lib.hid (entOk_1 (x := ⟨num, name, maker, year, words⟩) g1)
    rw [g1] at HB1
    clear g1
    go_enter Tryd.func95, Tryd.ntmps95
    go_wp2_with fail
    refine (HB1.out _).mono ?_; rintro e w1 ⟨rfl, rfl⟩
    go_wp2_with fail
    go_ret
    rw [hfin.out]; exact ⟨rfl, 0, rfl⟩
  | true =>
    rw [g1] at HB1
    cases g2 : isNm name.data.toList with
    | false =>
      have hfin := Lib.hid (entOk_2 (x := ⟨num, name, maker, year, words⟩) g2)
      rw [g2] at HB2
      clear g1 g2
      go_enter Tryd.func95, Tryd.ntmps95
      go_wp2_with fail
      refine (HB1.out _).mono ?_; rintro e w1 ⟨rfl, rfl⟩
      go_wp2_with fail
      refine (HB2.out _).mono ?_; rintro e w1 ⟨rfl, rfl⟩
      go_wp2_with fail
      go_ret
      rw [hfin.out]; exact ⟨rfl, 0, rfl⟩
    | true =>
      rw [g2] at HB2
      cases g3 : isNm maker.data.toList with
      | false =>
        have hfin := Lib.hid (entOk_3 (x := ⟨num, name, maker, year, words⟩) g3)
        rw [g3] at HB3
        clear g1 g2 g3
        go_enter Tryd.func95, Tryd.ntmps95
        go_wp2_with fail
        refine (HB1.out _).mono ?_; rintro e w1 ⟨rfl, rfl⟩
        go_wp2_with fail
        refine (HB2.out _).mono ?_; rintro e w1 ⟨rfl, rfl⟩
        go_wp2_with fail
        refine (HB3.out _).mono ?_; rintro e w1 ⟨rfl, rfl⟩
        go_wp2_with fail
        go_ret
        rw [hfin.out]; exact ⟨rfl, 0, rfl⟩
      | true =>
        rw [g3] at HB3
        cases g4 : inB year 1000 3000 with
        | false =>
          have hfin := Lib.hid (entOk_4 (x := ⟨num, name, maker, year, words⟩) g4)
          rw [g4] at HB4
          clear g1 g2 g3 g4
          go_enter Tryd.func95, Tryd.ntmps95
          go_wp2_with fail
          refine (HB1.out _).mono ?_; rintro e w1 ⟨rfl, rfl⟩
          go_wp2_with fail
          refine (HB2.out _).mono ?_; rintro e w1 ⟨rfl, rfl⟩
          go_wp2_with fail
          refine (HB3.out _).mono ?_; rintro e w1 ⟨rfl, rfl⟩
          go_wp2_with fail
          refine (HB4.out _).mono ?_; rintro e w1 ⟨rfl, rfl⟩
          go_wp2_with fail
          go_ret
          rw [hfin.out]; exact ⟨rfl, 0, rfl⟩
        | true =>
          rw [g4] at HB4
          by_cases g5 : 8 < words.length
          · have hfin := Lib.hid (entOk_5 (x := ⟨num, name, maker, year, words⟩) g5)
            have g5' : (8 : Int) < (words.length : Int) := by omega
            clear g1 g2 g3 g4
            go_enter Tryd.func95, Tryd.ntmps95
            go_wp2_with fail
            refine (HB1.out _).mono ?_; rintro e w1 ⟨rfl, rfl⟩
            go_wp2_with fail
            refine (HB2.out _).mono ?_; rintro e w1 ⟨rfl, rfl⟩
            go_wp2_with fail
            refine (HB3.out _).mono ?_; rintro e w1 ⟨rfl, rfl⟩
            go_wp2_with fail
            refine (HB4.out _).mono ?_; rintro e w1 ⟨rfl, rfl⟩
            go_wp2_with fail
            go_ret
            rw [hfin.out]; exact ⟨rfl, 0, rfl⟩
          · have hfin := Lib.hid (entOk_6 (x := ⟨num, name, maker, year, words⟩) g1 g2 g3 g4 (by show words.length ≤ 8; omega))
            (try dsimp only at hfin)
            have g5' : (words.length : Int) ≤ 8 := by omega
            clear g1 g2 g3 g4
            go_enter Tryd.func95, Tryd.ntmps95
            go_wp2_with fail
            refine (HB1.out _).mono ?_; rintro e w1 ⟨rfl, rfl⟩
            go_wp2_with fail
            refine (HB2.out _).mono ?_; rintro e w1 ⟨rfl, rfl⟩
            go_wp2_with fail
            refine (HB3.out _).mono ?_; rintro e w1 ⟨rfl, rfl⟩
            go_wp2_with fail
            refine (HB4.out _).mono ?_; rintro e w1 ⟨rfl, rfl⟩
            go_wp2_with fail
            go_loopw [3] (fun i wr => ∃ k m : Nat, k ≤ words.length ∧ chk k (wordOk words) = true ∧ i = .int .i64 k ∧ wr = w.drewN m) (fun i _ => words.length - (intOf i).toNat)
            case atStart => exact ⟨0, 0, Nat.zero_le _, rfl, rfl, rfl⟩
            case round =>
              obtain ⟨k, m0, hk, hall, rfl, hwr⟩ := hrel
              have Hw := Lib.hid (fun n => (show wr.drewN n = w.drewN (m0 + n) by rw [hwr, World.drewN_drewN]))
              have Hw0 := Lib.hid hwr
              have Hall := Lib.hid hall; clear hall
              have Hr : Hid (Rd wr B (.slice A words.length c) words.length 1 (strs words)) := Lib.hid (by rw [hwr]; exact H.out.drewN m0)
              obtain ⟨_, d0, d1, d2, d3, d4, _⟩ := (show EntAt wr B b o ⟨num, name, maker, year, words⟩ A c by rw [hwr]; exact HE.out.drewN m0)
              (try dsimp only at d0 d1 d2 d3 d4)
              clear hwr
              by_cases hlt : k < words.length
              · obtain ⟨_, b1, o1, hA, hx⟩ := rd_at Hr.out k hlt
                have HA := Lib.hid hA
                have hlt' : (k : Int) < (words.length : Int) := by omega
                have Hbad := Lib.hid (fun h => hfin.out.trans (chk_bad (f := wordOk words) k hlt h))
                have Hst := Lib.hid (fun h => chk_step (f := wordOk words) (k := k) Hall.out h)
                have Hn := Lib.hid (fun h => wordOk_nm words k hlt h)
                have HN := Lib.hid (fun wx => flipC (IsNameS_any words[k] wx (hsz.out _ (List.getElem_mem hlt))))
                cases k with
                | zero =>
                  have H0 := Lib.hid (fun h => wordOk_0 words hlt h)
                  generalize words[0] = z at *
                  subst hA
                  rw [Nat.add_zero] at hx
                  clear HA
                  cases g : isNm z.data.toList with
                  | false =>
                    have hf := Lib.hid (Hbad.out (Hn.out g))
                    rw [g] at HN
                    clear Hbad Hst Hn g H0
                    go_wp2_with fail
                    go_quiet ((go_at_call 86; exact Calls.quiet_of_same (HN.out _)))
                    go_wp2_with fail
                    go_ret
                    rw [hf.out]; exact ⟨rfl, _, Hw.out _⟩
                  | true =>
                    have hst := Lib.hid (Hst.out (H0.out g))
                    rw [g] at HN
                    clear Hbad Hst Hn g H0
                    go_wp2_with fail
                    go_quiet ((go_at_call 86; exact Calls.quiet_of_same (HN.out _)))
                    go_wp2_with fail
                    go_roundw
                    case rel => exact ⟨1, _, by omega, hst.out, by go_num, Hw.out _⟩
                    case measure => simp [intOf]; omega
                | succ m =>
                  obtain ⟨_, b1', o1', hA', hy⟩ := rd_at Hr.out m (by omega)
                  rw [HA.out] at hA'
                  obtain ⟨rfl, rfl⟩ : b1 = b1' ∧ o1 = o1' := by simpa using hA'
                  have H0 := Lib.hid (fun h => wordOk_s words m hlt h)
                  generalize words[m + 1] = z at *
                  generalize words[m] = y at *
                  subst hA
                  clear hA'
                  cases g : isNm z.data.toList with
                  | false =>
                    have hf := Lib.hid (Hbad.out (Hn.out g))
                    rw [g] at HN
                    clear Hbad Hst Hn g H0
                    go_wp2_with fail
                    go_quiet ((go_at_call 86; exact Calls.quiet_of_same (HN.out _)))
                    go_wp2_with fail
                    go_ret
                    rw [hf.out]; exact ⟨rfl, _, Hw.out _⟩
                  | true =>
                    rw [g] at HN
                    have h1 := H0.out g
                    have hpos : (0 : Int) < ((m + 1 : Nat) : Int) := by omega
                    cases gl : lessS y z with
                    | true =>
                      have hst := Lib.hid (Hst.out (h1.trans gl))
                      obtain ⟨t1, t2, t3, t4⟩ := less_yes gl
                      clear Hbad Hst Hn g H0 h1 gl
                      have hm1 : IntKind.i64.wrap (((m + 1 : Nat) : Int) - 1) = (m : Int) := by rw [IntWalk.i64_in _ (by omega)]; omega
                      have hm2 : ((m + 1 : Nat) : Int) - 1 = (m : Int) := by omega
                      go_wp2_with fail
                      go_quiet ((go_at_call 86; exact Calls.quiet_of_same (HN.out _)))
                      clear hm1 hm2
                      go_wp2_with fail
                      go_roundw
                      case rel => exact ⟨m + 1 + 1, _, by omega, hst.out, by go_num, Hw.out _⟩
                      case measure => simp [intOf]; omega
                    | false =>
                      have hf := Lib.hid (Hbad.out (h1.trans gl))
                      obtain ⟨t1, t2⟩ := less_no gl
                      clear Hbad Hst Hn g H0 h1 gl
                      have hm1 : IntKind.i64.wrap (((m + 1 : Nat) : Int) - 1) = (m : Int) := by rw [IntWalk.i64_in _ (by omega)]; omega
                      have hm2 : ((m + 1 : Nat) : Int) - 1 = (m : Int) := by omega
                      go_wp2_with fail
                      go_quiet ((go_at_call 86; exact Calls.quiet_of_same (HN.out _)))
                      clear hm1 hm2
                      go_wp2_with fail
                      go_ret
                      rw [hf.out]; exact ⟨rfl, _, Hw.out _⟩
              · have hf := Lib.hid (show entOk ⟨num, name, maker, year, words⟩ = true by rw [hfin.out, show words.length = k by omega]; exact Hall.out)
                have hlt' : (words.length : Int) ≤ (k : Int) := by omega
                go_wp2_with fail
                go_ret
                rw [hf.out]; exact ⟨rfl, _, Hw0.out⟩
end Go.Proofs.YtmheijnckmlbnaaDoor
/- Entries, part 8 (regions' steps by heldsteps.py): ValidEntries on both sides. -/
namespace Go.Proofs.YtmheijnckmlbnaaDoor
open Go.RowKit Go.Joins

def noEnt : Ent := ⟨0, ⟨#[]⟩, ⟨#[]⟩, 0, []⟩
def placeOk (xs : List Ent) (i : Nat) : Bool := entOk (xs.getD i noEnt) && (decide (i = 0) || decide ((xs.getD (i - 1) noEnt).num < (xs.getD i noEnt).num))
def entsOk (xs : List Ent) : Bool := chk xs.length (placeOk xs) && decide (xs.length ≤ 50)
theorem getE_at (l : List Ent) (k : Nat) (hk : k < l.length) : l.getD k noEnt = l[k] := by simp [List.getD, hk]
theorem place_no (l : List Ent) (k : Nat) (hk : k < l.length) (h : entOk l[k] = false) : placeOk l k = false := by unfold placeOk; rw [getE_at l k hk, h]; rfl
theorem place_0 (l : List Ent) (hk : 0 < l.length) (h : entOk l[0] = true) : placeOk l 0 = true := by unfold placeOk; rw [getE_at l 0 hk, h]; rfl
theorem place_s (l : List Ent) (k : Nat) (hk : k + 1 < l.length) (h : entOk l[k + 1] = true) : placeOk l (k + 1) = decide (l[k].num < l[k + 1].num) := by
  unfold placeOk
  rw [getE_at l (k + 1) hk, h, show k + 1 - 1 = k by omega, getE_at l k (by omega)]
  simp
theorem ents_no {l : List Ent} (k : Nat) (hk : k < l.length) (h : placeOk l k = false) : entsOk l = false := by unfold entsOk; rw [chk_bad k hk h]; rfl
theorem five_at {w : World} {g : Nat} {a b c d e : Value} {t : TypeId} (h : w.heap[g]? = some (.cells #[a, b, c, d, e] t (0, 0))) :
    w.cell? ⟨g, 0, none⟩ = some a ∧ w.cell? ⟨g, 1, none⟩ = some b ∧ w.cell? ⟨g, 2, none⟩ = some c ∧ w.cell? ⟨g, 3, none⟩ = some d ∧ w.cell? ⟨g, 4, none⟩ = some e := by
  obtain ⟨h0, h1, h2, h3, h4, _⟩ := blk5 h
  exact ⟨h0, h1, h2, h3, h4⟩
theorem six_at {w : World} {g : Nat} {a b c d e v : Value} {q : Addr} {t : TypeId} (h : w.heap[g]? = some (.cells #[a, b, c, d, e] t (0, 0))) (hq : w.cell? q = some v) :
    w.cell? ⟨g, 0, none⟩ = some a ∧ w.cell? ⟨g, 1, none⟩ = some b ∧ w.cell? ⟨g, 2, none⟩ = some c ∧ w.cell? ⟨g, 3, none⟩ = some d ∧ w.cell? ⟨g, 4, none⟩ = some e ∧ w.cell? q = some v := by
  obtain ⟨h0, h1, h2, h3, h4, _⟩ := blk5 h
  exact ⟨h0, h1, h2, h3, h4, hq⟩

set_option maxRecDepth 100000 in
set_option maxHeartbeats 3200000 in
theorem ValidI_any (B : Nat) (v : Value) (xs : List Ent) (w : World) (h : RdE w B v xs) (hB : B ≤ w.heap.size) (hl : xs.length ≤ 1048576) (hsm : ∀ x ∈ xs, smE x) :
    Calls Tryd.prog 73 #[v] w fun e w' => e = .returned (.bool (entsOk xs)) ∧ Below w.heap.size w w' := by
  have H := Lib.hid h
  have Hsm := Lib.hid hsm
  obtain ⟨A, c, rfl⟩ := h.slice
  clear h hsm
  have hb0 := Below.refl w.heap.size w
  go_enter Tryd.func73, Tryd.ntmps73
  go_wp2_with fail
  go_loopw [7] (fun i wr => ∃ k : Nat, k ≤ xs.length ∧ chk k (placeOk xs) = true ∧ i = .int .i64 k ∧ Below w.heap.size w wr) (fun i _ => xs.length - (intOf i).toNat)
  case atStart => exact ⟨0, Nat.zero_le _, rfl, rfl, hb0⟩
  case round =>
    obtain ⟨k, hk, hall, rfl, hbl⟩ := hrel
    have Hall := Lib.hid hall; clear hall
    by_cases hlt : k < xs.length
    · obtain ⟨b1, o1, A3, c3, hA, hE⟩ := (H.out.below (hbl.mono hB)).at k hlt
      have HA := Lib.hid hA
      have hlt' : (k : Int) < (xs.length : Int) := by omega
      have Hbad := Lib.hid (fun h => ents_no (l := xs) k hlt h)
      have Hst := Lib.hid (fun h => chk_step (f := placeOk xs) (k := k) Hall.out h)
      have Hn := Lib.hid (fun h => place_no xs k hlt h)
      have hsx := Lib.hid (Hsm.out xs[k] (List.getElem_mem hlt))
      have hzB : B ≤ wr.heap.size := Nat.le_trans hB hbl.size
      have hz1 : b1 < wr.heap.size := Nat.lt_of_lt_of_le hE.lt hzB
      cases k with
      | zero =>
        have H0 := Lib.hid (fun h => place_0 xs hlt h)
        generalize xs[0] = x at *
        subst hA
        clear HA
        obtain ⟨num, name, maker, year, words⟩ := x
        have HV := Lib.hid (fun wx hx hz => validEntry_any B ⟨num, name, maker, year, words⟩ A3 c3 wx hx hz hsx.out)
        obtain ⟨hbB, e0, e1, e2, e3, e4, ew⟩ := hE
        dsimp only at e0 e1 e2 e3 e4 ew
        rw [Nat.zero_mul, Nat.add_zero] at e0 e1 e2 e3 e4
        have hba := (Below.refl wr.heap.size wr).alloc (Nat.le_refl _) (.cells #[.int .i64 num, .string name, .string maker, .int .i64 year, .slice A3 words.length c3] 99)
        have hnw := heap_alloc_new wr (.cells #[.int .i64 num, .string name, .string maker, .int .i64 year, .slice A3 words.length c3] 99)
        have hlw : wr.heap.size < (wr.alloc (.cells #[.int .i64 num, .string name, .string maker, .int .i64 year, .slice A3 words.length c3] 99)).heap.size := by simp
        have Hnw := Lib.hid hnw
        have Hba := Lib.hid hba
        have Hbl := Lib.hid hbl
        have Hew := Lib.hid ew
        clear hba hbl ew hnw
        cases g : entOk ⟨num, name, maker, year, words⟩ with
        | false =>
          have hf := Lib.hid (Hbad.out (Hn.out g))
          rw [g] at HV
          clear Hbad Hst Hn g H0
          go_wp2_with fail
          obtain ⟨f0, f1, f2, f3, f4, _⟩ := blk5 Hnw.out
          have hacc : Below wr.heap.size wr (wr.alloc (.cells #[.int .i64 num, .string name, .string maker, .int .i64 year, .slice A3 words.length c3] 99)).drew := Hba.out.drew
          generalize wr.alloc (.cells #[.int .i64 num, .string name, .string maker, .int .i64 year, .slice A3 words.length c3] 99) = wn at *
          refine wp_region_noPanic ?_
          refine wp_region_held_drew (S := fun w' => w'.cell? ⟨wr.heap.size, 0, none⟩ = some (.int .i64 num) ∧ w'.cell? ⟨wr.heap.size, 1, none⟩ = some (.string name) ∧ w'.cell? ⟨wr.heap.size, 2, none⟩ = some (.string maker) ∧ w'.cell? ⟨wr.heap.size, 3, none⟩ = some (.int .i64 year) ∧ w'.cell? ⟨wr.heap.size, 4, none⟩ = some (.slice A3 words.length c3)) (by kernel_rfl) (by (try dsimp only); first | go_keep | assumption) (fun hHeld => ?_)
          refine take_d (i := 0) (d := some 12) (v := ?_) rfl rfl (by kernel_rfl) (by kernel_rfl) (by kernel_rfl) (fun _ _ _ h => h) (Or.inl ⟨by rfl, ?_⟩) (by assumption) ?_
          rotate_left
          · (intro w hSw; (try dsimp only at hSw); go_simp; (try (with_reducible rfl)))
          simp only [Act.put, List.setIfInBounds_toArray, List.set_cons_zero, List.set_cons_succ]
          refine call_d (i := 1) (d := some 13) rfl rfl (by kernel_rfl) (fun K hK => ?_)
          go_simp
          (go_at_call 98; ((with_reducible refine (HV.out _ (Hew.out.below (hacc.mono hzB)) (Nat.le_trans hzB hacc.size)).mono ?_)); rintro e wq ⟨rfl, hbq⟩; have hSq := five_at ((hbq.block _ hlw).trans Hnw.out); have hacc' := hacc.trans (hbq.mono hacc.size); clear hacc; have hacc := hacc'; clear hacc')
          (try (go_wp2_with fail))
          refine hK.out _ _ (hSq) (fun hHeld => ?_)
          clear hK K
          (try simp only [Act.put, List.setIfInBounds_toArray, List.set_cons_zero, List.set_cons_succ])
          refine take_d (i := 2) (d := some 14) (v := ?_) rfl rfl (by kernel_rfl) (by kernel_rfl) (by kernel_rfl) (fun _ _ _ h => h) (Or.inl ⟨by rfl, ?_⟩) (by assumption) ?_
          rotate_left
          · (intro w hSw; (try dsimp only at hSw); go_simp; (try (with_reducible rfl)))
          simp only [Act.put, List.setIfInBounds_toArray, List.set_cons_zero, List.set_cons_succ]
          refine take_d (i := 3) (d := some 15) (v := ?_) rfl rfl (by kernel_rfl) (by kernel_rfl) (by kernel_rfl) (fun _ _ _ h => h) (Or.inl ⟨by rfl, ?_⟩) (by assumption) ?_
          rotate_left
          · (intro w hSw; (try dsimp only at hSw); go_simp; (try (with_reducible rfl)))
          simp only [Act.put, List.setIfInBounds_toArray, List.set_cons_zero, List.set_cons_succ]
          refine take_d (i := 4) (d := some 16) (v := undef) rfl rfl (by kernel_rfl) (by kernel_rfl) (by kernel_rfl) (fun _ _ _ h => h) (Or.inr ⟨by rfl, rfl⟩) (by assumption) ?_
          simp only [Act.put, List.setIfInBounds_toArray, List.set_cons_zero, List.set_cons_succ]
          refine take_d (i := 5) (d := some 17) (v := undef) rfl rfl (by kernel_rfl) (by kernel_rfl) (by kernel_rfl) (fun _ _ _ h => h) (Or.inr ⟨by rfl, rfl⟩) (by assumption) ?_
          simp only [Act.put, List.setIfInBounds_toArray, List.set_cons_zero, List.set_cons_succ]
          refine take_d (i := 6) (d := some 18) (v := undef) rfl rfl (by kernel_rfl) (by kernel_rfl) (by kernel_rfl) (fun _ _ _ h => h) (Or.inr ⟨by rfl, rfl⟩) (by assumption) ?_
          simp only [Act.put, List.setIfInBounds_toArray, List.set_cons_zero, List.set_cons_succ]
          refine take_d (i := 7) (d := some 19) (v := undef) rfl rfl (by kernel_rfl) (by kernel_rfl) (by kernel_rfl) (fun _ _ _ h => h) (Or.inr ⟨by rfl, rfl⟩) (by assumption) ?_
          simp only [Act.put, List.setIfInBounds_toArray, List.set_cons_zero, List.set_cons_succ]
          refine take_d (i := 8) (d := some 20) (v := undef) rfl rfl (by kernel_rfl) (by kernel_rfl) (by kernel_rfl) (fun _ _ _ h => h) (Or.inr ⟨by rfl, rfl⟩) (by assumption) ?_
          simp only [Act.put, List.setIfInBounds_toArray, List.set_cons_zero, List.set_cons_succ]
          refine take_d (i := 9) (d := some 21) (v := undef) rfl rfl (by kernel_rfl) (by kernel_rfl) (by kernel_rfl) (fun _ _ _ h => h) (Or.inr ⟨by rfl, rfl⟩) (by assumption) ?_
          simp only [Act.put, List.setIfInBounds_toArray, List.set_cons_zero, List.set_cons_succ]
          refine take_d (i := 10) (d := some 22) (v := undef) rfl rfl (by kernel_rfl) (by kernel_rfl) (by kernel_rfl) (fun _ _ _ h => h) (Or.inr ⟨by rfl, rfl⟩) (by assumption) ?_
          simp only [Act.put, List.setIfInBounds_toArray, List.set_cons_zero, List.set_cons_succ]
          refine take_d (i := 11) (d := some 23) (v := undef) rfl rfl (by kernel_rfl) (by kernel_rfl) (by kernel_rfl) (fun _ _ _ h => h) (Or.inr ⟨by rfl, rfl⟩) (by assumption) ?_
          simp only [Act.put, List.setIfInBounds_toArray, List.set_cons_zero, List.set_cons_succ]
          refine take_d (i := 12) (d := some 24) (v := undef) rfl rfl (by kernel_rfl) (by kernel_rfl) (by kernel_rfl) (fun _ _ _ h => h) (Or.inr ⟨by rfl, rfl⟩) (by assumption) ?_
          simp only [Act.put, List.setIfInBounds_toArray, List.set_cons_zero, List.set_cons_succ]
          refine take_d (i := 13) (d := some 25) (v := undef) rfl rfl (by kernel_rfl) (by kernel_rfl) (by kernel_rfl) (fun _ _ _ h => h) (Or.inr ⟨by rfl, rfl⟩) (by assumption) ?_
          simp only [Act.put, List.setIfInBounds_toArray, List.set_cons_zero, List.set_cons_succ]
          refine take_d (i := 14) (d := some 26) (v := undef) rfl rfl (by kernel_rfl) (by kernel_rfl) (by kernel_rfl) (fun _ _ _ h => h) (Or.inr ⟨by rfl, rfl⟩) (by assumption) ?_
          simp only [Act.put, List.setIfInBounds_toArray, List.set_cons_zero, List.set_cons_succ]
          refine take_d (i := 15) (d := some 27) (v := undef) rfl rfl (by kernel_rfl) (by kernel_rfl) (by kernel_rfl) (fun _ _ _ h => h) (Or.inr ⟨by rfl, rfl⟩) (by assumption) ?_
          simp only [Act.put, List.setIfInBounds_toArray, List.set_cons_zero, List.set_cons_succ]
          refine take_d (i := 16) (d := some 28) (v := undef) rfl rfl (by kernel_rfl) (by kernel_rfl) (by kernel_rfl) (fun _ _ _ h => h) (Or.inr ⟨by rfl, rfl⟩) (by assumption) ?_
          simp only [Act.put, List.setIfInBounds_toArray, List.set_cons_zero, List.set_cons_succ]
          refine take_d (i := 17) (d := some 29) (v := ?_) rfl rfl (by kernel_rfl) (by kernel_rfl) (by kernel_rfl) (fun _ _ _ h => h) (Or.inl ⟨by rfl, ?_⟩) (by assumption) ?_
          rotate_left
          · (intro w hSw; (try dsimp only at hSw); go_simp; (try (with_reducible rfl)))
          simp only [Act.put, List.setIfInBounds_toArray, List.set_cons_zero, List.set_cons_succ]
          refine wpAnyH_done (by kernel_rfl) ?_ _
          refine NoPanic.normal ?_
          go_wp2_with fail
          go_ret
          rw [hf.out]; exact ⟨rfl, Hbl.out.trans (hacc.mono Hbl.out.size)⟩
        | true =>
          have hst := Lib.hid (Hst.out (H0.out g))
          rw [g] at HV
          clear Hbad Hst Hn g H0
          go_wp2_with fail
          obtain ⟨f0, f1, f2, f3, f4, _⟩ := blk5 Hnw.out
          have hacc : Below wr.heap.size wr (wr.alloc (.cells #[.int .i64 num, .string name, .string maker, .int .i64 year, .slice A3 words.length c3] 99)).drew := Hba.out.drew
          generalize wr.alloc (.cells #[.int .i64 num, .string name, .string maker, .int .i64 year, .slice A3 words.length c3] 99) = wn at *
          refine wp_region_noPanic ?_
          refine wp_region_held_drew (S := fun w' => w'.cell? ⟨wr.heap.size, 0, none⟩ = some (.int .i64 num) ∧ w'.cell? ⟨wr.heap.size, 1, none⟩ = some (.string name) ∧ w'.cell? ⟨wr.heap.size, 2, none⟩ = some (.string maker) ∧ w'.cell? ⟨wr.heap.size, 3, none⟩ = some (.int .i64 year) ∧ w'.cell? ⟨wr.heap.size, 4, none⟩ = some (.slice A3 words.length c3)) (by kernel_rfl) (by (try dsimp only); first | go_keep | assumption) (fun hHeld => ?_)
          refine take_d (i := 0) (d := some 12) (v := ?_) rfl rfl (by kernel_rfl) (by kernel_rfl) (by kernel_rfl) (fun _ _ _ h => h) (Or.inl ⟨by rfl, ?_⟩) (by assumption) ?_
          rotate_left
          · (intro w hSw; (try dsimp only at hSw); go_simp; (try (with_reducible rfl)))
          simp only [Act.put, List.setIfInBounds_toArray, List.set_cons_zero, List.set_cons_succ]
          refine call_d (i := 1) (d := some 13) rfl rfl (by kernel_rfl) (fun K hK => ?_)
          go_simp
          (go_at_call 98; ((with_reducible refine (HV.out _ (Hew.out.below (hacc.mono hzB)) (Nat.le_trans hzB hacc.size)).mono ?_)); rintro e wq ⟨rfl, hbq⟩; have hSq := five_at ((hbq.block _ hlw).trans Hnw.out); have hacc' := hacc.trans (hbq.mono hacc.size); clear hacc; have hacc := hacc'; clear hacc')
          (try (go_wp2_with fail))
          refine hK.out _ _ (hSq) (fun hHeld => ?_)
          clear hK K
          (try simp only [Act.put, List.setIfInBounds_toArray, List.set_cons_zero, List.set_cons_succ])
          refine take_d (i := 2) (d := some 14) (v := ?_) rfl rfl (by kernel_rfl) (by kernel_rfl) (by kernel_rfl) (fun _ _ _ h => h) (Or.inl ⟨by rfl, ?_⟩) (by assumption) ?_
          rotate_left
          · (intro w hSw; (try dsimp only at hSw); go_simp; (try (with_reducible rfl)))
          simp only [Act.put, List.setIfInBounds_toArray, List.set_cons_zero, List.set_cons_succ]
          refine take_d (i := 3) (d := some 15) (v := ?_) rfl rfl (by kernel_rfl) (by kernel_rfl) (by kernel_rfl) (fun _ _ _ h => h) (Or.inl ⟨by rfl, ?_⟩) (by assumption) ?_
          rotate_left
          · (intro w hSw; (try dsimp only at hSw); go_simp; (try (with_reducible rfl)))
          simp only [Act.put, List.setIfInBounds_toArray, List.set_cons_zero, List.set_cons_succ]
          refine take_d (i := 4) (d := some 16) (v := ?_) rfl rfl (by kernel_rfl) (by kernel_rfl) (by kernel_rfl) (fun _ _ _ h => h) (Or.inl ⟨by rfl, ?_⟩) (by assumption) ?_
          rotate_left
          · (intro w hSw; (try dsimp only at hSw); go_simp; (try (with_reducible rfl)))
          simp only [Act.put, List.setIfInBounds_toArray, List.set_cons_zero, List.set_cons_succ]
          refine take_d (i := 5) (d := some 17) (v := ?_) rfl rfl (by kernel_rfl) (by kernel_rfl) (by kernel_rfl) (fun _ _ _ h => h) (Or.inl ⟨by rfl, ?_⟩) (by assumption) ?_
          rotate_left
          · (intro w hSw; (try dsimp only at hSw); go_simp; (try (with_reducible rfl)))
          simp only [Act.put, List.setIfInBounds_toArray, List.set_cons_zero, List.set_cons_succ]
          refine take_d (i := 6) (d := some 18) (v := ?_) rfl rfl (by kernel_rfl) (by kernel_rfl) (by kernel_rfl) (fun _ _ _ h => h) (Or.inl ⟨by rfl, ?_⟩) (by assumption) ?_
          rotate_left
          · (intro w hSw; (try dsimp only at hSw); go_simp; (try (with_reducible rfl)))
          simp only [Act.put, List.setIfInBounds_toArray, List.set_cons_zero, List.set_cons_succ]
          refine take_d (i := 7) (d := some 19) (v := undef) rfl rfl (by kernel_rfl) (by kernel_rfl) (by kernel_rfl) (fun _ _ _ h => h) (Or.inr ⟨by rfl, rfl⟩) (by assumption) ?_
          simp only [Act.put, List.setIfInBounds_toArray, List.set_cons_zero, List.set_cons_succ]
          refine take_d (i := 8) (d := some 20) (v := undef) rfl rfl (by kernel_rfl) (by kernel_rfl) (by kernel_rfl) (fun _ _ _ h => h) (Or.inr ⟨by rfl, rfl⟩) (by assumption) ?_
          simp only [Act.put, List.setIfInBounds_toArray, List.set_cons_zero, List.set_cons_succ]
          refine take_d (i := 9) (d := some 21) (v := undef) rfl rfl (by kernel_rfl) (by kernel_rfl) (by kernel_rfl) (fun _ _ _ h => h) (Or.inr ⟨by rfl, rfl⟩) (by assumption) ?_
          simp only [Act.put, List.setIfInBounds_toArray, List.set_cons_zero, List.set_cons_succ]
          refine take_d (i := 10) (d := some 22) (v := undef) rfl rfl (by kernel_rfl) (by kernel_rfl) (by kernel_rfl) (fun _ _ _ h => h) (Or.inr ⟨by rfl, rfl⟩) (by assumption) ?_
          simp only [Act.put, List.setIfInBounds_toArray, List.set_cons_zero, List.set_cons_succ]
          refine take_d (i := 11) (d := some 23) (v := undef) rfl rfl (by kernel_rfl) (by kernel_rfl) (by kernel_rfl) (fun _ _ _ h => h) (Or.inr ⟨by rfl, rfl⟩) (by assumption) ?_
          simp only [Act.put, List.setIfInBounds_toArray, List.set_cons_zero, List.set_cons_succ]
          refine take_d (i := 12) (d := some 24) (v := undef) rfl rfl (by kernel_rfl) (by kernel_rfl) (by kernel_rfl) (fun _ _ _ h => h) (Or.inr ⟨by rfl, rfl⟩) (by assumption) ?_
          simp only [Act.put, List.setIfInBounds_toArray, List.set_cons_zero, List.set_cons_succ]
          refine take_d (i := 13) (d := some 25) (v := undef) rfl rfl (by kernel_rfl) (by kernel_rfl) (by kernel_rfl) (fun _ _ _ h => h) (Or.inr ⟨by rfl, rfl⟩) (by assumption) ?_
          simp only [Act.put, List.setIfInBounds_toArray, List.set_cons_zero, List.set_cons_succ]
          refine take_d (i := 14) (d := some 26) (v := undef) rfl rfl (by kernel_rfl) (by kernel_rfl) (by kernel_rfl) (fun _ _ _ h => h) (Or.inr ⟨by rfl, rfl⟩) (by assumption) ?_
          simp only [Act.put, List.setIfInBounds_toArray, List.set_cons_zero, List.set_cons_succ]
          refine take_d (i := 15) (d := some 27) (v := undef) rfl rfl (by kernel_rfl) (by kernel_rfl) (by kernel_rfl) (fun _ _ _ h => h) (Or.inr ⟨by rfl, rfl⟩) (by assumption) ?_
          simp only [Act.put, List.setIfInBounds_toArray, List.set_cons_zero, List.set_cons_succ]
          refine take_d (i := 16) (d := some 28) (v := ?_) rfl rfl (by kernel_rfl) (by kernel_rfl) (by kernel_rfl) (fun _ _ _ h => h) (Or.inl ⟨by rfl, ?_⟩) (by assumption) ?_
          rotate_left
          · (intro w hSw; (try dsimp only at hSw); go_simp; (try (with_reducible rfl)))
          simp only [Act.put, List.setIfInBounds_toArray, List.set_cons_zero, List.set_cons_succ]
          refine take_d (i := 17) (d := some 29) (v := ?_) rfl rfl (by kernel_rfl) (by kernel_rfl) (by kernel_rfl) (fun _ _ _ h => h) (Or.inl ⟨by rfl, ?_⟩) (by assumption) ?_
          rotate_left
          · (intro w hSw; (try dsimp only at hSw); go_simp; (try (with_reducible rfl)))
          simp only [Act.put, List.setIfInBounds_toArray, List.set_cons_zero, List.set_cons_succ]
          refine wpAnyH_done (by kernel_rfl) ?_ _
          refine NoPanic.normal ?_
          go_wp2_with fail
          go_roundw
          case rel => exact ⟨1, by omega, hst.out, by go_num, Hbl.out.trans (hacc.mono Hbl.out.size)⟩
          case measure => simp [intOf]; omega
      | succ m =>
        obtain ⟨b2, o2, A4, c4, hA', hE'⟩ := (H.out.below (hbl.mono hB)).at m (by omega)
        rw [HA.out] at hA'
        obtain ⟨rfl, rfl⟩ : b1 = b2 ∧ o1 = o2 := by simpa using hA'
        have H0 := Lib.hid (fun h => place_s xs m hlt h)
        generalize xs[m + 1] = x at *
        have hp0 := hE'.c0
        generalize xs[m] = y at *
        generalize y.num = pn at *
        subst hA
        clear hA' HA hE'
        obtain ⟨num, name, maker, year, words⟩ := x
        have HV := Lib.hid (fun wx hx hz => validEntry_any B ⟨num, name, maker, year, words⟩ A3 c3 wx hx hz hsx.out)
        obtain ⟨hbB, e0, e1, e2, e3, e4, ew⟩ := hE
        dsimp only at e0 e1 e2 e3 e4 ew
        (try dsimp only at H0)
        have hba := (Below.refl wr.heap.size wr).alloc (Nat.le_refl _) (.cells #[.int .i64 num, .string name, .string maker, .int .i64 year, .slice A3 words.length c3] 99)
        have hnw := heap_alloc_new wr (.cells #[.int .i64 num, .string name, .string maker, .int .i64 year, .slice A3 words.length c3] 99)
        have hlw : wr.heap.size < (wr.alloc (.cells #[.int .i64 num, .string name, .string maker, .int .i64 year, .slice A3 words.length c3] 99)).heap.size := by simp
        have Hnw := Lib.hid hnw
        have Hba := Lib.hid hba
        have Hbl := Lib.hid hbl
        have Hew := Lib.hid ew
        have Hp0 := Lib.hid (fun wx (hb : Below wr.heap.size wr wx) => (hb.cell (p := ⟨b1, o1 + m * 5, none⟩) hz1).trans hp0)
        clear hba hbl ew hnw
        have hpos : (0 : Int) < ((m + 1 : Nat) : Int) := by omega
        cases g : entOk ⟨num, name, maker, year, words⟩ with
        | false =>
          have hf := Lib.hid (Hbad.out (Hn.out g))
          rw [g] at HV
          clear Hbad Hst Hn g H0
          go_wp2_with fail
          obtain ⟨f0, f1, f2, f3, f4, _⟩ := blk5 Hnw.out
          have hacc : Below wr.heap.size wr (wr.alloc (.cells #[.int .i64 num, .string name, .string maker, .int .i64 year, .slice A3 words.length c3] 99)).drew := Hba.out.drew
          generalize wr.alloc (.cells #[.int .i64 num, .string name, .string maker, .int .i64 year, .slice A3 words.length c3] 99) = wn at *
          refine wp_region_noPanic ?_
          refine wp_region_held_drew (S := fun w' => w'.cell? ⟨wr.heap.size, 0, none⟩ = some (.int .i64 num) ∧ w'.cell? ⟨wr.heap.size, 1, none⟩ = some (.string name) ∧ w'.cell? ⟨wr.heap.size, 2, none⟩ = some (.string maker) ∧ w'.cell? ⟨wr.heap.size, 3, none⟩ = some (.int .i64 year) ∧ w'.cell? ⟨wr.heap.size, 4, none⟩ = some (.slice A3 words.length c3)) (by kernel_rfl) (by (try dsimp only); first | go_keep | assumption) (fun hHeld => ?_)
          refine take_d (i := 0) (d := some 12) (v := ?_) rfl rfl (by kernel_rfl) (by kernel_rfl) (by kernel_rfl) (fun _ _ _ h => h) (Or.inl ⟨by rfl, ?_⟩) (by assumption) ?_
          rotate_left
          · (intro w hSw; (try dsimp only at hSw); go_simp; (try (with_reducible rfl)))
          simp only [Act.put, List.setIfInBounds_toArray, List.set_cons_zero, List.set_cons_succ]
          refine call_d (i := 1) (d := some 13) rfl rfl (by kernel_rfl) (fun K hK => ?_)
          go_simp
          (go_at_call 98; ((with_reducible refine (HV.out _ (Hew.out.below (hacc.mono hzB)) (Nat.le_trans hzB hacc.size)).mono ?_)); rintro e wq ⟨rfl, hbq⟩; have hSq := five_at ((hbq.block _ hlw).trans Hnw.out); have hacc' := hacc.trans (hbq.mono hacc.size); clear hacc; have hacc := hacc'; clear hacc')
          (try (go_wp2_with fail))
          refine hK.out _ _ (hSq) (fun hHeld => ?_)
          clear hK K
          (try simp only [Act.put, List.setIfInBounds_toArray, List.set_cons_zero, List.set_cons_succ])
          refine take_d (i := 2) (d := some 14) (v := ?_) rfl rfl (by kernel_rfl) (by kernel_rfl) (by kernel_rfl) (fun _ _ _ h => h) (Or.inl ⟨by rfl, ?_⟩) (by assumption) ?_
          rotate_left
          · (intro w hSw; (try dsimp only at hSw); go_simp; (try (with_reducible rfl)))
          simp only [Act.put, List.setIfInBounds_toArray, List.set_cons_zero, List.set_cons_succ]
          refine take_d (i := 3) (d := some 15) (v := ?_) rfl rfl (by kernel_rfl) (by kernel_rfl) (by kernel_rfl) (fun _ _ _ h => h) (Or.inl ⟨by rfl, ?_⟩) (by assumption) ?_
          rotate_left
          · (intro w hSw; (try dsimp only at hSw); go_simp; (try (with_reducible rfl)))
          simp only [Act.put, List.setIfInBounds_toArray, List.set_cons_zero, List.set_cons_succ]
          refine take_d (i := 4) (d := some 16) (v := undef) rfl rfl (by kernel_rfl) (by kernel_rfl) (by kernel_rfl) (fun _ _ _ h => h) (Or.inr ⟨by rfl, rfl⟩) (by assumption) ?_
          simp only [Act.put, List.setIfInBounds_toArray, List.set_cons_zero, List.set_cons_succ]
          refine take_d (i := 5) (d := some 17) (v := undef) rfl rfl (by kernel_rfl) (by kernel_rfl) (by kernel_rfl) (fun _ _ _ h => h) (Or.inr ⟨by rfl, rfl⟩) (by assumption) ?_
          simp only [Act.put, List.setIfInBounds_toArray, List.set_cons_zero, List.set_cons_succ]
          refine take_d (i := 6) (d := some 18) (v := undef) rfl rfl (by kernel_rfl) (by kernel_rfl) (by kernel_rfl) (fun _ _ _ h => h) (Or.inr ⟨by rfl, rfl⟩) (by assumption) ?_
          simp only [Act.put, List.setIfInBounds_toArray, List.set_cons_zero, List.set_cons_succ]
          refine take_d (i := 7) (d := some 19) (v := undef) rfl rfl (by kernel_rfl) (by kernel_rfl) (by kernel_rfl) (fun _ _ _ h => h) (Or.inr ⟨by rfl, rfl⟩) (by assumption) ?_
          simp only [Act.put, List.setIfInBounds_toArray, List.set_cons_zero, List.set_cons_succ]
          refine take_d (i := 8) (d := some 20) (v := undef) rfl rfl (by kernel_rfl) (by kernel_rfl) (by kernel_rfl) (fun _ _ _ h => h) (Or.inr ⟨by rfl, rfl⟩) (by assumption) ?_
          simp only [Act.put, List.setIfInBounds_toArray, List.set_cons_zero, List.set_cons_succ]
          refine take_d (i := 9) (d := some 21) (v := undef) rfl rfl (by kernel_rfl) (by kernel_rfl) (by kernel_rfl) (fun _ _ _ h => h) (Or.inr ⟨by rfl, rfl⟩) (by assumption) ?_
          simp only [Act.put, List.setIfInBounds_toArray, List.set_cons_zero, List.set_cons_succ]
          refine take_d (i := 10) (d := some 22) (v := undef) rfl rfl (by kernel_rfl) (by kernel_rfl) (by kernel_rfl) (fun _ _ _ h => h) (Or.inr ⟨by rfl, rfl⟩) (by assumption) ?_
          simp only [Act.put, List.setIfInBounds_toArray, List.set_cons_zero, List.set_cons_succ]
          refine take_d (i := 11) (d := some 23) (v := undef) rfl rfl (by kernel_rfl) (by kernel_rfl) (by kernel_rfl) (fun _ _ _ h => h) (Or.inr ⟨by rfl, rfl⟩) (by assumption) ?_
          simp only [Act.put, List.setIfInBounds_toArray, List.set_cons_zero, List.set_cons_succ]
          refine take_d (i := 12) (d := some 24) (v := undef) rfl rfl (by kernel_rfl) (by kernel_rfl) (by kernel_rfl) (fun _ _ _ h => h) (Or.inr ⟨by rfl, rfl⟩) (by assumption) ?_
          simp only [Act.put, List.setIfInBounds_toArray, List.set_cons_zero, List.set_cons_succ]
          refine take_d (i := 13) (d := some 25) (v := undef) rfl rfl (by kernel_rfl) (by kernel_rfl) (by kernel_rfl) (fun _ _ _ h => h) (Or.inr ⟨by rfl, rfl⟩) (by assumption) ?_
          simp only [Act.put, List.setIfInBounds_toArray, List.set_cons_zero, List.set_cons_succ]
          refine take_d (i := 14) (d := some 26) (v := undef) rfl rfl (by kernel_rfl) (by kernel_rfl) (by kernel_rfl) (fun _ _ _ h => h) (Or.inr ⟨by rfl, rfl⟩) (by assumption) ?_
          simp only [Act.put, List.setIfInBounds_toArray, List.set_cons_zero, List.set_cons_succ]
          refine take_d (i := 15) (d := some 27) (v := undef) rfl rfl (by kernel_rfl) (by kernel_rfl) (by kernel_rfl) (fun _ _ _ h => h) (Or.inr ⟨by rfl, rfl⟩) (by assumption) ?_
          simp only [Act.put, List.setIfInBounds_toArray, List.set_cons_zero, List.set_cons_succ]
          refine take_d (i := 16) (d := some 28) (v := undef) rfl rfl (by kernel_rfl) (by kernel_rfl) (by kernel_rfl) (fun _ _ _ h => h) (Or.inr ⟨by rfl, rfl⟩) (by assumption) ?_
          simp only [Act.put, List.setIfInBounds_toArray, List.set_cons_zero, List.set_cons_succ]
          refine take_d (i := 17) (d := some 29) (v := ?_) rfl rfl (by kernel_rfl) (by kernel_rfl) (by kernel_rfl) (fun _ _ _ h => h) (Or.inl ⟨by rfl, ?_⟩) (by assumption) ?_
          rotate_left
          · (intro w hSw; (try dsimp only at hSw); go_simp; (try (with_reducible rfl)))
          simp only [Act.put, List.setIfInBounds_toArray, List.set_cons_zero, List.set_cons_succ]
          refine wpAnyH_done (by kernel_rfl) ?_ _
          refine NoPanic.normal ?_
          go_wp2_with fail
          go_ret
          rw [hf.out]; exact ⟨rfl, Hbl.out.trans (hacc.mono Hbl.out.size)⟩
        | true =>
          rw [g] at HV
          have h1 := H0.out g
          rcases Decidable.em (pn < num) with gl | gl
          · have hst := Lib.hid (Hst.out (h1.trans (decide_eq_true gl)))
            clear Hbad Hst Hn g H0 h1
            go_wp2_with fail
            obtain ⟨f0, f1, f2, f3, f4, _⟩ := blk5 Hnw.out
            have hacc : Below wr.heap.size wr (wr.alloc (.cells #[.int .i64 num, .string name, .string maker, .int .i64 year, .slice A3 words.length c3] 99)).drew := Hba.out.drew
            have hp1 := Hp0.out _ Hba.out
            generalize wr.alloc (.cells #[.int .i64 num, .string name, .string maker, .int .i64 year, .slice A3 words.length c3] 99) = wn at *
            have hm2 : (m : Int) < (xs.length : Int) := by omega
            have hm1 : IntKind.i64.wrap (m : Int) = (m : Int) := IntWalk.i64_in _ (by omega)
            refine wp_region_noPanic ?_
            refine wp_region_held_drew (S := fun w' => w'.cell? ⟨wr.heap.size, 0, none⟩ = some (.int .i64 num) ∧ w'.cell? ⟨wr.heap.size, 1, none⟩ = some (.string name) ∧ w'.cell? ⟨wr.heap.size, 2, none⟩ = some (.string maker) ∧ w'.cell? ⟨wr.heap.size, 3, none⟩ = some (.int .i64 year) ∧ w'.cell? ⟨wr.heap.size, 4, none⟩ = some (.slice A3 words.length c3) ∧ w'.cell? ⟨b1, o1 + m * 5, none⟩ = some (.int .i64 pn)) (by kernel_rfl) (by (try dsimp only); first | go_keep | assumption) (fun hHeld => ?_)
            refine take_d (i := 0) (d := some 12) (v := ?_) rfl rfl (by kernel_rfl) (by kernel_rfl) (by kernel_rfl) (fun _ _ _ h => h) (Or.inl ⟨by rfl, ?_⟩) (by assumption) ?_
            rotate_left
            · (intro w hSw; (try dsimp only at hSw); go_simp; (try (with_reducible rfl)))
            simp only [Act.put, List.setIfInBounds_toArray, List.set_cons_zero, List.set_cons_succ]
            refine call_d (i := 1) (d := some 13) rfl rfl (by kernel_rfl) (fun K hK => ?_)
            go_simp
            (go_at_call 98; ((with_reducible refine (HV.out _ (Hew.out.below (hacc.mono hzB)) (Nat.le_trans hzB hacc.size)).mono ?_)); rintro e wq ⟨rfl, hbq⟩; have hacc' := hacc.trans (hbq.mono hacc.size); have hSq := six_at ((hbq.block _ hlw).trans Hnw.out) (Hp0.out _ hacc'); clear hacc; have hacc := hacc'; clear hacc')
            (try (go_wp2_with fail))
            refine hK.out _ _ (hSq) (fun hHeld => ?_)
            clear hK K
            (try simp only [Act.put, List.setIfInBounds_toArray, List.set_cons_zero, List.set_cons_succ])
            refine take_d (i := 2) (d := some 14) (v := ?_) rfl rfl (by kernel_rfl) (by kernel_rfl) (by kernel_rfl) (fun _ _ _ h => h) (Or.inl ⟨by rfl, ?_⟩) (by assumption) ?_
            rotate_left
            · (intro w hSw; (try dsimp only at hSw); go_simp; (try (with_reducible rfl)))
            simp only [Act.put, List.setIfInBounds_toArray, List.set_cons_zero, List.set_cons_succ]
            refine take_d (i := 3) (d := some 15) (v := ?_) rfl rfl (by kernel_rfl) (by kernel_rfl) (by kernel_rfl) (fun _ _ _ h => h) (Or.inl ⟨by rfl, ?_⟩) (by assumption) ?_
            rotate_left
            · (intro w hSw; (try dsimp only at hSw); go_simp; (try (with_reducible rfl)))
            simp only [Act.put, List.setIfInBounds_toArray, List.set_cons_zero, List.set_cons_succ]
            refine take_d (i := 4) (d := some 16) (v := ?_) rfl rfl (by kernel_rfl) (by kernel_rfl) (by kernel_rfl) (fun _ _ _ h => h) (Or.inl ⟨by rfl, ?_⟩) (by assumption) ?_
            rotate_left
            · (intro w hSw; (try dsimp only at hSw); go_simp; (try (with_reducible rfl)))
            simp only [Act.put, List.setIfInBounds_toArray, List.set_cons_zero, List.set_cons_succ]
            refine take_d (i := 5) (d := some 17) (v := ?_) rfl rfl (by kernel_rfl) (by kernel_rfl) (by kernel_rfl) (fun _ _ _ h => h) (Or.inl ⟨by rfl, ?_⟩) (by assumption) ?_
            rotate_left
            · (intro w hSw; (try dsimp only at hSw); go_simp; (try (with_reducible rfl)))
            simp only [Act.put, List.setIfInBounds_toArray, List.set_cons_zero, List.set_cons_succ]
            refine take_d (i := 6) (d := some 18) (v := ?_) rfl rfl (by kernel_rfl) (by kernel_rfl) (by kernel_rfl) (fun _ _ _ h => h) (Or.inl ⟨by rfl, ?_⟩) (by assumption) ?_
            rotate_left
            · (intro w hSw; (try dsimp only at hSw); go_simp; (try (with_reducible rfl)))
            simp only [Act.put, List.setIfInBounds_toArray, List.set_cons_zero, List.set_cons_succ]
            refine take_d (i := 7) (d := some 19) (v := ?_) rfl rfl (by kernel_rfl) (by kernel_rfl) (by kernel_rfl) (fun _ _ _ h => h) (Or.inl ⟨by rfl, ?_⟩) (by assumption) ?_
            rotate_left
            · (intro w hSw; (try dsimp only at hSw); go_simp; (try (with_reducible rfl)))
            simp only [Act.put, List.setIfInBounds_toArray, List.set_cons_zero, List.set_cons_succ]
            refine take_d (i := 8) (d := some 20) (v := ?_) rfl rfl (by kernel_rfl) (by kernel_rfl) (by kernel_rfl) (fun _ _ _ h => h) (Or.inl ⟨by rfl, ?_⟩) (by assumption) ?_
            rotate_left
            · (intro w hSw; (try dsimp only at hSw); go_simp; (try (with_reducible rfl)))
            simp only [Act.put, List.setIfInBounds_toArray, List.set_cons_zero, List.set_cons_succ]
            refine take_d (i := 9) (d := some 21) (v := ?_) rfl rfl (by kernel_rfl) (by kernel_rfl) (by kernel_rfl) (fun _ _ _ h => h) (Or.inl ⟨by rfl, ?_⟩) (by assumption) ?_
            rotate_left
            · (intro w hSw; (try dsimp only at hSw); go_simp; (try (with_reducible rfl)))
            simp only [Act.put, List.setIfInBounds_toArray, List.set_cons_zero, List.set_cons_succ]
            refine take_d (i := 10) (d := some 22) (v := ?_) rfl rfl (by kernel_rfl) (by kernel_rfl) (by kernel_rfl) (fun _ _ _ h => h) (Or.inl ⟨by rfl, ?_⟩) (by assumption) ?_
            rotate_left
            · (intro w hSw; (try dsimp only at hSw); go_simp; (try (with_reducible rfl)))
            simp only [Act.put, List.setIfInBounds_toArray, List.set_cons_zero, List.set_cons_succ]
            refine take_d (i := 11) (d := some 23) (v := ?_) rfl rfl (by kernel_rfl) (by kernel_rfl) (by kernel_rfl) (fun _ _ _ h => h) (Or.inl ⟨by rfl, ?_⟩) (by assumption) ?_
            rotate_left
            · (intro w hSw; (try dsimp only at hSw); go_simp; (try (with_reducible rfl)))
            simp only [Act.put, List.setIfInBounds_toArray, List.set_cons_zero, List.set_cons_succ]
            refine take_d (i := 12) (d := some 24) (v := ?_) rfl rfl (by kernel_rfl) (by kernel_rfl) (by kernel_rfl) (fun _ _ _ h => h) (Or.inl ⟨by rfl, ?_⟩) (by assumption) ?_
            rotate_left
            · (intro w hSw; (try dsimp only at hSw); go_simp; (try (with_reducible rfl)))
            simp only [Act.put, List.setIfInBounds_toArray, List.set_cons_zero, List.set_cons_succ]
            refine take_d (i := 13) (d := some 25) (v := ?_) rfl rfl (by kernel_rfl) (by kernel_rfl) (by kernel_rfl) (fun _ _ _ h => h) (Or.inl ⟨by rfl, ?_⟩) (by assumption) ?_
            rotate_left
            · (intro w hSw; (try dsimp only at hSw); go_simp; (try (with_reducible rfl)))
            simp only [Act.put, List.setIfInBounds_toArray, List.set_cons_zero, List.set_cons_succ]
            refine take_d (i := 14) (d := some 26) (v := ?_) rfl rfl (by kernel_rfl) (by kernel_rfl) (by kernel_rfl) (fun _ _ _ h => h) (Or.inl ⟨by rfl, ?_⟩) (by assumption) ?_
            rotate_left
            · (intro w hSw; (try dsimp only at hSw); go_simp; (try (with_reducible rfl)))
            simp only [Act.put, List.setIfInBounds_toArray, List.set_cons_zero, List.set_cons_succ]
            refine take_d (i := 15) (d := some 27) (v := ?_) rfl rfl (by kernel_rfl) (by kernel_rfl) (by kernel_rfl) (fun _ _ _ h => h) (Or.inl ⟨by rfl, ?_⟩) (by assumption) ?_
            rotate_left
            · (intro w hSw; (try dsimp only at hSw); go_simp; (try (with_reducible rfl)))
            simp only [Act.put, List.setIfInBounds_toArray, List.set_cons_zero, List.set_cons_succ]
            refine take_d (i := 16) (d := some 28) (v := ?_) rfl rfl (by kernel_rfl) (by kernel_rfl) (by kernel_rfl) (fun _ _ _ h => h) (Or.inl ⟨by rfl, ?_⟩) (by assumption) ?_
            rotate_left
            · (intro w hSw; (try dsimp only at hSw); go_simp; (try (with_reducible rfl)))
            simp only [Act.put, List.setIfInBounds_toArray, List.set_cons_zero, List.set_cons_succ]
            refine take_d (i := 17) (d := some 29) (v := ?_) rfl rfl (by kernel_rfl) (by kernel_rfl) (by kernel_rfl) (fun _ _ _ h => h) (Or.inl ⟨by rfl, ?_⟩) (by assumption) ?_
            rotate_left
            · (intro w hSw; (try dsimp only at hSw); go_simp; (try (with_reducible rfl)))
            simp only [Act.put, List.setIfInBounds_toArray, List.set_cons_zero, List.set_cons_succ]
            refine wpAnyH_done (by kernel_rfl) ?_ _
            refine NoPanic.normal ?_
            clear hm1
            go_wp2_with fail
            go_roundw
            case rel => exact ⟨m + 1 + 1, by omega, hst.out, by go_num, Hbl.out.trans (hacc.mono Hbl.out.size)⟩
            case measure => simp [intOf]; omega
          · have hf := Lib.hid (Hbad.out (h1.trans (decide_eq_false gl)))
            have gl' : num ≤ pn := by omega
            clear Hbad Hst Hn g H0 h1 gl
            go_wp2_with fail
            obtain ⟨f0, f1, f2, f3, f4, _⟩ := blk5 Hnw.out
            have hacc : Below wr.heap.size wr (wr.alloc (.cells #[.int .i64 num, .string name, .string maker, .int .i64 year, .slice A3 words.length c3] 99)).drew := Hba.out.drew
            have hp1 := Hp0.out _ Hba.out
            generalize wr.alloc (.cells #[.int .i64 num, .string name, .string maker, .int .i64 year, .slice A3 words.length c3] 99) = wn at *
            have hm2 : (m : Int) < (xs.length : Int) := by omega
            have hm1 : IntKind.i64.wrap (m : Int) = (m : Int) := IntWalk.i64_in _ (by omega)
            refine wp_region_noPanic ?_
            refine wp_region_held_drew (S := fun w' => w'.cell? ⟨wr.heap.size, 0, none⟩ = some (.int .i64 num) ∧ w'.cell? ⟨wr.heap.size, 1, none⟩ = some (.string name) ∧ w'.cell? ⟨wr.heap.size, 2, none⟩ = some (.string maker) ∧ w'.cell? ⟨wr.heap.size, 3, none⟩ = some (.int .i64 year) ∧ w'.cell? ⟨wr.heap.size, 4, none⟩ = some (.slice A3 words.length c3) ∧ w'.cell? ⟨b1, o1 + m * 5, none⟩ = some (.int .i64 pn)) (by kernel_rfl) (by (try dsimp only); first | go_keep | assumption) (fun hHeld => ?_)
            refine take_d (i := 0) (d := some 12) (v := ?_) rfl rfl (by kernel_rfl) (by kernel_rfl) (by kernel_rfl) (fun _ _ _ h => h) (Or.inl ⟨by rfl, ?_⟩) (by assumption) ?_
            rotate_left
            · (intro w hSw; (try dsimp only at hSw); go_simp; (try (with_reducible rfl)))
            simp only [Act.put, List.setIfInBounds_toArray, List.set_cons_zero, List.set_cons_succ]
            refine call_d (i := 1) (d := some 13) rfl rfl (by kernel_rfl) (fun K hK => ?_)
            go_simp
            (go_at_call 98; ((with_reducible refine (HV.out _ (Hew.out.below (hacc.mono hzB)) (Nat.le_trans hzB hacc.size)).mono ?_)); rintro e wq ⟨rfl, hbq⟩; have hacc' := hacc.trans (hbq.mono hacc.size); have hSq := six_at ((hbq.block _ hlw).trans Hnw.out) (Hp0.out _ hacc'); clear hacc; have hacc := hacc'; clear hacc')
            (try (go_wp2_with fail))
            refine hK.out _ _ (hSq) (fun hHeld => ?_)
            clear hK K
            (try simp only [Act.put, List.setIfInBounds_toArray, List.set_cons_zero, List.set_cons_succ])
            refine take_d (i := 2) (d := some 14) (v := ?_) rfl rfl (by kernel_rfl) (by kernel_rfl) (by kernel_rfl) (fun _ _ _ h => h) (Or.inl ⟨by rfl, ?_⟩) (by assumption) ?_
            rotate_left
            · (intro w hSw; (try dsimp only at hSw); go_simp; (try (with_reducible rfl)))
            simp only [Act.put, List.setIfInBounds_toArray, List.set_cons_zero, List.set_cons_succ]
            refine take_d (i := 3) (d := some 15) (v := ?_) rfl rfl (by kernel_rfl) (by kernel_rfl) (by kernel_rfl) (fun _ _ _ h => h) (Or.inl ⟨by rfl, ?_⟩) (by assumption) ?_
            rotate_left
            · (intro w hSw; (try dsimp only at hSw); go_simp; (try (with_reducible rfl)))
            simp only [Act.put, List.setIfInBounds_toArray, List.set_cons_zero, List.set_cons_succ]
            refine take_d (i := 4) (d := some 16) (v := ?_) rfl rfl (by kernel_rfl) (by kernel_rfl) (by kernel_rfl) (fun _ _ _ h => h) (Or.inl ⟨by rfl, ?_⟩) (by assumption) ?_
            rotate_left
            · (intro w hSw; (try dsimp only at hSw); go_simp; (try (with_reducible rfl)))
            simp only [Act.put, List.setIfInBounds_toArray, List.set_cons_zero, List.set_cons_succ]
            refine take_d (i := 5) (d := some 17) (v := ?_) rfl rfl (by kernel_rfl) (by kernel_rfl) (by kernel_rfl) (fun _ _ _ h => h) (Or.inl ⟨by rfl, ?_⟩) (by assumption) ?_
            rotate_left
            · (intro w hSw; (try dsimp only at hSw); go_simp; (try (with_reducible rfl)))
            simp only [Act.put, List.setIfInBounds_toArray, List.set_cons_zero, List.set_cons_succ]
            refine take_d (i := 6) (d := some 18) (v := ?_) rfl rfl (by kernel_rfl) (by kernel_rfl) (by kernel_rfl) (fun _ _ _ h => h) (Or.inl ⟨by rfl, ?_⟩) (by assumption) ?_
            rotate_left
            · (intro w hSw; (try dsimp only at hSw); go_simp; (try (with_reducible rfl)))
            simp only [Act.put, List.setIfInBounds_toArray, List.set_cons_zero, List.set_cons_succ]
            refine take_d (i := 7) (d := some 19) (v := ?_) rfl rfl (by kernel_rfl) (by kernel_rfl) (by kernel_rfl) (fun _ _ _ h => h) (Or.inl ⟨by rfl, ?_⟩) (by assumption) ?_
            rotate_left
            · (intro w hSw; (try dsimp only at hSw); go_simp; (try (with_reducible rfl)))
            simp only [Act.put, List.setIfInBounds_toArray, List.set_cons_zero, List.set_cons_succ]
            refine take_d (i := 8) (d := some 20) (v := ?_) rfl rfl (by kernel_rfl) (by kernel_rfl) (by kernel_rfl) (fun _ _ _ h => h) (Or.inl ⟨by rfl, ?_⟩) (by assumption) ?_
            rotate_left
            · (intro w hSw; (try dsimp only at hSw); go_simp; (try (with_reducible rfl)))
            simp only [Act.put, List.setIfInBounds_toArray, List.set_cons_zero, List.set_cons_succ]
            refine take_d (i := 9) (d := some 21) (v := ?_) rfl rfl (by kernel_rfl) (by kernel_rfl) (by kernel_rfl) (fun _ _ _ h => h) (Or.inl ⟨by rfl, ?_⟩) (by assumption) ?_
            rotate_left
            · (intro w hSw; (try dsimp only at hSw); go_simp; (try (with_reducible rfl)))
            simp only [Act.put, List.setIfInBounds_toArray, List.set_cons_zero, List.set_cons_succ]
            refine take_d (i := 10) (d := some 22) (v := ?_) rfl rfl (by kernel_rfl) (by kernel_rfl) (by kernel_rfl) (fun _ _ _ h => h) (Or.inl ⟨by rfl, ?_⟩) (by assumption) ?_
            rotate_left
            · (intro w hSw; (try dsimp only at hSw); go_simp; (try (with_reducible rfl)))
            simp only [Act.put, List.setIfInBounds_toArray, List.set_cons_zero, List.set_cons_succ]
            refine take_d (i := 11) (d := some 23) (v := ?_) rfl rfl (by kernel_rfl) (by kernel_rfl) (by kernel_rfl) (fun _ _ _ h => h) (Or.inl ⟨by rfl, ?_⟩) (by assumption) ?_
            rotate_left
            · (intro w hSw; (try dsimp only at hSw); go_simp; (try (with_reducible rfl)))
            simp only [Act.put, List.setIfInBounds_toArray, List.set_cons_zero, List.set_cons_succ]
            refine take_d (i := 12) (d := some 24) (v := ?_) rfl rfl (by kernel_rfl) (by kernel_rfl) (by kernel_rfl) (fun _ _ _ h => h) (Or.inl ⟨by rfl, ?_⟩) (by assumption) ?_
            rotate_left
            · (intro w hSw; (try dsimp only at hSw); go_simp; (try (with_reducible rfl)))
            simp only [Act.put, List.setIfInBounds_toArray, List.set_cons_zero, List.set_cons_succ]
            refine take_d (i := 13) (d := some 25) (v := ?_) rfl rfl (by kernel_rfl) (by kernel_rfl) (by kernel_rfl) (fun _ _ _ h => h) (Or.inl ⟨by rfl, ?_⟩) (by assumption) ?_
            rotate_left
            · (intro w hSw; (try dsimp only at hSw); go_simp; (try (with_reducible rfl)))
            simp only [Act.put, List.setIfInBounds_toArray, List.set_cons_zero, List.set_cons_succ]
            refine take_d (i := 14) (d := some 26) (v := ?_) rfl rfl (by kernel_rfl) (by kernel_rfl) (by kernel_rfl) (fun _ _ _ h => h) (Or.inl ⟨by rfl, ?_⟩) (by assumption) ?_
            rotate_left
            · (intro w hSw; (try dsimp only at hSw); go_simp; (try (with_reducible rfl)))
            simp only [Act.put, List.setIfInBounds_toArray, List.set_cons_zero, List.set_cons_succ]
            refine take_d (i := 15) (d := some 27) (v := ?_) rfl rfl (by kernel_rfl) (by kernel_rfl) (by kernel_rfl) (fun _ _ _ h => h) (Or.inl ⟨by rfl, ?_⟩) (by assumption) ?_
            rotate_left
            · (intro w hSw; (try dsimp only at hSw); go_simp; (try (with_reducible rfl)))
            simp only [Act.put, List.setIfInBounds_toArray, List.set_cons_zero, List.set_cons_succ]
            refine take_d (i := 16) (d := some 28) (v := ?_) rfl rfl (by kernel_rfl) (by kernel_rfl) (by kernel_rfl) (fun _ _ _ h => h) (Or.inl ⟨by rfl, ?_⟩) (by assumption) ?_
            rotate_left
            · (intro w hSw; (try dsimp only at hSw); go_simp; (try (with_reducible rfl)))
            simp only [Act.put, List.setIfInBounds_toArray, List.set_cons_zero, List.set_cons_succ]
            refine take_d (i := 17) (d := some 29) (v := ?_) rfl rfl (by kernel_rfl) (by kernel_rfl) (by kernel_rfl) (fun _ _ _ h => h) (Or.inl ⟨by rfl, ?_⟩) (by assumption) ?_
            rotate_left
            · (intro w hSw; (try dsimp only at hSw); go_simp; (try (with_reducible rfl)))
            simp only [Act.put, List.setIfInBounds_toArray, List.set_cons_zero, List.set_cons_succ]
            refine wpAnyH_done (by kernel_rfl) ?_ _
            refine NoPanic.normal ?_
            clear hm1
            go_wp2_with fail
            go_ret
            rw [hf.out]; exact ⟨rfl, Hbl.out.trans (hacc.mono Hbl.out.size)⟩
    · have hc : chk xs.length (placeOk xs) = true := by rw [show xs.length = k by omega]; exact Hall.out
      have hf := Lib.hid (show entsOk xs = decide (xs.length ≤ 50) by unfold entsOk; rw [hc]; rfl)
      have hlt' : (xs.length : Int) ≤ (k : Int) := by omega
      clear hc
      go_wp2_with fail
      go_ret
      rw [hf.out]; exact ⟨by simp; omega, hbl⟩
end Go.Proofs.YtmheijnckmlbnaaDoor
/- Entries, part 5: the reading of an argument; the law FnExactSameEntries. -/
namespace Go.Proofs.YtmheijnckmlbnaaDoor
open Go.ChangeShapes Go.WideShapes Go.ChangeAt Go.RowKit

section
variable {H : Type} {enc : TypeId × Value → H} {P : Program} {W : World}
theorem rd_strs_cells {T E : Nat} {fuel : Nat} {cs : List Value} {x : DataW H × List MemPlace} (hT : P.underlying T = some (.slice E)) (hE : P.underlying E = some .string) (hC : P.cellsOf E = 1)
    (hf : DataW.trod enc P W 0 (fun _ => true) true fuel T cs = some x) :
    ∃ (v : Value) (zs : List ByteArray), cs = [v] ∧ Rd W W.heap.size v zs.length 1 (Proofs.YtmheijnckmlbnaaDoor.strs zs) ∧ zs.length ≤ maxLen ∧ ∀ z ∈ zs, z.size ≤ maxLen := by
  rcases open_strings hT hE hC hf with ⟨rfl, hx⟩ | ⟨a, len, cap, zs, rfl, _, hl, hm, hz, hx, hcell, hwz⟩
  · exact ⟨_, [], rfl, ⟨rfl, none, 0, rfl, fun h => by simp at h⟩, by simp [maxLen], by simp⟩
  · have hz' : zs.length = cap := by simpa using hz
    have hlen : (zs.take len).length = len := by rw [List.length_take]; omega
    refine ⟨_, zs.take len, rfl, ?_, by rw [hlen]; omega, fun z hzz => hwz z (List.mem_of_mem_take hzz)⟩
    rw [hlen]
    refine ⟨by simp [Proofs.YtmheijnckmlbnaaDoor.strs]; omega, some a, cap, rfl, fun hn => ?_⟩
    have h0 := hcell 0 (by omega)
    obtain ⟨b, off, spot⟩ := a
    have hspot : spot = none := by simpa [Addr.add] using World.cell?_spot h0
    subst hspot
    have hc : ∀ j, j < zs.length → W.cell? ⟨b, off + j, none⟩ = some (.string (zs.getD j ByteArray.empty)) := fun j hj => by rw [← Go.WideShapes.add_plain]; exact hcell j hj
    refine ⟨b, off, rfl, World.block_lt_of_cell? W _ (hc 0 (by omega)), fun i u hu => ?_⟩
    have hi : i < len := by
      have := (List.getElem?_eq_some_iff.1 hu).1
      simp [Proofs.YtmheijnckmlbnaaDoor.strs] at this; omega
    rw [hc i (by omega), ← hu]
    simp [Proofs.YtmheijnckmlbnaaDoor.strs, hi, List.getD, (show i < zs.length by omega)]
end

set_option maxRecDepth 100000 in
theorem elem_entry {H : Type} {enc : TypeId × Value → H} {W : World} (n : Nat) (cs : List Value) (y : DataW H × List MemPlace) (h : DataW.trod enc Tryd.prog W 0 (fun _ => true) true n 90 cs = some y) :
    ∃ x : Ent × Value, cs = cellsE x ∧ RdW W W.heap.size x ∧ lenE x.1 := by
  obtain ⟨xs, m, _, _, hl, hlen, hf⟩ := DataW.trod_struct Tryd.underlying90 h
  have hC : Tryd.prog.cellsOf 90 = 5 := by kernel_rfl
  rw [hC] at hl
  match cs, hl, xs, hlen with
  | [a0, a1, a2, a3, a4], _, [y0, y1, y2, y3, y4], _ =>
    have c1 : Tryd.prog.cellsOf 2 = 1 := by kernel_rfl
    have c2 : Tryd.prog.cellsOf 9 = 1 := by kernel_rfl
    have c3 : Tryd.prog.cellsOf 57 = 1 := by kernel_rfl
    have h0 := hf 0 _ rfl
    change DataW.trod enc Tryd.prog W 0 (fun _ => true) true m 2 (([a0, a1, a2, a3, a4].drop 0).take (Tryd.prog.cellsOf 2)) = some y0 at h0
    rw [c1] at h0
    have h1 := hf 1 _ rfl
    change DataW.trod enc Tryd.prog W 0 (fun _ => true) true m 9 (([a0, a1, a2, a3, a4].drop 1).take (Tryd.prog.cellsOf 9)) = some y1 at h1
    rw [c2] at h1
    have h2 := hf 2 _ rfl
    change DataW.trod enc Tryd.prog W 0 (fun _ => true) true m 9 (([a0, a1, a2, a3, a4].drop 2).take (Tryd.prog.cellsOf 9)) = some y2 at h2
    rw [c2] at h2
    have h3 := hf 3 _ rfl
    change DataW.trod enc Tryd.prog W 0 (fun _ => true) true m 2 (([a0, a1, a2, a3, a4].drop 3).take (Tryd.prog.cellsOf 2)) = some y3 at h3
    rw [c1] at h3
    have h4 := hf 4 _ rfl
    change DataW.trod enc Tryd.prog W 0 (fun _ => true) true m 57 (([a0, a1, a2, a3, a4].drop 4).take (Tryd.prog.cellsOf 57)) = some y4 at h4
    rw [c3] at h4
    obtain ⟨num, q0, _, _⟩ := DataW.trod_int Tryd.underlying2 h0
    obtain ⟨name, q1, _, w1⟩ := DataW.trod_string Tryd.underlying9 h1
    obtain ⟨maker, q2, _, w2⟩ := DataW.trod_string Tryd.underlying9 h2
    obtain ⟨year, q3, _, _⟩ := DataW.trod_int Tryd.underlying2 h3
    obtain ⟨v, words, q4, hr, hl4, hw4⟩ := rd_strs_cells Tryd.underlying57 Tryd.underlying9 c2 h4
    simp at q0 q1 q2 q3 q4
    subst q0 q1 q2 q3 q4
    exact ⟨(⟨num, name, maker, year, words⟩, a4), rfl, hr, w1, w2, hl4, hw4⟩

set_option maxRecDepth 100000 in
theorem rd_entries {H : Type} {enc : TypeId × Value → H} {W : World} {base : Nat} {r : Reach} {v : Value} {d : DataW H} {p : List MemPlace} (ok : Value.okWide Tryd.prog W r base 45 v) (h : DataW.Trod enc Tryd.prog W 0 (fun _ => true) true 45 v d p) :
    ∃ xs : List Ent, RdE W W.heap.size v xs ∧ (xs.length ≤ maxLen ∧ ∀ x ∈ xs, lenE x) := by
  obtain ⟨ys, h1, h2, h3⟩ := rd_rows (P := Tryd.prog) cellsE (fun x => RdW W W.heap.size x ∧ lenE x.1) (sz := 5) Tryd.underlying45 (by kernel_rfl) (by omega) (fun _ => rfl) elem_entry ok h
  refine ⟨ys.map (·.1), ⟨ys, rfl, by simpa using h1, fun y hy => (h3 y hy).1⟩, by simpa using h2, fun x hx => ?_⟩
  obtain ⟨y, hy, rfl⟩ := List.mem_map.1 hx
  exact (h3 y hy).2

open Go.Joins
end Go.Proofs.YtmheijnckmlbnaaDoor
