/- Names: IsName on both sides. -/
import Derived.Test.YtplpeeienpaaeaaDoorLib
import Derived.Test.YtplpeeienpaaeaaDoorBase
import Derived.Lib.SmallJoins
namespace Go.Proofs.YtplpeeienpaaeaaDoor
open Go.RowKit Go.Joins

def smC (c : Nat) : Bool := decide (97 ≤ c) && decide (c ≤ 122)
def dgC (c : Nat) : Bool := decide (48 ≤ c) && decide (c ≤ 57)
def okC (c : Nat) : Bool := smC c || dgC c || decide (c = 45)
/-- a name -/
def isNm (l : List UInt8) : Bool := match l with
  | [] => false
  | c :: t => decide (t.length < 12) && smC c.toNat && (c :: t).all fun c => okC c.toNat
theorem isNm_nil : isNm [] = false := rfl
theorem isNm_cons (c : UInt8) (t : List UInt8) : isNm (c :: t) = (decide (t.length < 12) && smC c.toNat && (c :: t).all fun c => okC c.toNat) := rfl
theorem isNm_long (l : List UInt8) (h : 12 < l.length) : isNm l = false := by
  cases l with
  | nil => rfl
  | cons c t =>
    have : ¬ t.length < 12 := by simp at h; omega
    simp [isNm, this]
theorem isNm_bad (l : List UInt8) (k : Nat) (hk : k < l.length) (h : okC l[k].toNat = false) : isNm l = false := by
  cases l with
  | nil => rfl
  | cons c t =>
    have : ((c :: t).all fun c => okC c.toNat) = false := by
      rw [List.all_eq_false]
      exact ⟨_, List.getElem_mem hk, by simp [h]⟩
    rw [isNm_cons, this, Bool.and_false]
theorem isNm_first (l : List UInt8) (hk : 0 < l.length) (h : smC l[0].toNat = false) : isNm l = false := by
  cases l with
  | nil => rfl
  | cons c t => simp at h; simp [isNm, h]
theorem isNm_yes (l : List UInt8) (hk : 0 < l.length) (hk2 : l.length ≤ 12) (h : smC l[0].toNat = true) (ha : (l.all fun c => okC c.toNat) = true) : isNm l = true := by
  cases l with
  | nil => simp at hk
  | cons c t =>
    simp only [List.length_cons] at hk2
    have : t.length < 12 := by omega
    simp at h
    rw [isNm_cons, ha, h]
    simp [this]
theorem all_step (l : List UInt8) (k : Nat) (hk : k < l.length) (h0 : ((l.take k).all fun c => okC c.toNat) = true) (h : okC l[k].toNat = true) : ((l.take (k + 1)).all fun c => okC c.toNat) = true := by
  rw [List.take_succ_eq_append_getElem hk, List.all_append, h0]
  simp [h]
theorem chr_cases (x : Nat) : (smC x = true ∧ 97 ≤ x ∧ x ≤ 122) ∨ (smC x = false ∧ dgC x = true ∧ 48 ≤ x ∧ x ≤ 57) ∨ (smC x = false ∧ dgC x = false ∧ x = 45) ∨ (smC x = false ∧ dgC x = false ∧ x ≠ 45 ∧ x < 97) ∨ (smC x = false ∧ dgC x = false ∧ x ≠ 45 ∧ 122 < x) := by
  simp only [smC, dgC, Bool.and_eq_true, Bool.and_eq_false_iff, decide_eq_true_eq, decide_eq_false_iff_not]
  omega

theorem isDigit_any (x : Nat) (w : World) :
    Calls Tryd.prog 73 #[.int .u8 (x : Int)] w fun e w' => e = .returned (.bool (dgC x)) ∧ w = w' := by
  by_cases h1 : 48 ≤ x
  · by_cases h2 : x ≤ 57
    all_goals
      have e1 := Lib.hid (show dgC x = decide (x ≤ 57) by simp [dgC, h1])
      go_enter Tryd.func73, Tryd.ntmps73
      go_wp2
      go_ret
      rw [e1.out]; simp [h2] <;> omega
  · have e1 := Lib.hid (show dgC x = false by simp [dgC, h1])
    have h1' : (x : Int) < 48 := by omega
    go_enter Tryd.func73, Tryd.ntmps73
    go_wp2
    go_ret
    rw [e1.out]; exact ⟨rfl, rfl⟩
theorem l01Small_any (x : Nat) (w : World) :
    Calls Tryd.prog 71 #[.int .u8 (x : Int)] w fun e w' => e = .returned (.bool (smC x)) ∧ w = w' := by
  by_cases h1 : 97 ≤ x
  · by_cases h2 : x ≤ 122
    all_goals
      have e1 := Lib.hid (show smC x = decide (x ≤ 122) by simp [smC, h1])
      go_enter Tryd.func71, Tryd.ntmps71
      go_wp2
      go_ret
      rw [e1.out]; simp [h2] <;> omega
  · have e1 := Lib.hid (show smC x = false by simp [smC, h1])
    have h1' : (x : Int) < 97 := by omega
    go_enter Tryd.func71, Tryd.ntmps71
    go_wp2
    go_ret
    rw [e1.out]; exact ⟨rfl, rfl⟩
theorem l01Digit_any (x : Nat) (w : World) :
    Calls Tryd.prog 72 #[.int .u8 (x : Int)] w fun e w' => e = .returned (.bool (dgC x)) ∧ w = w' := by
  by_cases h1 : 48 ≤ x
  · by_cases h2 : x ≤ 57
    all_goals
      have e1 := Lib.hid (show dgC x = decide (x ≤ 57) by simp [dgC, h1])
      go_enter Tryd.func72, Tryd.ntmps72
      go_wp2
      go_ret
      rw [e1.out]; simp [h2] <;> omega
  · have e1 := Lib.hid (show dgC x = false by simp [dgC, h1])
    have h1' : (x : Int) < 48 := by omega
    go_enter Tryd.func72, Tryd.ntmps72
    go_wp2
    go_ret
    rw [e1.out]; exact ⟨rfl, rfl⟩
end Go.Proofs.YtplpeeienpaaeaaDoor
