/- Loans, part 10: valid lists of loans, in plain words; the reference's side. -/
import Derived.Test.YtplpeeienpaaeaaDoorLo9
import Derived.Test.YtplpeeienpaaeaaDoorEn8
namespace Go.Proofs.YtplpeeienpaaeaaDoor
open Go.RowKit Go.Joins

def noLn : Ln := ⟨⟨#[]⟩, ⟨#[]⟩, 0, 0⟩
def atL (xs : List Ln) (k : Nat) : Ln := xs.getD k noLn
theorem atL_at (xs : List Ln) (k : Nat) (hk : k < xs.length) : atL xs k = xs[k] := by simp [atL, List.getD, hk]
def freeS (xs : List Ln) (i k : Nat) : Bool := !clash (atL xs k) (atL xs i)
def freeI (xs : List Ln) (i k : Nat) : Bool := !clash (atL xs i) (atL xs k)
def placeS (xs : List Ln) (i : Nat) : Bool := loanOk (atL xs i) && (decide (i = 0) || before (atL xs (i - 1)) (atL xs i)) && chk i (freeS xs i)
def placeI (xs : List Ln) (i : Nat) : Bool := loanOk (atL xs i) && (decide (i = 0) || !before (atL xs i) (atL xs (i - 1))) && chk i (freeI xs i)
def loansOk (xs : List Ln) : Bool := chk xs.length (placeS xs) && decide (xs.length ≤ 60)
def loansOkI (xs : List Ln) : Bool := chk xs.length (placeI xs) && decide (xs.length ≤ 60)
theorem RdL.atD {w : World} {B n c : Nat} {A : Option Addr} {xs : List Ln} (h : RdL w B (.slice A n c) xs) (k : Nat) (hk : k < xs.length) :
    ∃ b off, A = some ⟨b, off, none⟩ ∧ LnAt w B b (off + k * 4) (atL xs k) := by rw [atL_at xs k hk]; exact h.at k hk
theorem chk_succ (f : Nat → Bool) (n : Nat) : chk (n + 1) f = (chk n f && f n) := by
  unfold chk; rw [List.range_succ, List.all_append]; simp
theorem chk_get {f : Nat → Bool} {n k : Nat} (h : chk n f = true) (hk : k < n) : f k = true := by
  unfold chk at h
  exact List.all_eq_true.1 h k (List.mem_range.2 hk)
theorem clash_comm (x y : Ln) : clash x y = clash y x := by
  unfold clash
  rw [Bool.eq_iff_iff]
  simp only [Bool.and_eq_true, decide_eq_true_eq]
  constructor
  · rintro ⟨⟨h1, h2⟩, h3⟩; exact ⟨⟨h1.symm, h3⟩, h2⟩
  · rintro ⟨⟨h1, h2⟩, h3⟩; exact ⟨⟨h1.symm, h3⟩, h2⟩
theorem free_eq (xs : List Ln) (i : Nat) : freeI xs i = freeS xs i := by
  funext k; unfold freeI freeS; rw [clash_comm]
theorem loanOk_le {x : Ln} (h : loanOk x = true) : x.from_ ≤ x.till := by
  unfold loanOk at h
  simp only [Bool.and_eq_true, decide_eq_true_eq] at h
  exact h.2
theorem less_tri {a b : ByteArray} (h : a ≠ b) : lessS a b = !lessS b a := by
  have h1 := bl_tot a.toList b.toList
  have h2 : (b.toList == a.toList) = false := beq_eq_false_iff_ne.2 fun e => h (ba_inj e).symm
  rw [h2, Bool.or_false] at h1
  exact h1
theorem before_flip {x y : Ln} (hx : loanOk x = true) (hy : loanOk y = true) (hc : clash x y = false) : before x y = !before y x := by
  have h1 := loanOk_le hx
  have h2 := loanOk_le hy
  unfold before
  rcases Int.lt_trichotomy x.from_ y.from_ with h | h | h
  · have h3 : ¬ y.from_ < x.from_ := by omega
    have h4 : ¬ y.from_ = x.from_ := by omega
    simp [h, h3, h4]
  · have hw : x.what ≠ y.what := fun e => by
      unfold clash at hc
      rw [e] at hc
      simp at hc
      omega
    have := less_tri hw
    simp [h, this]
  · have h3 : ¬ x.from_ < y.from_ := by omega
    have h4 : ¬ x.from_ = y.from_ := by omega
    simp [h, h3, h4]
theorem place_eq (xs : List Ln) : ∀ n, chk n (placeI xs) = chk n (placeS xs)
  | 0 => rfl
  | n + 1 => by
    rw [chk_succ, chk_succ, place_eq xs n]
    cases hn : chk n (placeS xs) with
    | false => rfl
    | true =>
      simp only [Bool.true_and]
      unfold placeI placeS
      rw [free_eq]
      cases h1 : loanOk (atL xs n) with
      | false => rfl
      | true =>
        cases h2 : chk n (freeS xs n) with
        | false => simp
        | true =>
          rcases Nat.eq_zero_or_pos n with h0 | h0
          · subst h0; rfl
          · have h3 := chk_get hn (show n - 1 < n by omega)
            unfold placeS at h3
            simp only [Bool.and_eq_true] at h3
            have h4 : freeS xs n (n - 1) = true := chk_get h2 (by omega)
            unfold freeS at h4
            rw [before_flip h3.1.1 h1 (by simpa using h4)]
theorem loansOk_eq (xs : List Ln) : loansOkI xs = loansOk xs := by unfold loansOkI loansOk; rw [place_eq]
theorem loans_no {xs : List Ln} (k : Nat) (hk : k < xs.length) (h : placeS xs k = false) : loansOk xs = false := by unfold loansOk; rw [chk_bad k hk h]; rfl
theorem place_1 {xs : List Ln} {k : Nat} (hk : k < xs.length) (h : loanOk xs[k] = false) : placeS xs k = false := by unfold placeS; rw [atL_at xs k hk, h]; rfl
theorem place_2 {xs : List Ln} {k m : Nat} (hk : k < xs.length) (hm : m + 1 = k) (h : before (atL xs m) xs[k] = false) : placeS xs k = false := by
  unfold placeS; rw [atL_at xs k hk, show k - 1 = m by omega, h, decide_eq_false (by omega)]; simp
theorem place_3 {xs : List Ln} {k j : Nat} (hk : k < xs.length) (hj : j < k) (h : clash (atL xs j) xs[k] = true) : placeS xs k = false := by
  have : freeS xs k j = false := by unfold freeS; rw [atL_at xs k hk, h]; rfl
  unfold placeS; rw [chk_bad j hj this]; simp
theorem place_4 {xs : List Ln} {k : Nat} (hk : k < xs.length) (h1 : loanOk xs[k] = true) (h2 : k = 0 ∨ ∃ m, m + 1 = k ∧ before (atL xs m) xs[k] = true) (h : chk k (freeS xs k) = true) : placeS xs k = true := by
  unfold placeS
  rw [atL_at xs k hk, h1, h]
  rcases h2 with rfl | ⟨m, hm, h2⟩
  · rfl
  · rw [show k - 1 = m by omega, h2]; simp
theorem free_step {xs : List Ln} {k j : Nat} (hk : k < xs.length) (h : clash (atL xs j) xs[k] = false) : freeS xs k j = true := by
  unfold freeS; rw [atL_at xs k hk, h]; rfl

/-- what a round meets at place k -/
theorem round_cases (xs : List Ln) (k : Nat) (hk : k < xs.length) : (loanOk xs[k] = false ∧ loansOk xs = false) ∨ (loanOk xs[k] = true ∧ k = 0) ∨
    ∃ m, m + 1 = k ∧ loanOk xs[k] = true ∧ ((before (atL xs m) xs[k] = false ∧ loansOk xs = false) ∨ before (atL xs m) xs[k] = true) := by
  cases h : loanOk xs[k] with
  | false => exact .inl ⟨rfl, loans_no k hk (place_1 hk h)⟩
  | true =>
    rcases Nat.eq_zero_or_pos k with h0 | h0
    · exact .inr (.inl ⟨rfl, h0⟩)
    · refine .inr (.inr ⟨k - 1, by omega, rfl, ?_⟩)
      cases hb : before (atL xs (k - 1)) xs[k] with
      | false => exact .inl ⟨rfl, loans_no k hk (place_2 hk (by omega) hb)⟩
      | true => exact .inr rfl

set_option maxRecDepth 100000 in
set_option maxHeartbeats 6400000 in
theorem l23Ok_any (B : Nat) (v : Value) (xs : List Ln) (w : World) (h : RdL w B v xs) (hl : xs.length ≤ 1048576) (hsm : ∀ x ∈ xs, smL x) :
    Calls Tryd.prog 26 #[v] w fun e w' => e = .returned (.bool (loansOk xs)) ∧ ∃ n, w' = w.drewN n := by
  have H := Lib.hid h
  have Hsm := Lib.hid hsm
  obtain ⟨A, c, rfl⟩ := h.slice
  clear h hsm
  go_enter Tryd.func26, Tryd.ntmps26
  go_wp2_with fail
  go_loopw [3] (fun i wr => ∃ k m0 : Nat, k ≤ xs.length ∧ chk k (placeS xs) = true ∧ i = .int .i64 k ∧ wr = w.drewN m0) (fun i _ => xs.length - (intOf i).toNat)
  case atStart => exact ⟨0, 0, Nat.zero_le _, rfl, rfl, rfl⟩
  case round =>
    obtain ⟨k, m0, hk, hall, rfl, hwr⟩ := hrel
    have Hall := Lib.hid hall; clear hall
    have Hw := Lib.hid (fun n => (show wr.drewN n = w.drewN (m0 + n) by rw [hwr, World.drewN_drewN]))
    have Hw0 := Lib.hid hwr
    have Hr : Hid (RdL wr B (.slice A xs.length c) xs) := Lib.hid (by rw [hwr]; exact H.out.drewN m0)
    clear hwr
    obtain ⟨w1, rfl⟩ : ∃ x, x = wr := ⟨_, rfl⟩
    by_cases hlt : k < xs.length
    · obtain ⟨b1, o1, hA, hE⟩ := Hr.out.at k hlt
      have hlt' : (k : Int) < (xs.length : Int) := by omega
      have Hst := Lib.hid (fun h => chk_step (f := placeS xs) (k := k) Hall.out h)
      have hsx := Hsm.out xs[k] (List.getElem_mem hlt)
      have HE := Lib.hid hE
      have HO := Lib.hid (fun n => l23One_any B b1 (o1 + k * 4) xs[k] (w1.drewN n) (hE.drewN n) hsx)
      have HA := Lib.hid hA
      subst hA
      clear hE
      rcases round_cases xs k hlt with ⟨g, hf⟩ | ⟨g, h0⟩ | ⟨m, hm, g, ⟨gb, hf⟩ | gb⟩
      · have Hf := Lib.hid hf; clear hf
        rw [g] at HO
        clear g Hst
        go_wp2_with fail
        go_quiet ((go_at_call 45; exact Calls.quiet_of (HO.out _)))
        go_wp2_with fail
        go_ret
        rw [Hf.out]; exact ⟨rfl, _, Hw.out _⟩
      · have Hg := Lib.hid g
        have Hg2 := Lib.hid (show k = 0 ∨ ∃ m, m + 1 = k ∧ before (atL xs m) xs[k] = true from .inl h0)
        have hk0 : decide (0 < k) = false := decide_eq_false (by omega)
        rw [g] at HO
        clear g h0
        go_wp2_with fail
        go_quiet ((go_at_call 45; exact Calls.quiet_of (HO.out _)))
        go_wp2_with fail
        go_loopw [4] (fun j wy => ∃ j0 m2 : Nat, j0 ≤ k ∧ chk j0 (freeS xs k) = true ∧ j = .int .i64 j0 ∧ wy = w1.drewN m2) (fun j _ => k - (intOf j).toNat)
        case atStart => exact ⟨0, _, Nat.zero_le _, rfl, rfl, rfl⟩
        case round =>
          obtain ⟨j0, m2, hj, hall2, rfl, hwy⟩ := hrel
          have Hall2 := Lib.hid hall2; clear hall2
          have Hw2 := Lib.hid (fun n => (show wr.drewN n = w.drewN (m0 + (m2 + n)) by rw [hwy, World.drewN_drewN]; exact Hw.out _))
          have HwI := Lib.hid (fun n => (show wr.drewN n = w1.drewN (m2 + n) by rw [hwy, World.drewN_drewN]))
          have Hw20 := Lib.hid (hwy.trans (Hw.out m2))
          have Hr2 : Hid (RdL wr B (.slice (some ⟨b1, o1, none⟩) xs.length c) xs) := Lib.hid (by rw [hwy]; exact Hr.out.drewN m2)
          clear hwy
          by_cases hlt2 : j0 < k
          · obtain ⟨b2, o2, hA2, hE2⟩ := Hr2.out.atD j0 (by omega)
            obtain ⟨b3, o3, hA3, hE3⟩ := Hr2.out.at k hlt
            obtain ⟨rfl, rfl⟩ : b1 = b2 ∧ o1 = o2 := by simpa using hA2
            obtain ⟨rfl, rfl⟩ : b1 = b3 ∧ o1 = o3 := by simpa using hA3
            clear hA2 hA3
            have hlt2' : (j0 : Int) < (k : Int) := by omega
            have hlt3' : (j0 : Int) < (xs.length : Int) := by omega
            have HC := Lib.hid (fun n => l23Clash_any B B b1 (o1 + j0 * 4) b1 (o1 + k * 4) (atL xs j0) xs[k] (wr.drewN n) (hE2.drewN n) (hE3.drewN n))
            clear hE2 hE3
            cases gc : clash (atL xs j0) xs[k] with
            | true =>
              have Hf := Lib.hid (loans_no k hlt (place_3 hlt hlt2 gc))
              rw [gc] at HC
              clear gc
              go_wp2_with fail
              go_quiet ((go_at_call 47; exact Calls.quiet_of (HC.out _)))
              go_wp2_with fail
              go_ret
              rw [Hf.out]; exact ⟨rfl, _, Hw2.out _⟩
            | false =>
              have Hst2 := Lib.hid (chk_step Hall2.out (free_step hlt gc))
              rw [gc] at HC
              clear gc
              go_wp2_with fail
              go_quiet ((go_at_call 47; exact Calls.quiet_of (HC.out _)))
              go_wp2_with fail
              go_roundw
              case rel => exact ⟨j0 + 1, _, by omega, Hst2.out, by go_num, HwI.out _⟩
              case measure => simp [intOf]; omega
          · obtain rfl : j0 = k := by omega
            have Hst2 := Lib.hid (Hst.out (place_4 hlt Hg.out Hg2.out Hall2.out))
            go_wp2_with fail
            go_roundw
            case rel => exact ⟨j0 + 1, _, by omega, Hst2.out, by go_num, Hw20.out⟩
            case measure => simp [intOf]; omega
      · have Hf := Lib.hid hf; clear hf
        obtain ⟨b2, o2, hA2, hE2⟩ := Hr.out.atD m (by omega)
        obtain ⟨rfl, rfl⟩ : b1 = b2 ∧ o1 = o2 := by simpa using hA2
        clear hA2
        have HB := Lib.hid (fun n => l23Before_any B B b1 (o1 + m * 4) b1 (o1 + k * 4) (atL xs m) xs[k] (w1.drewN n) (hE2.drewN n) (HE.out.drewN n))
        rw [gb] at HB
        rw [g] at HO
        have hk0 : decide (0 < k) = true := decide_eq_true (by omega)
        have hm1 : IntKind.i64.wrap ((k : Int) - 1) = (m : Int) := by rw [IntWalk.i64_in _ (by omega)]; omega
        have hm2 : (m : Int) < (xs.length : Int) := by omega
        have Hm := Lib.hid hm
        clear g gb hE2 hm
        go_wp2_with fail
        go_quiet ((first | (go_at_call 45; exact Calls.quiet_of (HO.out _)) | (go_at_call 46; exact Calls.quiet_of (HB.out _))))
        clear hm1
        go_wp2_with fail
        go_ret
        rw [Hf.out]; exact ⟨rfl, _, Hw.out _⟩
      · have Hg := Lib.hid g
        have Hg2 := Lib.hid (show k = 0 ∨ ∃ m, m + 1 = k ∧ before (atL xs m) xs[k] = true from .inr ⟨m, hm, gb⟩)
        obtain ⟨b2, o2, hA2, hE2⟩ := Hr.out.atD m (by omega)
        obtain ⟨rfl, rfl⟩ : b1 = b2 ∧ o1 = o2 := by simpa using hA2
        clear hA2
        have HB := Lib.hid (fun n => l23Before_any B B b1 (o1 + m * 4) b1 (o1 + k * 4) (atL xs m) xs[k] (w1.drewN n) (hE2.drewN n) (HE.out.drewN n))
        rw [gb] at HB
        rw [g] at HO
        have hk0 : decide (0 < k) = true := decide_eq_true (by omega)
        have hm1 : IntKind.i64.wrap ((k : Int) - 1) = (m : Int) := by rw [IntWalk.i64_in _ (by omega)]; omega
        have hm2 : (m : Int) < (xs.length : Int) := by omega
        have Hm := Lib.hid hm
        clear g gb hE2 hm
        go_wp2_with fail
        go_quiet ((first | (go_at_call 45; exact Calls.quiet_of (HO.out _)) | (go_at_call 46; exact Calls.quiet_of (HB.out _))))
        clear hm1
        go_wp2_with fail
        go_loopw [4] (fun j wy => ∃ j0 m2 : Nat, j0 ≤ k ∧ chk j0 (freeS xs k) = true ∧ j = .int .i64 j0 ∧ wy = w1.drewN m2) (fun j _ => k - (intOf j).toNat)
        case atStart => exact ⟨0, _, Nat.zero_le _, rfl, rfl, rfl⟩
        case round =>
          obtain ⟨j0, m2, hj, hall2, rfl, hwy⟩ := hrel
          have Hall2 := Lib.hid hall2; clear hall2
          have Hw2 := Lib.hid (fun n => (show wr.drewN n = w.drewN (m0 + (m2 + n)) by rw [hwy, World.drewN_drewN]; exact Hw.out _))
          have HwI := Lib.hid (fun n => (show wr.drewN n = w1.drewN (m2 + n) by rw [hwy, World.drewN_drewN]))
          have Hw20 := Lib.hid (hwy.trans (Hw.out m2))
          have Hr2 : Hid (RdL wr B (.slice (some ⟨b1, o1, none⟩) xs.length c) xs) := Lib.hid (by rw [hwy]; exact Hr.out.drewN m2)
          clear hwy
          by_cases hlt2 : j0 < k
          · obtain ⟨b2, o2, hA2, hE2⟩ := Hr2.out.atD j0 (by omega)
            obtain ⟨b3, o3, hA3, hE3⟩ := Hr2.out.at k hlt
            obtain ⟨rfl, rfl⟩ : b1 = b2 ∧ o1 = o2 := by simpa using hA2
            obtain ⟨rfl, rfl⟩ : b1 = b3 ∧ o1 = o3 := by simpa using hA3
            clear hA2 hA3
            have hlt2' : (j0 : Int) < (k : Int) := by omega
            have hlt3' : (j0 : Int) < (xs.length : Int) := by omega
            have HC := Lib.hid (fun n => l23Clash_any B B b1 (o1 + j0 * 4) b1 (o1 + k * 4) (atL xs j0) xs[k] (wr.drewN n) (hE2.drewN n) (hE3.drewN n))
            clear hE2 hE3
            cases gc : clash (atL xs j0) xs[k] with
            | true =>
              have Hf := Lib.hid (loans_no k hlt (place_3 hlt hlt2 gc))
              rw [gc] at HC
              clear gc
              go_wp2_with fail
              go_quiet ((go_at_call 47; exact Calls.quiet_of (HC.out _)))
              go_wp2_with fail
              go_ret
              rw [Hf.out]; exact ⟨rfl, _, Hw2.out _⟩
            | false =>
              have Hst2 := Lib.hid (chk_step Hall2.out (free_step hlt gc))
              rw [gc] at HC
              clear gc
              go_wp2_with fail
              go_quiet ((go_at_call 47; exact Calls.quiet_of (HC.out _)))
              go_wp2_with fail
              go_roundw
              case rel => exact ⟨j0 + 1, _, by omega, Hst2.out, by go_num, HwI.out _⟩
              case measure => simp [intOf]; omega
          · obtain rfl : j0 = k := by omega
            have Hst2 := Lib.hid (Hst.out (place_4 hlt Hg.out Hg2.out Hall2.out))
            go_wp2_with fail
            go_roundw
            case rel => exact ⟨j0 + 1, _, by omega, Hst2.out, by go_num, Hw20.out⟩
            case measure => simp [intOf]; omega
    · have hc : chk xs.length (placeS xs) = true := by rw [show xs.length = k by omega]; exact Hall.out
      have hf := Lib.hid (show loansOk xs = decide (xs.length ≤ 60) by unfold loansOk; rw [hc]; rfl)
      have hlt' : (xs.length : Int) ≤ (k : Int) := by omega
      clear hc
      go_wp2_with fail
      go_ret
      rw [hf.out]; exact ⟨by simp; omega, _, Hw0.out⟩
end Go.Proofs.YtplpeeienpaaeaaDoor
