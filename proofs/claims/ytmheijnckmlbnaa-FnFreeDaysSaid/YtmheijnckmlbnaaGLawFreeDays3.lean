/- Merged texts: Lo10, Lo11, Lib4, Lo12, Lo13, Lo14. -/
import Derived.Test.YtmheijnckmlbnaaGLawFreeDays2
import Derived.Deep.RegionLaw
/- Loans, part 10: valid lists of loans, in plain words; the reference's side. -/
namespace Go.Proofs.Ytmheijnckmlbnaa
open Go.RowKit Go.Joins

def noLn : Ln := ⟨⟨#[]⟩, ⟨#[]⟩, 0, 0⟩
def atL (xs : List Ln) (k : Nat) : Ln := xs.getD k noLn
theorem atL_at (xs : List Ln) (k : Nat) (hk : k < xs.length) : atL xs k = xs[k] := by simp [atL, List.getD, hk]
def freeS (xs : List Ln) (i k : Nat) : Bool := !clash (atL xs k) (atL xs i)
def freeI (xs : List Ln) (i k : Nat) : Bool := !clash (atL xs i) (atL xs k)
def placeS (xs : List Ln) (i : Nat) : Bool := loanOk (atL xs i) && (decide (i = 0) || before (atL xs (i - 1)) (atL xs i)) && chk i (freeS xs i)
def placeI (xs : List Ln) (i : Nat) : Bool := loanOk (atL xs i) && (decide (i = 0) || !before (atL xs i) (atL xs (i - 1))) && chk i (freeI xs i)
def loansOk (xs : List Ln) : Bool := chk xs.length (placeS xs) && decide (xs.length ≤ 60)
def loansOkI (xs : List Ln) : Bool := chk xs.length (placeI xs) && decide (xs.length ≤ 60)
theorem RdL.atD {w : World} {B n c : Nat} {A : Option Addr} {xs : List Ln} (h : RdL w B (.slice A n c) xs) (k : Nat) (hk : k < xs.length) :
    ∃ b off, A = some ⟨b, off, none⟩ ∧ LnAt w B b (off + k * 4) (atL xs k) := by rw [atL_at xs k hk]; exact h.at k hk
theorem chk_succ (f : Nat → Bool) (n : Nat) : chk (n + 1) f = (chk n f && f n) := by
  unfold chk; rw [List.range_succ, List.all_append]; simp
theorem chk_get {f : Nat → Bool} {n k : Nat} (h : chk n f = true) (hk : k < n) : f k = true := by
  unfold chk at h
  exact List.all_eq_true.1 h k (List.mem_range.2 hk)
theorem clash_comm (x y : Ln) : clash x y = clash y x := by
  unfold clash
  rw [Bool.eq_iff_iff]
  simp only [Bool.and_eq_true, decide_eq_true_eq]
  constructor
  · rintro ⟨⟨h1, h2⟩, h3⟩; exact ⟨⟨h1.symm, h3⟩, h2⟩
  · rintro ⟨⟨h1, h2⟩, h3⟩; exact ⟨⟨h1.symm, h3⟩, h2⟩
theorem free_eq (xs : List Ln) (i : Nat) : freeI xs i = freeS xs i := by
  funext k; unfold freeI freeS; rw [clash_comm]
theorem loanOk_le {x : Ln} (h : loanOk x = true) : x.from_ ≤ x.till := by
  unfold loanOk at h
  simp only [Bool.and_eq_true, decide_eq_true_eq] at h
  exact h.2
theorem less_tri {a b : ByteArray} (h : a ≠ b) : lessS a b = !lessS b a := by
  have h1 := bl_tot a.toList b.toList
  have h2 : (b.toList == a.toList) = false := beq_eq_false_iff_ne.2 fun e => h (ba_inj e).symm
  rw [h2, Bool.or_false] at h1
  exact h1
theorem before_flip {x y : Ln} (hx : loanOk x = true) (hy : loanOk y = true) (hc : clash x y = false) : before x y = !before y x := by
  have h1 := loanOk_le hx
  have h2 := loanOk_le hy
  unfold before
  rcases Int.lt_trichotomy x.from_ y.from_ with h | h | h
  · have h3 : ¬ y.from_ < x.from_ := by omega
    have h4 : ¬ y.from_ = x.from_ := by omega
    simp [h, h3, h4]
  · have hw : x.what ≠ y.what := fun e => by
      unfold clash at hc
      rw [e] at hc
      simp at hc
      omega
    have := less_tri hw
    simp [h, this]
  · have h3 : ¬ x.from_ < y.from_ := by omega
    have h4 : ¬ x.from_ = y.from_ := by omega
    simp [h, h3, h4]
theorem place_eq (xs : List Ln) : ∀ n, chk n (placeI xs) = chk n (placeS xs)
  | 0 => rfl
  | n + 1 => by
    rw [chk_succ, chk_succ, place_eq xs n]
    cases hn : chk n (placeS xs) with
    | false => rfl
    | true =>
      simp only [Bool.true_and]
      unfold placeI placeS
      rw [free_eq]
      cases h1 : loanOk (atL xs n) with
      | false => rfl
      | true =>
        cases h2 : chk n (freeS xs n) with
        | false => simp
        | true =>
          rcases Nat.eq_zero_or_pos n with h0 | h0
          · subst h0; rfl
          · have h3 := chk_get hn (show n - 1 < n by omega)
            unfold placeS at h3
            simp only [Bool.and_eq_true] at h3
            have h4 : freeS xs n (n - 1) = true := chk_get h2 (by omega)
            unfold freeS at h4
            rw [before_flip h3.1.1 h1 (by simpa using h4)]
theorem loansOk_eq (xs : List Ln) : loansOkI xs = loansOk xs := by unfold loansOkI loansOk; rw [place_eq]
theorem loans_no {xs : List Ln} (k : Nat) (hk : k < xs.length) (h : placeS xs k = false) : loansOk xs = false := by unfold loansOk; rw [chk_bad k hk h]; rfl
theorem place_1 {xs : List Ln} {k : Nat} (hk : k < xs.length) (h : loanOk xs[k] = false) : placeS xs k = false := by unfold placeS; rw [atL_at xs k hk, h]; rfl
theorem place_2 {xs : List Ln} {k m : Nat} (hk : k < xs.length) (hm : m + 1 = k) (h : before (atL xs m) xs[k] = false) : placeS xs k = false := by
  unfold placeS; rw [atL_at xs k hk, show k - 1 = m by omega, h, decide_eq_false (by omega)]; simp
theorem place_3 {xs : List Ln} {k j : Nat} (hk : k < xs.length) (hj : j < k) (h : clash (atL xs j) xs[k] = true) : placeS xs k = false := by
  have : freeS xs k j = false := by unfold freeS; rw [atL_at xs k hk, h]; rfl
  unfold placeS; rw [chk_bad j hj this]; simp
theorem place_4 {xs : List Ln} {k : Nat} (hk : k < xs.length) (h1 : loanOk xs[k] = true) (h2 : k = 0 ∨ ∃ m, m + 1 = k ∧ before (atL xs m) xs[k] = true) (h : chk k (freeS xs k) = true) : placeS xs k = true := by
  unfold placeS
  rw [atL_at xs k hk, h1, h]
  rcases h2 with rfl | ⟨m, hm, h2⟩
  · rfl
  · rw [show k - 1 = m by omega, h2]; simp
theorem free_step {xs : List Ln} {k j : Nat} (hk : k < xs.length) (h : clash (atL xs j) xs[k] = false) : freeS xs k j = true := by
  unfold freeS; rw [atL_at xs k hk, h]; rfl

/-- what a round meets at place k -/
theorem round_cases (xs : List Ln) (k : Nat) (hk : k < xs.length) : (loanOk xs[k] = false ∧ loansOk xs = false) ∨ (loanOk xs[k] = true ∧ k = 0) ∨
    ∃ m, m + 1 = k ∧ loanOk xs[k] = true ∧ ((before (atL xs m) xs[k] = false ∧ loansOk xs = false) ∨ before (atL xs m) xs[k] = true) := by
  cases h : loanOk xs[k] with
  | false => exact .inl ⟨rfl, loans_no k hk (place_1 hk h)⟩
  | true =>
    rcases Nat.eq_zero_or_pos k with h0 | h0
    · exact .inr (.inl ⟨rfl, h0⟩)
    · refine .inr (.inr ⟨k - 1, by omega, rfl, ?_⟩)
      cases hb : before (atL xs (k - 1)) xs[k] with
      | false => exact .inl ⟨rfl, loans_no k hk (place_2 hk (by omega) hb)⟩
      | true => exact .inr rfl

set_option maxRecDepth 100000 in
set_option maxHeartbeats 6400000 in
theorem l23Ok_any (B : Nat) (v : Value) (xs : List Ln) (w : World) (h : RdL w B v xs) (hl : xs.length ≤ 1048576) (hsm : ∀ x ∈ xs, smL x) :
    Calls Try.prog 53 #[v] w fun e w' => e = .returned (.bool (loansOk xs)) ∧ ∃ n, w' = w.drewN n := by
  have H := Lib.hid h
  have Hsm := Lib.hid hsm
  obtain ⟨A, c, rfl⟩ := h.slice
  clear h hsm
  go_enter Try.func53, Try.ntmps53
  go_wp2_with fail
  go_loopw [3] (fun i wr => ∃ k m0 : Nat, k ≤ xs.length ∧ chk k (placeS xs) = true ∧ i = .int .i64 k ∧ wr = w.drewN m0) (fun i _ => xs.length - (intOf i).toNat)
  case atStart => exact ⟨0, 0, Nat.zero_le _, rfl, rfl, rfl⟩
  case round =>
    obtain ⟨k, m0, hk, hall, rfl, hwr⟩ := hrel
    have Hall := Lib.hid hall; clear hall
    have Hw := Lib.hid (fun n => (show wr.drewN n = w.drewN (m0 + n) by rw [hwr, World.drewN_drewN]))
    have Hw0 := Lib.hid hwr
    have Hr : Hid (RdL wr B (.slice A xs.length c) xs) := Lib.hid (by rw [hwr]; exact H.out.drewN m0)
    clear hwr
    obtain ⟨w1, rfl⟩ : ∃ x, x = wr := ⟨_, rfl⟩
    by_cases hlt : k < xs.length
    · obtain ⟨b1, o1, hA, hE⟩ := Hr.out.at k hlt
      have hlt' : (k : Int) < (xs.length : Int) := by omega
      have Hst := Lib.hid (fun h => chk_step (f := placeS xs) (k := k) Hall.out h)
      have hsx := Hsm.out xs[k] (List.getElem_mem hlt)
      have HE := Lib.hid hE
      have HO := Lib.hid (fun n => l23One_any B b1 (o1 + k * 4) xs[k] (w1.drewN n) (hE.drewN n) hsx)
      have HA := Lib.hid hA
      subst hA
      clear hE
      rcases round_cases xs k hlt with ⟨g, hf⟩ | ⟨g, h0⟩ | ⟨m, hm, g, ⟨gb, hf⟩ | gb⟩
      · have Hf := Lib.hid hf; clear hf
        rw [g] at HO
        clear g Hst
        go_wp2_with fail
        go_quiet ((go_at_call 95; exact Calls.quiet_of (HO.out _)))
        go_wp2_with fail
        go_ret
        rw [Hf.out]; exact ⟨rfl, _, Hw.out _⟩
      · have Hg := Lib.hid g
        have Hg2 := Lib.hid (show k = 0 ∨ ∃ m, m + 1 = k ∧ before (atL xs m) xs[k] = true from .inl h0)
        have hk0 : decide (0 < k) = false := decide_eq_false (by omega)
        rw [g] at HO
        clear g h0
        go_wp2_with fail
        go_quiet ((go_at_call 95; exact Calls.quiet_of (HO.out _)))
        go_wp2_with fail
        go_loopw [4] (fun j wy => ∃ j0 m2 : Nat, j0 ≤ k ∧ chk j0 (freeS xs k) = true ∧ j = .int .i64 j0 ∧ wy = w1.drewN m2) (fun j _ => k - (intOf j).toNat)
        case atStart => exact ⟨0, _, Nat.zero_le _, rfl, rfl, rfl⟩
        case round =>
          obtain ⟨j0, m2, hj, hall2, rfl, hwy⟩ := hrel
          have Hall2 := Lib.hid hall2; clear hall2
          have Hw2 := Lib.hid (fun n => (show wr.drewN n = w.drewN (m0 + (m2 + n)) by rw [hwy, World.drewN_drewN]; exact Hw.out _))
          have HwI := Lib.hid (fun n => (show wr.drewN n = w1.drewN (m2 + n) by rw [hwy, World.drewN_drewN]))
          have Hw20 := Lib.hid (hwy.trans (Hw.out m2))
          have Hr2 : Hid (RdL wr B (.slice (some ⟨b1, o1, none⟩) xs.length c) xs) := Lib.hid (by rw [hwy]; exact Hr.out.drewN m2)
          clear hwy
          by_cases hlt2 : j0 < k
          · obtain ⟨b2, o2, hA2, hE2⟩ := Hr2.out.atD j0 (by omega)
            obtain ⟨b3, o3, hA3, hE3⟩ := Hr2.out.at k hlt
            obtain ⟨rfl, rfl⟩ : b1 = b2 ∧ o1 = o2 := by simpa using hA2
            obtain ⟨rfl, rfl⟩ : b1 = b3 ∧ o1 = o3 := by simpa using hA3
            clear hA2 hA3
            have hlt2' : (j0 : Int) < (k : Int) := by omega
            have hlt3' : (j0 : Int) < (xs.length : Int) := by omega
            have HC := Lib.hid (fun n => l23Clash_any B B b1 (o1 + j0 * 4) b1 (o1 + k * 4) (atL xs j0) xs[k] (wr.drewN n) (hE2.drewN n) (hE3.drewN n))
            clear hE2 hE3
            cases gc : clash (atL xs j0) xs[k] with
            | true =>
              have Hf := Lib.hid (loans_no k hlt (place_3 hlt hlt2 gc))
              rw [gc] at HC
              clear gc
              go_wp2_with fail
              go_quiet ((go_at_call 97; exact Calls.quiet_of (HC.out _)))
              go_wp2_with fail
              go_ret
              rw [Hf.out]; exact ⟨rfl, _, Hw2.out _⟩
            | false =>
              have Hst2 := Lib.hid (chk_step Hall2.out (free_step hlt gc))
              rw [gc] at HC
              clear gc
              go_wp2_with fail
              go_quiet ((go_at_call 97; exact Calls.quiet_of (HC.out _)))
              go_wp2_with fail
              go_roundw
              case rel => exact ⟨j0 + 1, _, by omega, Hst2.out, by go_num, HwI.out _⟩
              case measure => simp [intOf]; omega
          · obtain rfl : j0 = k := by omega
            have Hst2 := Lib.hid (Hst.out (place_4 hlt Hg.out Hg2.out Hall2.out))
            go_wp2_with fail
            go_roundw
            case rel => exact ⟨j0 + 1, _, by omega, Hst2.out, by go_num, Hw20.out⟩
            case measure => simp [intOf]; omega
      · have Hf := Lib.hid hf; clear hf
        obtain ⟨b2, o2, hA2, hE2⟩ := Hr.out.atD m (by omega)
        obtain ⟨rfl, rfl⟩ : b1 = b2 ∧ o1 = o2 := by simpa using hA2
        clear hA2
        have HB := Lib.hid (fun n => l23Before_any B B b1 (o1 + m * 4) b1 (o1 + k * 4) (atL xs m) xs[k] (w1.drewN n) (hE2.drewN n) (HE.out.drewN n))
        rw [gb] at HB
        rw [g] at HO
        have hk0 : decide (0 < k) = true := decide_eq_true (by omega)
        have hm1 : IntKind.i64.wrap ((k : Int) - 1) = (m : Int) := by rw [IntWalk.i64_in _ (by omega)]; omega
        have hm2 : (m : Int) < (xs.length : Int) := by omega
        have Hm := Lib.hid hm
        clear g gb hE2 hm
        go_wp2_with fail
        go_quiet ((first | (go_at_call 95; exact Calls.quiet_of (HO.out _)) | (go_at_call 96; exact Calls.quiet_of (HB.out _))))
        clear hm1
        go_wp2_with fail
        go_ret
        rw [Hf.out]; exact ⟨rfl, _, Hw.out _⟩
      · have Hg := Lib.hid g
        have Hg2 := Lib.hid (show k = 0 ∨ ∃ m, m + 1 = k ∧ before (atL xs m) xs[k] = true from .inr ⟨m, hm, gb⟩)
        obtain ⟨b2, o2, hA2, hE2⟩ := Hr.out.atD m (by omega)
        obtain ⟨rfl, rfl⟩ : b1 = b2 ∧ o1 = o2 := by simpa using hA2
        clear hA2
        have HB := Lib.hid (fun n => l23Before_any B B b1 (o1 + m * 4) b1 (o1 + k * 4) (atL xs m) xs[k] (w1.drewN n) (hE2.drewN n) (HE.out.drewN n))
        rw [gb] at HB
        rw [g] at HO
        have hk0 : decide (0 < k) = true := decide_eq_true (by omega)
        have hm1 : IntKind.i64.wrap ((k : Int) - 1) = (m : Int) := by rw [IntWalk.i64_in _ (by omega)]; omega
        have hm2 : (m : Int) < (xs.length : Int) := by omega
        have Hm := Lib.hid hm
        clear g gb hE2 hm
        go_wp2_with fail
        go_quiet ((first | (go_at_call 95; exact Calls.quiet_of (HO.out _)) | (go_at_call 96; exact Calls.quiet_of (HB.out _))))
        clear hm1
        go_wp2_with fail
        go_loopw [4] (fun j wy => ∃ j0 m2 : Nat, j0 ≤ k ∧ chk j0 (freeS xs k) = true ∧ j = .int .i64 j0 ∧ wy = w1.drewN m2) (fun j _ => k - (intOf j).toNat)
        case atStart => exact ⟨0, _, Nat.zero_le _, rfl, rfl, rfl⟩
        case round =>
          obtain ⟨j0, m2, hj, hall2, rfl, hwy⟩ := hrel
          have Hall2 := Lib.hid hall2; clear hall2
          have Hw2 := Lib.hid (fun n => (show wr.drewN n = w.drewN (m0 + (m2 + n)) by rw [hwy, World.drewN_drewN]; exact Hw.out _))
          have HwI := Lib.hid (fun n => (show wr.drewN n = w1.drewN (m2 + n) by rw [hwy, World.drewN_drewN]))
          have Hw20 := Lib.hid (hwy.trans (Hw.out m2))
          have Hr2 : Hid (RdL wr B (.slice (some ⟨b1, o1, none⟩) xs.length c) xs) := Lib.hid (by rw [hwy]; exact Hr.out.drewN m2)
          clear hwy
          by_cases hlt2 : j0 < k
          · obtain ⟨b2, o2, hA2, hE2⟩ := Hr2.out.atD j0 (by omega)
            obtain ⟨b3, o3, hA3, hE3⟩ := Hr2.out.at k hlt
            obtain ⟨rfl, rfl⟩ : b1 = b2 ∧ o1 = o2 := by simpa using hA2
            obtain ⟨rfl, rfl⟩ : b1 = b3 ∧ o1 = o3 := by simpa using hA3
            clear hA2 hA3
            have hlt2' : (j0 : Int) < (k : Int) := by omega
            have hlt3' : (j0 : Int) < (xs.length : Int) := by omega
            have HC := Lib.hid (fun n => l23Clash_any B B b1 (o1 + j0 * 4) b1 (o1 + k * 4) (atL xs j0) xs[k] (wr.drewN n) (hE2.drewN n) (hE3.drewN n))
            clear hE2 hE3
            cases gc : clash (atL xs j0) xs[k] with
            | true =>
              have Hf := Lib.hid (loans_no k hlt (place_3 hlt hlt2 gc))
              rw [gc] at HC
              clear gc
              go_wp2_with fail
              go_quiet ((go_at_call 97; exact Calls.quiet_of (HC.out _)))
              go_wp2_with fail
              go_ret
              rw [Hf.out]; exact ⟨rfl, _, Hw2.out _⟩
            | false =>
              have Hst2 := Lib.hid (chk_step Hall2.out (free_step hlt gc))
              rw [gc] at HC
              clear gc
              go_wp2_with fail
              go_quiet ((go_at_call 97; exact Calls.quiet_of (HC.out _)))
              go_wp2_with fail
              go_roundw
              case rel => exact ⟨j0 + 1, _, by omega, Hst2.out, by go_num, HwI.out _⟩
              case measure => simp [intOf]; omega
          · obtain rfl : j0 = k := by omega
            have Hst2 := Lib.hid (Hst.out (place_4 hlt Hg.out Hg2.out Hall2.out))
            go_wp2_with fail
            go_roundw
            case rel => exact ⟨j0 + 1, _, by omega, Hst2.out, by go_num, Hw20.out⟩
            case measure => simp [intOf]; omega
    · have hc : chk xs.length (placeS xs) = true := by rw [show xs.length = k by omega]; exact Hall.out
      have hf := Lib.hid (show loansOk xs = decide (xs.length ≤ 60) by unfold loansOk; rw [hc]; rfl)
      have hlt' : (xs.length : Int) ≤ (k : Int) := by omega
      clear hc
      go_wp2_with fail
      go_ret
      rw [hf.out]; exact ⟨by simp; omega, _, Hw0.out⟩
end Go.Proofs.Ytmheijnckmlbnaa
/- Loans, part 11 (printed by genlo11.py): valid lists of loans, the program's side. -/
namespace Go.Proofs.Ytmheijnckmlbnaa
open Go.RowKit Go.Joins

theorem four_at {w : World} {g : Nat} {a b c d : Value} {t : TypeId} (h : w.heap[g]? = some (.cells #[a, b, c, d] t (0, 0))) :
    w.cell? ⟨g, 0, none⟩ = some a ∧ w.cell? ⟨g, 1, none⟩ = some b ∧ w.cell? ⟨g, 2, none⟩ = some c ∧ w.cell? ⟨g, 3, none⟩ = some d := by
  refine ⟨?_, ?_, ?_, ?_⟩
  · rw [cell_of_row w g 0 _ _ _ h]; rfl
  · rw [cell_of_row w g 1 _ _ _ h]; rfl
  · rw [cell_of_row w g 2 _ _ _ h]; rfl
  · rw [cell_of_row w g 3 _ _ _ h]; rfl
theorem eight_at {w : World} {g B b1 o1 : Nat} {a b c d : Value} {t : TypeId} {p : Ln} (h : w.heap[g]? = some (.cells #[a, b, c, d] t (0, 0))) (hp : LnAt w B b1 o1 p) :
    w.cell? ⟨g, 0, none⟩ = some a ∧ w.cell? ⟨g, 1, none⟩ = some b ∧ w.cell? ⟨g, 2, none⟩ = some c ∧ w.cell? ⟨g, 3, none⟩ = some d ∧
    w.cell? ⟨b1, o1, none⟩ = some (.string p.what) ∧ w.cell? ⟨b1, o1 + 1, none⟩ = some (.string p.who) ∧ w.cell? ⟨b1, o1 + 2, none⟩ = some (.int .i64 p.from_) ∧ w.cell? ⟨b1, o1 + 3, none⟩ = some (.int .i64 p.till) :=
  have k := four_at h
  ⟨k.1, k.2.1, k.2.2.1, k.2.2.2, hp.c0, hp.c1, hp.c2, hp.c3⟩
theorem loansI_no {xs : List Ln} (k : Nat) (hk : k < xs.length) (h : placeI xs k = false) : loansOkI xs = false := by unfold loansOkI; rw [chk_bad k hk h]; rfl
theorem round_casesI (xs : List Ln) (k : Nat) (hk : k < xs.length) : (loanOk xs[k] = false ∧ loansOkI xs = false) ∨ (loanOk xs[k] = true ∧ k = 0) ∨
    ∃ m, m + 1 = k ∧ loanOk xs[k] = true ∧ ((before xs[k] (atL xs m) = true ∧ loansOkI xs = false) ∨ before xs[k] (atL xs m) = false) := by
  cases h : loanOk xs[k] with
  | false => exact .inl ⟨rfl, loansI_no k hk (by unfold placeI; rw [atL_at xs k hk, h]; rfl)⟩
  | true =>
    rcases Nat.eq_zero_or_pos k with h0 | h0
    · exact .inr (.inl ⟨rfl, h0⟩)
    · refine .inr (.inr ⟨k - 1, by omega, rfl, ?_⟩)
      cases hb : before xs[k] (atL xs (k - 1)) with
      | true => exact .inl ⟨rfl, loansI_no k hk (by unfold placeI; rw [atL_at xs k hk, h, hb, decide_eq_false (by omega)]; simp)⟩
      | false => exact .inr rfl
theorem placeI_3 {xs : List Ln} {k : Nat} (hk : k < xs.length) (j : Nat) (hj : j < k) (h : clash xs[k] (atL xs j) = true) : loansOkI xs = false := by
  have : freeI xs k j = false := by unfold freeI; rw [atL_at xs k hk, h]; rfl
  refine loansI_no k hk ?_
  unfold placeI; rw [chk_bad j hj this]; simp
theorem placeI_4 {xs : List Ln} {k : Nat} (hk : k < xs.length) (h0 : chk k (placeI xs) = true) (h1 : loanOk xs[k] = true) (h2 : k = 0 ∨ ∃ m, m + 1 = k ∧ before xs[k] (atL xs m) = false) (h : chk k (freeI xs k) = true) : chk (k + 1) (placeI xs) = true := by
  refine chk_step h0 ?_
  unfold placeI
  rw [atL_at xs k hk, h1, h]
  rcases h2 with rfl | ⟨m, hm, h2⟩
  · rfl
  · rw [show k - 1 = m by omega, h2]; simp
theorem freeI_step {xs : List Ln} {k : Nat} (hk : k < xs.length) (j : Nat) (h : clash xs[k] (atL xs j) = false) : freeI xs k j = true := by
  unfold freeI; rw [atL_at xs k hk, h]; rfl

set_option maxRecDepth 100000 in
set_option maxHeartbeats 6400000 in
theorem ValidI0_any (B : Nat) (v : Value) (xs : List Ln) (w : World) (h : RdL w B v xs) (hB : B ≤ w.heap.size) (hl : xs.length ≤ 1048576) (hsm : ∀ x ∈ xs, smL x) (hcap : ∀ A n c, v = .slice A n c → n ≤ c ∧ c ≤ maxLen) :
    Calls Try.prog 50 #[v] w fun e w' => e = .returned (.bool (loansOkI xs)) ∧ Below w.heap.size w w' := by
  have H := Lib.hid h
  have Hsm := Lib.hid hsm
  obtain ⟨A, c, rfl⟩ := h.slice
  obtain ⟨hc1, hc2⟩ := hcap _ _ _ rfl
  simp only [maxLen] at hc2
  clear h hsm hcap
  have hb0 := Below.refl w.heap.size w
  go_enter Try.func50, Try.ntmps50
  go_wp2_with fail
  go_loopw [9] (fun i wr => ∃ k : Nat, k ≤ xs.length ∧ chk k (placeI xs) = true ∧ i = .int .i64 k ∧ Below w.heap.size w wr) (fun i _ => xs.length - (intOf i).toNat)
  case atStart => exact ⟨0, Nat.zero_le _, rfl, rfl, hb0⟩
  case round =>
    obtain ⟨k, hk, hall, rfl, hbl⟩ := hrel
    have Hall := Lib.hid hall; clear hall
    obtain ⟨w1, rfl⟩ : ∃ x, x = wr := ⟨_, rfl⟩
    by_cases hlt : k < xs.length
    · have HL := Lib.hid (H.out.below (hbl.mono hB))
      obtain ⟨b1, o1, hA, hE⟩ := HL.out.at k hlt
      subst hA
      have hlt' : (k : Int) < (xs.length : Int) := by omega
      have RC := round_casesI xs k hlt
      have HP3 := Lib.hid (placeI_3 hlt)
      have HP4 := Lib.hid (placeI_4 hlt Hall.out)
      have HP5 := Lib.hid (freeI_step hlt)
      have hsx := Hsm.out xs[k] (List.getElem_mem hlt)
      have hzB : B ≤ w1.heap.size := Nat.le_trans hB hbl.size
      have hz1 : b1 < w1.heap.size := Nat.lt_of_lt_of_le hE.lt hzB
      generalize xs[k] = x at *
      have HV := Lib.hid (fun wx => validLoan_any x wx hsx)
      have HH := Lib.hid (fun y wx => ahead_any x y wx)
      have HCl := Lib.hid (fun y wx => clashes_any x y wx)
      obtain ⟨a, b, f, t⟩ := x
      obtain ⟨hbB, e0, e1, e2, e3⟩ := hE
      dsimp only at e0 e1 e2 e3 HV HH HCl
      have Hnw := Lib.hid (heap_alloc_new w1 (.cells #[.string a, .string b, .int .i64 f, .int .i64 t] 40))
      have Hba := Lib.hid ((Below.refl w1.heap.size w1).alloc (Nat.le_refl _) (.cells #[.string a, .string b, .int .i64 f, .int .i64 t] 40))
      have hlw : w1.heap.size < (w1.alloc (.cells #[.string a, .string b, .int .i64 f, .int .i64 t] 40)).heap.size := by simp
      have HLn := Lib.hid (HL.out.below (Hba.out.mono hzB))
      have Hbl := Lib.hid (hbl.trans (Hba.out.mono hbl.size))
      have hlo : w.heap.size ≤ w1.heap.size := hbl.size
      clear hbl hsx HL
      rcases RC with ⟨g, hf⟩ | ⟨g, h0⟩ | ⟨m, hm, g, ⟨gb, hf⟩ | gb⟩
      · have Hf := Lib.hid hf; clear hf
        rw [g] at HV
        clear g
        go_wp2_with fail
        obtain ⟨f0, f1, f2, f3⟩ := four_at Hnw.out
        generalize w1.alloc (.cells #[.string a, .string b, .int .i64 f, .int .i64 t] 40) = wn at *
        have hacc : Below wn.heap.size wn wn.drew := (Below.refl _ _).drew
        have HS := Lib.hid (show ∀ w', Below wn.heap.size wn w' → _ from fun w' (hb : Below wn.heap.size wn w') => four_at ((hb.block _ hlw).trans Hnw.out))
        refine wp_region_noPanic ?_
        refine wp_region_held_drew (S := fun w' => w'.cell? ⟨w1.heap.size, 0, none⟩ = some (.string a) ∧ w'.cell? ⟨w1.heap.size, 1, none⟩ = some (.string b) ∧ w'.cell? ⟨w1.heap.size, 2, none⟩ = some (.int .i64 f) ∧ w'.cell? ⟨w1.heap.size, 3, none⟩ = some (.int .i64 t)) (by kernel_rfl) (by (try dsimp only); first | go_keep | assumption) (fun hHeld => ?_)
        refine take_d (i := 0) (d := some 14) (v := ?_) rfl rfl (by kernel_rfl) (by kernel_rfl) (by kernel_rfl) (fun _ _ _ h => h) (Or.inl ⟨by rfl, ?_⟩) (by assumption) ?_
        rotate_left
        · (intro w hSw; (try dsimp only at hSw); go_simp; (try (with_reducible rfl)))
        simp only [Act.put, List.setIfInBounds_toArray, List.set_cons_zero, List.set_cons_succ]
        refine call_d (i := 1) (d := some 15) rfl rfl (by kernel_rfl) (fun K hK => ?_)
        go_simp
        (go_at_call 61; ((with_reducible refine (HV.out _).mono ?_)); rintro e wq ⟨rfl, hbq⟩; have hacc' := hacc.trans (hbq.mono hacc.size); clear hacc; have hacc := hacc'; clear hacc'; have hSq := HS.out _ hacc; clear hbq)
        (try (go_wp2_with fail))
        refine hK.out _ _ (hSq) (fun hHeld => ?_)
        clear hK K
        (try simp only [Act.put, List.setIfInBounds_toArray, List.set_cons_zero, List.set_cons_succ])
        refine take_d (i := 2) (d := some 16) (v := ?_) rfl rfl (by kernel_rfl) (by kernel_rfl) (by kernel_rfl) (fun _ _ _ h => h) (Or.inl ⟨by rfl, ?_⟩) (by assumption) ?_
        rotate_left
        · (intro w hSw; (try dsimp only at hSw); go_simp; (try (with_reducible rfl)))
        simp only [Act.put, List.setIfInBounds_toArray, List.set_cons_zero, List.set_cons_succ]
        refine take_d (i := 3) (d := some 17) (v := ?_) rfl rfl (by kernel_rfl) (by kernel_rfl) (by kernel_rfl) (fun _ _ _ h => h) (Or.inl ⟨by rfl, ?_⟩) (by assumption) ?_
        rotate_left
        · (intro w hSw; (try dsimp only at hSw); go_simp; (try (with_reducible rfl)))
        simp only [Act.put, List.setIfInBounds_toArray, List.set_cons_zero, List.set_cons_succ]
        refine take_d (i := 4) (d := some 18) (v := undef) rfl rfl (by kernel_rfl) (by kernel_rfl) (by kernel_rfl) (fun _ _ _ h => h) (Or.inr ⟨by rfl, rfl⟩) (by assumption) ?_
        simp only [Act.put, List.setIfInBounds_toArray, List.set_cons_zero, List.set_cons_succ]
        refine take_d (i := 5) (d := some 19) (v := undef) rfl rfl (by kernel_rfl) (by kernel_rfl) (by kernel_rfl) (fun _ _ _ h => h) (Or.inr ⟨by rfl, rfl⟩) (by assumption) ?_
        simp only [Act.put, List.setIfInBounds_toArray, List.set_cons_zero, List.set_cons_succ]
        refine take_d (i := 6) (d := some 20) (v := undef) rfl rfl (by kernel_rfl) (by kernel_rfl) (by kernel_rfl) (fun _ _ _ h => h) (Or.inr ⟨by rfl, rfl⟩) (by assumption) ?_
        simp only [Act.put, List.setIfInBounds_toArray, List.set_cons_zero, List.set_cons_succ]
        refine take_d (i := 7) (d := some 21) (v := undef) rfl rfl (by kernel_rfl) (by kernel_rfl) (by kernel_rfl) (fun _ _ _ h => h) (Or.inr ⟨by rfl, rfl⟩) (by assumption) ?_
        simp only [Act.put, List.setIfInBounds_toArray, List.set_cons_zero, List.set_cons_succ]
        refine take_d (i := 8) (d := some 22) (v := undef) rfl rfl (by kernel_rfl) (by kernel_rfl) (by kernel_rfl) (fun _ _ _ h => h) (Or.inr ⟨by rfl, rfl⟩) (by assumption) ?_
        simp only [Act.put, List.setIfInBounds_toArray, List.set_cons_zero, List.set_cons_succ]
        refine take_d (i := 9) (d := some 23) (v := undef) rfl rfl (by kernel_rfl) (by kernel_rfl) (by kernel_rfl) (fun _ _ _ h => h) (Or.inr ⟨by rfl, rfl⟩) (by assumption) ?_
        simp only [Act.put, List.setIfInBounds_toArray, List.set_cons_zero, List.set_cons_succ]
        refine take_d (i := 10) (d := some 24) (v := undef) rfl rfl (by kernel_rfl) (by kernel_rfl) (by kernel_rfl) (fun _ _ _ h => h) (Or.inr ⟨by rfl, rfl⟩) (by assumption) ?_
        simp only [Act.put, List.setIfInBounds_toArray, List.set_cons_zero, List.set_cons_succ]
        refine take_d (i := 11) (d := some 25) (v := undef) rfl rfl (by kernel_rfl) (by kernel_rfl) (by kernel_rfl) (fun _ _ _ h => h) (Or.inr ⟨by rfl, rfl⟩) (by assumption) ?_
        simp only [Act.put, List.setIfInBounds_toArray, List.set_cons_zero, List.set_cons_succ]
        refine take_d (i := 12) (d := some 26) (v := undef) rfl rfl (by kernel_rfl) (by kernel_rfl) (by kernel_rfl) (fun _ _ _ h => h) (Or.inr ⟨by rfl, rfl⟩) (by assumption) ?_
        simp only [Act.put, List.setIfInBounds_toArray, List.set_cons_zero, List.set_cons_succ]
        refine take_d (i := 13) (d := some 27) (v := undef) rfl rfl (by kernel_rfl) (by kernel_rfl) (by kernel_rfl) (fun _ _ _ h => h) (Or.inr ⟨by rfl, rfl⟩) (by assumption) ?_
        simp only [Act.put, List.setIfInBounds_toArray, List.set_cons_zero, List.set_cons_succ]
        refine take_d (i := 14) (d := some 28) (v := undef) rfl rfl (by kernel_rfl) (by kernel_rfl) (by kernel_rfl) (fun _ _ _ h => h) (Or.inr ⟨by rfl, rfl⟩) (by assumption) ?_
        simp only [Act.put, List.setIfInBounds_toArray, List.set_cons_zero, List.set_cons_succ]
        refine take_d (i := 15) (d := some 29) (v := ?_) rfl rfl (by kernel_rfl) (by kernel_rfl) (by kernel_rfl) (fun _ _ _ h => h) (Or.inl ⟨by rfl, ?_⟩) (by assumption) ?_
        rotate_left
        · (intro w hSw; (try dsimp only at hSw); go_simp; (try (with_reducible rfl)))
        simp only [Act.put, List.setIfInBounds_toArray, List.set_cons_zero, List.set_cons_succ]
        refine wpAnyH_done (by kernel_rfl) ?_ _
        refine NoPanic.normal ?_
        go_wp2_with fail
        go_ret
        rw [Hf.out]; exact ⟨rfl, Hbl.out.trans (hacc.mono Hbl.out.size)⟩
      · have Hg := Lib.hid g
        have Hg2 : Hid (k = 0 ∨ ∃ m, m + 1 = k ∧ before ⟨a, b, f, t⟩ (atL xs m) = false) := Lib.hid (.inl h0)
        have hk0 : decide (0 < k) = false := decide_eq_false (by omega)
        rw [g] at HV
        clear g h0
        go_wp2_with fail
        obtain ⟨f0, f1, f2, f3⟩ := four_at Hnw.out
        generalize w1.alloc (.cells #[.string a, .string b, .int .i64 f, .int .i64 t] 40) = wn at *
        have hacc : Below wn.heap.size wn wn.drew := (Below.refl _ _).drew
        have HS := Lib.hid (show ∀ w', Below wn.heap.size wn w' → _ from fun w' (hb : Below wn.heap.size wn w') => four_at ((hb.block _ hlw).trans Hnw.out))
        refine wp_region_noPanic ?_
        refine wp_region_held_drew (S := fun w' => w'.cell? ⟨w1.heap.size, 0, none⟩ = some (.string a) ∧ w'.cell? ⟨w1.heap.size, 1, none⟩ = some (.string b) ∧ w'.cell? ⟨w1.heap.size, 2, none⟩ = some (.int .i64 f) ∧ w'.cell? ⟨w1.heap.size, 3, none⟩ = some (.int .i64 t)) (by kernel_rfl) (by (try dsimp only); first | go_keep | assumption) (fun hHeld => ?_)
        refine take_d (i := 0) (d := some 14) (v := ?_) rfl rfl (by kernel_rfl) (by kernel_rfl) (by kernel_rfl) (fun _ _ _ h => h) (Or.inl ⟨by rfl, ?_⟩) (by assumption) ?_
        rotate_left
        · (intro w hSw; (try dsimp only at hSw); go_simp; (try (with_reducible rfl)))
        simp only [Act.put, List.setIfInBounds_toArray, List.set_cons_zero, List.set_cons_succ]
        refine call_d (i := 1) (d := some 15) rfl rfl (by kernel_rfl) (fun K hK => ?_)
        go_simp
        (go_at_call 61; ((with_reducible refine (HV.out _).mono ?_)); rintro e wq ⟨rfl, hbq⟩; have hacc' := hacc.trans (hbq.mono hacc.size); clear hacc; have hacc := hacc'; clear hacc'; have hSq := HS.out _ hacc; clear hbq)
        (try (go_wp2_with fail))
        refine hK.out _ _ (hSq) (fun hHeld => ?_)
        clear hK K
        (try simp only [Act.put, List.setIfInBounds_toArray, List.set_cons_zero, List.set_cons_succ])
        refine take_d (i := 2) (d := some 16) (v := ?_) rfl rfl (by kernel_rfl) (by kernel_rfl) (by kernel_rfl) (fun _ _ _ h => h) (Or.inl ⟨by rfl, ?_⟩) (by assumption) ?_
        rotate_left
        · (intro w hSw; (try dsimp only at hSw); go_simp; (try (with_reducible rfl)))
        simp only [Act.put, List.setIfInBounds_toArray, List.set_cons_zero, List.set_cons_succ]
        refine take_d (i := 3) (d := some 17) (v := ?_) rfl rfl (by kernel_rfl) (by kernel_rfl) (by kernel_rfl) (fun _ _ _ h => h) (Or.inl ⟨by rfl, ?_⟩) (by assumption) ?_
        rotate_left
        · (intro w hSw; (try dsimp only at hSw); go_simp; (try (with_reducible rfl)))
        simp only [Act.put, List.setIfInBounds_toArray, List.set_cons_zero, List.set_cons_succ]
        refine take_d (i := 4) (d := some 18) (v := ?_) rfl rfl (by kernel_rfl) (by kernel_rfl) (by kernel_rfl) (fun _ _ _ h => h) (Or.inl ⟨by rfl, ?_⟩) (by assumption) ?_
        rotate_left
        · (intro w hSw; (try dsimp only at hSw); go_simp; (try (with_reducible rfl)))
        simp only [Act.put, List.setIfInBounds_toArray, List.set_cons_zero, List.set_cons_succ]
        refine take_d (i := 5) (d := some 19) (v := ?_) rfl rfl (by kernel_rfl) (by kernel_rfl) (by kernel_rfl) (fun _ _ _ h => h) (Or.inl ⟨by rfl, ?_⟩) (by assumption) ?_
        rotate_left
        · (intro w hSw; (try dsimp only at hSw); go_simp; (try (with_reducible rfl)))
        simp only [Act.put, List.setIfInBounds_toArray, List.set_cons_zero, List.set_cons_succ]
        refine take_d (i := 6) (d := some 20) (v := ?_) rfl rfl (by kernel_rfl) (by kernel_rfl) (by kernel_rfl) (fun _ _ _ h => h) (Or.inl ⟨by rfl, ?_⟩) (by assumption) ?_
        rotate_left
        · (intro w hSw; (try dsimp only at hSw); go_simp; (try (with_reducible rfl)))
        simp only [Act.put, List.setIfInBounds_toArray, List.set_cons_zero, List.set_cons_succ]
        refine take_d (i := 7) (d := some 21) (v := undef) rfl rfl (by kernel_rfl) (by kernel_rfl) (by kernel_rfl) (fun _ _ _ h => h) (Or.inr ⟨by rfl, rfl⟩) (by assumption) ?_
        simp only [Act.put, List.setIfInBounds_toArray, List.set_cons_zero, List.set_cons_succ]
        refine take_d (i := 8) (d := some 22) (v := undef) rfl rfl (by kernel_rfl) (by kernel_rfl) (by kernel_rfl) (fun _ _ _ h => h) (Or.inr ⟨by rfl, rfl⟩) (by assumption) ?_
        simp only [Act.put, List.setIfInBounds_toArray, List.set_cons_zero, List.set_cons_succ]
        refine take_d (i := 9) (d := some 23) (v := undef) rfl rfl (by kernel_rfl) (by kernel_rfl) (by kernel_rfl) (fun _ _ _ h => h) (Or.inr ⟨by rfl, rfl⟩) (by assumption) ?_
        simp only [Act.put, List.setIfInBounds_toArray, List.set_cons_zero, List.set_cons_succ]
        refine take_d (i := 10) (d := some 24) (v := undef) rfl rfl (by kernel_rfl) (by kernel_rfl) (by kernel_rfl) (fun _ _ _ h => h) (Or.inr ⟨by rfl, rfl⟩) (by assumption) ?_
        simp only [Act.put, List.setIfInBounds_toArray, List.set_cons_zero, List.set_cons_succ]
        refine take_d (i := 11) (d := some 25) (v := undef) rfl rfl (by kernel_rfl) (by kernel_rfl) (by kernel_rfl) (fun _ _ _ h => h) (Or.inr ⟨by rfl, rfl⟩) (by assumption) ?_
        simp only [Act.put, List.setIfInBounds_toArray, List.set_cons_zero, List.set_cons_succ]
        refine take_d (i := 12) (d := some 26) (v := undef) rfl rfl (by kernel_rfl) (by kernel_rfl) (by kernel_rfl) (fun _ _ _ h => h) (Or.inr ⟨by rfl, rfl⟩) (by assumption) ?_
        simp only [Act.put, List.setIfInBounds_toArray, List.set_cons_zero, List.set_cons_succ]
        refine take_d (i := 13) (d := some 27) (v := undef) rfl rfl (by kernel_rfl) (by kernel_rfl) (by kernel_rfl) (fun _ _ _ h => h) (Or.inr ⟨by rfl, rfl⟩) (by assumption) ?_
        simp only [Act.put, List.setIfInBounds_toArray, List.set_cons_zero, List.set_cons_succ]
        refine take_d (i := 14) (d := some 28) (v := ?_) rfl rfl (by kernel_rfl) (by kernel_rfl) (by kernel_rfl) (fun _ _ _ h => h) (Or.inl ⟨by rfl, ?_⟩) (by assumption) ?_
        rotate_left
        · (intro w hSw; (try dsimp only at hSw); go_simp; (try (with_reducible rfl)))
        simp only [Act.put, List.setIfInBounds_toArray, List.set_cons_zero, List.set_cons_succ]
        refine take_d (i := 15) (d := some 29) (v := ?_) rfl rfl (by kernel_rfl) (by kernel_rfl) (by kernel_rfl) (fun _ _ _ h => h) (Or.inl ⟨by rfl, ?_⟩) (by assumption) ?_
        rotate_left
        · (intro w hSw; (try dsimp only at hSw); go_simp; (try (with_reducible rfl)))
        simp only [Act.put, List.setIfInBounds_toArray, List.set_cons_zero, List.set_cons_succ]
        refine wpAnyH_done (by kernel_rfl) ?_ _
        refine NoPanic.normal ?_
        have Hacc := Lib.hid hacc; clear hacc
        have hkc : k ≤ c := by omega
        go_wp2_with fail
        go_loopw [34] (fun j wy => ∃ j0 : Nat, j0 ≤ k ∧ chk j0 (freeI xs k) = true ∧ j = .int .i64 j0 ∧ Below wn.heap.size wn wy) (fun j _ => k - (intOf j).toNat)
        case atStart => exact ⟨0, Nat.zero_le _, rfl, rfl, Hacc.out⟩
        case round =>
          obtain ⟨j0, hj, hall2, rfl, hby⟩ := hrel
          have Hall2 := Lib.hid hall2; clear hall2
          obtain ⟨d0, d1, d2, d3⟩ := four_at ((hby.block _ hlw).trans Hnw.out)
          by_cases hlt2 : j0 < k
          · obtain ⟨b2, o2, hA2, hE2⟩ := (HLn.out.below (hby.mono (Nat.le_trans hzB (Nat.le_of_lt hlw)))).atD j0 (by omega)
            obtain ⟨rfl, rfl⟩ : b1 = b2 ∧ o1 = o2 := by simpa using hA2
            clear hA2
            have hlt2' : (j0 : Int) < (k : Int) := by omega
            have h3 := Lib.hid (HP3.out j0 hlt2)
            have h5 := Lib.hid (HP5.out j0)
            generalize atL xs j0 = y at *
            have HC := Lib.hid (fun wx => HCl.out y wx)
            obtain ⟨ya, yb, yf, yt⟩ := y
            obtain ⟨_, g0, g1, g2, g3⟩ := hE2
            dsimp only at g0 g1 g2 g3 HC
            have hz2 : b1 < wr.heap.size := by have := hby.size; omega
            have hz3 : w1.heap.size < wr.heap.size := by have := hby.size; omega
            have Hba2 := Lib.hid (hby.alloc hby.size (.cells #[.string ya, .string yb, .int .i64 yf, .int .i64 yt] 40))
            clear hby
            cases gc : clash ⟨a, b, f, t⟩ ⟨ya, yb, yf, yt⟩ with
            | true =>
              have Hf := Lib.hid (h3.out gc)
              rw [gc] at HC
              clear gc
              go_wp2_with fail
              refine (HC.out _).mono ?_; rintro e w5 ⟨rfl, hb5⟩
              have hb05 := Hba2.out.trans (hb5.mono Hba2.out.size)
              go_wp2_with fail
              go_ret
              rw [Hf.out]; exact ⟨rfl, Hbl.out.trans (hb05.mono Hbl.out.size)⟩
            | false =>
              have Hst2 := Lib.hid (chk_step Hall2.out (h5.out gc))
              rw [gc] at HC
              clear gc
              go_wp2_with fail
              refine (HC.out _).mono ?_; rintro e w5 ⟨rfl, hb5⟩
              have hb05 := Hba2.out.trans (hb5.mono Hba2.out.size)
              go_wp2_with fail
              go_roundw
              case rel => exact ⟨j0 + 1, by omega, Hst2.out, by go_num, hb05⟩
              case measure => simp [intOf]; omega
          · obtain rfl : j0 = k := by omega
            have Hst2 := Lib.hid (HP4.out Hg.out Hg2.out Hall2.out)
            have hb1 := Hbl.out.trans (hby.mono Hbl.out.size)
            go_wp2_with fail
            go_roundw
            case rel => exact ⟨j0 + 1, by omega, Hst2.out, by go_num, hb1⟩
            case measure => simp [intOf]; omega
      · have Hf := Lib.hid hf; clear hf
        obtain ⟨b2, o2, hA2, hE2⟩ := HLn.out.atD m (by omega)
        obtain ⟨rfl, rfl⟩ : b1 = b2 ∧ o1 = o2 := by simpa using hA2
        clear hA2
        generalize atL xs m = p at *
        have HP := Lib.hid hE2
        clear hE2
        obtain ⟨pa, pb, pf, pt⟩ := p
        have HH := Lib.hid (fun wx => HH.out ⟨pa, pb, pf, pt⟩ wx)
        (try dsimp only at HH)
        rw [gb] at HH
        rw [g] at HV
        have hk0 : decide (0 < k) = true := decide_eq_true (by omega)
        have hm1 : IntKind.i64.wrap ((k : Int) - 1) = (m : Int) := by rw [IntWalk.i64_in _ (by omega)]; omega
        have hm2 : (m : Int) < (xs.length : Int) := by omega
        have Hm := Lib.hid hm
        clear g gb hm
        go_wp2_with fail
        obtain ⟨f0, f1, f2, f3⟩ := four_at Hnw.out
        generalize w1.alloc (.cells #[.string a, .string b, .int .i64 f, .int .i64 t] 40) = wn at *
        have hacc : Below wn.heap.size wn wn.drew := (Below.refl _ _).drew
        have HS := Lib.hid (show ∀ w', Below wn.heap.size wn w' → _ from fun w' (hb : Below wn.heap.size wn w') => eight_at ((hb.block _ hlw).trans Hnw.out) (HP.out.below (hb.mono (Nat.le_trans hzB (Nat.le_of_lt hlw)))))
        obtain ⟨_, _, _, _, p0, p1, p2, p3⟩ := HS.out _ (Below.refl _ _)
        refine wp_region_noPanic ?_
        refine wp_region_held_drew (S := fun w' => w'.cell? ⟨w1.heap.size, 0, none⟩ = some (.string a) ∧ w'.cell? ⟨w1.heap.size, 1, none⟩ = some (.string b) ∧ w'.cell? ⟨w1.heap.size, 2, none⟩ = some (.int .i64 f) ∧ w'.cell? ⟨w1.heap.size, 3, none⟩ = some (.int .i64 t) ∧ w'.cell? ⟨b1, o1 + m * 4, none⟩ = some (.string pa) ∧ w'.cell? ⟨b1, o1 + m * 4 + 1, none⟩ = some (.string pb) ∧ w'.cell? ⟨b1, o1 + m * 4 + 2, none⟩ = some (.int .i64 pf) ∧ w'.cell? ⟨b1, o1 + m * 4 + 3, none⟩ = some (.int .i64 pt)) (by kernel_rfl) (by (try dsimp only); first | go_keep | assumption) (fun hHeld => ?_)
        refine take_d (i := 0) (d := some 14) (v := ?_) rfl rfl (by kernel_rfl) (by kernel_rfl) (by kernel_rfl) (fun _ _ _ h => h) (Or.inl ⟨by rfl, ?_⟩) (by assumption) ?_
        rotate_left
        · (intro w hSw; (try dsimp only at hSw); go_simp; (try (with_reducible rfl)))
        simp only [Act.put, List.setIfInBounds_toArray, List.set_cons_zero, List.set_cons_succ]
        refine call_d (i := 1) (d := some 15) rfl rfl (by kernel_rfl) (fun K hK => ?_)
        go_simp
        (go_at_call 61; ((with_reducible refine (HV.out _).mono ?_)); rintro e wq ⟨rfl, hbq⟩; have hacc' := hacc.trans (hbq.mono hacc.size); clear hacc; have hacc := hacc'; clear hacc'; have hSq := HS.out _ hacc; clear hbq)
        (try (go_wp2_with fail))
        refine hK.out _ _ (hSq) (fun hHeld => ?_)
        clear hK K
        (try simp only [Act.put, List.setIfInBounds_toArray, List.set_cons_zero, List.set_cons_succ])
        refine take_d (i := 2) (d := some 16) (v := ?_) rfl rfl (by kernel_rfl) (by kernel_rfl) (by kernel_rfl) (fun _ _ _ h => h) (Or.inl ⟨by rfl, ?_⟩) (by assumption) ?_
        rotate_left
        · (intro w hSw; (try dsimp only at hSw); go_simp; (try (with_reducible rfl)))
        simp only [Act.put, List.setIfInBounds_toArray, List.set_cons_zero, List.set_cons_succ]
        refine take_d (i := 3) (d := some 17) (v := ?_) rfl rfl (by kernel_rfl) (by kernel_rfl) (by kernel_rfl) (fun _ _ _ h => h) (Or.inl ⟨by rfl, ?_⟩) (by assumption) ?_
        rotate_left
        · (intro w hSw; (try dsimp only at hSw); go_simp; (try (with_reducible rfl)))
        simp only [Act.put, List.setIfInBounds_toArray, List.set_cons_zero, List.set_cons_succ]
        refine take_d (i := 4) (d := some 18) (v := ?_) rfl rfl (by kernel_rfl) (by kernel_rfl) (by kernel_rfl) (fun _ _ _ h => h) (Or.inl ⟨by rfl, ?_⟩) (by assumption) ?_
        rotate_left
        · (intro w hSw; (try dsimp only at hSw); go_simp; (try (with_reducible rfl)))
        simp only [Act.put, List.setIfInBounds_toArray, List.set_cons_zero, List.set_cons_succ]
        refine take_d (i := 5) (d := some 19) (v := ?_) rfl rfl (by kernel_rfl) (by kernel_rfl) (by kernel_rfl) (fun _ _ _ h => h) (Or.inl ⟨by rfl, ?_⟩) (by assumption) ?_
        rotate_left
        · (intro w hSw; (try dsimp only at hSw); go_simp; (try (with_reducible rfl)))
        simp only [Act.put, List.setIfInBounds_toArray, List.set_cons_zero, List.set_cons_succ]
        refine take_d (i := 6) (d := some 20) (v := ?_) rfl rfl (by kernel_rfl) (by kernel_rfl) (by kernel_rfl) (fun _ _ _ h => h) (Or.inl ⟨by rfl, ?_⟩) (by assumption) ?_
        rotate_left
        · (intro w hSw; (try dsimp only at hSw); go_simp; (try (with_reducible rfl)))
        simp only [Act.put, List.setIfInBounds_toArray, List.set_cons_zero, List.set_cons_succ]
        refine take_d (i := 7) (d := some 21) (v := ?_) rfl rfl (by kernel_rfl) (by kernel_rfl) (by kernel_rfl) (fun _ _ _ h => h) (Or.inl ⟨by rfl, ?_⟩) (by assumption) ?_
        rotate_left
        · (intro w hSw; (try dsimp only at hSw); go_simp; (try (with_reducible rfl)))
        simp only [Act.put, List.setIfInBounds_toArray, List.set_cons_zero, List.set_cons_succ]
        refine take_d (i := 8) (d := some 22) (v := ?_) rfl rfl (by kernel_rfl) (by kernel_rfl) (by kernel_rfl) (fun _ _ _ h => h) (Or.inl ⟨by rfl, ?_⟩) (by assumption) ?_
        rotate_left
        · (intro w hSw; (try dsimp only at hSw); go_simp; (try (with_reducible rfl)))
        simp only [Act.put, List.setIfInBounds_toArray, List.set_cons_zero, List.set_cons_succ]
        refine take_d (i := 9) (d := some 23) (v := ?_) rfl rfl (by kernel_rfl) (by kernel_rfl) (by kernel_rfl) (fun _ _ _ h => h) (Or.inl ⟨by rfl, ?_⟩) (by assumption) ?_
        rotate_left
        · (intro w hSw; (try dsimp only at hSw); go_simp; (try (with_reducible rfl)))
        simp only [Act.put, List.setIfInBounds_toArray, List.set_cons_zero, List.set_cons_succ]
        refine take_d (i := 10) (d := some 24) (v := ?_) rfl rfl (by kernel_rfl) (by kernel_rfl) (by kernel_rfl) (fun _ _ _ h => h) (Or.inl ⟨by rfl, ?_⟩) (by assumption) ?_
        rotate_left
        · (intro w hSw; (try dsimp only at hSw); go_simp; (try (with_reducible rfl)))
        simp only [Act.put, List.setIfInBounds_toArray, List.set_cons_zero, List.set_cons_succ]
        refine take_d (i := 11) (d := some 25) (v := ?_) rfl rfl (by kernel_rfl) (by kernel_rfl) (by kernel_rfl) (fun _ _ _ h => h) (Or.inl ⟨by rfl, ?_⟩) (by assumption) ?_
        rotate_left
        · (intro w hSw; (try dsimp only at hSw); go_simp; (try (with_reducible rfl)))
        simp only [Act.put, List.setIfInBounds_toArray, List.set_cons_zero, List.set_cons_succ]
        refine take_d (i := 12) (d := some 26) (v := ?_) rfl rfl (by kernel_rfl) (by kernel_rfl) (by kernel_rfl) (fun _ _ _ h => h) (Or.inl ⟨by rfl, ?_⟩) (by assumption) ?_
        rotate_left
        · (intro w hSw; (try dsimp only at hSw); go_simp; (try (with_reducible rfl)))
        simp only [Act.put, List.setIfInBounds_toArray, List.set_cons_zero, List.set_cons_succ]
        refine call_d (i := 13) (d := some 27) rfl rfl (by kernel_rfl) (fun K hK => ?_)
        go_simp
        (clear hSq; go_at_call 63; ((with_reducible refine (HH.out _).mono ?_)); rintro e wq2 ⟨rfl, hbq⟩; have hacc' := hacc.trans (hbq.mono hacc.size); clear hacc; have hacc := hacc'; clear hacc'; have hSq := HS.out _ hacc; clear hbq)
        (try (go_wp2_with fail))
        refine hK.out _ _ (hSq) (fun hHeld => ?_)
        clear hK K
        (try simp only [Act.put, List.setIfInBounds_toArray, List.set_cons_zero, List.set_cons_succ])
        refine take_d (i := 14) (d := some 28) (v := ?_) rfl rfl (by kernel_rfl) (by kernel_rfl) (by kernel_rfl) (fun _ _ _ h => h) (Or.inl ⟨by rfl, ?_⟩) (by assumption) ?_
        rotate_left
        · (intro w hSw; (try dsimp only at hSw); go_simp; (try (with_reducible rfl)))
        simp only [Act.put, List.setIfInBounds_toArray, List.set_cons_zero, List.set_cons_succ]
        refine take_d (i := 15) (d := some 29) (v := ?_) rfl rfl (by kernel_rfl) (by kernel_rfl) (by kernel_rfl) (fun _ _ _ h => h) (Or.inl ⟨by rfl, ?_⟩) (by assumption) ?_
        rotate_left
        · (intro w hSw; (try dsimp only at hSw); go_simp; (try (with_reducible rfl)))
        simp only [Act.put, List.setIfInBounds_toArray, List.set_cons_zero, List.set_cons_succ]
        refine wpAnyH_done (by kernel_rfl) ?_ _
        refine NoPanic.normal ?_
        clear hm1
        go_wp2_with fail
        go_ret
        rw [Hf.out]; exact ⟨rfl, Hbl.out.trans (hacc.mono Hbl.out.size)⟩
      · have Hg := Lib.hid g
        have Hg2 : Hid (k = 0 ∨ ∃ m, m + 1 = k ∧ before ⟨a, b, f, t⟩ (atL xs m) = false) := Lib.hid (.inr ⟨m, hm, gb⟩)
        obtain ⟨b2, o2, hA2, hE2⟩ := HLn.out.atD m (by omega)
        obtain ⟨rfl, rfl⟩ : b1 = b2 ∧ o1 = o2 := by simpa using hA2
        clear hA2
        generalize atL xs m = p at *
        have HP := Lib.hid hE2
        clear hE2
        obtain ⟨pa, pb, pf, pt⟩ := p
        have HH := Lib.hid (fun wx => HH.out ⟨pa, pb, pf, pt⟩ wx)
        (try dsimp only at HH)
        rw [gb] at HH
        rw [g] at HV
        have hk0 : decide (0 < k) = true := decide_eq_true (by omega)
        have hm1 : IntKind.i64.wrap ((k : Int) - 1) = (m : Int) := by rw [IntWalk.i64_in _ (by omega)]; omega
        have hm2 : (m : Int) < (xs.length : Int) := by omega
        have Hm := Lib.hid hm
        clear g gb hm
        go_wp2_with fail
        obtain ⟨f0, f1, f2, f3⟩ := four_at Hnw.out
        generalize w1.alloc (.cells #[.string a, .string b, .int .i64 f, .int .i64 t] 40) = wn at *
        have hacc : Below wn.heap.size wn wn.drew := (Below.refl _ _).drew
        have HS := Lib.hid (show ∀ w', Below wn.heap.size wn w' → _ from fun w' (hb : Below wn.heap.size wn w') => eight_at ((hb.block _ hlw).trans Hnw.out) (HP.out.below (hb.mono (Nat.le_trans hzB (Nat.le_of_lt hlw)))))
        obtain ⟨_, _, _, _, p0, p1, p2, p3⟩ := HS.out _ (Below.refl _ _)
        refine wp_region_noPanic ?_
        refine wp_region_held_drew (S := fun w' => w'.cell? ⟨w1.heap.size, 0, none⟩ = some (.string a) ∧ w'.cell? ⟨w1.heap.size, 1, none⟩ = some (.string b) ∧ w'.cell? ⟨w1.heap.size, 2, none⟩ = some (.int .i64 f) ∧ w'.cell? ⟨w1.heap.size, 3, none⟩ = some (.int .i64 t) ∧ w'.cell? ⟨b1, o1 + m * 4, none⟩ = some (.string pa) ∧ w'.cell? ⟨b1, o1 + m * 4 + 1, none⟩ = some (.string pb) ∧ w'.cell? ⟨b1, o1 + m * 4 + 2, none⟩ = some (.int .i64 pf) ∧ w'.cell? ⟨b1, o1 + m * 4 + 3, none⟩ = some (.int .i64 pt)) (by kernel_rfl) (by (try dsimp only); first | go_keep | assumption) (fun hHeld => ?_)
        refine take_d (i := 0) (d := some 14) (v := ?_) rfl rfl (by kernel_rfl) (by kernel_rfl) (by kernel_rfl) (fun _ _ _ h => h) (Or.inl ⟨by rfl, ?_⟩) (by assumption) ?_
        rotate_left
        · (intro w hSw; (try dsimp only at hSw); go_simp; (try (with_reducible rfl)))
        simp only [Act.put, List.setIfInBounds_toArray, List.set_cons_zero, List.set_cons_succ]
        refine call_d (i := 1) (d := some 15) rfl rfl (by kernel_rfl) (fun K hK => ?_)
        go_simp
        (go_at_call 61; ((with_reducible refine (HV.out _).mono ?_)); rintro e wq ⟨rfl, hbq⟩; have hacc' := hacc.trans (hbq.mono hacc.size); clear hacc; have hacc := hacc'; clear hacc'; have hSq := HS.out _ hacc; clear hbq)
        (try (go_wp2_with fail))
        refine hK.out _ _ (hSq) (fun hHeld => ?_)
        clear hK K
        (try simp only [Act.put, List.setIfInBounds_toArray, List.set_cons_zero, List.set_cons_succ])
        refine take_d (i := 2) (d := some 16) (v := ?_) rfl rfl (by kernel_rfl) (by kernel_rfl) (by kernel_rfl) (fun _ _ _ h => h) (Or.inl ⟨by rfl, ?_⟩) (by assumption) ?_
        rotate_left
        · (intro w hSw; (try dsimp only at hSw); go_simp; (try (with_reducible rfl)))
        simp only [Act.put, List.setIfInBounds_toArray, List.set_cons_zero, List.set_cons_succ]
        refine take_d (i := 3) (d := some 17) (v := ?_) rfl rfl (by kernel_rfl) (by kernel_rfl) (by kernel_rfl) (fun _ _ _ h => h) (Or.inl ⟨by rfl, ?_⟩) (by assumption) ?_
        rotate_left
        · (intro w hSw; (try dsimp only at hSw); go_simp; (try (with_reducible rfl)))
        simp only [Act.put, List.setIfInBounds_toArray, List.set_cons_zero, List.set_cons_succ]
        refine take_d (i := 4) (d := some 18) (v := ?_) rfl rfl (by kernel_rfl) (by kernel_rfl) (by kernel_rfl) (fun _ _ _ h => h) (Or.inl ⟨by rfl, ?_⟩) (by assumption) ?_
        rotate_left
        · (intro w hSw; (try dsimp only at hSw); go_simp; (try (with_reducible rfl)))
        simp only [Act.put, List.setIfInBounds_toArray, List.set_cons_zero, List.set_cons_succ]
        refine take_d (i := 5) (d := some 19) (v := ?_) rfl rfl (by kernel_rfl) (by kernel_rfl) (by kernel_rfl) (fun _ _ _ h => h) (Or.inl ⟨by rfl, ?_⟩) (by assumption) ?_
        rotate_left
        · (intro w hSw; (try dsimp only at hSw); go_simp; (try (with_reducible rfl)))
        simp only [Act.put, List.setIfInBounds_toArray, List.set_cons_zero, List.set_cons_succ]
        refine take_d (i := 6) (d := some 20) (v := ?_) rfl rfl (by kernel_rfl) (by kernel_rfl) (by kernel_rfl) (fun _ _ _ h => h) (Or.inl ⟨by rfl, ?_⟩) (by assumption) ?_
        rotate_left
        · (intro w hSw; (try dsimp only at hSw); go_simp; (try (with_reducible rfl)))
        simp only [Act.put, List.setIfInBounds_toArray, List.set_cons_zero, List.set_cons_succ]
        refine take_d (i := 7) (d := some 21) (v := ?_) rfl rfl (by kernel_rfl) (by kernel_rfl) (by kernel_rfl) (fun _ _ _ h => h) (Or.inl ⟨by rfl, ?_⟩) (by assumption) ?_
        rotate_left
        · (intro w hSw; (try dsimp only at hSw); go_simp; (try (with_reducible rfl)))
        simp only [Act.put, List.setIfInBounds_toArray, List.set_cons_zero, List.set_cons_succ]
        refine take_d (i := 8) (d := some 22) (v := ?_) rfl rfl (by kernel_rfl) (by kernel_rfl) (by kernel_rfl) (fun _ _ _ h => h) (Or.inl ⟨by rfl, ?_⟩) (by assumption) ?_
        rotate_left
        · (intro w hSw; (try dsimp only at hSw); go_simp; (try (with_reducible rfl)))
        simp only [Act.put, List.setIfInBounds_toArray, List.set_cons_zero, List.set_cons_succ]
        refine take_d (i := 9) (d := some 23) (v := ?_) rfl rfl (by kernel_rfl) (by kernel_rfl) (by kernel_rfl) (fun _ _ _ h => h) (Or.inl ⟨by rfl, ?_⟩) (by assumption) ?_
        rotate_left
        · (intro w hSw; (try dsimp only at hSw); go_simp; (try (with_reducible rfl)))
        simp only [Act.put, List.setIfInBounds_toArray, List.set_cons_zero, List.set_cons_succ]
        refine take_d (i := 10) (d := some 24) (v := ?_) rfl rfl (by kernel_rfl) (by kernel_rfl) (by kernel_rfl) (fun _ _ _ h => h) (Or.inl ⟨by rfl, ?_⟩) (by assumption) ?_
        rotate_left
        · (intro w hSw; (try dsimp only at hSw); go_simp; (try (with_reducible rfl)))
        simp only [Act.put, List.setIfInBounds_toArray, List.set_cons_zero, List.set_cons_succ]
        refine take_d (i := 11) (d := some 25) (v := ?_) rfl rfl (by kernel_rfl) (by kernel_rfl) (by kernel_rfl) (fun _ _ _ h => h) (Or.inl ⟨by rfl, ?_⟩) (by assumption) ?_
        rotate_left
        · (intro w hSw; (try dsimp only at hSw); go_simp; (try (with_reducible rfl)))
        simp only [Act.put, List.setIfInBounds_toArray, List.set_cons_zero, List.set_cons_succ]
        refine take_d (i := 12) (d := some 26) (v := ?_) rfl rfl (by kernel_rfl) (by kernel_rfl) (by kernel_rfl) (fun _ _ _ h => h) (Or.inl ⟨by rfl, ?_⟩) (by assumption) ?_
        rotate_left
        · (intro w hSw; (try dsimp only at hSw); go_simp; (try (with_reducible rfl)))
        simp only [Act.put, List.setIfInBounds_toArray, List.set_cons_zero, List.set_cons_succ]
        refine call_d (i := 13) (d := some 27) rfl rfl (by kernel_rfl) (fun K hK => ?_)
        go_simp
        (clear hSq; go_at_call 63; ((with_reducible refine (HH.out _).mono ?_)); rintro e wq2 ⟨rfl, hbq⟩; have hacc' := hacc.trans (hbq.mono hacc.size); clear hacc; have hacc := hacc'; clear hacc'; have hSq := HS.out _ hacc; clear hbq)
        (try (go_wp2_with fail))
        refine hK.out _ _ (hSq) (fun hHeld => ?_)
        clear hK K
        (try simp only [Act.put, List.setIfInBounds_toArray, List.set_cons_zero, List.set_cons_succ])
        refine take_d (i := 14) (d := some 28) (v := ?_) rfl rfl (by kernel_rfl) (by kernel_rfl) (by kernel_rfl) (fun _ _ _ h => h) (Or.inl ⟨by rfl, ?_⟩) (by assumption) ?_
        rotate_left
        · (intro w hSw; (try dsimp only at hSw); go_simp; (try (with_reducible rfl)))
        simp only [Act.put, List.setIfInBounds_toArray, List.set_cons_zero, List.set_cons_succ]
        refine take_d (i := 15) (d := some 29) (v := ?_) rfl rfl (by kernel_rfl) (by kernel_rfl) (by kernel_rfl) (fun _ _ _ h => h) (Or.inl ⟨by rfl, ?_⟩) (by assumption) ?_
        rotate_left
        · (intro w hSw; (try dsimp only at hSw); go_simp; (try (with_reducible rfl)))
        simp only [Act.put, List.setIfInBounds_toArray, List.set_cons_zero, List.set_cons_succ]
        refine wpAnyH_done (by kernel_rfl) ?_ _
        refine NoPanic.normal ?_
        clear hm1
        have Hacc := Lib.hid hacc; clear hacc
        have hkc : k ≤ c := by omega
        go_wp2_with fail
        go_loopw [34] (fun j wy => ∃ j0 : Nat, j0 ≤ k ∧ chk j0 (freeI xs k) = true ∧ j = .int .i64 j0 ∧ Below wn.heap.size wn wy) (fun j _ => k - (intOf j).toNat)
        case atStart => exact ⟨0, Nat.zero_le _, rfl, rfl, Hacc.out⟩
        case round =>
          obtain ⟨j0, hj, hall2, rfl, hby⟩ := hrel
          have Hall2 := Lib.hid hall2; clear hall2
          obtain ⟨d0, d1, d2, d3⟩ := four_at ((hby.block _ hlw).trans Hnw.out)
          by_cases hlt2 : j0 < k
          · obtain ⟨b2, o2, hA2, hE2⟩ := (HLn.out.below (hby.mono (Nat.le_trans hzB (Nat.le_of_lt hlw)))).atD j0 (by omega)
            obtain ⟨rfl, rfl⟩ : b1 = b2 ∧ o1 = o2 := by simpa using hA2
            clear hA2
            have hlt2' : (j0 : Int) < (k : Int) := by omega
            have h3 := Lib.hid (HP3.out j0 hlt2)
            have h5 := Lib.hid (HP5.out j0)
            generalize atL xs j0 = y at *
            have HC := Lib.hid (fun wx => HCl.out y wx)
            obtain ⟨ya, yb, yf, yt⟩ := y
            obtain ⟨_, g0, g1, g2, g3⟩ := hE2
            dsimp only at g0 g1 g2 g3 HC
            have hz2 : b1 < wr.heap.size := by have := hby.size; omega
            have hz3 : w1.heap.size < wr.heap.size := by have := hby.size; omega
            have Hba2 := Lib.hid (hby.alloc hby.size (.cells #[.string ya, .string yb, .int .i64 yf, .int .i64 yt] 40))
            clear hby
            cases gc : clash ⟨a, b, f, t⟩ ⟨ya, yb, yf, yt⟩ with
            | true =>
              have Hf := Lib.hid (h3.out gc)
              rw [gc] at HC
              clear gc
              go_wp2_with fail
              refine (HC.out _).mono ?_; rintro e w5 ⟨rfl, hb5⟩
              have hb05 := Hba2.out.trans (hb5.mono Hba2.out.size)
              go_wp2_with fail
              go_ret
              rw [Hf.out]; exact ⟨rfl, Hbl.out.trans (hb05.mono Hbl.out.size)⟩
            | false =>
              have Hst2 := Lib.hid (chk_step Hall2.out (h5.out gc))
              rw [gc] at HC
              clear gc
              go_wp2_with fail
              refine (HC.out _).mono ?_; rintro e w5 ⟨rfl, hb5⟩
              have hb05 := Hba2.out.trans (hb5.mono Hba2.out.size)
              go_wp2_with fail
              go_roundw
              case rel => exact ⟨j0 + 1, by omega, Hst2.out, by go_num, hb05⟩
              case measure => simp [intOf]; omega
          · obtain rfl : j0 = k := by omega
            have Hst2 := Lib.hid (HP4.out Hg.out Hg2.out Hall2.out)
            have hb1 := Hbl.out.trans (hby.mono Hbl.out.size)
            go_wp2_with fail
            go_roundw
            case rel => exact ⟨j0 + 1, by omega, Hst2.out, by go_num, hb1⟩
            case measure => simp [intOf]; omega
    · have hc : chk xs.length (placeI xs) = true := by rw [show xs.length = k by omega]; exact Hall.out
      have hf := Lib.hid (show loansOkI xs = decide (xs.length ≤ 60) by unfold loansOkI; rw [hc]; rfl)
      have hlt' : (xs.length : Int) ≤ (k : Int) := by omega
      clear hc
      go_wp2_with fail
      go_ret
      rw [hf.out]; exact ⟨by simp; omega, hbl⟩
theorem ValidLoansI_any (B : Nat) (v : Value) (xs : List Ln) (w : World) (h : RdL w B v xs) (hB : B ≤ w.heap.size) (hl : xs.length ≤ 1048576) (hsm : ∀ x ∈ xs, smL x) (hcap : ∀ A n c, v = .slice A n c → n ≤ c ∧ c ≤ maxLen) :
    Calls Try.prog 50 #[v] w fun e w' => e = .returned (.bool (loansOk xs)) ∧ Below w.heap.size w w' := by
  rw [← loansOk_eq]; exact ValidI0_any B v xs w h hB hl hsm hcap
end Go.Proofs.Ytmheijnckmlbnaa
/- Append of a row that is read, at a step of a region that draws its order. No program is named here. -/
namespace Go.Proofs.Ytmheijnckmlbnaa
open Go.RowKit

section
variable {P : Program}
theorem wp_apr {w : World} {o : Oper} {a : Act} {K : Act → World → Prop} {Q : Exit → Act → World → Prop} (t e : TypeId) (z : Value) (size bytes : Nat)
    (ht : P.underlying t = some (.slice e)) (hinfo : (P.info? e).map (fun i => (i.zero, i.size, i.bytes)) = some (some z, size, bytes)) (hzs : z.cells.size = size) (hsz : 0 < size)
    (s x : Operand) (ho : o.op = .call { callee := .builtin .append, args := #[s, x], argTypes := #[t, t] })
    (base : Nat) (v : Value) (n : Nat) (xs : List Value) (hs : a.eval s = v) (hown : w.ownsRow base e size v n xs)
    (b off m c : Nat) (cs : List Value) (hx : a.eval x = .slice (some ⟨b, off, none⟩) m c) (hl : cs.length = m * size) (hc : ∀ (i : Nat) (u : Value), cs[i]? = some u → w.cell? ⟨b, off + i, none⟩ = some u) (h1 : ∀ u ∈ cs, u.oneCell' = true)
    (h63 : n + m ≤ maxLen) (hbytes : (n + m) * bytes ≤ 140737488355328) (hbase : base ≤ w.heap.size)
    (h : ∀ v' w', w'.ownsRow base e size v' (n + m) (xs ++ cs) → w.grownBy w' v.ownBlock → K (a.put o.dst v') w') :
    o.wp P a w K Q := by
  obtain ⟨i, hi, hz, h2, h3⟩ := info_parts hinfo
  refine wp_append_own _ s x t ho base e i z size bytes ht hi hz h2 h3 hzs hsz v n xs hs hown ⟨b, off, none⟩ m c cs hx hl (fun j u hu => ?_) h1 h63 hbytes hbase ?_
  · have hadd : (⟨b, off, none⟩ : Addr).add j = ⟨b, off + j, none⟩ := by unfold Addr.add; split <;> simp_all
    rw [hadd]; exact hc j u hu
  · intro v' w' ho' hg' _
    exact h v' w' ho' hg'
theorem step_apr {w : World} {ops : Array Oper} {o : Oper} {a : Act} {K : Act → World → Prop} {Q : Exit → Act → World → Prop} {E : Prop} (t e : TypeId) (z : Value) (size bytes : Nat)
    (ht : P.underlying t = some (.slice e)) (hinfo : (P.info? e).map (fun i => (i.zero, i.size, i.bytes)) = some (some z, size, bytes)) (hzs : z.cells.size = size) (hsz : 0 < size)
    (s x : Operand) (hgd : o.guard = none) (ho : o.op = .call { callee := .builtin .append, args := #[s, x], argTypes := #[t, t] })
    (base : Nat) (v : Value) (n : Nat) (xs : List Value) (hs : a.eval s = v) (hown : w.ownsRow base e size v n xs)
    (b off m c : Nat) (cs : List Value) (hx : a.eval x = .slice (some ⟨b, off, none⟩) m c) (hl : cs.length = m * size) (hc : ∀ (i : Nat) (u : Value), cs[i]? = some u → w.cell? ⟨b, off + i, none⟩ = some u) (h1 : ∀ u ∈ cs, u.oneCell' = true)
    (h63 : n + m ≤ maxLen) (hbytes : (n + m) * bytes ≤ 140737488355328) (hbase : base ≤ w.heap.size)
    (h : ∀ v' w', w'.ownsRow base e size v' (n + m) (xs ++ cs) → w.grownBy w' v.ownBlock → K (a.put o.dst v') w') :
    if Region.wanted o (yielded ops a.tmps) = true then Oper.wp P o a w K Q else E := by
  have hw : Region.wanted o (yielded ops a.tmps) = true := by simp [Region.wanted, hgd]
  rw [if_pos hw]
  exact wp_apr t e z size bytes ht hinfo hzs hsz s x ho base v n xs hs hown b off m c cs hx hl hc h1 h63 hbytes hbase h
end
end Go.Proofs.Ytmheijnckmlbnaa
/- Loans, part 12: a loan is added, in plain words; rows of loans. -/
namespace Go.Proofs.Ytmheijnckmlbnaa
open Go.RowKit Go.Joins

theorem flat_part {xs : List Ln} (k : Nat) : xs.flatMap cellsL = (xs.take k).flatMap cellsL ++ (xs.drop k).flatMap cellsL := by
  rw [← List.flatMap_append, List.take_append_drop]
theorem RdL.cells {w : World} {B b o n c : Nat} {xs : List Ln} (h : RdL w B (.slice (some ⟨b, o, none⟩) n c) xs) (i : Nat) (u : Value) (hu : (xs.flatMap cellsL)[i]? = some u) : w.cell? ⟨b, o + i, none⟩ = some u := by
  obtain ⟨hl, A, c', hv, hc⟩ := h
  injection hv with e1 e2 e3
  have hi := (List.getElem?_eq_some_iff.1 hu).1
  obtain ⟨b', o', hA, _, hcc⟩ := hc (by omega)
  rw [hA] at e1
  obtain ⟨rfl, rfl⟩ : b = b' ∧ o = o' := by simpa using e1
  exact hcc i u hu
theorem RdL.head {w : World} {B b o n c : Nat} {xs : List Ln} (h : RdL w B (.slice (some ⟨b, o, none⟩) n c) xs) (k i : Nat) (u : Value) (hu : ((xs.take k).flatMap cellsL)[i]? = some u) : w.cell? ⟨b, o + i, none⟩ = some u := by
  refine h.cells i u ?_
  rw [flat_part k, List.getElem?_append_left (List.getElem?_eq_some_iff.1 hu).1]
  exact hu
theorem RdL.tail {w : World} {B b o n c : Nat} {xs : List Ln} (h : RdL w B (.slice (some ⟨b, o, none⟩) n c) xs) (k : Nat) (hk : k ≤ xs.length) (i : Nat) (u : Value) (hu : ((xs.drop k).flatMap cellsL)[i]? = some u) : w.cell? ⟨b, o + k * 4 + i, none⟩ = some u := by
  have : (xs.flatMap cellsL)[k * 4 + i]? = some u := by
    rw [flat_part k, List.getElem?_append_right (by rw [flat_len cellsL 4 (fun _ => rfl), List.length_take]; omega), flat_len cellsL 4 (fun _ => rfl), List.length_take, ← hu]
    congr 1; omega
  have := h.cells _ u this
  rwa [← Nat.add_assoc] at this
theorem cellsL_one (l : List Ln) : ∀ u ∈ l.flatMap cellsL, u.oneCell' = true := by
  intro u hu
  obtain ⟨x, _, hx⟩ := List.mem_flatMap.1 hu
  simp [cellsL] at hx
  rcases hx with rfl | rfl | rfl | rfl <;> rfl
/-- a row of loans of the call's own -/
def OwnL (w : World) (base : Nat) (v : Value) (zs : List Ln) : Prop := w.ownsRow base 40 4 v zs.length (zs.flatMap cellsL)
theorem OwnL.app {w : World} {base n m : Nat} {v : Value} {zs ys : List Ln} (h : w.ownsRow base 40 4 v (n + m) (zs.flatMap cellsL ++ ys.flatMap cellsL)) (hn : n = zs.length) (hm : m = ys.length) : OwnL w base v (zs ++ ys) := by
  subst hn hm
  unfold OwnL
  rw [List.length_append, List.flatMap_append]; exact h
theorem OwnL.mid {w : World} {base base' a m : Nat} {v : Value} {xs ys : List Ln} {x : Ln} (h : w.ownsRow base' 40 4 v (a + 1 + m) ((xs.flatMap cellsL ++ (#[Value.string x.what, .string x.who, .int .i64 x.from_, .int .i64 x.till] : Array Value).toList) ++ ys.flatMap cellsL)) (ha : xs.length = a) (hm : ys.length = m) (hb : base ≤ base') : OwnL w base v ((xs ++ [x]) ++ ys) := by
  subst ha hm
  have e1 : ((xs ++ [x]) ++ ys).length = xs.length + 1 + ys.length := by simp; omega
  have e2 : ((xs ++ [x]) ++ ys).flatMap cellsL = (xs.flatMap cellsL ++ (#[Value.string x.what, .string x.who, .int .i64 x.from_, .int .i64 x.till] : Array Value).toList) ++ ys.flatMap cellsL := by
    rw [List.flatMap_append, List.flatMap_append]; simp [cellsL]
  unfold OwnL
  rw [e1, e2]
  exact ownsRow_le h hb
theorem OwnL.rd {w : World} {base : Nat} {v : Value} {zs : List Ln} (h : OwnL w base v zs) : RdL w w.heap.size v zs := Rd.of_own h
theorem OwnL.slice {w : World} {base : Nat} {v : Value} {zs : List Ln} (h : OwnL w base v zs) : ∃ A c, v = .slice A zs.length c := h.rd.slice

/-- the last place behind which the new loan stands, from the front -/
def upI (q : Ln → Bool) : List Ln → Nat → Nat → Nat
  | [], _, a => a
  | y :: l, k, a => upI q l (k + 1) (if q y = true then k + 1 else a)
/-- the same, from the end -/
def dnS (p : Nat → Bool) : Nat → Nat
  | 0 => 0
  | k + 1 => if p k = true then dnS p k else k + 1
theorem upI_at (q : Ln → Bool) (xs : List Ln) (k a : Nat) (hk : k < xs.length) : upI q (xs.drop k) k a = upI q (xs.drop (k + 1)) (k + 1) (if q xs[k] = true then k + 1 else a) := by
  rw [List.drop_eq_getElem_cons hk]; rfl
theorem upI_app (q : Ln → Bool) : ∀ (l r : List Ln) (k a : Nat), upI q (l ++ r) k a = upI q r (k + l.length) (upI q l k a)
  | [], r, k, a => rfl
  | y :: l, r, k, a => by
    show upI q (l ++ r) (k + 1) (if q y = true then k + 1 else a) = upI q r (k + (y :: l).length) (upI q l (k + 1) (if q y = true then k + 1 else a))
    rw [upI_app q l r, List.length_cons, show k + (l.length + 1) = k + 1 + l.length by omega]
theorem upI_dn (q : Ln → Bool) (p : Nat → Bool) (xs : List Ln) : ∀ n, n ≤ xs.length → (∀ j, j < n → p j = !q (atL xs j)) → upI q (xs.take n) 0 0 = dnS p n
  | 0, _, _ => rfl
  | n + 1, hn, hp => by
    rw [List.take_succ_eq_append_getElem (by omega), upI_app, upI_dn q p xs n (by omega) (fun j hj => hp j (by omega))]
    have h1 := hp n (by omega)
    rw [atL_at xs n (by omega)] at h1
    show (if q xs[n] = true then 0 + (xs.take n).length + 1 else dnS p n) = (if p n = true then dnS p n else n + 1)
    rw [h1, List.length_take, Nat.min_eq_left (by omega), Nat.zero_add]
    cases q xs[n] <;> rfl
theorem dnS_le (p : Nat → Bool) : ∀ n, dnS p n ≤ n
  | 0 => Nat.le_refl _
  | n + 1 => by
    unfold dnS
    split
    · exact Nat.le_succ_of_le (dnS_le p n)
    · exact Nat.le_refl _
def hitI (xs : List Ln) (x : Ln) (k : Nat) : Bool := !clash x (atL xs k)
def addC (xs : List Ln) (x : Ln) : Int := if loansOk xs = false then 1 else if loanOk x = false then 2 else if chk xs.length (hitI xs x) = false then 9 else if 60 ≤ xs.length then 5 else 0
def addAt (xs : List Ln) (x : Ln) : Nat := dnS (fun k => before x (atL xs k)) xs.length
def addR (xs : List Ln) (x : Ln) : List Ln := if addC xs x = 0 then xs.take (addAt xs x) ++ x :: xs.drop (addAt xs x) else []
theorem addAt_le (xs : List Ln) (x : Ln) : addAt xs x ≤ xs.length := dnS_le _ _
theorem addAt_up {xs : List Ln} {x : Ln} (h1 : loansOk xs = true) (h2 : loanOk x = true) (h3 : chk xs.length (hitI xs x) = true) : upI (fun y => before y x) xs 0 0 = addAt xs x := by
  have := upI_dn (fun y => before y x) (fun k => before x (atL xs k)) xs xs.length (Nat.le_refl _) (fun j hj => by
    have h4 := chk_get h3 hj
    unfold hitI at h4
    unfold loansOk at h1
    simp only [Bool.and_eq_true] at h1
    have h5 := chk_get h1.1 hj
    unfold placeS at h5
    simp only [Bool.and_eq_true] at h5
    exact before_flip h2 h5.1.1 (by simpa using h4))
  rwa [List.take_length] at this
theorem add_1 {xs : List Ln} {x : Ln} (h : loansOk xs = false) : addC xs x = 1 ∧ addR xs x = [] := by
  have : addC xs x = 1 := by unfold addC; rw [if_pos h]
  exact ⟨this, by unfold addR; rw [this]; rfl⟩
theorem add_2 {xs : List Ln} {x : Ln} (h : loansOk xs = true) (h2 : loanOk x = false) : addC xs x = 2 ∧ addR xs x = [] := by
  have : addC xs x = 2 := by unfold addC; rw [h, h2]; rfl
  exact ⟨this, by unfold addR; rw [this]; rfl⟩
theorem add_9 {xs : List Ln} {x : Ln} (h : loansOk xs = true) (h2 : loanOk x = true) (k : Nat) (hk : k < xs.length) (h3 : clash x xs[k] = true) : addC xs x = 9 ∧ addR xs x = [] := by
  have hc : chk xs.length (hitI xs x) = false := chk_bad k hk (by unfold hitI; rw [atL_at xs k hk, h3]; rfl)
  have : addC xs x = 9 := by unfold addC; rw [h, h2, hc]; rfl
  exact ⟨this, by unfold addR; rw [this]; rfl⟩
theorem add_5 {xs : List Ln} {x : Ln} (h : loansOk xs = true) (h2 : loanOk x = true) (h3 : chk xs.length (hitI xs x) = true) (h4 : 60 ≤ xs.length) : addC xs x = 5 ∧ addR xs x = [] := by
  have : addC xs x = 5 := by unfold addC; rw [h, h2, h3, if_pos h4]; rfl
  exact ⟨this, by unfold addR; rw [this]; rfl⟩
theorem add_0 {xs : List Ln} {x : Ln} (h : loansOk xs = true) (h2 : loanOk x = true) (h3 : chk xs.length (hitI xs x) = true) (h4 : xs.length < 60) : addC xs x = 0 ∧ addR xs x = (xs.take (addAt xs x) ++ [x]) ++ xs.drop (addAt xs x) := by
  have : addC xs x = 0 := by unfold addC; rw [h, h2, h3]; simp; omega
  exact ⟨this, by unfold addR; rw [if_pos this]; simp⟩
theorem loansOk_len {xs : List Ln} (h : loansOk xs = true) : xs.length ≤ 60 := by
  unfold loansOk at h
  simp only [Bool.and_eq_true, decide_eq_true_eq] at h
  exact h.2
theorem hit_step {xs : List Ln} {x : Ln} {k : Nat} (hk : k < xs.length) (h0 : chk k (hitI xs x) = true) (h : clash x xs[k] = false) : chk (k + 1) (hitI xs x) = true :=
  chk_step h0 (by unfold hitI; rw [atL_at xs k hk, h]; rfl)

/-- a new list of loans and a code -/
def RetLn (code : Int) (zs : List Ln) (w : World) (e : Ending) (w' : World) : Prop :=
  ∃ v, e = .returned (.tuple #[v, .int .i64 code]) ∧ OwnL w' w.heap.size v zs ∧ Below w.heap.size w w'
theorem RetLn_no {code c2 : Int} {zs : List Ln} {w w' : World} (h : code = c2 ∧ zs = []) (hb : Below w.heap.size w w') : RetLn code zs w (.returned (.tuple #[.slice none 0 0, .int .i64 c2])) w' := by
  obtain ⟨rfl, rfl⟩ := h
  exact ⟨_, rfl, World.ownsRow_nil _ _ _ _, hb⟩
theorem RetLn_yes {code c2 : Int} {zs l : List Ln} {v : Value} {w w' : World} (h : code = c2 ∧ zs = l) (ho : OwnL w' w.heap.size v l) (hb : Below w.heap.size w w') : RetLn code zs w (.returned (.tuple #[v, .int .i64 c2])) w' := by
  obtain ⟨rfl, rfl⟩ := h
  exact ⟨_, rfl, ho, hb⟩
end Go.Proofs.Ytmheijnckmlbnaa
/- Loans, part 13: a loan is added, the program's side. -/
namespace Go.Proofs.Ytmheijnckmlbnaa
open Go.RowKit Go.Joins

set_option maxRecDepth 100000 in
set_option maxHeartbeats 6400000 in
theorem AddI_any (B b o c : Nat) (xs : List Ln) (x : Ln) (w : World) (h : RdL w B (.slice (some ⟨b, o, none⟩) xs.length c) xs) (hB : B ≤ w.heap.size) (hl : xs.length ≤ 1048576) (hsm : ∀ x ∈ xs, smL x) (hx : smL x) (hc : xs.length ≤ c) (hc2 : c ≤ maxLen) :
    Calls Try.prog 21 #[.slice (some ⟨b, o, none⟩) xs.length c, aggL x] w (RetLn (addC xs x) (addR xs x) w) := by
  have HV := Lib.hid (fun wx hx hz => ValidLoansI_any B (.slice (some ⟨b, o, none⟩) xs.length c) xs wx hx hz hl hsm (fun A n c' e => by injection e with _ e2 e3; exact ⟨by omega, by omega⟩))
  have H1 := Lib.hid (fun wx => validLoan_any x wx hx)
  have HC := Lib.hid (fun y wx => clashes_any x y wx)
  have HH := Lib.hid (fun y wx => ahead_any y x wx)
  have A1 := Lib.hid (add_1 (xs := xs) (x := x))
  have A2 := Lib.hid (add_2 (xs := xs) (x := x))
  have A9 := Lib.hid (add_9 (xs := xs) (x := x))
  have A5 := Lib.hid (add_5 (xs := xs) (x := x))
  have A0 := Lib.hid (add_0 (xs := xs) (x := x))
  have hal := addAt_le xs x
  have Hup := Lib.hid (addAt_up (xs := xs) (x := x))
  have Hln := Lib.hid (loansOk_len (xs := xs))
  have Hone := Lib.hid (cellsL_one [x])
  generalize addC xs x = C at *
  generalize addR xs x = R at *
  generalize addAt xs x = at' at *
  have H := Lib.hid h
  clear h hsm hx
  simp only [maxLen] at hc2
  obtain ⟨xa, xb, xf, xt⟩ := x
  (try dsimp only at HC HH H1)
  have hb0 := Lib.hid ((Below.refl w.heap.size w).alloc (Nat.le_refl _) (.cells #[.string xa, .string xb, .int .i64 xf, .int .i64 xt] 40))
  have Hnw := Lib.hid (heap_alloc_new w (.cells #[.string xa, .string xb, .int .i64 xf, .int .i64 xt] 40))
  have hlw : w.heap.size < (w.alloc (.cells #[.string xa, .string xb, .int .i64 xf, .int .i64 xt] 40)).heap.size := by simp
  have HL := Lib.hid (H.out.below (hb0.out.mono hB))
  have hzB : B ≤ (w.alloc (.cells #[.string xa, .string xb, .int .i64 xf, .int .i64 xt] 40)).heap.size := Nat.le_trans hB (Nat.le_of_lt hlw)
  cases g1 : loansOk xs with
  | false =>
    have Hf := Lib.hid (A1.out g1)
    rw [g1] at HV
    clear g1
    go_enter Try.func21, Try.ntmps21
    go_wp2_with fail
    refine (HV.out _ HL.out hzB).mono ?_; rintro e w1 ⟨rfl, hb1⟩
    go_wp2_with fail
    go_ret2
    exact RetLn_no Hf.out (hb0.out.trans (hb1.mono hb0.out.size))
  | true =>
    rw [g1] at HV
    cases g2 : loanOk ⟨xa, xb, xf, xt⟩ with
    | false =>
      have Hf := Lib.hid (A2.out g1 g2)
      rw [g2] at H1
      clear g1 g2
      go_enter Try.func21, Try.ntmps21
      go_wp2_with fail
      refine (HV.out _ HL.out hzB).mono ?_; rintro e w1 ⟨rfl, hb1⟩
      obtain ⟨d0, d1, d2, d3⟩ := four_at ((hb1.block _ hlw).trans Hnw.out)
      have hb01 := Lib.hid (hb0.out.trans (hb1.mono hb0.out.size))
      clear hb1
      go_wp2_with fail
      refine (H1.out _).mono ?_; rintro e w2 ⟨rfl, hb2⟩
      go_wp2_with fail
      go_ret2
      exact RetLn_no Hf.out (hb01.out.trans (hb2.mono hb01.out.size))
    | true =>
      have B9 := Lib.hid (A9.out g1 g2)
      have B5 := Lib.hid (A5.out g1 g2)
      have B0 := Lib.hid (A0.out g1 g2)
      have Bup := Lib.hid (Hup.out g1 g2)
      have hlen := Hln.out g1
      rw [g2] at H1
      clear g1 g2 A1 A2 A9 A5 A0 Hup Hln
      go_enter Try.func21, Try.ntmps21
      go_wp2_with fail
      generalize w.alloc (.cells #[.string xa, .string xb, .int .i64 xf, .int .i64 xt] 40) = wn at *
      refine (HV.out _ HL.out hzB).mono ?_; rintro e w1 ⟨rfl, hb1⟩
      obtain ⟨d0, d1, d2, d3⟩ := four_at ((hb1.block _ hlw).trans Hnw.out)
      go_wp2_with fail
      refine (H1.out _).mono ?_; rintro e w2 ⟨rfl, hb2⟩
      have hb02 := Lib.hid (hb1.trans (hb2.mono hb1.size))
      clear hb1 hb2 d0 d1 d2 d3
      go_wp2_with fail
      go_loopw [6, 18] (fun a i wr => ∃ k a0 : Nat, k ≤ xs.length ∧ a0 ≤ k ∧ chk k (hitI xs ⟨xa, xb, xf, xt⟩) = true ∧ upI (fun y => before y ⟨xa, xb, xf, xt⟩) xs 0 0 = upI (fun y => before y ⟨xa, xb, xf, xt⟩) (xs.drop k) k a0 ∧ a = .int .i64 a0 ∧ i = .int .i64 k ∧ Below wn.heap.size wn wr) (fun _ i _ => xs.length - (intOf i).toNat)
      case atStart => exact ⟨0, 0, Nat.zero_le _, Nat.le_refl _, rfl, rfl, rfl, rfl, hb02.out⟩
      case round =>
        obtain ⟨k, a0, hk, ha0, hall, hup, rfl, rfl, hbl⟩ := hrel
        have Hall := Lib.hid hall; clear hall
        have Hu := Lib.hid hup; clear hup
        obtain ⟨d0, d1, d2, d3⟩ := four_at ((hbl.block _ hlw).trans Hnw.out)
        by_cases hlt : k < xs.length
        · obtain ⟨b1, o1, hA, hE⟩ := (HL.out.below (hbl.mono hzB)).at k hlt
          obtain ⟨rfl, rfl⟩ : b = b1 ∧ o = o1 := by simpa using hA
          clear hA
          have hlt' : (k : Int) < (xs.length : Int) := by omega
          have K9 := Lib.hid (B9.out k hlt)
          have Kh := Lib.hid (hit_step hlt Hall.out)
          have Ku := Lib.hid (upI_at (fun y => before y ⟨xa, xb, xf, xt⟩) xs k a0 hlt)
          generalize xs[k] = y at *
          have HCy := Lib.hid (fun wx => HC.out y wx)
          have HHy := Lib.hid (fun wx => HH.out y wx)
          obtain ⟨ya, yb, yf, yt⟩ := y
          obtain ⟨_, e0, e1, e2, e3⟩ := hE
          dsimp only at e0 e1 e2 e3
          (try dsimp only at HCy HHy Ku)
          have hba := hbl.alloc hbl.size (.cells #[.string ya, .string yb, .int .i64 yf, .int .i64 yt] 40)
          have Hnb := Lib.hid (fun wx (hb : Below (wr.alloc (.cells #[.string ya, .string yb, .int .i64 yf, .int .i64 yt] 40)).heap.size (wr.alloc (.cells #[.string ya, .string yb, .int .i64 yf, .int .i64 yt] 40)) wx) => four_at ((hb.block _ (by simp)).trans (heap_alloc_new wr (.cells #[.string ya, .string yb, .int .i64 yf, .int .i64 yt] 40))))
          have Hba := Lib.hid hba
          have hz1 : b < wr.heap.size := World.block_lt_of_cell? wr _ e0
          have hz2 : w.heap.size < wr.heap.size := World.block_lt_of_cell? wr _ d0
          clear hba hbl
          cases gc : clash ⟨xa, xb, xf, xt⟩ ⟨ya, yb, yf, yt⟩ with
          | true =>
            have Hf := Lib.hid (K9.out gc)
            rw [gc] at HCy
            clear gc
            go_wp2_with fail
            refine (HCy.out _).mono ?_; rintro e w5 ⟨rfl, hb5⟩
            have hb05 := Hba.out.trans (hb5.mono Hba.out.size)
            go_wp2_with fail
            go_ret2
            exact RetLn_no Hf.out (hb0.out.trans (hb05.mono hb0.out.size))
          | false =>
            have Kh2 := Lib.hid (Kh.out gc)
            rw [gc] at HCy
            clear gc
            cases gb : before ⟨ya, yb, yf, yt⟩ ⟨xa, xb, xf, xt⟩ with
            | true =>
              rw [gb, if_pos rfl] at Ku
              rw [gb] at HHy
              clear gb
              go_wp2_with fail
              refine (HCy.out _).mono ?_; rintro e w5 ⟨rfl, hb5⟩
              have hb05 := Lib.hid (Hba.out.trans (hb5.mono Hba.out.size))
              obtain ⟨d0, d1, d2, d3⟩ := four_at ((hb05.out.block _ hlw).trans Hnw.out)
              obtain ⟨f0, f1, f2, f3⟩ := Hnb.out _ hb5
              clear hb5
              go_wp2_with fail
              refine (HHy.out _).mono ?_; rintro e w6 ⟨rfl, hb6⟩
              have hb06 := hb05.out.trans (hb6.mono hb05.out.size)
              go_wp2_with fail
              go_roundw
              case rel => exact ⟨k + 1, k + 1, by omega, by omega, Kh2.out, by rw [Hu.out, Ku.out], by go_num, by go_num, hb06⟩
              case measure => simp [intOf]; omega
            | false =>
              rw [gb, if_neg (by simp)] at Ku
              rw [gb] at HHy
              clear gb
              go_wp2_with fail
              refine (HCy.out _).mono ?_; rintro e w5 ⟨rfl, hb5⟩
              have hb05 := Lib.hid (Hba.out.trans (hb5.mono Hba.out.size))
              obtain ⟨d0, d1, d2, d3⟩ := four_at ((hb05.out.block _ hlw).trans Hnw.out)
              obtain ⟨f0, f1, f2, f3⟩ := Hnb.out _ hb5
              clear hb5
              go_wp2_with fail
              refine (HHy.out _).mono ?_; rintro e w6 ⟨rfl, hb6⟩
              have hb06 := hb05.out.trans (hb6.mono hb05.out.size)
              go_wp2_with fail
              go_roundw
              case rel => exact ⟨k + 1, a0, by omega, by omega, Kh2.out, by rw [Hu.out, Ku.out], rfl, by go_num, hb06⟩
              case measure => simp [intOf]; omega
        · obtain rfl : k = xs.length := by omega
          have hat : a0 = at' := by
            have := Hu.out
            rw [List.drop_length, Bup.out Hall.out] at this
            exact this.symm
          subst hat
          by_cases h60 : 60 ≤ xs.length
          · have Hf := Lib.hid (B5.out Hall.out h60)
            have hq : ((xs.length : Int) == 60) = true := by simp; omega
            have hq2 : (xs.length == 60) = true := by simp; omega
            go_wp2_with fail
            go_ret2
            exact RetLn_no Hf.out (hb0.out.trans (hbl.mono hb0.out.size))
          · have Hf := Lib.hid (B0.out Hall.out (by omega))
            have hq : ((xs.length : Int) == 60) = false := by simp; omega
            have hq2 : (xs.length == 60) = false := by simp; omega
            have hlr : w.heap.size ≤ wr.heap.size := by have := hbl.size; omega
            have ho0 := Lib.hid (World.ownsRow_made (base := wn.heap.size) (e := 40) (size := 4) wr #[] 0 hbl.size (by simp [maxLen]) rfl)
            have hba := Lib.hid (hbl.alloc hbl.size (.cells #[] 40))
            have HLb := Lib.hid (HL.out.below (hba.out.mono hzB))
            have hkc : a0 ≤ c := by omega
            have Hl1 := Lib.hid (show ((xs.take a0).flatMap cellsL).length = a0 * 4 by rw [flat_len cellsL 4 (fun _ => rfl), List.length_take]; omega)
            have Hl2 := Lib.hid (show ((xs.drop a0).flatMap cellsL).length = (xs.length - a0) * 4 by rw [flat_len cellsL 4 (fun _ => rfl), List.length_drop])
            have Hlt := Lib.hid (show (xs.take a0).length = a0 by rw [List.length_take]; omega)
            clear hbl
            by_cases hcap : c = a0
            · obtain rfl : c = a0 := hcap
              go_wp2_with (at_builtin; refine wpList_apr 24 40 _ 4 48 Try.underlying24 infoL rfl (by omega) _ _ rfl rfl wn.heap.size _ 0 _ rfl ho0.out b o c _ ((xs.take c).flatMap cellsL) rfl Hl1.out (HLb.out.head c) (cellsL_one _) (by simp [maxLen]; omega) (by omega) hba.out.size ?_; intro v7 w7 hown7 hg7; obtain ⟨_, A7, c7, rfl, _⟩ := Rd.of_own hown7; have Hb7 := Lib.hid (below_apd hba.out ho0.out hg7 (Nat.le_refl _) hba.out.size); simp only [Nat.zero_add, List.nil_append] at hown7; have Hown7 := Lib.hid hown7; clear hown7 hg7)
              obtain ⟨d0, d1, d2, d3⟩ := four_at ((Hb7.out.block _ hlw).trans Hnw.out)
              go_region_law ((first | (refine step_apd 24 40 _ 4 48 Try.underlying24 infoL rfl (by omega) _ _ (by rfl) (by rfl) wn.heap.size _ c _ (by rfl) Hown7.out #[.string xa, .string xb, .int .i64 xf, .int .i64 xt] 1 1 (by rfl) (by rfl) (by simp [Value.oneCell']) (by simp [maxLen]; omega) (by omega) (Hb7.out.size) ?_; intro v8 w8 hown8 hg8; have Hb8 := Lib.hid (below_apd Hb7.out Hown7.out hg8 (Nat.le_refl _) Hb7.out.size); obtain ⟨_, A8, c8, rfl, _⟩ := Rd.of_own hown8; have Hown8 := Lib.hid hown8; clear hown8 hg8) | (refine step_apr 24 40 _ 4 48 Try.underlying24 infoL rfl (by omega) _ _ (by rfl) (by rfl) wn.heap.size _ (c + 1) _ (by rfl) Hown8.out b o 0 0 [] (by rfl) (by rfl) (by simp) (by simp) (by simp [maxLen]; omega) (by omega) (Hb8.out.size) ?_; intro v9 w9 hown9 hg9; have Hb9 := Lib.hid (below_apd Hb8.out Hown8.out hg9 (Nat.le_refl _) Hb8.out.size); obtain ⟨_, A9, c9, rfl, _⟩ := Rd.of_own hown9; have Hown9 := Lib.hid hown9; clear hown9 hg9)))
              go_wp2_with fail
              go_ret2
              exact RetLn_yes (by have := Hf.out; rw [List.drop_of_length_le (by omega)] at this; exact this) (OwnL.mid (ys := []) (x := ⟨xa, xb, xf, xt⟩) Hown9.out Hlt.out rfl hb0.out.size) (hb0.out.trans (Hb9.out.mono hb0.out.size))
            · go_wp2_with (at_builtin; refine wpList_apr 24 40 _ 4 48 Try.underlying24 infoL rfl (by omega) _ _ rfl rfl wn.heap.size _ 0 _ rfl ho0.out b o a0 _ ((xs.take a0).flatMap cellsL) rfl Hl1.out (HLb.out.head a0) (cellsL_one _) (by simp [maxLen]; omega) (by omega) hba.out.size ?_; intro v7 w7 hown7 hg7; obtain ⟨_, A7, c7, rfl, _⟩ := Rd.of_own hown7; have Hb7 := Lib.hid (below_apd hba.out ho0.out hg7 (Nat.le_refl _) hba.out.size); simp only [Nat.zero_add, List.nil_append] at hown7; have Hown7 := Lib.hid hown7; clear hown7 hg7)
              obtain ⟨d0, d1, d2, d3⟩ := four_at ((Hb7.out.block _ hlw).trans Hnw.out)
              go_region_law ((first | (refine step_apd 24 40 _ 4 48 Try.underlying24 infoL rfl (by omega) _ _ (by rfl) (by rfl) wn.heap.size _ a0 _ (by rfl) Hown7.out #[.string xa, .string xb, .int .i64 xf, .int .i64 xt] 1 1 (by rfl) (by rfl) (by simp [Value.oneCell']) (by simp [maxLen]; omega) (by omega) (Hb7.out.size) ?_; intro v8 w8 hown8 hg8; have Hb8 := Lib.hid (below_apd Hb7.out Hown7.out hg8 (Nat.le_refl _) Hb7.out.size); obtain ⟨_, A8, c8, rfl, _⟩ := Rd.of_own hown8; have Hown8 := Lib.hid hown8; clear hown8 hg8) | (refine step_apr 24 40 _ 4 48 Try.underlying24 infoL rfl (by omega) _ _ (by rfl) (by rfl) wn.heap.size _ (a0 + 1) _ (by rfl) Hown8.out b (o + a0 * 4) (xs.length - a0) _ ((xs.drop a0).flatMap cellsL) (by rfl) Hl2.out ((HL.out.below (Hb8.out.mono hzB)).tail a0 (by omega)) (cellsL_one _) (by simp [maxLen]; omega) (by omega) (Hb8.out.size) ?_; intro v9 w9 hown9 hg9; have Hb9 := Lib.hid (below_apd Hb8.out Hown8.out hg9 (Nat.le_refl _) Hb8.out.size); obtain ⟨_, A9, c9, rfl, _⟩ := Rd.of_own hown9; have Hown9 := Lib.hid hown9; clear hown9 hg9)))
              go_wp2_with fail
              go_ret2
              exact RetLn_yes Hf.out (OwnL.mid (x := ⟨xa, xb, xf, xt⟩) Hown9.out Hlt.out (by rw [List.length_drop]) hb0.out.size) (hb0.out.trans (Hb9.out.mono hb0.out.size))
end Go.Proofs.Ytmheijnckmlbnaa
/- Loans, part 14 (printed by genlo14.py): a loan is added, the reference's side. -/
namespace Go.Proofs.Ytmheijnckmlbnaa
open Go.RowKit Go.Joins

theorem dnS_at (p : Nat → Bool) (m : Nat) : dnS p (m + 1) = if p m = true then dnS p m else m + 1 := rfl
theorem dn_cases (p : Nat → Bool) (k : Nat) : (∃ m, m + 1 = k ∧ p m = true ∧ dnS p k = dnS p m) ∨ (k = 0 ∧ dnS p k = k) ∨ ∃ m, m + 1 = k ∧ p m = false ∧ dnS p k = k := by
  cases k with
  | zero => exact .inr (.inl ⟨rfl, rfl⟩)
  | succ m =>
    cases h : p m with
    | true => exact .inl ⟨m, rfl, h, by rw [dnS_at, h]; rfl⟩
    | false => exact .inr (.inr ⟨m, rfl, h, by rw [dnS_at, h]; rfl⟩)

set_option maxRecDepth 100000 in
set_option maxHeartbeats 6400000 in
theorem AddS_any (B b o c : Nat) (xs : List Ln) (x : Ln) (w : World) (h : RdL w B (.slice (some ⟨b, o, none⟩) xs.length c) xs) (hB : B ≤ w.heap.size) (hl : xs.length ≤ 1048576) (hsm : ∀ x ∈ xs, smL x) (hx : smL x) (hc : xs.length ≤ c) (hc2 : c ≤ maxLen) :
    Calls Try.prog 119 #[.slice (some ⟨b, o, none⟩) xs.length c, aggL x] w (RetLn (addC xs x) (addR xs x) w) := by
  have HV := Lib.hid (fun wx hx => l23Ok_any B (.slice (some ⟨b, o, none⟩) xs.length c) xs wx hx hl hsm)
  have HO := Lib.hid (fun wx B2 b2 o2 h2 => l23One_any B2 b2 o2 x wx h2 hx)
  have A1 := Lib.hid (add_1 (xs := xs) (x := x))
  have A2 := Lib.hid (add_2 (xs := xs) (x := x))
  have A9 := Lib.hid (add_9 (xs := xs) (x := x))
  have A5 := Lib.hid (add_5 (xs := xs) (x := x))
  have A0 := Lib.hid (add_0 (xs := xs) (x := x))
  have hal := addAt_le xs x
  have Hdn := Lib.hid (show addAt xs x = dnS (fun k => before x (atL xs k)) xs.length from rfl)
  have Hln := Lib.hid (loansOk_len (xs := xs))
  generalize addC xs x = C at *
  generalize addR xs x = R at *
  generalize addAt xs x = at' at *
  have H := Lib.hid h
  clear h hsm hx
  simp only [maxLen] at hc2
  obtain ⟨xa, xb, xf, xt⟩ := x
  have hb0 := Lib.hid ((Below.refl w.heap.size w).alloc (Nat.le_refl _) (.cells #[.string xa, .string xb, .int .i64 xf, .int .i64 xt] 40))
  have Hnw := Lib.hid (heap_alloc_new w (.cells #[.string xa, .string xb, .int .i64 xf, .int .i64 xt] 40))
  have hlw : w.heap.size < (w.alloc (.cells #[.string xa, .string xb, .int .i64 xf, .int .i64 xt] 40)).heap.size := by simp
  have HL := Lib.hid (H.out.below (hb0.out.mono hB))
  have hzB : B ≤ (w.alloc (.cells #[.string xa, .string xb, .int .i64 xf, .int .i64 xt] 40)).heap.size := Nat.le_trans hB (Nat.le_of_lt hlw)
  go_enter Try.func119, Try.ntmps119
  go_wp2_with fail
  generalize w.alloc (.cells #[.string xa, .string xb, .int .i64 xf, .int .i64 xt] 40) = wn at *
  have HX := Lib.hid (fun wx (hb : Below wn.heap.size wn wx) => (show LnAt wx wn.heap.size w.heap.size 0 ⟨xa, xb, xf, xt⟩ from by
    obtain ⟨d0, d1, d2, d3⟩ := four_at ((hb.block _ hlw).trans Hnw.out)
    exact ⟨hlw, d0, d1, d2, d3⟩))
  have hb00 := Lib.hid (Below.refl wn.heap.size wn)
  refine (HV.out _ HL.out).mono ?_; rintro e w1 ⟨rfl, n1, rfl⟩
  have hb1 := Lib.hid (below_drewN hb00.out n1)
  generalize wn.drewN n1 = w1 at *
  cases g1 : loansOk xs with
  | false =>
    have Hf := Lib.hid (A1.out g1)
    clear A1 A2 A9 A5 A0
    go_wp2_with fail
    go_ret2
    exact RetLn_no Hf.out (hb0.out.trans (hb1.out.mono hb0.out.size))
  | true =>
    cases g2 : loanOk ⟨xa, xb, xf, xt⟩ with
    | false =>
      have Hf := Lib.hid (A2.out g1 g2)
      rw [g2] at HO
      clear g1 g2 A1 A2 A9 A5 A0
      go_wp2_with fail
      refine (HO.out _ _ _ _ (HX.out _ hb1.out)).mono ?_; rintro e w2 ⟨rfl, n2, rfl⟩
      go_wp2_with fail
      go_ret2
      exact RetLn_no Hf.out (hb0.out.trans ((below_drewN hb1.out n2).mono hb0.out.size))
    | true =>
      have B9 := Lib.hid (A9.out g1 g2)
      have B5 := Lib.hid (A5.out g1 g2)
      have B0 := Lib.hid (A0.out g1 g2)
      have hlen := Hln.out g1
      rw [g2] at HO
      clear g1 g2 A1 A2 A9 A5 A0 Hln
      go_wp2_with fail
      refine (HO.out _ _ _ _ (HX.out _ hb1.out)).mono ?_; rintro e w2 ⟨rfl, n2, rfl⟩
      have hb2 := Lib.hid (below_drewN hb1.out n2)
      generalize w1.drewN n2 = w2 at *
      clear HO
      go_wp2_with fail
      go_loopw [6] (fun i wr => ∃ k : Nat, k ≤ xs.length ∧ chk k (hitI xs ⟨xa, xb, xf, xt⟩) = true ∧ i = .int .i64 k ∧ Below wn.heap.size wn wr) (fun i _ => xs.length - (intOf i).toNat)
      case atStart => exact ⟨0, Nat.zero_le _, rfl, rfl, hb2.out⟩
      case round =>
        obtain ⟨k, hk, hall, rfl, hbl⟩ := hrel
        have Hall := Lib.hid hall; clear hall
        by_cases hlt : k < xs.length
        · obtain ⟨b1, o1, hA, hE⟩ := (HL.out.below (hbl.mono hzB)).at k hlt
          obtain ⟨rfl, rfl⟩ : b = b1 ∧ o = o1 := by simpa using hA
          clear hA
          have hlt' : (k : Int) < (xs.length : Int) := by omega
          have K9 := Lib.hid (B9.out k hlt)
          have Kh := Lib.hid (hit_step hlt Hall.out)
          have HC := Lib.hid (l23Clash_any B wn.heap.size b (o + k * 4) w.heap.size 0 xs[k] ⟨xa, xb, xf, xt⟩ wr hE (HX.out _ hbl))
          rw [clash_comm] at HC
          have Hbl := Lib.hid hbl
          clear hE hbl
          generalize xs[k] = y at *
          cases gc : clash ⟨xa, xb, xf, xt⟩ y with
          | true =>
            have Hf := Lib.hid (K9.out gc)
            rw [gc] at HC
            clear gc
            go_wp2_with fail
            refine HC.out.mono ?_; rintro e w5 ⟨rfl, n5, rfl⟩
            go_wp2_with fail
            go_ret2
            exact RetLn_no Hf.out (hb0.out.trans ((below_drewN Hbl.out n5).mono hb0.out.size))
          | false =>
            have Kh2 := Lib.hid (Kh.out gc)
            rw [gc] at HC
            clear gc
            go_wp2_with fail
            refine HC.out.mono ?_; rintro e w5 ⟨rfl, n5, rfl⟩
            go_wp2_with fail
            go_roundw
            case rel => exact ⟨k + 1, by omega, Kh2.out, by go_num, below_drewN Hbl.out n5⟩
            case measure => simp [intOf]; omega
        · obtain rfl : k = xs.length := by omega
          by_cases h60 : 60 ≤ xs.length
          · have Hf := Lib.hid (B5.out Hall.out h60)
            have hq : (60 : Int) ≤ (xs.length : Int) := by omega
            go_wp2_with fail
            go_ret2
            exact RetLn_no Hf.out (hb0.out.trans (hbl.mono hb0.out.size))
          · have Hf := Lib.hid (B0.out Hall.out (by omega))
            have hq : (xs.length : Int) < 60 := by omega
            have Hbl := Lib.hid hbl
            clear Hall B9 B5 B0 hbl
            go_wp2_with fail
            go_loopw [7] (fun i wr => ∃ k : Nat, k ≤ xs.length ∧ at' = dnS (fun k => before ⟨xa, xb, xf, xt⟩ (atL xs k)) k ∧ i = .int .i64 k ∧ Below wn.heap.size wn wr) (fun i _ => (intOf i).toNat)
            case atStart => exact ⟨xs.length, Nat.le_refl _, Hdn.out, rfl, Hbl.out⟩
            case round =>
              obtain ⟨k, hk, hdn, rfl, hbl⟩ := hrel
              have Hd2 := Lib.hid hdn; clear hdn
              rcases dn_cases (fun k => before ⟨xa, xb, xf, xt⟩ (atL xs k)) k with ⟨m, hm, gb, hd⟩ | ⟨h0, hd⟩ | ⟨m, hm, gb, hd⟩
              · have Hd := Lib.hid (Hd2.out.trans hd); clear hd
                obtain ⟨b1, o1, hA, hE⟩ := (HL.out.below (hbl.mono hzB)).atD m (by omega)
                obtain ⟨rfl, rfl⟩ : b = b1 ∧ o = o1 := by simpa using hA
                clear hA
                have HB := Lib.hid (l23Before_any wn.heap.size B w.heap.size 0 b (o + m * 4) ⟨xa, xb, xf, xt⟩ (atL xs m) wr (HX.out _ hbl) hE)
                (try dsimp only at gb)
                rw [gb] at HB
                have hk0 : decide (0 < k) = true := decide_eq_true (by omega)
                have hm1 : IntKind.i64.wrap ((k : Int) - 1) = (m : Int) := by rw [IntWalk.i64_in _ (by omega)]; omega
                have hm3 : (k : Int) - 1 = (m : Int) := by omega
                have hm2 : (m : Int) < (xs.length : Int) := by omega
                have Hm := Lib.hid hm
                have Hbl2 := Lib.hid hbl
                clear gb hm hE hbl
                go_wp2_with fail
                refine HB.out.mono ?_; rintro e w5 ⟨rfl, n5, rfl⟩
                go_wp2_with fail
                clear hm1 hm3
                go_roundw
                case rel => exact ⟨m, by omega, Hd.out, by first | rfl | (congr 1; have := Hm.out; omega), below_drewN Hbl2.out n5⟩
                case measure => have := Hm.out; simp [intOf]; omega
              · have hk0 : decide (0 < k) = false := decide_eq_false (by omega)
                have hda := Hd2.out.trans hd
                clear hd h0 Hd2
                obtain rfl : at' = k := hda
                have Hbl2 := Lib.hid hbl
                clear hbl
                have hzr : wn.heap.size ≤ wr.heap.size := Hbl2.out.size
                have hkc : at' ≤ c := by omega
                have ho0 := Lib.hid (World.ownsRow_made (base := wn.heap.size) (e := 40) (size := 4) wr #[] 0 (by first | exact hzr | (simp; exact hzr)) (by simp [maxLen]) rfl)
                have hba := Lib.hid ((Hbl2.out).alloc (by first | exact hzr | (simp; exact hzr)) (.cells #[] 40))
                have HLb := Lib.hid (HL.out.below (hba.out.mono hzB))
                have Hl1 := Lib.hid (show ((xs.take at').flatMap cellsL).length = at' * 4 by rw [flat_len cellsL 4 (fun _ => rfl), List.length_take]; omega)
                have Hl2 := Lib.hid (show ((xs.drop at').flatMap cellsL).length = (xs.length - at') * 4 by rw [flat_len cellsL 4 (fun _ => rfl), List.length_drop])
                have Hlt := Lib.hid (show (xs.take at').length = at' by rw [List.length_take]; omega)
                by_cases hcap : c = at'
                · obtain rfl : c = at' := hcap
                  go_wp2_with (first | (at_builtin; refine wpList_apr 24 40 _ 4 48 Try.underlying24 infoL rfl (by omega) _ _ rfl rfl wn.heap.size _ 0 _ rfl ho0.out b o c _ ((xs.take c).flatMap cellsL) rfl Hl1.out (HLb.out.head c) (cellsL_one _) (by simp [maxLen]; omega) (by omega) hba.out.size ?_; intro v7 w7 hown7 hg7; obtain ⟨_, A7, c7, rfl, _⟩ := Rd.of_own hown7; have Hb7 := Lib.hid (below_apd hba.out ho0.out hg7 (Nat.le_refl _) hba.out.size); simp only [Nat.zero_add, List.nil_append] at hown7; have Hown7 := Lib.hid hown7; clear hown7 hg7; obtain ⟨d0, d1, d2, d3⟩ := four_at ((Hb7.out.block _ hlw).trans Hnw.out)) | (at_builtin; refine wpList_apd 24 40 _ 4 48 Try.underlying24 infoL rfl (by omega) _ _ rfl rfl wn.heap.size _ c _ rfl Hown7.out #[.string xa, .string xb, .int .i64 xf, .int .i64 xt] 1 1 rfl rfl (by simp [Value.oneCell']) (by simp [maxLen]; omega) (by omega) (Hb7.out.size) ?_; intro v8 w8 hown8 hg8; have Hb8 := Lib.hid (below_apd Hb7.out Hown7.out hg8 (Nat.le_refl _) Hb7.out.size); obtain ⟨_, A8, c8, rfl, _⟩ := Rd.of_own hown8; have Hown8 := Lib.hid hown8; clear hown8 hg8 d0 d1 d2 d3) | (at_builtin; refine wpList_apr 24 40 _ 4 48 Try.underlying24 infoL rfl (by omega) _ _ rfl rfl wn.heap.size _ (c + 1) _ rfl Hown8.out b o 0 0 [] rfl rfl (by simp) (by simp) (by simp [maxLen]; omega) (by omega) (Hb8.out.size) ?_; intro v9 w9 hown9 hg9; have Hb9 := Lib.hid (below_apd Hb8.out Hown8.out hg9 (Nat.le_refl _) Hb8.out.size); obtain ⟨_, A9, c9, rfl, _⟩ := Rd.of_own hown9; have Hown9 := Lib.hid hown9; clear hown9 hg9))
                  go_ret2
                  exact RetLn_yes (by have := Hf.out; rw [List.drop_of_length_le (by omega)] at this; exact this) (OwnL.mid (ys := []) (x := ⟨xa, xb, xf, xt⟩) Hown9.out Hlt.out rfl hb0.out.size) (hb0.out.trans (Hb9.out.mono hb0.out.size))
                · go_wp2_with (first | (at_builtin; refine wpList_apr 24 40 _ 4 48 Try.underlying24 infoL rfl (by omega) _ _ rfl rfl wn.heap.size _ 0 _ rfl ho0.out b o at' _ ((xs.take at').flatMap cellsL) rfl Hl1.out (HLb.out.head at') (cellsL_one _) (by simp [maxLen]; omega) (by omega) hba.out.size ?_; intro v7 w7 hown7 hg7; obtain ⟨_, A7, c7, rfl, _⟩ := Rd.of_own hown7; have Hb7 := Lib.hid (below_apd hba.out ho0.out hg7 (Nat.le_refl _) hba.out.size); simp only [Nat.zero_add, List.nil_append] at hown7; have Hown7 := Lib.hid hown7; clear hown7 hg7; obtain ⟨d0, d1, d2, d3⟩ := four_at ((Hb7.out.block _ hlw).trans Hnw.out)) | (at_builtin; refine wpList_apd 24 40 _ 4 48 Try.underlying24 infoL rfl (by omega) _ _ rfl rfl wn.heap.size _ at' _ rfl Hown7.out #[.string xa, .string xb, .int .i64 xf, .int .i64 xt] 1 1 rfl rfl (by simp [Value.oneCell']) (by simp [maxLen]; omega) (by omega) (Hb7.out.size) ?_; intro v8 w8 hown8 hg8; have Hb8 := Lib.hid (below_apd Hb7.out Hown7.out hg8 (Nat.le_refl _) Hb7.out.size); obtain ⟨_, A8, c8, rfl, _⟩ := Rd.of_own hown8; have Hown8 := Lib.hid hown8; clear hown8 hg8 d0 d1 d2 d3) | (at_builtin; refine wpList_apr 24 40 _ 4 48 Try.underlying24 infoL rfl (by omega) _ _ rfl rfl wn.heap.size _ (at' + 1) _ rfl Hown8.out b (o + at' * 4) (xs.length - at') _ ((xs.drop at').flatMap cellsL) rfl Hl2.out ((HL.out.below (Hb8.out.mono hzB)).tail at' (by omega)) (cellsL_one _) (by simp [maxLen]; omega) (by omega) (Hb8.out.size) ?_; intro v9 w9 hown9 hg9; have Hb9 := Lib.hid (below_apd Hb8.out Hown8.out hg9 (Nat.le_refl _) Hb8.out.size); obtain ⟨_, A9, c9, rfl, _⟩ := Rd.of_own hown9; have Hown9 := Lib.hid hown9; clear hown9 hg9))
                  go_ret2
                  exact RetLn_yes Hf.out (OwnL.mid (x := ⟨xa, xb, xf, xt⟩) Hown9.out Hlt.out (by rw [List.length_drop]) hb0.out.size) (hb0.out.trans (Hb9.out.mono hb0.out.size))
              · have hda := Hd2.out.trans hd
                clear hd Hd2
                obtain rfl : at' = k := hda
                obtain ⟨b1, o1, hA, hE⟩ := (HL.out.below (hbl.mono hzB)).atD m (by omega)
                obtain ⟨rfl, rfl⟩ : b = b1 ∧ o = o1 := by simpa using hA
                clear hA
                have HB := Lib.hid (l23Before_any wn.heap.size B w.heap.size 0 b (o + m * 4) ⟨xa, xb, xf, xt⟩ (atL xs m) wr (HX.out _ hbl) hE)
                (try dsimp only at gb)
                rw [gb] at HB
                have hk0 : decide (0 < at') = true := decide_eq_true (by omega)
                have hm1 : IntKind.i64.wrap ((at' : Int) - 1) = (m : Int) := by rw [IntWalk.i64_in _ (by omega)]; omega
                have hm3 : (at' : Int) - 1 = (m : Int) := by omega
                have hm2 : (m : Int) < (xs.length : Int) := by omega
                have Hm := Lib.hid hm
                have Hbl2 := Lib.hid hbl
                clear gb hm hE hbl
                go_wp2_with fail
                refine HB.out.mono ?_; rintro e w5 ⟨rfl, n5, rfl⟩
                clear hm1 hm3
                have hzr : wn.heap.size ≤ wr.heap.size := Hbl2.out.size
                have hkc : at' ≤ c := by omega
                have ho0 := Lib.hid (World.ownsRow_made (base := wn.heap.size) (e := 40) (size := 4) (wr.drewN n5) #[] 0 (by first | exact hzr | (simp; exact hzr)) (by simp [maxLen]) rfl)
                have hba := Lib.hid ((below_drewN Hbl2.out n5).alloc (by first | exact hzr | (simp; exact hzr)) (.cells #[] 40))
                have HLb := Lib.hid (HL.out.below (hba.out.mono hzB))
                have Hl1 := Lib.hid (show ((xs.take at').flatMap cellsL).length = at' * 4 by rw [flat_len cellsL 4 (fun _ => rfl), List.length_take]; omega)
                have Hl2 := Lib.hid (show ((xs.drop at').flatMap cellsL).length = (xs.length - at') * 4 by rw [flat_len cellsL 4 (fun _ => rfl), List.length_drop])
                have Hlt := Lib.hid (show (xs.take at').length = at' by rw [List.length_take]; omega)
                by_cases hcap : c = at'
                · obtain rfl : c = at' := hcap
                  go_wp2_with (first | (at_builtin; refine wpList_apr 24 40 _ 4 48 Try.underlying24 infoL rfl (by omega) _ _ rfl rfl wn.heap.size _ 0 _ rfl ho0.out b o c _ ((xs.take c).flatMap cellsL) rfl Hl1.out (HLb.out.head c) (cellsL_one _) (by simp [maxLen]; omega) (by omega) hba.out.size ?_; intro v7 w7 hown7 hg7; obtain ⟨_, A7, c7, rfl, _⟩ := Rd.of_own hown7; have Hb7 := Lib.hid (below_apd hba.out ho0.out hg7 (Nat.le_refl _) hba.out.size); simp only [Nat.zero_add, List.nil_append] at hown7; have Hown7 := Lib.hid hown7; clear hown7 hg7; obtain ⟨d0, d1, d2, d3⟩ := four_at ((Hb7.out.block _ hlw).trans Hnw.out)) | (at_builtin; refine wpList_apd 24 40 _ 4 48 Try.underlying24 infoL rfl (by omega) _ _ rfl rfl wn.heap.size _ c _ rfl Hown7.out #[.string xa, .string xb, .int .i64 xf, .int .i64 xt] 1 1 rfl rfl (by simp [Value.oneCell']) (by simp [maxLen]; omega) (by omega) (Hb7.out.size) ?_; intro v8 w8 hown8 hg8; have Hb8 := Lib.hid (below_apd Hb7.out Hown7.out hg8 (Nat.le_refl _) Hb7.out.size); obtain ⟨_, A8, c8, rfl, _⟩ := Rd.of_own hown8; have Hown8 := Lib.hid hown8; clear hown8 hg8 d0 d1 d2 d3) | (at_builtin; refine wpList_apr 24 40 _ 4 48 Try.underlying24 infoL rfl (by omega) _ _ rfl rfl wn.heap.size _ (c + 1) _ rfl Hown8.out b o 0 0 [] rfl rfl (by simp) (by simp) (by simp [maxLen]; omega) (by omega) (Hb8.out.size) ?_; intro v9 w9 hown9 hg9; have Hb9 := Lib.hid (below_apd Hb8.out Hown8.out hg9 (Nat.le_refl _) Hb8.out.size); obtain ⟨_, A9, c9, rfl, _⟩ := Rd.of_own hown9; have Hown9 := Lib.hid hown9; clear hown9 hg9))
                  go_ret2
                  exact RetLn_yes (by have := Hf.out; rw [List.drop_of_length_le (by omega)] at this; exact this) (OwnL.mid (ys := []) (x := ⟨xa, xb, xf, xt⟩) Hown9.out Hlt.out rfl hb0.out.size) (hb0.out.trans (Hb9.out.mono hb0.out.size))
                · go_wp2_with (first | (at_builtin; refine wpList_apr 24 40 _ 4 48 Try.underlying24 infoL rfl (by omega) _ _ rfl rfl wn.heap.size _ 0 _ rfl ho0.out b o at' _ ((xs.take at').flatMap cellsL) rfl Hl1.out (HLb.out.head at') (cellsL_one _) (by simp [maxLen]; omega) (by omega) hba.out.size ?_; intro v7 w7 hown7 hg7; obtain ⟨_, A7, c7, rfl, _⟩ := Rd.of_own hown7; have Hb7 := Lib.hid (below_apd hba.out ho0.out hg7 (Nat.le_refl _) hba.out.size); simp only [Nat.zero_add, List.nil_append] at hown7; have Hown7 := Lib.hid hown7; clear hown7 hg7; obtain ⟨d0, d1, d2, d3⟩ := four_at ((Hb7.out.block _ hlw).trans Hnw.out)) | (at_builtin; refine wpList_apd 24 40 _ 4 48 Try.underlying24 infoL rfl (by omega) _ _ rfl rfl wn.heap.size _ at' _ rfl Hown7.out #[.string xa, .string xb, .int .i64 xf, .int .i64 xt] 1 1 rfl rfl (by simp [Value.oneCell']) (by simp [maxLen]; omega) (by omega) (Hb7.out.size) ?_; intro v8 w8 hown8 hg8; have Hb8 := Lib.hid (below_apd Hb7.out Hown7.out hg8 (Nat.le_refl _) Hb7.out.size); obtain ⟨_, A8, c8, rfl, _⟩ := Rd.of_own hown8; have Hown8 := Lib.hid hown8; clear hown8 hg8 d0 d1 d2 d3) | (at_builtin; refine wpList_apr 24 40 _ 4 48 Try.underlying24 infoL rfl (by omega) _ _ rfl rfl wn.heap.size _ (at' + 1) _ rfl Hown8.out b (o + at' * 4) (xs.length - at') _ ((xs.drop at').flatMap cellsL) rfl Hl2.out ((HL.out.below (Hb8.out.mono hzB)).tail at' (by omega)) (cellsL_one _) (by simp [maxLen]; omega) (by omega) (Hb8.out.size) ?_; intro v9 w9 hown9 hg9; have Hb9 := Lib.hid (below_apd Hb8.out Hown8.out hg9 (Nat.le_refl _) Hb8.out.size); obtain ⟨_, A9, c9, rfl, _⟩ := Rd.of_own hown9; have Hown9 := Lib.hid hown9; clear hown9 hg9))
                  go_ret2
                  exact RetLn_yes Hf.out (OwnL.mid (x := ⟨xa, xb, xf, xt⟩) Hown9.out Hlt.out (by rw [List.length_drop]) hb0.out.size) (hb0.out.trans (Hb9.out.mono hb0.out.size))
end Go.Proofs.Ytmheijnckmlbnaa
