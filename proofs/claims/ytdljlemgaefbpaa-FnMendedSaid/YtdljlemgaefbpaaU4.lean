/- Errors of tables, part 4: binomial coefficients, patterns of errors. -/
import Derived.Test.YtdljlemgaefbpaaU3
import Derived.Test.YtdljlemgaefbpaaBo1
import Derived.Test.YtdljlemgaefbpaaDf6
import Derived.Test.YtdljlemgaefbpaaDf4
namespace Go.Proofs.Ytdljlemgaefbpaa
open Go.RowKit Go.Joins

theorem ch_along (m j : Nat) : ∀ d, ch (m + j) j ≤ ch (m + (j + d)) (j + d)
  | 0 => Nat.le_refl _
  | d + 1 => Nat.le_trans (ch_along m j d) (ch_dg (m + (j + d)) (j + d))
theorem cp_small {x : Nat} (h : x ≤ 1000000000000) : cp x = x := by unfold cp top; omega
theorem cp_great {x : Nat} (h : 1000000000000 < x) : cp x = top := by unfold cp top; omega
set_option maxRecDepth 100000 in
set_option maxHeartbeats 1600000 in
theorem l17Choose_c (n k : Nat) (w : World) (hn : n ≤ 100000) (hk : k ≤ 8) : Calls Try.prog 124 #[.int .i64 (n : Int), .int .i64 (k : Int)] w fun e w' => e = .returned (.int .i64 ((cp (ch n k) : Nat) : Int)) ∧ w = w' := by
  by_cases hkn : n < k
  · have e : cp (ch n k) = 0 := by rw [ch_gt n k hkn]; rfl
    have h1 : (n : Int) < (k : Int) := by omega
    rw [e]
    clear e
    go_enter Try.func124, Try.ntmps124
    go_wp2_with fail
    go_ret
    exact ⟨rfl, rfl⟩
  · obtain ⟨m, rfl⟩ : ∃ m, n = m + k := ⟨n - k, by omega⟩
    have h1 : (k : Int) ≤ ((m + k : Nat) : Int) := by omega
    have hmk : ((m + k : Nat) : Int) - (k : Int) = (m : Int) := by omega
    have h100 : (m : Int) + (k : Int) ≤ 100000 := by omega
    go_enter Try.func124, Try.ntmps124
    go_wp2_with fail
    go_loop [5, 6] (fun a i => ∃ j : Nat, j ≤ k ∧ i = .int .i64 ((j + 1 : Nat) : Int) ∧ a = .int .i64 ((ch (m + j) j : Nat) : Int) ∧ ch (m + j) j ≤ 1000000000000) (fun _ i => k + 1 - (intOf i).toNat)
    case atStart => exact ⟨0, Nat.zero_le _, rfl, by rw [ch_0]; rfl, by rw [ch_0]; omega⟩
    case round =>
      obtain ⟨j, hj, rfl, rfl, hle⟩ := hrel
      by_cases hlt : j < k
      · have hd := ch_diag (m + j) j
        have hal := ch_along m (j + 1) (k - (j + 1))
        rw [show j + 1 + (k - (j + 1)) = k by omega] at hal
        have Hal := Lib.hid hal
        rw [show m + j + 1 = m + (j + 1) by omega] at hd
        obtain ⟨i, hi⟩ : ∃ i, j + 1 = i := ⟨_, rfl⟩
        rw [hi] at hd Hal ⊢
        have hi1 : (1 : Int) ≤ (i : Int) := by omega
        have hik : (i : Int) ≤ (k : Int) := by omega
        generalize ch (m + j) j = a at *
        obtain ⟨P, hP⟩ : ∃ P, a * (m + i) = P := ⟨_, rfl⟩
        have hPb : P ≤ 1000000000000 * 100000 := by rw [← hP]; exact Nat.mul_le_mul hle (by omega)
        have hPw : IntKind.i64.wrap ((a : Int) * ((m : Int) + (i : Int))) = (P : Int) := by
          rw [show ((m : Int) + (i : Int)) = ((m + i : Nat) : Int) by omega, ← Int.natCast_mul, hP]
          exact IntWalk.i64_in _ (by omega)
        rw [hP] at hd
        have HQ := Lib.hid (show (P : Int) / (i : Int) = ((ch (m + i) i : Nat) : Int) by rw [← hd]; exact (Int.natCast_ediv _ _).symm)
        have hQb : (P : Int) / (i : Int) ≤ 100000000000000000 := by rw [HQ.out, ← hd]; have := Nat.div_le_self P i; omega
        have hQ0 : 0 ≤ (P : Int) / (i : Int) := by rw [HQ.out]; omega
        have hle' : (a : Int) ≤ 1000000000000 := by omega
        have Hi := Lib.hid hi
        clear hal hd hP hi hle
        go_upto_region 8 with (fail)
        rw [HQ.out]
        rw [HQ.out] at hQb hQ0
        have Hcp := Lib.hid (@cp_great (ch (m + k) k))
        by_cases hc : 1000000000000 < ch (m + i) i
        · have hc' : (1000000000000 : Int) < ((ch (m + i) i : Nat) : Int) := by omega
          have Hr := Lib.hid (Hcp.out (Nat.lt_of_lt_of_le hc Hal.out))
          go_wp2_with fail
          go_ret
          exact ⟨ret_int (by rw [Hr.out]; rfl), rfl⟩
        · have hc' : ¬ (1000000000000 : Int) < ((ch (m + i) i : Nat) : Int) := by omega
          go_wp2_with fail
          go_round
          case rel =>
            have hi := Hi.out
            exact ⟨i, by omega, by go_num, rfl, by omega⟩
          case measure =>
            have hi := Hi.out
            simp [intOf]; omega
      · obtain rfl : j = k := by omega
        have Hr := Lib.hid (cp_small hle)
        go_wp2_with fail
        go_ret
        exact ⟨ret_int (by rw [Hr.out]), rfl⟩
theorem bin_ch : ∀ n, n < 9 → ∀ k, k < 9 → binV n k = ch n k ∧ cp (ch n k) = ch n k ∧ ch n k ≤ 70 := by decide +kernel

/-- the code of an order and an error -/
def oc (a b : Int) : Int := if inB a 0 8 && inB b 0 1000000 then 0 else 2
theorem oc_ok {a b : Int} (h : oc a b = 0) : (0 ≤ a ∧ a ≤ 8) ∧ 0 ≤ b ∧ b ≤ 1000000 := by
  unfold oc at h
  split at h
  · rename_i h1
    rw [Bool.and_eq_true] at h1
    exact ⟨inB_iff.1 h1.1, inB_iff.1 h1.2⟩
  · cases h
theorem oc_cases (a b : Int) : oc a b = 0 ∨ oc a b = 2 := by
  unfold oc
  split
  · exact .inl rfl
  · exact .inr rfl
theorem oc_fst {a b : Int} (h : inB a 0 8 = false) : oc a b = 2 := by unfold oc; rw [h]; rfl
theorem oc_snd {a b : Int} (h : inB b 0 1000000 = false) : oc a b = 2 := by unfold oc; rw [h, Bool.and_false]; rfl
theorem oc_both {a b : Int} (h : inB a 0 8 = true) (h2 : inB b 0 1000000 = true) : oc a b = 0 := by unfold oc; rw [h, h2]; rfl

/-- how great the error of a difference can be -/
def dbV (a b : Int) : Int := if oc a b = 0 then b * ((2 ^ a.toNat : Nat) : Int) else 0
theorem shl_small (b : Int) (h0 : 0 ≤ b) (h1 : b ≤ 1000000) : ∀ n : Nat, n < 9 → wrap64 (b * 2 ^ n) = b * ((2 ^ n : Nat) : Int) := by
  intro n hn
  have e : (b * 2 ^ n : Int) = b * ((2 ^ n : Nat) : Int) := by rw [Int.natCast_pow]; rfl
  rw [e]
  have h2 : (2 : Nat) ^ n ≤ 256 := Nat.le_trans (Nat.pow_le_pow_right (by omega) (show n ≤ 8 by omega)) (by decide)
  generalize (2 : Nat) ^ n = x at *
  have h3 := abs_mul (a := b) (b := (x : Int)) (A := 1000000) (B := 256) (by omega) (by omega)
  exact IntWalk.wrap64_in _ ⟨by omega, by omega⟩
theorem ret2_int {a b : Int} {c : Value} (h : a = b) : Ending.returned (.tuple #[.int .i64 a, c]) = .returned (.tuple #[.int .i64 b, c]) := by rw [h]
set_option maxRecDepth 100000 in
set_option maxHeartbeats 1600000 in
theorem DifferenceBoundI_c (a b : Int) (w : World) : Calls Try.prog 43 #[.int .i64 a, .int .i64 b] w fun e w' => e = .returned (.tuple #[.int .i64 (dbV a b), .int .i64 (oc a b)]) ∧ w = w' := by
  have HO := Lib.hid (fun wx => isOrder_c a wx)
  have HS := Lib.hid (fun wx => isSlip_c b wx)
  cases h1 : inB a 0 8 with
  | false =>
    have e := oc_fst (b := b) h1
    have e2 : dbV a b = 0 := by unfold dbV; rw [e]; rfl
    rw [h1] at HO
    rw [e, e2]
    clear h1 e e2
    go_enter Try.func43, Try.ntmps43
    go_wp2_with fail
    refine (HO.out _).mono ?_; rintro e w1 ⟨rfl, rfl⟩
    go_wp2_with fail
    go_ret2
    exact ⟨rfl, rfl⟩
  | true =>
    cases h2 : inB b 0 1000000 with
    | false =>
      have e := oc_snd (a := a) h2
      have e2 : dbV a b = 0 := by unfold dbV; rw [e]; rfl
      rw [h1] at HO
      rw [h2] at HS
      rw [e, e2]
      clear h1 h2 e e2
      go_enter Try.func43, Try.ntmps43
      go_wp2_with fail
      refine (HO.out _).mono ?_; rintro e w1 ⟨rfl, rfl⟩
      go_wp2_with fail
      refine (HS.out _).mono ?_; rintro e w1 ⟨rfl, rfl⟩
      go_wp2_with fail
      go_ret2
      exact ⟨rfl, rfl⟩
    | true =>
      have e := oc_both h1 h2
      have e2 : dbV a b = b * ((2 ^ a.toNat : Nat) : Int) := by unfold dbV; rw [e]; rfl
      rw [h1] at HO
      rw [h2] at HS
      rw [e, e2]
      obtain ⟨ha0, ha8⟩ := inB_iff.1 h1
      obtain ⟨hb0, hb1⟩ := inB_iff.1 h2
      clear h1 h2 e e2
      obtain ⟨n, rfl⟩ : ∃ n : Nat, a = (n : Int) := ⟨a.toNat, by omega⟩
      have Hsh := Lib.hid (shl_small b hb0 hb1 n (by omega))
      go_enter Try.func43, Try.ntmps43
      go_wp2_with fail
      refine (HO.out _).mono ?_; rintro e w1 ⟨rfl, rfl⟩
      go_wp2_with fail
      refine (HS.out _).mono ?_; rintro e w1 ⟨rfl, rfl⟩
      go_wp2_with fail
      go_ret2
      exact ⟨ret2_int Hsh.out, rfl⟩
set_option maxRecDepth 100000 in
set_option maxHeartbeats 1600000 in
theorem DifferenceBoundS_c (a b : Int) (w : World) : Calls Try.prog 44 #[.int .i64 a, .int .i64 b] w fun e w' => e = .returned (.tuple #[.int .i64 (dbV a b), .int .i64 (oc a b)]) ∧ w = w' := by
  have HO := Lib.hid (show ∀ wx, Calls Try.prog 122 #[.int .i64 a, .int .i64 b] wx fun e w' => e = .returned (.int .i64 (oc a b)) ∧ wx = w' from fun wx => l17Order_c a b wx)
  rcases oc_cases a b with he | he
  · obtain ⟨⟨ha0, ha8⟩, hb0, hb1⟩ := oc_ok he
    have e2 : dbV a b = b * ((2 ^ a.toNat : Nat) : Int) := by unfold dbV; rw [he]; rfl
    rw [he] at HO
    rw [he, e2]
    clear he e2
    obtain ⟨n, rfl⟩ : ∃ n : Nat, a = (n : Int) := ⟨a.toNat, by omega⟩
    have Hsh := Lib.hid (shl_small b hb0 hb1 n (by omega))
    go_enter Try.func44, Try.ntmps44
    go_wp2_with fail
    refine (HO.out _).mono ?_; rintro e w1 ⟨rfl, rfl⟩
    go_wp2_with fail
    go_ret2
    exact ⟨ret2_int Hsh.out, rfl⟩
  · have e2 : dbV a b = 0 := by unfold dbV; rw [he]; rfl
    rw [he] at HO
    rw [he, e2]
    clear he e2
    go_enter Try.func44, Try.ntmps44
    go_wp2_with fail
    refine (HO.out _).mono ?_; rintro e w1 ⟨rfl, rfl⟩
    go_wp2_with fail
    go_ret2
    exact ⟨rfl, rfl⟩

/-- errors that make the error of a difference greatest -/
def wpf (n : Nat) (s : Int) (k : Nat) : Int := if (n - k) % 2 = 1 then -s else s
theorem wpf_wp (n : Nat) (s : Int) : wpf n s = fun k => s * wp n k := by
  funext k
  unfold wpf wp
  split <;> simp
theorem put_put (f : Nat → Int) (a : Nat) (x y : Int) : put (put f a x) a y = put f a y := by
  funext i
  show (if i = a then y else if i = a then x else f i) = if i = a then y else f i
  split <;> rfl
def upTo (k : Nat) (f : Nat → Int) : Nat → Int := fun i => if i < k then f i else 0
theorem upTo_put (k : Nat) (f : Nat → Int) (x : Int) (h : f k = x) : put (upTo k f) k x = upTo (k + 1) f := by
  funext i
  show (if i = k then x else if i < k then f i else 0) = if i < k + 1 then f i else 0
  by_cases e : i = k
  · subst e; rw [if_pos rfl, if_pos (by omega), h]
  · rw [if_neg e]
    by_cases e2 : i < k
    · rw [if_pos e2, if_pos (by omega)]
    · rw [if_neg e2, if_neg (by omega)]
set_option maxRecDepth 100000 in
set_option maxHeartbeats 1600000 in
theorem WorstPatternI_c (a b : Int) (w : World) : Calls Try.prog 41 #[.int .i64 a, .int .i64 b] w (RetTab w (oc a b) (a.toNat + 1) (wpf a.toNat b)) := by
  have HO := Lib.hid (fun wx => isOrder_c a wx)
  have HS := Lib.hid (fun wx => isSlip_c b wx)
  have Hb := Lib.hid (Below.refl w.heap.size w)
  cases h1 : inB a 0 8 with
  | false =>
    have E := Lib.hid (oc_fst (b := b) h1)
    rw [h1] at HO
    clear h1
    go_enter Try.func41, Try.ntmps41
    go_wp2_with fail
    refine (HO.out _).mono ?_; rintro e w1 ⟨rfl, rfl⟩
    go_wp2_with fail
    go_ret2
    exact RetTab.no' E.out (by decide) Hb.out
  | true =>
    cases h2 : inB b 0 1000000 with
    | false =>
      have E := Lib.hid (oc_snd (a := a) h2)
      rw [h1] at HO
      rw [h2] at HS
      clear h1 h2
      go_enter Try.func41, Try.ntmps41
      go_wp2_with fail
      refine (HO.out _).mono ?_; rintro e w1 ⟨rfl, rfl⟩
      go_wp2_with fail
      refine (HS.out _).mono ?_; rintro e w1 ⟨rfl, rfl⟩
      go_wp2_with fail
      go_ret2
      exact RetTab.no' E.out (by decide) Hb.out
    | true =>
      have E := Lib.hid (oc_both h1 h2)
      rw [h1] at HO
      rw [h2] at HS
      obtain ⟨ha0, ha8⟩ := inB_iff.1 h1
      obtain ⟨hb0, hb1⟩ := inB_iff.1 h2
      clear h1 h2
      obtain ⟨n, rfl⟩ : ∃ n : Nat, a = (n : Int) := ⟨a.toNat, by omega⟩
      rw [Int.toNat_natCast]
      obtain ⟨wm, hm, hom, hbm⟩ := mk_ints (n + 1) (by omega) w
      rw [show ((n + 1 : Nat) : Int) = (n : Int) + 1 by omega] at hm
      have Hom := Lib.hid hom
      have Hbm := Lib.hid hbm
      clear hom hbm
      go_enter Try.func41, Try.ntmps41
      go_wp2_with fail
      refine (HO.out _).mono ?_; rintro e w1 ⟨rfl, rfl⟩
      go_wp2_with fail
      refine (HS.out _).mono ?_; rintro e w1 ⟨rfl, rfl⟩
      go_wp2_with fail
      go_loopw [21] (fun i wr => ∃ k : Nat, k ≤ n + 1 ∧ i = .int .i64 (k : Int) ∧ wr.ownsRow w.heap.size 2 1 (.slice (some ⟨w.heap.size, 0, none⟩) (n + 1) (n + 1)) (n + 1) (tab (n + 1) (upTo k (wpf n b))) ∧ Below w.heap.size w wr) (fun i _ => n + 1 - (intOf i).toNat)
      case atStart => exact ⟨0, Nat.zero_le _, rfl, Hom.out, Hbm.out⟩
      case round =>
        obtain ⟨k, hk, rfl, hown, hbl⟩ := hrel
        by_cases hlt : k < n + 1
        · have hlt' : (k : Int) < (n : Int) + 1 := by omega
          obtain ⟨c0, c1⟩ := own_cellD hown k hlt
          have ho1 := (hown.stored k (.int .i64 b)).1
          rw [tab_set] at ho1
          have ho2 := (ho1.stored k (.int .i64 (-b))).1
          rw [tab_set, put_put] at ho2
          have Hb1 := Lib.hid (hbl.setCell (p := ⟨w.heap.size, k, none⟩) (Nat.le_refl _) (.int .i64 b))
          have Hb2 := Lib.hid (Hb1.out.setCell (p := ⟨w.heap.size, k, none⟩) (Nat.le_refl _) (.int .i64 (-b)))
          have hkn : (k : Int) ≤ (n : Int) := by omega
          by_cases hp : (n - k) % 2 = 1
          · have d1 : (((n : Int) - (k : Int)) % 2 == 1) = true := by simp; omega
            rw [upTo_put k (wpf n b) (-b) (by unfold wpf; rw [if_pos hp])] at ho2
            have Ho2 := Lib.hid ho2
            clear hown hbl ho1 ho2
            go_wp2_with fail
            go_roundw
            case rel => exact ⟨k + 1, by omega, by go_num, Ho2.out, Hb2.out⟩
            case measure => first | (simp [intOf]; done) | (simp [intOf]; omega)
          · have d1 : (((n : Int) - (k : Int)) % 2 == 1) = false := by simp; omega
            rw [upTo_put k (wpf n b) b (by unfold wpf; rw [if_neg hp])] at ho1
            have Ho1 := Lib.hid ho1
            clear hown hbl ho1 ho2
            go_wp2_with fail
            go_roundw
            case rel => exact ⟨k + 1, by omega, by go_num, Ho1.out, Hb1.out⟩
            case measure => first | (simp [intOf]; done) | (simp [intOf]; omega)
        · have hge : (n : Int) + 1 ≤ (k : Int) := by omega
          have Hown := Lib.hid hown
          have Hbl := Lib.hid hbl
          have Ht := Lib.hid (tab_congr (n := n + 1) (f := upTo k (wpf n b)) (g := wpf n b) (fun i hi => by unfold upTo; rw [if_pos (by omega)]))
          clear hown hbl
          go_wp2_with fail
          go_ret2
          exact RetTab.yes' E.out (by rw [← Ht.out]; exact Hown.out) Hbl.out
end Go.Proofs.Ytdljlemgaefbpaa
