/- Errors of tables, part 5: patterns of errors. -/
import Derived.Test.YtdljlemgaefbpaaU4
namespace Go.Proofs.Ytdljlemgaefbpaa
open Go.RowKit Go.Joins

set_option maxRecDepth 100000 in
set_option maxHeartbeats 1600000 in
theorem WorstPatternS_c (a b : Int) (w : World) : Calls Try.prog 42 #[.int .i64 a, .int .i64 b] w (RetTab w (oc a b) (a.toNat + 1) (wpf a.toNat b)) := by
  have HO := Lib.hid (show ∀ wx, Calls Try.prog 122 #[.int .i64 a, .int .i64 b] wx fun e w' => e = .returned (.int .i64 (oc a b)) ∧ wx = w' from fun wx => l17Order_c a b wx)
  have Hb := Lib.hid (Below.refl w.heap.size w)
  rcases oc_cases a b with he | he
  · obtain ⟨⟨ha0, ha8⟩, hb0, hb1⟩ := oc_ok he
    have E := Lib.hid he
    rw [he] at HO
    clear he
    obtain ⟨n, rfl⟩ : ∃ n : Nat, a = (n : Int) := ⟨a.toNat, by omega⟩
    rw [Int.toNat_natCast]
    have hb0 := Lib.hid ((Below.refl w.heap.size w).alloc (Nat.le_refl _) (.cells #[] 2))
    have ho0 := Lib.hid (World.ownsRow_made (base := w.heap.size) (e := 2) (size := 1) w #[] 0 (Nat.le_refl _) (by simp [maxLen]) rfl)
    go_enter Try.func42, Try.ntmps42
    go_wp2_with fail
    refine (HO.out _).mono ?_; rintro e w1 ⟨rfl, rfl⟩
    go_wp2_with fail
    go_loopw [7, 8] (fun a i wr => ∃ k : Nat, k ≤ n + 1 ∧ i = .int .i64 (k : Int) ∧ wr.ownsRow w.heap.size 2 1 a k (tab k (wpf n b)) ∧ Below w.heap.size w wr) (fun _ i _ => n + 1 - (intOf i).toNat)
    case atStart => exact ⟨0, Nat.zero_le _, rfl, ho0.out, hb0.out⟩
    case round =>
      obtain ⟨k, hk, rfl, hown, hbl⟩ := hrel
      obtain ⟨A3, c3, rfl⟩ := own_sl hown
      have Hown := Lib.hid hown
      have Hbl := Lib.hid hbl
      clear hown hbl
      by_cases hlt : k < n + 1
      · have hlt' : (k : Int) ≤ (n : Int) := by omega
        have Hsn := Lib.hid (tab_succ k (wpf n b))
        by_cases hp : (n - k) % 2 = 1
        · have d1 : (((n : Int) - (k : Int)) % 2 == 0) = false := by simp; omega
          have Hv := Lib.hid (show wpf n b k = -b by unfold wpf; rw [if_pos hp])
          go_wp2_with (at_builtin; refine wpList_apd 24 2 _ 1 8 Try.underlying24 infoD rfl (by omega) _ _ rfl rfl w.heap.size _ k _ rfl Hown.out #[.int .i64 (-b)] 1 1 rfl rfl (by simp [Value.oneCell']) (by simp [maxLen]; omega) (by omega) Hbl.out.size ?_; intro v5 w5 hown5 hg5; have Hb5 := Lib.hid (below_apd Hbl.out Hown.out hg5 (Nat.le_refl _) Hbl.out.size); obtain ⟨A5, c5, rfl⟩ := own_sl hown5; have Hown5 := Lib.hid hown5; clear hown5 hg5)
          go_roundw
          case rel => exact ⟨k + 1, by omega, by go_num, by rw [Hsn.out, Hv.out]; exact Hown5.out, Hb5.out⟩
          case measure => first | (simp [intOf]; done) | (simp [intOf]; omega)
        · have d1 : (((n : Int) - (k : Int)) % 2 == 0) = true := by simp; omega
          have Hv := Lib.hid (show wpf n b k = b by unfold wpf; rw [if_neg hp])
          go_wp2_with (at_builtin; refine wpList_apd 24 2 _ 1 8 Try.underlying24 infoD rfl (by omega) _ _ rfl rfl w.heap.size _ k _ rfl Hown.out #[.int .i64 (b)] 1 1 rfl rfl (by simp [Value.oneCell']) (by simp [maxLen]; omega) (by omega) Hbl.out.size ?_; intro v5 w5 hown5 hg5; have Hb5 := Lib.hid (below_apd Hbl.out Hown.out hg5 (Nat.le_refl _) Hbl.out.size); obtain ⟨A5, c5, rfl⟩ := own_sl hown5; have Hown5 := Lib.hid hown5; clear hown5 hg5)
          go_roundw
          case rel => exact ⟨k + 1, by omega, by go_num, by rw [Hsn.out, Hv.out]; exact Hown5.out, Hb5.out⟩
          case measure => first | (simp [intOf]; done) | (simp [intOf]; omega)
      · obtain rfl : k = n + 1 := by omega
        go_wp2_with fail
        go_ret2
        exact RetTab.yes' E.out Hown.out Hbl.out
  · have E := Lib.hid he
    rw [he] at HO
    clear he
    go_enter Try.func42, Try.ntmps42
    go_wp2_with fail
    refine (HO.out _).mono ?_; rintro e w1 ⟨rfl, rfl⟩
    go_wp2_with fail
    go_ret2
    exact RetTab.no' E.out (by decide) Hb.out

/-- how an error spreads -/
def spf (n : Nat) (s : Int) (k : Nat) : Int := if k % 2 = 1 then -(s * ((ch n k : Nat) : Int)) else s * ((ch n k : Nat) : Int)
set_option maxRecDepth 100000 in
set_option maxHeartbeats 1600000 in
theorem SpreadErrorI_c (a b : Int) (w : World) : Calls Try.prog 45 #[.int .i64 a, .int .i64 b] w (RetTab w (oc a b) (a.toNat + 1) (spf a.toNat b)) := by
  have HO := Lib.hid (fun wx => isOrder_c a wx)
  have HS := Lib.hid (fun wx => isSlip_c b wx)
  have Hb := Lib.hid (Below.refl w.heap.size w)
  cases h1 : inB a 0 8 with
  | false =>
    have E := Lib.hid (oc_fst (b := b) h1)
    rw [h1] at HO
    clear h1
    go_enter Try.func45, Try.ntmps45
    go_wp2_with fail
    refine (HO.out _).mono ?_; rintro e w1 ⟨rfl, rfl⟩
    go_wp2_with fail
    go_ret2
    exact RetTab.no' E.out (by decide) Hb.out
  | true =>
    cases h2 : inB b 0 1000000 with
    | false =>
      have E := Lib.hid (oc_snd (a := a) h2)
      rw [h1] at HO
      rw [h2] at HS
      clear h1 h2
      go_enter Try.func45, Try.ntmps45
      go_wp2_with fail
      refine (HO.out _).mono ?_; rintro e w1 ⟨rfl, rfl⟩
      go_wp2_with fail
      refine (HS.out _).mono ?_; rintro e w1 ⟨rfl, rfl⟩
      go_wp2_with fail
      go_ret2
      exact RetTab.no' E.out (by decide) Hb.out
    | true =>
      have E := Lib.hid (oc_both h1 h2)
      rw [h1] at HO
      rw [h2] at HS
      obtain ⟨ha0, ha8⟩ := inB_iff.1 h1
      obtain ⟨hb0, hb1⟩ := inB_iff.1 h2
      clear h1 h2
      obtain ⟨n, rfl⟩ : ∃ n : Nat, a = (n : Int) := ⟨a.toNat, by omega⟩
      rw [Int.toNat_natCast]
      have hb0 := Lib.hid ((Below.refl w.heap.size w).alloc (Nat.le_refl _) (.cells #[] 2))
      have ho0 := Lib.hid (World.ownsRow_made (base := w.heap.size) (e := 2) (size := 1) w #[] 0 (Nat.le_refl _) (by simp [maxLen]) rfl)
      go_enter Try.func45, Try.ntmps45
      go_wp2_with fail
      refine (HO.out _).mono ?_; rintro e w1 ⟨rfl, rfl⟩
      go_wp2_with fail
      refine (HS.out _).mono ?_; rintro e w1 ⟨rfl, rfl⟩
      go_wp2_with fail
      go_loopw [6, 20] (fun a i wr => ∃ k : Nat, k ≤ n + 1 ∧ i = .int .i64 (k : Int) ∧ wr.ownsRow w.heap.size 2 1 a k (tab k (spf n b)) ∧ Below w.heap.size w wr) (fun _ i _ => n + 1 - (intOf i).toNat)
      case atStart => exact ⟨0, Nat.zero_le _, rfl, ho0.out, hb0.out⟩
      case round =>
        obtain ⟨k, hk, rfl, hown, hbl⟩ := hrel
        obtain ⟨A3, c3, rfl⟩ := own_sl hown
        have Hown := Lib.hid hown
        have Hbl := Lib.hid hbl
        clear hown hbl
        by_cases hlt : k < n + 1
        · have hlt' : (k : Int) < (n : Int) + 1 := by omega
          have HB := Lib.hid (fun wx => binomial_any n k wx (by omega) (by omega))
          obtain ⟨b1, _, b3⟩ := bin_ch n (by omega) k (by omega)
          rw [b1] at HB
          have Hsn := Lib.hid (tab_succ k (spf n b))
          have Hv := Lib.hid (show spf n b k = if k % 2 = 1 then -(b * ((ch n k : Nat) : Int)) else b * ((ch n k : Nat) : Int) from rfl)
          have hab := abs_mul (a := b) (b := ((ch n k : Nat) : Int)) (A := 1000000) (B := 70) (by omega) (by omega)
          generalize ((ch n k : Nat) : Int) = x at *
          obtain ⟨P, hP⟩ : ∃ P, b * x = P := ⟨_, rfl⟩
          rw [hP] at hab Hv
          have hPw : IntKind.i64.wrap (b * x) = P := by rw [hP]; exact IntWalk.i64_in _ (by omega)
          clear hP b1 b3
          by_cases hp : k % 2 = 1
          · have d1 : ((k : Int) % 2 == 1) = true := by simp; omega
            rw [if_pos hp] at Hv
            go_wp2_with fail
            refine (HB.out _).mono ?_; rintro e w1 ⟨rfl, rfl⟩
            go_wp2_with (at_builtin; refine wpList_apd 24 2 _ 1 8 Try.underlying24 infoD rfl (by omega) _ _ rfl rfl w.heap.size _ k _ rfl Hown.out #[.int .i64 (-P)] 1 1 rfl rfl (by simp [Value.oneCell']) (by simp [maxLen]; omega) (by omega) Hbl.out.size ?_; intro v5 w5 hown5 hg5; have Hb5 := Lib.hid (below_apd Hbl.out Hown.out hg5 (Nat.le_refl _) Hbl.out.size); obtain ⟨A5, c5, rfl⟩ := own_sl hown5; have Hown5 := Lib.hid hown5; clear hown5 hg5)
            go_roundw
            case rel => exact ⟨k + 1, by omega, by go_num, by rw [Hsn.out, Hv.out]; exact Hown5.out, Hb5.out⟩
            case measure => first | (simp [intOf]; done) | (simp [intOf]; omega)
          · have d1 : ((k : Int) % 2 == 1) = false := by simp; omega
            rw [if_neg hp] at Hv
            go_wp2_with fail
            refine (HB.out _).mono ?_; rintro e w1 ⟨rfl, rfl⟩
            go_wp2_with (at_builtin; refine wpList_apd 24 2 _ 1 8 Try.underlying24 infoD rfl (by omega) _ _ rfl rfl w.heap.size _ k _ rfl Hown.out #[.int .i64 (P)] 1 1 rfl rfl (by simp [Value.oneCell']) (by simp [maxLen]; omega) (by omega) Hbl.out.size ?_; intro v5 w5 hown5 hg5; have Hb5 := Lib.hid (below_apd Hbl.out Hown.out hg5 (Nat.le_refl _) Hbl.out.size); obtain ⟨A5, c5, rfl⟩ := own_sl hown5; have Hown5 := Lib.hid hown5; clear hown5 hg5)
            go_roundw
            case rel => exact ⟨k + 1, by omega, by go_num, by rw [Hsn.out, Hv.out]; exact Hown5.out, Hb5.out⟩
            case measure => first | (simp [intOf]; done) | (simp [intOf]; omega)
        · obtain rfl : k = n + 1 := by omega
          go_wp2_with fail
          go_ret2
          exact RetTab.yes' E.out Hown.out Hbl.out
set_option maxRecDepth 100000 in
set_option maxHeartbeats 1600000 in
theorem SpreadErrorS_c (a b : Int) (w : World) : Calls Try.prog 46 #[.int .i64 a, .int .i64 b] w (RetTab w (oc a b) (a.toNat + 1) (spf a.toNat b)) := by
  have HO := Lib.hid (show ∀ wx, Calls Try.prog 122 #[.int .i64 a, .int .i64 b] wx fun e w' => e = .returned (.int .i64 (oc a b)) ∧ wx = w' from fun wx => l17Order_c a b wx)
  have Hb := Lib.hid (Below.refl w.heap.size w)
  rcases oc_cases a b with he | he
  · obtain ⟨⟨ha0, ha8⟩, hb0, hb1⟩ := oc_ok he
    have E := Lib.hid he
    rw [he] at HO
    clear he
    obtain ⟨n, rfl⟩ : ∃ n : Nat, a = (n : Int) := ⟨a.toNat, by omega⟩
    rw [Int.toNat_natCast]
    have hb0 := Lib.hid ((Below.refl w.heap.size w).alloc (Nat.le_refl _) (.cells #[] 2))
    have ho0 := Lib.hid (World.ownsRow_made (base := w.heap.size) (e := 2) (size := 1) w #[] 0 (Nat.le_refl _) (by simp [maxLen]) rfl)
    go_enter Try.func46, Try.ntmps46
    go_wp2_with fail
    refine (HO.out _).mono ?_; rintro e w1 ⟨rfl, rfl⟩
    go_wp2_with fail
    go_loopw [7, 8] (fun a i wr => ∃ k : Nat, k ≤ n + 1 ∧ i = .int .i64 (k : Int) ∧ wr.ownsRow w.heap.size 2 1 a k (tab k (spf n b)) ∧ Below w.heap.size w wr) (fun _ i _ => n + 1 - (intOf i).toNat)
    case atStart => exact ⟨0, Nat.zero_le _, rfl, ho0.out, hb0.out⟩
    case round =>
      obtain ⟨k, hk, rfl, hown, hbl⟩ := hrel
      obtain ⟨A3, c3, rfl⟩ := own_sl hown
      have Hown := Lib.hid hown
      have Hbl := Lib.hid hbl
      clear hown hbl
      by_cases hlt : k < n + 1
      · have hlt' : (k : Int) ≤ (n : Int) := by omega
        have HB := Lib.hid (fun wx => l17Choose_c n k wx (by omega) (by omega))
        obtain ⟨_, b2, b3⟩ := bin_ch n (by omega) k (by omega)
        rw [b2] at HB
        have Hsn := Lib.hid (tab_succ k (spf n b))
        have Hv := Lib.hid (show spf n b k = if k % 2 = 1 then -(b * ((ch n k : Nat) : Int)) else b * ((ch n k : Nat) : Int) from rfl)
        have hab := abs_mul (a := b) (b := ((ch n k : Nat) : Int)) (A := 1000000) (B := 70) (by omega) (by omega)
        generalize ((ch n k : Nat) : Int) = x at *
        obtain ⟨P, hP⟩ : ∃ P, b * x = P := ⟨_, rfl⟩
        rw [hP] at hab Hv
        have hPw : IntKind.i64.wrap (b * x) = P := by rw [hP]; exact IntWalk.i64_in _ (by omega)
        clear hP b2 b3
        by_cases hp : k % 2 = 1
        · have d1 : ((k : Int) % 2 == 1) = true := by simp; omega
          rw [if_pos hp] at Hv
          go_wp2_with fail
          refine (HB.out _).mono ?_; rintro e w1 ⟨rfl, rfl⟩
          go_wp2_with (at_builtin; refine wpList_apd 24 2 _ 1 8 Try.underlying24 infoD rfl (by omega) _ _ rfl rfl w.heap.size _ k _ rfl Hown.out #[.int .i64 (-P)] 1 1 rfl rfl (by simp [Value.oneCell']) (by simp [maxLen]; omega) (by omega) Hbl.out.size ?_; intro v5 w5 hown5 hg5; have Hb5 := Lib.hid (below_apd Hbl.out Hown.out hg5 (Nat.le_refl _) Hbl.out.size); obtain ⟨A5, c5, rfl⟩ := own_sl hown5; have Hown5 := Lib.hid hown5; clear hown5 hg5)
          go_roundw
          case rel => exact ⟨k + 1, by omega, by go_num, by rw [Hsn.out, Hv.out]; exact Hown5.out, Hb5.out⟩
          case measure => first | (simp [intOf]; done) | (simp [intOf]; omega)
        · have d1 : ((k : Int) % 2 == 1) = false := by simp; omega
          rw [if_neg hp] at Hv
          go_wp2_with fail
          refine (HB.out _).mono ?_; rintro e w1 ⟨rfl, rfl⟩
          go_wp2_with (at_builtin; refine wpList_apd 24 2 _ 1 8 Try.underlying24 infoD rfl (by omega) _ _ rfl rfl w.heap.size _ k _ rfl Hown.out #[.int .i64 (P)] 1 1 rfl rfl (by simp [Value.oneCell']) (by simp [maxLen]; omega) (by omega) Hbl.out.size ?_; intro v5 w5 hown5 hg5; have Hb5 := Lib.hid (below_apd Hbl.out Hown.out hg5 (Nat.le_refl _) Hbl.out.size); obtain ⟨A5, c5, rfl⟩ := own_sl hown5; have Hown5 := Lib.hid hown5; clear hown5 hg5)
          go_roundw
          case rel => exact ⟨k + 1, by omega, by go_num, by rw [Hsn.out, Hv.out]; exact Hown5.out, Hb5.out⟩
          case measure => first | (simp [intOf]; done) | (simp [intOf]; omega)
      · obtain rfl : k = n + 1 := by omega
        go_wp2_with fail
        go_ret2
        exact RetTab.yes' E.out Hown.out Hbl.out
  · have E := Lib.hid he
    rw [he] at HO
    clear he
    go_enter Try.func46, Try.ntmps46
    go_wp2_with fail
    refine (HO.out _).mono ?_; rintro e w1 ⟨rfl, rfl⟩
    go_wp2_with fail
    go_ret2
    exact RetTab.no' E.out (by decide) Hb.out
end Go.Proofs.Ytdljlemgaefbpaa
