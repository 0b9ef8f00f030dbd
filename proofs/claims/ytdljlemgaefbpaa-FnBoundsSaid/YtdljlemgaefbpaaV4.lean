/- Bounds of errors, part 5: guard digits. -/
import Derived.Test.YtdljlemgaefbpaaV3
import Derived.Test.YtdljlemgaefbpaaU7
namespace Go.Proofs.Ytdljlemgaefbpaa
open Go.RowKit Go.Joins

def one1s : Nat → Int := fun _ => 1
theorem slip_ones {m : Nat} (h1 : 1 ≤ m) (h9 : m ≤ 9) : slipB m one1s = true := by
  unfold slipB
  rw [show allN m (fun i => inB (one1s i) 0 1000000) = true from List.all_eq_true.2 (fun i _ => rfl), inB_iff.2 (show (1 : Int) ≤ (m : Int) ∧ (m : Int) ≤ 9 by omega)]
  rfl
/-- how many more digits are needed, and the code -/
def okG (a b c : Int) : Bool := inB a 0 8 && inB b 0 100000 && inB c 2 16
def gdS (a b : Int) : Nat := sb (slipN one1s) (a.toNat + 1) b.toNat
def GdR (a b c r e : Int) : Prop :=
  (e = 2 ∧ r = 0 ∧ okG a b c = false) ∨ (e = 5 ∧ r = 0 ∧ okG a b c = true ∧ 1000000000000 < gdS a b) ∨
  (e = 0 ∧ okG a b c = true ∧ gdS a b ≤ 1000000000000 ∧ ∃ n : Nat, r = (n : Int) ∧ gdS a b ≤ c.toNat ^ n ∧ ∀ j, j < n → c.toNat ^ j < gdS a b)
theorem GdR.uniq {a b c r e r' e' : Int} (h : GdR a b c r e) (h' : GdR a b c r' e') : r = r' ∧ e = e' := by
  rcases h with ⟨x, y, z⟩ | ⟨x, y, z, t⟩ | ⟨x, z, t, n, y, p, q⟩ <;> rcases h' with ⟨x', y', z'⟩ | ⟨x', y', z', t'⟩ | ⟨x', z', t', n', y', p', q'⟩
  · exact ⟨by rw [y, y'], by rw [x, x']⟩
  · rw [z] at z'; cases z'
  · rw [z] at z'; cases z'
  · rw [z'] at z; cases z
  · exact ⟨by rw [y, y'], by rw [x, x']⟩
  · omega
  · rw [z'] at z; cases z
  · omega
  · have : n = n' := by
      by_cases h1 : n < n'
      · have := q' n h1; omega
      · by_cases h2 : n' < n
        · have := q n' h2; omega
        · omega
    exact ⟨by rw [y, y', this], by rw [x, x']⟩
theorem GdR.five {N M D : Nat} (hok : okG (N : Int) (M : Int) (D : Int) = true) (h : 1000000000000 < gdS (N : Int) (M : Int)) : GdR (N : Int) (M : Int) (D : Int) 0 5 := .inr (.inl ⟨rfl, rfl, hok, h⟩)
theorem GdR.zero {N M D : Nat} (hok : okG (N : Int) (M : Int) (D : Int) = true) (h : gdS (N : Int) (M : Int) ≤ 1000000000000) (n : Nat) (h1 : gdS (N : Int) (M : Int) ≤ D ^ n) (h2 : ∀ j, j < n → D ^ j < gdS (N : Int) (M : Int)) : GdR (N : Int) (M : Int) (D : Int) (n : Int) 0 := .inr (.inr ⟨rfl, hok, h, n, rfl, h1, h2⟩)
theorem GdR.two {a b c : Int} (hok : okG a b c = false) : GdR a b c 0 2 := .inl ⟨rfl, rfl, hok⟩
theorem pow_up {D n : Nat} (h2 : 2 ≤ D) : n < D ^ n := Nat.lt_of_lt_of_le (Nat.lt_two_pow_self) (Nat.pow_le_pow_left h2 n)
set_option maxRecDepth 100000 in
set_option maxHeartbeats 3200000 in
theorem GuardDigitsI_c (a b c : Int) (w : World) : Calls Try.prog 29 #[.int .i64 a, .int .i64 b, .int .i64 c] w fun e w' => (∃ r x, e = .returned (.tuple #[.int .i64 r, .int .i64 x]) ∧ GdR a b c r x) ∧ Below w.heap.size w w' := by
  have HO := Lib.hid (fun wx => isOrder_c a wx)
  have HT := Lib.hid (fun wx => isStepCount_c b wx)
  have HU := Lib.hid (fun wx => isBase_c c wx)
  have Hb := Lib.hid (Below.refl w.heap.size w)
  have hb0 := Lib.hid ((Below.refl w.heap.size w).alloc (Nat.le_refl _) (.cells #[] 2))
  have ho0 := Lib.hid (World.ownsRow_made (base := w.heap.size) (e := 2) (size := 1) w #[] 0 (Nat.le_refl _) (by simp [maxLen]) rfl)
  by_cases hok : okG a b c = true
  · have hok' := hok
    unfold okG at hok'
    simp only [Bool.and_eq_true] at hok'
    obtain ⟨⟨h1, h2⟩, h3⟩ := hok'
    rw [h1] at HO
    rw [h2] at HT
    rw [h3] at HU
    obtain ⟨a0, a1⟩ := inB_iff.1 h1
    obtain ⟨b0, b1⟩ := inB_iff.1 h2
    obtain ⟨c0, c1⟩ := inB_iff.1 h3
    have Hok := Lib.hid hok
    clear h1 h2 h3 hok
    obtain ⟨N, rfl⟩ : ∃ N : Nat, a = (N : Int) := ⟨a.toNat, by omega⟩
    obtain ⟨M, rfl⟩ : ∃ M : Nat, b = (M : Int) := ⟨b.toNat, by omega⟩
    obtain ⟨D, rfl⟩ : ∃ D : Nat, c = (D : Int) := ⟨c.toNat, by omega⟩
    have Hgd := Lib.hid (show gdS (N : Int) (M : Int) = sb (slipN one1s) (N + 1) M from rfl)
    have Hso := Lib.hid (slip_ones (m := N + 1) (by omega) (by omega))
    have hD2 : 2 ≤ D := by omega
    have hD16 : D ≤ 16 := by omega
    go_enter Try.func29, Try.ntmps29
    go_wp2_with fail
    refine (HO.out _).mono ?_; rintro e w1 ⟨rfl, rfl⟩
    go_wp2_with fail
    refine (HT.out _).mono ?_; rintro e w1 ⟨rfl, rfl⟩
    go_wp2_with fail
    refine (HU.out _).mono ?_; rintro e w1 ⟨rfl, rfl⟩
    go_wp2_with fail
    go_loopw [8, 28] (fun a i wr => ∃ k : Nat, k ≤ N + 1 ∧ i = .int .i64 (k : Int) ∧ wr.ownsRow w.heap.size 2 1 a k (tab k one1s) ∧ Below w.heap.size w wr) (fun _ i _ => N + 1 - (intOf i).toNat)
    case atStart => exact ⟨0, Nat.zero_le _, rfl, ho0.out, hb0.out⟩
    case round =>
      obtain ⟨k, hk, rfl, hown, hbl⟩ := hrel
      obtain ⟨A3, c3, rfl⟩ := own_sl hown
      have Hown := Lib.hid hown
      have Hbl := Lib.hid hbl
      clear hown hbl
      by_cases hlt : k < N + 1
      · have hlt' : (k : Int) < (N : Int) + 1 := by omega
        have Hsn := Lib.hid (show tab (k + 1) one1s = tab k one1s ++ [.int .i64 1] from tab_succ k one1s)
        go_wp2_with (at_builtin; refine wpList_apd 24 2 _ 1 8 Try.underlying24 infoD rfl (by omega) _ _ rfl rfl w.heap.size _ k _ rfl Hown.out #[.int .i64 (1)] 1 1 rfl rfl (by simp [Value.oneCell']) (by simp [maxLen]; omega) (by omega) Hbl.out.size ?_; intro v5 w5 hown5 hg5; have Hb5 := Lib.hid (below_apd Hbl.out Hown.out hg5 (Nat.le_refl _) Hbl.out.size); obtain ⟨A5, c5, rfl⟩ := own_sl hown5; have Hown5 := Lib.hid hown5; clear hown5 hg5)
        go_roundw
        case rel => exact ⟨k + 1, by omega, by go_num, by rw [Hsn.out]; exact Hown5.out, Hb5.out⟩
        case measure => first | (simp [intOf]; done) | (simp [intOf]; omega)
      · obtain rfl : k = N + 1 := by omega
        have HR := Lib.hid (Rd.of_own Hown.out)
        obtain ⟨wo, rfl⟩ : ∃ x, x = wr := ⟨_, rfl⟩
        have HB := Lib.hid (sumBound_c wo.heap.size _ (N + 1) one1s M wo HR.out Hso.out (by omega))
        rw [← Hgd.out] at HB
        have H5 := Lib.hid (fun h => GdR.five (N := N) (M := M) (D := D) Hok.out h)
        have H0 := Lib.hid (fun h n h1 h2 => GdR.zero (N := N) (M := M) (D := D) Hok.out h n h1 h2)
        clear Hok
        generalize gdS (N : Int) (M : Int) = S at *
        by_cases hS : 1000000000000 < S
        · have hS' : (1000000000000 : Int) < (S : Int) := by omega
          have E := Lib.hid (H5.out hS)
          clear hS
          go_wp2_with fail
          refine (HB.out).mono ?_; rintro e w1 ⟨rfl, rfl⟩
          go_wp2_with fail
          go_ret2
          exact ⟨⟨_, _, rfl, E.out⟩, Hbl.out⟩
        · have hS' : (S : Int) ≤ 1000000000000 := by omega
          have HS := Lib.hid (show S ≤ 1000000000000 by omega)
          clear hS
          go_wp2_with fail
          refine (HB.out).mono ?_; rintro e w1 ⟨rfl, rfl⟩
          go_wp2_with fail
          have Hbz := Lib.hid Hbl.out
          go_loop [10, 11] (fun a b => ∃ n : Nat, a = .int .i64 (n : Int) ∧ b = .int .i64 ((D ^ n : Nat) : Int) ∧ D ^ n ≤ 16000000000000 ∧ ∀ j, j < n → D ^ j < S) (fun _ b => S - (intOf b).toNat)
          case atStart => exact ⟨0, rfl, by rw [Nat.pow_zero]; rfl, by rw [Nat.pow_zero]; omega, fun j hj => by omega⟩
          case round =>
            obtain ⟨n, rfl, rfl, hb, hall⟩ := hrel
            have Hall := Lib.hid hall
            have hpu := pow_up (n := n) hD2
            have Hpw := Lib.hid (Nat.pow_succ (n := D) (m := n))
            clear hall
            by_cases hlt : D ^ n < S
            · have Hlt := Lib.hid hlt
              have Hx := Lib.hid (show D ^ n = D ^ n from rfl)
              obtain ⟨u, hu⟩ : ∃ u, D ^ n = u := ⟨_, rfl⟩
              rw [hu] at hb hpu hlt Hpw ⊢
              obtain ⟨P, hP⟩ : ∃ P, u * D = P := ⟨_, rfl⟩
              rw [hP] at Hpw
              have hP1 : P ≤ 1000000000000 * 16 := by rw [← hP]; exact Nat.mul_le_mul (by omega) hD16
              have hP2 : u < P := by
                rw [← hP]
                have := Nat.mul_le_mul_left u hD2
                omega
              have hPw : IntKind.i64.wrap ((u : Int) * (D : Int)) = (P : Int) := by rw [← Int.natCast_mul, hP]; exact IntWalk.i64_in _ (by omega)
              have hlt' : (u : Int) < (S : Int) := by omega
              have Hu := Lib.hid hu
              clear hP hu Hx
              go_wp2_with fail
              go_round
              case rel => exact ⟨n + 1, by go_num, by rw [Hpw.out], by rw [Hpw.out]; omega, fun j hj => by
                by_cases e : j = n
                · subst e; exact Hlt.out
                · exact Hall.out j (by omega)⟩
              case measure => simp [intOf]; omega
            · have E := Lib.hid (H0.out HS.out n (by omega) Hall.out)
              have hlt' : ¬ ((D ^ n : Nat) : Int) < (S : Int) := by omega
              clear hlt hb
              generalize D ^ n = u at *
              go_wp2_with fail
              go_ret2
              exact ⟨⟨_, _, rfl, E.out⟩, Hbz.out⟩
  · have E := Lib.hid (GdR.two (a := a) (b := b) (c := c) (by simpa using hok))
    unfold okG at hok
    cases h1 : inB a 0 8 with
    | false =>
      rw [h1] at HO
      clear hok h1
      go_enter Try.func29, Try.ntmps29
      go_wp2_with fail
      refine (HO.out _).mono ?_; rintro e w1 ⟨rfl, rfl⟩
      go_wp2_with fail
      go_ret2
      exact ⟨⟨_, _, rfl, E.out⟩, Hb.out⟩
    | true =>
      cases h2 : inB b 0 100000 with
      | false =>
        rw [h1] at HO
        rw [h2] at HT
        clear hok h1 h2
        go_enter Try.func29, Try.ntmps29
        go_wp2_with fail
        refine (HO.out _).mono ?_; rintro e w1 ⟨rfl, rfl⟩
        go_wp2_with fail
        refine (HT.out _).mono ?_; rintro e w1 ⟨rfl, rfl⟩
        go_wp2_with fail
        go_ret2
        exact ⟨⟨_, _, rfl, E.out⟩, Hb.out⟩
      | true =>
        have h3 : inB c 2 16 = false := by rw [h1, h2] at hok; simpa using hok
        rw [h1] at HO
        rw [h2] at HT
        rw [h3] at HU
        clear hok h1 h2 h3
        go_enter Try.func29, Try.ntmps29
        go_wp2_with fail
        refine (HO.out _).mono ?_; rintro e w1 ⟨rfl, rfl⟩
        go_wp2_with fail
        refine (HT.out _).mono ?_; rintro e w1 ⟨rfl, rfl⟩
        go_wp2_with fail
        refine (HU.out _).mono ?_; rintro e w1 ⟨rfl, rfl⟩
        go_wp2_with fail
        go_ret2
        exact ⟨⟨_, _, rfl, E.out⟩, Hb.out⟩
set_option maxRecDepth 100000 in
set_option maxHeartbeats 3200000 in
theorem GuardDigitsS_c (a b c : Int) (w : World) : Calls Try.prog 30 #[.int .i64 a, .int .i64 b, .int .i64 c] w fun e w' => (∃ r x, e = .returned (.tuple #[.int .i64 r, .int .i64 x]) ∧ GdR a b c r x) ∧ Below w.heap.size w w' := by
  have HO := Lib.hid (fun wx => l00In_any a 0 8 wx)
  have HT := Lib.hid (fun wx => l00In_any b 0 100000 wx)
  have HU := Lib.hid (fun wx => l02Base_c c wx)
  have Hb := Lib.hid (Below.refl w.heap.size w)
  have hb0 := Lib.hid ((Below.refl w.heap.size w).alloc (Nat.le_refl _) (.cells #[] 2))
  have ho0 := Lib.hid (World.ownsRow_made (base := w.heap.size) (e := 2) (size := 1) w #[] 0 (Nat.le_refl _) (by simp [maxLen]) rfl)
  by_cases hok : okG a b c = true
  · have hok' := hok
    unfold okG at hok'
    simp only [Bool.and_eq_true] at hok'
    obtain ⟨⟨h1, h2⟩, h3⟩ := hok'
    rw [h1] at HO
    rw [h2] at HT
    rw [h3] at HU
    obtain ⟨a0, a1⟩ := inB_iff.1 h1
    obtain ⟨b0, b1⟩ := inB_iff.1 h2
    obtain ⟨c0, c1⟩ := inB_iff.1 h3
    have Hok := Lib.hid hok
    clear h1 h2 h3 hok
    obtain ⟨N, rfl⟩ : ∃ N : Nat, a = (N : Int) := ⟨a.toNat, by omega⟩
    obtain ⟨M, rfl⟩ : ∃ M : Nat, b = (M : Int) := ⟨b.toNat, by omega⟩
    obtain ⟨D, rfl⟩ : ∃ D : Nat, c = (D : Int) := ⟨c.toNat, by omega⟩
    have Hgd := Lib.hid (show gdS (N : Int) (M : Int) = sb (slipN one1s) (N + 1) M from rfl)
    have Hso := Lib.hid (slip_ones (m := N + 1) (by omega) (by omega))
    have hD2 : 2 ≤ D := by omega
    have hD16 : D ≤ 16 := by omega
    go_enter Try.func30, Try.ntmps30
    go_wp2_with fail
    refine (HO.out _).mono ?_; rintro e w1 ⟨rfl, rfl⟩
    go_wp2_with fail
    refine (HT.out _).mono ?_; rintro e w1 ⟨rfl, rfl⟩
    go_wp2_with fail
    refine (HU.out _).mono ?_; rintro e w1 ⟨rfl, rfl⟩
    go_wp2_with fail
    go_loopw [8, 9] (fun a i wr => ∃ k : Nat, k ≤ N + 1 ∧ i = .int .i64 (k : Int) ∧ wr.ownsRow w.heap.size 2 1 a k (tab k one1s) ∧ Below w.heap.size w wr) (fun _ i _ => N + 1 - (intOf i).toNat)
    case atStart => exact ⟨0, Nat.zero_le _, rfl, ho0.out, hb0.out⟩
    case round =>
      obtain ⟨k, hk, rfl, hown, hbl⟩ := hrel
      obtain ⟨A3, c3, rfl⟩ := own_sl hown
      have Hown := Lib.hid hown
      have Hbl := Lib.hid hbl
      clear hown hbl
      by_cases hlt : k < N + 1
      · have hlt' : (k : Int) ≤ (N : Int) := by omega
        have Hsn := Lib.hid (show tab (k + 1) one1s = tab k one1s ++ [.int .i64 1] from tab_succ k one1s)
        go_wp2_with (at_builtin; refine wpList_apd 24 2 _ 1 8 Try.underlying24 infoD rfl (by omega) _ _ rfl rfl w.heap.size _ k _ rfl Hown.out #[.int .i64 (1)] 1 1 rfl rfl (by simp [Value.oneCell']) (by simp [maxLen]; omega) (by omega) Hbl.out.size ?_; intro v5 w5 hown5 hg5; have Hb5 := Lib.hid (below_apd Hbl.out Hown.out hg5 (Nat.le_refl _) Hbl.out.size); obtain ⟨A5, c5, rfl⟩ := own_sl hown5; have Hown5 := Lib.hid hown5; clear hown5 hg5)
        go_roundw
        case rel => exact ⟨k + 1, by omega, by go_num, by rw [Hsn.out]; exact Hown5.out, Hb5.out⟩
        case measure => first | (simp [intOf]; done) | (simp [intOf]; omega)
      · obtain rfl : k = N + 1 := by omega
        have HR := Lib.hid (Rd.of_own Hown.out)
        obtain ⟨wo, rfl⟩ : ∃ x, x = wr := ⟨_, rfl⟩
        have HB := Lib.hid (l17Sum_c wo.heap.size _ (N + 1) one1s M wo HR.out Hso.out (by omega))
        rw [← Hgd.out] at HB
        have H5 := Lib.hid (fun h => GdR.five (N := N) (M := M) (D := D) Hok.out h)
        have H0 := Lib.hid (fun h n h1 h2 => GdR.zero (N := N) (M := M) (D := D) Hok.out h n h1 h2)
        clear Hok
        generalize gdS (N : Int) (M : Int) = S at *
        by_cases hS : 1000000000000 < S
        · have hS' : (1000000000000 : Int) < (S : Int) := by omega
          have E := Lib.hid (H5.out hS)
          clear hS
          go_wp2_with fail
          refine (HB.out).mono ?_; rintro e wy ⟨rfl, d, hd⟩
          have Hbz := Lib.hid (show Below w.heap.size w wy by rw [hd]; exact below_drewN Hbl.out d)
          clear hd
          go_wp2_with fail
          go_ret2
          exact ⟨⟨_, _, rfl, E.out⟩, Hbz.out⟩
        · have hS' : (S : Int) ≤ 1000000000000 := by omega
          have HS := Lib.hid (show S ≤ 1000000000000 by omega)
          clear hS
          go_wp2_with fail
          refine (HB.out).mono ?_; rintro e wy ⟨rfl, d, hd⟩
          have Hbz := Lib.hid (show Below w.heap.size w wy by rw [hd]; exact below_drewN Hbl.out d)
          clear hd
          go_wp2_with fail
          go_loop [11, 12] (fun a b => ∃ n : Nat, a = .int .i64 (n : Int) ∧ b = .int .i64 ((D ^ n : Nat) : Int) ∧ D ^ n ≤ 16000000000000 ∧ ∀ j, j < n → D ^ j < S) (fun _ b => S - (intOf b).toNat)
          case atStart => exact ⟨0, rfl, by rw [Nat.pow_zero]; rfl, by rw [Nat.pow_zero]; omega, fun j hj => by omega⟩
          case round =>
            obtain ⟨n, rfl, rfl, hb, hall⟩ := hrel
            have Hall := Lib.hid hall
            have hpu := pow_up (n := n) hD2
            have Hpw := Lib.hid (Nat.pow_succ (n := D) (m := n))
            clear hall
            by_cases hlt : D ^ n < S
            · have Hlt := Lib.hid hlt
              have Hx := Lib.hid (show D ^ n = D ^ n from rfl)
              obtain ⟨u, hu⟩ : ∃ u, D ^ n = u := ⟨_, rfl⟩
              rw [hu] at hb hpu hlt Hpw ⊢
              obtain ⟨P, hP⟩ : ∃ P, u * D = P := ⟨_, rfl⟩
              rw [hP] at Hpw
              have hP1 : P ≤ 1000000000000 * 16 := by rw [← hP]; exact Nat.mul_le_mul (by omega) hD16
              have hP2 : u < P := by
                rw [← hP]
                have := Nat.mul_le_mul_left u hD2
                omega
              have hPw : IntKind.i64.wrap ((u : Int) * (D : Int)) = (P : Int) := by rw [← Int.natCast_mul, hP]; exact IntWalk.i64_in _ (by omega)
              have hlt' : (u : Int) < (S : Int) := by omega
              have Hu := Lib.hid hu
              clear hP hu Hx
              go_wp2_with fail
              go_round
              case rel => exact ⟨n + 1, by go_num, by rw [Hpw.out], by rw [Hpw.out]; omega, fun j hj => by
                by_cases e : j = n
                · subst e; exact Hlt.out
                · exact Hall.out j (by omega)⟩
              case measure => simp [intOf]; omega
            · have E := Lib.hid (H0.out HS.out n (by omega) Hall.out)
              have hlt' : ¬ ((D ^ n : Nat) : Int) < (S : Int) := by omega
              clear hlt hb
              generalize D ^ n = u at *
              go_wp2_with fail
              go_ret2
              exact ⟨⟨_, _, rfl, E.out⟩, Hbz.out⟩
  · have E := Lib.hid (GdR.two (a := a) (b := b) (c := c) (by simpa using hok))
    unfold okG at hok
    cases h1 : inB a 0 8 with
    | false =>
      rw [h1] at HO
      clear hok h1
      go_enter Try.func30, Try.ntmps30
      go_wp2_with fail
      refine (HO.out _).mono ?_; rintro e w1 ⟨rfl, rfl⟩
      go_wp2_with fail
      go_ret2
      exact ⟨⟨_, _, rfl, E.out⟩, Hb.out⟩
    | true =>
      cases h2 : inB b 0 100000 with
      | false =>
        rw [h1] at HO
        rw [h2] at HT
        clear hok h1 h2
        go_enter Try.func30, Try.ntmps30
        go_wp2_with fail
        refine (HO.out _).mono ?_; rintro e w1 ⟨rfl, rfl⟩
        go_wp2_with fail
        refine (HT.out _).mono ?_; rintro e w1 ⟨rfl, rfl⟩
        go_wp2_with fail
        go_ret2
        exact ⟨⟨_, _, rfl, E.out⟩, Hb.out⟩
      | true =>
        have h3 : inB c 2 16 = false := by rw [h1, h2] at hok; simpa using hok
        rw [h1] at HO
        rw [h2] at HT
        rw [h3] at HU
        clear hok h1 h2 h3
        go_enter Try.func30, Try.ntmps30
        go_wp2_with fail
        refine (HO.out _).mono ?_; rintro e w1 ⟨rfl, rfl⟩
        go_wp2_with fail
        refine (HT.out _).mono ?_; rintro e w1 ⟨rfl, rfl⟩
        go_wp2_with fail
        refine (HU.out _).mono ?_; rintro e w1 ⟨rfl, rfl⟩
        go_wp2_with fail
        go_ret2
        exact ⟨⟨_, _, rfl, E.out⟩, Hb.out⟩
end Go.Proofs.Ytdljlemgaefbpaa
