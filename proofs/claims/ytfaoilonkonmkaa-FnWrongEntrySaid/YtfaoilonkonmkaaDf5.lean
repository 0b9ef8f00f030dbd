/- Differences, part 5: polynomials of powers; BinomialOf. -/
import Derived.Test.YtfaoilonkonmkaaDf4
namespace Go.Proofs.Ytfaoilonkonmkaa
open Go.RowKit Go.Joins

/-- Horner's value, the last d coefficients of m -/
def hp (p : Nat → Int) (x m : Nat) : Nat → Int
  | 0 => 0
  | d + 1 => hp p x m d * (x : Int) + p (m - 1 - d)
theorem hp_bd {p : Nat → Int} {m x X : Nat} (hS : Small 20 m p) (hx : x ≤ X) : ∀ d, d ≤ m → -((20 * (X + 1) ^ d : Nat) : Int) ≤ hp p x m d ∧ hp p x m d ≤ ((20 * (X + 1) ^ d : Nat) : Int)
  | 0, _ => by simp [hp]
  | d + 1, hd => by
    have h1 := hp_bd hS hx d (by omega)
    have h2 := mul_bd h1 x X hx
    have h3 := hS (m - 1 - d) (by omega)
    have h4 : 1 ≤ (X + 1) ^ d := Nat.one_le_pow _ _ (by omega)
    have h5 : 20 * (X + 1) ^ (d + 1) = 20 * (X + 1) ^ d * X + 20 * (X + 1) ^ d := by rw [Nat.pow_succ, ← Nat.mul_assoc, Nat.mul_add, Nat.mul_one]
    show _ ≤ hp p x m d * (x : Int) + p (m - 1 - d) ∧ hp p x m d * (x : Int) + p (m - 1 - d) ≤ _
    rw [h5]
    omega
theorem hp_bd2 {p : Nat → Int} {m x X d : Nat} (hS : Small 20 m p) (hx : x ≤ X) (hX : X ≤ 8) (hm : m ≤ 5) (hd : d ≤ m) : -1180980 ≤ hp p x m d ∧ hp p x m d ≤ 1180980 := by
  have h1 := hp_bd hS hx d hd
  have h2 : 20 * (X + 1) ^ d ≤ 20 * 9 ^ 5 := Nat.mul_le_mul_left _ (Nat.le_trans (Nat.pow_le_pow_left (by omega) d) (Nat.pow_le_pow_right (by omega) (by omega)))
  omega
theorem vals_small {p : Nat → Int} {m : Nat} (hS : Small 20 m p) (hm : m ≤ 5) : Small 62500 m (fun x => hp p x m m) := by
  intro x hx
  have h1 := hp_bd (X := 4) hS (show x ≤ 4 by omega) m (Nat.le_refl _)
  have h2 : 20 * (4 + 1) ^ m ≤ 20 * 5 ^ 5 := Nat.mul_le_mul_left _ (Nat.pow_le_pow_right (by omega) (by omega))
  show _ ≤ hp p x m m ∧ hp p x m m ≤ _
  omega
theorem lead_small {p : Nat → Int} {m : Nat} (hS : Small 20 m p) (hm : m ≤ 5) : Small 1000000 m (fun j => Dn j (fun x => hp p x m m) 0) := by
  intro j hj
  have h1 := (vals_small hS hm).Dn j 0 (by omega)
  have h2 : 2 ^ j * 62500 ≤ 2 ^ 4 * 62500 := Nat.mul_le_mul_right _ (Nat.pow_le_pow_right (by omega) (by omega))
  show _ ≤ Dn j _ 0 ∧ Dn j _ 0 ≤ _
  omega

theorem BinomialOf_any (n k : Nat) (w : World) (hn : n < 61) (hk : k < 61) :
    Calls Try.prog 57 #[.int .i64 (n : Int), .int .i64 (k : Int)] w fun e w' => e = .returned (.tuple #[.int .i64 (binV n k : Int), .int .i64 0]) ∧ w = w' := by
  have H1 := Lib.hid (fun wx => between_any (n : Int) 0 60 wx)
  rw [inB_true (by omega) (by omega)] at H1
  have H2 := Lib.hid (fun wx => between_any (k : Int) 0 60 wx)
  rw [inB_true (by omega) (by omega)] at H2
  have HB := Lib.hid (fun wx => binomial_any n k wx hn hk)
  go_enter Try.func57, Try.ntmps57
  go_wp2_with fail
  refine (H1.out _).mono ?_; rintro e w1 ⟨rfl, rfl⟩
  go_wp2_with fail
  refine (H2.out _).mono ?_; rintro e w1 ⟨rfl, rfl⟩
  go_wp2_with fail
  refine (HB.out _).mono ?_; rintro e w1 ⟨rfl, rfl⟩
  go_wp2_with fail
  go_ret2
  exact ⟨rfl, rfl⟩

/-- a row of numbers of the call's own and the code 0 -/
def RetF0 (w : World) (n : Nat) (f : Nat → Int) (e : Ending) (w' : World) : Prop :=
  ∃ v, e = .returned (.tuple #[v, .int .i64 0]) ∧ w'.ownsRow w.heap.size 2 1 v n (tab n f) ∧ Below w.heap.size w w'

set_option maxRecDepth 100000 in
set_option maxHeartbeats 3200000 in
theorem FromPowers_any (B : Nat) (v : Value) (m : Nat) (p : Nat → Int) (w : World) (h : Rd w B v m 1 (tab m p)) (hB : B ≤ w.heap.size) (h1 : 1 ≤ m) (hm : m ≤ 5) (hS : Small 20 m p) :
    Calls Try.prog 59 #[v] w (RetF0 w m (fun j => Dn j (fun x => hp p x m m) 0)) := by
  have H := Lib.hid h
  have HS := Lib.hid hS
  have HC := Lib.hid (areCoefs_any B v m p w h h1 (by omega) (hS.more (by omega)))
  have HLd := Lib.hid (fun wx vx hx => leading_any wx.heap.size vx m 62500 m (fun x => hp p x m m) wx hx (Nat.le_refl _) (by omega) (Nat.le_refl _) (vals_small hS hm) (Nat.le_trans (Nat.mul_le_mul_right _ (Nat.pow_le_pow_right (by omega) hm)) (by omega)))
  have HCo := Lib.hid (fun Bx wx vx hx => areCoefs_any Bx vx m (fun j => Dn j (fun x => hp p x m m) 0) wx hx h1 (by omega) ((lead_small hS hm).more (by omega)))
  unfold RetF at HLd
  obtain ⟨A, c, rfl⟩ := rd_sl h
  clear h hS
  have hb0 := Lib.hid ((Below.refl w.heap.size w).alloc (Nat.le_refl _) (.cells #[] 2))
  have ho0 := Lib.hid (World.ownsRow_made (base := w.heap.size) (e := 2) (size := 1) w #[] 0 (Nat.le_refl _) (by simp [maxLen]) rfl)
  go_enter Try.func59, Try.ntmps59
  go_wp2_with fail
  refine HC.out.mono ?_; rintro e w1 ⟨rfl, rfl⟩
  go_wp2_with fail
  go_loopw [4, 15] (fun a i wr => ∃ j : Nat, j ≤ m ∧ i = .int .i64 (j : Int) ∧ wr.ownsRow w.heap.size 2 1 a j (tab j (fun x => hp p x m m)) ∧ Below w.heap.size w wr) (fun _ i _ => m - (intOf i).toNat)
  case atStart => exact ⟨0, Nat.zero_le _, rfl, ho0.out, hb0.out⟩
  case round =>
    obtain ⟨j, hj, rfl, hown, hbl⟩ := hrel
    obtain ⟨A3, c3, rfl⟩ := own_sl hown
    have Hown := Lib.hid hown
    have Hbl := Lib.hid hbl
    have Hr := Lib.hid (H.out.below (hbl.mono hB))
    clear hown hbl
    obtain ⟨w1, rfl⟩ : ∃ x, x = wr := ⟨_, rfl⟩
    by_cases hlt : j < m
    · have hlt' : (j : Int) < (m : Int) := by omega
      have hm' : (m : Int) ≤ 5 := by omega
      go_wp2_with fail
      go_loop [6, 7] (fun a i => ∃ (d : Nat) (z : Int), d ≤ m ∧ z + d + 1 = (m : Int) ∧ i = .int .i64 z ∧ a = .int .i64 (hp p j m d)) (fun _ i => (intOf i + 1).toNat)
      case atStart => exact ⟨0, (m : Int) - 1, Nat.zero_le _, by omega, rfl, rfl⟩
      case round =>
        obtain ⟨d, z, hd, hz, rfl, rfl⟩ := hrel
        have Hz := Lib.hid hz
        by_cases hdm : d < m
        · obtain ⟨s, rfl⟩ : ∃ s : Nat, z = (s : Int) := ⟨z.toNat, by omega⟩
          have hs : s < m := by omega
          have hsd : m - 1 - d = s := by omega
          obtain ⟨b1, o1, hA, _, hcc⟩ := rdF_all Hr.out h1
          subst hA
          have q0 := hcc s hs
          have s0 := HS.out s hs
          have n0 := hp_bd2 (X := 4) HS.out (show j ≤ 4 by omega) (by omega) hm hd
          have n1 := hp_bd2 (X := 4) HS.out (show j ≤ 4 by omega) (by omega) hm (show d + 1 ≤ m by omega)
          have Hn := Lib.hid (show hp p j m (d + 1) = hp p j m d * (j : Int) + p s by rw [← hsd]; rfl)
          rw [Hn.out] at n1
          have m0 := mul_bd (C := 1180980) (by omega) j 4 (show j ≤ 4 by omega) (a := hp p j m d)
          generalize hp p j m d = y at *
          generalize p s = ps at *
          generalize hP : y * (j : Int) = P at *
          have hPw : IntKind.i64.wrap P = P := IntWalk.i64_in _ (by omega)
          have hsw : IntKind.i64.wrap (P + ps) = P + ps := IntWalk.i64_in _ (by omega)
          have HF := Lib.hid (fun wx => isFar_any (P + ps) wx (by omega) (by omega))
          have hsi : (s : Int) < (m : Int) := by omega
          clear hcc n0 n1 m0 hz hsd
          go_wp2_with fail
          refine (HF.out _).mono ?_; rintro e w2 ⟨rfl, rfl⟩
          go_wp2_with fail
          go_round
          case rel => exact ⟨d + 1, (s : Int) - 1, by omega, by have := Hz.out; omega, by go_num, by rw [Hn.out]⟩
          case measure => first | (simp [intOf]; done) | (simp [intOf]; omega)
        · have hz1 : z = -1 := by omega
          subst hz1
          have hdm' : d = m := by omega
          subst hdm'
          have Hsc := Lib.hid (tab_succ j (fun x => hp p x d d))
          (try dsimp only at Hsc)
          clear hz
          generalize hy : hp p j d d = y at *
          have Hy := Lib.hid hy
          clear hy
          go_wp2_with (at_builtin; refine wpList_apd 22 2 _ 1 8 Try.underlying22 infoD rfl (by omega) _ _ rfl rfl w.heap.size _ j _ rfl Hown.out #[.int .i64 y] 1 1 rfl rfl (by simp [Value.oneCell']) (by simp [maxLen]; omega) (by omega) Hbl.out.size ?_; intro v7 w7 hown7 hg7; have Hb7 := Lib.hid (below_apd Hbl.out Hown.out hg7 (Nat.le_refl _) Hbl.out.size); obtain ⟨A7, c7, rfl⟩ := own_sl hown7; have Hown7 := Lib.hid hown7; clear hown7 hg7)
          go_roundw
          case rel => exact ⟨j + 1, by omega, by go_num, by rw [Hsc.out]; exact Hown7.out, Hb7.out⟩
          case measure => simp [intOf]; omega
    · have hjm : j = m := by omega
      have hlt' : (m : Int) ≤ (j : Int) := by omega
      subst hjm
      have HL2 := Lib.hid (HLd.out w1 _ (Rd.of_own Hown.out))
      go_wp2_with fail
      refine HL2.out.mono ?_; rintro e w2 ⟨v2, rfl, ho2, hb2⟩
      obtain ⟨A2, c2, rfl⟩ := own_sl ho2
      have HC2 := Lib.hid (HCo.out _ w2 _ (Rd.of_own ho2))
      have Ho2 := Lib.hid (ownsRow_le ho2 Hbl.out.size)
      have Hb2 := Lib.hid (Hbl.out.trans (hb2.mono Hbl.out.size))
      clear ho2 hb2
      go_wp2_with fail
      refine HC2.out.mono ?_; rintro e w3 ⟨rfl, rfl⟩
      go_wp2_with fail
      go_ret2
      exact ⟨_, rfl, Ho2.out, Hb2.out⟩

/-- Newton's formula for polynomials of up to five powers, up to 8 -/
theorem newton_pow (p : Nat → Int) (m x : Nat) (h1 : 1 ≤ m) (hm : m ≤ 5) (hx : x < 9) : nval (fun j => Dn j (fun i => hp p i m m) 0) x m = hp p x m m := by
  obtain rfl | rfl | rfl | rfl | rfl : m = 1 ∨ m = 2 ∨ m = 3 ∨ m = 4 ∨ m = 5 := by omega
  all_goals
    obtain rfl | rfl | rfl | rfl | rfl | rfl | rfl | rfl | rfl : x = 0 ∨ x = 1 ∨ x = 2 ∨ x = 3 ∨ x = 4 ∨ x = 5 ∨ x = 6 ∨ x = 7 ∨ x = 8 := by omega
    all_goals
      simp [nval, Dn, D, hp, chb]
      try omega
end Go.Proofs.Ytfaoilonkonmkaa
