/- Differences, part 10: degrees, first differences, differences of an order. -/
import Derived.Test.YtddiielbmjkppaaDd1
namespace Go.Proofs.Ytddiielbmjkppaa
open Go.RowKit Go.Joins

/-- d is the least degree -/
def LeastD (n : Nat) (f : Nat → Int) (d : Nat) : Prop := d + 1 < n ∧ d ≤ 4 ∧ zer (n - (d + 1)) (Dn (d + 1) f) = true ∧ ∀ e, e < d → zer (n - (e + 1)) (Dn (e + 1) f) = false

set_option maxRecDepth 100000 in
set_option maxHeartbeats 1600000 in
theorem degreeOf_any (B : Nat) (v : Value) (n d : Nat) (f : Nat → Int) (w : World) (h : Rd w B v n 1 (tab n f)) (hB : B ≤ w.heap.size) (hn : n ≤ 100) (hS : Small 1000000000 n f) (hd : LeastD n f d) :
    Calls Try.prog 174 #[v] w fun e w' => e = .returned (.int .i64 (d : Int)) ∧ Below w.heap.size w w' := by
  have H := Lib.hid h
  obtain ⟨hd1, hd4, hd2, hd3⟩ := hd
  have HD2 := Lib.hid hd2
  have HD3 := Lib.hid hd3
  have HH := Lib.hid (fun e wx (he : e ≤ d) hx hz => hasDegree_any B v n 1000000000 e f wx hx hz hn (by omega) hS (by
    have : 2 ^ (e + 1) ≤ 2 ^ 5 := Nat.pow_le_pow_right (by omega) (by omega)
    omega))
  obtain ⟨A, c, rfl⟩ := rd_sl h
  clear h hS hd2 hd3
  have hb0 := Lib.hid (Below.refl w.heap.size w)
  go_enter Try.func174, Try.ntmps174
  go_wp2_with fail
  go_loopw [3] (fun i wr => ∃ k : Nat, k ≤ d ∧ i = .int .i64 (k : Int) ∧ Below w.heap.size w wr) (fun i _ => d - (intOf i).toNat)
  case atStart => exact ⟨0, Nat.zero_le _, rfl, hb0.out⟩
  case round =>
    obtain ⟨k, hk, rfl, hbl⟩ := hrel
    have Hbl := Lib.hid hbl
    clear hbl
    have HHk := Lib.hid (HH.out k wr hk (H.out.below (Hbl.out.mono hB)) (Nat.le_trans hB Hbl.out.size))
    have hk5 : (k : Int) < 5 := by omega
    by_cases hkd : k = d
    · subst hkd
      rw [HD2.out] at HHk
      go_wp2_with fail
      refine (HHk.out).mono ?_; rintro e w2 ⟨rfl, hb2⟩
      have Hb2 := Lib.hid (Hbl.out.trans (hb2.mono Hbl.out.size))
      clear hb2
      go_wp2_with fail
      go_ret
      exact ⟨rfl, Hb2.out⟩
    · rw [HD3.out k (by omega)] at HHk
      go_wp2_with fail
      refine (HHk.out).mono ?_; rintro e w2 ⟨rfl, hb2⟩
      have Hb2 := Lib.hid (Hbl.out.trans (hb2.mono Hbl.out.size))
      clear hb2
      go_wp2_with fail
      go_roundw
      case rel => exact ⟨k + 1, by omega, by go_num, Hb2.out⟩
      case measure => first | (simp [intOf]; done) | (simp [intOf]; omega)

theorem DegreeOf_any (B : Nat) (v : Value) (n d : Nat) (f : Nat → Int) (w : World) (h : Rd w B v n 1 (tab n f)) (hB : B ≤ w.heap.size) (hn : n ≤ 30) (hS : Small 1000000000 n f) (hd : LeastD n f d) :
    Calls Try.prog 19 #[v] w fun e w' => e = .returned (.tuple #[.int .i64 (d : Int), .int .i64 0]) ∧ Below w.heap.size w w' := by
  have hd1 := hd.1
  have HE := Lib.hid (areValues_b B v n f w h (by omega) hn hS)
  have HD := Lib.hid (degreeOf_any B v n d f w h hB (by omega) hS hd)
  obtain ⟨A, c, rfl⟩ := rd_sl h
  clear h hS hd
  go_enter Try.func19, Try.ntmps19
  go_wp2_with fail
  refine (HE.out).mono ?_; rintro e w1 ⟨rfl, rfl⟩
  go_wp2_with fail
  refine (HD.out).mono ?_; rintro e w2 ⟨rfl, hb2⟩
  have Hb2 := Lib.hid hb2
  clear hb2
  go_wp2_with fail
  go_ret2
  exact ⟨rfl, Hb2.out⟩

set_option maxRecDepth 100000 in
set_option maxHeartbeats 1600000 in
theorem NewtonOf_any (B : Nat) (v : Value) (n d M : Nat) (f : Nat → Int) (w : World) (h : Rd w B v n 1 (tab n f)) (hB : B ≤ w.heap.size) (hn : n ≤ 30) (hS : Small M n f) (hM : M ≤ 30000000) (hd : LeastD n f d) :
    Calls Try.prog 18 #[v] w (RetF0 w (d + 1) (fun j => Dn j f 0)) := by
  have H := Lib.hid h
  have hd1 := hd.1
  have hd4 := hd.2.1
  have HE := Lib.hid (areValues_b B v n f w h (by omega) hn (hS.more (by omega)))
  have HD := Lib.hid (degreeOf_any B v n d f w h hB (by omega) (hS.more (by omega)) hd)
  have HL := Lib.hid (fun wx hx hz => leading_any B v n M (d + 1) f wx hx hz (by omega) (by omega) hS (by
    have : 2 ^ (d + 1) ≤ 2 ^ 5 := Nat.pow_le_pow_right (by omega) (by omega)
    exact Nat.le_trans (Nat.mul_le_mul this hM) (by omega)))
  have HC := Lib.hid (fun Bx wx vx hx => areCoefs_any Bx vx (d + 1) (fun j => Dn j f 0) wx hx (by omega) (by omega) (fun j hj => by
    have h1 := hS.Dn j 0 (by omega)
    have h2 : 2 ^ j ≤ 2 ^ 4 := Nat.pow_le_pow_right (by omega) (by omega)
    have h3 := Nat.mul_le_mul h2 hM
    show _ ≤ Dn j f 0 ∧ Dn j f 0 ≤ _
    omega))
  unfold RetF at HL
  rw [show ((d + 1 : Nat) : Int) = (d : Int) + 1 by omega] at HL
  obtain ⟨A, c, rfl⟩ := rd_sl h
  clear h hS hd
  have hd5 : (d : Int) < 5 := by omega
  go_enter Try.func18, Try.ntmps18
  go_wp2_with fail
  refine (HE.out).mono ?_; rintro e w1 ⟨rfl, rfl⟩
  go_wp2_with fail
  refine (HD.out).mono ?_; rintro e w2 ⟨rfl, hb2⟩
  have HL2 := Lib.hid (HL.out w2 (H.out.below (hb2.mono hB)) (Nat.le_trans hB hb2.size))
  have Hb2 := Lib.hid hb2
  clear hb2
  go_wp2_with fail
  refine (HL2.out).mono ?_; rintro e w3 ⟨v3, rfl, ho3, hb3⟩
  obtain ⟨A3, c3, rfl⟩ := own_sl ho3
  have HC3 := Lib.hid (HC.out _ w3 _ (Rd.of_own ho3))
  have Ho3 := Lib.hid (ownsRow_le ho3 Hb2.out.size)
  have Hb3 := Lib.hid (Hb2.out.trans (hb3.mono Hb2.out.size))
  clear ho3 hb3
  go_wp2_with fail
  refine (HC3.out).mono ?_; rintro e w1 ⟨rfl, rfl⟩
  go_wp2_with fail
  go_ret2
  exact ⟨_, rfl, Ho3.out, Hb3.out⟩

set_option maxRecDepth 100000 in
set_option maxHeartbeats 1600000 in
theorem DifferencesOf_any (B : Nat) (v : Value) (n k M : Nat) (f : Nat → Int) (w : World) (h : Rd w B v n 1 (tab n f)) (hB : B ≤ w.heap.size) (hn : n ≤ 30) (hk : k < n) (hS : Small M n f) (hM : M ≤ 1000000) :
    Calls Try.prog 21 #[v, .int .i64 (k : Int)] w (RetF0 w (n - k) (Dn k f)) := by
  have HE := Lib.hid (areValues_b B v n f w h (by omega) hn (hS.more (by omega)))
  have HB := Lib.hid (fun wx => between_any (k : Int) 0 ((n : Int) - 1) wx)
  rw [inB_true (by omega) (by omega)] at HB
  have HD := Lib.hid (differences_any B v n M k f w h hB (by omega) (by omega) (by omega) hS (by
    have : 2 ^ k ≤ 2 ^ 30 := Nat.pow_le_pow_right (by omega) (by omega)
    exact Nat.le_trans (Nat.mul_le_mul this hM) (by omega)))
  unfold RetF at HD
  obtain ⟨A, c, rfl⟩ := rd_sl h
  have hk' : (k : Int) < (n : Int) := by omega
  generalize n - k = L at *
  clear h hS
  go_enter Try.func21, Try.ntmps21
  go_wp2_with fail
  refine (HE.out).mono ?_; rintro e w1 ⟨rfl, rfl⟩
  go_wp2_with fail
  refine (HB.out _).mono ?_; rintro e w1 ⟨rfl, rfl⟩
  go_wp2_with fail
  refine (HD.out).mono ?_; rintro e w2 ⟨v2, rfl, ho2, hb2⟩
  obtain ⟨A2, c2, rfl⟩ := own_sl ho2
  have Ho2 := Lib.hid ho2
  have Hb2 := Lib.hid hb2
  clear ho2 hb2
  go_wp2_with fail
  go_ret2
  exact ⟨_, rfl, Ho2.out, Hb2.out⟩
end Go.Proofs.Ytddiielbmjkppaa
