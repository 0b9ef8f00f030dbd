/- Fewest turns, part 5: valid turns, their factor. -/
import Derived.Test.YtddiielbmjkppaaFew4
namespace Go.Proofs.Ytddiielbmjkppaa
open Go.RowKit Go.Joins

def TOk (b : Nat) (l : List Int) : Prop := 2 ≤ b ∧ b ≤ 16 ∧ l.length ≤ 40 ∧ (∀ k, k < l.length → -16 ≤ at0 l k ∧ at0 l k ≤ 16) ∧ (∀ k, k + 1 = l.length → at0 l k ≠ 0) ∧
  ∀ k, k ≤ l.length → -1000000000 ≤ val b (l.drop k) ∧ val b (l.drop k) ≤ 1000000000
theorem val_drop (b : Int) (l : List Int) (k : Nat) (hk : k < l.length) : val b (l.drop k) = val b (l.drop (k + 1)) * b + at0 l k := by
  rw [List.drop_eq_getElem_cons hk]
  show l[k] + val b (l.drop (k + 1)) * b = _
  simp [at0, List.getD, hk]; omega

set_option maxRecDepth 100000 in
set_option maxHeartbeats 1600000 in
theorem factor_any (B b : Nat) (v : Value) (l : List Int) (w : World) (h : RdI w B v l) (hB : B ≤ w.heap.size) (ht : TOk b l) :
    Calls Try.prog 199 #[.agg #[.int .i64 (b : Int), v]] w fun e w' => e = .returned (.tuple #[.int .i64 (val b l), .bool true]) ∧ Below w.heap.size w w' := by
  obtain ⟨hb, hb2, hl, hd, hz, hv⟩ := ht
  obtain ⟨A, c, rfl⟩ := rd_sl h
  have hb1 := (Below.refl w.heap.size w).alloc (Nat.le_refl _) (.cells #[.int .i64 (b : Int), .slice A l.length c] 58)
  have H := Lib.hid (RdI.tab (Rd.below h (hb1.mono hB)))
  obtain ⟨f0, f1⟩ := box2 (w := w) (x := .int .i64 (b : Int)) (y := .slice A l.length c) (t := 58)
  have HD := Lib.hid hd
  have HV := Lib.hid hv
  have Hb1 := Lib.hid hb1
  have Hvl := Lib.hid (show val b (l.drop 0) = val b l from rfl)
  have Hvn := Lib.hid (show val b (l.drop l.length) = 0 by rw [List.drop_length]; rfl)
  have hl' : (l.length : Int) ≤ 40 := by omega
  have hb16 : (b : Int) ≤ 16 := by omega
  clear h hd hv hz hb1
  go_enter Try.func199, Try.ntmps199
  go_wp2_with fail
  generalize w.alloc (.cells #[.int .i64 (b : Int), .slice A l.length c] 58) = w1 at *
  go_loopw [4, 5] (fun a i wr => ∃ (k q : Nat) (z : Int), k ≤ l.length ∧ z + 1 = (k : Int) ∧ i = .int .i64 z ∧ a = .int .i64 (val b (l.drop k)) ∧ wr = w1.drewN q) (fun _ i _ => (intOf i + 1).toNat)
  case atStart => exact ⟨l.length, 0, (l.length : Int) - 1, Nat.le_refl _, by omega, rfl, by rw [Hvn.out], rfl⟩
  case round =>
    obtain ⟨k, q, z, hk, hz, rfl, rfl, rfl⟩ := hrel
    by_cases hk0 : k = 0
    · subst hk0
      obtain rfl : z = -1 := by omega
      rw [Hvl.out]
      have Hbe := Lib.hid (below_drewN Hb1.out q)
      clear hz
      go_wp2_with fail
      go_ret2
      exact ⟨rfl, Hbe.out⟩
    · obtain ⟨m, rfl⟩ : ∃ m, k = m + 1 := ⟨k - 1, by omega⟩
      obtain rfl : z = (m : Int) := by omega
      obtain ⟨b1, o1, hA, _, hcc⟩ := rdF_all H.out (by omega)
      subst hA
      have q0 := hcc m (by omega)
      have s0 := HD.out m (by omega)
      have n0 := HV.out (m + 1) hk
      have n1 := HV.out m (by omega)
      have Hn := Lib.hid (val_drop b l m (by omega))
      rw [Hn.out] at n1
      generalize val b (l.drop (m + 1)) = s at *
      generalize at0 l m = x at *
      have m0 := abs_mul (A := 1000000000) (B := 16) n0 (show -(16 : Int) ≤ (b : Int) ∧ (b : Int) ≤ 16 by omega)
      generalize hP : s * (b : Int) = P at *
      have hw1 : IntKind.i64.wrap P = P := IntWalk.i64_in _ (by omega)
      have hw2 : IntKind.i64.wrap (P + x) = P + x := IntWalk.i64_in _ (by omega)
      have HB := Lib.hid (fun wx => between_any (P + x) (-1000000000) 1000000000 wx)
      rw [inB_true (by omega) (by omega)] at HB
      have hml : (m : Int) < (l.length : Int) := by omega
      have hml' : m < l.length := by omega
      clear hcc hz n0 m0
      go_wp2_with fail
      go_quiet (fail)
      clear hw1 hw2
      go_wp2_with fail
      refine (HB.out _).mono ?_; rintro e w1 ⟨rfl, rfl⟩
      go_wp2_with fail
      go_roundw
      case rel => exact ⟨m, q + nq, (m : Int) - 1, by omega, by omega, by go_num, by rw [Hn.out], rfl⟩
      case measure => first | (simp [intOf]; done) | (simp [intOf]; omega)

set_option maxRecDepth 100000 in
set_option maxHeartbeats 1600000 in
theorem ValidTurns_any (B b : Nat) (v : Value) (l : List Int) (w : World) (h : RdI w B v l) (hB : B ≤ w.heap.size) (ht : TOk b l) :
    Calls Try.prog 198 #[.agg #[.int .i64 (b : Int), v]] w fun e w' => e = .returned (.bool true) ∧ Below w.heap.size w w' := by
  obtain ⟨hb, hb2, hl, hd, hz, _⟩ := id ht
  obtain ⟨A, c, rfl⟩ := rd_sl h
  have hb1 := (Below.refl w.heap.size w).alloc (Nat.le_refl _) (.cells #[.int .i64 (b : Int), .slice A l.length c] 58)
  have H := Lib.hid (RdI.tab (Rd.below h (hb1.mono hB)))
  have HF := Lib.hid (factor_any B b _ l _ (Rd.below h (hb1.mono hB)) (Nat.le_trans hB hb1.size) ht)
  obtain ⟨f0, f1⟩ := box2 (w := w) (x := .int .i64 (b : Int)) (y := .slice A l.length c) (t := 58)
  have HD := Lib.hid hd
  have Hz := Lib.hid hz
  have Hb1 := Lib.hid hb1
  have HI := Lib.hid (fun wx => isBase_ok b wx hb hb2)
  have hl' : (l.length : Int) ≤ 40 := by omega
  clear h hd hz hb1
  go_enter Try.func198, Try.ntmps198
  go_wp2_with fail
  generalize w.alloc (.cells #[.int .i64 (b : Int), .slice A l.length c] 58) = w1 at *
  refine (HI.out _).mono ?_; rintro e w1 ⟨rfl, rfl⟩
  go_wp2_with fail
  go_loop [21] (fun i => ∃ k : Nat, k ≤ l.length ∧ i = .int .i64 (k : Int)) (fun i => l.length - (intOf i).toNat)
  case atStart => exact ⟨0, Nat.zero_le _, rfl⟩
  case round =>
    obtain ⟨k, hk, rfl⟩ := hrel
    by_cases hlt : k < l.length
    · obtain ⟨b1, o1, hA, _, hcc⟩ := rdF_all H.out (by omega)
      subst hA
      have q0 := hcc k hlt
      have s0 := HD.out k hlt
      have hlt' : (k : Int) < (l.length : Int) := by omega
      generalize at0 l k = x at *
      have HB := Lib.hid (fun wx => between_any x (-16) 16 wx)
      rw [inB_true (by omega) (by omega)] at HB
      clear hcc
      go_wp2_with fail
      refine (HB.out _).mono ?_; rintro e w1 ⟨rfl, rfl⟩
      go_wp2_with fail
      go_round
      case rel => exact ⟨k + 1, by omega, by go_num⟩
      case measure => first | (simp [intOf]; done) | (simp [intOf]; omega)
    · obtain rfl : k = l.length := by omega
      by_cases hl0 : l.length = 0
      · have hl0' : (l.length : Int) = 0 := by omega
        generalize l.length = L at *
        subst hl0
        go_wp2_with fail
        refine (HF.out).mono ?_; rintro e w2 ⟨rfl, hb2⟩
        have Hb2 := Lib.hid (Hb1.out.trans (hb2.mono Hb1.out.size))
        clear hb2
        go_wp2_with fail
        go_ret
        exact ⟨rfl, Hb2.out⟩
      · obtain ⟨m, hm⟩ : ∃ m, m + 1 = l.length := ⟨l.length - 1, by omega⟩
        obtain ⟨b1, o1, hA, _, hcc⟩ := rdF_all H.out (by omega)
        subst hA
        have q0 := hcc m (by omega)
        have hx := Hz.out m hm
        generalize at0 l m = x at *
        have hx' : (x == 0) = false := by simp [hx]
        have hlm : (l.length : Int) - 1 = (m : Int) := by omega
        have hlm2 : m < l.length := by omega
        have hlm3 : 1 ≤ (l.length : Int) := by omega
        have Hm := Lib.hid hm
        clear hcc hk hlt hl0 hx hm
        go_wp2_with fail
        refine (HF.out).mono ?_; rintro e w2 ⟨rfl, hb2⟩
        have Hb2 := Lib.hid (Hb1.out.trans (hb2.mono Hb1.out.size))
        clear hb2
        go_wp2_with fail
        go_ret
        exact ⟨rfl, Hb2.out⟩
end Go.Proofs.Ytddiielbmjkppaa
