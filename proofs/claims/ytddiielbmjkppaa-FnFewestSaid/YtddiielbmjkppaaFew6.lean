/- Fewest turns, part 6: the factor and the number of turns; the reference's tests. -/
import Derived.Test.YtddiielbmjkppaaFew5
namespace Go.Proofs.Ytddiielbmjkppaa
open Go.RowKit Go.Joins

set_option maxRecDepth 100000 in
set_option maxHeartbeats 1600000 in
theorem FactorOf_any (B b : Nat) (v : Value) (l : List Int) (w : World) (h : RdI w B v l) (hB : B ≤ w.heap.size) (ht : TOk b l) :
    Calls Try.prog 45 #[.agg #[.int .i64 (b : Int), v]] w fun e w' => e = .returned (.tuple #[.int .i64 (val b l), .int .i64 0]) ∧ Below w.heap.size w w' := by
  obtain ⟨A, c, rfl⟩ := rd_sl h
  have hb1 := (Below.refl w.heap.size w).alloc (Nat.le_refl _) (.cells #[.int .i64 (b : Int), .slice A l.length c] 58)
  have HV := Lib.hid (ValidTurns_any B b _ l _ (Rd.below h (hb1.mono hB)) (Nat.le_trans hB hb1.size) ht)
  have HF := Lib.hid (fun wx hx hz => factor_any B b (.slice A l.length c) l wx hx hz ht)
  obtain ⟨f0, f1⟩ := box2 (w := w) (x := .int .i64 (b : Int)) (y := .slice A l.length c) (t := 58)
  have H := Lib.hid h
  have Hb1 := Lib.hid hb1
  have hsz : w.heap.size < (w.alloc (.cells #[.int .i64 (b : Int), .slice A l.length c] 58)).heap.size := by simp
  clear h hb1
  go_enter Try.func45, Try.ntmps45
  go_wp2_with fail
  generalize w.alloc (.cells #[.int .i64 (b : Int), .slice A l.length c] 58) = w1 at *
  refine (HV.out).mono ?_; rintro e w2 ⟨rfl, hb2⟩
  have g0 := (hb2.cell (p := ⟨w.heap.size, 0, none⟩) hsz).trans f0
  have g1 := (hb2.cell (p := ⟨w.heap.size, 1, none⟩) hsz).trans f1
  have hb02 := Hb1.out.trans (hb2.mono Hb1.out.size)
  have HF2 := Lib.hid (HF.out w2 (Rd.below H.out (hb02.mono hB)) (Nat.le_trans hB hb02.size))
  have Hb2 := Lib.hid hb02
  clear hb2 hb02
  go_wp2_with fail
  refine (HF2.out).mono ?_; rintro e w3 ⟨rfl, hb3⟩
  have Hb3 := Lib.hid (Hb2.out.trans (hb3.mono Hb2.out.size))
  clear hb3
  go_wp2_with fail
  go_ret2
  exact ⟨rfl, Hb3.out⟩
set_option maxRecDepth 100000 in
set_option maxHeartbeats 1600000 in
theorem CountTurns_any (B b : Nat) (v : Value) (l : List Int) (w : World) (h : RdI w B v l) (hB : B ≤ w.heap.size) (ht : TOk b l) :
    Calls Try.prog 46 #[.agg #[.int .i64 (b : Int), v]] w fun e w' => e = .returned (.tuple #[.int .i64 (cnt l : Int), .int .i64 0]) ∧ Below w.heap.size w w' := by
  obtain ⟨A, c, rfl⟩ := rd_sl h
  have hb1 := (Below.refl w.heap.size w).alloc (Nat.le_refl _) (.cells #[.int .i64 (b : Int), .slice A l.length c] 58)
  have HV := Lib.hid (ValidTurns_any B b _ l _ (Rd.below h (hb1.mono hB)) (Nat.le_trans hB hb1.size) ht)
  have HF := Lib.hid (fun wx hx => turnsOf_any B (.slice A l.length c) l wx hx ht.2.2.1 ht.2.2.2.1)
  obtain ⟨f0, f1⟩ := box2 (w := w) (x := .int .i64 (b : Int)) (y := .slice A l.length c) (t := 58)
  have H := Lib.hid h
  have Hb1 := Lib.hid hb1
  have hsz : w.heap.size < (w.alloc (.cells #[.int .i64 (b : Int), .slice A l.length c] 58)).heap.size := by simp
  clear h hb1
  go_enter Try.func46, Try.ntmps46
  go_wp2_with fail
  generalize w.alloc (.cells #[.int .i64 (b : Int), .slice A l.length c] 58) = w1 at *
  refine (HV.out).mono ?_; rintro e w2 ⟨rfl, hb2⟩
  have g0 := (hb2.cell (p := ⟨w.heap.size, 0, none⟩) hsz).trans f0
  have g1 := (hb2.cell (p := ⟨w.heap.size, 1, none⟩) hsz).trans f1
  have hb02 := Hb1.out.trans (hb2.mono Hb1.out.size)
  have HF2 := Lib.hid (HF.out w2 (Rd.below H.out (hb02.mono hB)))
  have Hb2 := Lib.hid hb02
  clear hb2 hb02
  go_wp2_with fail
  refine (HF2.out).mono ?_; rintro e w1 ⟨rfl, rfl⟩
  go_wp2_with fail
  go_ret2
  exact ⟨rfl, Hb2.out⟩
theorem l02Base_ok (b : Nat) (w : World) (h1 : 2 ≤ b) (h2 : b ≤ 16) : Calls Try.prog 216 #[.int .i64 (b : Int)] w fun e w' => e = .returned (.bool true) ∧ w = w' := by
  have HB := Lib.hid (fun wx => l00In_any (b : Int) 2 16 wx)
  rw [inB_true (by omega) (by omega)] at HB
  go_enter Try.func216, Try.ntmps216
  go_wp2_with fail
  refine (HB.out _).mono ?_; rintro e w1 ⟨rfl, rfl⟩
  go_wp2_with fail
  go_ret
  exact ⟨rfl, rfl⟩

set_option maxRecDepth 100000 in
set_option maxHeartbeats 1600000 in
theorem l13Ok_any (g b : Nat) (A : Option Addr) (c : Nat) (l : List Int) (w : World) (f0 : w.cell? ⟨g, 0, none⟩ = some (.int .i64 (b : Int))) (f1 : w.cell? ⟨g, 1, none⟩ = some (.slice A l.length c)) (h : RdI w w.heap.size (.slice A l.length c) l) (ht : TOk b l) :
    Calls Try.prog 197 #[.pointer (some ⟨g, 0, none⟩)] w fun e w' => e = .returned (.bool true) ∧ ∃ q, w' = w.drewN q := by
  obtain ⟨hb, hb2, hl, hd, hz, hv⟩ := ht
  have H := Lib.hid h.tab
  have HD := Lib.hid hd
  have Hz := Lib.hid hz
  have HV := Lib.hid hv
  have HI := Lib.hid (fun wx => l02Base_ok b wx hb hb2)
  have Hvn := Lib.hid (show val b (l.drop l.length) = 0 by rw [List.drop_length]; rfl)
  have hl' : (l.length : Int) ≤ 40 := by omega
  have hb16 : (b : Int) ≤ 16 := by omega
  clear h hd hz hv
  go_enter Try.func197, Try.ntmps197
  go_wp2_with fail
  refine (HI.out _).mono ?_; rintro e w1 ⟨rfl, rfl⟩
  rcases (show l.length = 0 ∨ ∃ m, m + 1 = l.length from by
    by_cases e : l.length = 0
    · exact .inl e
    · exact .inr ⟨l.length - 1, by omega⟩) with e0 | ⟨m, hm⟩
  · have e1 : ¬ ((0 : Int) < (l.length : Int)) := by omega
    clear e0
    go_wp2_with fail
    go_loopw [4, 5] (fun a i wr => ∃ (k q : Nat) (z : Int), k ≤ l.length ∧ z + 1 = (k : Int) ∧ i = .int .i64 z ∧ a = .int .i64 (val b (l.drop k)) ∧ wr = w.drewN q) (fun _ i _ => (intOf i + 1).toNat)
    case atStart => exact ⟨l.length, 0, (l.length : Int) - 1, Nat.le_refl _, by omega, rfl, by rw [Hvn.out], rfl⟩
    case round =>
      obtain ⟨k, q, z, hk, hz, rfl, rfl, rfl⟩ := hrel
      obtain rfl : k = 0 := by omega
      obtain rfl : z = -1 := by omega
      clear hz
      go_wp2_with fail
      go_ret
      exact ⟨rfl, q, rfl⟩
  · obtain ⟨b1, o1, hA, _, hcc⟩ := rdF_all H.out (by omega)
    subst hA
    have q0 := hcc m (by omega)
    have hx := Hz.out m hm
    generalize at0 l m = x0 at *
    have hx' : (x0 == 0) = false := by simp [hx]
    have hlm : (l.length : Int) - 1 = (m : Int) := by omega
    have hlm2 : m < l.length := by omega
    have hlm3 : (0 : Int) < (l.length : Int) := by omega
    have Hm := Lib.hid hm
    clear hcc hx hm
    go_wp2_with fail
    clear hx' q0
    go_loopw [4, 5] (fun a i wr => ∃ (k q : Nat) (z : Int), k ≤ l.length ∧ z + 1 = (k : Int) ∧ i = .int .i64 z ∧ a = .int .i64 (val b (l.drop k)) ∧ wr = w.drewN q) (fun _ i _ => (intOf i + 1).toNat)
    case atStart => exact ⟨l.length, 0, (m : Int), Nat.le_refl _, by omega, rfl, by rw [Hvn.out], rfl⟩
    case round =>
      obtain ⟨k, q, z, hk, hz, rfl, rfl, rfl⟩ := hrel
      clear hlm hlm2 hlm3
      by_cases hk0 : k = 0
      · subst hk0
        obtain rfl : z = -1 := by omega
        clear hz
        go_wp2_with fail
        go_ret
        exact ⟨rfl, q, rfl⟩
      · obtain ⟨m, rfl⟩ : ∃ m, k = m + 1 := ⟨k - 1, by omega⟩
        obtain rfl : z = (m : Int) := by omega
        obtain ⟨b1, o1, hA, _, hcc⟩ := rdF_all H.out (by omega)
        obtain ⟨rfl, rfl⟩ : _ = b1 ∧ _ = o1 := by simpa using hA
        have q0 := hcc m (by omega)
        have s0 := HD.out m (by omega)
        have n0 := HV.out (m + 1) hk
        have n1 := HV.out m (by omega)
        have Hn := Lib.hid (val_drop b l m (by omega))
        rw [Hn.out] at n1
        generalize val b (l.drop (m + 1)) = s at *
        generalize at0 l m = x at *
        have m0 := abs_mul (A := 1000000000) (B := 16) n0 (show -(16 : Int) ≤ (b : Int) ∧ (b : Int) ≤ 16 by omega)
        generalize hP : s * (b : Int) = P at *
        have hw1 : IntKind.i64.wrap P = P := IntWalk.i64_in _ (by omega)
        have hw2 : IntKind.i64.wrap (P + x) = P + x := IntWalk.i64_in _ (by omega)
        have HB := Lib.hid (fun wx => l00In_any (P + x) (-1000000000) 1000000000 wx)
        rw [inB_true (by omega) (by omega)] at HB
        have HB2 := Lib.hid (fun wx => l00In_any x (-16) 16 wx)
        rw [inB_true (by omega) (by omega)] at HB2
        have hml : (m : Int) < (l.length : Int) := by omega
        have hml' : m < l.length := by omega
        clear hcc hz n0 m0 hA
        go_wp2_with fail
        refine (HB2.out _).mono ?_; rintro e w1 ⟨rfl, rfl⟩
        go_wp2_with fail
        go_quiet (fail)
        clear hw1 hw2
        go_wp2_with fail
        refine (HB.out _).mono ?_; rintro e w1 ⟨rfl, rfl⟩
        go_wp2_with fail
        go_roundw
        case rel => exact ⟨m, q + nq, (m : Int) - 1, by omega, by omega, by go_num, by rw [Hn.out], rfl⟩
        case measure => first | (simp [intOf]; done) | (simp [intOf]; omega)

set_option maxRecDepth 100000 in
set_option maxHeartbeats 1600000 in
theorem l13Factor_any (g b : Nat) (A : Option Addr) (c : Nat) (l : List Int) (w : World) (f0 : w.cell? ⟨g, 0, none⟩ = some (.int .i64 (b : Int))) (f1 : w.cell? ⟨g, 1, none⟩ = some (.slice A l.length c)) (h : RdI w w.heap.size (.slice A l.length c) l) (ht : TOk b l) :
    Calls Try.prog 201 #[.pointer (some ⟨g, 0, none⟩)] w fun e w' => e = .returned (.int .i64 (val b l)) ∧ ∃ q, w' = w.drewN q := by
  obtain ⟨hb, hb2, hl, hd, hz, hv⟩ := ht
  have H := Lib.hid h.tab
  have HD := Lib.hid hd
  have HV := Lib.hid hv
  have Hvl := Lib.hid (show val b (l.drop 0) = val b l from rfl)
  have Hvn := Lib.hid (show val b (l.drop l.length) = 0 by rw [List.drop_length]; rfl)
  have hl' : (l.length : Int) ≤ 40 := by omega
  have hb16 : (b : Int) ≤ 16 := by omega
  clear h hd hz hv
  go_enter Try.func201, Try.ntmps201
  go_wp2_with fail
  go_loopw [3, 4] (fun a i wr => ∃ (k q : Nat) (z : Int), k ≤ l.length ∧ z + 1 = (k : Int) ∧ i = .int .i64 z ∧ a = .int .i64 (val b (l.drop k)) ∧ wr = w.drewN q) (fun _ i _ => (intOf i + 1).toNat)
  case atStart => exact ⟨l.length, 0, (l.length : Int) - 1, Nat.le_refl _, by omega, rfl, by rw [Hvn.out], rfl⟩
  case round =>
    obtain ⟨k, q, z, hk, hz, rfl, rfl, rfl⟩ := hrel
    by_cases hk0 : k = 0
    · subst hk0
      obtain rfl : z = -1 := by omega
      rw [Hvl.out]
      clear hz
      go_wp2_with fail
      go_ret
      exact ⟨rfl, q, rfl⟩
    · obtain ⟨m, rfl⟩ : ∃ m, k = m + 1 := ⟨k - 1, by omega⟩
      obtain rfl : z = (m : Int) := by omega
      obtain ⟨b1, o1, hA, _, hcc⟩ := rdF_all H.out (by omega)
      subst hA
      have q0 := hcc m (by omega)
      have s0 := HD.out m (by omega)
      have n0 := HV.out (m + 1) hk
      have n1 := HV.out m (by omega)
      have Hn := Lib.hid (val_drop b l m (by omega))
      rw [Hn.out] at n1
      generalize val b (l.drop (m + 1)) = s at *
      generalize at0 l m = x at *
      have m0 := abs_mul (A := 1000000000) (B := 16) n0 (show -(16 : Int) ≤ (b : Int) ∧ (b : Int) ≤ 16 by omega)
      generalize hP : s * (b : Int) = P at *
      have hw1 : IntKind.i64.wrap P = P := IntWalk.i64_in _ (by omega)
      have hw2 : IntKind.i64.wrap (P + x) = P + x := IntWalk.i64_in _ (by omega)
      have hml : (m : Int) < (l.length : Int) := by omega
      have hml' : m < l.length := by omega
      clear hcc hz n0 m0
      go_wp2_with fail
      go_quiet (fail)
      clear hw1 hw2
      go_wp2_with fail
      go_roundw
      case rel => exact ⟨m, q + nq, (m : Int) - 1, by omega, by omega, by go_num, by rw [Hn.out], rfl⟩
      case measure => first | (simp [intOf]; done) | (simp [intOf]; omega)
set_option maxRecDepth 100000 in
set_option maxHeartbeats 1600000 in
theorem FactorOfS_any (B b : Nat) (v : Value) (l : List Int) (w : World) (h : RdI w B v l) (hB : B ≤ w.heap.size) (ht : TOk b l) :
    Calls Try.prog 48 #[.agg #[.int .i64 (b : Int), v]] w fun e w' => e = .returned (.tuple #[.int .i64 (val b l), .int .i64 0]) ∧ Below w.heap.size w w' := by
  obtain ⟨A, c, rfl⟩ := rd_sl h
  have hb1 := (Below.refl w.heap.size w).alloc (Nat.le_refl _) (.cells #[.int .i64 (b : Int), .slice A l.length c] 58)
  obtain ⟨f0, f1⟩ := box2 (w := w) (x := .int .i64 (b : Int)) (y := .slice A l.length c) (t := 58)
  have h1 : RdI (w.alloc (.cells #[.int .i64 (b : Int), .slice A l.length c] 58)) (w.alloc (.cells #[.int .i64 (b : Int), .slice A l.length c] 58)).heap.size (.slice A l.length c) l := Rd.more (Rd.below h (hb1.mono hB)) (Nat.le_trans hB hb1.size)
  have HO := Lib.hid (l13Ok_any w.heap.size b A c l _ f0 f1 h1 ht)
  have HF := Lib.hid (fun n => l13Factor_any w.heap.size b A c l ((w.alloc (.cells #[.int .i64 (b : Int), .slice A l.length c] 58)).drewN n) f0 f1 (Rd.drewN h1 n) ht)
  have Hb1 := Lib.hid (fun n => below_drewN hb1 n)
  clear h h1 hb1
  go_enter Try.func48, Try.ntmps48
  go_wp2_with fail
  generalize w.alloc (.cells #[.int .i64 (b : Int), .slice A l.length c] 58) = w1 at *
  refine (HO.out).mono ?_; rintro e w2 ⟨rfl, q, rfl⟩
  go_wp2_with fail
  refine (HF.out q).mono ?_; rintro e w3 ⟨rfl, q2, rfl⟩
  have Hb3 := Lib.hid (Hb1.out (q + q2))
  go_wp2_with fail
  go_ret2
  exact ⟨rfl, Hb3.out⟩
set_option maxRecDepth 100000 in
set_option maxHeartbeats 1600000 in
theorem ValidTurnsS_any (B b : Nat) (v : Value) (l : List Int) (w : World) (h : RdI w B v l) (hB : B ≤ w.heap.size) (ht : TOk b l) :
    Calls Try.prog 44 #[.agg #[.int .i64 (b : Int), v]] w fun e w' => e = .returned (.bool true) ∧ Below w.heap.size w w' := by
  obtain ⟨A, c, rfl⟩ := rd_sl h
  have hb1 := (Below.refl w.heap.size w).alloc (Nat.le_refl _) (.cells #[.int .i64 (b : Int), .slice A l.length c] 58)
  obtain ⟨f0, f1⟩ := box2 (w := w) (x := .int .i64 (b : Int)) (y := .slice A l.length c) (t := 58)
  have h1 : RdI (w.alloc (.cells #[.int .i64 (b : Int), .slice A l.length c] 58)) (w.alloc (.cells #[.int .i64 (b : Int), .slice A l.length c] 58)).heap.size (.slice A l.length c) l := Rd.more (Rd.below h (hb1.mono hB)) (Nat.le_trans hB hb1.size)
  have HO := Lib.hid (l13Ok_any w.heap.size b A c l _ f0 f1 h1 ht)
  have Hb1 := Lib.hid (fun n => below_drewN hb1 n)
  clear h h1 hb1
  go_enter Try.func44, Try.ntmps44
  go_wp2_with fail
  generalize w.alloc (.cells #[.int .i64 (b : Int), .slice A l.length c] 58) = w1 at *
  refine (HO.out).mono ?_; rintro e w2 ⟨rfl, q, rfl⟩
  go_wp2_with fail
  go_ret
  exact ⟨rfl, Hb1.out q⟩
end Go.Proofs.Ytddiielbmjkppaa
