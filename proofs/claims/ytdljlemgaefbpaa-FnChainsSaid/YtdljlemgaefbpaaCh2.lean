/- Chains, part 2: valid chains, total plays, equal chains. -/
import Derived.Test.YtdljlemgaefbpaaCh1
import Derived.Test.YtdljlemgaefbpaaDd1
import Derived.Test.YtdljlemgaefbpaaLib5
import Derived.Test.YtdljlemgaefbpaaDf6
namespace Go.Proofs.Ytdljlemgaefbpaa
open Go.RowKit Go.Joins

/-- a chain is read -/
def RdC (w : World) (B : Nat) (vp vq : Value) (n : Nat) (p q : Nat → Int) : Prop := Rd w B vp n 1 (tab n p) ∧ Rd w B vq (n + 1) 1 (tab (n + 1) q)
theorem RdC.below {w w' : World} {B : Nat} {vp vq : Value} {n : Nat} {p q : Nat → Int} (h : RdC w B vp vq n p q) (hb : Below B w w') : RdC w' B vp vq n p q := ⟨h.1.below hb, h.2.below hb⟩
theorem RdC.next {w w' : World} {vp vq : Value} {n : Nat} {p q : Nat → Int} (h : RdC w w.heap.size vp vq n p q) (hb : Below w.heap.size w w') : RdC w' w'.heap.size vp vq n p q := ⟨rdN h.1 hb, rdN h.2 hb⟩
/-- what the chains of the law obey -/
def Chn (n : Nat) (p q : Nat → Int) : Prop := 1 ≤ n ∧ n ≤ 10 ∧ ChOk n p q ∧ (∀ k, k < n → p k ≤ 100) ∧ Small 1000000 (n + 1) q
theorem isPlace_any (x : Int) (w : World) (h1 : -1000000 ≤ x) (h2 : x ≤ 1000000) : Calls Try.prog 86 #[.int .i64 x] w fun e w' => e = .returned (.bool true) ∧ w = w' := by
  have HB := Lib.hid (fun wx => between_any x (-1000000) 1000000 wx)
  rw [inB_true h1 h2] at HB
  go_enter Try.func86, Try.ntmps86
  go_wp2_with fail
  refine (HB.out _).mono ?_; rintro e w1 ⟨rfl, rfl⟩
  go_wp2_with fail
  go_ret
  exact ⟨rfl, rfl⟩
theorem l04Place_any (x : Int) (w : World) (h1 : -1000000 ≤ x) (h2 : x ≤ 1000000) : Calls Try.prog 163 #[.int .i64 x] w fun e w' => e = .returned (.bool true) ∧ w = w' := by
  have HB := Lib.hid (fun wx => l00In_any x (-1000000) 1000000 wx)
  rw [inB_true h1 h2] at HB
  go_enter Try.func163, Try.ntmps163
  go_wp2_with fail
  refine (HB.out _).mono ?_; rintro e w1 ⟨rfl, rfl⟩
  go_wp2_with fail
  go_ret
  exact ⟨rfl, rfl⟩

set_option maxRecDepth 100000 in
set_option maxHeartbeats 1600000 in
theorem ValidChain_any (B : Nat) (vp vq : Value) (n : Nat) (p q : Nat → Int) (w : World) (h : RdC w B vp vq n p q) (hB : B ≤ w.heap.size) (hc : Chn n p q) :
    Calls Try.prog 85 #[.agg #[vp, vq]] w fun e w' => e = .returned (.bool true) ∧ Below w.heap.size w w' := by
  obtain ⟨hn1, hn10, hok, hp, hS⟩ := hc
  obtain ⟨A, c, rfl⟩ := rd_sl h.1
  obtain ⟨A', c', rfl⟩ := rd_sl h.2
  have hb1 := (Below.refl w.heap.size w).alloc (Nat.le_refl _) (.cells #[.slice A n c, .slice A' (n + 1) c'] 26)
  have H := Lib.hid (h.below (hb1.mono hB))
  obtain ⟨f0, f1⟩ := box2 (w := w) (x := .slice A n c) (y := .slice A' (n + 1) c') (t := 26)
  have HO := Lib.hid hok
  have Hp := Lib.hid hp
  have HS := Lib.hid hS
  have Hb1 := Lib.hid hb1
  have HN := Lib.hid (fun wx => between_any (n : Int) 1 10 wx)
  rw [inB_true (by omega) (by omega)] at HN
  have hn' : (n : Int) ≤ 10 := by omega
  clear h hok hp hS hb1
  go_enter Try.func85, Try.ntmps85
  go_wp2_with fail
  generalize hw1 : w.alloc (.cells #[.slice A n c, .slice A' (n + 1) c'] 26) = w1 at *
  clear hw1
  refine (HN.out _).mono ?_; rintro e w1 ⟨rfl, rfl⟩
  go_wp2_with fail
  go_loop [25] (fun i => ∃ k : Nat, k ≤ n + 1 ∧ i = .int .i64 (k : Int)) (fun i => n + 1 - (intOf i).toNat)
  case atStart => exact ⟨0, Nat.zero_le _, rfl⟩
  case round =>
    obtain ⟨k, hk, rfl⟩ := hrel
    by_cases hlt : k < n + 1
    · obtain ⟨b1, o1, hA, _, hcc⟩ := rdF_all H.out.2 (by omega)
      subst hA
      have q0 := hcc k hlt
      have s0 := HS.out k hlt
      have hlt' : (k : Int) < (n : Int) + 1 := by omega
      generalize q k = x at *
      have HX := Lib.hid (fun wx => isPlace_any x wx (by omega) (by omega))
      clear hcc
      go_wp2_with fail
      refine (HX.out _).mono ?_; rintro e w1 ⟨rfl, rfl⟩
      go_wp2_with fail
      go_round
      case rel => exact ⟨k + 1, by omega, by go_num⟩
      case measure => first | (simp [intOf]; done) | (simp [intOf]; omega)
    · have hlt' : (n : Int) + 1 ≤ (k : Int) := by omega
      have hlt'' : n + 1 ≤ k := by omega
      go_wp2_with fail
      go_loopw [36] (fun i wr => ∃ k d : Nat, k ≤ n ∧ i = .int .i64 (k : Int) ∧ wr = w1.drewN d) (fun i _ => n - (intOf i).toNat)
      case atStart => exact ⟨0, 0, Nat.zero_le _, rfl, rfl⟩
      case round =>
        obtain ⟨j, d, hj, rfl, hwr⟩ := hrel
        obtain ⟨wq, rfl⟩ : ∃ x, x = wr := ⟨_, rfl⟩
        have Hwr := Lib.hid hwr
        have Hq := Lib.hid (show RdC wq B (.slice A n c) (.slice A' (n + 1) c') n p q by rw [hwr]; exact H.out)
        have g0 : wq.cell? ⟨w.heap.size, 0, none⟩ = some (.slice A n c) := by rw [hwr]; exact f0
        have g1 : wq.cell? ⟨w.heap.size, 1, none⟩ = some (.slice A' (n + 1) c') := by rw [hwr]; exact f1
        clear hwr
        by_cases hjn : j < n
        · obtain ⟨b1, o1, hA, _, hcc⟩ := rdF_all Hq.out.1 (by omega)
          obtain ⟨b2, o2, hA2, _, hcc2⟩ := rdF_all Hq.out.2 (by omega)
          subst hA hA2
          have q0 := hcc j hjn
          have q1 := hcc2 j (by omega)
          have q2 := hcc2 (j + 1) (by omega)
          obtain ⟨t1, t2, t3⟩ := HO.out j hjn
          have t4 := Hp.out j hjn
          have t5 := HS.out j (by omega)
          have t6 := HS.out (j + 1) (by omega)
          generalize p j = x at *
          generalize q j = y at *
          generalize q (j + 1) = z at *
          have HX := Lib.hid (fun wx => flipQ (between_any x 0 100 wx))
          rw [inB_true t1 t4] at HX
          have HY := Lib.hid (fun wx => flipQ (absolute_any (z - y) wx (by omega) (by omega)))
          have hy1 : ¬ (x < ((z - y).natAbs : Int)) := by omega
          have hw1 : IntKind.i64.wrap ((j : Int) + 1) = (j : Int) + 1 := IntWalk.i64_in _ (by omega)
          have hw2 : ((j : Int) + 1).toNat = j + 1 := by omega
          have hw3 : (0 : Int) ≤ (j : Int) + 1 := by omega
          have hw4 : IntKind.i64.wrap (z - y) = z - y := IntWalk.i64_in _ (by omega)
          have hj1 : (j : Int) + 1 < (n : Int) + 1 := by omega
          have hj2 : j + 1 < n + 1 := by omega
          have hj3 : (j : Int) < (n : Int) + 1 := by omega
          have hj4 : (j : Int) < (n : Int) := by omega
          generalize hyy : (z - y).natAbs = yy at *
          have hyd : decide (x < (yy : Int)) = false := decide_eq_false hy1
          clear hcc hcc2 hyy t1 t2 t3 t4 t5 t6
          go_wp2_with fail
          go_quiet ((first | (go_at_call 96; exact Calls.quiet_of_same (HX.out _)) | (go_at_call 118; exact Calls.quiet_of_same (HY.out _))))
          clear hw1 hw2 hw3 hw4
          go_wp2_with fail
          go_roundw
          case rel => exact ⟨j + 1, d + nq, by omega, by go_num, by rw [Hwr.out]; exact World.drewN_drewN _ _ _⟩
          case measure => first | (simp [intOf]; done) | (simp [intOf]; omega)
        · have hjn' : (n : Int) ≤ (j : Int) := by omega
          have Hbe := Lib.hid (show Below w.heap.size w wq by rw [Hwr.out]; exact below_drewN Hb1.out d)
          go_wp2_with fail
          go_ret
          exact ⟨rfl, Hbe.out⟩
end Go.Proofs.Ytdljlemgaefbpaa
