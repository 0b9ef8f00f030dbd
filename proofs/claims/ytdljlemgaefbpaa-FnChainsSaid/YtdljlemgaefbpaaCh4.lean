/- Chains, part 4: the reference's valid and equal chains. -/
import Derived.Test.YtdljlemgaefbpaaCh3
namespace Go.Proofs.Ytdljlemgaefbpaa
open Go.RowKit Go.Joins

theorem l04Size_c (x : Int) (w : World) (h1 : -4611686018427387904 ≤ x) (h2 : x ≤ 4611686018427387904) :
    Calls Try.prog 164 #[.int .i64 x] w fun e w' => e = .returned (.int .i64 (x.natAbs : Int)) ∧ w = w' := by
  by_cases h : x < 0
  · have hw : IntKind.i64.wrap (-x) = -x := IntWalk.i64_in _ (by omega)
    go_enter Try.func164, Try.ntmps164
    go_wp2_with fail
    go_ret
    exact ⟨ret_int (by omega), rfl⟩
  · go_enter Try.func164, Try.ntmps164
    go_wp2_with fail
    go_ret
    exact ⟨ret_int (by omega), rfl⟩
set_option maxRecDepth 100000 in
set_option maxHeartbeats 1600000 in
theorem l04Chain_any (g : Nat) (A A' : Option Addr) (c c' n : Nat) (p q : Nat → Int) (w : World) (f0 : w.cell? ⟨g, 0, none⟩ = some (.slice A n c)) (f1 : w.cell? ⟨g, 1, none⟩ = some (.slice A' (n + 1) c')) (h : RdC w w.heap.size (.slice A n c) (.slice A' (n + 1) c') n p q) (hc : Chn n p q) :
    Calls Try.prog 89 #[.pointer (some ⟨g, 0, none⟩)] w fun e w' => e = .returned (.bool true) ∧ ∃ d, w' = w.drewN d := by
  obtain ⟨hn1, hn10, hok, hp, hS⟩ := hc
  have H := Lib.hid h
  have HO := Lib.hid hok
  have Hp := Lib.hid hp
  have HS := Lib.hid hS
  have HN := Lib.hid (fun wx => flipQ (l00In_any (n : Int) 1 10 wx))
  rw [inB_true (by omega) (by omega)] at HN
  have hn' : (n : Int) ≤ 10 := by omega
  have hw0 : IntKind.i64.wrap ((n : Int) + 1) = (n : Int) + 1 := IntWalk.i64_in _ (by omega)
  clear h hok hp hS
  go_enter Try.func89, Try.ntmps89
  go_wp2_with fail
  go_quiet ((go_at_call 99; exact Calls.quiet_of_same (HN.out _)))
  clear hw0
  go_wp2_with fail
  obtain ⟨w1, hw1⟩ : ∃ x, x = w.drewN nq := ⟨_, rfl⟩
  rw [← hw1]
  have f0 : w1.cell? ⟨g, 0, none⟩ = some (.slice A n c) := by rw [hw1]; exact f0
  have f1 : w1.cell? ⟨g, 1, none⟩ = some (.slice A' (n + 1) c') := by rw [hw1]; exact f1
  have H := Lib.hid (show RdC w1 w.heap.size (.slice A n c) (.slice A' (n + 1) c') n p q by rw [hw1]; exact H.out)
  have Hw1 := Lib.hid hw1
  clear hw1
  go_loop [3] (fun i => ∃ k : Nat, k ≤ n + 1 ∧ i = .int .i64 (k : Int)) (fun i => n + 1 - (intOf i).toNat)
  case atStart => exact ⟨0, Nat.zero_le _, rfl⟩
  case round =>
    obtain ⟨k, hk, rfl⟩ := hrel
    by_cases hlt : k < n + 1
    · obtain ⟨b1, o1, hA, _, hcc⟩ := rdF_all H.out.2 (by omega)
      subst hA
      have q0 := hcc k hlt
      have s0 := HS.out k hlt
      have hlt' : (k : Int) < (n : Int) + 1 := by omega
      generalize q k = x at *
      have HX := Lib.hid (fun wx => l04Place_any x wx (by omega) (by omega))
      clear hcc
      go_wp2_with fail
      refine (HX.out _).mono ?_; rintro e w1 ⟨rfl, rfl⟩
      go_wp2_with fail
      go_round
      case rel => exact ⟨k + 1, by omega, by go_num⟩
      case measure => first | (simp [intOf]; done) | (simp [intOf]; omega)
    · have hlt' : (n : Int) + 1 ≤ (k : Int) := by omega
      have hlt'' : n + 1 ≤ k := by omega
      go_wp2_with fail
      go_loopw [4] (fun i wr => ∃ k d : Nat, k ≤ n ∧ i = .int .i64 (k : Int) ∧ wr = w1.drewN d) (fun i _ => n - (intOf i).toNat)
      case atStart => exact ⟨0, 0, Nat.zero_le _, rfl, rfl⟩
      case round =>
        obtain ⟨j, d, hj, rfl, hwr⟩ := hrel
        obtain ⟨wq, rfl⟩ : ∃ x, x = wr := ⟨_, rfl⟩
        have Hwr := Lib.hid hwr
        have Hq := Lib.hid (show RdC wq w.heap.size (.slice A n c) (.slice A' (n + 1) c') n p q by rw [hwr]; exact H.out)
        have g0 : wq.cell? ⟨g, 0, none⟩ = some (.slice A n c) := by rw [hwr]; exact f0
        have g1 : wq.cell? ⟨g, 1, none⟩ = some (.slice A' (n + 1) c') := by rw [hwr]; exact f1
        clear hwr
        by_cases hjn : j < n
        · obtain ⟨b1, o1, hA, _, hcc⟩ := rdF_all Hq.out.1 (by omega)
          obtain ⟨b2, o2, hA2, _, hcc2⟩ := rdF_all Hq.out.2 (by omega)
          subst hA hA2
          have q0 := hcc j hjn
          have q1 := hcc2 j (by omega)
          have q2 := hcc2 (j + 1) (by omega)
          obtain ⟨t1, t2, t3⟩ := HO.out j hjn
          have t4 := Hp.out j hjn
          have t5 := HS.out j (by omega)
          have t6 := HS.out (j + 1) (by omega)
          generalize p j = x at *
          generalize q j = y at *
          generalize q (j + 1) = z at *
          have HX := Lib.hid (fun wx => flipQ (l00In_any x 0 100 wx))
          rw [inB_true t1 t4] at HX
          have HY := Lib.hid (fun wx => flipQ (l04Size_c (y - z) wx (by omega) (by omega)))
          have hy1 : ¬ (x < ((y - z).natAbs : Int)) := by omega
          have hw1 : IntKind.i64.wrap ((j : Int) + 1) = (j : Int) + 1 := IntWalk.i64_in _ (by omega)
          have hw2 : ((j : Int) + 1).toNat = j + 1 := by omega
          have hw3 : (0 : Int) ≤ (j : Int) + 1 := by omega
          have hw4 : IntKind.i64.wrap (y - z) = y - z := IntWalk.i64_in _ (by omega)
          have hj1 : (j : Int) + 1 < (n : Int) + 1 := by omega
          have hj2 : j + 1 < n + 1 := by omega
          have hj3 : (j : Int) < (n : Int) + 1 := by omega
          have hj4 : (j : Int) < (n : Int) := by omega
          generalize hyy : (y - z).natAbs = yy at *
          have hyd : decide (x < (yy : Int)) = false := decide_eq_false hy1
          clear hcc hcc2 hyy t1 t2 t3 t4 t5 t6
          go_wp2_with fail
          go_quiet ((first | (go_at_call 99; exact Calls.quiet_of_same (HX.out _)) | (go_at_call 164; exact Calls.quiet_of_same (HY.out _))))
          clear hw1 hw2 hw3 hw4
          go_wp2_with fail
          go_roundw
          case rel => exact ⟨j + 1, d + nq, by omega, by go_num, by rw [Hwr.out]; exact World.drewN_drewN _ _ _⟩
          case measure => first | (simp [intOf]; done) | (simp [intOf]; omega)
        · have hjn' : (n : Int) ≤ (j : Int) := by omega
          have Hbe := Lib.hid (show ∃ d, wq = w.drewN d from ⟨nq + d, by rw [Hwr.out, Hw1.out]; exact World.drewN_drewN _ _ _⟩)
          go_wp2_with fail
          go_ret
          exact ⟨rfl, Hbe.out⟩
set_option maxRecDepth 100000 in
set_option maxHeartbeats 1600000 in
theorem ValidChainS_any (B : Nat) (vp vq : Value) (n : Nat) (p q : Nat → Int) (w : World) (h : RdC w B vp vq n p q) (hB : B ≤ w.heap.size) (hc : Chn n p q) :
    Calls Try.prog 14 #[.agg #[vp, vq]] w fun e w' => e = .returned (.bool true) ∧ Below w.heap.size w w' := by
  obtain ⟨A, c, rfl⟩ := rd_sl h.1
  obtain ⟨A', c', rfl⟩ := rd_sl h.2
  have hb1 := (Below.refl w.heap.size w).alloc (Nat.le_refl _) (.cells #[.slice A n c, .slice A' (n + 1) c'] 26)
  have h1 := h.below (hb1.mono hB)
  have hz1 := Nat.le_trans hB hb1.size
  obtain ⟨f0, f1⟩ := box2 (w := w) (x := .slice A n c) (y := .slice A' (n + 1) c') (t := 26)
  have HV := Lib.hid (l04Chain_any w.heap.size A A' c c' n p q _ f0 f1 ⟨h1.1.more hz1, h1.2.more hz1⟩ hc)
  have Hb1 := Lib.hid (fun d => below_drewN hb1 d)
  clear h h1 hb1
  go_enter Try.func14, Try.ntmps14
  go_wp2_with fail
  generalize hw1 : w.alloc (.cells #[.slice A n c, .slice A' (n + 1) c'] 26) = w1 at *
  clear hw1
  refine (HV.out).mono ?_; rintro e w2 ⟨rfl, d, rfl⟩
  go_wp2_with fail
  go_ret
  exact ⟨rfl, Hb1.out d⟩

set_option maxRecDepth 100000 in
set_option maxHeartbeats 1600000 in
theorem l00Same_b (B1 B2 : Nat) (v1 v2 : Value) (n : Nat) (f g : Nat → Int) (w : World) (h : Rd w B1 v1 n 1 (tab n f)) (h' : Rd w B2 v2 n 1 (tab n g)) (hn : n ≤ 1000) (he : ∀ i, i < n → f i = g i) :
    Calls Try.prog 90 #[v1, v2] w fun e w' => e = .returned (.bool true) ∧ ∃ k, w' = w.drewN k := by
  have H := Lib.hid h
  have H' := Lib.hid h'
  have HE := Lib.hid he
  obtain ⟨A, c, rfl⟩ := rd_sl h
  obtain ⟨A', c', rfl⟩ := rd_sl h'
  clear h h' he
  go_enter Try.func90, Try.ntmps90
  go_wp2_with fail
  go_loopw [5] (fun i wr => ∃ (k d : Nat), k ≤ n ∧ i = .int .i64 (k : Int) ∧ wr = w.drewN d) (fun i _ => n - (intOf i).toNat)
  case atStart => exact ⟨0, 0, Nat.zero_le _, rfl, rfl⟩
  case round =>
    obtain ⟨k, d, hk, rfl, rfl⟩ := hrel
    by_cases hlt : k < n
    · obtain ⟨b1, o1, hA, _, hcc⟩ := rdF_all H.out (by omega)
      obtain ⟨b2, o2, hA', _, hcc'⟩ := rdF_all H'.out (by omega)
      subst hA hA'
      have q0 := hcc k hlt
      have q1 := hcc' k hlt
      rw [← HE.out k hlt] at q1
      have hlt' : (k : Int) < (n : Int) := by omega
      generalize f k = x at *
      clear hcc hcc'
      go_wp2_with fail
      go_quiet (fail)
      go_wp2_with fail
      go_roundw
      case rel => exact ⟨k + 1, d + _, by omega, by go_num, rfl⟩
      case measure => first | (simp [intOf]; done) | (simp [intOf]; omega)
    · have hlt' : (n : Int) ≤ (k : Int) := by omega
      go_wp2_with fail
      go_ret
      exact ⟨rfl, d, rfl⟩
theorem box22 (w : World) (x y x' y' : Value) (t : TypeId) : ((w.alloc (.cells #[x, y] t)).alloc (.cells #[x', y'] t)).cell? ⟨w.heap.size, 0, none⟩ = some x ∧ ((w.alloc (.cells #[x, y] t)).alloc (.cells #[x', y'] t)).cell? ⟨w.heap.size, 1, none⟩ = some y ∧
    ((w.alloc (.cells #[x, y] t)).alloc (.cells #[x', y'] t)).cell? ⟨w.heap.size + 1, 0, none⟩ = some x' ∧ ((w.alloc (.cells #[x, y] t)).alloc (.cells #[x', y'] t)).cell? ⟨w.heap.size + 1, 1, none⟩ = some y' := by
  have h := box2 (w := w.alloc (.cells #[x, y] t)) (x := x') (y := y') (t := t)
  rw [show (w.alloc (.cells #[x, y] t)).heap.size = w.heap.size + 1 by simp] at h
  exact ⟨cell_alloc box2.1 _, cell_alloc box2.2 _, h.1, h.2⟩
set_option maxRecDepth 100000 in
set_option maxHeartbeats 1600000 in
theorem SameChain_any (vp vq vp' vq' : Value) (n : Nat) (p q p' q' : Nat → Int) (w : World) (h : RdC w w.heap.size vp vq n p q) (h' : RdC w w.heap.size vp' vq' n p' q') (hn : n ≤ 10) (hp : ∀ i, i < n → p i = p' i) (hq : ∀ i, i < n + 1 → q i = q' i) :
    Calls Try.prog 16 #[.agg #[vp, vq], .agg #[vp', vq']] w fun e w' => e = .returned (.bool true) ∧ Below w.heap.size w w' := by
  obtain ⟨A, c, rfl⟩ := rd_sl h.1
  obtain ⟨A', c', rfl⟩ := rd_sl h.2
  obtain ⟨A3, c3, rfl⟩ := rd_sl h'.1
  obtain ⟨A4, c4, rfl⟩ := rd_sl h'.2
  have hb1 := ((Below.refl w.heap.size w).alloc (Nat.le_refl _) (.cells #[.slice A n c, .slice A' (n + 1) c'] 26)).alloc (by simp) (.cells #[.slice A3 n c3, .slice A4 (n + 1) c4] 26)
  have h1 := h.below hb1
  have h2 := h'.below hb1
  obtain ⟨f0, f1, f2, f3⟩ := box22 w (.slice A n c) (.slice A' (n + 1) c') (.slice A3 n c3) (.slice A4 (n + 1) c4) 26
  have HS1 := Lib.hid (l00Same_b _ _ _ _ n p p' _ h1.1 h2.1 (by omega) hp)
  have HS2 := Lib.hid (fun d => l00Same_b _ _ _ _ (n + 1) q q' _ (h1.2.drewN d) (h2.2.drewN d) (by omega) hq)
  have Hb1 := Lib.hid (fun d => below_drewN hb1 d)
  clear h h' h1 h2 hb1
  go_enter Try.func16, Try.ntmps16
  go_wp2_with fail
  generalize hw1 : (w.alloc (.cells #[.slice A n c, .slice A' (n + 1) c'] 26)).alloc (.cells #[.slice A3 n c3, .slice A4 (n + 1) c4] 26) = w1 at *
  clear hw1
  refine (HS1.out).mono ?_; rintro e w2 ⟨rfl, d, rfl⟩
  go_wp2_with fail
  refine (HS2.out d).mono ?_; rintro e w3 ⟨rfl, d2, rfl⟩
  have Hb2 := Lib.hid (below_drewN (Hb1.out d) d2)
  go_wp2_with fail
  go_ret
  exact ⟨rfl, by first | exact Hb2.out | exact Hb1.out (d + d2)⟩
end Go.Proofs.Ytdljlemgaefbpaa
