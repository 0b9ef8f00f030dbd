/- Chains, part 3: total plays, where to move, the reference's tests. -/
import Derived.Test.YtdljlemgaefbpaaCh2
namespace Go.Proofs.Ytdljlemgaefbpaa
open Go.RowKit Go.Joins

theorem tot_bd {n : Nat} {p q : Nat → Int} (hc : Chn n p q) : ∀ k, k ≤ n → 0 ≤ tot p k ∧ tot p k ≤ ((k * 100 : Nat) : Int)
  | 0, _ => by simp [tot]
  | k + 1, hk => by
    obtain ⟨h1, h2⟩ := tot_bd hc k (by omega)
    have h3 := hc.2.2.1 k (by omega)
    have h4 := hc.2.2.2.1 k (by omega)
    show 0 ≤ tot p k + p k ∧ tot p k + p k ≤ _
    omega
set_option maxRecDepth 100000 in
set_option maxHeartbeats 1600000 in
theorem totalPlay_any (B : Nat) (vp vq : Value) (n : Nat) (p q : Nat → Int) (w : World) (h : RdC w B vp vq n p q) (hB : B ≤ w.heap.size) (hc : Chn n p q) :
    Calls Try.prog 88 #[.agg #[vp, vq]] w fun e w' => e = .returned (.int .i64 (tot p n)) ∧ Below w.heap.size w w' := by
  have HT := Lib.hid (fun k hk => tot_bd hc k hk)
  obtain ⟨hn1, hn10, hok, hp, hS⟩ := hc
  obtain ⟨A, c, rfl⟩ := rd_sl h.1
  obtain ⟨A', c', rfl⟩ := rd_sl h.2
  have hb1 := (Below.refl w.heap.size w).alloc (Nat.le_refl _) (.cells #[.slice A n c, .slice A' (n + 1) c'] 26)
  have H := Lib.hid (h.below (hb1.mono hB)).1
  obtain ⟨f0, f1⟩ := box2 (w := w) (x := .slice A n c) (y := .slice A' (n + 1) c') (t := 26)
  have Hp := Lib.hid hp
  have Hok := Lib.hid hok
  have Hb1 := Lib.hid hb1
  have hn' : (n : Int) ≤ 10 := by omega
  clear h hok hp hS hb1
  go_enter Try.func88, Try.ntmps88
  go_wp2_with fail
  generalize hw1 : w.alloc (.cells #[.slice A n c, .slice A' (n + 1) c'] 26) = w1 at *
  clear hw1
  go_loop [3, 9] (fun a i => ∃ k : Nat, k ≤ n ∧ i = .int .i64 (k : Int) ∧ a = .int .i64 (tot p k)) (fun _ i => n - (intOf i).toNat)
  case atStart => exact ⟨0, Nat.zero_le _, rfl, rfl⟩
  case round =>
    obtain ⟨k, hk, rfl, rfl⟩ := hrel
    by_cases hlt : k < n
    · obtain ⟨b1, o1, hA, _, hcc⟩ := rdF_all H.out (by omega)
      subst hA
      have q0 := hcc k hlt
      have t1 := HT.out k hk
      have t2 := HT.out (k + 1) (by omega)
      have Hn := Lib.hid (show tot p (k + 1) = tot p k + p k from rfl)
      rw [Hn.out] at t2
      have hlt' : (k : Int) < (n : Int) := by omega
      generalize tot p k = s at *
      generalize p k = x at *
      have hs : 0 ≤ s ∧ s ≤ 1000 := by omega
      have hx : -1000 ≤ x ∧ x ≤ 1000 := by omega
      clear hcc t1 t2
      go_wp2_with fail
      go_round
      case rel => exact ⟨k + 1, by omega, by go_num, by rw [Hn.out]⟩
      case measure => first | (simp [intOf]; done) | (simp [intOf]; omega)
    · obtain rfl : k = n := by omega
      go_wp2_with fail
      go_ret
      exact ⟨rfl, Hb1.out⟩
set_option maxRecDepth 100000 in
set_option maxHeartbeats 1600000 in
theorem TotalPlay_any (B : Nat) (vp vq : Value) (n : Nat) (p q : Nat → Int) (w : World) (h : RdC w B vp vq n p q) (hB : B ≤ w.heap.size) (hc : Chn n p q) :
    Calls Try.prog 13 #[.agg #[vp, vq]] w fun e w' => e = .returned (.tuple #[.int .i64 (tot p n), .int .i64 0]) ∧ Below w.heap.size w w' := by
  obtain ⟨A, c, rfl⟩ := rd_sl h.1
  obtain ⟨A', c', rfl⟩ := rd_sl h.2
  have hb1 := (Below.refl w.heap.size w).alloc (Nat.le_refl _) (.cells #[.slice A n c, .slice A' (n + 1) c'] 26)
  have HV := Lib.hid (ValidChain_any B _ _ n p q _ (h.below (hb1.mono hB)) (Nat.le_trans hB hb1.size) hc)
  have HT := Lib.hid (fun wx hx hz => totalPlay_any B (.slice A n c) (.slice A' (n + 1) c') n p q wx hx hz hc)
  have H := Lib.hid (h.below (hb1.mono hB))
  obtain ⟨f0, f1⟩ := box2 (w := w) (x := .slice A n c) (y := .slice A' (n + 1) c') (t := 26)
  have Hb1 := Lib.hid hb1
  have hBs := Nat.le_trans hB hb1.size
  have hsz : w.heap.size < (w.alloc (.cells #[.slice A n c, .slice A' (n + 1) c'] 26)).heap.size := by simp
  clear h hb1
  go_enter Try.func13, Try.ntmps13
  go_wp2_with fail
  generalize hw1 : w.alloc (.cells #[.slice A n c, .slice A' (n + 1) c'] 26) = w1 at *
  clear hw1
  refine (HV.out).mono ?_; rintro e w2 ⟨rfl, hb2⟩
  have g0 := (hb2.cell (p := ⟨w.heap.size, 0, none⟩) hsz).trans f0
  have g1 := (hb2.cell (p := ⟨w.heap.size, 1, none⟩) hsz).trans f1
  have HT2 := Lib.hid (HT.out w2 (H.out.below (hb2.mono hBs)) (Nat.le_trans hBs hb2.size))
  have Hb2 := Lib.hid (Hb1.out.trans (hb2.mono Hb1.out.size))
  clear hb2
  go_wp2_with fail
  refine (HT2.out).mono ?_; rintro e w3 ⟨rfl, hb3⟩
  have Hb3 := Lib.hid (Hb2.out.trans (hb3.mono Hb2.out.size))
  clear hb3
  go_wp2_with fail
  go_ret2
  exact ⟨rfl, Hb3.out⟩
set_option maxRecDepth 100000 in
set_option maxHeartbeats 1600000 in
theorem MoveNeeded_any (B : Nat) (vp vq : Value) (n : Nat) (p q : Nat → Int) (goal : Int) (w : World) (h : RdC w B vp vq n p q) (hB : B ≤ w.heap.size) (hc : Chn n p q) (hg : -1000 ≤ goal ∧ goal ≤ 1000) (hq0 : -1000 ≤ q 0 ∧ q 0 ≤ 1000) :
    Calls Try.prog 17 #[.agg #[vp, vq], .int .i64 goal] w fun e w' => e = .returned (.tuple #[.int .i64 (need p q n goal), .int .i64 0]) ∧ Below w.heap.size w w' := by
  obtain ⟨A, c, rfl⟩ := rd_sl h.1
  obtain ⟨A', c', rfl⟩ := rd_sl h.2
  have hb1 := (Below.refl w.heap.size w).alloc (Nat.le_refl _) (.cells #[.slice A n c, .slice A' (n + 1) c'] 26)
  have HV := Lib.hid (ValidChain_any B _ _ n p q _ (h.below (hb1.mono hB)) (Nat.le_trans hB hb1.size) hc)
  have HT := Lib.hid (fun wx hx hz => totalPlay_any B (.slice A n c) (.slice A' (n + 1) c') n p q wx hx hz hc)
  have H := Lib.hid (h.below (hb1.mono hB))
  obtain ⟨f0, f1⟩ := box2 (w := w) (x := .slice A n c) (y := .slice A' (n + 1) c') (t := 26)
  have Hb1 := Lib.hid hb1
  have hBs := Nat.le_trans hB hb1.size
  have hsz : w.heap.size < (w.alloc (.cells #[.slice A n c, .slice A' (n + 1) c'] 26)).heap.size := by simp
  have tb := tot_bd hc n (Nat.le_refl _)
  have hS := hc.2.2.2.2 n (by omega)
  have HG := Lib.hid (fun wx => isPlace_any goal wx (by omega) (by omega))
  have hn10 := hc.2.1
  have hneed := need_bd (p := p) (q := q) (n := n) (goal := goal) (T := 1000) (M := 1000) (by omega) tb.1 (by omega) (by omega)
  have HP := Lib.hid (fun wx => isPlace_any (need p q n goal) wx (by omega) (by omega))
  have Hne := Lib.hid (show need p q n goal = if q n < goal then goal + tot p n else if goal < q n then goal - tot p n else q 0 from rfl)
  clear h hb1
  generalize need p q n goal = nd at *
  generalize tot p n = T at *
  have hT : 0 ≤ T ∧ T ≤ 1000 := by omega
  go_enter Try.func17, Try.ntmps17
  go_wp2_with fail
  generalize hw1 : w.alloc (.cells #[.slice A n c, .slice A' (n + 1) c'] 26) = w1 at *
  clear hw1
  refine (HV.out).mono ?_; rintro e w2 ⟨rfl, hb2⟩
  have g0 := (hb2.cell (p := ⟨w.heap.size, 0, none⟩) hsz).trans f0
  have g1 := (hb2.cell (p := ⟨w.heap.size, 1, none⟩) hsz).trans f1
  have hr2 := H.out.below (hb2.mono hBs)
  have HT2 := Lib.hid (HT.out w2 hr2 (Nat.le_trans hBs hb2.size))
  obtain ⟨b2, o2, hA2, _, hcc2⟩ := rdF_all hr2.2 (by omega)
  subst hA2
  have q0 := hcc2 0 (by omega)
  have q1 := hcc2 n (by omega)
  rw [Nat.add_zero] at q0
  have Hb2 := Lib.hid (Hb1.out.trans (hb2.mono Hb1.out.size))
  have hn1 : (n : Int) < (n : Int) + 1 := by omega
  have hn2 : (0 : Int) < (n : Int) + 1 := by omega
  generalize q n = y at *
  generalize q 0 = x at *
  clear hb2 hcc2 hr2 tb hc
  go_wp2_with fail
  refine (HG.out _).mono ?_; rintro e w1 ⟨rfl, rfl⟩
  by_cases c1 : y < goal
  · obtain rfl : nd = goal + T := by have := Hne.out; rwa [if_pos c1] at this
    clear Hne
    go_wp2_with fail
    refine (HT2.out).mono ?_; rintro e w3 ⟨rfl, hb3⟩
    have Hb3 := Lib.hid (Hb2.out.trans (hb3.mono Hb2.out.size))
    clear hb3
    go_wp2_with fail
    refine (HP.out _).mono ?_; rintro e w1 ⟨rfl, rfl⟩
    go_wp2_with fail
    go_ret2
    exact ⟨rfl, Hb3.out⟩
  · by_cases c2 : goal < y
    · obtain rfl : nd = goal - T := by have := Hne.out; rwa [if_neg c1, if_pos c2] at this
      clear Hne
      go_wp2_with fail
      refine (HT2.out).mono ?_; rintro e w3 ⟨rfl, hb3⟩
      have Hb3 := Lib.hid (Hb2.out.trans (hb3.mono Hb2.out.size))
      clear hb3
      go_wp2_with fail
      refine (HP.out _).mono ?_; rintro e w1 ⟨rfl, rfl⟩
      go_wp2_with fail
      go_ret2
      exact ⟨rfl, Hb3.out⟩
    · obtain rfl : nd = x := by have := Hne.out; rwa [if_neg c1, if_neg c2] at this
      clear Hne
      go_wp2_with fail
      refine (HP.out _).mono ?_; rintro e w1 ⟨rfl, rfl⟩
      go_wp2_with fail
      go_ret2
      exact ⟨rfl, Hb2.out⟩
end Go.Proofs.Ytdljlemgaefbpaa
