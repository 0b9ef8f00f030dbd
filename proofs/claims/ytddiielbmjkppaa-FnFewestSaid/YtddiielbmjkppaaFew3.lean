/- Fewest turns, part 3: the rule in the program; the number of turns. -/
import Derived.Test.YtddiielbmjkppaaFew2
namespace Go.Proofs.Ytddiielbmjkppaa
open Go.RowKit Go.Joins

theorem few_step {b m N : Nat} (hb : 2 ≤ b) (hm : 0 < m) {acc : List Int} (h : acc ++ few b m = few b N) : (acc ++ [dgF b m]) ++ few b (nxF b m) = few b N := by
  rw [← h, List.append_assoc]; congr 1; exact (gn_pos (nxF_lt hb) hm).symm
theorem low_cases (b m : Nat) : (2 * (m % b) < b ∧ dgF b m = ((m % b : Nat) : Int) ∧ nxF b m = m / b) ∨ (2 * (m % b) = b ∧ 2 * (m / b % b) + 1 < b ∧ dgF b m = ((m % b : Nat) : Int) ∧ nxF b m = m / b) ∨
    (2 * (m % b) = b ∧ b ≤ 2 * (m / b % b) + 1 ∧ dgF b m = ((m % b : Nat) : Int) - (b : Int) ∧ nxF b m = m / b + 1) ∨ (b < 2 * (m % b) ∧ dgF b m = ((m % b : Nat) : Int) - (b : Int) ∧ nxF b m = m / b + 1) := by
  unfold dgF nxF
  by_cases h1 : 2 * (m % b) < b
  · rw [if_pos (lowT_iff.2 (.inl h1)), if_pos (lowT_iff.2 (.inl h1))]; exact .inl ⟨h1, rfl, rfl⟩
  · by_cases h2 : 2 * (m % b) = b
    · by_cases h3 : 2 * (m / b % b) + 1 < b
      · rw [if_pos (lowT_iff.2 (.inr ⟨h2, h3⟩)), if_pos (lowT_iff.2 (.inr ⟨h2, h3⟩))]; exact .inr (.inl ⟨h2, h3, rfl, rfl⟩)
      · rw [if_neg (by rw [lowT_iff]; omega), if_neg (by rw [lowT_iff]; omega)]; exact .inr (.inr (.inl ⟨h2, by omega, rfl, rfl⟩))
    · rw [if_neg (by rw [lowT_iff]; omega), if_neg (by rw [lowT_iff]; omega)]; exact .inr (.inr (.inr ⟨by omega, rfl, rfl⟩))

set_option maxRecDepth 100000 in
set_option maxHeartbeats 1600000 in
theorem fewestTurns_any (b N : Nat) (w : World) (hb : 2 ≤ b) (hb2 : b ≤ 16) (hN : N ≤ 62500000) : Calls Try.prog 194 #[.int .i64 (b : Int), .int .i64 (N : Int)] w (RetL w (few b N)) := by
  have Hlen := Lib.hid (few_len hb hN)
  have hb0 := Lib.hid ((Below.refl w.heap.size w).alloc (Nat.le_refl _) (.cells #[] 2))
  have ho0 := Lib.hid (World.ownsRow_made (base := w.heap.size) (e := 2) (size := 1) w #[] 0 (Nat.le_refl _) (by simp [maxLen]) rfl)
  go_enter Try.func194, Try.ntmps194
  go_wp2_with fail
  go_loopw [5, 6] (fun a i wr => ∃ (acc : List Int) (m : Nat), acc ++ few b m = few b N ∧ m ≤ N ∧ i = .int .i64 (m : Int) ∧ wr.ownsRow w.heap.size 2 1 a acc.length (nmV acc) ∧ Below w.heap.size w wr) (fun _ i _ => (intOf i).toNat)
  case atStart => exact ⟨[], N, rfl, Nat.le_refl _, rfl, ho0.out, hb0.out⟩
  case round =>
    obtain ⟨acc, m, heq, hmN, rfl, hown, hbl⟩ := hrel
    obtain ⟨A3, c3, rfl⟩ := own_sl hown
    have hal : acc.length ≤ 28 := by have := congrArg List.length heq; rw [List.length_append] at this; have := Hlen.out; omega
    by_cases hm : m = 0
    · subst hm
      have Hown := Lib.hid hown
      have Hbl := Lib.hid hbl
      have Heq := Lib.hid heq
      clear hown hbl heq
      go_wp2_with fail
      go_ret
      have := Heq.out
      rw [show few b 0 = [] from rfl, List.append_nil] at this
      exact ⟨_, rfl, by rw [← this]; exact Hown.out, Hbl.out⟩
    · have hm' : (0 : Int) < (m : Int) := by omega
      have hlt := nxF_lt hb m (by omega)
      have Hst := Lib.hid (few_step hb (by omega) heq)
      have Hsc := Lib.hid (nmV_app acc (dgF b m))
      have hdb := dgF_bd hb m
      have hds := Nat.mod_lt m (show 0 < b by omega)
      have hes := Nat.mod_lt (m / b) (show 0 < b by omega)
      have hcs := low_cases b m
      have hqm : m / b ≤ m := Nat.div_le_self _ _
      have e1 : Int.tmod (m : Int) (b : Int) = ((m % b : Nat) : Int) := by rw [Int.tmod_eq_emod_of_nonneg (by omega)]; exact (Int.natCast_emod _ _).symm
      have e2 : Int.tdiv (m : Int) (b : Int) = ((m / b : Nat) : Int) := by rw [Int.tdiv_eq_ediv_of_nonneg (by omega)]; exact (Int.natCast_ediv _ _).symm
      have e5 : Int.tmod ((m / b : Nat) : Int) (b : Int) = ((m / b % b : Nat) : Int) := by rw [Int.tmod_eq_emod_of_nonneg (Int.natCast_nonneg _)]; exact (Int.natCast_emod _ _).symm
      have e6 : ((m / b : Nat) : Int) % (b : Int) = ((m / b % b : Nat) : Int) := (Int.natCast_emod _ _).symm
      have hl' := Lib.hid (show (acc ++ [dgF b m]).length = acc.length + 1 by simp)
      generalize m / b % b = e at *
      generalize hd : m % b = d at *
      generalize hq : m / b = q at *
      generalize dgF b m = z at *
      generalize nxF b m = y at *
      have hqb : (q : Int) ≤ 62500000 := by omega
      have hb0' : (b : Int) ≠ 0 := by omega
      generalize hL : acc.length = L at *
      have Hown := Lib.hid hown
      have Hbl := Lib.hid hbl
      have Hown' := Lib.hid (fun n => hown.drewN n)
      have Hbl' := Lib.hid (fun n => below_drewN hbl n)
      have Hcs := Lib.hid hcs
      clear hown hbl heq hd hq hL hcs
      go_wp2_with fail
      go_quiet (fail)
      have Hown := Lib.hid (Hown'.out nq)
      have Hbl := Lib.hid (Hbl'.out nq)
      clear e1 e2
      rcases Hcs.out with ⟨h1, rfl, rfl⟩ | ⟨h1, h2, rfl, rfl⟩ | ⟨h1, h2, rfl, rfl⟩ | ⟨h1, rfl, rfl⟩
      · have h1' : 2 * (d : Int) < (b : Int) := by omega
        clear Hcs hdb e5 e6
        go_wp2_with (at_builtin; refine wpList_apd 24 2 _ 1 8 Try.underlying24 infoD rfl (by omega) _ _ rfl rfl w.heap.size _ L _ rfl Hown.out #[.int .i64 ((d : Int))] 1 1 rfl rfl (by simp [Value.oneCell']) (by simp [maxLen]; omega) (by omega) Hbl.out.size ?_; intro v7 w7 hown7 hg7; have Hb7 := Lib.hid (below_apd Hbl.out Hown.out hg7 (Nat.le_refl _) Hbl.out.size); obtain ⟨A7, c7, rfl⟩ := own_sl hown7; have Hown7 := Lib.hid hown7; clear hown7 hg7)
        go_roundw
        case rel => exact ⟨acc ++ [_], _, Hst.out, by omega, rfl, by rw [Hsc.out, hl'.out]; exact Hown7.out, Hb7.out⟩
        case measure => simp [intOf]; omega
      · have h1' : ¬ (2 * (d : Int) < (b : Int)) := by omega
        have h1'' : 2 * (d : Int) = (b : Int) := by omega
        have h2' : 2 * (e : Int) < (b : Int) - 1 := by omega
        clear Hcs hdb h1
        go_wp2_with (at_builtin; refine wpList_apd 24 2 _ 1 8 Try.underlying24 infoD rfl (by omega) _ _ rfl rfl w.heap.size _ L _ rfl Hown.out #[.int .i64 ((d : Int))] 1 1 rfl rfl (by simp [Value.oneCell']) (by simp [maxLen]; omega) (by omega) Hbl.out.size ?_; intro v7 w7 hown7 hg7; have Hb7 := Lib.hid (below_apd Hbl.out Hown.out hg7 (Nat.le_refl _) Hbl.out.size); obtain ⟨A7, c7, rfl⟩ := own_sl hown7; have Hown7 := Lib.hid hown7; clear hown7 hg7)
        go_roundw
        case rel => exact ⟨acc ++ [_], _, Hst.out, by omega, rfl, by rw [Hsc.out, hl'.out]; exact Hown7.out, Hb7.out⟩
        case measure => simp [intOf]; omega
      · have h1' : ¬ (2 * (d : Int) < (b : Int)) := by omega
        have h1'' : 2 * (d : Int) = (b : Int) := by omega
        have h2' : ¬ (2 * (e : Int) < (b : Int) - 1) := by omega
        clear Hcs hdb h1
        go_wp2_with (at_builtin; refine wpList_apd 24 2 _ 1 8 Try.underlying24 infoD rfl (by omega) _ _ rfl rfl w.heap.size _ L _ rfl Hown.out #[.int .i64 ((d : Int) - (b : Int))] 1 1 rfl rfl (by simp [Value.oneCell']) (by simp [maxLen]; omega) (by omega) Hbl.out.size ?_; intro v7 w7 hown7 hg7; have Hb7 := Lib.hid (below_apd Hbl.out Hown.out hg7 (Nat.le_refl _) Hbl.out.size); obtain ⟨A7, c7, rfl⟩ := own_sl hown7; have Hown7 := Lib.hid hown7; clear hown7 hg7)
        go_roundw
        case rel => exact ⟨acc ++ [_], _, Hst.out, by omega, by go_num, by rw [Hsc.out, hl'.out]; exact Hown7.out, Hb7.out⟩
        case measure => simp [intOf]; omega
      · have h1' : ¬ (2 * (d : Int) < (b : Int)) := by omega
        have h1'' : ¬ (2 * (d : Int) = (b : Int)) := by omega
        clear Hcs hdb e5 e6
        go_wp2_with (at_builtin; refine wpList_apd 24 2 _ 1 8 Try.underlying24 infoD rfl (by omega) _ _ rfl rfl w.heap.size _ L _ rfl Hown.out #[.int .i64 ((d : Int) - (b : Int))] 1 1 rfl rfl (by simp [Value.oneCell']) (by simp [maxLen]; omega) (by omega) Hbl.out.size ?_; intro v7 w7 hown7 hg7; have Hb7 := Lib.hid (below_apd Hbl.out Hown.out hg7 (Nat.le_refl _) Hbl.out.size); obtain ⟨A7, c7, rfl⟩ := own_sl hown7; have Hown7 := Lib.hid hown7; clear hown7 hg7)
        go_roundw
        case rel => exact ⟨acc ++ [_], _, Hst.out, by omega, by go_num, by rw [Hsc.out, hl'.out]; exact Hown7.out, Hb7.out⟩
        case measure => simp [intOf]; omega

/-- a list of numbers, read -/
def RdI (w : World) (B : Nat) (v : Value) (l : List Int) : Prop := Rd w B v l.length 1 (nmV l)
theorem RdI.tab {w : World} {B : Nat} {v : Value} {l : List Int} (h : RdI w B v l) : Rd w B v l.length 1 (tab l.length (at0 l)) := by rw [← nmV_tab]; exact h
theorem cnt_take (l : List Int) (k : Nat) (hk : k < l.length) : cnt (l.take (k + 1)) = cnt (l.take k) + (at0 l k).natAbs := by
  rw [List.take_succ_eq_append_getElem hk, cnt_app]
  simp [cnt, at0, List.getD, hk]
theorem cnt_le {l : List Int} {M : Nat} (h : ∀ k, k < l.length → (at0 l k).natAbs ≤ M) : ∀ k, k ≤ l.length → cnt (l.take k) ≤ k * M
  | 0, _ => by simp [cnt]
  | k + 1, hk => by
    have h1 := cnt_le h k (by omega)
    have h2 := h k (by omega)
    rw [cnt_take l k (by omega), Nat.add_mul]; omega

set_option maxRecDepth 100000 in
set_option maxHeartbeats 1600000 in
theorem turnsOf_any (B : Nat) (v : Value) (l : List Int) (w : World) (h : RdI w B v l) (hl : l.length ≤ 40) (hd : ∀ k, k < l.length → -16 ≤ at0 l k ∧ at0 l k ≤ 16) :
    Calls Try.prog 196 #[v] w fun e w' => e = .returned (.int .i64 (cnt l : Int)) ∧ w = w' := by
  have H := Lib.hid h.tab
  have HD := Lib.hid hd
  have Hle := Lib.hid (fun k hk => cnt_le (l := l) (M := 16) (fun k hk => by have := hd k hk; omega) k hk)
  have Hall := Lib.hid (show cnt (l.take l.length) = cnt l by rw [List.take_length])
  obtain ⟨A, c, rfl⟩ := rd_sl h
  clear h hd
  have hl' : (l.length : Int) ≤ 40 := by omega
  go_enter Try.func196, Try.ntmps196
  go_wp2_with fail
  go_loop [3, 8] (fun a i => ∃ k : Nat, k ≤ l.length ∧ i = .int .i64 (k : Int) ∧ a = .int .i64 (cnt (l.take k) : Int)) (fun _ i => l.length - (intOf i).toNat)
  case atStart => exact ⟨0, Nat.zero_le _, rfl, by rw [List.take_zero]; rfl⟩
  case round =>
    obtain ⟨k, hk, rfl, rfl⟩ := hrel
    by_cases hlt : k < l.length
    · obtain ⟨b1, o1, hA, _, hcc⟩ := rdF_all H.out (by omega)
      subst hA
      have q0 := hcc k hlt
      have s0 := HD.out k hlt
      have n0 := Hle.out k hk
      have Hn := Lib.hid (cnt_take l k hlt)
      have hlt' : (k : Int) < (l.length : Int) := by omega
      generalize cnt (l.take k) = s at *
      generalize at0 l k = x at *
      have HA := Lib.hid (fun wx => absolute_any x wx (by omega) (by omega))
      have hs : (s : Int) ≤ 640 := by omega
      have hx16 : (x.natAbs : Int) ≤ 16 := by omega
      have hx0 : (0 : Int) ≤ (x.natAbs : Int) := by omega
      generalize hy : x.natAbs = y at *
      clear hcc n0 hy s0
      go_wp2_with fail
      refine (HA.out _).mono ?_; rintro e w1 ⟨rfl, rfl⟩
      go_wp2_with fail
      go_round
      case rel => exact ⟨k + 1, by omega, by go_num, by rw [Hn.out]; go_num⟩
      case measure => first | (simp [intOf]; done) | (simp [intOf]; omega)
    · obtain rfl : k = l.length := by omega
      rw [Hall.out]
      go_wp2_with fail
      go_ret
      exact ⟨rfl, rfl⟩
end Go.Proofs.Ytddiielbmjkppaa
