/- Fewest turns, part 4: the program's functions of turns. -/
import Derived.Test.YtddiielbmjkppaaFew3
namespace Go.Proofs.Ytddiielbmjkppaa
open Go.RowKit Go.Joins

/-- turns and a code are handed back -/
def RetT (b : Nat) (l : List Int) (w : World) (e : Ending) (w' : World) : Prop :=
  ∃ v, e = .returned (.tuple #[.agg #[.int .i64 (b : Int), v], .int .i64 0]) ∧ w'.ownsRow w.heap.size 2 1 v l.length (nmV l) ∧ Below w.heap.size w w'
set_option maxRecDepth 100000 in
set_option maxHeartbeats 1600000 in
theorem FewestTurns_any (b N : Nat) (w : World) (hb : 2 ≤ b) (hb2 : b ≤ 16) (hN : N ≤ 62500000) : Calls Try.prog 41 #[.int .i64 (b : Int), .int .i64 (N : Int)] w (RetT b (few b N) w) := by
  have HI := Lib.hid (fun wx => isTurnsInput_any b N wx hb hb2 hN)
  have HF := Lib.hid (fun wx => fewestTurns_any b N wx hb hb2 hN)
  unfold RetL at HF
  go_enter Try.func41, Try.ntmps41
  go_wp2_with fail
  refine (HI.out _).mono ?_; rintro e w1 ⟨rfl, rfl⟩
  go_wp2_with fail
  refine (HF.out _).mono ?_; rintro e w2 ⟨v, rfl, ho, hbl⟩
  obtain ⟨A, c, rfl⟩ := own_sl ho
  obtain ⟨p0, p1, p2, p3⟩ := res2_pre hbl
  obtain ⟨q0, q1, hbe⟩ := res2_post hbl (.int .i64 (b : Int)) (.slice A (few b N).length c)
  have hoe := res2_own ho (g := w.heap.size) (B := w.heap.size) (by simp) (by simp) (.int .i64 (b : Int)) (.slice A (few b N).length c)
  have Hbe := Lib.hid hbe
  have Hoe := Lib.hid hoe
  have Hq0 := Lib.hid q0
  have Hq1 := Lib.hid q1
  clear hbe hoe ho hbl q0 q1
  go_wp2_with fail
  exact bodyPost_ret (v := .tuple #[.agg #[.int .i64 (b : Int), .slice A (few b N).length c], .int .i64 0]) (by simp [results, Try.results41, go_sem, Hq0.out, Hq1.out]) rfl ⟨_, rfl, Hoe.out, Hbe.out⟩
set_option maxRecDepth 100000 in
set_option maxHeartbeats 1600000 in
theorem PlainTurns_any (b N : Nat) (w : World) (hb : 2 ≤ b) (hb2 : b ≤ 16) (hN : N ≤ 62500000) : Calls Try.prog 42 #[.int .i64 (b : Int), .int .i64 (N : Int)] w (RetT b (pln b N) w) := by
  have HI := Lib.hid (fun wx => isTurnsInput_any b N wx hb hb2 hN)
  have HF := Lib.hid (fun wx => plainTurns_any b N wx hb hb2 hN)
  unfold RetL at HF
  go_enter Try.func42, Try.ntmps42
  go_wp2_with fail
  refine (HI.out _).mono ?_; rintro e w1 ⟨rfl, rfl⟩
  go_wp2_with fail
  refine (HF.out _).mono ?_; rintro e w2 ⟨v, rfl, ho, hbl⟩
  obtain ⟨A, c, rfl⟩ := own_sl ho
  obtain ⟨p0, p1, p2, p3⟩ := res2_pre hbl
  obtain ⟨q0, q1, hbe⟩ := res2_post hbl (.int .i64 (b : Int)) (.slice A (pln b N).length c)
  have hoe := res2_own ho (g := w.heap.size) (B := w.heap.size) (by simp) (by simp) (.int .i64 (b : Int)) (.slice A (pln b N).length c)
  have Hbe := Lib.hid hbe
  have Hoe := Lib.hid hoe
  have Hq0 := Lib.hid q0
  have Hq1 := Lib.hid q1
  clear hbe hoe ho hbl q0 q1
  go_wp2_with fail
  exact bodyPost_ret (v := .tuple #[.agg #[.int .i64 (b : Int), .slice A (pln b N).length c], .int .i64 0]) (by simp [results, Try.results42, go_sem, Hq0.out, Hq1.out]) rfl ⟨_, rfl, Hoe.out, Hbe.out⟩
theorem few_bd {b N k : Nat} (hb : 2 ≤ b) (hb2 : b ≤ 16) (h : k < (few b N).length) : -16 ≤ at0 (few b N) k ∧ at0 (few b N) k ≤ 16 := by
  obtain ⟨m, _, _, h3⟩ := gn_at (nxF_lt hb) k N h
  have h4 := dgF_bd hb m
  have : at0 (few b N) k = dgF b m := by unfold at0; rw [List.getD_eq_getElem?_getD, h3]; rfl
  omega
set_option maxRecDepth 100000 in
set_option maxHeartbeats 1600000 in
theorem LowerBound_any (b N : Nat) (w : World) (hb : 2 ≤ b) (hb2 : b ≤ 16) (hN : N ≤ 62500000) : Calls Try.prog 43 #[.int .i64 (b : Int), .int .i64 (N : Int)] w fun e w' => e = .returned (.tuple #[.int .i64 (cst b N : Int), .int .i64 0]) ∧ Below w.heap.size w w' := by
  have HI := Lib.hid (fun wx => isTurnsInput_any b N wx hb hb2 hN)
  have HF := Lib.hid (fun wx => fewestTurns_any b N wx hb hb2 hN)
  unfold RetL at HF
  have HT := Lib.hid (fun wx vx hx => turnsOf_any wx.heap.size vx (few b N) wx hx (Nat.le_trans (few_len hb hN) (by omega)) (fun k hk => few_bd hb hb2 hk))
  unfold cst
  go_enter Try.func43, Try.ntmps43
  go_wp2_with fail
  refine (HI.out _).mono ?_; rintro e w1 ⟨rfl, rfl⟩
  go_wp2_with fail
  refine (HF.out _).mono ?_; rintro e w2 ⟨v, rfl, ho, hbl⟩
  obtain ⟨A, c, rfl⟩ := own_sl ho
  have HT2 := Lib.hid (HT.out w2 _ (Rd.of_own ho))
  have Hbl := Lib.hid hbl
  clear ho hbl
  go_wp2_with fail
  refine (HT2.out).mono ?_; rintro e w1 ⟨rfl, rfl⟩
  go_wp2_with fail
  go_ret2
  exact ⟨rfl, Hbl.out⟩
end Go.Proofs.Ytddiielbmjkppaa
