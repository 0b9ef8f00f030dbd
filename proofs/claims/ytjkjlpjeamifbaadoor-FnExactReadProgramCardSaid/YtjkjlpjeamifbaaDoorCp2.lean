/- A program's line, read: the plain law, by the number of its parts. -/
import Derived.Test.YtjkjlpjeamifbaaDoorCp1
namespace Go.Proofs.YtjkjlpjeamifbaaDoor

theorem app_inj {a b c : ByteArray} (h : a ++ b = a ++ c) : b = c := by
  have h1 := congrArg (fun x => x.data.toList) h
  simp only [ByteArray.data_append, Array.toList_append, List.append_cancel_left_eq] at h1
  exact ByteArray.ext (Array.ext' h1)
theorem long_ne {w r : ByteArray} : w ++ ⟨#[32]⟩ ++ r ≠ w := by
  intro h
  have := congrArg ByteArray.size h
  rw [ByteArray.size_append, ByteArray.size_append] at this
  have h1 : (⟨#[32]⟩ : ByteArray).size = 1 := rfl
  omega
theorem okIns_arg2 {n : Nat} {a : Int} (h1 : n ≠ 0) (h2 : n ≤ 10) : okIns n a = argF n a := okIns_arg (by unfold inB; simp; omega)
theorem inB_iff (a l h : Int) : (inB a l h = true) ↔ l ≤ a ∧ a ≤ h := by unfold inB; simp
/-- one part -/
theorem rl_one {s : ByteArray} {n : Nat} (hn : opW (wordL s) = n) (h0 : n ≠ 0) (hf : fnd 32 s = s.size) :
    rl s = if n = 1 ∨ n = 8 then (0, 0, 2) else if n ≤ 5 then ((n : Int), 1, 0) else ((n : Int), 0, 0) := by
  have hw := word_of hn h0
  have hr := restL_none hf
  have hs := wordL_all hf
  rw [hs] at hw
  have hle : n ≤ 10 := by rw [← hn]; exact opW_le _
  by_cases h18 : n = 1 ∨ n = 8
  · rw [if_pos h18]
    refine rl_bad hn h0 (a := 0) (by unfold argW; rw [if_pos h18, hr, readN_nil]; rfl) ?_
    rintro ⟨_, h2⟩
    rw [lineP_a (by omega), hw] at h2
    exact long_ne h2
  · rw [if_neg h18]
    by_cases h5 : n ≤ 5
    · rw [if_pos h5]
      refine rl_good hn h0 (a := 1) (by unfold argW; rw [if_neg h18, if_pos (by omega), hr, readN_nil]; rfl) ⟨?_, ?_⟩
      · rw [okIns_arg2 h0 hle]; unfold argF; rw [if_neg (by omega), if_pos (by omega), inB_iff]; omega
      · rw [lineP_b (by omega), hw]
    · rw [if_neg h5]
      refine rl_good hn h0 (a := 0) (by unfold argW; rw [if_neg h18, if_neg (by omega)]) ⟨?_, ?_⟩
      · rw [okIns_arg2 h0 hle]; unfold argF; rw [if_neg (by omega), if_neg (by omega)]; rfl
      · rw [lineP_b (by omega), hw]
/-- no number behind the word -/
theorem rl_nonum {s : ByteArray} {n : Nat} (hn : opW (wordL s) = n) (h0 : n ≠ 0) (hf : fnd 32 s < s.size) (hr : readN (restL s) = none) : rl s = (0, 0, 2) := by
  have hw := word_of hn h0
  have hs := line_cut hf
  have hle : n ≤ 10 := by rw [← hn]; exact opW_le _
  by_cases h18 : n = 1 ∨ n = 8
  · refine rl_bad hn h0 (a := 0) (by unfold argW; rw [if_pos h18, hr]; rfl) ?_
    rintro ⟨h1, h2⟩
    rw [lineP_a (by omega), hw] at h2
    have h3 := app_inj (h2.trans hs)
    rw [dec_zero] at h3
    rw [← h3, readN_zero] at hr
    cases hr
  · by_cases h5 : n ≤ 5
    · refine rl_bad hn h0 (a := 1) (by unfold argW; rw [if_neg h18, if_pos (by omega), hr]; rfl) ?_
      rintro ⟨_, h2⟩
      rw [lineP_b (by omega), hw] at h2
      exact long_ne (hs.symm.trans h2.symm)
    · refine rl_bad hn h0 (a := 0) (by unfold argW; rw [if_neg h18, if_neg (by omega)]) ?_
      rintro ⟨_, h2⟩
      rw [lineP_b (by omega), hw] at h2
      exact long_ne (hs.symm.trans h2.symm)
/-- a number behind the word -/
def okS (n : Nat) (a : Int) : Bool := (decide (a ≠ 1) || decide (n = 1 ∨ n = 8)) && (decide (a ≠ 0) || decide (n = 1)) && argF n a
theorem rl_num {s : ByteArray} {n : Nat} {a : Int} (hn : opW (wordL s) = n) (h0 : n ≠ 0) (hf : fnd 32 s < s.size) (hr : readN (restL s) = some a) :
    rl s = if okS n a = true then ((n : Int), a, 0) else (0, 0, 2) := by
  have hw := word_of hn h0
  have hs := line_cut hf
  have hd := readN_dec hr
  have hle : n ≤ 10 := by rw [← hn]; exact opW_le _
  have hl : lineP n a = s ↔ (n = 1 ∨ n = 8 ∨ 1 < a) := by
    constructor
    · intro h
      refine Classical.byContradiction fun hc => ?_
      rw [lineP_b hc, hw] at h
      exact long_ne (hs.symm.trans h.symm)
    · intro h
      rw [lineP_a h, hw, hd]; exact hs.symm
  by_cases h18 : n = 1 ∨ n = 8
  · have ha : argW n (restL s) = a := by unfold argW; rw [if_pos h18, hr]; rfl
    have hk : okS n a = okIns n a := by
      rw [okIns_arg2 h0 hle]
      unfold okS
      rw [decide_eq_true h18, Bool.or_true, Bool.true_and]
      rcases h18 with rfl | rfl
      · simp
      · have : argF ((8 : Nat) : Int) a = inB a 1 100 := by unfold argF; rw [if_neg (by omega), if_pos (by omega)]
        rw [this]
        by_cases hz : a = 0
        · subst hz; decide
        · simp [hz]
    by_cases hok : okIns n a = true
    · rw [if_pos (by rw [hk]; exact hok)]
      exact rl_good hn h0 ha ⟨hok, hl.2 (by omega)⟩
    · rw [if_neg (by rw [hk]; exact hok)]
      exact rl_bad hn h0 ha fun h => hok h.1
  · by_cases h5 : n ≤ 5
    · have ha : argW n (restL s) = a := by unfold argW; rw [if_neg h18, if_pos (by omega), hr]; rfl
      have hF : argF n a = inB a 1 100 := by unfold argF; rw [if_neg (by omega), if_pos (by omega)]
      have hO : okIns n a = inB a 1 100 := by rw [okIns_arg2 h0 hle, hF]
      by_cases hok : okS n a = true
      · rw [if_pos hok]
        unfold okS at hok
        rw [hF] at hok
        simp only [Bool.and_eq_true, Bool.or_eq_true, decide_eq_true_eq] at hok
        have hi := (inB_iff _ _ _).1 hok.2
        exact rl_good hn h0 ha ⟨by rw [hO]; exact hok.2, hl.2 (by omega)⟩
      · rw [if_neg hok]
        refine rl_bad hn h0 ha fun h => hok ?_
        have h1 := hl.1 h.2
        have h2 := h.1
        rw [hO] at h2
        unfold okS
        rw [hF, h2, Bool.and_true]
        rw [decide_eq_true (show a ≠ 1 by omega), decide_eq_true (show a ≠ 0 by omega)]
        rfl
    · have ha : argW n (restL s) = 0 := by unfold argW; rw [if_neg h18, if_neg (by omega)]
      rw [if_neg]
      · refine rl_bad hn h0 ha fun h => ?_
        have h2 := h.2
        rw [lineP_b (by omega), hw] at h2
        exact long_ne (hs.symm.trans h2.symm)
      · intro h
        unfold okS at h
        simp only [Bool.and_eq_true, Bool.or_eq_true, decide_eq_true_eq] at h
        have hF : argF n a = decide (a = 0) := by unfold argF; rw [if_neg (by omega), if_neg (by omega)]
        have h2 := h.2
        rw [hF, decide_eq_true_eq] at h2
        omega
/- the parts -/
theorem parts_one {s : ByteArray} (hf : fnd 32 s = s.size) : splitB 32 s = [wordL s] := by rw [wordL_all hf]; exact splitB_no (by omega)
theorem parts_two {s : ByteArray} (hf : fnd 32 s < s.size) (hr : fnd 32 (restL s) = (restL s).size) : splitB 32 s = [wordL s, restL s] := by
  rw [splitB_yes hf, splitB_no (s := s.extract (fnd 32 s + 1) s.size) (by unfold restL at hr; omega)]; rfl
theorem parts_many {s : ByteArray} (hf : fnd 32 s < s.size) (hr : fnd 32 (restL s) < (restL s).size) : ∃ l : List ByteArray, splitB 32 s = wordL s :: l ∧ 2 ≤ l.length := by
  rw [splitB_yes hf]
  refine ⟨_, rfl, ?_⟩
  unfold restL at hr
  rw [splitB_yes hr, List.length_cons]
  have := splitB_ne 32 ((s.extract (fnd 32 s + 1) s.size).extract (fnd 32 (s.extract (fnd 32 s + 1) s.size) + 1) (s.extract (fnd 32 s + 1) s.size).size)
  have := List.length_pos_iff.2 this
  omega
end Go.Proofs.YtjkjlpjeamifbaaDoor
