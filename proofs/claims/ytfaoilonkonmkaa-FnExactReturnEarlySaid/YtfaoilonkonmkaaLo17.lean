/- Loans, part 17: a loan ends early, both sides. -/
import Derived.Test.YtfaoilonkonmkaaLo16
namespace Go.Proofs.Ytfaoilonkonmkaa
open Go.RowKit Go.Joins

theorem own_pos {w : World} {base n size : Nat} {e : TypeId} {v : Value} {cs : List Value} (h : w.ownsRow base e size v n cs) (hn : 0 < n) : ∃ g cap, v = .slice (some ⟨g, 0, none⟩) n cap := by
  rcases ownsRow_forms h with ⟨_, h0⟩ | ⟨g, cap, rfl⟩
  · omega
  · exact ⟨g, cap, rfl⟩
theorem own_cell {w : World} {base n size g cap : Nat} {e : TypeId} {cs : List Value} (h : w.ownsRow base e size (.slice (some ⟨g, 0, none⟩) n cap) n cs) (j : Nat) (hj : j < n * size) : ∃ u, w.cell? ⟨g, j, none⟩ = some u ∧ w.frozen? ⟨g, j, none⟩ = false := by
  obtain ⟨u, hu⟩ : ∃ u, cs[j]? = some u := ⟨_, List.getElem?_eq_getElem (by have := h.1; omega)⟩
  exact ⟨u, (h.cellAt j (by omega)).trans hu, h.frozenAt j⟩
theorem flat_set4 (xs : List Ln) (i : Nat) (hi : i < xs.length) (a b : ByteArray) (f t : Int) :
    (((((xs.flatMap cellsL).set (i * 4) (.string a)).set (i * 4 + 1) (.string b)).set (i * 4 + 2) (.int .i64 f)).set (i * 4 + 3) (.int .i64 t)) = (xs.set i ⟨a, b, f, t⟩).flatMap cellsL := by
  have e : (xs.drop i).flatMap cellsL = cellsL xs[i] ++ (xs.drop (i + 1)).flatMap cellsL := by rw [List.drop_eq_getElem_cons hi, List.flatMap_cons]
  rw [flat_part i, set4 _ _ (i * 4) (by rw [flat_len cellsL 4 (fun _ => rfl), List.length_take]; omega) (by rw [flat_len cellsL 4 (fun _ => rfl), List.length_drop]; omega), e, List.set_eq_take_append_cons_drop, if_pos hi, List.flatMap_append, List.flatMap_cons]
  simp [cellsL]
theorem flat_setT (xs : List Ln) (d : Int) : ∀ (i : Nat) (hi : i < xs.length), (xs.flatMap cellsL).set (i * 4 + 3) (.int .i64 d) = (xs.set i ⟨xs[i].what, xs[i].who, xs[i].from_, d⟩).flatMap cellsL := by
  induction xs with
  | nil => intro i hi; simp at hi
  | cons x l ih =>
    intro i hi
    cases i with
    | zero => simp [cellsL]
    | succ j =>
      have hj : j < l.length := by simpa using hi
      have e1 : ((x :: l).flatMap cellsL) = cellsL x ++ l.flatMap cellsL := by rw [List.flatMap_cons]
      have e2 : (x :: l)[j + 1] = l[j] := rfl
      rw [e1, e2, List.set_cons_succ, List.flatMap_cons, ← ih j hj, List.set_append_right _ _ (by simp [cellsL]; omega)]
      congr 2
      simp [cellsL]; omega
theorem own_loan {w : World} {base g cap : Nat} {xs : List Ln} (h : w.ownsRow base 63 4 (.slice (some ⟨g, 0, none⟩) xs.length cap) xs.length (xs.flatMap cellsL)) (i : Nat) (hi : i < xs.length) :
    w.cell? ⟨g, i * 4, none⟩ = some (.string xs[i].what) ∧ w.cell? ⟨g, i * 4 + 1, none⟩ = some (.string xs[i].who) ∧ w.cell? ⟨g, i * 4 + 2, none⟩ = some (.int .i64 xs[i].from_) ∧ w.cell? ⟨g, i * 4 + 3, none⟩ = some (.int .i64 xs[i].till) := by
  have hr : RdL w w.heap.size (.slice (some ⟨g, 0, none⟩) xs.length cap) xs := Rd.of_own h
  obtain ⟨b1, o1, hA, hE⟩ := hr.at i hi
  obtain ⟨rfl, rfl⟩ : g = b1 ∧ 0 = o1 := by simpa using hA
  rw [Nat.zero_add] at hE
  exact ⟨hE.c0, hE.c1, hE.c2, hE.c3⟩
def retR (xs : List Ln) (s : ByteArray) (d : Int) : List Ln :=
  if askLc xs s d = 0 then xs.set (askLi xs s d).toNat ⟨(atL xs (askLi xs s d).toNat).what, (atL xs (askLi xs s d).toNat).who, (atL xs (askLi xs s d).toNat).from_, d⟩ else []
theorem retR_len (xs : List Ln) (s : ByteArray) (d : Int) : (retR xs s d).length ≤ xs.length := by
  unfold retR; split <;> simp
theorem ret_cases (xs : List Ln) (s : ByteArray) (d : Int) : (loansOk xs = false ∧ askLc xs s d = 1 ∧ askLi xs s d = 0 ∧ retR xs s d = []) ∨ (loansOk xs = true ∧ findL xs s d 0 = -1 ∧ askLc xs s d = 3 ∧ askLi xs s d = 0 ∧ retR xs s d = []) ∨
    ∃ (i : Nat) (hi : i < xs.length), loansOk xs = true ∧ findL xs s d 0 = (i : Int) ∧ askLc xs s d = 0 ∧ askLi xs s d = (i : Int) ∧ retR xs s d = xs.set i ⟨xs[i].what, xs[i].who, xs[i].from_, d⟩ := by
  rcases askL_cases xs s d with ⟨h1, h2, h3⟩ | ⟨h1, h2, h3, h4⟩ | ⟨i, hi, h1, h2, h3, h4⟩
  · exact .inl ⟨h1, h2, h3, by unfold retR; rw [h2]; rfl⟩
  · exact .inr (.inl ⟨h1, h2, h3, h4, by unfold retR; rw [h3]; rfl⟩)
  · refine .inr (.inr ⟨i, hi, h1, h2, h3, h4, ?_⟩)
    unfold retR
    rw [if_pos h3, h4, Int.toNat_natCast, atL_at xs i hi]
theorem OwnL.of {w : World} {base base' n : Nat} {v : Value} {cs : List Value} {zs : List Ln} (h : w.ownsRow base' 63 4 v n cs) (hb : base ≤ base') (hn : n = zs.length) (hc : cs = zs.flatMap cellsL) : OwnL w base v zs := by
  subst hn hc
  exact ownsRow_le h hb

set_option maxRecDepth 100000 in
set_option maxHeartbeats 6400000 in
theorem ReturnI_any (B b o c : Nat) (xs : List Ln) (s : ByteArray) (d : Int) (w : World) (h : RdL w B (.slice (some ⟨b, o, none⟩) xs.length c) xs) (hB : B ≤ w.heap.size) (hl : xs.length ≤ 1048576) (hsm : ∀ x ∈ xs, smL x) (hc : xs.length ≤ c) (hc2 : c ≤ maxLen) :
    Calls Try.prog 48 #[.slice (some ⟨b, o, none⟩) xs.length c, .string s, .int .i64 d] w (RetLn (askLc xs s d) (retR xs s d) w) := by
  have HV := Lib.hid (ValidLoansI_any B (.slice (some ⟨b, o, none⟩) xs.length c) xs w h hB hl hsm (fun A n c' e => by injection e with _ e2 e3; exact ⟨by omega, by omega⟩))
  have HA := Lib.hid (fun wx hx hz => loanAt_any B (.slice (some ⟨b, o, none⟩) xs.length c) xs s d wx hx hz hl)
  have hcs := ret_cases xs s d
  generalize askLc xs s d = C at *
  generalize retR xs s d = R at *
  have H := Lib.hid h
  clear h hsm
  rcases hcs with ⟨g1, g2, _, g3⟩ | ⟨g1, g2, g3, _, g4⟩ | ⟨i, hi, g1, g2, g3, _, g4⟩
  · have Hf := Lib.hid (And.intro g2 g3)
    rw [g1] at HV
    clear g1 g2 g3
    go_enter Try.func48, Try.ntmps48
    go_wp2_with fail
    refine HV.out.mono ?_; rintro e w1 ⟨rfl, hb1⟩
    go_wp2_with fail
    go_ret2
    exact RetLn_no Hf.out hb1
  · have Hf := Lib.hid (And.intro g3 g4)
    rw [g1] at HV
    rw [g2] at HA
    clear g1 g2 g3 g4
    go_enter Try.func48, Try.ntmps48
    go_wp2_with fail
    refine HV.out.mono ?_; rintro e w1 ⟨rfl, hb1⟩
    go_wp2_with fail
    refine (HA.out _ (H.out.below (hb1.mono hB)) (Nat.le_trans hB hb1.size)).mono ?_; rintro e w2 ⟨rfl, hb2⟩
    go_wp2_with fail
    go_ret2
    exact RetLn_no Hf.out (hb1.trans (hb2.mono hb1.size))
  · have Hf := Lib.hid (And.intro g3 g4)
    rw [g1] at HV
    rw [g2] at HA
    have hi' : (i : Int) < (xs.length : Int) := by omega
    have hi0 : ¬ ((i : Int) < 0) := by omega
    have Hfl := Lib.hid (show (xs.flatMap cellsL).length = xs.length * 4 from flat_len cellsL 4 (fun _ => rfl) xs)
    simp only [maxLen] at hc2
    clear g1 g2 g3 g4
    go_enter Try.func48, Try.ntmps48
    go_wp2_with fail
    refine HV.out.mono ?_; rintro e w1 ⟨rfl, hb1⟩
    go_wp2_with fail
    refine (HA.out _ (H.out.below (hb1.mono hB)) (Nat.le_trans hB hb1.size)).mono ?_; rintro e w2 ⟨rfl, hb2⟩
    have hbl := hb1.trans (hb2.mono hb1.size)
    have ho0 := Lib.hid (World.ownsRow_made (base := w.heap.size) (e := 63) (size := 4) w2 #[] 0 hbl.size (by simp [maxLen]) rfl)
    have hba := Lib.hid (hbl.alloc hbl.size (.cells #[] 63))
    have HLb := Lib.hid (H.out.below (hba.out.mono hB))
    clear hb1 hb2 hbl
    go_wp2_with (at_builtin; refine wpList_apr 59 63 _ 4 48 Try.underlying59 infoL rfl (by omega) _ _ rfl rfl w.heap.size _ 0 _ rfl ho0.out b o xs.length _ (xs.flatMap cellsL) rfl Hfl.out HLb.out.cells (cellsL_one _) (by simp [maxLen]; omega) (by omega) hba.out.size ?_; intro v7 w7 hown7 hg7; have Hb7 := Lib.hid (below_apd hba.out ho0.out hg7 (Nat.le_refl _) hba.out.size); simp only [Nat.zero_add, List.nil_append] at hown7; obtain ⟨g, cap, rfl⟩ := own_pos hown7 (by omega); obtain ⟨u3, hc3, hf3⟩ := own_cell hown7 (i * 4 + 3) (by omega); have Ho8 := Lib.hid (hown7.stored (i * 4 + 3) (.int .i64 d)).1; have Hb8 := Lib.hid (Hb7.out.setCell (p := ⟨g, i * 4 + 3, none⟩) (hown7.lt _ rfl).1 (.int .i64 d)); clear hown7 hg7)
    go_ret2
    exact RetLn_yes Hf.out (OwnL.of Ho8.out (Nat.le_refl _) (by simp) (flat_setT xs d i hi)) Hb8.out

set_option maxRecDepth 100000 in
set_option maxHeartbeats 6400000 in
theorem ReturnS_any (B b o c : Nat) (xs : List Ln) (s : ByteArray) (d : Int) (w : World) (h : RdL w B (.slice (some ⟨b, o, none⟩) xs.length c) xs) (hB : B ≤ w.heap.size) (hl : xs.length ≤ 1048576) (hsm : ∀ x ∈ xs, smL x) :
    Calls Try.prog 47 #[.slice (some ⟨b, o, none⟩) xs.length c, .string s, .int .i64 d] w (RetLn (askLc xs s d) (retR xs s d) w) := by
  have HA := Lib.hid (l23Ask_any B (.slice (some ⟨b, o, none⟩) xs.length c) xs s d w h hl hsm)
  have hcs := ret_cases xs s d
  generalize askLc xs s d = C at *
  generalize askLi xs s d = I at *
  generalize retR xs s d = R at *
  have H := Lib.hid h
  clear h hsm
  have hb00 := Lib.hid (Below.refl w.heap.size w)
  rcases hcs with ⟨g1, g2, g0, g3⟩ | ⟨g1, g2, g3, g0, g4⟩ | ⟨i, hi, g1, g2, g3, g0, g4⟩
  · have Hf := Lib.hid (And.intro g2 g3)
    rw [g2, g0] at HA
    clear g0 g1 g2 g3
    go_enter Try.func47, Try.ntmps47
    go_wp2_with fail
    refine HA.out.mono ?_; rintro e w1 ⟨rfl, n1, rfl⟩
    go_wp2_with fail
    go_ret2
    exact RetLn_no Hf.out (below_drewN hb00.out n1)
  · have Hf := Lib.hid (And.intro g3 g4)
    rw [g3, g0] at HA
    clear g0 g1 g2 g3 g4
    go_enter Try.func47, Try.ntmps47
    go_wp2_with fail
    refine HA.out.mono ?_; rintro e w1 ⟨rfl, n1, rfl⟩
    go_wp2_with fail
    go_ret2
    exact RetLn_no Hf.out (below_drewN hb00.out n1)
  · have Hf := Lib.hid (And.intro g3 g4)
    rw [g3, g0] at HA
    have hi' : (i : Int) < (xs.length : Int) := by omega
    have Hfl := Lib.hid (show (xs.flatMap cellsL).length = xs.length * 4 from flat_len cellsL 4 (fun _ => rfl) xs)
    clear g0 g1 g2 g3 g4
    go_enter Try.func47, Try.ntmps47
    go_wp2_with fail
    refine HA.out.mono ?_; rintro e w1 ⟨rfl, n1, rfl⟩
    have hbl := below_drewN hb00.out n1
    generalize w.drewN n1 = w2 at *
    have ho0 := Lib.hid (World.ownsRow_made (base := w.heap.size) (e := 63) (size := 4) w2 #[] 0 hbl.size (by simp [maxLen]) rfl)
    have hba := Lib.hid (hbl.alloc hbl.size (.cells #[] 63))
    have HLb := Lib.hid (H.out.below (hba.out.mono hB))
    clear hbl
    go_wp2_with (at_builtin; refine wpList_apr 59 63 _ 4 48 Try.underlying59 infoL rfl (by omega) _ _ rfl rfl w.heap.size _ 0 _ rfl ho0.out b o xs.length _ (xs.flatMap cellsL) rfl Hfl.out HLb.out.cells (cellsL_one _) (by simp [maxLen]; omega) (by omega) hba.out.size ?_; intro v7 w7 hown7 hg7; have Hb7 := Lib.hid (below_apd hba.out ho0.out hg7 (Nat.le_refl _) hba.out.size); simp only [Nat.zero_add, List.nil_append] at hown7; obtain ⟨g, cap, rfl⟩ := own_pos hown7 (by omega); have Hown7 := Lib.hid hown7; clear hown7 hg7; obtain ⟨q0, q1, q2, q3⟩ := own_loan Hown7.out i hi; have ho8 := own_below Hown7.out ((Below.refl w7.heap.size w7).alloc (Nat.le_refl _) (.cells #[.string xs[i].what, .string xs[i].who, .int .i64 xs[i].from_, .int .i64 d] 63)); have hB7 := (ho8.lt _ rfl).1; have Hb8 := Lib.hid ((((((Hb7.out.alloc Hb7.out.size (.cells #[.string xs[i].what, .string xs[i].who, .int .i64 xs[i].from_, .int .i64 d] 63)).setCell (p := ⟨g, i * 4, none⟩) hB7 (.string xs[i].what)).setCell (p := ⟨g, i * 4 + 1, none⟩) hB7 (.string xs[i].who)).setCell (p := ⟨g, i * 4 + 2, none⟩) hB7 (.int .i64 xs[i].from_)).setCell (p := ⟨g, i * 4 + 3, none⟩) hB7 (.int .i64 d))); obtain ⟨u0, p0, f0⟩ := own_cell ho8 (i * 4) (by omega); obtain ⟨u1, p1, f1⟩ := own_cell ho8 (i * 4 + 1) (by omega); obtain ⟨u2, p2, f2⟩ := own_cell ho8 (i * 4 + 2) (by omega); obtain ⟨u3, p3, f3⟩ := own_cell ho8 (i * 4 + 3) (by omega); have Ho9 := Lib.hid ((((ho8.stored (i * 4) (.string xs[i].what)).1.stored (i * 4 + 1) (.string xs[i].who)).1.stored (i * 4 + 2) (.int .i64 xs[i].from_)).1.stored (i * 4 + 3) (.int .i64 d)).1; clear ho8 Hown7 Hb7)
    go_ret2
    exact RetLn_yes Hf.out (OwnL.of Ho9.out (Nat.le_refl _) (by simp) (flat_set4 xs i hi _ _ _ _)) Hb8.out
end Go.Proofs.Ytfaoilonkonmkaa
