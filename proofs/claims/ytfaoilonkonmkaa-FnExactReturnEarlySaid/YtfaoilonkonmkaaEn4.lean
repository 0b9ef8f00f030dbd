/- Entries, part 4: SameEntries on both sides. -/
import Derived.Test.YtfaoilonkonmkaaEn3
namespace Go.Proofs.Ytfaoilonkonmkaa
open Go.RowKit Go.Joins

/-- where two entries part first -/
theorem ent_cases (x y : Ent) : x = y ∨
    (x ≠ y ∧ ((x.num != y.num) = true ∨ (x.num = y.num ∧ (x.name.toList != y.name.toList) = true ∧ (x.name.toList == y.name.toList) = false) ∨ (x.num = y.num ∧ x.name = y.name ∧ (x.maker.toList != y.maker.toList) = true ∧ (x.maker.toList == y.maker.toList) = false) ∨
      (x.num = y.num ∧ x.name = y.name ∧ x.maker = y.maker ∧ (x.year != y.year) = true) ∨ (x.num = y.num ∧ x.name = y.name ∧ x.maker = y.maker ∧ x.year = y.year ∧ decide (x.words = y.words) = false))) := by
  have hbn : ∀ a b : ByteArray, a ≠ b → (a.toList != b.toList) = true ∧ (a.toList == b.toList) = false := fun a b h =>
    ⟨bne_iff_ne.2 fun e => h (ba_inj e), beq_eq_false_iff_ne.2 fun e => h (ba_inj e)⟩
  by_cases h : x = y
  · exact .inl h
  · refine .inr ⟨h, ?_⟩
    by_cases h1 : x.num = y.num
    · by_cases h2 : x.name = y.name
      · by_cases h3 : x.maker = y.maker
        · by_cases h4 : x.year = y.year
          · refine .inr (.inr (.inr (.inr ⟨h1, h2, h3, h4, ?_⟩)))
            rw [decide_eq_false_iff_not]
            intro h5
            exact h (by obtain ⟨a, b, c, d, e⟩ := x; obtain ⟨a', b', c', d', e'⟩ := y; simp_all)
          · exact .inr (.inr (.inr (.inl ⟨h1, h2, h3, bne_iff_ne.2 h4⟩)))
        · exact .inr (.inr (.inl ⟨h1, h2, hbn _ _ h3⟩))
      · exact .inr (.inl ⟨h1, hbn _ _ h2⟩)
    · exact .inl (bne_iff_ne.2 h1)

theorem ents_bad {xs ys : List Ent} (k : Nat) (hx : k < xs.length) (hy : k < ys.length) (h : xs[k] ≠ ys[k]) : decide (xs = ys) = false := by
  rw [decide_eq_false_iff_not]
  intro e
  subst e
  exact h rfl
theorem ents_step {xs ys : List Ent} (k : Nat) (hx : k < xs.length) (hy : k < ys.length) (h0 : xs.take k = ys.take k) (h : xs[k] = ys[k]) : xs.take (k + 1) = ys.take (k + 1) := by
  rw [List.take_succ_eq_append_getElem hx, List.take_succ_eq_append_getElem hy, h0, h]

set_option maxRecDepth 100000 in
set_option maxHeartbeats 3200000 in
theorem SameI_any (B : Nat) (v1 v2 : Value) (xs ys : List Ent) (w : World) (h1 : RdE w B v1 xs) (h2 : RdE w B v2 ys) (hB : B ≤ w.heap.size) (hl : xs.length ≤ 1048576) (hws : ∀ x ∈ xs, x.words.length ≤ 1048576) :
    Calls Try.prog 34 #[v1, v2] w fun e w' => e = .returned (.bool (decide (xs = ys))) ∧ Below w.heap.size w w' := by
  have H1 := Lib.hid h1
  have H2 := Lib.hid h2
  have Hws := Lib.hid hws
  obtain ⟨A1, c1, rfl⟩ := h1.slice
  obtain ⟨A2, c2, rfl⟩ := h2.slice
  clear h1 h2 hws
  have hb0 := Below.refl w.heap.size w
  rcases Decidable.em (xs.length = ys.length) with hlen | hlen
  rotate_left
  · have hq : ((xs.length : Int) != (ys.length : Int)) = true := by rw [bne_iff_ne]; omega
    have hfin := Lib.hid (show decide (xs = ys) = false by rw [decide_eq_false_iff_not]; exact fun e => hlen (by rw [e]))
    clear hlen
    go_enter Try.func34, Try.ntmps34
    go_wp2_with fail
    go_ret
    rw [hfin.out]; exact ⟨rfl, hb0⟩
  · have hq : ((xs.length : Int) != (ys.length : Int)) = false := by simp; omega
    have Hlen := Lib.hid hlen; clear hlen
    go_enter Try.func34, Try.ntmps34
    go_wp2_with fail
    go_loopw [15] (fun i wr => ∃ k : Nat, k ≤ xs.length ∧ xs.take k = ys.take k ∧ i = .int .i64 k ∧ Below w.heap.size w wr) (fun i _ => xs.length - (intOf i).toNat)
    case atStart => exact ⟨0, Nat.zero_le _, rfl, rfl, hb0⟩
    case round =>
      obtain ⟨k, hk, htk, rfl, hbl⟩ := hrel
      have Htk := Lib.hid htk; clear htk
      by_cases hlt : k < xs.length
      · have hlt2 : k < ys.length := by have := Hlen.out; omega
        obtain ⟨b1, o1, A3, c3, hA1, hE1⟩ := (H1.out.below (hbl.mono hB)).at k hlt
        obtain ⟨b2, o2, A4, c4, hA2, hE2⟩ := (H2.out.below (hbl.mono hB)).at k hlt2
        subst hA1 hA2
        have hwl := Hws.out xs[k] (List.getElem_mem hlt)
        have Hbad := Lib.hid (ents_bad k hlt hlt2)
        have Hst := Lib.hid (ents_step k hlt hlt2 Htk.out)
        generalize xs[k] = x at *
        generalize ys[k] = y at *
        have hlt' : (k : Int) < (xs.length : Int) := by omega
        have hlt2' : (k : Int) < (ys.length : Int) := by omega
        have hzB : B ≤ wr.heap.size := Nat.le_trans hB hbl.size
        rcases ent_cases x y with hxy | ⟨hne, hcs⟩
        · subst hxy
          have hst := Lib.hid (Hst.out rfl)
          obtain ⟨num, name, maker, year, words⟩ := x
          obtain ⟨hbB1, e0, e1, e2, e3, e4, ew⟩ := hE1
          obtain ⟨hbB2, f0, f1, f2, f3, f4, fw⟩ := hE2
          dsimp only at e0 e1 e2 e3 e4 f0 f1 f2 f3 f4 hwl ew fw
          have hz1 : b1 < wr.heap.size := by omega
          have hz2 : b2 < wr.heap.size := by omega
          have hba := Lib.hid (((Below.refl wr.heap.size wr).alloc (Nat.le_refl _) (.cells #[.int .i64 num, .string name, .string maker, .int .i64 year, .slice A3 words.length c3] 124)).alloc (by simp) (.cells #[.int .i64 num, .string name, .string maker, .int .i64 year, .slice A4 words.length c4] 124))
          have HS := Lib.hid (sameWords_any B B (.slice A3 words.length c3) (.slice A4 words.length c4) words words _ (ew.below (hba.out.mono hzB)) (fw.below (hba.out.mono hzB)) (by omega))
          rw [decide_eq_true (show words = words from rfl)] at HS
          have hb2 := Lib.hid (fun n => below_drewN (hbl.trans (hba.out.mono hbl.size)) n)
          clear Hbad Hst ew fw hba hbl
          go_wp2_with fail
          refine HS.out.mono ?_; rintro e w1 ⟨rfl, n, rfl⟩
          go_wp2_with fail
          go_roundw
          case rel => exact ⟨k + 1, by omega, hst.out, by go_num, hb2.out _⟩
          case measure => simp [intOf]; omega
        · have hfin := Lib.hid (Hbad.out hne)
          obtain ⟨num, name, maker, year, words⟩ := x
          obtain ⟨num2, name2, maker2, year2, words2⟩ := y
          obtain ⟨hbB1, e0, e1, e2, e3, e4, ew⟩ := hE1
          obtain ⟨hbB2, f0, f1, f2, f3, f4, fw⟩ := hE2
          dsimp only at e0 e1 e2 e3 e4 f0 f1 f2 f3 f4 hwl ew fw hcs
          have hz1 : b1 < wr.heap.size := by omega
          have hz2 : b2 < wr.heap.size := by omega
          have hba := Lib.hid (((Below.refl wr.heap.size wr).alloc (Nat.le_refl _) (.cells #[.int .i64 num, .string name, .string maker, .int .i64 year, .slice A3 words.length c3] 124)).alloc (by simp) (.cells #[.int .i64 num2, .string name2, .string maker2, .int .i64 year2, .slice A4 words2.length c4] 124))
          have hb2 := Lib.hid (hbl.trans (hba.out.mono hbl.size))
          have HS := Lib.hid (sameWords_any B B (.slice A3 words.length c3) (.slice A4 words2.length c4) words words2 _ (ew.below (hba.out.mono hzB)) (fw.below (hba.out.mono hzB)) (by omega))
          clear Hbad Hst ew fw hba hbl hne
          rcases hcs with g1 | ⟨rfl, g2, g2'⟩ | ⟨rfl, rfl, g3, g3'⟩ | ⟨rfl, rfl, rfl, g4⟩ | ⟨rfl, rfl, rfl, rfl, g5⟩
          case inr.inr.inr.inr =>
            rw [g5] at HS
            clear g5
            go_wp2_with fail
            refine HS.out.mono ?_; rintro e w1 ⟨rfl, n, rfl⟩
            go_wp2_with fail
            go_ret
            rw [hfin.out]; exact ⟨rfl, below_drewN hb2.out n⟩
          all_goals
            go_wp2_with fail
            go_ret
            rw [hfin.out]; exact ⟨rfl, hb2.out⟩
      · have hfin := Lib.hid (show decide (xs = ys) = true by
          have := Htk.out
          rw [List.take_of_length_le (by omega), List.take_of_length_le (by have := Hlen.out; omega)] at this
          exact decide_eq_true this)
        have hlt' : (xs.length : Int) ≤ (k : Int) := by omega
        go_wp2_with fail
        go_ret
        rw [hfin.out]; exact ⟨rfl, hbl⟩

set_option maxRecDepth 100000 in
set_option maxHeartbeats 3200000 in
theorem SameS_any (B : Nat) (v1 v2 : Value) (xs ys : List Ent) (w : World) (h1 : RdE w B v1 xs) (h2 : RdE w B v2 ys) (hl : xs.length ≤ 1048576) (hws : ∀ x ∈ xs, x.words.length ≤ 1048576) :
    Calls Try.prog 32 #[v1, v2] w fun e w' => e = .returned (.bool (decide (xs = ys))) ∧ ∃ n, w' = w.drewN n := by
  have H1 := Lib.hid h1
  have H2 := Lib.hid h2
  have Hws := Lib.hid hws
  obtain ⟨A1, c1, rfl⟩ := h1.slice
  obtain ⟨A2, c2, rfl⟩ := h2.slice
  clear h1 h2 hws
  rcases Decidable.em (xs.length = ys.length) with hlen | hlen
  rotate_left
  · have hq : ((xs.length : Int) != (ys.length : Int)) = true := by rw [bne_iff_ne]; omega
    have hfin := Lib.hid (show decide (xs = ys) = false by rw [decide_eq_false_iff_not]; exact fun e => hlen (by rw [e]))
    clear hlen
    go_enter Try.func32, Try.ntmps32
    go_wp2_with fail
    go_ret
    rw [hfin.out]; exact ⟨rfl, 0, rfl⟩
  · have hq : ((xs.length : Int) != (ys.length : Int)) = false := by simp; omega
    have Hlen := Lib.hid hlen; clear hlen
    go_enter Try.func32, Try.ntmps32
    go_wp2_with fail
    go_loopw [5] (fun i wr => ∃ k m : Nat, k ≤ xs.length ∧ xs.take k = ys.take k ∧ i = .int .i64 k ∧ wr = w.drewN m) (fun i _ => xs.length - (intOf i).toNat)
    case atStart => exact ⟨0, 0, Nat.zero_le _, rfl, rfl, rfl⟩
    case round =>
      obtain ⟨k, m, hk, htk, rfl, hwr⟩ := hrel
      have Hw := Lib.hid (fun n => (show wr.drewN n = w.drewN (m + n) by rw [hwr, World.drewN_drewN]))
      have Hw0 := Lib.hid hwr
      have Htk := Lib.hid htk; clear htk
      by_cases hlt : k < xs.length
      · have hlt2 : k < ys.length := by have := Hlen.out; omega
        obtain ⟨b1, o1, A3, c3, hA1, hE1⟩ := (show RdE wr B _ xs by rw [hwr]; exact H1.out.drewN m).at k hlt
        obtain ⟨b2, o2, A4, c4, hA2, hE2⟩ := (show RdE wr B _ ys by rw [hwr]; exact H2.out.drewN m).at k hlt2
        subst hA1 hA2
        clear hwr
        have hwl := Hws.out xs[k] (List.getElem_mem hlt)
        have Hbad := Lib.hid (ents_bad k hlt hlt2)
        have Hst := Lib.hid (ents_step k hlt hlt2 Htk.out)
        generalize xs[k] = x at *
        generalize ys[k] = y at *
        have hlt' : (k : Int) < (xs.length : Int) := by omega
        have hlt2' : (k : Int) < (ys.length : Int) := by omega
        rcases ent_cases x y with hxy | ⟨hne, hcs⟩
        · subst hxy
          have hst := Lib.hid (Hst.out rfl)
          obtain ⟨num, name, maker, year, words⟩ := x
          obtain ⟨hbB1, e0, e1, e2, e3, e4, ew⟩ := hE1
          obtain ⟨hbB2, f0, f1, f2, f3, f4, fw⟩ := hE2
          dsimp only at e0 e1 e2 e3 e4 f0 f1 f2 f3 f4 hwl ew fw
          have HS := Lib.hid (fun n => l25Texts_any B B (.slice A3 words.length c3) (.slice A4 words.length c4) words words (wr.drewN n) (ew.drewN n) (fw.drewN n) (by omega))
          rw [decide_eq_true (show words = words from rfl)] at HS
          clear Hbad Hst ew fw
          go_wp2_with fail
          go_quiet ((go_at_call 91; exact Calls.quiet_of (HS.out _)))
          go_wp2_with fail
          go_roundw
          case rel => exact ⟨k + 1, _, by omega, hst.out, by go_num, Hw.out _⟩
          case measure => simp [intOf]; omega
        · have hfin := Lib.hid (Hbad.out hne)
          obtain ⟨num, name, maker, year, words⟩ := x
          obtain ⟨num2, name2, maker2, year2, words2⟩ := y
          obtain ⟨hbB1, e0, e1, e2, e3, e4, ew⟩ := hE1
          obtain ⟨hbB2, f0, f1, f2, f3, f4, fw⟩ := hE2
          dsimp only at e0 e1 e2 e3 e4 f0 f1 f2 f3 f4 hwl ew fw hcs
          have HS := Lib.hid (fun n => l25Texts_any B B (.slice A3 words.length c3) (.slice A4 words2.length c4) words words2 (wr.drewN n) (ew.drewN n) (fw.drewN n) (by omega))
          clear Hbad Hst ew fw hne
          rcases hcs with g1 | ⟨rfl, g2, g2'⟩ | ⟨rfl, rfl, g3, g3'⟩ | ⟨rfl, rfl, rfl, g4⟩ | ⟨rfl, rfl, rfl, rfl, g5⟩
          case inr.inr.inr.inr =>
            rw [g5] at HS
            clear g5
            go_wp2_with fail
            go_quiet ((go_at_call 91; exact Calls.quiet_of (HS.out _)))
            go_wp2_with fail
            go_ret
            rw [hfin.out]; exact ⟨rfl, _, Hw.out _⟩
          all_goals
            go_wp2_with fail
            go_quiet (fail)
            go_wp2_with fail
            go_ret
            rw [hfin.out]; exact ⟨rfl, _, Hw.out _⟩
      · clear hwr
        have hfin := Lib.hid (show decide (xs = ys) = true by
          have := Htk.out
          rw [List.take_of_length_le (by omega), List.take_of_length_le (by have := Hlen.out; omega)] at this
          exact decide_eq_true this)
        have hlt' : (xs.length : Int) ≤ (k : Int) := by omega
        go_wp2_with fail
        go_ret
        rw [hfin.out]; exact ⟨rfl, _, Hw0.out⟩
end Go.Proofs.Ytfaoilonkonmkaa
