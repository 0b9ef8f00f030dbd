/- A program's lines, read, part 7: l11Read (reference). -/
import Derived.Test.YtjkjlpjeamifbaaDoorCp6
namespace Go.Proofs.YtjkjlpjeamifbaaDoor
open Go.RowKit Go.Joins

theorem step_cases (op D : Int) (h0 : 0 ≤ D) (h4 : D ≤ 4) :
    (opens op = true ∧ (op == 10) = false ∧ (4 : Int) < D + 1 ∧ ¬ D + 1 < 0 ∧ stepF op D = 5) ∨ (opens op = true ∧ (op == 10) = false ∧ ¬ (4 : Int) < D + 1 ∧ ¬ D + 1 < 0 ∧ stepF op D = 0 ∧ stepV op D = D + 1) ∨
    (opens op = false ∧ (op == 10) = true ∧ D - 1 < 0 ∧ stepF op D = 4) ∨ (opens op = false ∧ (op == 10) = true ∧ ¬ D - 1 < 0 ∧ ¬ (4 : Int) < D - 1 ∧ stepF op D = 0 ∧ stepV op D = D - 1) ∨
    (opens op = false ∧ (op == 10) = false ∧ ¬ D < 0 ∧ ¬ (4 : Int) < D ∧ stepF op D = 0 ∧ stepV op D = D) := by
  by_cases h10 : op = 10
  · subst h10
    by_cases hd : D = 0
    · subst hd
      exact .inr (.inr (.inl ⟨rfl, rfl, by omega, rfl⟩))
    · exact .inr (.inr (.inr (.inl ⟨rfl, rfl, by omega, by omega, by simp [stepF, hd], by simp [stepV, hd]⟩)))
  · have hb : (op == 10) = false := by simpa using h10
    by_cases h89 : op = 8 ∨ op = 9
    · have ho : opens op = true := decide_eq_true h89
      by_cases hd : D = 4
      · exact .inl ⟨ho, hb, by omega, by omega, by simp [stepF, h10, h89, hd]⟩
      · exact .inr (.inl ⟨ho, hb, by omega, by omega, by simp [stepF, h10, h89, hd], by simp [stepV, h10, h89, hd]⟩)
    · have ho : opens op = false := decide_eq_false h89
      exact .inr (.inr (.inr (.inr ⟨ho, hb, by omega, by omega, by simp [stepF, h10, h89], by simp [stepV, h10, h89]⟩)))

set_option maxRecDepth 100000 in
set_option maxHeartbeats 3200000 in
theorem l11Read_any (B : Nat) (v : Value) (zs : List ByteArray) (w : World) (h : Rd w B v zs.length 1 (strs zs)) (hB : B ≤ w.heap.size) (hl : zs.length ≤ 1048576) (hz : ∀ z ∈ zs, z.size ≤ 1048576) :
    Calls Tryd.prog 45 #[v] w (RetLs w zs) := by
  have H := Lib.hid h
  have Hz := Lib.hid hz
  obtain ⟨_, A, c, rfl, _⟩ := h
  have hb0 := Lib.hid ((Below.refl w.heap.size w).alloc (Nat.le_refl _) (.cells #[] 70))
  have ho0 := Lib.hid (World.ownsRow_made (base := w.heap.size) (e := 70) (size := 2) w #[] 0 (Nat.le_refl _) (by simp [maxLen]) rfl)
  clear hz
  go_enter Tryd.func45, Tryd.ntmps45
  go_wp2_with fail
  go_loopw [5, 6, 7] (fun o d i wr => ∃ (k : Nat) (D : Int), k ≤ zs.length ∧ i = .int .i64 (k : Int) ∧ d = .int .i64 D ∧ 0 ≤ D ∧ D ≤ 4 ∧ rdL 0 0 zs = rdL D k (zs.drop k) ∧ wr.ownsRow w.heap.size 70 2 o k (progs ((zs.take k).map opOf)) ∧ Below w.heap.size w wr) (fun _ _ i _ => zs.length - (intOf i).toNat)
  case atStart => exact ⟨0, 0, Nat.zero_le _, rfl, rfl, by omega, by omega, rfl, ho0.out, hb0.out⟩
  case round =>
    obtain ⟨k, D, hk, rfl, rfl, hD0, hD4, hrd, hown, hbl⟩ := hrel
    have Hrd := Lib.hid hrd
    have Hown := Lib.hid hown
    have Hbl := Lib.hid hbl
    clear hrd
    by_cases hlt : k < zs.length
    · obtain ⟨_, b1, o1, hA, e1⟩ := rd_at (H.out.below (hbl.mono hB)) k hlt
      subst hA
      have hlt' : (k : Int) < (zs.length : Int) := by omega
      have Hst := Lib.hid (rdL_at zs k hlt D)
      have Hnx := Lib.hid (progs_next zs k hlt)
      have hzk := Hz.out zs[k] (List.getElem_mem hlt)
      have HL := Lib.hid (l11Line_any zs[k] wr (by omega))
      unfold RetRl at HL
      generalize rl zs[k] = x at *
      generalize zs[k] = s at *
      obtain ⟨op, a, ft⟩ := x
      dsimp only at Hst Hnx HL
      have HO := Lib.hid (fun wx => l11Opens_any op wx)
      clear hown hbl
      go_wp2_with fail
      refine HL.out.mono ?_; rintro e w6 ⟨rfl, hb6⟩
      have Hb6 := Lib.hid (Hbl.out.trans (hb6.mono Hbl.out.size))
      have Ho6 := Lib.hid (own_below Hown.out hb6)
      clear hb6 Hown Hbl HL e1
      by_cases hf : ft = 0
      · subst hf
        have hst := Hst.out
        rw [if_neg (by simp)] at hst
        have Hb7 := Lib.hid (Hb6.out.alloc Hb6.out.size (.cells #[.int .i64 op, .int .i64 a] 70))
        have Hnw := Lib.hid (heap_alloc_new w6 (.cells #[.int .i64 op, .int .i64 a] 70))
        have Ho7 := Lib.hid (own_below Ho6.out ((Below.refl w6.heap.size w6).alloc (Nat.le_refl _) (.cells #[.int .i64 op, .int .i64 a] 70)))
        obtain ⟨c0, c1⟩ := blkp Hnw.out
        have hlw : w6.heap.size < (w6.alloc (.cells #[.int .i64 op, .int .i64 a] 70)).heap.size := by simp
        rcases step_cases op D hD0 hD4 with ⟨ho, q1, q2, q3, hF⟩ | ⟨ho, q1, q2, q3, hF, hV⟩ | ⟨ho, q1, q2, hF⟩ | ⟨ho, q1, q2, q3, hF, hV⟩ | ⟨ho, q1, q2, q3, hF, hV⟩
        · have hfin := Lib.hid ((Hrd.out.trans hst).trans (if_pos (by rw [hF]; decide)))
          rw [hF] at hfin
          rw [ho] at HO
          clear hst Hst ho hF
          go_wp2_with fail
          refine (HO.out _).mono ?_; rintro e w8 ⟨rfl, rfl⟩
          go_wp2_with fail
          go_ret3
          exact RetLs.bad hfin.out (by decide) Hb7.out
        · have Hst2 := Lib.hid (hst.trans (if_neg (by rw [hF]; simp)))
          rw [hV] at Hst2
          have hsb := step_bd op D hD0 hD4
          rw [hV] at hsb
          rw [ho] at HO
          clear hst Hst ho hF hV
          go_wp2_with fail
          refine (HO.out _).mono ?_; rintro e w8 ⟨rfl, rfl⟩
          have hz8 := Hb7.out.size
          have Hon := Lib.hid (ones2 op a)
          generalize w6.alloc (.cells #[.int .i64 op, .int .i64 a] 70) = w8 at *
          go_wp2_with (at_builtin; refine wpList_apd 35 70 _ 2 16 Tryd.underlying35 infoP rfl (by omega) _ _ rfl rfl w.heap.size _ k _ rfl Ho7.out #[.int .i64 op, .int .i64 a] 1 1 rfl rfl Hon.out (by simp [maxLen]; omega) (by omega) hz8 ?_; intro v9 w9 hown9 hg9; have Hb9 := Lib.hid (below_apd Hb7.out Ho7.out hg9 (Nat.le_refl _) hz8); have Ho9 := Lib.hid hown9; clear hown9 hg9)
          go_roundw
          case rel => exact ⟨k + 1, D + 1, by omega, by go_num, by go_num, hsb.1, hsb.2, by rw [Hrd.out, Hst2.out], by rw [← Hnx.out]; exact Ho9.out, Hb9.out⟩
          case measure => simp [intOf]; omega
        · have hfin := Lib.hid ((Hrd.out.trans hst).trans (if_pos (by rw [hF]; decide)))
          rw [hF] at hfin
          rw [ho] at HO
          clear hst Hst ho hF
          go_wp2_with fail
          refine (HO.out _).mono ?_; rintro e w8 ⟨rfl, rfl⟩
          go_wp2_with fail
          go_ret3
          exact RetLs.bad hfin.out (by decide) Hb7.out
        · have Hst2 := Lib.hid (hst.trans (if_neg (by rw [hF]; simp)))
          rw [hV] at Hst2
          have hsb := step_bd op D hD0 hD4
          rw [hV] at hsb
          rw [ho] at HO
          clear hst Hst ho hF hV
          go_wp2_with fail
          refine (HO.out _).mono ?_; rintro e w8 ⟨rfl, rfl⟩
          have hz8 := Hb7.out.size
          have Hon := Lib.hid (ones2 op a)
          generalize w6.alloc (.cells #[.int .i64 op, .int .i64 a] 70) = w8 at *
          go_wp2_with (at_builtin; refine wpList_apd 35 70 _ 2 16 Tryd.underlying35 infoP rfl (by omega) _ _ rfl rfl w.heap.size _ k _ rfl Ho7.out #[.int .i64 op, .int .i64 a] 1 1 rfl rfl Hon.out (by simp [maxLen]; omega) (by omega) hz8 ?_; intro v9 w9 hown9 hg9; have Hb9 := Lib.hid (below_apd Hb7.out Ho7.out hg9 (Nat.le_refl _) hz8); have Ho9 := Lib.hid hown9; clear hown9 hg9)
          go_roundw
          case rel => exact ⟨k + 1, D - 1, by omega, by go_num, by go_num, hsb.1, hsb.2, by rw [Hrd.out, Hst2.out], by rw [← Hnx.out]; exact Ho9.out, Hb9.out⟩
          case measure => simp [intOf]; omega
        · have Hst2 := Lib.hid (hst.trans (if_neg (by rw [hF]; simp)))
          rw [hV] at Hst2
          have hsb := step_bd op D hD0 hD4
          rw [hV] at hsb
          rw [ho] at HO
          clear hst Hst ho hF hV
          go_wp2_with fail
          refine (HO.out _).mono ?_; rintro e w8 ⟨rfl, rfl⟩
          have hz8 := Hb7.out.size
          have Hon := Lib.hid (ones2 op a)
          generalize w6.alloc (.cells #[.int .i64 op, .int .i64 a] 70) = w8 at *
          go_wp2_with (at_builtin; refine wpList_apd 35 70 _ 2 16 Tryd.underlying35 infoP rfl (by omega) _ _ rfl rfl w.heap.size _ k _ rfl Ho7.out #[.int .i64 op, .int .i64 a] 1 1 rfl rfl Hon.out (by simp [maxLen]; omega) (by omega) hz8 ?_; intro v9 w9 hown9 hg9; have Hb9 := Lib.hid (below_apd Hb7.out Ho7.out hg9 (Nat.le_refl _) hz8); have Ho9 := Lib.hid hown9; clear hown9 hg9)
          go_roundw
          case rel => exact ⟨k + 1, D, by omega, by go_num, by go_num, hsb.1, hsb.2, by rw [Hrd.out, Hst2.out], by rw [← Hnx.out]; exact Ho9.out, Hb9.out⟩
          case measure => simp [intOf]; omega
      · have hfin := Lib.hid ((Hrd.out.trans Hst.out).trans (if_pos (by simp [hf])))
        have hne : (ft != 0) = true := by simp [hf]
        have Hb7 := Lib.hid (Hb6.out.alloc Hb6.out.size (.cells #[.int .i64 op, .int .i64 a] 70))
        clear Hst
        go_wp2_with fail
        go_ret3
        exact RetLs.bad hfin.out hf Hb7.out
    · have hkk : k = zs.length := by omega
      subst hkk
      have hend := (Hrd.out).trans (rdL_end zs zs.length (Nat.le_refl _) D)
      rw [List.take_length] at hown
      have Hend := Lib.hid hend
      clear hend hown
      have hlt' : ¬ (zs.length : Int) < (zs.length : Int) := by omega
      by_cases hd : 0 < D
      · have hfin := Lib.hid (Hend.out.trans (if_pos hd))
        clear Hend
        go_wp2_with fail
        go_ret3
        exact RetLs.bad hfin.out (by decide) hbl
      · have hfin := Lib.hid (Hend.out.trans (if_neg hd))
        clear Hend
        go_wp2_with fail
        go_ret3
        exact RetLs.good hfin.out (by have := Hown.out; rwa [List.take_length] at this) hbl
end Go.Proofs.YtjkjlpjeamifbaaDoor
