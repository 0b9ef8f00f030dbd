/- Registers, part 8: the code of two registers. -/
import Derived.Test.YtfaoilonkonmkaaReg7
namespace Go.Proofs.Ytfaoilonkonmkaa
open Go.RowKit Go.Joins

theorem width_any (b : Int) (A : Option Addr) (n c : Nat) (w : World) :
    Calls Try.prog 136 #[.agg #[.int .i64 b, .slice A n c]] w fun e w' => e = .returned (.int .i64 n) ∧ Below w.heap.size w w' := by
  have hba := (Below.refl w.heap.size w).alloc (Nat.le_refl _) (.cells #[.int .i64 b, .slice A n c] 28)
  have Hba := Lib.hid hba; clear hba
  go_enter Try.func136, Try.ntmps136
  go_wp2_with fail
  go_ret
  exact ⟨rfl, Hba.out⟩

def codeTwo (b1 : Int) (z1 : List Int) (b2 : Int) (z2 : List Int) : Int :=
  if okReg b1 z1 = false then 1 else if okReg b2 z2 = false then 1 else if b1 ≠ b2 then 6 else if z1.length ≠ z2.length then 6 else 0
theorem codeTwo_cases (b1 : Int) (z1 : List Int) (b2 : Int) (z2 : List Int) : codeTwo b1 z1 b2 z2 = 0 ∨ codeTwo b1 z1 b2 z2 = 1 ∨ codeTwo b1 z1 b2 z2 = 6 := by
  unfold codeTwo; split
  · simp
  · split
    · simp
    · split
      · simp
      · split <;> simp
theorem codeTwo_ok {b1 : Int} {z1 : List Int} {b2 : Int} {z2 : List Int} (h : codeTwo b1 z1 b2 z2 = 0) : okReg b1 z1 = true ∧ okReg b2 z2 = true ∧ b1 = b2 ∧ z1.length = z2.length := by
  unfold codeTwo at h
  split at h
  · simp at h
  · split at h
    · simp at h
    · split at h
      · simp at h
      · split at h
        · simp at h
        · simp_all
theorem okReg_parts {b : Int} {zs : List Int} (h : okReg b zs = true) : 2 ≤ b ∧ b ≤ 16 ∧ digB b zs = true ∧ 1 ≤ zs.length ∧ zs.length ≤ 16 ∧ capV b zs ≤ 1000000000000 := by
  unfold okReg okD inB at h
  simp at h
  obtain ⟨⟨⟨h1, h2⟩, h3, h4, h5⟩, h6⟩ := h
  exact ⟨h1, h2, h3, by omega, by omega, h6⟩
theorem four_below {W w1 : World} {a b c d : Addr} {x y z t : Value} (hb : Below W.heap.size W w1) (h : W.cell? a = some x ∧ W.cell? b = some y ∧ W.cell? c = some z ∧ W.cell? d = some t) :
    w1.cell? a = some x ∧ w1.cell? b = some y ∧ w1.cell? c = some z ∧ w1.cell? d = some t :=
  have k {p : Addr} {v : Value} (h : W.cell? p = some v) : w1.cell? p = some v := (hb.cell (World.block_lt_of_cell? W _ h)).trans h
  ⟨k h.1, k h.2.1, k h.2.2.1, k h.2.2.2⟩

set_option maxRecDepth 100000 in
set_option maxHeartbeats 1600000 in
theorem l02Two_any (B g1 g2 : Nat) (b1 b2 : Int) (v1 v2 : Value) (z1 z2 : List Int) (w : World) (h10 : w.cell? ⟨g1, 0, none⟩ = some (.int .i64 b1)) (h11 : w.cell? ⟨g1, 1, none⟩ = some v1) (h20 : w.cell? ⟨g2, 0, none⟩ = some (.int .i64 b2)) (h21 : w.cell? ⟨g2, 1, none⟩ = some v2)
    (h1 : Rd w B v1 z1.length 1 (ints z1)) (h2 : Rd w B v2 z2.length 1 (ints z2)) (hl1 : z1.length ≤ 1048576) (hl2 : z2.length ≤ 1048576) :
    Calls Try.prog 71 #[.pointer (some ⟨g1, 0, none⟩), .pointer (some ⟨g2, 0, none⟩)] w fun e w' => e = .returned (.int .i64 (codeTwo b1 z1 b2 z2)) ∧ ∃ n, w' = w.drewN n := by
  have HA := Lib.hid (l02Ok_any B g1 b1 v1 z1 w h10 h11 h1 hl1)
  have HB := Lib.hid (fun n => l02Ok_any B g2 b2 v2 z2 (w.drewN n) h20 h21 h2 hl2)
  obtain ⟨_, A1, c1, rfl, _⟩ := h1
  obtain ⟨_, A2, c2, rfl, _⟩ := h2
  cases hk1 : okReg b1 z1 with
  | false =>
    have hfin := Lib.hid (show codeTwo b1 z1 b2 z2 = 1 by unfold codeTwo; rw [if_pos hk1])
    rw [hk1] at HA
    clear hk1
    go_enter Try.func71, Try.ntmps71
    go_wp2_with fail
    refine HA.out.mono ?_; rintro e w1 ⟨rfl, n, rfl⟩
    go_wp2_with fail
    go_ret
    rw [hfin.out]; exact ⟨rfl, _, rfl⟩
  | true =>
    cases hk2 : okReg b2 z2 with
    | false =>
      have hfin := Lib.hid (show codeTwo b1 z1 b2 z2 = 1 by unfold codeTwo; rw [hk1, hk2]; simp)
      rw [hk1] at HA
      rw [hk2] at HB
      clear hk1 hk2
      go_enter Try.func71, Try.ntmps71
      go_wp2_with fail
      refine HA.out.mono ?_; rintro e w1 ⟨rfl, n, rfl⟩
      go_wp2_with fail
      refine (HB.out _).mono ?_; rintro e w1 ⟨rfl, m, rfl⟩
      go_wp2_with fail
      go_ret
      rw [hfin.out]; exact ⟨rfl, _, rfl⟩
    | true =>
      have hbr : (b1 = b2 ∧ z1.length = z2.length) ∨ (b1 = b2 ∧ z1.length ≠ z2.length) ∨ b1 ≠ b2 := by omega
      rcases hbr with ⟨hb, hz⟩ | ⟨hb, hz⟩ | hb
      · have hfin := Lib.hid (show codeTwo b1 z1 b2 z2 = 0 by unfold codeTwo; rw [hk1, hk2]; simp [hb, hz])
        rw [hk1] at HA
        rw [hk2] at HB
        subst hb
        have hq1 : (b1 != b1) = false := by simp
        have hq2 : ((z1.length : Int) != (z2.length : Int)) = false := by simp; omega
        clear hk1 hk2 hz
        go_enter Try.func71, Try.ntmps71
        go_wp2_with fail
        refine HA.out.mono ?_; rintro e w1 ⟨rfl, n, rfl⟩
        go_wp2_with fail
        refine (HB.out _).mono ?_; rintro e w1 ⟨rfl, m, rfl⟩
        go_wp2_with fail
        go_quiet (fail)
        go_wp2_with fail
        go_ret
        rw [hfin.out]; exact ⟨rfl, n + m + nq, by simp [World.drewN_drewN]⟩
      · have hfin := Lib.hid (show codeTwo b1 z1 b2 z2 = 6 by unfold codeTwo; rw [hk1, hk2]; simp [hb, hz])
        rw [hk1] at HA
        rw [hk2] at HB
        subst hb
        have hq1 : (b1 != b1) = false := by simp
        have hq2 : ((z1.length : Int) != (z2.length : Int)) = true := by simp; omega
        clear hk1 hk2 hz
        go_enter Try.func71, Try.ntmps71
        go_wp2_with fail
        refine HA.out.mono ?_; rintro e w1 ⟨rfl, n, rfl⟩
        go_wp2_with fail
        refine (HB.out _).mono ?_; rintro e w1 ⟨rfl, m, rfl⟩
        go_wp2_with fail
        go_quiet (fail)
        go_wp2_with fail
        go_ret
        rw [hfin.out]; exact ⟨rfl, n + m + nq, by simp [World.drewN_drewN]⟩
      · have hfin := Lib.hid (show codeTwo b1 z1 b2 z2 = 6 by unfold codeTwo; rw [hk1, hk2]; simp [hb])
        rw [hk1] at HA
        rw [hk2] at HB
        have hq1 : (b1 != b2) = true := by simpa using hb
        clear hk1 hk2 hb
        go_enter Try.func71, Try.ntmps71
        go_wp2_with fail
        refine HA.out.mono ?_; rintro e w1 ⟨rfl, n, rfl⟩
        go_wp2_with fail
        refine (HB.out _).mono ?_; rintro e w1 ⟨rfl, m, rfl⟩
        go_wp2_with fail
        go_quiet (fail)
        go_wp2_with fail
        go_ret
        rw [hfin.out]; exact ⟨rfl, n + m + nq, by simp [World.drewN_drewN]⟩

set_option maxRecDepth 100000 in
set_option maxHeartbeats 1600000 in
theorem pairCode_any (B : Nat) (b1 b2 : Int) (v1 v2 : Value) (z1 z2 : List Int) (w : World) (h1 : Rd w B v1 z1.length 1 (ints z1)) (h2 : Rd w B v2 z2.length 1 (ints z2)) (hB : B ≤ w.heap.size) (hl1 : z1.length ≤ 1048576) (hl2 : z2.length ≤ 1048576) :
    Calls Try.prog 74 #[.agg #[.int .i64 b1, v1], .agg #[.int .i64 b2, v2]] w fun e w' => e = .returned (.int .i64 (codeTwo b1 z1 b2 z2)) ∧ Below w.heap.size w w' := by
  have HV1 := Lib.hid (fun wx hx hz => ValidRegister_any B b1 v1 z1 wx hx hz hl1)
  have HV2 := Lib.hid (fun wx hx hz => ValidRegister_any B b2 v2 z2 wx hx hz hl2)
  have H1 := Lib.hid h1
  have H2 := Lib.hid h2
  obtain ⟨_, A1, c1, rfl, _⟩ := h1
  obtain ⟨_, A2, c2, rfl, _⟩ := h2
  have hb0 := ((Below.refl w.heap.size w).alloc (Nat.le_refl _) (.cells #[.int .i64 b1, .slice A1 z1.length c1] 28)).alloc (by simp) (.cells #[.int .i64 b2, .slice A2 z2.length c2] 28)
  have hn2 : ((w.alloc (.cells #[.int .i64 b1, .slice A1 z1.length c1] 28)).alloc (.cells #[.int .i64 b2, .slice A2 z2.length c2] 28)).heap[w.heap.size + 1]? = some (.cells #[.int .i64 b2, .slice A2 z2.length c2] 28 (0, 0)) := by
    have := heap_alloc_new (w.alloc (.cells #[.int .i64 b1, .slice A1 z1.length c1] 28)) (.cells #[.int .i64 b2, .slice A2 z2.length c2] 28)
    simpa using this
  have hn1 : ((w.alloc (.cells #[.int .i64 b1, .slice A1 z1.length c1] 28)).alloc (.cells #[.int .i64 b2, .slice A2 z2.length c2] 28)).heap[w.heap.size]? = some (.cells #[.int .i64 b1, .slice A1 z1.length c1] 28 (0, 0)) :=
    (Below.heap_alloc _ _ _ (by simp)).trans (heap_alloc_new w _)
  have hzz : w.heap.size + 2 ≤ ((w.alloc (.cells #[.int .i64 b1, .slice A1 z1.length c1] 28)).alloc (.cells #[.int .i64 b2, .slice A2 z2.length c2] 28)).heap.size := by simp
  have Hb0 := Lib.hid hb0
  have Hn1 := Lib.hid hn1
  have Hn2 := Lib.hid hn2
  obtain ⟨r0, r1, _, _⟩ := blk2 hn1
  obtain ⟨r2, r3, _, _⟩ := blk2 hn2
  clear hb0 hn1 hn2
  cases hk1 : okReg b1 z1 with
  | false =>
    have hfin := Lib.hid (show codeTwo b1 z1 b2 z2 = 1 by unfold codeTwo; rw [if_pos hk1])
    rw [hk1] at HV1
    clear hk1
    go_enter Try.func74, Try.ntmps74
    go_wp2_with fail
    refine (HV1.out _ (H1.out.below (Hb0.out.mono hB)) (Nat.le_trans hB Hb0.out.size)).mono ?_; rintro e w1 ⟨rfl, hb1⟩
    go_wp2_with fail
    go_ret
    rw [hfin.out]; exact ⟨rfl, Hb0.out.trans (hb1.mono Hb0.out.size)⟩
  | true =>
    cases hk2 : okReg b2 z2 with
    | false =>
      have hfin := Lib.hid (show codeTwo b1 z1 b2 z2 = 1 by unfold codeTwo; rw [hk1, hk2]; simp)
      rw [hk1] at HV1
      rw [hk2] at HV2
      clear hk1 hk2
      go_enter Try.func74, Try.ntmps74
      go_wp2_with fail
      refine (HV1.out _ (H1.out.below (Hb0.out.mono hB)) (Nat.le_trans hB Hb0.out.size)).mono ?_; rintro e w1 ⟨rfl, hb1⟩
      have hb01 := Hb0.out.trans (hb1.mono Hb0.out.size)
      obtain ⟨r2, r3, _, _⟩ := blk2 ((hb1.block _ (by omega)).trans Hn2.out)
      go_wp2_with fail
      refine (HV2.out _ (H2.out.below (hb01.mono hB)) (Nat.le_trans hB hb01.size)).mono ?_; rintro e w2 ⟨rfl, hb2⟩
      go_wp2_with fail
      go_ret
      rw [hfin.out]; exact ⟨rfl, hb01.trans (hb2.mono hb01.size)⟩
    | true =>
      have hbr : (b1 = b2 ∧ z1.length = z2.length) ∨ (b1 = b2 ∧ z1.length ≠ z2.length) ∨ b1 ≠ b2 := by omega
      rcases hbr with ⟨hb, hz⟩ | ⟨hb, hz⟩ | hb
      · have hfin := Lib.hid (show codeTwo b1 z1 b2 z2 = 0 by unfold codeTwo; rw [hk1, hk2]; simp [hb, hz])
        rw [hk1] at HV1
        rw [hk2] at HV2
        subst hb
        have hq1 : (b1 != b1) = false := by simp
        have hq2 : ((z1.length : Int) != (z2.length : Int)) = false := by simp; omega
        clear hk1 hk2 hz
        go_enter Try.func74, Try.ntmps74
        go_wp2_with fail
        refine (HV1.out _ (H1.out.below (Hb0.out.mono hB)) (Nat.le_trans hB Hb0.out.size)).mono ?_; rintro e w1 ⟨rfl, hb1⟩
        have hb01 := Hb0.out.trans (hb1.mono Hb0.out.size)
        obtain ⟨r2, r3, _, _⟩ := blk2 ((hb1.block _ (by omega)).trans Hn2.out)
        have hz1 := hb1.size
        go_wp2_with fail
        refine (HV2.out _ (H2.out.below (hb01.mono hB)) (Nat.le_trans hB hb01.size)).mono ?_; rintro e w2 ⟨rfl, hb2⟩
        have hb02 := hb01.trans (hb2.mono hb01.size)
        have hz2 := hb2.size
        have hn1 := Lib.hid ((hb2.block w.heap.size (by omega)).trans ((hb1.block _ (by omega)).trans Hn1.out))
        have hn2 := Lib.hid ((hb2.block (w.heap.size + 1) (by omega)).trans ((hb1.block _ (by omega)).trans Hn2.out))
        clear r0 r1 r2 r3 hb1 hb2 hb01 Hb0 Hn1 Hn2
        obtain ⟨p0, p1, _, _⟩ := blk2 hn1.out
        obtain ⟨p2, p3, _, _⟩ := blk2 hn2.out
        have hzb : w.heap.size + 1 < w2.heap.size := by omega
        have hacc : Below w.heap.size w w2.drew := hb02.drew
        go_wp2_with fail
        go_region_held3 (fun w' => w'.cell? ⟨w.heap.size, 0, none⟩ = some (.int .i64 b1) ∧ w'.cell? ⟨w.heap.size, 1, none⟩ = some (.slice A1 z1.length c1) ∧ w'.cell? ⟨w.heap.size + 1, 0, none⟩ = some (.int .i64 b1) ∧ w'.cell? ⟨w.heap.size + 1, 1, none⟩ = some (.slice A2 z2.length c2))
          (first | go_keep | assumption)
          ((go_at_call 136; refine (width_any _ _ _ _ _).mono ?_; rintro e wq ⟨rfl, hbq⟩; have hSq := four_below hbq (by assumption); have hacc' := hacc.trans (hbq.mono hacc.size); clear hacc; have hacc := hacc'; clear hacc'))
        all_goals
          go_wp2_with fail
          go_ret
          rw [hfin.out]; exact ⟨rfl, hacc⟩
      · have hfin := Lib.hid (show codeTwo b1 z1 b2 z2 = 6 by unfold codeTwo; rw [hk1, hk2]; simp [hb, hz])
        rw [hk1] at HV1
        rw [hk2] at HV2
        subst hb
        have hq1 : (b1 != b1) = false := by simp
        have hq2 : ((z1.length : Int) != (z2.length : Int)) = true := by simp; omega
        clear hk1 hk2 hz
        go_enter Try.func74, Try.ntmps74
        go_wp2_with fail
        refine (HV1.out _ (H1.out.below (Hb0.out.mono hB)) (Nat.le_trans hB Hb0.out.size)).mono ?_; rintro e w1 ⟨rfl, hb1⟩
        have hb01 := Hb0.out.trans (hb1.mono Hb0.out.size)
        obtain ⟨r2, r3, _, _⟩ := blk2 ((hb1.block _ (by omega)).trans Hn2.out)
        have hz1 := hb1.size
        go_wp2_with fail
        refine (HV2.out _ (H2.out.below (hb01.mono hB)) (Nat.le_trans hB hb01.size)).mono ?_; rintro e w2 ⟨rfl, hb2⟩
        have hb02 := hb01.trans (hb2.mono hb01.size)
        have hz2 := hb2.size
        have hn1 := Lib.hid ((hb2.block w.heap.size (by omega)).trans ((hb1.block _ (by omega)).trans Hn1.out))
        have hn2 := Lib.hid ((hb2.block (w.heap.size + 1) (by omega)).trans ((hb1.block _ (by omega)).trans Hn2.out))
        clear r0 r1 r2 r3 hb1 hb2 hb01 Hb0 Hn1 Hn2
        obtain ⟨p0, p1, _, _⟩ := blk2 hn1.out
        obtain ⟨p2, p3, _, _⟩ := blk2 hn2.out
        have hzb : w.heap.size + 1 < w2.heap.size := by omega
        have hacc : Below w.heap.size w w2.drew := hb02.drew
        go_wp2_with fail
        go_region_held3 (fun w' => w'.cell? ⟨w.heap.size, 0, none⟩ = some (.int .i64 b1) ∧ w'.cell? ⟨w.heap.size, 1, none⟩ = some (.slice A1 z1.length c1) ∧ w'.cell? ⟨w.heap.size + 1, 0, none⟩ = some (.int .i64 b1) ∧ w'.cell? ⟨w.heap.size + 1, 1, none⟩ = some (.slice A2 z2.length c2))
          (first | go_keep | assumption)
          ((go_at_call 136; refine (width_any _ _ _ _ _).mono ?_; rintro e wq ⟨rfl, hbq⟩; have hSq := four_below hbq (by assumption); have hacc' := hacc.trans (hbq.mono hacc.size); clear hacc; have hacc := hacc'; clear hacc'))
        all_goals
          go_wp2_with fail
          go_ret
          rw [hfin.out]; exact ⟨rfl, hacc⟩
      · have hfin := Lib.hid (show codeTwo b1 z1 b2 z2 = 6 by unfold codeTwo; rw [hk1, hk2]; simp [hb])
        rw [hk1] at HV1
        rw [hk2] at HV2
        have hq1 : (b1 != b2) = true := by simpa using hb
        clear hk1 hk2 hb
        go_enter Try.func74, Try.ntmps74
        go_wp2_with fail
        refine (HV1.out _ (H1.out.below (Hb0.out.mono hB)) (Nat.le_trans hB Hb0.out.size)).mono ?_; rintro e w1 ⟨rfl, hb1⟩
        have hb01 := Hb0.out.trans (hb1.mono Hb0.out.size)
        obtain ⟨r2, r3, _, _⟩ := blk2 ((hb1.block _ (by omega)).trans Hn2.out)
        have hz1 := hb1.size
        go_wp2_with fail
        refine (HV2.out _ (H2.out.below (hb01.mono hB)) (Nat.le_trans hB hb01.size)).mono ?_; rintro e w2 ⟨rfl, hb2⟩
        have hb02 := hb01.trans (hb2.mono hb01.size)
        have hz2 := hb2.size
        have hn1 := Lib.hid ((hb2.block w.heap.size (by omega)).trans ((hb1.block _ (by omega)).trans Hn1.out))
        have hn2 := Lib.hid ((hb2.block (w.heap.size + 1) (by omega)).trans ((hb1.block _ (by omega)).trans Hn2.out))
        clear r0 r1 r2 r3 hb1 hb2 hb01 Hb0 Hn1 Hn2
        obtain ⟨p0, p1, _, _⟩ := blk2 hn1.out
        obtain ⟨p2, p3, _, _⟩ := blk2 hn2.out
        have hzb : w.heap.size + 1 < w2.heap.size := by omega
        go_wp2_with fail
        go_quiet (fail)
        go_wp2_with fail
        go_ret
        rw [hfin.out]; exact ⟨rfl, below_drewN hb02 _⟩
end Go.Proofs.Ytfaoilonkonmkaa
