/- Merged texts: Dm1, Dm2, Dm3, Dm4, Lib7, Dm5, Dm6, Dm7. -/
import Derived.Test.YthemffbkkhaaoaaGLawAbaci1
import Derived.Deep.DeepCutAuto
import Derived.Deep.CutRange
/- Drums: valid drums, both sides. -/
namespace Go.Proofs.Ythemffbkkhaaoaa
open Go.RowKit Go.Joins

theorem isBaseD_any (b : Int) (w : World) : Calls Try.prog 123 #[.int .i64 b] w fun e w' => e = .returned (.bool (inB b 2 16)) ∧ w = w' := by
  have HB := Lib.hid (fun wx => between_any b 2 16 wx)
  generalize inB b 2 16 = r at *
  go_enter Try.func123, Try.ntmps123
  go_wp2_with fail
  refine (HB.out _).mono ?_; rintro e w1 ⟨rfl, rfl⟩
  go_wp2_with fail
  go_ret
  exact ⟨rfl, rfl⟩
theorem l02BaseD_any (b : Int) (w : World) : Calls Try.prog 198 #[.int .i64 b] w fun e w' => e = .returned (.bool (inB b 2 16)) ∧ w = w' := by
  have HB := Lib.hid (fun wx => l00In_any b 2 16 wx)
  generalize inB b 2 16 = r at *
  go_enter Try.func198, Try.ntmps198
  go_wp2_with fail
  refine (HB.out _).mono ?_; rintro e w1 ⟨rfl, rfl⟩
  go_wp2_with fail
  go_ret
  exact ⟨rfl, rfl⟩
structure Dm where
  k : Int
  b : Int
  t : Int
  f : Int
deriving DecidableEq
abbrev aggDm (d : Dm) : Value := .agg #[.int .i64 d.k, .int .i64 d.b, .int .i64 d.t, .int .i64 d.f]
abbrev objDm (d : Dm) : Obj := .cells #[.int .i64 d.k, .int .i64 d.b, .int .i64 d.t, .int .i64 d.f] 25
/-- a drum's cells -/
structure DmAt (w : World) (b : Nat) (d : Dm) : Prop where
  c0 : w.cell? ⟨b, 0, none⟩ = some (.int .i64 d.k)
  c1 : w.cell? ⟨b, 1, none⟩ = some (.int .i64 d.b)
  c2 : w.cell? ⟨b, 2, none⟩ = some (.int .i64 d.t)
  c3 : w.cell? ⟨b, 3, none⟩ = some (.int .i64 d.f)
theorem DmAt.drewN {w : World} {b : Nat} {d : Dm} (h : DmAt w b d) (n : Nat) : DmAt (w.drewN n) b d := ⟨h.1, h.2, h.3, h.4⟩
theorem DmAt.of {w : World} {g : Nat} {d : Dm} {t : TypeId} (h : w.heap[g]? = some (.cells #[.int .i64 d.k, .int .i64 d.b, .int .i64 d.t, .int .i64 d.f] t (0, 0))) : DmAt w g d := by
  obtain ⟨⟨h0, h1, h2, h3⟩, _⟩ := blk4 h
  exact ⟨h0, h1, h2, h3⟩
def okDm (d : Dm) : Bool := inB d.k 1 3 && inB d.b 2 16 && inB d.t d.b 60 && (if d.k = 3 then decide (d.f = 0) else inB d.f 1 (d.t - d.b + 2))
theorem okDm_cases (d : Dm) : (inB d.k 1 3 = false ∧ okDm d = false) ∨ (inB d.k 1 3 = true ∧ inB d.b 2 16 = false ∧ okDm d = false) ∨ (inB d.k 1 3 = true ∧ inB d.b 2 16 = true ∧ inB d.t d.b 60 = false ∧ okDm d = false) ∨
    (inB d.k 1 3 = true ∧ inB d.b 2 16 = true ∧ inB d.t d.b 60 = true ∧ d.k = 3 ∧ okDm d = (d.f == 0)) ∨ (inB d.k 1 3 = true ∧ inB d.b 2 16 = true ∧ inB d.t d.b 60 = true ∧ d.k ≠ 3 ∧ okDm d = inB d.f 1 (d.t - d.b + 2)) := by
  unfold okDm
  cases inB d.k 1 3 <;> cases inB d.b 2 16 <;> cases inB d.t d.b 60 <;> simp
  by_cases h : d.k = 3
  · simp [h]; rfl
  · simp [h]
theorem inB_bd {n a b : Int} (h : inB n a b = true) : a ≤ n ∧ n ≤ b := by
  unfold inB at h
  simpa only [Bool.and_eq_true, decide_eq_true_eq] using h
/-- what a valid drum's numbers are -/
theorem okDm_bd {d : Dm} (h : okDm d = true) : (d.k = 1 ∨ d.k = 2 ∨ d.k = 3) ∧ 2 ≤ d.b ∧ d.b ≤ 16 ∧ d.b ≤ d.t ∧ d.t ≤ 60 ∧ (d.k = 3 → d.f = 0) ∧ (d.k ≠ 3 → 1 ≤ d.f ∧ d.f ≤ d.t - d.b + 2) := by
  rcases okDm_cases d with ⟨_, h2⟩ | ⟨_, _, h2⟩ | ⟨_, _, _, h2⟩ | ⟨h1, h2, h3, h4, h5⟩ | ⟨h1, h2, h3, h4, h5⟩
  · rw [h] at h2; cases h2
  · rw [h] at h2; cases h2
  · rw [h] at h2; cases h2
  · rw [h] at h5
    have := inB_bd h1; have := inB_bd h2; have := inB_bd h3
    have h6 : d.f = 0 := by simpa using h5.symm
    exact ⟨by omega, by omega, by omega, by omega, by omega, fun _ => h6, fun h => absurd h4 h⟩
  · rw [h] at h5
    have := inB_bd h1; have := inB_bd h2; have := inB_bd h3; have := inB_bd h5.symm
    exact ⟨by omega, by omega, by omega, by omega, by omega, fun h => absurd h h4, fun _ => by omega⟩

set_option maxRecDepth 100000 in
set_option maxHeartbeats 1600000 in
theorem ValidDm_any (d : Dm) (w : World) : Calls Try.prog 30 #[aggDm d] w fun e w' => e = .returned (.bool (okDm d)) ∧ Below w.heap.size w w' := by
  have hcs := okDm_cases d
  obtain ⟨k, b, t, f⟩ := d
  have hb1 := (Below.refl w.heap.size w).alloc (Nat.le_refl _) (.cells #[.int .i64 k, .int .i64 b, .int .i64 t, .int .i64 f] 25)
  have HB := Lib.hid hb1
  have H1 := Lib.hid (fun wx => between_any k 1 3 wx)
  have H2 := Lib.hid (fun wx => isBaseD_any b wx)
  have H3 := Lib.hid (fun wx => between_any t b 60 wx)
  have H4 := Lib.hid (fun wx => between_any f 1 (t - b + 2) wx)
  obtain ⟨c0, c1, c2, c3⟩ := four_at (heap_alloc_new w (.cells #[.int .i64 k, .int .i64 b, .int .i64 t, .int .i64 f] 25))
  generalize okDm ⟨k, b, t, f⟩ = r at *
  dsimp only at hcs ⊢
  clear hb1
  rcases hcs with ⟨g1, rfl⟩ | ⟨g1, g2, rfl⟩ | ⟨g1, g2, g3, rfl⟩ | ⟨g1, g2, g3, rfl, g5⟩ | ⟨g1, g2, g3, g4, rfl⟩
  · rw [g1] at H1
    clear g1
    go_enter Try.func30, Try.ntmps30
    go_wp2_with fail
    refine (H1.out _).mono ?_; rintro e w1 ⟨rfl, rfl⟩
    go_wp2_with fail
    go_ret
    exact ⟨rfl, HB.out⟩
  · rw [g1] at H1
    rw [g2] at H2
    clear g1 g2
    go_enter Try.func30, Try.ntmps30
    go_wp2_with fail
    refine (H1.out _).mono ?_; rintro e w1 ⟨rfl, rfl⟩
    go_wp2_with fail
    refine (H2.out _).mono ?_; rintro e w1 ⟨rfl, rfl⟩
    go_wp2_with fail
    go_ret
    exact ⟨rfl, HB.out⟩
  · rw [g1] at H1
    rw [g2] at H2
    rw [g3] at H3
    clear g1 g2 g3
    go_enter Try.func30, Try.ntmps30
    go_wp2_with fail
    refine (H1.out _).mono ?_; rintro e w1 ⟨rfl, rfl⟩
    go_wp2_with fail
    refine (H2.out _).mono ?_; rintro e w1 ⟨rfl, rfl⟩
    go_wp2_with fail
    refine (H3.out _).mono ?_; rintro e w1 ⟨rfl, rfl⟩
    go_wp2_with fail
    go_ret
    exact ⟨rfl, HB.out⟩
  · rw [g1] at H1
    rw [g2] at H2
    rw [g3] at H3
    clear g1 g2 g3
    have G5 := Lib.hid g5; clear g5
    go_enter Try.func30, Try.ntmps30
    go_wp2_with fail
    refine (H1.out _).mono ?_; rintro e w1 ⟨rfl, rfl⟩
    go_wp2_with fail
    refine (H2.out _).mono ?_; rintro e w1 ⟨rfl, rfl⟩
    go_wp2_with fail
    refine (H3.out _).mono ?_; rintro e w1 ⟨rfl, rfl⟩
    go_wp2_with fail
    go_ret
    rw [G5.out]; exact ⟨rfl, HB.out⟩
  · have hb2 := inB_bd g2
    have hb3 := inB_bd g3
    have hk3 : (k == 3) = false := by rw [beq_eq_false_iff_ne]; exact g4
    have hwr : IntKind.i64.wrap (t - b + 2) = t - b + 2 := IntWalk.i64_in _ (by omega)
    rw [g1] at H1
    rw [g2] at H2
    rw [g3] at H3
    clear g1 g2 g3 g4
    generalize inB f 1 (t - b + 2) = r at *
    go_enter Try.func30, Try.ntmps30
    go_wp2_with fail
    refine (H1.out _).mono ?_; rintro e w1 ⟨rfl, rfl⟩
    go_wp2_with fail
    refine (H2.out _).mono ?_; rintro e w1 ⟨rfl, rfl⟩
    go_wp2_with fail
    refine (H3.out _).mono ?_; rintro e w1 ⟨rfl, rfl⟩
    go_wp2_with fail
    refine (H4.out _).mono ?_; rintro e w1 ⟨rfl, rfl⟩
    go_wp2_with fail
    go_ret
    exact ⟨rfl, HB.out⟩

set_option maxRecDepth 100000 in
set_option maxHeartbeats 1600000 in
theorem l05Ok_any (q : Nat) (d : Dm) (w : World) (h : DmAt w q d) : Calls Try.prog 118 #[.pointer (some ⟨q, 0, none⟩)] w fun e w' => e = .returned (.bool (okDm d)) ∧ ∃ n, w' = w.drewN n := by
  have hcs := okDm_cases d
  obtain ⟨c0, c1, c2, c3⟩ := h
  obtain ⟨k, b, t, f⟩ := d
  have H1 := Lib.hid (fun wx => flipC (l00In_any k 1 3 wx))
  have H2 := Lib.hid (fun wx => flipC (l02BaseD_any b wx))
  have H3 := Lib.hid (fun wx => flipC (l00In_any t b 60 wx))
  have H4 := Lib.hid (fun wx => flipC (l00In_any f 1 (t - b + 2) wx))
  generalize okDm ⟨k, b, t, f⟩ = r at *
  dsimp only at hcs c0 c1 c2 c3
  rcases hcs with ⟨g1, rfl⟩ | ⟨g1, g2, rfl⟩ | ⟨g1, g2, g3, rfl⟩ | ⟨g1, g2, g3, rfl, g5⟩ | ⟨g1, g2, g3, g4, rfl⟩
  · rw [g1] at H1
    clear g1
    go_enter Try.func118, Try.ntmps118
    go_wp2_with fail
    go_quiet ((first | (go_at_call 198; exact Calls.quiet_of_same (H2.out _)) | (go_at_call 113; first | (with_reducible exact Calls.quiet_of_same (H1.out _)) | (with_reducible exact Calls.quiet_of_same (H3.out _)))))
    go_wp2_with fail
    go_ret
    exact ⟨rfl, _, rfl⟩
  · rw [g1] at H1
    rw [g2] at H2
    clear g1 g2
    go_enter Try.func118, Try.ntmps118
    go_wp2_with fail
    go_quiet ((first | (go_at_call 198; exact Calls.quiet_of_same (H2.out _)) | (go_at_call 113; first | (with_reducible exact Calls.quiet_of_same (H1.out _)) | (with_reducible exact Calls.quiet_of_same (H3.out _)))))
    go_wp2_with fail
    go_ret
    exact ⟨rfl, _, rfl⟩
  · rw [g1] at H1
    rw [g2] at H2
    rw [g3] at H3
    clear g1 g2 g3
    go_enter Try.func118, Try.ntmps118
    go_wp2_with fail
    go_quiet ((first | (go_at_call 198; exact Calls.quiet_of_same (H2.out _)) | (go_at_call 113; first | (with_reducible exact Calls.quiet_of_same (H1.out _)) | (with_reducible exact Calls.quiet_of_same (H3.out _)))))
    go_wp2_with fail
    go_ret
    exact ⟨rfl, _, rfl⟩
  · rw [g1] at H1
    rw [g2] at H2
    rw [g3] at H3
    clear g1 g2 g3
    have G5 := Lib.hid g5; clear g5
    go_enter Try.func118, Try.ntmps118
    go_wp2_with fail
    go_quiet ((first | (go_at_call 198; exact Calls.quiet_of_same (H2.out _)) | (go_at_call 113; first | (with_reducible exact Calls.quiet_of_same (H1.out _)) | (with_reducible exact Calls.quiet_of_same (H3.out _)))))
    have k3 : (w.drewN nq).cell? ⟨q, 3, none⟩ = some (.int .i64 f) := c3
    go_wp2_with fail
    go_ret
    rw [G5.out]; exact ⟨rfl, _, rfl⟩
  · have hb2 := inB_bd g2
    have hb3 := inB_bd g3
    have hk3 : (k == 3) = false := by rw [beq_eq_false_iff_ne]; exact g4
    obtain ⟨u1, u2⟩ := hb2
    obtain ⟨u3, u4⟩ := hb3
    have hwr0 : IntKind.i64.wrap (t - b) = t - b := IntWalk.i64_in _ (by omega)
    have hwr : IntKind.i64.wrap (t - b + 2) = t - b + 2 := IntWalk.i64_in _ (by omega)
    rw [g1] at H1
    rw [g2] at H2
    rw [g3] at H3
    clear g1 g2 g3 g4
    generalize inB f 1 (t - b + 2) = r at *
    go_enter Try.func118, Try.ntmps118
    go_wp2_with fail
    go_quiet ((first | (go_at_call 198; exact Calls.quiet_of_same (H2.out _)) | (go_at_call 113; first | (with_reducible exact Calls.quiet_of_same (H1.out _)) | (with_reducible exact Calls.quiet_of_same (H3.out _)))))
    have k0 : (w.drewN nq).cell? ⟨q, 0, none⟩ = some (.int .i64 k) := c0
    have k1 : (w.drewN nq).cell? ⟨q, 1, none⟩ = some (.int .i64 b) := c1
    have k2 : (w.drewN nq).cell? ⟨q, 2, none⟩ = some (.int .i64 t) := c2
    have k3 : (w.drewN nq).cell? ⟨q, 3, none⟩ = some (.int .i64 f) := c3
    generalize hwq : w.drewN nq = wq at *
    have Hwq := Lib.hid hwq
    clear hwq c0 c1 c2 c3
    go_wp2_with fail
    go_quiet ((go_at_call 113; exact Calls.quiet_of_same (H4.out _)))
    go_wp2_with fail
    go_ret
    exact ⟨rfl, _, by rw [← Hwq.out, World.drewN_drewN]⟩
end Go.Proofs.Ythemffbkkhaaoaa
/- Drums: the times of a digit's steps, both sides. -/
namespace Go.Proofs.Ythemffbkkhaaoaa
open Go.RowKit Go.Joins

theorem DmAt.below {w w' : World} {b B : Nat} {d : Dm} (h : DmAt w b d) (hb : b < B) (hw : Below B w w') : DmAt w' b d :=
  ⟨(hw.cell (p := ⟨b, 0, none⟩) hb).trans h.c0, (hw.cell (p := ⟨b, 1, none⟩) hb).trans h.c1, (hw.cell (p := ⟨b, 2, none⟩) hb).trans h.c2, (hw.cell (p := ⟨b, 3, none⟩) hb).trans h.c3⟩
/-- the time of a tooth's step -/
def timeD (d : Dm) (g : Int) (j : Nat) : Int := if d.k = 1 then d.f + d.b - 1 - g + j else if d.k = 2 then d.f + j else (((j : Int) + 1) * d.t + g - 1) / g
theorem prodT {j : Nat} {g t : Int} (h : (j : Int) < g) (hg : g ≤ 15) (h0 : 0 ≤ t) (ht : t ≤ 60) : 0 ≤ ((j : Int) + 1) * t ∧ ((j : Int) + 1) * t ≤ 900 := by
  have h1 : 0 ≤ ((j : Int) + 1) * t := Int.mul_nonneg (by omega) h0
  have h2 : ((j : Int) + 1) * t ≤ 15 * t := Int.mul_le_mul_of_nonneg_right (by omega) h0
  omega
theorem ValidDS_any (d : Dm) (w : World) : Calls Try.prog 31 #[aggDm d] w fun e w' => e = .returned (.bool (okDm d)) ∧ Below w.heap.size w w' := by
  have hb := (Below.refl w.heap.size w).alloc (Nat.le_refl _) (objDm d)
  have HO := Lib.hid (l05Ok_any w.heap.size d (w.alloc (objDm d)) (DmAt.of (heap_alloc_new w (objDm d))))
  have HB := Lib.hid hb
  obtain ⟨k, b, t, f⟩ := d
  generalize okDm ⟨k, b, t, f⟩ = r at *
  clear hb
  go_enter Try.func31, Try.ntmps31
  go_wp2_with fail
  refine HO.out.mono ?_; rintro e w1 ⟨rfl, n1, rfl⟩
  go_wp2_with fail
  go_ret
  exact ⟨rfl, below_drewN HB.out n1⟩

set_option maxRecDepth 100000 in
set_option maxHeartbeats 1600000 in
theorem l05Time_any (q : Nat) (d : Dm) (g : Int) (j : Nat) (w : World) (h : DmAt w q d) (hok : okDm d = true) (hj : (j : Int) < g) (hg : g < d.b) : Calls Try.prog 197 #[.pointer (some ⟨q, 0, none⟩), .int .i64 g, .int .i64 (j : Int)] w fun e w' => e = .returned (.int .i64 (timeD d g j)) ∧ ∃ n, w' = w.drewN n := by
  obtain ⟨hk, b1, b2, b3, b4, hf3, hf1⟩ := okDm_bd hok
  obtain ⟨c0, c1, c2, c3⟩ := h
  obtain ⟨k, b, t, f⟩ := d
  dsimp only at *
  rcases hk with rfl | rfl | rfl
  · have hf := hf1 (by decide)
    have Hf := Lib.hid (show timeD ⟨1, b, t, f⟩ g j = f + b - 1 - g + j from rfl)
    clear hf1 hf3 hok c2
    go_enter Try.func197, Try.ntmps197
    go_wp2_with fail
    go_quiet (fail)
    go_wp2_with fail
    go_ret
    rw [Hf.out]; exact ⟨rfl, _, rfl⟩
  · have hf := hf1 (by decide)
    have Hf := Lib.hid (show timeD ⟨2, b, t, f⟩ g j = f + j from rfl)
    clear hf1 hf3 hok c2 c1
    go_enter Try.func197, Try.ntmps197
    go_wp2_with fail
    go_ret
    rw [Hf.out]; exact ⟨rfl, 0, rfl⟩
  · have Hf := Lib.hid (show timeD ⟨3, b, t, f⟩ g j = (((j : Int) + 1) * t + g - 1) / g from rfl)
    obtain ⟨p0, p1⟩ := prodT (t := t) hj (by omega) (by omega) b4
    clear hf1 hf3 hok c1 c3
    have hw0 : IntKind.i64.wrap ((j : Int) + 1) = (j : Int) + 1 := IntWalk.i64_in _ (by omega)
    have hw1 : IntKind.i64.wrap (((j : Int) + 1) * t) = ((j : Int) + 1) * t := IntWalk.i64_in _ (by omega)
    have hg0 : ¬ g = 0 := by omega
    go_enter Try.func197, Try.ntmps197
    go_wp2_with fail
    go_ret
    rw [Hf.out]; exact ⟨rfl, 0, rfl⟩

set_option maxRecDepth 100000 in
set_option maxHeartbeats 3200000 in
theorem times_any (d : Dm) (n : Nat) (w : World) (hok : okDm d = true) (hn : (n : Int) < d.b) : Calls Try.prog 115 #[aggDm d, .int .i64 (n : Int)] w (RetF w n (timeD d n)) := by
  obtain ⟨hk, b1, b2, b3, b4, hf3, hf1⟩ := okDm_bd hok
  have hb1 := (Below.refl w.heap.size w).alloc (Nat.le_refl _) (objDm d)
  have HQ := Lib.hid (heap_alloc_new w (objDm d))
  have HB1 := Lib.hid hb1
  have hlt1 : w.heap.size < (w.alloc (objDm d)).heap.size := by simp
  have Hsz1 := Lib.hid (show (w.alloc (objDm d)).heap.size = w.heap.size + 1 by simp)
  have Ht := Lib.hid (show ∀ j, timeD d n j = if d.k = 1 then d.f + d.b - 1 - n + j else if d.k = 2 then d.f + j else (((j : Int) + 1) * d.t + n - 1) / n from fun j => rfl)
  generalize timeD d n = T at *
  obtain ⟨k, b, t, f⟩ := d
  dsimp only at *
  clear hb1 hok
  go_enter Try.func115, Try.ntmps115
  go_wp2_with fail
  generalize w.alloc (.cells #[.int .i64 k, .int .i64 b, .int .i64 t, .int .i64 f] 25) = w1 at *
  have hb0 := Lib.hid ((Below.refl w1.heap.size w1).alloc (Nat.le_refl _) (.cells #[] 2))
  have ho0 := Lib.hid (World.ownsRow_made (base := w1.heap.size) (e := 2) (size := 1) w1 #[] 0 (Nat.le_refl _) (by simp [maxLen]) rfl)
  go_loopw [5, 9] (fun o i wr => ∃ j : Nat, j ≤ n ∧ i = .int .i64 (j : Int) ∧ wr.ownsRow w1.heap.size 2 1 o j (tab j T) ∧ Below w1.heap.size w1 wr) (fun _ i _ => n - (intOf i).toNat)
  case atStart => exact ⟨0, Nat.zero_le _, rfl, by rw [← Hsz1.out]; exact ho0.out, hb0.out⟩
  case round =>
    obtain ⟨j, hj, rfl, hown, hbl⟩ := hrel
    have Hown := Lib.hid hown
    obtain ⟨A5, c5, rfl⟩ := own_sl hown
    have Hbl := Lib.hid hbl
    have hz5 := hbl.size
    clear hown
    by_cases hlt : j < n
    · have hlt' : (j : Int) < (n : Int) := by omega
      obtain ⟨c0, c1, c2, c3⟩ := four_at ((hbl.block _ hlt1).trans HQ.out)
      clear hbl
      rcases hk with rfl | rfl | rfl
      · have hf := hf1 (by decide)
        have Hf := Lib.hid (show T j = f + b - 1 - n + j from Ht.out j)
        clear hf1 hf3 c2
        go_wp2_with (at_builtin; refine wpList_apd 35 2 _ 1 8 Try.underlying35 infoD rfl (by omega) _ _ rfl rfl w1.heap.size _ j _ rfl Hown.out #[.int .i64 (f + b - 1 - n + j)] 1 1 rfl rfl (by simp [Value.oneCell']) (by simp [maxLen]; omega) (by omega) hz5 ?_; intro v7 w7 hown7 hg7; have Hb7 := Lib.hid (below_apd Hbl.out Hown.out hg7 (Nat.le_refl _) hz5); have Ho7 := Lib.hid hown7; clear hown7 hg7)
        go_roundw
        case rel => exact ⟨j + 1, by omega, by go_num, by rw [tab_succ, Hf.out]; exact Ho7.out, Hb7.out⟩
        case measure => simp [intOf]; omega
      · have hf := hf1 (by decide)
        have Hf := Lib.hid (show T j = f + j from Ht.out j)
        clear hf1 hf3 c2 c1
        go_wp2_with (at_builtin; refine wpList_apd 35 2 _ 1 8 Try.underlying35 infoD rfl (by omega) _ _ rfl rfl w1.heap.size _ j _ rfl Hown.out #[.int .i64 (f + j)] 1 1 rfl rfl (by simp [Value.oneCell']) (by simp [maxLen]; omega) (by omega) hz5 ?_; intro v7 w7 hown7 hg7; have Hb7 := Lib.hid (below_apd Hbl.out Hown.out hg7 (Nat.le_refl _) hz5); have Ho7 := Lib.hid hown7; clear hown7 hg7)
        go_roundw
        case rel => exact ⟨j + 1, by omega, by go_num, by rw [tab_succ, Hf.out]; exact Ho7.out, Hb7.out⟩
        case measure => simp [intOf]; omega
      · have Hf := Lib.hid (show T j = (((j : Int) + 1) * t + n - 1) / n from Ht.out j)
        obtain ⟨p0, p1⟩ := prodT (t := t) hlt' (by omega) (by omega) b4
        clear hf1 hf3 c1 c3
        have hw0 : IntKind.i64.wrap ((j : Int) + 1) = (j : Int) + 1 := IntWalk.i64_in _ (by omega)
        have hw1 : IntKind.i64.wrap (((j : Int) + 1) * t) = ((j : Int) + 1) * t := IntWalk.i64_in _ (by omega)
        have hg0 : ¬ (n : Int) = 0 := by omega
        have hg1 : ¬ n = 0 := by omega
        go_wp2_with (at_builtin; refine wpList_apd 35 2 _ 1 8 Try.underlying35 infoD rfl (by omega) _ _ rfl rfl w1.heap.size _ j _ rfl Hown.out #[.int .i64 ((((j : Int) + 1) * t + n - 1) / n)] 1 1 rfl rfl (by simp [Value.oneCell']) (by simp [maxLen]; omega) (by omega) hz5 ?_; intro v7 w7 hown7 hg7; have Hb7 := Lib.hid (below_apd Hbl.out Hown.out hg7 (Nat.le_refl _) hz5); have Ho7 := Lib.hid hown7; clear hown7 hg7)
        go_roundw
        case rel => exact ⟨j + 1, by omega, by go_num, by rw [tab_succ, Hf.out]; exact Ho7.out, Hb7.out⟩
        case measure => simp [intOf]; omega
    · have hjn : j = n := by omega
      subst hjn
      have hlt' : ¬ (j : Int) < (j : Int) := by omega
      have HO := Lib.hid (ownsRow_le Hown.out HB1.out.size)
      clear hbl
      go_wp2_with fail
      go_ret
      exact ⟨_, rfl, HO.out, HB1.out.trans (Hbl.out.mono HB1.out.size)⟩

set_option maxRecDepth 100000 in
set_option maxHeartbeats 1600000 in
theorem l05Times_any (q : Nat) (d : Dm) (n : Nat) (w : World) (h : DmAt w q d) (hq : q < w.heap.size) (hok : okDm d = true) (hn : (n : Int) < d.b) : Calls Try.prog 116 #[.pointer (some ⟨q, 0, none⟩), .int .i64 (n : Int)] w (RetF w n (timeD d n)) := by
  have HT := Lib.hid (fun j wx hx hj => l05Time_any q d n j wx hx hok hj hn)
  have H := Lib.hid h
  have hb15 := (okDm_bd hok).2.2.1
  generalize timeD d n = T at *
  have hb0 := Lib.hid ((Below.refl w.heap.size w).alloc (Nat.le_refl _) (.cells #[] 2))
  have ho0 := Lib.hid (World.ownsRow_made (base := w.heap.size) (e := 2) (size := 1) w #[] 0 (Nat.le_refl _) (by simp [maxLen]) rfl)
  clear h hok
  go_enter Try.func116, Try.ntmps116
  go_wp2_with fail
  go_loopw [5, 6] (fun o i wr => ∃ j : Nat, j ≤ n ∧ i = .int .i64 (j : Int) ∧ wr.ownsRow w.heap.size 2 1 o j (tab j T) ∧ Below w.heap.size w wr) (fun _ i _ => n - (intOf i).toNat)
  case atStart => exact ⟨0, Nat.zero_le _, rfl, ho0.out, hb0.out⟩
  case round =>
    obtain ⟨j, hj, rfl, hown, hbl⟩ := hrel
    have Hown := Lib.hid hown
    obtain ⟨A5, c5, rfl⟩ := own_sl hown
    have Hbl := Lib.hid hbl
    clear hown
    by_cases hlt : j < n
    · have hlt' : (j : Int) < (n : Int) := by omega
      have HTj := Lib.hid (HT.out j wr (H.out.below hq hbl) hlt')
      clear hbl
      go_wp2_with fail
      refine HTj.out.mono ?_; rintro e w5 ⟨rfl, n5, hw5⟩
      have Hb5 : Hid (Below w.heap.size w w5) := Lib.hid (by rw [hw5]; exact below_drewN Hbl.out n5)
      have Ho5 : Hid (w5.ownsRow w.heap.size 2 1 (.slice A5 j c5) j (tab j T)) := Lib.hid (by rw [hw5]; exact Hown.out.drewN n5)
      have hz5 := Hb5.out.size
      clear hw5
      generalize hTj : T j = z at *
      have HTz := Lib.hid hTj
      clear hTj
      go_wp2_with (at_builtin; refine wpList_apd 35 2 _ 1 8 Try.underlying35 infoD rfl (by omega) _ _ rfl rfl w.heap.size _ j _ rfl Ho5.out #[.int .i64 z] 1 1 rfl rfl (by simp [Value.oneCell']) (by simp [maxLen]; omega) (by omega) hz5 ?_; intro v7 w7 hown7 hg7; have Hb7 := Lib.hid (below_apd Hb5.out Ho5.out hg7 (Nat.le_refl _) hz5); have Ho7 := Lib.hid hown7; clear hown7 hg7)
      go_roundw
      case rel => exact ⟨j + 1, by omega, by go_num, by rw [tab_succ, HTz.out]; exact Ho7.out, Hb7.out⟩
      case measure => simp [intOf]; omega
    · have hjn : j = n := by omega
      subst hjn
      have hlt' : ¬ (j : Int) < (j : Int) := by omega
      clear hbl
      go_wp2_with fail
      go_ret
      exact ⟨_, rfl, Hown.out, Hbl.out⟩
end Go.Proofs.Ythemffbkkhaaoaa
/- Drums: the steps up to a time, both sides. -/
namespace Go.Proofs.Ythemffbkkhaaoaa
open Go.RowKit Go.Joins

/-- how many of the first n are at most m -/
def cntT (T : Nat → Int) (m : Int) : Nat → Nat
  | 0 => 0
  | j + 1 => cntT T m j + if T j ≤ m then 1 else 0
theorem cntT_le (T : Nat → Int) (m : Int) : ∀ n, cntT T m n ≤ n := by
  intro n
  induction n with
  | zero => exact Nat.le_refl _
  | succ n ih => unfold cntT; split <;> omega
theorem cntT_yes {T : Nat → Int} {m : Int} {j : Nat} (h : T j ≤ m) : cntT T m (j + 1) = cntT T m j + 1 := by
  show cntT T m j + (if T j ≤ m then 1 else 0) = _
  rw [if_pos h]
theorem cntT_no {T : Nat → Int} {m : Int} {j : Nat} (h : ¬ T j ≤ m) : cntT T m (j + 1) = cntT T m j := by
  show cntT T m j + (if T j ≤ m then 1 else 0) = _
  rw [if_neg h]; rfl
def stepsD (d : Dm) (n : Nat) (time : Int) : Int := time / d.t * n + cntT (timeD d n) (time % d.t) n
theorem quoT {time t : Int} (h0 : 0 ≤ time) (h1 : time ≤ 100000) (ht : 2 ≤ t) : 0 ≤ time / t ∧ time / t ≤ 100000 := by
  have h2 : 0 ≤ time / t := Int.ediv_nonneg h0 (by omega)
  have h3 : time / t ≤ time := Int.ediv_le_self t h0
  omega
theorem prodQ {Q : Int} {n : Nat} (h0 : 0 ≤ Q) (h1 : Q ≤ 100000) (hn : n ≤ 15) : 0 ≤ Q * (n : Int) ∧ Q * (n : Int) ≤ 1500000 := by
  have h2 : 0 ≤ Q * (n : Int) := Int.mul_nonneg h0 (by omega)
  have h3 : Q * (n : Int) ≤ 100000 * (n : Int) := Int.mul_le_mul_of_nonneg_right h1 (by omega)
  omega

set_option maxRecDepth 100000 in
set_option maxHeartbeats 1600000 in
theorem steps_any (d : Dm) (n : Nat) (time : Int) (w : World) (hok : okDm d = true) (hn : (n : Int) < d.b) (h0 : 0 ≤ time) (h1 : time ≤ 100000) :
    Calls Try.prog 111 #[aggDm d, .int .i64 (n : Int), .int .i64 time] w fun e w' => e = .returned (.int .i64 (stepsD d n time)) ∧ Below w.heap.size w w' := by
  obtain ⟨hk, b1, b2, b3, b4, hf3, hf1⟩ := okDm_bd hok
  have HT := Lib.hid (fun wx => times_any d n wx hok hn)
  have hb1 := (Below.refl w.heap.size w).alloc (Nat.le_refl _) (objDm d)
  have HQ := Lib.hid (heap_alloc_new w (objDm d))
  have HB1 := Lib.hid hb1
  have hlt1 : w.heap.size < (w.alloc (objDm d)).heap.size := by simp
  obtain ⟨q0, q1⟩ := quoT (t := d.t) h0 h1 (by omega)
  have Hs := Lib.hid (show stepsD d n time = time / d.t * n + cntT (timeD d n) (time % d.t) n from rfl)
  generalize stepsD d n time = R at *
  generalize timeD d n = T at *
  obtain ⟨k, b, t, f⟩ := d
  unfold RetF at HT
  dsimp only at *
  obtain ⟨c0, c1, c2, c3⟩ := four_at HQ.out
  obtain ⟨p0, p1⟩ := prodQ (n := n) q0 q1 (by omega)
  have ht0 : ¬ t = 0 := by omega
  have hwp : IntKind.i64.wrap (time / t * (n : Int)) = time / t * (n : Int) := IntWalk.i64_in _ (by omega)
  clear hb1 hok hk hf3 hf1
  go_enter Try.func111, Try.ntmps111
  go_wp2_with fail
  generalize w.alloc (.cells #[.int .i64 k, .int .i64 b, .int .i64 t, .int .i64 f] 25) = w1 at *
  refine (HT.out _).mono ?_; rintro e w5 ⟨v5, rfl, ho5, hb5⟩
  obtain ⟨A5, c5, rfl⟩ := own_sl ho5
  have HR := Lib.hid (Rd.of_own ho5)
  have Hb5 := Lib.hid (HB1.out.trans (hb5.mono HB1.out.size))
  obtain ⟨_, _, e2, _⟩ := four_at ((hb5.block _ hlt1).trans HQ.out)
  clear ho5 hb5 c0 c1 c2 c3 HT HQ
  generalize hM : time % t = M at *
  generalize hP : time / t * (n : Int) = P at *
  go_wp2_with fail
  go_loopw [7, 20] (fun a i wr => ∃ j : Nat, j ≤ n ∧ a = .int .i64 (P + (cntT T M j : Nat)) ∧ i = .int .i64 (j : Int) ∧ wr = w5) (fun _ i _ => n - (intOf i).toNat)
  case atStart => exact ⟨0, Nat.zero_le _, by simp [cntT], rfl, rfl⟩
  case round =>
    obtain ⟨j, hj, rfl, rfl, rfl⟩ := hrel
    have hcl := cntT_le T M j
    by_cases hlt : j < n
    · have hlt' : (j : Int) < (n : Int) := by omega
      obtain ⟨bb, oo, hA, _, hcc⟩ := rdF_all HR.out (by omega)
      subst hA
      have hcj := hcc j hlt
      clear hcc
      by_cases hle : T j ≤ M
      · have Hst := Lib.hid (cntT_yes (T := T) (m := M) (j := j) hle)
        go_wp2_with fail
        go_roundw
        case rel => exact ⟨j + 1, by omega, by rw [Hst.out]; congr 1; omega, by go_num, by trivial⟩
        case measure => simp [intOf]; omega
      · have Hst := Lib.hid (cntT_no (T := T) (m := M) (j := j) hle)
        go_wp2_with fail
        go_roundw
        case rel => exact ⟨j + 1, by omega, by rw [Hst.out], by go_num, by trivial⟩
        case measure => simp [intOf]; omega
    · have hjn : j = n := by omega
      subst hjn
      have hlt' : ¬ (j : Int) < (j : Int) := by omega
      have hs := Hs.out
      clear Hs
      subst hs
      go_wp2_with fail
      go_ret
      exact ⟨rfl, Hb5.out⟩

set_option maxRecDepth 100000 in
set_option maxHeartbeats 1600000 in
theorem l05By_any (q : Nat) (d : Dm) (n : Nat) (time : Int) (w : World) (h : DmAt w q d) (hok : okDm d = true) (hn : (n : Int) < d.b) (h0 : 0 ≤ time) (h1 : time ≤ 100000) :
    Calls Try.prog 114 #[.pointer (some ⟨q, 0, none⟩), .int .i64 (n : Int), .int .i64 time] w fun e w' => e = .returned (.int .i64 (stepsD d n time)) ∧ ∃ m, w' = w.drewN m := by
  obtain ⟨hk, b1, b2, b3, b4, hf3, hf1⟩ := okDm_bd hok
  have HT := Lib.hid (fun j wx hx hj => l05Time_any q d n j wx hx hok hj hn)
  have H := Lib.hid h
  obtain ⟨q0, q1⟩ := quoT (t := d.t) h0 h1 (by omega)
  have Hs := Lib.hid (show stepsD d n time = time / d.t * n + cntT (timeD d n) (time % d.t) n from rfl)
  generalize stepsD d n time = R at *
  generalize timeD d n = T at *
  have c2 := h.c2
  generalize ht : d.t = t at *
  obtain ⟨p0, p1⟩ := prodQ (n := n) q0 q1 (by omega)
  have ht0 : ¬ t = 0 := by omega
  have hwp : IntKind.i64.wrap (time / t * (n : Int)) = time / t * (n : Int) := IntWalk.i64_in _ (by omega)
  have Htt := Lib.hid ht
  clear hok hk hf3 hf1 h ht
  go_enter Try.func114, Try.ntmps114
  go_wp2_with fail
  generalize hM : time % t = M at *
  generalize hP : time / t * (n : Int) = P at *
  go_loopw [7, 8] (fun a i wr => ∃ j m0 : Nat, j ≤ n ∧ a = .int .i64 (P + (cntT T M j : Nat)) ∧ i = .int .i64 (j : Int) ∧ wr = w.drewN m0) (fun _ i _ => n - (intOf i).toNat)
  case atStart => exact ⟨0, 0, Nat.zero_le _, by simp [cntT], rfl, rfl⟩
  case round =>
    obtain ⟨j, m0, hj, rfl, rfl, hwr⟩ := hrel
    have hcl := cntT_le T M j
    have Hw := Lib.hid (fun n => (show wr.drewN n = w.drewN (m0 + n) by rw [hwr, World.drewN_drewN]))
    have Hw0 := Lib.hid hwr
    have Hr : Hid (DmAt wr q d) := Lib.hid (by rw [hwr]; exact H.out.drewN m0)
    clear hwr
    by_cases hlt : j < n
    · have hlt' : (j : Int) < (n : Int) := by omega
      have HTj := Lib.hid (fun m => HT.out j (wr.drewN m) (Hr.out.drewN m) hlt')
      have e2 : wr.cell? ⟨q, 2, none⟩ = some (.int .i64 t) := by rw [← Htt.out]; exact Hr.out.c2
      by_cases hle : T j ≤ M
      · have Hst := Lib.hid (cntT_yes (T := T) (m := M) (j := j) hle)
        generalize T j = z at *
        go_wp2_with fail
        go_quiet ((go_at_call 197; exact Calls.quiet_of (HTj.out _)))
        go_wp2_with fail
        go_roundw
        case rel => exact ⟨j + 1, _, by omega, by rw [Hst.out]; congr 1; omega, by go_num, Hw.out _⟩
        case measure => simp [intOf]; omega
      · have Hst := Lib.hid (cntT_no (T := T) (m := M) (j := j) hle)
        generalize T j = z at *
        go_wp2_with fail
        go_quiet ((go_at_call 197; exact Calls.quiet_of (HTj.out _)))
        go_wp2_with fail
        go_roundw
        case rel => exact ⟨j + 1, _, by omega, by rw [Hst.out], by go_num, Hw.out _⟩
        case measure => simp [intOf]; omega
    · have hjn : j = n := by omega
      subst hjn
      have hlt' : ¬ (j : Int) < (j : Int) := by omega
      have hs := Hs.out
      clear Hs
      subst hs
      go_wp2_with fail
      go_ret
      exact ⟨rfl, _, Hw0.out⟩
end Go.Proofs.Ythemffbkkhaaoaa
/- Drums: codes, the times and the steps of a digit, both sides. -/
namespace Go.Proofs.Ythemffbkkhaaoaa
open Go.RowKit Go.Joins

def codeD (d : Dm) (g : Int) : Int := if okDm d = false then 1 else if inB g 0 (d.b - 1) = false then 2 else 0
theorem code_cases (d : Dm) (g : Int) : (okDm d = false ∧ codeD d g = 1) ∨ (okDm d = true ∧ inB g 0 (d.b - 1) = false ∧ codeD d g = 2) ∨ (okDm d = true ∧ inB g 0 (d.b - 1) = true ∧ codeD d g = 0) := by
  unfold codeD
  cases okDm d <;> cases inB g 0 (d.b - 1) <;> simp
theorem code_0 {d : Dm} {g : Int} (h : codeD d g = 0) : okDm d = true ∧ ∃ n : Nat, g = (n : Int) ∧ (n : Int) < d.b := by
  rcases code_cases d g with ⟨_, h2⟩ | ⟨_, _, h2⟩ | ⟨h1, h2, _⟩
  · rw [h] at h2; cases h2
  · rw [h] at h2; cases h2
  · have := inB_bd h2
    exact ⟨h1, g.toNat, by omega, by omega⟩
set_option maxRecDepth 100000 in
set_option maxHeartbeats 800000 in
theorem drumCode_any (d : Dm) (g : Int) (w : World) : Calls Try.prog 109 #[aggDm d, .int .i64 g] w fun e w' => e = .returned (.int .i64 (codeD d g)) ∧ Below w.heap.size w w' := by
  have hcs := code_cases d g
  have HV := Lib.hid (fun wx => ValidDm_any d wx)
  have HI := Lib.hid (fun wx => between_any g 0 (d.b - 1) wx)
  have hb1 := (Below.refl w.heap.size w).alloc (Nat.le_refl _) (objDm d)
  have HQ := Lib.hid (heap_alloc_new w (objDm d))
  have HB1 := Lib.hid hb1
  have hlt1 : w.heap.size < (w.alloc (objDm d)).heap.size := by simp
  have Hbd := Lib.hid (fun h => okDm_bd (d := d) h)
  generalize codeD d g = C at *
  generalize okDm d = o at *
  obtain ⟨k, b, t, f⟩ := d
  dsimp only at *
  obtain ⟨c0, c1, c2, c3⟩ := four_at HQ.out
  clear hb1
  rcases hcs with ⟨rfl, rfl⟩ | ⟨rfl, g2, rfl⟩ | ⟨rfl, g2, rfl⟩
  · go_enter Try.func109, Try.ntmps109
    go_wp2_with fail
    refine (HV.out _).mono ?_; rintro e w5 ⟨rfl, hb5⟩
    go_wp2_with fail
    go_ret
    exact ⟨rfl, HB1.out.trans (hb5.mono HB1.out.size)⟩
  · obtain ⟨_, b1, b2, _⟩ := Hbd.out rfl
    have hwb : IntKind.i64.wrap (b - 1) = b - 1 := IntWalk.i64_in _ (by omega)
    rw [g2] at HI
    clear g2 Hbd
    go_enter Try.func109, Try.ntmps109
    go_wp2_with fail
    refine (HV.out _).mono ?_; rintro e w5 ⟨rfl, hb5⟩
    obtain ⟨_, e1, _, _⟩ := four_at ((hb5.block _ hlt1).trans HQ.out)
    have Hb := Lib.hid (HB1.out.trans (hb5.mono HB1.out.size))
    clear hb5 c0 c1 c2 c3
    go_wp2_with fail
    refine (HI.out _).mono ?_; rintro e w6 ⟨rfl, rfl⟩
    go_wp2_with fail
    go_ret
    exact ⟨rfl, Hb.out⟩
  · obtain ⟨_, b1, b2, _⟩ := Hbd.out rfl
    have hwb : IntKind.i64.wrap (b - 1) = b - 1 := IntWalk.i64_in _ (by omega)
    rw [g2] at HI
    clear g2 Hbd
    go_enter Try.func109, Try.ntmps109
    go_wp2_with fail
    refine (HV.out _).mono ?_; rintro e w5 ⟨rfl, hb5⟩
    obtain ⟨_, e1, _, _⟩ := four_at ((hb5.block _ hlt1).trans HQ.out)
    have Hb := Lib.hid (HB1.out.trans (hb5.mono HB1.out.size))
    clear hb5 c0 c1 c2 c3
    go_wp2_with fail
    refine (HI.out _).mono ?_; rintro e w6 ⟨rfl, rfl⟩
    go_wp2_with fail
    go_ret
    exact ⟨rfl, Hb.out⟩
set_option maxRecDepth 100000 in
set_option maxHeartbeats 800000 in
theorem l05Code_any (q : Nat) (d : Dm) (g : Int) (w : World) (h : DmAt w q d) : Calls Try.prog 112 #[.pointer (some ⟨q, 0, none⟩), .int .i64 g] w fun e w' => e = .returned (.int .i64 (codeD d g)) ∧ ∃ n, w' = w.drewN n := by
  have hcs := code_cases d g
  have HV := Lib.hid (l05Ok_any q d w h)
  have HI := Lib.hid (fun wx => l00In_any g 0 (d.b - 1) wx)
  have Hbd := Lib.hid (fun h => okDm_bd (d := d) h)
  have c1 := h.c1
  generalize codeD d g = C at *
  generalize okDm d = o at *
  obtain ⟨k, b, t, f⟩ := d
  dsimp only at *
  clear h
  rcases hcs with ⟨rfl, rfl⟩ | ⟨rfl, g2, rfl⟩ | ⟨rfl, g2, rfl⟩
  · go_enter Try.func112, Try.ntmps112
    go_wp2_with fail
    refine HV.out.mono ?_; rintro e w5 ⟨rfl, n5, rfl⟩
    go_wp2_with fail
    go_ret
    exact ⟨rfl, _, rfl⟩
  · obtain ⟨_, b1, b2, _⟩ := Hbd.out rfl
    have hwb : IntKind.i64.wrap (b - 1) = b - 1 := IntWalk.i64_in _ (by omega)
    rw [g2] at HI
    clear g2 Hbd
    go_enter Try.func112, Try.ntmps112
    go_wp2_with fail
    refine HV.out.mono ?_; rintro e w5 ⟨rfl, n5, rfl⟩
    have e1 : (w.drewN n5).cell? ⟨q, 1, none⟩ = some (.int .i64 b) := c1
    go_wp2_with fail
    refine (HI.out _).mono ?_; rintro e w6 ⟨rfl, rfl⟩
    go_wp2_with fail
    go_ret
    exact ⟨rfl, _, rfl⟩
  · obtain ⟨_, b1, b2, _⟩ := Hbd.out rfl
    have hwb : IntKind.i64.wrap (b - 1) = b - 1 := IntWalk.i64_in _ (by omega)
    rw [g2] at HI
    clear g2 Hbd
    go_enter Try.func112, Try.ntmps112
    go_wp2_with fail
    refine HV.out.mono ?_; rintro e w5 ⟨rfl, n5, rfl⟩
    have e1 : (w.drewN n5).cell? ⟨q, 1, none⟩ = some (.int .i64 b) := c1
    go_wp2_with fail
    refine (HI.out _).mono ?_; rintro e w6 ⟨rfl, rfl⟩
    go_wp2_with fail
    go_ret
    exact ⟨rfl, _, rfl⟩
theorem isTime_any (n : Int) (w : World) : Calls Try.prog 110 #[.int .i64 n] w fun e w' => e = .returned (.bool (inB n 0 100000)) ∧ w = w' := by
  have HB := Lib.hid (fun wx => between_any n 0 100000 wx)
  generalize inB n 0 100000 = g at *
  go_enter Try.func110, Try.ntmps110
  go_wp2_with fail
  refine (HB.out _).mono ?_; rintro e w1 ⟨rfl, rfl⟩
  go_wp2_with fail
  go_ret
  exact ⟨rfl, rfl⟩

/-- how many times a digit has -/
def nD (d : Dm) (g : Int) : Nat := if codeD d g = 0 then g.toNat else 0
def RetTm (w : World) (d : Dm) (g : Int) (e : Ending) (w' : World) : Prop :=
  ∃ v, e = .returned (.tuple #[v, .int .i64 (codeD d g)]) ∧ w'.ownsRow w.heap.size 2 1 v (nD d g) (tab (nD d g) (timeD d (nD d g))) ∧ Below w.heap.size w w'
theorem RetTm.no {d : Dm} {g c : Int} {w w' : World} (h : codeD d g = c) (hc : c ≠ 0) (hb : Below w.heap.size w w') : RetTm w d g (.returned (.tuple #[.slice none 0 0, .int .i64 c])) w' := by
  refine ⟨_, by rw [h], ?_, hb⟩
  have : nD d g = 0 := by unfold nD; rw [if_neg (by rw [h]; exact hc)]
  rw [this]
  exact World.ownsRow_nil _ _ _ _
theorem RetTm.yes {d : Dm} {n : Nat} {v : Value} {w w' : World} {base : Nat} (h : codeD d n = 0) (ho : w'.ownsRow base 2 1 v n (tab n (timeD d n))) (hle : w.heap.size ≤ base) (hb : Below w.heap.size w w') : RetTm w d n (.returned (.tuple #[v, .int .i64 0])) w' := by
  refine ⟨_, by rw [h], ?_, hb⟩
  have : nD d n = n := by unfold nD; rw [if_pos h]; omega
  rw [this]
  exact ownsRow_le ho hle
set_option maxRecDepth 100000 in
set_option maxHeartbeats 800000 in
theorem StepTimesI_any (d : Dm) (g : Int) (w : World) : Calls Try.prog 17 #[aggDm d, .int .i64 g] w (RetTm w d g) := by
  have HC := Lib.hid (fun wx => drumCode_any d g wx)
  have hb1 := (Below.refl w.heap.size w).alloc (Nat.le_refl _) (objDm d)
  have HQ := Lib.hid (heap_alloc_new w (objDm d))
  have HB1 := Lib.hid hb1
  have hlt1 : w.heap.size < (w.alloc (objDm d)).heap.size := by simp
  obtain ⟨c0, c1, c2, c3⟩ := four_at HQ.out
  clear hb1
  by_cases h0 : codeD d g = 0
  · obtain ⟨hok, n, rfl, hn⟩ := code_0 h0
    have HT := Lib.hid (fun wx => times_any d n wx hok hn)
    have H0 := Lib.hid h0
    rw [h0] at HC
    unfold RetF at HT
    have Hy := Lib.hid (fun (v : Value) (w' : World) (base : Nat) ho hle hb => RetTm.yes (w := w) (w' := w') (v := v) (base := base) h0 ho hle hb)
    generalize timeD d n = T at *
    obtain ⟨k, b, t, f⟩ := d
    dsimp only at *
    clear h0 hok hn
    go_enter Try.func17, Try.ntmps17
    go_wp2_with fail
    generalize w.alloc (.cells #[.int .i64 k, .int .i64 b, .int .i64 t, .int .i64 f] 25) = w1 at *
    refine (HC.out _).mono ?_; rintro e w5 ⟨rfl, hb5⟩
    obtain ⟨e0, e1, e2, e3⟩ := four_at ((hb5.block _ hlt1).trans HQ.out)
    have Hb := Lib.hid (HB1.out.trans (hb5.mono HB1.out.size))
    clear hb5 c0 c1 c2 c3
    go_wp2_with fail
    refine (HT.out _).mono ?_; rintro e w6 ⟨v6, rfl, ho6, hb6⟩
    obtain ⟨A6, c6, rfl⟩ := own_sl ho6
    have HO := Lib.hid ho6
    have Hb6 := Lib.hid (Hb.out.trans (hb6.mono Hb.out.size))
    clear ho6 hb6
    go_wp2_with fail
    go_ret2
    exact Hy.out _ _ _ HO.out Hb.out.size Hb6.out
  · have hq : (codeD d g == 0) = false := by rw [beq_eq_false_iff_ne]; exact h0
    have Hn := Lib.hid (fun (w' : World) hb => RetTm.no (w := w) (w' := w') (d := d) (g := g) rfl h0 hb)
    generalize codeD d g = C at *
    obtain ⟨k, b, t, f⟩ := d
    dsimp only at *
    clear h0
    go_enter Try.func17, Try.ntmps17
    go_wp2_with fail
    generalize w.alloc (.cells #[.int .i64 k, .int .i64 b, .int .i64 t, .int .i64 f] 25) = w1 at *
    refine (HC.out _).mono ?_; rintro e w5 ⟨rfl, hb5⟩
    have Hb := Lib.hid (HB1.out.trans (hb5.mono HB1.out.size))
    clear hb5 c0 c1 c2 c3
    go_wp2_with fail
    go_ret2
    exact Hn.out _ Hb.out
set_option maxRecDepth 100000 in
set_option maxHeartbeats 800000 in
theorem StepTimesS_any (d : Dm) (g : Int) (w : World) : Calls Try.prog 18 #[aggDm d, .int .i64 g] w (RetTm w d g) := by
  have hb1 := (Below.refl w.heap.size w).alloc (Nat.le_refl _) (objDm d)
  have hD := DmAt.of (heap_alloc_new w (objDm d))
  have HC := Lib.hid (l05Code_any w.heap.size d g (w.alloc (objDm d)) hD)
  have HB1 := Lib.hid hb1
  have hlt1 : w.heap.size < (w.alloc (objDm d)).heap.size := by simp
  clear hb1
  by_cases h0 : codeD d g = 0
  · obtain ⟨hok, n, rfl, hn⟩ := code_0 h0
    have HT := Lib.hid (fun m => l05Times_any w.heap.size d n ((w.alloc (objDm d)).drewN m) (hD.drewN m) hlt1 hok hn)
    rw [h0] at HC
    unfold RetF at HT
    have Hy := Lib.hid (fun (v : Value) (w' : World) (base : Nat) ho hle hb => RetTm.yes (w := w) (w' := w') (v := v) (base := base) h0 ho hle hb)
    generalize timeD d n = T at *
    obtain ⟨k, b, t, f⟩ := d
    dsimp only at *
    clear h0 hok hn hD
    go_enter Try.func18, Try.ntmps18
    go_wp2_with fail
    generalize w.alloc (.cells #[.int .i64 k, .int .i64 b, .int .i64 t, .int .i64 f] 25) = w1 at *
    refine HC.out.mono ?_; rintro e w5 ⟨rfl, n5, rfl⟩
    go_wp2_with fail
    refine (HT.out _).mono ?_; rintro e w6 ⟨v6, rfl, ho6, hb6⟩
    obtain ⟨A6, c6, rfl⟩ := own_sl ho6
    have HO := Lib.hid ho6
    have Hb6 := Lib.hid ((below_drewN HB1.out n5).trans (hb6.mono HB1.out.size))
    clear ho6 hb6
    go_wp2_with fail
    go_ret2
    exact Hy.out _ _ _ HO.out HB1.out.size Hb6.out
  · have hq : (codeD d g == 0) = false := by rw [beq_eq_false_iff_ne]; exact h0
    have Hn := Lib.hid (fun (w' : World) hb => RetTm.no (w := w) (w' := w') (d := d) (g := g) rfl h0 hb)
    generalize codeD d g = C at *
    obtain ⟨k, b, t, f⟩ := d
    clear h0 hD
    go_enter Try.func18, Try.ntmps18
    go_wp2_with fail
    generalize w.alloc (.cells #[.int .i64 k, .int .i64 b, .int .i64 t, .int .i64 f] 25) = w1 at *
    refine HC.out.mono ?_; rintro e w5 ⟨rfl, n5, rfl⟩
    go_wp2_with fail
    go_ret2
    exact Hn.out _ (below_drewN HB1.out n5)
end Go.Proofs.Ythemffbkkhaaoaa
/- A region that draws its order and whose last operations write where the region has loaded: the loads are taken first; S is not asked behind those last operations (Ls). No program is named here. -/
namespace Go.Proofs.Ythemffbkkhaaoaa
open Go.RowKit

section
variable {P : Program} {ops : Array Oper} {Q : Exit → Act → World → Prop} {md : Region.Mode} {S : World → Prop} {L : Nat} {Ls : List Nat}

/-- every operation that has come up has those ahead of it come up -/
def ClosedL (md : Region.Mode) (ops : Array Oper) (listed : Array Bool) : Prop :=
  ∀ (k : Nat) (o : Oper), ops[k]? = some o → listed.getD k true = true → ∀ e ∈ o.after, Region.binds md e = true → listed.getD e.on false = true
def closedB (md : Region.Mode) (ops : Array Oper) (listed : Array Bool) : Bool :=
  (List.range ops.size).all fun k => !listed.getD k true || ((ops[k]?).map (·.after.all fun e => !Region.binds md e || listed.getD e.on false)).getD true
theorem closedB_spec {listed : Array Bool} (h : closedB md ops listed = true) : ClosedL md ops listed := by
  intro k o ho hk e he hb
  unfold closedB at h
  rw [List.all_eq_true] at h
  have h1 := h k (List.mem_range.2 (Array.getElem?_eq_some_iff.1 ho).1)
  rw [ho, hk] at h1
  simp only [Bool.not_true, Bool.false_or, Option.map_some, Option.getD_some] at h1
  have h2 := Array.all_eq_true_iff_forall_mem.1 h1 e he
  rw [hb] at h2
  simpa using h2
theorem ClosedL.set {listed : Array Bool} {j : Nat} (h : ClosedL md ops listed) (hj : j ∈ Region.ready md ops listed) : ClosedL md ops (listed.setIfInBounds j true) := by
  intro k o ho hk e he hb
  by_cases hkj : j = k
  · subst hkj
    obtain ⟨_, o', ho', hall⟩ := mem_ready.1 hj
    rw [ho] at ho'
    cases ho'
    exact getD_set_true (hall e he hb)
  · rw [getD_set_ne true hkj] at hk
    exact getD_set_true (h k o ho hk e he hb)
/-- a chain of operations, each of which waits for the next -/
def waitsB (md : Region.Mode) (ops : Array Oper) : List Nat → Bool
  | x :: y :: rest => (((ops[x]?).map (·.after.any fun e => Region.binds md e && e.on == y)).getD false) && waitsB md ops (y :: rest)
  | _ => true
theorem waits_cons {x y : Nat} {rest : List Nat} (h : waitsB md ops (x :: y :: rest) = true) : (∃ o, ops[x]? = some o ∧ ∃ e ∈ o.after, Region.binds md e = true ∧ e.on = y) ∧ waitsB md ops (y :: rest) = true := by
  unfold waitsB at h
  rw [Bool.and_eq_true] at h
  refine ⟨?_, h.2⟩
  cases ho : ops[x]? with
  | none => rw [ho] at h; simp at h
  | some o =>
    rw [ho] at h
    simp only [Option.map_some, Option.getD_some] at h
    obtain ⟨e, he, hb⟩ := Array.any_eq_true'.1 h.1
    simp only [Bool.and_eq_true, beq_iff_eq] at hb
    exact ⟨o, rfl, e, he, hb.1, hb.2⟩
theorem getD_ft {l : Array Bool} {i : Nat} (h : l.getD i false = true) : l.getD i true = true := by
  rcases Nat.lt_or_ge i l.size with h' | h'
  · simp [h'] at h ⊢; exact h
  · simp [Array.getElem?_eq_none h'] at h
theorem listed_last {listed : Array Bool} (hc : ClosedL md ops listed) : ∀ (rest : List Nat) (y : Nat), listed.getD y false = true → waitsB md ops (y :: rest) = true → listed.getD ((y :: rest).getLast (by simp)) false = true
  | [], _, h, _ => h
  | z :: rest, y, h, hw => by
    obtain ⟨⟨o, ho, e, he, hb, hon⟩, hw2⟩ := waits_cons hw
    have h2 := hc y o ho (getD_ft h) e he hb
    rw [hon] at h2
    have h3 := listed_last hc rest z h2 hw2
    rw [List.getLast_cons (by simp)]
    exact h3
def lateB (md : Region.Mode) (ops : Array Oper) (L : Nat) (p : List Nat) (i : Nat) : Bool := !p.isEmpty && waitsB md ops (L :: p) && p.getLast? == some i
theorem late_not {listed : Array Bool} {p : List Nat} {i : Nat} (hc : ClosedL md ops listed) (h : lateB md ops L p i = true) (hi : listed.getD i true = false) : L ∉ Region.ready md ops listed := by
  intro hL
  unfold lateB at h
  simp only [Bool.and_eq_true, beq_iff_eq] at h
  obtain ⟨⟨h0, h1⟩, h2⟩ := h
  cases p with
  | nil => simp at h0
  | cons y rest =>
    obtain ⟨⟨o, ho, e, he, hb, hon⟩, hw⟩ := waits_cons h1
    obtain ⟨_, o', ho', hall⟩ := mem_ready.1 hL
    rw [ho] at ho'
    cases ho'
    have hy := hall e he hb
    rw [hon] at hy
    have hl := listed_last hc rest y hy hw
    rw [List.getLast?_eq_some_getLast (by simp)] at h2
    injection h2 with h2
    rw [h2] at hl
    rw [getD_ft hl] at hi
    cases hi

/-- what comes behind L in a list -/
def behind (L : Nat) : List Nat → List Nat
  | [] => []
  | x :: l => if x == L then l else behind L l
/-- every one of Ls waits for i, by the chain Ls ++ p -/
def lateAll (md : Region.Mode) (ops : Array Oper) (Ls p : List Nat) (i : Nat) : Bool := Ls.all fun L => lateB md ops L (behind L (Ls ++ p)) i
theorem lateAll_spec {p : List Nat} {i : Nat} (h : lateAll md ops Ls p i = true) (hL : L ∈ Ls) : lateB md ops L (behind L (Ls ++ p)) i = true := List.all_eq_true.1 h L hL
/-- none of the last ones has come up -/
def noneL (Ls : List Nat) (listed : Array Bool) : Bool := Ls.all fun L => !listed.getD L false
theorem noneL_set {listed : Array Bool} {j : Nat} (hj : j ∉ Ls) (h : noneL Ls listed = true) : noneL Ls (listed.setIfInBounds j true) = true := by
  unfold noneL at *
  rw [List.all_eq_true] at *
  intro L hL
  rw [getD_set_ne false (show j ≠ L from fun e => hj (e ▸ hL))]
  exact h L hL
theorem noneL_of {listed : Array Bool} {j : Nat} (h : noneL Ls (listed.setIfInBounds j true) = true) : noneL Ls listed = true := by
  unfold noneL at *
  rw [List.all_eq_true] at *
  intro L hL
  have h1 := h L hL
  cases hb : listed.getD L false with
  | false => rfl
  | true => rw [getD_set_true hb] at h1; exact h1
/-- whatever order is picked, and S holds as long as none of the last ones has come up -/
def wpAnyL (P : Program) (md : Region.Mode) (ops : Array Oper) (Q : Exit → Act → World → Prop) (S : World → Prop) (Ls : List Nat) : Nat → Array Bool → Act → World → Prop
  | 0, listed, a, w => Region.ready md ops listed = [] ∧ Q .normal a w
  | fuel + 1, listed, a, w =>
    (Region.ready md ops listed = [] → Q .normal a w) ∧
    ∀ i ∈ Region.ready md ops listed, wpOp P ops Q i (fun a' w' => (noneL Ls (listed.setIfInBounds i true) = true → S w') ∧ wpAnyL P md ops Q S Ls fuel (listed.setIfInBounds i true) a' w') a w
theorem wpAny_of_L : ∀ (fuel : Nat) (listed : Array Bool) (a : Act) (w : World), wpAnyL P md ops Q S Ls fuel listed a w → wpAny P md ops Q fuel listed a w
  | 0, _, _, _, h => h
  | fuel + 1, _, _, _, h => ⟨h.1, fun i hi => wpOp_mono (fun a' w' h' => wpAny_of_L fuel _ a' w' h'.2) (h.2 i hi)⟩

theorem wpAnyL_first {S0 : World → Prop} {i : Nat} {oi : Oper} {v : Value} (hi : ops[i]? = some oi) (hsel : ∀ (j : Nat) (o : Oper) cs b, ops[j]? = some o → o.op ≠ .select cs b)
    (hQ : ∀ c a w, Q (.panic c) (a.put oi.dst v) w → Q (.panic c) a w) (hiL : i ∉ Ls) (p : List Nat) (hor : (lateAll md ops Ls p i = true ∧ ∀ w, S w → S0 w) ∨ ∀ w, S0 w) :
    ∀ (fuel : Nat) (listed : Array Bool) (a : Act) (w : World), ClosedL md ops listed → (noneL Ls listed = true → S w) → ((∀ w, S0 w) ∨ noneL Ls listed = true) →
      (∀ j oj, ops[j]? = some oj → j ≠ i → listed.getD j true = false → (∀ e ∈ oj.after, Region.binds md e = true → e.on ≠ i) → oi.apart ops oj = true) →
      i ∈ Region.ready md ops listed → YieldsIf P ops S0 oi v a →
      wpAnyL P md ops Q S Ls fuel (listed.setIfInBounds i true) (a.put oi.dst v) w → wpAnyL P md ops Q S Ls (fuel + 1) listed a w := by
  have hS0 : ∀ (listed : Array Bool) (w : World), (noneL Ls listed = true → S w) → ((∀ w, S0 w) ∨ noneL Ls listed = true) → S0 w := fun listed w hS hn => by
    rcases hn with h | h
    · exact h w
    · rcases hor with h' | h'
      · exact h'.2 w (hS h)
      · exact h' w
  intro fuel
  induction fuel with
  | zero =>
    intro listed a w _ hS hn _ hr hy H
    refine ⟨fun h => (by rw [h] at hr; cases hr), fun j hj => ?_⟩
    by_cases hji : j = i
    · subst hji
      exact hy.wpOp hi (hS0 listed w hS hn) ⟨fun h => hS (noneL_of h), H⟩
    · have hm := ready_mono hj hji
      rw [H.1] at hm
      cases hm
  | succ fuel ih =>
    intro listed a w hc hS hn hfree hr hy H
    refine ⟨fun h => (by rw [h] at hr; cases hr), fun j hj => ?_⟩
    by_cases hji : j = i
    · subst hji
      exact hy.wpOp hi (hS0 listed w hS hn) ⟨fun h => hS (noneL_of h), H⟩
    · have hu := (mem_ready.1 hr).1
      have h1 := H.2 j (ready_mono hj hji)
      have hn' : (∀ w, S0 w) ∨ noneL Ls (listed.setIfInBounds j true) = true := by
        rcases hn with h | h
        · exact .inl h
        · rcases hor with h' | h'
          · exact .inr (noneL_set (fun e => late_not hc (lateAll_spec h'.1 e) hu hj) h)
          · exact .inl h'
      obtain ⟨hjun, oj, hoj, hall⟩ := mem_ready.1 hj
      have hnot : ∀ e ∈ oj.after, Region.binds md e = true → e.on ≠ i := fun e he hb heq => by
        have h2 := hall e he hb
        rw [heq] at h2
        rw [getD_ft h2] at hu
        cases hu
      have h2 := wpOp_putIf hoj (hfree j oj hoj hji hjun hnot) (fun cs b => hsel i oi cs b hi) (fun cs b => hsel j oj cs b hoj) hQ hy h1
      have hfree' : ∀ k ok, ops[k]? = some ok → k ≠ i → (listed.setIfInBounds j true).getD k true = false →
          (∀ e ∈ ok.after, Region.binds md e = true → e.on ≠ i) → oi.apart ops ok = true := fun k ok hk hki hun hno => by
        by_cases hjk : j = k
        · subst hjk
          exact hfree j ok hk hki hjun hno
        · rw [getD_set_ne true hjk] at hun
          exact hfree k ok hk hki hun hno
      refine wpOp_mono (fun a' w' h3 => ?_) h2
      have hS' : noneL Ls (listed.setIfInBounds j true) = true → S w' := fun h => h3.2.1 (by
        rw [Array.setIfInBounds_comm _ _ (Ne.symm hji)]
        exact noneL_set hiL h)
      refine ⟨hS', ih (listed.setIfInBounds j true) a' w' (hc.set hj) hS' hn' hfree' (ready_mono hr (Ne.symm hji)) h3.1 ?_⟩
      rw [Array.setIfInBounds_comm _ _ hji]
      exact h3.2.2

/-- a load: taken first, under S -/
theorem take_L {i : Nat} {oi : Oper} {d : Option Nat} {v : Value} {fuel : Nat} {listed : Array Bool} {a : Act} {w : World} (p : List Nat) (hL : lateAll md ops Ls p i = true) (hc : closedB md ops listed = true) (hn : noneL Ls listed = true) (hiL : Ls.contains i = false) (hi : ops[i]? = some oi) (hd : oi.dst = d)
    (hs : Region.noSelect ops = true) (hf : Region.free md ops listed i = true) (hr : (Region.ready md ops listed).contains i = true)
    (hQ : ∀ c a w, Q (.panic c) (a.put d v) w → Q (.panic c) a w) (hy : YieldsIf P ops S oi v a) (hS : S w)
    (h : wpAnyL P md ops Q S Ls fuel (listed.setIfInBounds i true) (a.put d v) w) : wpAnyL P md ops Q S Ls (fuel + 1) listed a w := by
  subst hd
  exact wpAnyL_first hi (Region.noSelect_spec hs) hQ (fun e => by simp [e] at hiL) p (.inl ⟨hL, fun _ h => h⟩) fuel listed a w (closedB_spec hc) (fun _ => hS) (.inr hn) (Region.free_spec hi hf) (by simpa using hr) hy h
/-- what yields in whatever world: taken first -/
theorem take_F {i : Nat} {oi : Oper} {d : Option Nat} {v : Value} {fuel : Nat} {listed : Array Bool} {a : Act} {w : World} (hc : closedB md ops listed = true) (hiL : Ls.contains i = false) (hi : ops[i]? = some oi) (hd : oi.dst = d)
    (hs : Region.noSelect ops = true) (hf : Region.free md ops listed i = true) (hr : (Region.ready md ops listed).contains i = true)
    (hQ : ∀ c a w, Q (.panic c) (a.put d v) w → Q (.panic c) a w) (hy : YieldsIf P ops (fun _ => True) oi v a) (hS : S w)
    (h : wpAnyL P md ops Q S Ls fuel (listed.setIfInBounds i true) (a.put d v) w) : wpAnyL P md ops Q S Ls (fuel + 1) listed a w := by
  subst hd
  exact wpAnyL_first (S0 := fun _ => True) hi (Region.noSelect_spec hs) hQ (fun e => by simp [e] at hiL) [] (.inr fun _ => trivial) fuel listed a w (closedB_spec hc) (fun _ => hS) (.inl fun _ => trivial) (Region.free_spec hi hf) (by simpa using hr) hy h
/-- the only operation that may come up; S is shown anew -/
theorem call_L {i : Nat} {o : Oper} {d : Option Nat} {fuel : Nat} {listed : Array Bool} {a : Act} {w : World} (ho : ops[i]? = some o) (hd : o.dst = d) (hr : Region.ready md ops listed = [i])
    (h : ∀ K' : Act → World → Prop, Shut (∀ a w, S w → (S w → wpAnyL P md ops Q S Ls fuel (listed.setIfInBounds i true) a w) → K' a w) → if Region.wanted o (yielded ops a.tmps) = true then Oper.wp P o a w K' Q else K' (a.put d undef) w) :
    wpAnyL P md ops Q S Ls (fuel + 1) listed a w := by
  subst hd
  refine ⟨fun h0 => absurd (h0.symm.trans hr) (by simp), fun j hj => ?_⟩
  rw [hr] at hj
  obtain rfl := List.mem_singleton.1 hj
  exact wpOp_step ho (fun K' hK => h K' (fun a w hS hW => hK a w ⟨fun _ => hS, hW hS⟩))
/-- two operations that may come up -/
theorem both_L {i j : Nat} {oi oj : Oper} {di dj : Option Nat} {fuel : Nat} {listed : Array Bool} {a : Act} {w : World} (hoi : ops[i]? = some oi) (hdi : oi.dst = di) (hoj : ops[j]? = some oj) (hdj : oj.dst = dj) (hr : Region.ready md ops listed = [i, j])
    (h1 : ∀ K' : Act → World → Prop, Shut (∀ a w, S w → (S w → wpAnyL P md ops Q S Ls fuel (listed.setIfInBounds i true) a w) → K' a w) → if Region.wanted oi (yielded ops a.tmps) = true then Oper.wp P oi a w K' Q else K' (a.put di undef) w)
    (h2 : ∀ K' : Act → World → Prop, Shut (∀ a w, S w → (S w → wpAnyL P md ops Q S Ls fuel (listed.setIfInBounds j true) a w) → K' a w) → if Region.wanted oj (yielded ops a.tmps) = true then Oper.wp P oj a w K' Q else K' (a.put dj undef) w) :
    wpAnyL P md ops Q S Ls (fuel + 1) listed a w := by
  subst hdi
  subst hdj
  refine ⟨fun h0 => absurd (h0.symm.trans hr) (by simp), fun k hk => ?_⟩
  rw [hr] at hk
  rcases List.mem_cons.1 hk with rfl | hk
  · exact wpOp_step hoi (fun K' hK => h1 K' (fun a w hS hW => hK a w ⟨fun _ => hS, hW hS⟩))
  · obtain rfl := List.mem_singleton.1 hk
    exact wpOp_step hoj (fun K' hK => h2 K' (fun a w hS hW => hK a w ⟨fun _ => hS, hW hS⟩))
/-- .. and S is not asked -/
theorem late_L {i : Nat} {o : Oper} {d : Option Nat} {fuel : Nat} {listed : Array Bool} {a : Act} {w : World} (hi : noneL Ls (listed.setIfInBounds i true) = false) (ho : ops[i]? = some o) (hd : o.dst = d) (hr : Region.ready md ops listed = [i])
    (h : ∀ K' : Act → World → Prop, Shut (∀ a w, wpAnyL P md ops Q S Ls fuel (listed.setIfInBounds i true) a w → K' a w) → if Region.wanted o (yielded ops a.tmps) = true then Oper.wp P o a w K' Q else K' (a.put d undef) w) :
    wpAnyL P md ops Q S Ls (fuel + 1) listed a w := by
  subst hd
  refine ⟨fun h0 => absurd (h0.symm.trans hr) (by simp), fun j hj => ?_⟩
  rw [hr] at hj
  obtain rfl := List.mem_singleton.1 hj
  exact wpOp_step ho (fun K' hK => h K' (fun a w hW => hK a w ⟨fun hne => absurd (hi.symm.trans hne) (by simp), hW⟩))
theorem done_L {listed : Array Bool} {a : Act} {w : World} (hr : Region.ready md ops listed = []) (h : Q .normal a w) : ∀ fuel, wpAnyL P md ops Q S Ls fuel listed a w
  | 0 => ⟨hr, h⟩
  | _ + 1 => ⟨fun _ => h, by rw [hr]; simp⟩
theorem wp_region_L {id : Nat} {a : Act} {w : World} (Ls : List Nat) (S : World → Prop) (hm : P.follows .mixedOrders = true) (hS : S w.drew)
    (h : S w.drew → wpAnyL P .any ops Q S Ls ops.size (Array.replicate ops.size false) a w.drew) : (Code.region id ops true).wp P Q a w :=
  wp_region_any hm (wpAny_of_L _ _ _ _ (h hS))
end
end Go.Proofs.Ythemffbkkhaaoaa
/- Drums: StepsBy and StepsBetween, both sides. -/
namespace Go.Proofs.Ythemffbkkhaaoaa
open Go.RowKit Go.Joins

def sbC (d : Dm) (g time : Int) : Int := if codeD d g = 0 then (if inB time 0 100000 = true then 0 else 2) else codeD d g
def sbV (d : Dm) (g time : Int) : Int := if sbC d g time = 0 then stepsD d g.toNat time else 0
theorem by_cases3 (d : Dm) (g time : Int) : (codeD d g ≠ 0 ∧ sbC d g time = codeD d g ∧ sbV d g time = 0) ∨ (codeD d g = 0 ∧ inB time 0 100000 = false ∧ sbC d g time = 2 ∧ sbV d g time = 0) ∨
    (codeD d g = 0 ∧ inB time 0 100000 = true ∧ sbC d g time = 0 ∧ sbV d g time = stepsD d g.toNat time) := by
  have hv : sbV d g time = if sbC d g time = 0 then stepsD d g.toNat time else 0 := rfl
  have hc : sbC d g time = if codeD d g = 0 then (if inB time 0 100000 = true then 0 else 2) else codeD d g := rfl
  by_cases h0 : codeD d g = 0
  · rw [if_pos h0] at hc
    cases hi : inB time 0 100000 with
    | false =>
      rw [hi] at hc
      have hc2 : sbC d g time = 2 := hc
      rw [hc2] at hv
      exact .inr (.inl ⟨h0, rfl, hc2, hv⟩)
    | true =>
      rw [hi] at hc
      have hc2 : sbC d g time = 0 := hc
      rw [hc2] at hv
      exact .inr (.inr ⟨h0, rfl, hc2, hv⟩)
  · rw [if_neg h0] at hc
    rw [hc, if_neg h0] at hv
    exact .inl ⟨h0, hc, hv⟩
set_option maxRecDepth 100000 in
set_option maxHeartbeats 800000 in
theorem StepsByI_any (d : Dm) (g time : Int) (w : World) : Calls Try.prog 14 #[aggDm d, .int .i64 g, .int .i64 time] w fun e w' => e = .returned (.tuple #[.int .i64 (sbV d g time), .int .i64 (sbC d g time)]) ∧ Below w.heap.size w w' := by
  have HC := Lib.hid (fun wx => drumCode_any d g wx)
  have HI := Lib.hid (fun wx => isTime_any time wx)
  have hcs := by_cases3 d g time
  have H0 := Lib.hid (fun h => code_0 (d := d) (g := g) h)
  have HS := Lib.hid (fun n h1 h2 h3 h4 wx => steps_any d n time wx h1 h2 h3 h4)
  have hb1 := (Below.refl w.heap.size w).alloc (Nat.le_refl _) (objDm d)
  have HQ := Lib.hid (heap_alloc_new w (objDm d))
  have HB1 := Lib.hid hb1
  have hlt1 : w.heap.size < (w.alloc (objDm d)).heap.size := by simp
  obtain ⟨c0, c1, c2, c3⟩ := four_at HQ.out
  clear hb1
  generalize sbC d g time = C at *
  generalize sbV d g time = V at *
  rcases hcs with ⟨h0, rfl, rfl⟩ | ⟨h0, hi, rfl, rfl⟩ | ⟨h0, hi, rfl, rfl⟩
  · have hq : (codeD d g == 0) = false := by rw [beq_eq_false_iff_ne]; exact h0
    generalize codeD d g = C at *
    obtain ⟨k, b, t, f⟩ := d
    dsimp only at c0 c1 c2 c3 HQ HC HB1 ⊢
    clear h0 H0 HS
    go_enter Try.func14, Try.ntmps14
    go_wp2_with fail
    generalize w.alloc (.cells #[.int .i64 k, .int .i64 b, .int .i64 t, .int .i64 f] 25) = w1 at *
    refine (HC.out _).mono ?_; rintro e w5 ⟨rfl, hb5⟩
    have Hb := Lib.hid (HB1.out.trans (hb5.mono HB1.out.size))
    clear hb5 c0 c1 c2 c3
    go_wp2_with fail
    go_ret2
    exact ⟨rfl, Hb.out⟩
  · rw [h0] at HC
    rw [hi] at HI
    obtain ⟨k, b, t, f⟩ := d
    dsimp only at c0 c1 c2 c3 HQ HC HB1 ⊢
    clear h0 H0 HS hi
    go_enter Try.func14, Try.ntmps14
    go_wp2_with fail
    generalize w.alloc (.cells #[.int .i64 k, .int .i64 b, .int .i64 t, .int .i64 f] 25) = w1 at *
    refine (HC.out _).mono ?_; rintro e w5 ⟨rfl, hb5⟩
    have Hb := Lib.hid (HB1.out.trans (hb5.mono HB1.out.size))
    clear hb5 c0 c1 c2 c3
    go_wp2_with fail
    refine (HI.out _).mono ?_; rintro e w6 ⟨rfl, rfl⟩
    go_wp2_with fail
    go_ret2
    exact ⟨rfl, Hb.out⟩
  · obtain ⟨hok, n, rfl, hn⟩ := H0.out h0
    obtain ⟨t0, t1⟩ := inB_bd hi
    have HSn := Lib.hid (HS.out n hok hn t0 t1)
    rw [h0] at HC
    rw [hi] at HI
    rw [show ((n : Int)).toNat = n by omega]
    generalize stepsD d n time = R at *
    obtain ⟨k, b, t, f⟩ := d
    dsimp only at c0 c1 c2 c3 HQ HC HB1 HSn ⊢
    clear h0 H0 HS hi hok hn
    go_enter Try.func14, Try.ntmps14
    go_wp2_with fail
    generalize w.alloc (.cells #[.int .i64 k, .int .i64 b, .int .i64 t, .int .i64 f] 25) = w1 at *
    refine (HC.out _).mono ?_; rintro e w5 ⟨rfl, hb5⟩
    obtain ⟨e0, e1, e2, e3⟩ := four_at ((hb5.block _ hlt1).trans HQ.out)
    have Hb := Lib.hid (HB1.out.trans (hb5.mono HB1.out.size))
    clear hb5 c0 c1 c2 c3
    go_wp2_with fail
    refine (HI.out _).mono ?_; rintro e w6 ⟨rfl, rfl⟩
    go_wp2_with fail
    refine (HSn.out _).mono ?_; rintro e w7 ⟨rfl, hb7⟩
    have Hb7 := Lib.hid (Hb.out.trans (hb7.mono Hb.out.size))
    clear hb7
    go_wp2_with fail
    go_ret2
    exact ⟨rfl, Hb7.out⟩
set_option maxRecDepth 100000 in
set_option maxHeartbeats 800000 in
theorem StepsByS_any (d : Dm) (g time : Int) (w : World) : Calls Try.prog 15 #[aggDm d, .int .i64 g, .int .i64 time] w fun e w' => e = .returned (.tuple #[.int .i64 (sbV d g time), .int .i64 (sbC d g time)]) ∧ Below w.heap.size w w' := by
  have hb1 := (Below.refl w.heap.size w).alloc (Nat.le_refl _) (objDm d)
  have hD := DmAt.of (heap_alloc_new w (objDm d))
  have HC := Lib.hid (l05Code_any w.heap.size d g (w.alloc (objDm d)) hD)
  have HI := Lib.hid (fun wx => l00In_any time 0 100000 wx)
  have HB1 := Lib.hid hb1
  have hcs := by_cases3 d g time
  have H0 := Lib.hid (fun h => code_0 (d := d) (g := g) h)
  have HS := Lib.hid (fun n h1 h2 h3 h4 m => l05By_any w.heap.size d n time ((w.alloc (objDm d)).drewN m) (hD.drewN m) h1 h2 h3 h4)
  clear hb1 hD
  generalize sbC d g time = C at *
  generalize sbV d g time = V at *
  rcases hcs with ⟨h0, rfl, rfl⟩ | ⟨h0, hi, rfl, rfl⟩ | ⟨h0, hi, rfl, rfl⟩
  · have hq : (codeD d g == 0) = false := by rw [beq_eq_false_iff_ne]; exact h0
    generalize codeD d g = C at *
    obtain ⟨k, b, t, f⟩ := d
    clear h0 H0 HS
    go_enter Try.func15, Try.ntmps15
    go_wp2_with fail
    generalize w.alloc (.cells #[.int .i64 k, .int .i64 b, .int .i64 t, .int .i64 f] 25) = w1 at *
    refine HC.out.mono ?_; rintro e w5 ⟨rfl, n5, rfl⟩
    go_wp2_with fail
    go_ret2
    exact ⟨rfl, below_drewN HB1.out n5⟩
  · rw [h0] at HC
    rw [hi] at HI
    obtain ⟨k, b, t, f⟩ := d
    clear h0 H0 HS hi
    go_enter Try.func15, Try.ntmps15
    go_wp2_with fail
    generalize w.alloc (.cells #[.int .i64 k, .int .i64 b, .int .i64 t, .int .i64 f] 25) = w1 at *
    refine HC.out.mono ?_; rintro e w5 ⟨rfl, n5, rfl⟩
    go_wp2_with fail
    refine (HI.out _).mono ?_; rintro e w6 ⟨rfl, rfl⟩
    go_wp2_with fail
    go_ret2
    exact ⟨rfl, below_drewN HB1.out n5⟩
  · obtain ⟨hok, n, rfl, hn⟩ := H0.out h0
    obtain ⟨t0, t1⟩ := inB_bd hi
    have HSn := Lib.hid (HS.out n hok hn t0 t1)
    rw [h0] at HC
    rw [hi] at HI
    rw [show ((n : Int)).toNat = n by omega]
    generalize stepsD d n time = R at *
    obtain ⟨k, b, t, f⟩ := d
    clear h0 H0 HS hi hok hn
    go_enter Try.func15, Try.ntmps15
    go_wp2_with fail
    generalize w.alloc (.cells #[.int .i64 k, .int .i64 b, .int .i64 t, .int .i64 f] 25) = w1 at *
    refine HC.out.mono ?_; rintro e w5 ⟨rfl, n5, rfl⟩
    go_wp2_with fail
    refine (HI.out _).mono ?_; rintro e w6 ⟨rfl, rfl⟩
    go_wp2_with fail
    refine (HSn.out _).mono ?_; rintro e w7 ⟨rfl, n7, rfl⟩
    go_wp2_with fail
    go_ret2
    exact ⟨rfl, below_drewN HB1.out _⟩
end Go.Proofs.Ythemffbkkhaaoaa
/- Drums: StepsBetween, both sides. -/
namespace Go.Proofs.Ythemffbkkhaaoaa
open Go.RowKit Go.Joins

theorem blk_ltD {w : World} {q : Nat} {o : Obj} (h : w.heap[q]? = some o) : q < w.heap.size := (Array.getElem?_eq_some_iff.1 h).1
def btC (d : Dm) (g a b : Int) : Int := if codeD d g = 0 then (if inB a 0 100000 = true ∧ inB b 0 100000 = true ∧ a ≤ b then 0 else 2) else codeD d g
def btV (d : Dm) (g a b : Int) : Int := if btC d g a b = 0 then stepsD d g.toNat b - stepsD d g.toNat a else 0
theorem bt_cases (d : Dm) (g a b : Int) : (codeD d g ≠ 0 ∧ btC d g a b = codeD d g ∧ btV d g a b = 0) ∨
    (codeD d g = 0 ∧ inB a 0 100000 = false ∧ btC d g a b = 2 ∧ btV d g a b = 0) ∨
    (codeD d g = 0 ∧ inB a 0 100000 = true ∧ inB b 0 100000 = false ∧ inB b a 100000 = false ∧ btC d g a b = 2 ∧ btV d g a b = 0) ∨
    (codeD d g = 0 ∧ inB a 0 100000 = true ∧ inB b 0 100000 = true ∧ b < a ∧ inB b a 100000 = false ∧ btC d g a b = 2 ∧ btV d g a b = 0) ∨
    (codeD d g = 0 ∧ inB a 0 100000 = true ∧ inB b 0 100000 = true ∧ a ≤ b ∧ inB b a 100000 = true ∧ btC d g a b = 0 ∧ btV d g a b = stepsD d g.toNat b - stepsD d g.toNat a) := by
  have hv : btV d g a b = if btC d g a b = 0 then stepsD d g.toNat b - stepsD d g.toNat a else 0 := rfl
  have hc : btC d g a b = if codeD d g = 0 then (if inB a 0 100000 = true ∧ inB b 0 100000 = true ∧ a ≤ b then 0 else 2) else codeD d g := rfl
  by_cases h0 : codeD d g = 0
  · rw [if_pos h0] at hc
    cases h1 : inB a 0 100000 with
    | false =>
      rw [h1, if_neg (by simp)] at hc
      rw [hc] at hv
      exact .inr (.inl ⟨h0, rfl, hc, hv⟩)
    | true =>
      have a1 := inB_bd h1
      cases h2 : inB b 0 100000 with
      | false =>
        rw [h2, if_neg (by simp)] at hc
        rw [hc] at hv
        have h3 : inB b a 100000 = false := by
          cases h4 : inB b a 100000 with
          | false => rfl
          | true =>
            have := inB_bd h4
            have h5 : inB b 0 100000 = true := by unfold inB; simp; omega
            rw [h2] at h5; cases h5
        exact .inr (.inr (.inl ⟨h0, rfl, rfl, h3, hc, hv⟩))
      | true =>
        have b1 := inB_bd h2
        by_cases hab : a ≤ b
        · rw [h1, h2, if_pos ⟨rfl, rfl, hab⟩] at hc
          rw [hc] at hv
          have h5 : inB b a 100000 = true := by unfold inB; simp; omega
          exact .inr (.inr (.inr (.inr ⟨h0, rfl, rfl, hab, h5, hc, hv⟩)))
        · rw [if_neg (fun h => hab h.2.2)] at hc
          rw [hc] at hv
          have h5 : inB b a 100000 = false := by unfold inB; simp; omega
          exact .inr (.inr (.inr (.inl ⟨h0, rfl, rfl, by omega, h5, hc, hv⟩)))
  · rw [if_neg h0] at hc
    rw [hc, if_neg h0] at hv
    exact .inl ⟨h0, hc, hv⟩
theorem stepsD_bd {d : Dm} {n : Nat} {time : Int} (hok : okDm d = true) (hn : (n : Int) < d.b) (h0 : 0 ≤ time) (h1 : time ≤ 100000) : 0 ≤ stepsD d n time ∧ stepsD d n time ≤ 1600000 := by
  obtain ⟨_, b1, b2, b3, b4, _⟩ := okDm_bd hok
  obtain ⟨q0, q1⟩ := quoT (t := d.t) h0 h1 (by omega)
  obtain ⟨p0, p1⟩ := prodQ (n := n) q0 q1 (by omega)
  have h2 := cntT_le (timeD d n) (time % d.t) n
  unfold stepsD
  omega
set_option maxRecDepth 100000 in
set_option maxHeartbeats 1600000 in
theorem StepsBtI_any (d : Dm) (g x y : Int) (w : World) : Calls Try.prog 11 #[aggDm d, .int .i64 g, .int .i64 x, .int .i64 y] w fun e w' => e = .returned (.tuple #[.int .i64 (btV d g x y), .int .i64 (btC d g x y)]) ∧ Below w.heap.size w w' := by
  have HC := Lib.hid (fun wx => drumCode_any d g wx)
  have HX := Lib.hid (fun wx => isTime_any x wx)
  have HY := Lib.hid (fun wx => isTime_any y wx)
  have hcs := bt_cases d g x y
  have H0 := Lib.hid (fun h => code_0 (d := d) (g := g) h)
  have HS := Lib.hid (fun n time h1 h2 h3 h4 wx => steps_any d n time wx h1 h2 h3 h4)
  have HSb := Lib.hid (fun n time h1 h2 h3 h4 => stepsD_bd (d := d) (n := n) (time := time) h1 h2 h3 h4)
  have hb1 := (Below.refl w.heap.size w).alloc (Nat.le_refl _) (objDm d)
  have HQ := Lib.hid (heap_alloc_new w (objDm d))
  have HB1 := Lib.hid hb1
  have hlt1 : w.heap.size < (w.alloc (objDm d)).heap.size := by simp
  obtain ⟨c0, c1, c2, c3⟩ := four_at HQ.out
  clear hb1
  generalize btC d g x y = C at *
  generalize btV d g x y = V at *
  rcases hcs with ⟨h0, rfl, rfl⟩ | ⟨h0, hx, rfl, rfl⟩ | ⟨h0, hx, hy, _, rfl, rfl⟩ | ⟨h0, hx, hy, hlt, _, rfl, rfl⟩ | ⟨h0, hx, hy, hle, _, rfl, rfl⟩
  · have hq : (codeD d g == 0) = false := by rw [beq_eq_false_iff_ne]; exact h0
    generalize codeD d g = C at *
    obtain ⟨k, b, t, f⟩ := d
    dsimp only at c0 c1 c2 c3 HQ HC HB1 ⊢
    clear h0 H0 HS HSb
    go_enter Try.func11, Try.ntmps11
    go_wp2_with fail
    generalize w.alloc (.cells #[.int .i64 k, .int .i64 b, .int .i64 t, .int .i64 f] 25) = w1 at *
    refine (HC.out _).mono ?_; rintro e w5 ⟨rfl, hb5⟩
    have Hb := Lib.hid (HB1.out.trans (hb5.mono HB1.out.size))
    clear hb5 c0 c1 c2 c3
    go_wp2_with fail
    go_ret2
    exact ⟨rfl, Hb.out⟩
  · rw [h0] at HC
    rw [hx] at HX
    obtain ⟨k, b, t, f⟩ := d
    dsimp only at c0 c1 c2 c3 HQ HC HB1 ⊢
    clear h0 H0 HS HSb hx
    go_enter Try.func11, Try.ntmps11
    go_wp2_with fail
    generalize w.alloc (.cells #[.int .i64 k, .int .i64 b, .int .i64 t, .int .i64 f] 25) = w1 at *
    refine (HC.out _).mono ?_; rintro e w5 ⟨rfl, hb5⟩
    have Hb := Lib.hid (HB1.out.trans (hb5.mono HB1.out.size))
    clear hb5 c0 c1 c2 c3
    go_wp2_with fail
    refine (HX.out _).mono ?_; rintro e w6 ⟨rfl, rfl⟩
    go_wp2_with fail
    go_ret2
    exact ⟨rfl, Hb.out⟩
  · rw [h0] at HC
    rw [hx] at HX
    rw [hy] at HY
    obtain ⟨k, b, t, f⟩ := d
    dsimp only at c0 c1 c2 c3 HQ HC HB1 ⊢
    clear h0 H0 HS HSb hx hy
    go_enter Try.func11, Try.ntmps11
    go_wp2_with fail
    generalize w.alloc (.cells #[.int .i64 k, .int .i64 b, .int .i64 t, .int .i64 f] 25) = w1 at *
    refine (HC.out _).mono ?_; rintro e w5 ⟨rfl, hb5⟩
    have Hb := Lib.hid (HB1.out.trans (hb5.mono HB1.out.size))
    clear hb5 c0 c1 c2 c3
    go_wp2_with fail
    refine (HX.out _).mono ?_; rintro e w6 ⟨rfl, rfl⟩
    go_wp2_with fail
    refine (HY.out _).mono ?_; rintro e w6 ⟨rfl, rfl⟩
    go_wp2_with fail
    go_ret2
    exact ⟨rfl, Hb.out⟩
  · rw [h0] at HC
    rw [hx] at HX
    rw [hy] at HY
    obtain ⟨k, b, t, f⟩ := d
    dsimp only at c0 c1 c2 c3 HQ HC HB1 ⊢
    clear h0 H0 HS HSb hx hy
    go_enter Try.func11, Try.ntmps11
    go_wp2_with fail
    generalize w.alloc (.cells #[.int .i64 k, .int .i64 b, .int .i64 t, .int .i64 f] 25) = w1 at *
    refine (HC.out _).mono ?_; rintro e w5 ⟨rfl, hb5⟩
    have Hb := Lib.hid (HB1.out.trans (hb5.mono HB1.out.size))
    clear hb5 c0 c1 c2 c3
    go_wp2_with fail
    refine (HX.out _).mono ?_; rintro e w6 ⟨rfl, rfl⟩
    go_wp2_with fail
    refine (HY.out _).mono ?_; rintro e w6 ⟨rfl, rfl⟩
    go_wp2_with fail
    go_ret2
    exact ⟨rfl, Hb.out⟩
  · obtain ⟨hok, n, rfl, hn⟩ := H0.out h0
    obtain ⟨x0, x1⟩ := inB_bd hx
    obtain ⟨y0, y1⟩ := inB_bd hy
    have HSx := Lib.hid (HS.out n x hok hn x0 x1)
    have HSy := Lib.hid (HS.out n y hok hn y0 y1)
    obtain ⟨s0, s1⟩ := HSb.out n x hok hn x0 x1
    obtain ⟨r0, r1⟩ := HSb.out n y hok hn y0 y1
    rw [h0] at HC
    rw [hx] at HX
    rw [hy] at HY
    rw [show ((n : Int)).toNat = n by omega]
    generalize stepsD d n x = SX at *
    generalize stepsD d n y = SY at *
    have hwr : IntKind.i64.wrap (SY - SX) = SY - SX := IntWalk.i64_in _ (by omega)
    have hle' : ¬ y < x := by omega
    obtain ⟨k, b, t, f⟩ := d
    dsimp only at c0 c1 c2 c3 HQ HC HB1 HSx HSy ⊢
    clear h0 H0 HS HSb hx hy hok hn
    go_enter Try.func11, Try.ntmps11
    go_wp2_with fail
    generalize w.alloc (.cells #[.int .i64 k, .int .i64 b, .int .i64 t, .int .i64 f] 25) = w1 at *
    refine (HC.out _).mono ?_; rintro e w5 ⟨rfl, hb5⟩
    have HQ5 := Lib.hid ((hb5.block _ hlt1).trans HQ.out)
    have Hb := Lib.hid (HB1.out.trans (hb5.mono HB1.out.size))
    clear hb5 c0 c1 c2 c3
    go_wp2_with fail
    refine (HX.out _).mono ?_; rintro e w6 ⟨rfl, rfl⟩
    go_wp2_with fail
    refine (HY.out _).mono ?_; rintro e w6 ⟨rfl, rfl⟩
    obtain ⟨e0, e1, e2, e3⟩ := four_at HQ5.out
    go_upto_region 6 with (fail)
    refine wp_region_noPanic ?_
    refine wp_region_L [10,9] (fun w' => w'.cell? ⟨w.heap.size, 0, none⟩ = some (.int .i64 k) ∧ w'.cell? ⟨w.heap.size, 1, none⟩ = some (.int .i64 b) ∧ w'.cell? ⟨w.heap.size, 2, none⟩ = some (.int .i64 t) ∧ w'.cell? ⟨w.heap.size, 3, none⟩ = some (.int .i64 f)) (by kernel_rfl) (⟨e0, e1, e2, e3⟩) (fun hHeld => ?_)
    refine take_L [0] (i := 0) (d := some 30) (v := ?_) (by kernel_rfl) (by kernel_rfl) (by kernel_rfl) (by kernel_rfl) rfl rfl (by kernel_rfl) (by kernel_rfl) (by kernel_rfl) (fun _ _ _ h => h) (Or.inl ⟨by rfl, ?_⟩) (by assumption) ?_
    rotate_left
    · (intro w hSw; (try dsimp only at hSw); go_simp; (try rw [if_neg (by omega)]); (try (with_reducible rfl)))
    simp only [Act.put, List.setIfInBounds_toArray, List.set_cons_zero, List.set_cons_succ]
    refine take_F (i := 1) (d := some 31) (v := ?_) (by kernel_rfl) (by kernel_rfl) rfl rfl (by kernel_rfl) (by kernel_rfl) (by kernel_rfl) (fun _ _ _ h => h) (Or.inl ⟨by rfl, ?_⟩) (by assumption) ?_
    rotate_left
    · (intro w hSw; (try dsimp only at hSw); go_simp; (try rw [if_neg (by omega)]); (try (with_reducible rfl)))
    simp only [Act.put, List.setIfInBounds_toArray, List.set_cons_zero, List.set_cons_succ]
    refine take_F (i := 2) (d := some 32) (v := ?_) (by kernel_rfl) (by kernel_rfl) rfl rfl (by kernel_rfl) (by kernel_rfl) (by kernel_rfl) (fun _ _ _ h => h) (Or.inl ⟨by rfl, ?_⟩) (by assumption) ?_
    rotate_left
    · (intro w hSw; (try dsimp only at hSw); go_simp; (try rw [if_neg (by omega)]); (try (with_reducible rfl)))
    simp only [Act.put, List.setIfInBounds_toArray, List.set_cons_zero, List.set_cons_succ]
    refine take_L [4] (i := 4) (d := some 34) (v := ?_) (by kernel_rfl) (by kernel_rfl) (by kernel_rfl) (by kernel_rfl) rfl rfl (by kernel_rfl) (by kernel_rfl) (by kernel_rfl) (fun _ _ _ h => h) (Or.inl ⟨by rfl, ?_⟩) (by assumption) ?_
    rotate_left
    · (intro w hSw; (try dsimp only at hSw); go_simp; (try rw [if_neg (by omega)]); (try (with_reducible rfl)))
    simp only [Act.put, List.setIfInBounds_toArray, List.set_cons_zero, List.set_cons_succ]
    refine take_F (i := 5) (d := some 35) (v := ?_) (by kernel_rfl) (by kernel_rfl) rfl rfl (by kernel_rfl) (by kernel_rfl) (by kernel_rfl) (fun _ _ _ h => h) (Or.inl ⟨by rfl, ?_⟩) (by assumption) ?_
    rotate_left
    · (intro w hSw; (try dsimp only at hSw); go_simp; (try rw [if_neg (by omega)]); (try (with_reducible rfl)))
    simp only [Act.put, List.setIfInBounds_toArray, List.set_cons_zero, List.set_cons_succ]
    refine take_F (i := 6) (d := some 36) (v := ?_) (by kernel_rfl) (by kernel_rfl) rfl rfl (by kernel_rfl) (by kernel_rfl) (by kernel_rfl) (fun _ _ _ h => h) (Or.inl ⟨by rfl, ?_⟩) (by assumption) ?_
    rotate_left
    · (intro w hSw; (try dsimp only at hSw); go_simp; (try rw [if_neg (by omega)]); (try (with_reducible rfl)))
    simp only [Act.put, List.setIfInBounds_toArray, List.set_cons_zero, List.set_cons_succ]
    refine call_L (i := 3) (d := (some 33)) rfl rfl (by kernel_rfl) (fun Kq hKq => ?_)
    go_simp
    go_at_call 111
    refine (HSy.out _).mono ?_; rintro e w7 ⟨rfl, hb7⟩
    have HQ7 := Lib.hid ((hb7.block _ (blk_ltD HQ5.out)).trans HQ5.out)
    have Hb7 : Hid (Below w.heap.size w w7) := Lib.hid (by first | exact Hb.out.drew.trans (hb7.mono Hb.out.size) | exact Hb.out.trans (hb7.mono Hb.out.size))
    have hS7 := four_at HQ7.out
    clear hb7
    (try go_wp2_with fail)
    refine hKq.out _ _ (hS7) (fun hHeld => ?_)
    clear hKq Kq
    (try simp only [Act.put, List.setIfInBounds_toArray, List.set_cons_zero, List.set_cons_succ])
    refine call_L (i := 7) (d := (some 37)) rfl rfl (by kernel_rfl) (fun Kq hKq => ?_)
    go_simp
    go_at_call 111
    refine (HSx.out _).mono ?_; rintro e w8 ⟨rfl, hb8⟩
    have hS8 := four_at ((hb8.block _ (blk_ltD HQ7.out)).trans HQ7.out)
    have Hb8 : Hid (Below w.heap.size w w8) := Lib.hid (by first | exact Hb7.out.drew.trans (hb8.mono Hb7.out.size) | exact Hb7.out.trans (hb8.mono Hb7.out.size))
    clear hb8
    (try go_wp2_with fail)
    refine hKq.out _ _ (hS8) (fun hHeld => ?_)
    clear hKq Kq
    (try simp only [Act.put, List.setIfInBounds_toArray, List.set_cons_zero, List.set_cons_succ])
    refine take_F (i := 8) (d := some 38) (v := ?_) (by kernel_rfl) (by kernel_rfl) rfl rfl (by kernel_rfl) (by kernel_rfl) (by kernel_rfl) (fun _ _ _ h => h) (Or.inl ⟨by rfl, ?_⟩) (by assumption) ?_
    rotate_left
    · (intro w hSw; (try dsimp only at hSw); go_simp; (try rw [if_neg (by omega)]); (try (with_reducible rfl)))
    simp only [Act.put, List.setIfInBounds_toArray, List.set_cons_zero, List.set_cons_succ]
    refine late_L (i := 9) (d := (some 8)) (by kernel_rfl) rfl rfl (by kernel_rfl) (fun Kq hKq => ?_)
    go_simp
    refine hKq.out _ _ ?_
    clear hKq Kq
    refine late_L (i := 10) (d := (some 9)) (by kernel_rfl) rfl rfl (by kernel_rfl) (fun Kq hKq => ?_)
    go_simp
    refine hKq.out _ _ ?_
    clear hKq Kq
    refine done_L (by kernel_rfl) ?_ _
    refine NoPanic.normal ?_
    go_wp2_with fail
    go_ret2
    first | exact ⟨rfl, Hb8.out.drew⟩ | exact ⟨rfl, Hb8.out⟩
set_option maxRecDepth 100000 in
set_option maxHeartbeats 1600000 in
theorem StepsBtS_any (d : Dm) (g x y : Int) (w : World) : Calls Try.prog 12 #[aggDm d, .int .i64 g, .int .i64 x, .int .i64 y] w fun e w' => e = .returned (.tuple #[.int .i64 (btV d g x y), .int .i64 (btC d g x y)]) ∧ Below w.heap.size w w' := by
  have hb1 := (Below.refl w.heap.size w).alloc (Nat.le_refl _) (objDm d)
  have hD := DmAt.of (heap_alloc_new w (objDm d))
  have HC := Lib.hid (l05Code_any w.heap.size d g (w.alloc (objDm d)) hD)
  have HX := Lib.hid (fun wx => l00In_any x 0 100000 wx)
  have HY := Lib.hid (fun wx => l00In_any y x 100000 wx)
  have HB1 := Lib.hid hb1
  have hcs := bt_cases d g x y
  have H0 := Lib.hid (fun h => code_0 (d := d) (g := g) h)
  have HS := Lib.hid (fun n time h1 h2 h3 h4 m => l05By_any w.heap.size d n time ((w.alloc (objDm d)).drewN m) (hD.drewN m) h1 h2 h3 h4)
  have HSb := Lib.hid (fun n time h1 h2 h3 h4 => stepsD_bd (d := d) (n := n) (time := time) h1 h2 h3 h4)
  clear hb1 hD
  generalize btC d g x y = C at *
  generalize btV d g x y = V at *
  rcases hcs with ⟨h0, rfl, rfl⟩ | ⟨h0, hx, rfl, rfl⟩ | ⟨h0, hx, _, hy, rfl, rfl⟩ | ⟨h0, hx, _, _, hy, rfl, rfl⟩ | ⟨h0, hx, hy0, _, hy, rfl, rfl⟩
  · have hq : (codeD d g == 0) = false := by rw [beq_eq_false_iff_ne]; exact h0
    generalize codeD d g = C at *
    obtain ⟨k, b, t, f⟩ := d
    clear h0 H0 HS HSb
    go_enter Try.func12, Try.ntmps12
    go_wp2_with fail
    generalize w.alloc (.cells #[.int .i64 k, .int .i64 b, .int .i64 t, .int .i64 f] 25) = w1 at *
    refine HC.out.mono ?_; rintro e w5 ⟨rfl, n5, rfl⟩
    go_wp2_with fail
    go_ret2
    exact ⟨rfl, below_drewN HB1.out _⟩
  · rw [h0] at HC
    rw [hx] at HX
    obtain ⟨k, b, t, f⟩ := d
    clear h0 H0 HS HSb hx
    go_enter Try.func12, Try.ntmps12
    go_wp2_with fail
    generalize w.alloc (.cells #[.int .i64 k, .int .i64 b, .int .i64 t, .int .i64 f] 25) = w1 at *
    refine HC.out.mono ?_; rintro e w5 ⟨rfl, n5, rfl⟩
    go_wp2_with fail
    refine (HX.out _).mono ?_; rintro e w6 ⟨rfl, rfl⟩
    go_wp2_with fail
    go_ret2
    exact ⟨rfl, below_drewN HB1.out _⟩
  · rw [h0] at HC
    rw [hx] at HX
    rw [hy] at HY
    obtain ⟨k, b, t, f⟩ := d
    clear h0 H0 HS HSb hx hy
    go_enter Try.func12, Try.ntmps12
    go_wp2_with fail
    generalize w.alloc (.cells #[.int .i64 k, .int .i64 b, .int .i64 t, .int .i64 f] 25) = w1 at *
    refine HC.out.mono ?_; rintro e w5 ⟨rfl, n5, rfl⟩
    go_wp2_with fail
    refine (HX.out _).mono ?_; rintro e w6 ⟨rfl, rfl⟩
    go_wp2_with fail
    refine (HY.out _).mono ?_; rintro e w6 ⟨rfl, rfl⟩
    go_wp2_with fail
    go_ret2
    exact ⟨rfl, below_drewN HB1.out _⟩
  · rw [h0] at HC
    rw [hx] at HX
    rw [hy] at HY
    obtain ⟨k, b, t, f⟩ := d
    clear h0 H0 HS HSb hx hy
    go_enter Try.func12, Try.ntmps12
    go_wp2_with fail
    generalize w.alloc (.cells #[.int .i64 k, .int .i64 b, .int .i64 t, .int .i64 f] 25) = w1 at *
    refine HC.out.mono ?_; rintro e w5 ⟨rfl, n5, rfl⟩
    go_wp2_with fail
    refine (HX.out _).mono ?_; rintro e w6 ⟨rfl, rfl⟩
    go_wp2_with fail
    refine (HY.out _).mono ?_; rintro e w6 ⟨rfl, rfl⟩
    go_wp2_with fail
    go_ret2
    exact ⟨rfl, below_drewN HB1.out _⟩
  · obtain ⟨hok, n, rfl, hn⟩ := H0.out h0
    obtain ⟨x0, x1⟩ := inB_bd hx
    obtain ⟨y0, y1⟩ := inB_bd hy0
    have HSx := Lib.hid (HS.out n x hok hn x0 x1)
    have HSy := Lib.hid (HS.out n y hok hn y0 y1)
    obtain ⟨s0, s1⟩ := HSb.out n x hok hn x0 x1
    obtain ⟨r0, r1⟩ := HSb.out n y hok hn y0 y1
    rw [h0] at HC
    rw [hx] at HX
    rw [hy] at HY
    rw [show ((n : Int)).toNat = n by omega]
    generalize stepsD d n x = SX at *
    generalize stepsD d n y = SY at *
    have hwr : IntKind.i64.wrap (SY - SX) = SY - SX := IntWalk.i64_in _ (by omega)
    obtain ⟨k, b, t, f⟩ := d
    clear h0 H0 HS HSb hx hy hok hn
    go_enter Try.func12, Try.ntmps12
    go_wp2_with fail
    generalize w.alloc (.cells #[.int .i64 k, .int .i64 b, .int .i64 t, .int .i64 f] 25) = w1 at *
    refine HC.out.mono ?_; rintro e w5 ⟨rfl, n5, rfl⟩
    go_wp2_with fail
    refine (HX.out _).mono ?_; rintro e w6 ⟨rfl, rfl⟩
    go_wp2_with fail
    refine (HY.out _).mono ?_; rintro e w6 ⟨rfl, rfl⟩
    go_wp2_with fail
    refine (HSy.out _).mono ?_; rintro e w7 ⟨rfl, n7, rfl⟩
    go_wp2_with fail
    refine (HSx.out _).mono ?_; rintro e w8 ⟨rfl, n8, rfl⟩
    go_wp2_with fail
    go_ret2
    exact ⟨rfl, below_drewN HB1.out _⟩
end Go.Proofs.Ythemffbkkhaaoaa
/- Drums: the digit for times, both sides. -/
namespace Go.Proofs.Ythemffbkkhaaoaa
open Go.RowKit Go.Joins

def sameF (n m : Nat) (f g : Nat → Int) : Bool := decide (n = m) && (List.range n).all fun i => f i == g i
theorem sameF_yes {n : Nat} {f g : Nat → Int} (h : ∀ j, j < n → f j = g j) : sameF n n f g = true := by
  unfold sameF
  rw [decide_eq_true rfl, Bool.true_and, List.all_eq_true]
  intro i hi
  rw [h i (List.mem_range.1 hi)]; simp
theorem sameF_no {n : Nat} {f g : Nat → Int} (i : Nat) (hi : i < n) (h : f i ≠ g i) : sameF n n f g = false := by
  cases hs : sameF n n f g with
  | false => rfl
  | true =>
    unfold sameF at hs
    rw [decide_eq_true rfl, Bool.true_and, List.all_eq_true] at hs
    have := hs i (List.mem_range.2 hi)
    exact absurd (by simpa using this) h
theorem sameF_ne {n m : Nat} {f g : Nat → Int} (h : n ≠ m) : sameF n m f g = false := by unfold sameF; rw [decide_eq_false h]; rfl
set_option maxRecDepth 100000 in
set_option maxHeartbeats 1600000 in
theorem sameNum_any (B1 B2 : Nat) (v1 v2 : Value) (n m : Nat) (f g : Nat → Int) (w : World) (h1 : Rd w B1 v1 n 1 (tab n f)) (h2 : Rd w B2 v2 m 1 (tab m g)) (hn : n ≤ 1048576) :
    Calls Try.prog 117 #[v1, v2] w fun e w' => e = .returned (.bool (sameF n m f g)) ∧ ∃ k, w' = w.drewN k := by
  have H1 := Lib.hid h1
  have H2 := Lib.hid h2
  obtain ⟨A1, c1, rfl⟩ := rd_sl h1
  obtain ⟨A2, c2, rfl⟩ := rd_sl h2
  clear h1 h2
  by_cases hnm : n = m
  · subst hnm
    have Hy := Lib.hid (fun h => sameF_yes (n := n) (f := f) (g := g) h)
    have Hno := Lib.hid (fun i hi h => sameF_no (n := n) (f := f) (g := g) i hi h)
    generalize sameF n n f g = r at *
    have hb : ((n : Int) != (n : Int)) = false := by simp
    go_enter Try.func117, Try.ntmps117
    go_wp2_with fail
    go_loopw [13] (fun i wr => ∃ k m0 : Nat, k ≤ n ∧ i = .int .i64 (k : Int) ∧ (∀ j, j < k → f j = g j) ∧ wr = w.drewN m0) (fun i _ => n - (intOf i).toNat)
    case atStart => exact ⟨0, 0, Nat.zero_le _, rfl, fun j hj => absurd hj (by omega), rfl⟩
    case round =>
      obtain ⟨k, m0, hk, rfl, hall, hwr⟩ := hrel
      have Hall := Lib.hid hall
      have Hw := Lib.hid (fun n => (show wr.drewN n = w.drewN (m0 + n) by rw [hwr, World.drewN_drewN]))
      have Hw0 := Lib.hid hwr
      have R1 : Hid (Rd wr B1 (.slice A1 n c1) n 1 (tab n f)) := Lib.hid (by rw [hwr]; exact H1.out.drewN m0)
      have R2 : Hid (Rd wr B2 (.slice A2 n c2) n 1 (tab n g)) := Lib.hid (by rw [hwr]; exact H2.out.drewN m0)
      clear hwr hall
      by_cases hlt : k < n
      · have hlt' : (k : Int) < (n : Int) := by omega
        obtain ⟨x1, o1, hA1, _, d1⟩ := rdF_all R1.out (by omega)
        obtain ⟨x2, o2, hA2, _, d2⟩ := rdF_all R2.out (by omega)
        subst hA1 hA2
        have e1 := d1 k hlt
        have e2 := d2 k hlt
        clear d1 d2
        by_cases he : f k = g k
        · have hb2 : (f k != g k) = false := by rw [he]; simp
          have Hnx := Lib.hid (show ∀ j, j < k + 1 → f j = g j from fun j hj => by
            by_cases e : j = k
            · rw [e]; exact he
            · exact Hall.out j (by omega))
          go_wp2_with fail
          go_quiet (fail)
          go_wp2_with fail
          go_roundw
          case rel => exact ⟨k + 1, _, by omega, by go_num, Hnx.out, Hw.out _⟩
          case measure => simp [intOf]; omega
        · have hb2 : (f k != g k) = true := by simpa using he
          have hr := Hno.out k hlt he
          subst hr
          go_wp2_with fail
          go_quiet (fail)
          go_wp2_with fail
          go_ret
          exact ⟨rfl, _, Hw.out _⟩
      · have hkn : k = n := by omega
        subst hkn
        have hlt' : ¬ (k : Int) < (k : Int) := by omega
        have hr := Hy.out Hall.out
        subst hr
        go_wp2_with fail
        go_ret
        exact ⟨rfl, _, Hw0.out⟩
  · have hr : sameF n m f g = false := by unfold sameF; rw [decide_eq_false hnm]; rfl
    have hb : ((n : Int) != (m : Int)) = true := by
      rw [bne_iff_ne]; omega
    rw [hr]
    go_enter Try.func117, Try.ntmps117
    go_wp2_with fail
    go_ret
    exact ⟨rfl, 0, rfl⟩
set_option maxRecDepth 100000 in
set_option maxHeartbeats 1600000 in
theorem l00Same_any (B1 B2 : Nat) (v1 v2 : Value) (n m : Nat) (f g : Nat → Int) (w : World) (h1 : Rd w B1 v1 n 1 (tab n f)) (h2 : Rd w B2 v2 m 1 (tab m g)) (hn : n ≤ 1048576) :
    Calls Try.prog 119 #[v1, v2] w fun e w' => e = .returned (.bool (sameF n m f g)) ∧ ∃ k, w' = w.drewN k := by
  have H1 := Lib.hid h1
  have H2 := Lib.hid h2
  obtain ⟨A1, c1, rfl⟩ := rd_sl h1
  obtain ⟨A2, c2, rfl⟩ := rd_sl h2
  clear h1 h2
  by_cases hnm : n = m
  · subst hnm
    have Hy := Lib.hid (fun h => sameF_yes (n := n) (f := f) (g := g) h)
    have Hno := Lib.hid (fun i hi h => sameF_no (n := n) (f := f) (g := g) i hi h)
    generalize sameF n n f g = r at *
    have hb : ((n : Int) != (n : Int)) = false := by simp
    go_enter Try.func119, Try.ntmps119
    go_wp2_with fail
    go_loopw [5] (fun i wr => ∃ k m0 : Nat, k ≤ n ∧ i = .int .i64 (k : Int) ∧ (∀ j, j < k → f j = g j) ∧ wr = w.drewN m0) (fun i _ => n - (intOf i).toNat)
    case atStart => exact ⟨0, 0, Nat.zero_le _, rfl, fun j hj => absurd hj (by omega), rfl⟩
    case round =>
      obtain ⟨k, m0, hk, rfl, hall, hwr⟩ := hrel
      have Hall := Lib.hid hall
      have Hw := Lib.hid (fun n => (show wr.drewN n = w.drewN (m0 + n) by rw [hwr, World.drewN_drewN]))
      have Hw0 := Lib.hid hwr
      have R1 : Hid (Rd wr B1 (.slice A1 n c1) n 1 (tab n f)) := Lib.hid (by rw [hwr]; exact H1.out.drewN m0)
      have R2 : Hid (Rd wr B2 (.slice A2 n c2) n 1 (tab n g)) := Lib.hid (by rw [hwr]; exact H2.out.drewN m0)
      clear hwr hall
      by_cases hlt : k < n
      · have hlt' : (k : Int) < (n : Int) := by omega
        obtain ⟨x1, o1, hA1, _, d1⟩ := rdF_all R1.out (by omega)
        obtain ⟨x2, o2, hA2, _, d2⟩ := rdF_all R2.out (by omega)
        subst hA1 hA2
        have e1 := d1 k hlt
        have e2 := d2 k hlt
        clear d1 d2
        by_cases he : f k = g k
        · have hb2 : (f k != g k) = false := by rw [he]; simp
          have Hnx := Lib.hid (show ∀ j, j < k + 1 → f j = g j from fun j hj => by
            by_cases e : j = k
            · rw [e]; exact he
            · exact Hall.out j (by omega))
          go_wp2_with fail
          go_quiet (fail)
          go_wp2_with fail
          go_roundw
          case rel => exact ⟨k + 1, _, by omega, by go_num, Hnx.out, Hw.out _⟩
          case measure => simp [intOf]; omega
        · have hb2 : (f k != g k) = true := by simpa using he
          have hr := Hno.out k hlt he
          subst hr
          go_wp2_with fail
          go_quiet (fail)
          go_wp2_with fail
          go_ret
          exact ⟨rfl, _, Hw.out _⟩
      · have hkn : k = n := by omega
        subst hkn
        have hlt' : ¬ (k : Int) < (k : Int) := by omega
        have hr := Hy.out Hall.out
        subst hr
        go_wp2_with fail
        go_ret
        exact ⟨rfl, _, Hw0.out⟩
  · have hr : sameF n m f g = false := by unfold sameF; rw [decide_eq_false hnm]; rfl
    have hb : ((n : Int) != (m : Int)) = true := by
      rw [bne_iff_ne]; omega
    rw [hr]
    go_enter Try.func119, Try.ntmps119
    go_wp2_with fail
    go_ret
    exact ⟨rfl, 0, rfl⟩

def dfC (d : Dm) (m : Nat) (F : Nat → Int) : Int := if okDm d = false then 1 else if (m : Int) < d.b ∧ sameF m m (timeD d m) F = true then 0 else 3
def dfV (d : Dm) (m : Nat) (F : Nat → Int) : Int := if dfC d m F = 0 then m else 0
theorem df_1 {d : Dm} {m : Nat} {F : Nat → Int} (h : okDm d = false) : dfC d m F = 1 ∧ dfV d m F = 0 := by
  have h1 : dfC d m F = 1 := by unfold dfC; rw [if_pos h]
  exact ⟨h1, by unfold dfV; rw [h1]; rfl⟩
theorem df_3 {d : Dm} {m : Nat} {F : Nat → Int} (h : okDm d = true) (h2 : (m : Int) < d.b → sameF m m (timeD d m) F = false) : dfC d m F = 3 ∧ dfV d m F = 0 := by
  have h1 : dfC d m F = 3 := by
    unfold dfC
    rw [h, if_neg (by decide), if_neg]
    rintro ⟨a, b⟩
    rw [h2 a] at b; cases b
  exact ⟨h1, by unfold dfV; rw [h1]; rfl⟩
theorem df_0 {d : Dm} {m : Nat} {F : Nat → Int} (h : okDm d = true) (h1 : (m : Int) < d.b) (h2 : sameF m m (timeD d m) F = true) : dfC d m F = 0 ∧ dfV d m F = m := by
  have h3 : dfC d m F = 0 := by unfold dfC; rw [h, if_neg (by decide), if_pos ⟨h1, h2⟩]
  exact ⟨h3, by unfold dfV; rw [if_pos h3]⟩
set_option maxRecDepth 100000 in
set_option maxHeartbeats 1600000 in
theorem DigitForI_any (B : Nat) (d : Dm) (v : Value) (m : Nat) (F : Nat → Int) (w : World) (h : Rd w B v m 1 (tab m F)) (hB : B ≤ w.heap.size) :
    Calls Try.prog 20 #[aggDm d, v] w fun e w' => e = .returned (.tuple #[.int .i64 (dfV d m F), .int .i64 (dfC d m F)]) ∧ Below w.heap.size w w' := by
  have HV := Lib.hid (fun wx => ValidDm_any d wx)
  have H := Lib.hid h
  obtain ⟨A, c, rfl⟩ := rd_sl h
  clear h
  have hb1 := (Below.refl w.heap.size w).alloc (Nat.le_refl _) (objDm d)
  have HQ := Lib.hid (heap_alloc_new w (objDm d))
  have HB1 := Lib.hid hb1
  have hlt1 : w.heap.size < (w.alloc (objDm d)).heap.size := by simp
  obtain ⟨c0, c1, c2, c3⟩ := four_at HQ.out
  clear hb1
  cases hok : okDm d with
  | false =>
    obtain ⟨g1, g2⟩ := df_1 (m := m) (F := F) hok
    rw [g1, g2]
    rw [hok] at HV
    obtain ⟨k, b, t, f⟩ := d
    dsimp only at c0 c1 c2 c3 HQ HV HB1
    clear g1 g2 hok
    go_enter Try.func20, Try.ntmps20
    go_wp2_with fail
    generalize w.alloc (.cells #[.int .i64 k, .int .i64 b, .int .i64 t, .int .i64 f] 25) = w1 at *
    refine (HV.out _).mono ?_; rintro e w5 ⟨rfl, hb5⟩
    have Hb := Lib.hid (HB1.out.trans (hb5.mono HB1.out.size))
    clear hb5 c0 c1 c2 c3
    go_wp2_with fail
    go_ret2
    exact ⟨rfl, Hb.out⟩
  | true =>
    have HT := Lib.hid (fun n hn wx => times_any d n wx hok hn)
    have H3 := Lib.hid (fun h2 => df_3 (d := d) (m := m) (F := F) hok h2)
    have H0 := Lib.hid (fun h1 h2 => df_0 (d := d) (m := m) (F := F) hok h1 h2)
    obtain ⟨_, b1, b2, _⟩ := okDm_bd hok
    generalize dfC d m F = C at *
    generalize dfV d m F = V at *
    rw [hok] at HV
    have HS := Lib.hid (fun (n : Nat) (hn : n ≤ 1048576) v1 wx h1 h2 => sameNum_any wx.heap.size B v1 (.slice A m c) n m (timeD d n) F wx h1 h2 hn)
    generalize timeD d = T at *
    obtain ⟨k, b, t, f⟩ := d
    unfold RetF at HT
    dsimp only at c0 c1 c2 c3 HQ HV HB1 HT b1 b2 H3 H0
    clear hok
    go_enter Try.func20, Try.ntmps20
    go_wp2_with fail
    generalize w.alloc (.cells #[.int .i64 k, .int .i64 b, .int .i64 t, .int .i64 f] 25) = w1 at *
    refine (HV.out _).mono ?_; rintro e w5 ⟨rfl, hb5⟩
    have HQ5 := Lib.hid ((hb5.block _ hlt1).trans HQ.out)
    obtain ⟨e0, e1, e2, e3⟩ := four_at HQ5.out
    have Hb := Lib.hid (HB1.out.trans (hb5.mono HB1.out.size))
    clear hb5 c0 c1 c2 c3
    go_wp2_with fail
    go_loopw [12] (fun i wr => ∃ j : Nat, (j : Int) ≤ b ∧ i = .int .i64 (j : Int) ∧ (m < j → sameF m m (T m) F = false) ∧ Below w5.heap.size w5 wr) (fun i _ => b.toNat - (intOf i).toNat)
    case atStart => exact ⟨0, by omega, rfl, fun h => absurd h (by omega), Below.refl _ _⟩
    case round =>
      obtain ⟨j, hj, rfl, hpre, hbl⟩ := hrel
      have Hpre := Lib.hid hpre; clear hpre
      have HQr := Lib.hid ((hbl.block _ (blk_ltD HQ5.out)).trans HQ5.out)
      obtain ⟨f0, f1, f2, f3⟩ := four_at HQr.out
      have Hbl := Lib.hid (Hb.out.trans (hbl.mono Hb.out.size))
      have Hbl5 := Lib.hid hbl
      clear hbl e0 e1 e2 e3
      by_cases hlt : (j : Int) < b
      · have HTj := Lib.hid (HT.out j hlt)
        go_wp2_with fail
        refine (HTj.out _).mono ?_; rintro e w7 ⟨v7, rfl, ho7, hb7⟩
        obtain ⟨A7, c7, rfl⟩ := own_sl ho7
        have Hb7 := Lib.hid (Hbl.out.trans (hb7.mono Hbl.out.size))
        have Hb75 := Lib.hid (Hbl5.out.trans (hb7.mono Hbl5.out.size))
        have HS7 := Lib.hid (HS.out j (by omega) _ w7 (Rd.of_own ho7) (H.out.below (Hb7.out.mono hB)))
        obtain ⟨_, k1, _, _⟩ := four_at ((hb7.block _ (blk_ltD HQr.out)).trans HQr.out)
        clear ho7 hb7 f0 f1 f2 f3
        cases hs : sameF j m (T j) F with
        | true =>
          rw [hs] at HS7
          have hjm : j = m := by
            by_cases e : j = m
            · exact e
            · rw [sameF_ne e] at hs; cases hs
          subst hjm
          obtain ⟨r1, r2⟩ := H0.out hlt hs
          subst r1 r2
          clear hs
          go_wp2_with fail
          refine HS7.out.mono ?_; rintro e w8 ⟨rfl, n8, rfl⟩
          go_wp2_with fail
          go_ret2
          exact ⟨rfl, below_drewN Hb7.out _⟩
        | false =>
          rw [hs] at HS7
          have Hnx := Lib.hid (show m < j + 1 → sameF m m (T m) F = false from fun h => by
            by_cases e : j = m
            · subst e; exact hs
            · exact Hpre.out (by omega))
          clear hs
          go_wp2_with fail
          refine HS7.out.mono ?_; rintro e w8 ⟨rfl, n8, rfl⟩
          go_wp2_with fail
          go_roundw
          case rel => exact ⟨j + 1, by omega, by go_num, Hnx.out, below_drewN Hb75.out _⟩
          case measure => simp [intOf]; omega
      · have hjb : (j : Int) = b := by omega
        have hlt' : ¬ (j : Int) < b := hlt
        obtain ⟨r1, r2⟩ := H3.out (fun h => Hpre.out (by omega))
        subst r1 r2
        go_wp2_with fail
        go_ret2
        exact ⟨rfl, Hbl.out⟩
set_option maxRecDepth 100000 in
set_option maxHeartbeats 1600000 in
theorem DigitForS_any (B : Nat) (d : Dm) (v : Value) (m : Nat) (F : Nat → Int) (w : World) (h : Rd w B v m 1 (tab m F)) (hB : B ≤ w.heap.size) (hm : m ≤ 1048576) :
    Calls Try.prog 21 #[aggDm d, v] w fun e w' => e = .returned (.tuple #[.int .i64 (dfV d m F), .int .i64 (dfC d m F)]) ∧ Below w.heap.size w w' := by
  have H := Lib.hid h
  obtain ⟨A, c, rfl⟩ := rd_sl h
  clear h
  have hb1 := (Below.refl w.heap.size w).alloc (Nat.le_refl _) (objDm d)
  have hD := DmAt.of (heap_alloc_new w (objDm d))
  have HV := Lib.hid (l05Ok_any w.heap.size d (w.alloc (objDm d)) hD)
  have HB1 := Lib.hid hb1
  have hlt1 : w.heap.size < (w.alloc (objDm d)).heap.size := by simp
  have c1 := hD.c1
  clear hb1
  cases hok : okDm d with
  | false =>
    obtain ⟨g1, g2⟩ := df_1 (m := m) (F := F) hok
    rw [g1, g2]
    rw [hok] at HV
    obtain ⟨k, b, t, f⟩ := d
    clear g1 g2 hok hD c1
    go_enter Try.func21, Try.ntmps21
    go_wp2_with fail
    generalize w.alloc (.cells #[.int .i64 k, .int .i64 b, .int .i64 t, .int .i64 f] 25) = w1 at *
    refine HV.out.mono ?_; rintro e w5 ⟨rfl, n5, rfl⟩
    go_wp2_with fail
    go_ret2
    exact ⟨rfl, below_drewN HB1.out _⟩
  | true =>
    have HT := Lib.hid (fun hn n5 => l05Times_any w.heap.size d m ((w.alloc (objDm d)).drewN n5) (hD.drewN n5) hlt1 hok hn)
    have H3 := Lib.hid (fun h2 => df_3 (d := d) (m := m) (F := F) hok h2)
    have H0 := Lib.hid (fun h1 h2 => df_0 (d := d) (m := m) (F := F) hok h1 h2)
    obtain ⟨_, b1, b2, _⟩ := okDm_bd hok
    generalize dfC d m F = C at *
    generalize dfV d m F = V at *
    rw [hok] at HV
    have HS := Lib.hid (fun v1 wx h1 h2 => l00Same_any wx.heap.size B v1 (.slice A m c) m m (timeD d m) F wx h1 h2 hm)
    generalize timeD d m = T at *
    obtain ⟨k, b, t, f⟩ := d
    unfold RetF at HT
    dsimp only at c1 b1 b2 H3 H0 HT
    clear hok hD
    by_cases hmb : (m : Int) < b
    · have hmb' : ¬ b ≤ (m : Int) := by omega
      have HTm := Lib.hid (HT.out hmb)
      cases hs : sameF m m T F with
      | true =>
        rw [hs] at HS
        obtain ⟨r1, r2⟩ := H0.out hmb hs
        subst r1 r2
        clear hs H0 H3
        go_enter Try.func21, Try.ntmps21
        go_wp2_with fail
        generalize w.alloc (.cells #[.int .i64 k, .int .i64 b, .int .i64 t, .int .i64 f] 25) = w1 at *
        refine HV.out.mono ?_; rintro e w5 ⟨rfl, n5, rfl⟩
        have e1 : (w1.drewN n5).cell? ⟨w.heap.size, 1, none⟩ = some (.int .i64 b) := c1
        go_wp2_with fail
        refine (HTm.out _).mono ?_; rintro e w7 ⟨v7, rfl, ho7, hb7⟩
        obtain ⟨A7, c7, rfl⟩ := own_sl ho7
        have Hb7 := Lib.hid ((below_drewN HB1.out n5).trans (hb7.mono HB1.out.size))
        have HS7 := Lib.hid (HS.out _ w7 (Rd.of_own ho7) (H.out.below (Hb7.out.mono hB)))
        clear ho7 hb7
        go_wp2_with fail
        refine HS7.out.mono ?_; rintro e w8 ⟨rfl, n8, rfl⟩
        go_wp2_with fail
        go_ret2
        exact ⟨rfl, below_drewN Hb7.out _⟩
      | false =>
        rw [hs] at HS
        obtain ⟨r1, r2⟩ := H3.out (fun _ => hs)
        subst r1 r2
        clear hs H0 H3
        go_enter Try.func21, Try.ntmps21
        go_wp2_with fail
        generalize w.alloc (.cells #[.int .i64 k, .int .i64 b, .int .i64 t, .int .i64 f] 25) = w1 at *
        refine HV.out.mono ?_; rintro e w5 ⟨rfl, n5, rfl⟩
        have e1 : (w1.drewN n5).cell? ⟨w.heap.size, 1, none⟩ = some (.int .i64 b) := c1
        go_wp2_with fail
        refine (HTm.out _).mono ?_; rintro e w7 ⟨v7, rfl, ho7, hb7⟩
        obtain ⟨A7, c7, rfl⟩ := own_sl ho7
        have Hb7 := Lib.hid ((below_drewN HB1.out n5).trans (hb7.mono HB1.out.size))
        have HS7 := Lib.hid (HS.out _ w7 (Rd.of_own ho7) (H.out.below (Hb7.out.mono hB)))
        clear ho7 hb7
        go_wp2_with fail
        refine HS7.out.mono ?_; rintro e w8 ⟨rfl, n8, rfl⟩
        go_wp2_with fail
        go_ret2
        exact ⟨rfl, below_drewN Hb7.out _⟩
    · have hmb' : b ≤ (m : Int) := by omega
      obtain ⟨r1, r2⟩ := H3.out (fun h => absurd h hmb)
      subst r1 r2
      clear H0 H3 HS HT
      go_enter Try.func21, Try.ntmps21
      go_wp2_with fail
      generalize w.alloc (.cells #[.int .i64 k, .int .i64 b, .int .i64 t, .int .i64 f] 25) = w1 at *
      refine HV.out.mono ?_; rintro e w5 ⟨rfl, n5, rfl⟩
      have e1 : (w1.drewN n5).cell? ⟨w.heap.size, 1, none⟩ = some (.int .i64 b) := c1
      go_wp2_with fail
      go_ret2
      exact ⟨rfl, below_drewN HB1.out _⟩
end Go.Proofs.Ythemffbkkhaaoaa
