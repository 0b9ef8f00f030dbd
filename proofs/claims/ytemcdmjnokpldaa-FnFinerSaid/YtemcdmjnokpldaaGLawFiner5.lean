/- Merged texts: Lo11, Bk4, Dm1, Dm2, Dm3, Dm4, Dm5, Dm6, Dm7, Dg1, Dm8, Dm9, Dm10, Dm11, Dm12, Dm14, Fi10. -/
import Derived.Test.YtemcdmjnokpldaaGLawFiner4
import Derived.Test.YtemcdmjnokpldaaGLawFiner2
import Derived.Test.YtemcdmjnokpldaaGLawFiner1
import Derived.Deep.DeepCutAuto
import Derived.Deep.CutRange
import Derived.Test.YtemcdmjnokpldaaGLawFiner3
/- Loans, part 11 (printed by genlo11.py): valid lists of loans, the program's side. -/
namespace Go.Proofs.Ytemcdmjnokpldaa
open Go.RowKit Go.Joins

theorem four_at {w : World} {g : Nat} {a b c d : Value} {t : TypeId} (h : w.heap[g]? = some (.cells #[a, b, c, d] t (0, 0))) :
    w.cell? ⟨g, 0, none⟩ = some a ∧ w.cell? ⟨g, 1, none⟩ = some b ∧ w.cell? ⟨g, 2, none⟩ = some c ∧ w.cell? ⟨g, 3, none⟩ = some d := by
  refine ⟨?_, ?_, ?_, ?_⟩
  · rw [cell_of_row w g 0 _ _ _ h]; rfl
  · rw [cell_of_row w g 1 _ _ _ h]; rfl
  · rw [cell_of_row w g 2 _ _ _ h]; rfl
  · rw [cell_of_row w g 3 _ _ _ h]; rfl
theorem eight_at {w : World} {g B b1 o1 : Nat} {a b c d : Value} {t : TypeId} {p : Ln} (h : w.heap[g]? = some (.cells #[a, b, c, d] t (0, 0))) (hp : LnAt w B b1 o1 p) :
    w.cell? ⟨g, 0, none⟩ = some a ∧ w.cell? ⟨g, 1, none⟩ = some b ∧ w.cell? ⟨g, 2, none⟩ = some c ∧ w.cell? ⟨g, 3, none⟩ = some d ∧
    w.cell? ⟨b1, o1, none⟩ = some (.string p.what) ∧ w.cell? ⟨b1, o1 + 1, none⟩ = some (.string p.who) ∧ w.cell? ⟨b1, o1 + 2, none⟩ = some (.int .i64 p.from_) ∧ w.cell? ⟨b1, o1 + 3, none⟩ = some (.int .i64 p.till) :=
  have k := four_at h
  ⟨k.1, k.2.1, k.2.2.1, k.2.2.2, hp.c0, hp.c1, hp.c2, hp.c3⟩
theorem loansI_no {xs : List Ln} (k : Nat) (hk : k < xs.length) (h : placeI xs k = false) : loansOkI xs = false := by unfold loansOkI; rw [chk_bad k hk h]; rfl
theorem round_casesI (xs : List Ln) (k : Nat) (hk : k < xs.length) : (loanOk xs[k] = false ∧ loansOkI xs = false) ∨ (loanOk xs[k] = true ∧ k = 0) ∨
    ∃ m, m + 1 = k ∧ loanOk xs[k] = true ∧ ((before xs[k] (atL xs m) = true ∧ loansOkI xs = false) ∨ before xs[k] (atL xs m) = false) := by
  cases h : loanOk xs[k] with
  | false => exact .inl ⟨rfl, loansI_no k hk (by unfold placeI; rw [atL_at xs k hk, h]; rfl)⟩
  | true =>
    rcases Nat.eq_zero_or_pos k with h0 | h0
    · exact .inr (.inl ⟨rfl, h0⟩)
    · refine .inr (.inr ⟨k - 1, by omega, rfl, ?_⟩)
      cases hb : before xs[k] (atL xs (k - 1)) with
      | true => exact .inl ⟨rfl, loansI_no k hk (by unfold placeI; rw [atL_at xs k hk, h, hb, decide_eq_false (by omega)]; simp)⟩
      | false => exact .inr rfl
theorem placeI_3 {xs : List Ln} {k : Nat} (hk : k < xs.length) (j : Nat) (hj : j < k) (h : clash xs[k] (atL xs j) = true) : loansOkI xs = false := by
  have : freeI xs k j = false := by unfold freeI; rw [atL_at xs k hk, h]; rfl
  refine loansI_no k hk ?_
  unfold placeI; rw [chk_bad j hj this]; simp
theorem placeI_4 {xs : List Ln} {k : Nat} (hk : k < xs.length) (h0 : chk k (placeI xs) = true) (h1 : loanOk xs[k] = true) (h2 : k = 0 ∨ ∃ m, m + 1 = k ∧ before xs[k] (atL xs m) = false) (h : chk k (freeI xs k) = true) : chk (k + 1) (placeI xs) = true := by
  refine chk_step h0 ?_
  unfold placeI
  rw [atL_at xs k hk, h1, h]
  rcases h2 with rfl | ⟨m, hm, h2⟩
  · rfl
  · rw [show k - 1 = m by omega, h2]; simp
theorem freeI_step {xs : List Ln} {k : Nat} (hk : k < xs.length) (j : Nat) (h : clash xs[k] (atL xs j) = false) : freeI xs k j = true := by
  unfold freeI; rw [atL_at xs k hk, h]; rfl

end Go.Proofs.Ytemcdmjnokpldaa
/- Blocks of four cells. -/
namespace Go.Proofs.Ytemcdmjnokpldaa
open Go.RowKit Go.Joins

abbrev put4 (w : World) (g : Nat) (a b c d : Value) : World := (((w.setCell ⟨g, 0, none⟩ a).setCell ⟨g, 1, none⟩ b).setCell ⟨g, 2, none⟩ c).setCell ⟨g, 3, none⟩ d
theorem blk4 {w : World} {g : Nat} {a b c d : Value} {t : TypeId} (h : w.heap[g]? = some (.cells #[a, b, c, d] t (0, 0))) :
    (w.cell? ⟨g, 0, none⟩ = some a ∧ w.cell? ⟨g, 1, none⟩ = some b ∧ w.cell? ⟨g, 2, none⟩ = some c ∧ w.cell? ⟨g, 3, none⟩ = some d) ∧
    (w.frozen? ⟨g, 0, none⟩ = false ∧ w.frozen? ⟨g, 1, none⟩ = false ∧ w.frozen? ⟨g, 2, none⟩ = false ∧ w.frozen? ⟨g, 3, none⟩ = false) :=
  ⟨four_at h, frozen_of_row w g 0 _ _ h, frozen_of_row w g 1 _ _ h, frozen_of_row w g 2 _ _ h, frozen_of_row w g 3 _ _ h⟩
/-- a result of four fields in a block of its own: ahead of the store -/
theorem res4_pre {w w2 : World} {x y z u : Value} {t : TypeId} (h : Below (w.alloc (.cells #[x, y, z, u] t)).heap.size (w.alloc (.cells #[x, y, z, u] t)) w2) :
    (w2.cell? ⟨w.heap.size, 0, none⟩ = some x ∧ w2.cell? ⟨w.heap.size, 1, none⟩ = some y ∧ w2.cell? ⟨w.heap.size, 2, none⟩ = some z ∧ w2.cell? ⟨w.heap.size, 3, none⟩ = some u) ∧
    (w2.frozen? ⟨w.heap.size, 0, none⟩ = false ∧ w2.frozen? ⟨w.heap.size, 1, none⟩ = false ∧ w2.frozen? ⟨w.heap.size, 2, none⟩ = false ∧ w2.frozen? ⟨w.heap.size, 3, none⟩ = false) :=
  blk4 ((h.block w.heap.size (by simp)).trans (heap_alloc_new w _))
/-- .. and behind it -/
theorem res4_post {w w2 : World} {x y z u : Value} {t : TypeId} (h : Below (w.alloc (.cells #[x, y, z, u] t)).heap.size (w.alloc (.cells #[x, y, z, u] t)) w2) (a b c d : Value) :
    ((put4 w2 w.heap.size a b c d).cell? ⟨w.heap.size, 0, none⟩ = some a ∧ (put4 w2 w.heap.size a b c d).cell? ⟨w.heap.size, 1, none⟩ = some b ∧ (put4 w2 w.heap.size a b c d).cell? ⟨w.heap.size, 2, none⟩ = some c ∧ (put4 w2 w.heap.size a b c d).cell? ⟨w.heap.size, 3, none⟩ = some d) ∧
    Below w.heap.size w (put4 w2 w.heap.size a b c d) := by
  have g := heap_setCell_same _ w.heap.size 3 _ _ d (heap_setCell_same _ w.heap.size 2 _ _ c (heap_setCell_same _ w.heap.size 1 _ _ b (heap_setCell_same w2 w.heap.size 0 _ _ a ((h.block w.heap.size (by simp)).trans (heap_alloc_new w _)))))
  refine ⟨(blk4 g).1, ?_⟩
  have h0 : Below w.heap.size w w2 := ((Below.refl w.heap.size w).alloc (Nat.le_refl _) _).trans (h.mono (by simp))
  exact (((h0.setCell (p := ⟨w.heap.size, 0, none⟩) (Nat.le_refl _) a).setCell (p := ⟨w.heap.size, 1, none⟩) (Nat.le_refl _) b).setCell (p := ⟨w.heap.size, 2, none⟩) (Nat.le_refl _) c).setCell (p := ⟨w.heap.size, 3, none⟩) (Nat.le_refl _) d
end Go.Proofs.Ytemcdmjnokpldaa
/- Drums: valid drums, both sides. -/
namespace Go.Proofs.Ytemcdmjnokpldaa
open Go.RowKit Go.Joins

structure Dm where
  k : Int
  b : Int
  t : Int
  f : Int
deriving DecidableEq
abbrev aggDm (d : Dm) : Value := .agg #[.int .i64 d.k, .int .i64 d.b, .int .i64 d.t, .int .i64 d.f]
/-- a drum's cells -/
structure DmAt (w : World) (b : Nat) (d : Dm) : Prop where
  c0 : w.cell? ⟨b, 0, none⟩ = some (.int .i64 d.k)
  c1 : w.cell? ⟨b, 1, none⟩ = some (.int .i64 d.b)
  c2 : w.cell? ⟨b, 2, none⟩ = some (.int .i64 d.t)
  c3 : w.cell? ⟨b, 3, none⟩ = some (.int .i64 d.f)
theorem DmAt.drewN {w : World} {b : Nat} {d : Dm} (h : DmAt w b d) (n : Nat) : DmAt (w.drewN n) b d := ⟨h.1, h.2, h.3, h.4⟩
theorem DmAt.of {w : World} {g : Nat} {d : Dm} {t : TypeId} (h : w.heap[g]? = some (.cells #[.int .i64 d.k, .int .i64 d.b, .int .i64 d.t, .int .i64 d.f] t (0, 0))) : DmAt w g d := by
  obtain ⟨⟨h0, h1, h2, h3⟩, _⟩ := blk4 h
  exact ⟨h0, h1, h2, h3⟩
def okDm (d : Dm) : Bool := inB d.k 1 3 && inB d.b 2 16 && inB d.t d.b 60 && (if d.k = 3 then decide (d.f = 0) else inB d.f 1 (d.t - d.b + 2))
theorem okDm_cases (d : Dm) : (inB d.k 1 3 = false ∧ okDm d = false) ∨ (inB d.k 1 3 = true ∧ inB d.b 2 16 = false ∧ okDm d = false) ∨ (inB d.k 1 3 = true ∧ inB d.b 2 16 = true ∧ inB d.t d.b 60 = false ∧ okDm d = false) ∨
    (inB d.k 1 3 = true ∧ inB d.b 2 16 = true ∧ inB d.t d.b 60 = true ∧ d.k = 3 ∧ okDm d = (d.f == 0)) ∨ (inB d.k 1 3 = true ∧ inB d.b 2 16 = true ∧ inB d.t d.b 60 = true ∧ d.k ≠ 3 ∧ okDm d = inB d.f 1 (d.t - d.b + 2)) := by
  unfold okDm
  cases inB d.k 1 3 <;> cases inB d.b 2 16 <;> cases inB d.t d.b 60 <;> simp
  by_cases h : d.k = 3
  · simp [h]; rfl
  · simp [h]
theorem inB_bd {n a b : Int} (h : inB n a b = true) : a ≤ n ∧ n ≤ b := by
  unfold inB at h
  simpa only [Bool.and_eq_true, decide_eq_true_eq] using h
/-- what a valid drum's numbers are -/
theorem okDm_bd {d : Dm} (h : okDm d = true) : (d.k = 1 ∨ d.k = 2 ∨ d.k = 3) ∧ 2 ≤ d.b ∧ d.b ≤ 16 ∧ d.b ≤ d.t ∧ d.t ≤ 60 ∧ (d.k = 3 → d.f = 0) ∧ (d.k ≠ 3 → 1 ≤ d.f ∧ d.f ≤ d.t - d.b + 2) := by
  rcases okDm_cases d with ⟨_, h2⟩ | ⟨_, _, h2⟩ | ⟨_, _, _, h2⟩ | ⟨h1, h2, h3, h4, h5⟩ | ⟨h1, h2, h3, h4, h5⟩
  · rw [h] at h2; cases h2
  · rw [h] at h2; cases h2
  · rw [h] at h2; cases h2
  · rw [h] at h5
    have := inB_bd h1; have := inB_bd h2; have := inB_bd h3
    have h6 : d.f = 0 := by simpa using h5.symm
    exact ⟨by omega, by omega, by omega, by omega, by omega, fun _ => h6, fun h => absurd h4 h⟩
  · rw [h] at h5
    have := inB_bd h1; have := inB_bd h2; have := inB_bd h3; have := inB_bd h5.symm
    exact ⟨by omega, by omega, by omega, by omega, by omega, fun h => absurd h h4, fun _ => by omega⟩

end Go.Proofs.Ytemcdmjnokpldaa
/- Drums: the times of a digit's steps, both sides. -/
namespace Go.Proofs.Ytemcdmjnokpldaa
open Go.RowKit Go.Joins

theorem DmAt.below {w w' : World} {b B : Nat} {d : Dm} (h : DmAt w b d) (hb : b < B) (hw : Below B w w') : DmAt w' b d :=
  ⟨(hw.cell (p := ⟨b, 0, none⟩) hb).trans h.c0, (hw.cell (p := ⟨b, 1, none⟩) hb).trans h.c1, (hw.cell (p := ⟨b, 2, none⟩) hb).trans h.c2, (hw.cell (p := ⟨b, 3, none⟩) hb).trans h.c3⟩
/-- the time of a tooth's step -/
def timeD (d : Dm) (g : Int) (j : Nat) : Int := if d.k = 1 then d.f + d.b - 1 - g + j else if d.k = 2 then d.f + j else (((j : Int) + 1) * d.t + g - 1) / g
theorem prodT {j : Nat} {g t : Int} (h : (j : Int) < g) (hg : g ≤ 15) (h0 : 0 ≤ t) (ht : t ≤ 60) : 0 ≤ ((j : Int) + 1) * t ∧ ((j : Int) + 1) * t ≤ 900 := by
  have h1 : 0 ≤ ((j : Int) + 1) * t := Int.mul_nonneg (by omega) h0
  have h2 : ((j : Int) + 1) * t ≤ 15 * t := Int.mul_le_mul_of_nonneg_right (by omega) h0
  omega
end Go.Proofs.Ytemcdmjnokpldaa
/- Drums: the steps up to a time, both sides. -/
namespace Go.Proofs.Ytemcdmjnokpldaa
open Go.RowKit Go.Joins

/-- how many of the first n are at most m -/
def cntT (T : Nat → Int) (m : Int) : Nat → Nat
  | 0 => 0
  | j + 1 => cntT T m j + if T j ≤ m then 1 else 0
theorem cntT_le (T : Nat → Int) (m : Int) : ∀ n, cntT T m n ≤ n := by
  intro n
  induction n with
  | zero => exact Nat.le_refl _
  | succ n ih => unfold cntT; split <;> omega
theorem cntT_yes {T : Nat → Int} {m : Int} {j : Nat} (h : T j ≤ m) : cntT T m (j + 1) = cntT T m j + 1 := by
  show cntT T m j + (if T j ≤ m then 1 else 0) = _
  rw [if_pos h]
theorem cntT_no {T : Nat → Int} {m : Int} {j : Nat} (h : ¬ T j ≤ m) : cntT T m (j + 1) = cntT T m j := by
  show cntT T m j + (if T j ≤ m then 1 else 0) = _
  rw [if_neg h]; rfl
def stepsD (d : Dm) (n : Nat) (time : Int) : Int := time / d.t * n + cntT (timeD d n) (time % d.t) n
theorem quoT {time t : Int} (h0 : 0 ≤ time) (h1 : time ≤ 100000) (ht : 2 ≤ t) : 0 ≤ time / t ∧ time / t ≤ 100000 := by
  have h2 : 0 ≤ time / t := Int.ediv_nonneg h0 (by omega)
  have h3 : time / t ≤ time := Int.ediv_le_self t h0
  omega
theorem prodQ {Q : Int} {n : Nat} (h0 : 0 ≤ Q) (h1 : Q ≤ 100000) (hn : n ≤ 15) : 0 ≤ Q * (n : Int) ∧ Q * (n : Int) ≤ 1500000 := by
  have h2 : 0 ≤ Q * (n : Int) := Int.mul_nonneg h0 (by omega)
  have h3 : Q * (n : Int) ≤ 100000 * (n : Int) := Int.mul_le_mul_of_nonneg_right h1 (by omega)
  omega

end Go.Proofs.Ytemcdmjnokpldaa
/- Drums: codes, the times and the steps of a digit, both sides. -/
namespace Go.Proofs.Ytemcdmjnokpldaa
open Go.RowKit Go.Joins

def codeD (d : Dm) (g : Int) : Int := if okDm d = false then 1 else if inB g 0 (d.b - 1) = false then 2 else 0
theorem code_cases (d : Dm) (g : Int) : (okDm d = false ∧ codeD d g = 1) ∨ (okDm d = true ∧ inB g 0 (d.b - 1) = false ∧ codeD d g = 2) ∨ (okDm d = true ∧ inB g 0 (d.b - 1) = true ∧ codeD d g = 0) := by
  unfold codeD
  cases okDm d <;> cases inB g 0 (d.b - 1) <;> simp
theorem code_0 {d : Dm} {g : Int} (h : codeD d g = 0) : okDm d = true ∧ ∃ n : Nat, g = (n : Int) ∧ (n : Int) < d.b := by
  rcases code_cases d g with ⟨_, h2⟩ | ⟨_, _, h2⟩ | ⟨h1, h2, _⟩
  · rw [h] at h2; cases h2
  · rw [h] at h2; cases h2
  · have := inB_bd h2
    exact ⟨h1, g.toNat, by omega, by omega⟩
/-- how many times a digit has -/
def nD (d : Dm) (g : Int) : Nat := if codeD d g = 0 then g.toNat else 0
def RetTm (w : World) (d : Dm) (g : Int) (e : Ending) (w' : World) : Prop :=
  ∃ v, e = .returned (.tuple #[v, .int .i64 (codeD d g)]) ∧ w'.ownsRow w.heap.size 2 1 v (nD d g) (tab (nD d g) (timeD d (nD d g))) ∧ Below w.heap.size w w'
theorem RetTm.no {d : Dm} {g c : Int} {w w' : World} (h : codeD d g = c) (hc : c ≠ 0) (hb : Below w.heap.size w w') : RetTm w d g (.returned (.tuple #[.slice none 0 0, .int .i64 c])) w' := by
  refine ⟨_, by rw [h], ?_, hb⟩
  have : nD d g = 0 := by unfold nD; rw [if_neg (by rw [h]; exact hc)]
  rw [this]
  exact World.ownsRow_nil _ _ _ _
theorem RetTm.yes {d : Dm} {n : Nat} {v : Value} {w w' : World} {base : Nat} (h : codeD d n = 0) (ho : w'.ownsRow base 2 1 v n (tab n (timeD d n))) (hle : w.heap.size ≤ base) (hb : Below w.heap.size w w') : RetTm w d n (.returned (.tuple #[v, .int .i64 0])) w' := by
  refine ⟨_, by rw [h], ?_, hb⟩
  have : nD d n = n := by unfold nD; rw [if_pos h]; omega
  rw [this]
  exact ownsRow_le ho hle
end Go.Proofs.Ytemcdmjnokpldaa
/- Drums: StepsBy and StepsBetween, both sides. -/
namespace Go.Proofs.Ytemcdmjnokpldaa
open Go.RowKit Go.Joins

def sbC (d : Dm) (g time : Int) : Int := if codeD d g = 0 then (if inB time 0 100000 = true then 0 else 2) else codeD d g
def sbV (d : Dm) (g time : Int) : Int := if sbC d g time = 0 then stepsD d g.toNat time else 0
theorem by_cases3 (d : Dm) (g time : Int) : (codeD d g ≠ 0 ∧ sbC d g time = codeD d g ∧ sbV d g time = 0) ∨ (codeD d g = 0 ∧ inB time 0 100000 = false ∧ sbC d g time = 2 ∧ sbV d g time = 0) ∨
    (codeD d g = 0 ∧ inB time 0 100000 = true ∧ sbC d g time = 0 ∧ sbV d g time = stepsD d g.toNat time) := by
  have hv : sbV d g time = if sbC d g time = 0 then stepsD d g.toNat time else 0 := rfl
  have hc : sbC d g time = if codeD d g = 0 then (if inB time 0 100000 = true then 0 else 2) else codeD d g := rfl
  by_cases h0 : codeD d g = 0
  · rw [if_pos h0] at hc
    cases hi : inB time 0 100000 with
    | false =>
      rw [hi] at hc
      have hc2 : sbC d g time = 2 := hc
      rw [hc2] at hv
      exact .inr (.inl ⟨h0, rfl, hc2, hv⟩)
    | true =>
      rw [hi] at hc
      have hc2 : sbC d g time = 0 := hc
      rw [hc2] at hv
      exact .inr (.inr ⟨h0, rfl, hc2, hv⟩)
  · rw [if_neg h0] at hc
    rw [hc, if_neg h0] at hv
    exact .inl ⟨h0, hc, hv⟩
end Go.Proofs.Ytemcdmjnokpldaa
/- Drums: StepsBetween, both sides. -/
namespace Go.Proofs.Ytemcdmjnokpldaa
open Go.RowKit Go.Joins

theorem blk_ltD {w : World} {q : Nat} {o : Obj} (h : w.heap[q]? = some o) : q < w.heap.size := (Array.getElem?_eq_some_iff.1 h).1
def btC (d : Dm) (g a b : Int) : Int := if codeD d g = 0 then (if inB a 0 100000 = true ∧ inB b 0 100000 = true ∧ a ≤ b then 0 else 2) else codeD d g
def btV (d : Dm) (g a b : Int) : Int := if btC d g a b = 0 then stepsD d g.toNat b - stepsD d g.toNat a else 0
theorem bt_cases (d : Dm) (g a b : Int) : (codeD d g ≠ 0 ∧ btC d g a b = codeD d g ∧ btV d g a b = 0) ∨
    (codeD d g = 0 ∧ inB a 0 100000 = false ∧ btC d g a b = 2 ∧ btV d g a b = 0) ∨
    (codeD d g = 0 ∧ inB a 0 100000 = true ∧ inB b 0 100000 = false ∧ inB b a 100000 = false ∧ btC d g a b = 2 ∧ btV d g a b = 0) ∨
    (codeD d g = 0 ∧ inB a 0 100000 = true ∧ inB b 0 100000 = true ∧ b < a ∧ inB b a 100000 = false ∧ btC d g a b = 2 ∧ btV d g a b = 0) ∨
    (codeD d g = 0 ∧ inB a 0 100000 = true ∧ inB b 0 100000 = true ∧ a ≤ b ∧ inB b a 100000 = true ∧ btC d g a b = 0 ∧ btV d g a b = stepsD d g.toNat b - stepsD d g.toNat a) := by
  have hv : btV d g a b = if btC d g a b = 0 then stepsD d g.toNat b - stepsD d g.toNat a else 0 := rfl
  have hc : btC d g a b = if codeD d g = 0 then (if inB a 0 100000 = true ∧ inB b 0 100000 = true ∧ a ≤ b then 0 else 2) else codeD d g := rfl
  by_cases h0 : codeD d g = 0
  · rw [if_pos h0] at hc
    cases h1 : inB a 0 100000 with
    | false =>
      rw [h1, if_neg (by simp)] at hc
      rw [hc] at hv
      exact .inr (.inl ⟨h0, rfl, hc, hv⟩)
    | true =>
      have a1 := inB_bd h1
      cases h2 : inB b 0 100000 with
      | false =>
        rw [h2, if_neg (by simp)] at hc
        rw [hc] at hv
        have h3 : inB b a 100000 = false := by
          cases h4 : inB b a 100000 with
          | false => rfl
          | true =>
            have := inB_bd h4
            have h5 : inB b 0 100000 = true := by unfold inB; simp; omega
            rw [h2] at h5; cases h5
        exact .inr (.inr (.inl ⟨h0, rfl, rfl, h3, hc, hv⟩))
      | true =>
        have b1 := inB_bd h2
        by_cases hab : a ≤ b
        · rw [h1, h2, if_pos ⟨rfl, rfl, hab⟩] at hc
          rw [hc] at hv
          have h5 : inB b a 100000 = true := by unfold inB; simp; omega
          exact .inr (.inr (.inr (.inr ⟨h0, rfl, rfl, hab, h5, hc, hv⟩)))
        · rw [if_neg (fun h => hab h.2.2)] at hc
          rw [hc] at hv
          have h5 : inB b a 100000 = false := by unfold inB; simp; omega
          exact .inr (.inr (.inr (.inl ⟨h0, rfl, rfl, by omega, h5, hc, hv⟩)))
  · rw [if_neg h0] at hc
    rw [hc, if_neg h0] at hv
    exact .inl ⟨h0, hc, hv⟩
theorem stepsD_bd {d : Dm} {n : Nat} {time : Int} (hok : okDm d = true) (hn : (n : Int) < d.b) (h0 : 0 ≤ time) (h1 : time ≤ 100000) : 0 ≤ stepsD d n time ∧ stepsD d n time ≤ 1600000 := by
  obtain ⟨_, b1, b2, b3, b4, _⟩ := okDm_bd hok
  obtain ⟨q0, q1⟩ := quoT (t := d.t) h0 h1 (by omega)
  obtain ⟨p0, p1⟩ := prodQ (n := n) q0 q1 (by omega)
  have h2 := cntT_le (timeD d n) (time % d.t) n
  unfold stepsD
  omega
end Go.Proofs.Ytemcdmjnokpldaa
/- Drums: the digit for times, both sides. -/
namespace Go.Proofs.Ytemcdmjnokpldaa
open Go.RowKit Go.Joins

def sameF (n m : Nat) (f g : Nat → Int) : Bool := decide (n = m) && (List.range n).all fun i => f i == g i
theorem sameF_yes {n : Nat} {f g : Nat → Int} (h : ∀ j, j < n → f j = g j) : sameF n n f g = true := by
  unfold sameF
  rw [decide_eq_true rfl, Bool.true_and, List.all_eq_true]
  intro i hi
  rw [h i (List.mem_range.1 hi)]; simp
theorem sameF_no {n : Nat} {f g : Nat → Int} (i : Nat) (hi : i < n) (h : f i ≠ g i) : sameF n n f g = false := by
  cases hs : sameF n n f g with
  | false => rfl
  | true =>
    unfold sameF at hs
    rw [decide_eq_true rfl, Bool.true_and, List.all_eq_true] at hs
    have := hs i (List.mem_range.2 hi)
    exact absurd (by simpa using this) h
theorem sameF_ne {n m : Nat} {f g : Nat → Int} (h : n ≠ m) : sameF n m f g = false := by unfold sameF; rw [decide_eq_false h]; rfl
def dfC (d : Dm) (m : Nat) (F : Nat → Int) : Int := if okDm d = false then 1 else if (m : Int) < d.b ∧ sameF m m (timeD d m) F = true then 0 else 3
def dfV (d : Dm) (m : Nat) (F : Nat → Int) : Int := if dfC d m F = 0 then m else 0
theorem df_1 {d : Dm} {m : Nat} {F : Nat → Int} (h : okDm d = false) : dfC d m F = 1 ∧ dfV d m F = 0 := by
  have h1 : dfC d m F = 1 := by unfold dfC; rw [if_pos h]
  exact ⟨h1, by unfold dfV; rw [h1]; rfl⟩
theorem df_3 {d : Dm} {m : Nat} {F : Nat → Int} (h : okDm d = true) (h2 : (m : Int) < d.b → sameF m m (timeD d m) F = false) : dfC d m F = 3 ∧ dfV d m F = 0 := by
  have h1 : dfC d m F = 3 := by
    unfold dfC
    rw [h, if_neg (by decide), if_neg]
    rintro ⟨a, b⟩
    rw [h2 a] at b; cases b
  exact ⟨h1, by unfold dfV; rw [h1]; rfl⟩
theorem df_0 {d : Dm} {m : Nat} {F : Nat → Int} (h : okDm d = true) (h1 : (m : Int) < d.b) (h2 : sameF m m (timeD d m) F = true) : dfC d m F = 0 ∧ dfV d m F = m := by
  have h3 : dfC d m F = 0 := by unfold dfC; rw [h, if_neg (by decide), if_pos ⟨h1, h2⟩]
  exact ⟨h3, by unfold dfV; rw [if_pos h3]⟩
end Go.Proofs.Ytemcdmjnokpldaa
/- Draws: a row of the call's own that grows while numbers are drawn; a text is spoilt (l01Spoil). -/
namespace Go.Proofs.Ytemcdmjnokpldaa
open Go.RowKit Go.Joins

/-- in the world w, reached from W: the source g has done at most k draws, v is a row of the call's own, and of what was there only the source has turned -/
structure DrR (W w : World) (B g k : Nat) (bs : List UInt8) (e : TypeId) (sz : Nat) (v : Value) (n : Nat) (cs : List Value) : Prop where
  lt : g < W.heap.size
  src : SrcAt w B g k bs
  row : w.ownsRow W.heap.size e sz v n cs
  gr : W.grownBy w (some g)
theorem DrR.draw {W w w' : World} {B g k k' : Nat} {bs : List UInt8} {e : TypeId} {sz n : Nat} {v : Value} {cs : List Value} (h : DrR W w B g k bs e sz v n cs) (hs : SrcAt w' B g k' bs) (hg : w.grownBy w' (some g)) : DrR W w' B g k' bs e sz v n cs :=
  ⟨h.lt, hs, h.row.kept hg (by
    cases hv : v.ownBlock with
    | none => exact .inl rfl
    | some x => exact .inr fun e => by have := (h.row.lt x hv).1; have := h.lt; injection e; omega), grown_trans h.gr hg⟩
theorem DrR.below {W w w' : World} {B g k : Nat} {bs : List UInt8} {e : TypeId} {sz n : Nat} {v : Value} {cs : List Value} (h : DrR W w B g k bs e sz v n cs) (hb : Below w.heap.size w w') : DrR W w' B g k bs e sz v n cs :=
  ⟨h.lt, h.src.below hb, own_below h.row hb, grown_below h.gr hb⟩
theorem DrR.more {W w : World} {B g k k' : Nat} {bs : List UInt8} {e : TypeId} {sz n : Nat} {v : Value} {cs : List Value} (h : DrR W w B g k bs e sz v n cs) (hk : k ≤ k') : DrR W w B g k' bs e sz v n cs :=
  ⟨h.lt, h.src.more hk, h.row, h.gr⟩
theorem grownBy_row {W w w' : World} {g : Nat} {ob : Option Nat} (h : W.grownBy w (some g)) (hg : w.grownBy w' ob) (ho : ∀ x, ob = some x → W.heap.size ≤ x) : W.grownBy w' (some g) :=
  ⟨hg.os.trans h.os, hg.tape.trans h.tape, hg.output.trans h.output, Nat.le_trans h.size hg.size, fun i hi hne => (hg.block i (Nat.lt_of_lt_of_le hi h.size) (fun e => by have := ho i e.symm; omega)).trans (h.block i hi hne)⟩
theorem DrR.app {W w w' : World} {B g k : Nat} {bs : List UInt8} {e : TypeId} {sz n n' : Nat} {v v' : Value} {cs cs' : List Value} (h : DrR W w B g k bs e sz v n cs) (hr : w'.ownsRow W.heap.size e sz v' n' cs') (hg : w.grownBy w' v.ownBlock) : DrR W w' B g k bs e sz v' n' cs' :=
  ⟨h.lt, h.src.grown hg (fun x hx => Nat.lt_of_lt_of_le h.lt (h.row.lt x hx).1), hr, grownBy_row h.gr hg (fun x hx => (h.row.lt x hx).1)⟩
theorem DrR.drewN {W w : World} {B g k : Nat} {bs : List UInt8} {e : TypeId} {sz n : Nat} {v : Value} {cs : List Value} (h : DrR W w B g k bs e sz v n cs) (m : Nat) : DrR W (w.drewN m) B g k bs e sz v n cs :=
  ⟨h.lt, h.src.drewN m, h.row.drewN m, grown_below h.gr (below_drewN (Below.refl _ _) m)⟩
theorem DrR.size {W w : World} {B g k : Nat} {bs : List UInt8} {e : TypeId} {sz n : Nat} {v : Value} {cs : List Value} (h : DrR W w B g k bs e sz v n cs) : W.heap.size ≤ w.heap.size := h.gr.size
theorem DrR.nil {W : World} {B g k : Nat} {bs : List UInt8} (h : SrcAt W B g k bs) (e : TypeId) (sz : Nat) : DrR W W B g k bs e sz (.slice none 0 0) 0 [] :=
  ⟨h.lt, h, ⟨by simp, .inl ⟨rfl, rfl⟩⟩, ⟨rfl, rfl, rfl, Nat.le_refl _, fun _ _ _ => rfl⟩⟩
theorem DrR.made {W : World} {B g k : Nat} {bs : List UInt8} (h : SrcAt W B g k bs) (e : TypeId) (sz : Nat) : DrR W (W.alloc (.cells #[] e)) B g k bs e sz (.slice (some ⟨W.heap.size, 0, none⟩) 0 0) 0 [] :=
  have hb := (Below.refl W.heap.size W).alloc (Nat.le_refl _) (.cells #[] e)
  ⟨h.lt, h.below hb, World.ownsRow_made (base := W.heap.size) (e := e) (size := sz) W #[] 0 (Nat.le_refl _) (by simp [maxLen]) (by simp), grown_of_below hb _⟩
/-- what a later call sees: the row's owner has gone on -/
theorem DrR.from {W W' w : World} {B g k : Nat} {bs : List UInt8} {e : TypeId} {sz n : Nat} {v : Value} {cs : List Value} (h : DrR W' w B g k bs e sz v n cs) (hg : W.grownBy W' (some g)) (hl : g < W.heap.size) : DrR W w B g k bs e sz v n cs :=
  ⟨hl, h.src, ownsRow_le h.row hg.size, grown_trans hg h.gr⟩

set_option maxRecDepth 100000 in
set_option maxHeartbeats 400000 in
theorem text_in (B g k b m : Nat) (l : List ByteArray) (bs : List UInt8) (w : World) (h : SrcAt w B g k bs) (hk : k < 4611686018427387800) (hm : l.length = m) (hm2 : 2 ≤ m) (hm3 : m ≤ 200) (hb : b ≠ g) (hbl : b < w.heap.size)
    (hc : ∀ i (hi : i < l.length), w.cell? ⟨b, i, none⟩ = some (.string l[i])) :
    Calls Try.prog 154 #[.pointer (some ⟨g, 0, none⟩), .slice (some ⟨b, 0, none⟩) m m] w fun e w' => ∃ z, z ∈ l ∧ e = .returned (.string z) ∧ SrcAt w' B g (k + 2) bs ∧ w.grownBy w' (some g) := by
  have H := Lib.hid h; clear h
  have Hc := Lib.hid hc; clear hc
  have hm4 : (m : Int) ≤ 200 := by omega
  go_enter Try.func154, Try.ntmps154
  go_wp2_with fail
  refine (pick_any B g k bs m _ H.out (by omega)).mono ?_; rintro e w1 ⟨x, rfl, ⟨hx0, hx1, _⟩, hs1, hg1⟩
  have Hs1 := Lib.hid hs1; clear hs1
  obtain ⟨i, rfl⟩ : ∃ i : Nat, x = i := ⟨x.toNat, by omega⟩
  have hx2 := hx1 (by omega)
  have hi : i < l.length := by omega
  have hcell := (World.cell?_of_block (a := ⟨b, i, none⟩) (hg1.block b hbl (fun e => hb (by injection e)))).trans (Hc.out i hi)
  have hmem := Lib.hid (List.getElem_mem hi)
  generalize l[i] = z at *
  clear hx1
  go_wp2_with fail
  go_ret
  exact ⟨z, hmem.out, rfl, Hs1.out, hg1⟩
theorem alloc_strs (w : World) (l : List ByteArray) (t : TypeId) : ∀ i (hi : i < l.length), (w.alloc (.cells (l.map Value.string).toArray t)).cell? ⟨w.heap.size, i, none⟩ = some (.string l[i]) := fun i hi => by
  have := new_cells w (l.map Value.string).toArray t i (.string l[i]) (by simp [hi])
  rwa [show (⟨w.heap.size, 0, none⟩ : Addr).add i = ⟨w.heap.size, i, none⟩ by unfold Addr.add; split <;> simp_all] at this
/-- .. from texts just laid out, in a region that draws its order -/
theorem text_new (B g k m : Nat) (l : List ByteArray) (bs : List UInt8) (w : World) (h : SrcAt w B g k bs) (hk : k < 4611686018427387800) (hm : l.length = m) (hm2 : 2 ≤ m) (hm3 : m ≤ 200) :
    Calls Try.prog 154 #[.pointer (some ⟨g, 0, none⟩), .slice (some ⟨w.heap.size, 0, none⟩) m m] (w.alloc (.cells (l.map Value.string).toArray 9)) fun e w' => ∃ z, z ∈ l ∧ e = .returned (.string z) ∧ SrcAt w' B g (k + 2) bs ∧ w.grownBy w' (some g) := by
  have hlt := h.lt
  refine (text_in B g k w.heap.size m l bs _ (h.below ((Below.refl w.heap.size w).alloc (Nat.le_refl _) _)) hk hm hm2 hm3 (by omega) (by simp) (alloc_strs w l _)).mono ?_
  rintro e w' ⟨z, h1, h2, h3, h4⟩
  exact ⟨z, h1, h2, h3, grown_from_alloc h4⟩
theorem text_newd (B g k m : Nat) (l : List ByteArray) (bs : List UInt8) (w : World) (h : SrcAt w B g k bs) (hk : k < 4611686018427387800) (hm : l.length = m) (hm2 : 2 ≤ m) (hm3 : m ≤ 200) :
    Calls Try.prog 154 #[.pointer (some ⟨g, 0, none⟩), .slice (some ⟨w.heap.size, 0, none⟩) m m] (w.alloc (.cells (l.map Value.string).toArray 9)).drew fun e w' => ∃ z, z ∈ l ∧ e = .returned (.string z) ∧ SrcAt w' B g (k + 2) bs ∧ w.grownBy w' (some g) := by
  have hlt := h.lt
  refine (text_in B g k w.heap.size m l bs _ (SrcAt.drew (h.below ((Below.refl w.heap.size w).alloc (Nat.le_refl _) _))) hk hm hm2 hm3 (by omega) (by simp) (fun i hi => alloc_strs w l 9 i hi)).mono ?_
  rintro e w' ⟨z, h1, h2, h3, h4⟩
  exact ⟨z, h1, h2, h3, grown_from_alloc (grown_undrew h4)⟩

theorem ne_some0 {s : ByteArray} (h : 0 < s.size) : s.toList.isEmpty = false := by
  rw [ByteArray.toList_eq, List.isEmpty_eq_false_iff]
  intro e
  have h1 : s.data.toList.length = s.size := by simp
  rw [e] at h1
  simp at h1; omega
theorem ne_none0 {s : ByteArray} (h : s.size = 0) : s.toList.isEmpty = true := by
  rw [ByteArray.toList_eq, List.isEmpty_iff]
  exact List.eq_nil_of_length_eq_zero (by simpa using h)
def spoilL : List ByteArray := [⟨#[32]⟩, ⟨#[48]⟩, ⟨#[45]⟩, ⟨#[120]⟩, ⟨#[49]⟩, ⟨#[57]⟩, ⟨#[46]⟩]
theorem spoilL_one : ∀ z ∈ spoilL, z.size = 1 := by decide
def RetSp (w : World) (B g k : Nat) (bs : List UInt8) (n : Nat) (e : Ending) (w' : World) : Prop := ∃ z : ByteArray, e = .returned (.string z) ∧ z.size ≤ n ∧ SrcAt w' B g k bs ∧ w.grownBy w' (some g)

end Go.Proofs.Ytemcdmjnokpldaa
/- Drums that are drawn: l05Draw. -/
namespace Go.Proofs.Ytemcdmjnokpldaa
open Go.RowKit Go.Joins

abbrev put4D (w : World) (g : Nat) (d : Dm) : World := put4 w g (.int .i64 d.k) (.int .i64 d.b) (.int .i64 d.t) (.int .i64 d.f)
def RetDw (w : World) (B g k : Nat) (bs : List UInt8) (e : Ending) (w' : World) : Prop := ∃ d : Dm, e = .returned (aggDm d) ∧ (2 ≤ d.b ∧ d.b ≤ 16 ∧ d.b ≤ d.t ∧ d.t ≤ 36 ∧ 0 ≤ d.f ∧ d.f ≤ 40) ∧ SrcAt w' B g k bs ∧ w.grownBy w' (some g)
end Go.Proofs.Ytemcdmjnokpldaa
/- Drums that are drawn: l05Bent, l05Clock. -/
namespace Go.Proofs.Ytemcdmjnokpldaa
open Go.RowKit Go.Joins

def RetDb (w : World) (B g k : Nat) (bs : List UInt8) (e : Ending) (w' : World) : Prop := ∃ d : Dm, e = .returned (aggDm d) ∧ SrcAt w' B g k bs ∧ w.grownBy w' (some g)
end Go.Proofs.Ytemcdmjnokpldaa
/- Drums that are drawn: l05Digit. -/
namespace Go.Proofs.Ytemcdmjnokpldaa
open Go.RowKit Go.Joins

theorem l00MinD_any (a b : Int) (w : World) : Calls Try.prog 159 #[.int .i64 a, .int .i64 b] w fun e w' => e = .returned (.int .i64 (if a < b then a else b)) ∧ w = w' := by
  by_cases h : a < b
  · rw [if_pos h]
    go_enter Try.func159, Try.ntmps159
    go_wp2_with fail
    go_ret
    exact ⟨rfl, rfl⟩
  · rw [if_neg h]
    go_enter Try.func159, Try.ntmps159
    go_wp2_with fail
    go_ret
    exact ⟨rfl, rfl⟩
theorem l00MaxD_any (a b : Int) (w : World) : Calls Try.prog 141 #[.int .i64 a, .int .i64 b] w fun e w' => e = .returned (.int .i64 (if b < a then a else b)) ∧ w = w' := by
  by_cases h : b < a
  · rw [if_pos h]
    go_enter Try.func141, Try.ntmps141
    go_wp2_with fail
    go_ret
    exact ⟨rfl, rfl⟩
  · rw [if_neg h]
    go_enter Try.func141, Try.ntmps141
    go_wp2_with fail
    go_ret
    exact ⟨rfl, rfl⟩
theorem blk_ltN {w : World} {q : Nat} {o : Obj} (h : w.heap[q]? = some o) : q < w.heap.size := (Array.getElem?_eq_some_iff.1 h).1
def RetDg (w : World) (B g k : Nat) (bs : List UInt8) (e : Ending) (w' : World) : Prop := ∃ (d : Dm) (x : Int), e = .returned (.tuple #[aggDm d, .int .i64 x]) ∧ SrcAt w' B g k bs ∧ w.grownBy w' (some g)
end Go.Proofs.Ytemcdmjnokpldaa
/- Drums: the law's draws, from the code. -/
namespace Go.Proofs.Ytemcdmjnokpldaa
open Go.RowKit Go.Joins

end Go.Proofs.Ytemcdmjnokpldaa
/- Drums: plain facts of the times; a row of numbers beside a draw from the code. -/
namespace Go.Proofs.Ytemcdmjnokpldaa
open Go.RowKit Go.Joins

theorem ceil_le {a g t : Int} (hg : 0 < g) (h : a ≤ g * t) : (a + g - 1) / g ≤ t := by
  have h1 : a + g - 1 < (t + 1) * g := by
    have : (t + 1) * g = g * t + g := by rw [Int.add_mul, Int.one_mul, Int.mul_comm]
    omega
  have h2 := Int.ediv_lt_of_lt_mul hg h1
  omega
theorem timeD_bd {d : Dm} {n j : Nat} (hok : okDm d = true) (hn : (n : Int) < d.b) (hj : j < n) : 1 ≤ timeD d n j ∧ timeD d n j ≤ d.t := by
  obtain ⟨hk, b1, b2, b3, b4, hf3, hf1⟩ := okDm_bd hok
  unfold timeD
  rcases hk with h | h | h
  · have hf := hf1 (by omega)
    rw [if_pos h]; omega
  · have hf := hf1 (by omega)
    rw [if_neg (by omega), if_pos h]; omega
  · rw [if_neg (by omega), if_neg (by omega)]
    have hn0 : (0 : Int) < (n : Int) := by omega
    have h1 : ((j : Int) + 1) * d.t ≤ (n : Int) * d.t := Int.mul_le_mul_of_nonneg_right (by omega) (by omega)
    have h2 : 1 * d.t ≤ ((j : Int) + 1) * d.t := Int.mul_le_mul_of_nonneg_right (by omega) (by omega)
    refine ⟨?_, ceil_le hn0 h1⟩
    have h3 := Int.le_ediv_of_mul_le (a := 1) (b := ((j : Int) + 1) * d.t + n - 1) hn0 (by omega)
    exact h3
theorem timeD_up {d : Dm} {n j : Nat} (hok : okDm d = true) (hn : (n : Int) < d.b) (hj : j + 1 < n) : timeD d n j < timeD d n (j + 1) := by
  obtain ⟨hk, b1, b2, b3, b4, hf3, hf1⟩ := okDm_bd hok
  unfold timeD
  rcases hk with h | h | h
  · rw [if_pos h, if_pos h]; push_cast; omega
  · rw [if_neg (by omega), if_pos h, if_neg (by omega), if_pos h]; push_cast; omega
  · rw [if_neg (by omega), if_neg (by omega), if_neg (by omega), if_neg (by omega)]
    have hn0 : (0 : Int) < (n : Int) := by omega
    have e : ((((j + 1 : Nat) : Int) + 1) * d.t) = ((j : Int) + 1) * d.t + d.t := by push_cast; rw [Int.add_mul]; omega
    rw [e]
    have h4 : (((j : Int) + 1) * d.t + n - 1 + n * 1) / (n : Int) = (((j : Int) + 1) * d.t + n - 1) / n + 1 := Int.add_mul_ediv_left _ _ (by omega)
    have h5 : (((j : Int) + 1) * d.t + n - 1 + n * 1) / (n : Int) ≤ (((j : Int) + 1) * d.t + d.t + n - 1) / n := Int.ediv_le_ediv hn0 (by omega)
    omega
theorem timeD_last {d : Dm} {n : Nat} (hok : okDm d = true) (hn : (n : Int) < d.b) : ∀ j, j < n → timeD d n j ≤ d.t := fun j hj => (timeD_bd hok hn hj).2
/-- a whole turn makes as many steps as the digit -/
theorem steps_turn {d : Dm} {n : Nat} (hok : okDm d = true) (hn : (n : Int) < d.b) : stepsD d n d.t = n := by
  obtain ⟨_, b1, b2, b3, b4, _⟩ := okDm_bd hok
  unfold stepsD
  rw [Int.ediv_self (by omega), Int.emod_self]
  have h : ∀ m, m ≤ n → cntT (timeD d n) 0 m = 0 := by
    intro m
    induction m with
    | zero => intro _; rfl
    | succ m ih =>
      intro hm
      rw [cntT_no (by have := (timeD_bd hok hn (j := m) (by omega)).1; omega), ih (by omega)]
  rw [h n (Nat.le_refl _)]
  omega
theorem cntT_mono {T : Nat → Int} {a b : Int} (h : a ≤ b) : ∀ n, cntT T a n ≤ cntT T b n := by
  intro n
  induction n with
  | zero => exact Nat.le_refl _
  | succ n ih =>
    unfold cntT
    by_cases h1 : T n ≤ a
    · rw [if_pos h1, if_pos (by omega)]; omega
    · rw [if_neg h1]; split <;> omega
/-- steps grow with the time -/
theorem steps_mono {d : Dm} {n : Nat} {a b : Int} (hok : okDm d = true) (h0 : 0 ≤ a) (hab : a ≤ b) : stepsD d n a ≤ stepsD d n b := by
  obtain ⟨_, b1, b2, b3, b4, _⟩ := okDm_bd hok
  have ht : 0 < d.t := by omega
  unfold stepsD
  have hq : a / d.t ≤ b / d.t := Int.ediv_le_ediv ht hab
  have hca := cntT_le (timeD d n) (a % d.t) n
  rcases Int.lt_or_eq_of_le hq with hlt | heq
  · have h1 : (a / d.t + 1) * (n : Int) ≤ b / d.t * (n : Int) := Int.mul_le_mul_of_nonneg_right (by omega) (by omega)
    rw [Int.add_mul, Int.one_mul] at h1
    omega
  · have e1 := Int.emod_def a d.t
    have e2 := Int.emod_def b d.t
    rw [← heq] at e2 ⊢
    have h2 : a % d.t ≤ b % d.t := by rw [e1, e2]; omega
    have h3 := cntT_mono (T := timeD d n) h2 n
    omega
theorem sameF_self (n : Nat) (f : Nat → Int) : sameF n n f f = true := sameF_yes (fun _ _ => rfl)
end Go.Proofs.Ytemcdmjnokpldaa
/- Drums: names; lists that are equal. -/
namespace Go.Proofs.Ytemcdmjnokpldaa
open Go.RowKit Go.Joins

theorem ret_boolD {a b : Bool} (h : a = b) : Ending.returned (.bool a) = .returned (.bool b) := by rw [h]
theorem f6ints_sameD (B1 B2 : Nat) (v1 v2 : Value) (n : Nat) (f g : Nat → Int) (w : World) (h : Rd w B1 v1 n 1 (tab n f)) (h' : Rd w B2 v2 n 1 (tab n g)) (hn : n ≤ 1000) (he : ∀ i, i < n → f i = g i) :
    Calls Try.prog 37 #[v1, v2] w fun e w' => e = .returned (.bool true) ∧ ∃ k, w' = w.drewN k := by
  have H := Lib.hid h
  have H' := Lib.hid h'
  have HE := Lib.hid he
  obtain ⟨A, c, rfl⟩ := rd_sl h
  obtain ⟨A', c', rfl⟩ := rd_sl h'
  clear h h' he
  go_enter Try.func37, Try.ntmps37
  go_wp2_with fail
  go_loopw [5] (fun i wr => ∃ (k d : Nat), k ≤ n ∧ i = .int .i64 (k : Int) ∧ wr = w.drewN d) (fun i _ => n - (intOf i).toNat)
  case atStart => exact ⟨0, 0, Nat.zero_le _, rfl, rfl⟩
  case round =>
    obtain ⟨k, d, hk, rfl, rfl⟩ := hrel
    by_cases hlt : k < n
    · obtain ⟨b1, o1, hA, _, hcc⟩ := rdF_all H.out (by omega)
      obtain ⟨b2, o2, hA', _, hcc'⟩ := rdF_all H'.out (by omega)
      subst hA hA'
      have q0 := hcc k hlt
      have q1 := hcc' k hlt
      rw [← HE.out k hlt] at q1
      have hlt' : (k : Int) < (n : Int) := by omega
      generalize f k = x at *
      clear hcc hcc'
      go_wp2_with fail
      go_quiet (fail)
      go_wp2_with fail
      go_roundw
      case rel => exact ⟨k + 1, d + _, by omega, by go_num, rfl⟩
      case measure => first | (simp [intOf]; done) | (simp [intOf]; omega)
    · have hlt' : (n : Int) ≤ (k : Int) := by omega
      go_wp2_with fail
      go_ret
      exact ⟨rfl, d, rfl⟩
theorem f6big_D (B n : Nat) (v : Value) (xs : List Value) (w : World) (h : Rd w B v n 1 xs) : Calls Try.prog 7 #[v] w fun e w' => e = .returned (.bool (decide (4096 < n))) ∧ w = w' := by
  obtain ⟨A, c, rfl⟩ := rd_sl h
  clear h
  by_cases hc : 4096 < n
  · have h1 : (4096 : Int) < (n : Int) := by omega
    go_enter Try.func7, Try.ntmps7
    go_wp2_with fail
    go_ret
    exact ⟨ret_boolD (by simp [hc]), rfl⟩
  · have h1 : ¬ (4096 : Int) < (n : Int) := by omega
    go_enter Try.func7, Try.ntmps7
    go_wp2_with fail
    go_ret
    exact ⟨ret_boolD (by simp [hc]), rfl⟩
def nameDm (n : Int) : ByteArray := if n = 1 then ⟨#[115, 116, 101, 112, 112, 101, 100]⟩ else if n = 2 then ⟨#[112, 105, 110, 115]⟩ else if n = 3 then ⟨#[114, 97, 99, 107]⟩ else ⟨#[]⟩
theorem name_cases (n : Int) : n = 1 ∨ n = 2 ∨ n = 3 ∨ (n ≠ 1 ∧ n ≠ 2 ∧ n ≠ 3 ∧ inB n 1 3 = false ∧ nameDm n = ⟨#[]⟩) := by
  by_cases h1 : n = 1
  · exact .inl h1
  · by_cases h2 : n = 2
    · exact .inr (.inl h2)
    · by_cases h3 : n = 3
      · exact .inr (.inr (.inl h3))
      · refine .inr (.inr (.inr ⟨h1, h2, h3, ?_, by unfold nameDm; rw [if_neg h1, if_neg h2, if_neg h3]⟩))
        unfold inB
        simp
        omega
def nmS : List ByteArray := [⟨#[115, 116, 101, 112, 112, 101, 100]⟩, ⟨#[112, 105, 110, 115]⟩, ⟨#[114, 97, 99, 107]⟩]
theorem nm_new (w : World) (i : Nat) (z : ByteArray) (hz : nmS[i]? = some z) : (w.alloc (.cells #[.string ⟨#[115, 116, 101, 112, 112, 101, 100]⟩, .string ⟨#[112, 105, 110, 115]⟩, .string ⟨#[114, 97, 99, 107]⟩] 9)).cell? ⟨w.heap.size, i, none⟩ = some (.string z) := by
  have := new_cells w #[.string ⟨#[115, 116, 101, 112, 112, 101, 100]⟩, .string ⟨#[112, 105, 110, 115]⟩, .string ⟨#[114, 97, 99, 107]⟩] 9 i (.string z) (by
    have h := congrArg (fun o => o.map Value.string) hz
    rw [Option.map_some] at h
    rw [← h]
    rcases i with _ | _ | _ | i <;> simp [nmS])
  rwa [show (⟨w.heap.size, 0, none⟩ : Addr).add i = ⟨w.heap.size, i, none⟩ by unfold Addr.add; split <;> simp_all] at this
end Go.Proofs.Ytemcdmjnokpldaa
/- The law FnFiner: the walk. -/
namespace Go.Proofs.Ytemcdmjnokpldaa
open Go.RowKit Go.Joins

theorem f6fractions_same (B1 B2 : Nat) (v1 v2 : Value) (n : Nat) (a b : Nat → Int) (w : World) (h : Rd w B1 v1 n 2 (tabQ n a b)) (h' : Rd w B2 v2 n 2 (tabQ n a b)) (hn : n ≤ 1000) :
    Calls Try.prog 36 #[v1, v2] w fun e w' => e = .returned (.bool true) ∧ ∃ k, w' = w.drewN k := by
  have H := Lib.hid h
  have H' := Lib.hid h'
  obtain ⟨A, c, rfl⟩ := rd_sl h
  obtain ⟨A', c', rfl⟩ := rd_sl h'
  clear h h'
  go_enter Try.func36, Try.ntmps36
  go_wp2_with fail
  go_loopw [5] (fun i wr => ∃ (k d : Nat), k ≤ n ∧ i = .int .i64 (k : Int) ∧ wr = w.drewN d) (fun i _ => n - (intOf i).toNat)
  case atStart => exact ⟨0, 0, Nat.zero_le _, rfl, rfl⟩
  case round =>
    obtain ⟨k, d, hk, rfl, rfl⟩ := hrel
    by_cases hlt : k < n
    · obtain ⟨b1, o1, hA, _, q0, q1⟩ := rdQ_at H.out k hlt
      obtain ⟨b2, o2, hA', _, q2, q3⟩ := rdQ_at H'.out k hlt
      subst hA hA'
      have hlt' : (k : Int) < (n : Int) := by omega
      generalize a k = x at *
      generalize b k = y at *
      go_wp2_with fail
      go_quiet (fail)
      go_wp2_with fail
      go_roundw
      case rel => exact ⟨k + 1, d + _, by omega, by go_num, rfl⟩
      case measure => first | (simp [intOf]; done) | (simp [intOf]; omega)
    · have hlt' : (n : Int) ≤ (k : Int) := by omega
      go_wp2_with fail
      go_ret
      exact ⟨rfl, d, rfl⟩
theorem va_point {f : Nat → Int} {n p k : Nat} {x : Int} (hv : VB (ldsF f) x p n) (hk : k < n) : vaN (ldsF f) ((k : Int) * (p : Int)) p n = f k ∧ vaD (ldsF f) ((k : Int) * (p : Int)) p n = 1 := by
  have h6 := hv.n6
  have h1 := smQ_point (ldsF f) (x := k) (q := p) (n := n - 1) (by omega) hv.q1 (by omega) n (by omega)
  have h2 : nval (ldsF f) k n = f k := newton_back f n k h6 hk
  have h3 := low_whole' (f k) (hv.belp (n - 1))
  obtain ⟨e1, e2⟩ := Prod.mk.inj h3
  unfold vaN vaD
  rw [h1, h2]
  exact ⟨e1, e2⟩
theorem fd_point {f : Nat → Int} {n p : Nat} {x : Int} (hv : VB (ldsF f) x p n) : fd0 f n p 0 = f 0 ∧ fd1 f n p 0 = 1 := by
  have h1 := va_point (k := 0) hv hv.n1
  have e0 : (((0 : Nat) : Int) * (p : Int)) = ((0 : Nat) : Int) := Int.zero_mul _
  rw [e0] at h1
  exact ⟨h1.1, by show ((_ : Nat) : Int) = 1; exact congrArg Nat.cast h1.2⟩
theorem ft_zero {n : Nat} {f : Nat → Int} {p c : Int} (h : ftC n f p c = 0) : ∃ p' c' : Nat, p = (p' : Int) ∧ c = (c' : Int) ∧ c' ≤ 120 ∧ ftN n f p c = c' ∧ VB (ldsF f) 0 p' n := by
  cases hc : (codeB n f 0 p && inB c 0 120) with
  | false => rw [(ft_bad hc).2] at h; cases h
  | true =>
    have hc0 := hc
    rw [Bool.and_eq_true] at hc
    obtain ⟨p', rfl, _, hv⟩ := codeB_ok hc.1
    have h3 := inB_iff.1 hc.2
    obtain ⟨c', rfl⟩ : ∃ m : Nat, c = (m : Int) := ⟨c.toNat, by omega⟩
    obtain ⟨e1, e2⟩ := ft_ok hc0
    rw [e2] at h
    rcases fin_cases c' (ftOk (ldsF f) p' n) with ⟨_, f2, _⟩ | ⟨_, _, f3⟩
    · exact ⟨p', c', rfl, rfl, by omega, by rw [e1, f2], hv⟩
    · rw [f3] at h; cases h
theorem fd_zero {n : Nat} {f : Nat → Int} {p : Int} (h : fdC f n p = 0) : ∃ p' : Nat, p = (p' : Int) ∧ fdN f n p = n ∧ VB (ldsF f) 0 p' n := by
  by_cases h0 : ftC n f p n = 0
  · obtain ⟨p', c', rfl, _, _, _, hv⟩ := ft_zero h0
    obtain ⟨e1, e2⟩ := fd_ok h0
    rw [e2] at h
    rcases fin_cases n (fdOk f n p') with ⟨_, f2, _⟩ | ⟨_, _, f3⟩
    · exact ⟨p', rfl, by rw [e1, f2], hv⟩
    · rw [f3] at h; cases h
  · rw [(fd_bad rfl h0).2] at h
    exact absurd h h0
theorem fin_le (c : Nat) (g : Nat → Bool) : finN c g ≤ c := by unfold finN; split <;> omega
theorem ftN_le (n : Nat) (f : Nat → Int) (p c : Int) : ftN n f p c ≤ 120 := by
  unfold ftN
  split
  · rename_i h
    rw [Bool.and_eq_true] at h
    have := inB_iff.1 h.2
    exact Nat.le_trans (fin_le _ _) (by omega)
  · omega
theorem fdN_le (f : Nat → Int) (n : Nat) (p : Int) : fdN f n p ≤ n := by
  unfold fdN
  split
  · exact fin_le _ _
  · omega
theorem ldN_le (n : Nat) (f : Nat → Int) : ldN n f ≤ n := by unfold ldN; split <;> omega
/-- a block of two cells -/
structure Q2 (w : World) (q : Nat) (a b : Value) : Prop where
  lt : q < w.heap.size
  c : w.cell? ⟨q, 0, none⟩ = some a ∧ w.cell? ⟨q, 1, none⟩ = some b
theorem Q2.below {w w' : World} {q : Nat} {a b : Value} (h : Q2 w q a b) (hb : Below w.heap.size w w') : Q2 w' q a b :=
  ⟨Nat.lt_of_lt_of_le h.lt hb.size, (hb.cell (p := ⟨q, 0, none⟩) h.lt).trans h.c.1, (hb.cell (p := ⟨q, 1, none⟩) h.lt).trans h.c.2⟩
theorem Q2.new (w : World) (a b : Value) (t : TypeId) : Q2 (w.alloc (.cells #[a, b] t)) w.heap.size a b :=
  have h := blk2 (heap_alloc_new w (.cells #[a, b] t))
  ⟨by simp, h.1, h.2.1⟩
set_option maxRecDepth 100000 in
set_option maxHeartbeats 25600000 in
theorem walkFnFiner {W : World} (v : Value) (bs : List UInt8) (h : Rd W W.heap.size v bs.length 1 (bs.map byV)) (_hl : bs.length ≤ maxLen) :
    Calls Try.prog 4 #[v] W fun e w' => e = .returned (.bool true) ∧ Below W.heap.size W w' := by
  have HB := Lib.hid (Below.refl W.heap.size W)
  have HC := Lib.hid h
  have HG := Lib.hid (f6big_D _ _ v _ W h)
  obtain ⟨_, A0, c0, rfl, _⟩ := h
  by_cases hbig : 4096 < bs.length
  · rw [decide_eq_true hbig] at HG
    clear hbig
    go_enter Try.func4, Try.ntmps4
    go_wp2_with fail
    refine HG.out.mono ?_; rintro e w1 ⟨rfl, rfl⟩
    go_wp2_with fail
    go_ret
    exact ⟨rfl, HB.out⟩
  rw [decide_eq_false hbig] at HG
  clear hbig
  go_enter Try.func4, Try.ntmps4
  go_wp2_with fail
  refine HG.out.mono ?_; rintro e w1 ⟨rfl, rfl⟩
  clear HG
  go_wp2_with fail
  refine (DrawFinerTable_c _ _ bs _ (HC.out.below HB.out) HB.out.size).mono ?_; rintro e wn ⟨v3, n3, f3, x4, x5, rfl, hn3, ho, hb⟩
  have R30 := Lib.hid (Rd.of_own ho)
  have HB' := Lib.hid (HB.out.trans (hb.mono HB.out.size)); clear HB; have HB := HB'; clear HB'
  have R3 := R30; clear R30
  obtain ⟨A3, c3, rfl⟩ := own_sl ho
  clear hb ho
  have HFI := Lib.hid (fun wx hx => FTableI_any wx.heap.size (.slice A3 n3 c3) n3 f3 x4 x5 wx hx (Nat.le_refl _) (by omega))
  have HFS := Lib.hid (fun wx hx => FTableS_any wx.heap.size (.slice A3 n3 c3) n3 f3 x4 x5 wx hx (Nat.le_refl _) (by omega))
  have HFZ := Lib.hid (@ft_zero n3 f3 x4 x5)
  have hl6 := ftN_le n3 f3 x4 x5
  unfold RetFT RetQs at HFI HFS
  have HVA := Lib.hid (show ∀ i, ftA (ldsF f3) x4.toNat n3 i = vaN (ldsF f3) (i : Int) x4.toNat n3 ∧ ftB (ldsF f3) x4.toNat n3 i = (vaD (ldsF f3) (i : Int) x4.toNat n3 : Int) from fun i => ⟨rfl, rfl⟩)
  generalize ftN n3 f3 x4 x5 = N6 at *
  generalize ftC n3 f3 x4 x5 = C7 at *
  generalize ftA (ldsF f3) x4.toNat n3 = a6 at *
  generalize ftB (ldsF f3) x4.toNat n3 = b6 at *
  go_wp2_with fail
  refine (HFI.out _ R3.out).mono ?_; rintro e wn ⟨v6, rfl, ho, hb⟩
  have R60 := Lib.hid (Rd.of_own ho)
  have R3' := Lib.hid (rdN R3.out hb)
  clear R3; have R3 := R3'; clear R3'
  have HB' := Lib.hid (HB.out.trans (hb.mono HB.out.size)); clear HB; have HB := HB'; clear HB'
  have R6 := R60; clear R60
  obtain ⟨A6, c6, rfl⟩ := own_sl ho
  clear hb ho HFI
  go_wp2_with fail
  refine (HFS.out _ R3.out).mono ?_; rintro e wn ⟨v8, rfl, ho, hb⟩
  have R80 := Lib.hid (Rd.of_own ho)
  have R3' := Lib.hid (rdN R3.out hb)
  have R6' := Lib.hid (rdN R6.out hb)
  clear R3; have R3 := R3'; clear R3'
  clear R6; have R6 := R6'; clear R6'
  have HB' := Lib.hid (HB.out.trans (hb.mono HB.out.size)); clear HB; have HB := HB'; clear HB'
  have R8 := R80; clear R80
  obtain ⟨A8, c8, rfl⟩ := own_sl ho
  clear hb ho HFS
  go_wp2_with fail
  refine (DrawValueBetween_c _ _ bs _ (HC.out.below HB.out) HB.out.size).mono ?_; rintro e wn ⟨v10, n10, f10, x11, x12, rfl, hn10, ho, hb⟩
  have R100 := Lib.hid (Rd.of_own ho)
  have R3' := Lib.hid (rdN R3.out hb)
  have R6' := Lib.hid (rdN R6.out hb)
  have R8' := Lib.hid (rdN R8.out hb)
  clear R3; have R3 := R3'; clear R3'
  clear R6; have R6 := R6'; clear R6'
  clear R8; have R8 := R8'; clear R8'
  have HB' := Lib.hid (HB.out.trans (hb.mono HB.out.size)); clear HB; have HB := HB'; clear HB'
  have R10 := R100; clear R100
  obtain ⟨A10, c10, rfl⟩ := own_sl ho
  clear hb ho
  have HVI := Lib.hid (fun wx hx => VBetweenI_any wx.heap.size (.slice A10 n10 c10) n10 f10 x11 x12 wx hx (Nat.le_refl _) (by omega))
  have HVS := Lib.hid (fun wx hx => VBetweenS_any wx.heap.size (.slice A10 n10 c10) n10 f10 x11 x12 wx hx (Nat.le_refl _) (by omega))
  unfold RetVB at HVI HVS
  generalize vbN n10 f10 x11 x12 = N13 at *
  generalize vbD n10 f10 x11 x12 = D13 at *
  generalize vbC n10 f10 x11 x12 = C14 at *
  go_wp2_with fail
  refine (HVI.out _ R10.out).mono ?_; rintro e wn ⟨rfl, hb⟩
  have R3' := Lib.hid (rdN R3.out hb)
  have R6' := Lib.hid (rdN R6.out hb)
  have R8' := Lib.hid (rdN R8.out hb)
  have R10' := Lib.hid (rdN R10.out hb)
  clear R3; have R3 := R3'; clear R3'
  clear R6; have R6 := R6'; clear R6'
  clear R8; have R8 := R8'; clear R8'
  clear R10; have R10 := R10'; clear R10'
  have HB' := Lib.hid (HB.out.trans (hb.mono HB.out.size)); clear HB; have HB := HB'; clear HB'
  clear hb HVI
  go_upto_region 8 with (fail)
  have hbw := (Below.refl wn.heap.size wn).alloc (Nat.le_refl _) (.cells #[.int .i64 N13, .int .i64 D13] 56)
  have HQ130 := Lib.hid (Q2.new wn (.int .i64 N13) (.int .i64 D13) 56)
  have R3' := Lib.hid (rdN R3.out hbw)
  have R6' := Lib.hid (rdN R6.out hbw)
  have R8' := Lib.hid (rdN R8.out hbw)
  have R10' := Lib.hid (rdN R10.out hbw)
  clear R3; have R3 := R3'; clear R3'
  clear R6; have R6 := R6'; clear R6'
  clear R8; have R8 := R8'; clear R8'
  clear R10; have R10 := R10'; clear R10'
  have HB' := Lib.hid (HB.out.trans (hbw.mono HB.out.size)); clear HB; have HB := HB'; clear HB'
  have HQ13 := HQ130; clear HQ130
  clear hbw
  generalize hq13 : wn.heap.size = q13 at *
  generalize wn.alloc (.cells #[.int .i64 N13, .int .i64 D13] 56) = wn at *
  clear hq13
  go_wp2_with fail
  refine (HVS.out _ R10.out).mono ?_; rintro e wn ⟨rfl, hb⟩
  have R3' := Lib.hid (rdN R3.out hb)
  have R6' := Lib.hid (rdN R6.out hb)
  have R8' := Lib.hid (rdN R8.out hb)
  have R10' := Lib.hid (rdN R10.out hb)
  clear R3; have R3 := R3'; clear R3'
  clear R6; have R6 := R6'; clear R6'
  clear R8; have R8 := R8'; clear R8'
  clear R10; have R10 := R10'; clear R10'
  have HQ13' := Lib.hid (HQ13.out.below hb); clear HQ13; have HQ13 := HQ13'; clear HQ13'
  have HB' := Lib.hid (HB.out.trans (hb.mono HB.out.size)); clear HB; have HB := HB'; clear HB'
  clear hb HVS
  go_upto_region 9 with (fail)
  have hbw := (Below.refl wn.heap.size wn).alloc (Nat.le_refl _) (.cells #[.int .i64 N13, .int .i64 D13] 56)
  have HQ150 := Lib.hid (Q2.new wn (.int .i64 N13) (.int .i64 D13) 56)
  have R3' := Lib.hid (rdN R3.out hbw)
  have R6' := Lib.hid (rdN R6.out hbw)
  have R8' := Lib.hid (rdN R8.out hbw)
  have R10' := Lib.hid (rdN R10.out hbw)
  clear R3; have R3 := R3'; clear R3'
  clear R6; have R6 := R6'; clear R6'
  clear R8; have R8 := R8'; clear R8'
  clear R10; have R10 := R10'; clear R10'
  have HQ13' := Lib.hid (HQ13.out.below hbw); clear HQ13; have HQ13 := HQ13'; clear HQ13'
  have HB' := Lib.hid (HB.out.trans (hbw.mono HB.out.size)); clear HB; have HB := HB'; clear HB'
  have HQ15 := HQ150; clear HQ150
  clear hbw
  generalize hq15 : wn.heap.size = q15 at *
  generalize wn.alloc (.cells #[.int .i64 N13, .int .i64 D13] 56) = wn at *
  clear hq15
  clear R10
  clear hn10
  go_wp2_with fail
  refine (DrawFinerDifferences_c _ _ bs _ (HC.out.below HB.out) HB.out.size).mono ?_; rintro e wn ⟨v17, n17, f17, x18, rfl, hn17, ho, hb⟩
  have R170 := Lib.hid (Rd.of_own ho)
  have R3' := Lib.hid (rdN R3.out hb)
  have R6' := Lib.hid (rdN R6.out hb)
  have R8' := Lib.hid (rdN R8.out hb)
  clear R3; have R3 := R3'; clear R3'
  clear R6; have R6 := R6'; clear R6'
  clear R8; have R8 := R8'; clear R8'
  have HQ13' := Lib.hid (HQ13.out.below hb); clear HQ13; have HQ13 := HQ13'; clear HQ13'
  have HQ15' := Lib.hid (HQ15.out.below hb); clear HQ15; have HQ15 := HQ15'; clear HQ15'
  have HB' := Lib.hid (HB.out.trans (hb.mono HB.out.size)); clear HB; have HB := HB'; clear HB'
  have R17 := R170; clear R170
  obtain ⟨A17, c17, rfl⟩ := own_sl ho
  clear hb ho
  have HDI := Lib.hid (fun wx hx => FDiffI_any wx.heap.size (.slice A17 n17 c17) n17 f17 x18 wx hx (Nat.le_refl _) (by omega))
  have HDS := Lib.hid (fun wx hx => FDiffS_any wx.heap.size (.slice A17 n17 c17) n17 f17 x18 wx hx (Nat.le_refl _) (by omega))
  have HDZ := Lib.hid (@fd_zero n17 f17 x18)
  have hl19 := fdN_le f17 n17 x18
  have HDA := Lib.hid (show ∀ p : Nat, x18 = (p : Int) → fd0 f17 n17 x18.toNat = fd0 f17 n17 p ∧ fd1 f17 n17 x18.toNat = fd1 f17 n17 p from fun p hp => by rw [hp, Int.toNat_natCast]; exact ⟨rfl, rfl⟩)
  unfold RetFD RetQs at HDI HDS
  generalize fdN f17 n17 x18 = N19 at *
  generalize fdC f17 n17 x18 = C20 at *
  generalize fd0 f17 n17 x18.toNat = a19 at *
  generalize fd1 f17 n17 x18.toNat = b19 at *
  go_wp2_with fail
  refine (HDI.out _ R17.out).mono ?_; rintro e wn ⟨v19, rfl, ho, hb⟩
  have R190 := Lib.hid (Rd.of_own ho)
  have R3' := Lib.hid (rdN R3.out hb)
  have R6' := Lib.hid (rdN R6.out hb)
  have R8' := Lib.hid (rdN R8.out hb)
  have R17' := Lib.hid (rdN R17.out hb)
  clear R3; have R3 := R3'; clear R3'
  clear R6; have R6 := R6'; clear R6'
  clear R8; have R8 := R8'; clear R8'
  clear R17; have R17 := R17'; clear R17'
  have HQ13' := Lib.hid (HQ13.out.below hb); clear HQ13; have HQ13 := HQ13'; clear HQ13'
  have HQ15' := Lib.hid (HQ15.out.below hb); clear HQ15; have HQ15 := HQ15'; clear HQ15'
  have HB' := Lib.hid (HB.out.trans (hb.mono HB.out.size)); clear HB; have HB := HB'; clear HB'
  have R19 := R190; clear R190
  obtain ⟨A19, c19, rfl⟩ := own_sl ho
  clear hb ho HDI
  go_wp2_with fail
  refine (HDS.out _ R17.out).mono ?_; rintro e wn ⟨v21, rfl, ho, hb⟩
  have R210 := Lib.hid (Rd.of_own ho)
  have R3' := Lib.hid (rdN R3.out hb)
  have R6' := Lib.hid (rdN R6.out hb)
  have R8' := Lib.hid (rdN R8.out hb)
  have R17' := Lib.hid (rdN R17.out hb)
  have R19' := Lib.hid (rdN R19.out hb)
  clear R3; have R3 := R3'; clear R3'
  clear R6; have R6 := R6'; clear R6'
  clear R8; have R8 := R8'; clear R8'
  clear R17; have R17 := R17'; clear R17'
  clear R19; have R19 := R19'; clear R19'
  have HQ13' := Lib.hid (HQ13.out.below hb); clear HQ13; have HQ13 := HQ13'; clear HQ13'
  have HQ15' := Lib.hid (HQ15.out.below hb); clear HQ15; have HQ15 := HQ15'; clear HQ15'
  have HB' := Lib.hid (HB.out.trans (hb.mono HB.out.size)); clear HB; have HB := HB'; clear HB'
  have R21 := R210; clear R210
  obtain ⟨A21, c21, rfl⟩ := own_sl ho
  clear hb ho HDS
  go_wp2_with fail
  refine (DrawLeadingDifferences_c _ _ bs _ (HC.out.below HB.out) HB.out.size).mono ?_; rintro e wn ⟨v23, n23, f23, rfl, hn23, ho, hb⟩
  have R230 := Lib.hid (Rd.of_own ho)
  have R3' := Lib.hid (rdN R3.out hb)
  have R6' := Lib.hid (rdN R6.out hb)
  have R8' := Lib.hid (rdN R8.out hb)
  have R17' := Lib.hid (rdN R17.out hb)
  have R19' := Lib.hid (rdN R19.out hb)
  have R21' := Lib.hid (rdN R21.out hb)
  clear R3; have R3 := R3'; clear R3'
  clear R6; have R6 := R6'; clear R6'
  clear R8; have R8 := R8'; clear R8'
  clear R17; have R17 := R17'; clear R17'
  clear R19; have R19 := R19'; clear R19'
  clear R21; have R21 := R21'; clear R21'
  have HQ13' := Lib.hid (HQ13.out.below hb); clear HQ13; have HQ13 := HQ13'; clear HQ13'
  have HQ15' := Lib.hid (HQ15.out.below hb); clear HQ15; have HQ15 := HQ15'; clear HQ15'
  have HB' := Lib.hid (HB.out.trans (hb.mono HB.out.size)); clear HB; have HB := HB'; clear HB'
  have R23 := R230; clear R230
  obtain ⟨A23, c23, rfl⟩ := own_sl ho
  clear hb ho
  have HLI := Lib.hid (fun wx hx => LeadsI_any wx.heap.size (.slice A23 n23 c23) n23 f23 wx hx (Nat.le_refl _) (by omega))
  have HLS := Lib.hid (fun wx hx => LeadsS_any wx.heap.size (.slice A23 n23 c23) n23 f23 wx hx (Nat.le_refl _) (by omega))
  have hl24 := ldN_le n23 f23
  unfold RetLD at HLI HLS
  generalize ldN n23 f23 = N24 at *
  generalize ldC n23 f23 = C25 at *
  generalize ldsF f23 = a24 at *
  go_wp2_with fail
  refine (HLI.out _ R23.out).mono ?_; rintro e wn ⟨v24, rfl, ho, hb⟩
  have R240 := Lib.hid (Rd.of_own ho)
  have R3' := Lib.hid (rdN R3.out hb)
  have R6' := Lib.hid (rdN R6.out hb)
  have R8' := Lib.hid (rdN R8.out hb)
  have R17' := Lib.hid (rdN R17.out hb)
  have R19' := Lib.hid (rdN R19.out hb)
  have R21' := Lib.hid (rdN R21.out hb)
  have R23' := Lib.hid (rdN R23.out hb)
  clear R3; have R3 := R3'; clear R3'
  clear R6; have R6 := R6'; clear R6'
  clear R8; have R8 := R8'; clear R8'
  clear R17; have R17 := R17'; clear R17'
  clear R19; have R19 := R19'; clear R19'
  clear R21; have R21 := R21'; clear R21'
  clear R23; have R23 := R23'; clear R23'
  have HQ13' := Lib.hid (HQ13.out.below hb); clear HQ13; have HQ13 := HQ13'; clear HQ13'
  have HQ15' := Lib.hid (HQ15.out.below hb); clear HQ15; have HQ15 := HQ15'; clear HQ15'
  have HB' := Lib.hid (HB.out.trans (hb.mono HB.out.size)); clear HB; have HB := HB'; clear HB'
  have R24 := R240; clear R240
  obtain ⟨A24, c24, rfl⟩ := own_sl ho
  clear hb ho HLI
  go_wp2_with fail
  refine (HLS.out _ R23.out).mono ?_; rintro e wn ⟨v26, rfl, ho, hb⟩
  have R260 := Lib.hid (Rd.of_own ho)
  have R3' := Lib.hid (rdN R3.out hb)
  have R6' := Lib.hid (rdN R6.out hb)
  have R8' := Lib.hid (rdN R8.out hb)
  have R17' := Lib.hid (rdN R17.out hb)
  have R19' := Lib.hid (rdN R19.out hb)
  have R21' := Lib.hid (rdN R21.out hb)
  have R23' := Lib.hid (rdN R23.out hb)
  have R24' := Lib.hid (rdN R24.out hb)
  clear R3; have R3 := R3'; clear R3'
  clear R6; have R6 := R6'; clear R6'
  clear R8; have R8 := R8'; clear R8'
  clear R17; have R17 := R17'; clear R17'
  clear R19; have R19 := R19'; clear R19'
  clear R21; have R21 := R21'; clear R21'
  clear R23; have R23 := R23'; clear R23'
  clear R24; have R24 := R24'; clear R24'
  have HQ13' := Lib.hid (HQ13.out.below hb); clear HQ13; have HQ13 := HQ13'; clear HQ13'
  have HQ15' := Lib.hid (HQ15.out.below hb); clear HQ15; have HQ15 := HQ15'; clear HQ15'
  have HB' := Lib.hid (HB.out.trans (hb.mono HB.out.size)); clear HB; have HB := HB'; clear HB'
  have R26 := R260; clear R260
  obtain ⟨A26, c26, rfl⟩ := own_sl ho
  clear hb ho HLS
  clear R23
  clear HC
  have HF := Lib.hid (f6fractions_same _ _ _ _ N6 _ _ _ R6.out R8.out (by omega))
  go_wp2_with fail
  refine HF.out.mono ?_; rintro e wm ⟨rfl, d, hd⟩
  have hb : Below wn.heap.size wn wm := by rw [hd]; exact below_drewN (Below.refl _ _) d
  clear HF
  have R3' := Lib.hid (rdN R3.out hb)
  have R6' := Lib.hid (rdN R6.out hb)
  have R8' := Lib.hid (rdN R8.out hb)
  have R17' := Lib.hid (rdN R17.out hb)
  have R19' := Lib.hid (rdN R19.out hb)
  have R21' := Lib.hid (rdN R21.out hb)
  have R24' := Lib.hid (rdN R24.out hb)
  have R26' := Lib.hid (rdN R26.out hb)
  clear R3; have R3 := R3'; clear R3'
  clear R6; have R6 := R6'; clear R6'
  clear R8; have R8 := R8'; clear R8'
  clear R17; have R17 := R17'; clear R17'
  clear R19; have R19 := R19'; clear R19'
  clear R21; have R21 := R21'; clear R21'
  clear R24; have R24 := R24'; clear R24'
  clear R26; have R26 := R26'; clear R26'
  have HQ13' := Lib.hid (HQ13.out.below hb); clear HQ13; have HQ13 := HQ13'; clear HQ13'
  have HQ15' := Lib.hid (HQ15.out.below hb); clear HQ15; have HQ15 := HQ15'; clear HQ15'
  have HB' := Lib.hid (HB.out.trans (hb.mono HB.out.size)); clear HB; have HB := HB'; clear HB'
  clear hb hd
  obtain ⟨wn, rfl⟩ : ∃ z, z = wm := ⟨_, rfl⟩
  clear R8
  obtain ⟨z0, z1⟩ := HQ13.out.c
  obtain ⟨z2, z3⟩ := HQ15.out.c
  have HF := Lib.hid (f6fractions_same _ _ _ _ N19 _ _ _ R19.out R21.out (by omega))
  go_wp2_with fail
  refine HF.out.mono ?_; rintro e wm ⟨rfl, d, hd⟩
  have hb : Below wn.heap.size wn wm := by rw [hd]; exact below_drewN (Below.refl _ _) d
  clear HF
  have R3' := Lib.hid (rdN R3.out hb)
  have R6' := Lib.hid (rdN R6.out hb)
  have R17' := Lib.hid (rdN R17.out hb)
  have R19' := Lib.hid (rdN R19.out hb)
  have R21' := Lib.hid (rdN R21.out hb)
  have R24' := Lib.hid (rdN R24.out hb)
  have R26' := Lib.hid (rdN R26.out hb)
  clear R3; have R3 := R3'; clear R3'
  clear R6; have R6 := R6'; clear R6'
  clear R17; have R17 := R17'; clear R17'
  clear R19; have R19 := R19'; clear R19'
  clear R21; have R21 := R21'; clear R21'
  clear R24; have R24 := R24'; clear R24'
  clear R26; have R26 := R26'; clear R26'
  have HQ13' := Lib.hid (HQ13.out.below hb); clear HQ13; have HQ13 := HQ13'; clear HQ13'
  have HQ15' := Lib.hid (HQ15.out.below hb); clear HQ15; have HQ15 := HQ15'; clear HQ15'
  have HB' := Lib.hid (HB.out.trans (hb.mono HB.out.size)); clear HB; have HB := HB'; clear HB'
  clear hb hd
  obtain ⟨wn, rfl⟩ : ∃ z, z = wm := ⟨_, rfl⟩
  clear R21
  clear z0 z1 z2 z3
  clear HQ13
  clear HQ15
  have HF := Lib.hid (f6ints_sameD _ _ _ _ N24 _ _ _ R24.out R26.out (by omega) (fun _ _ => rfl))
  go_wp2_with fail
  refine HF.out.mono ?_; rintro e wm ⟨rfl, d, hd⟩
  have hb : Below wn.heap.size wn wm := by rw [hd]; exact below_drewN (Below.refl _ _) d
  clear HF
  have R3' := Lib.hid (rdN R3.out hb)
  have R6' := Lib.hid (rdN R6.out hb)
  have R17' := Lib.hid (rdN R17.out hb)
  have R19' := Lib.hid (rdN R19.out hb)
  have R24' := Lib.hid (rdN R24.out hb)
  have R26' := Lib.hid (rdN R26.out hb)
  clear R3; have R3 := R3'; clear R3'
  clear R6; have R6 := R6'; clear R6'
  clear R17; have R17 := R17'; clear R17'
  clear R19; have R19 := R19'; clear R19'
  clear R24; have R24 := R24'; clear R24'
  clear R26; have R26 := R26'; clear R26'
  have HB' := Lib.hid (HB.out.trans (hb.mono HB.out.size)); clear HB; have HB := HB'; clear HB'
  clear hb hd
  obtain ⟨wn, rfl⟩ : ∃ z, z = wm := ⟨_, rfl⟩
  clear R24
  clear R26
  by_cases hc20 : C20 = 0
  · obtain ⟨p18, rfl, hN19, hv19⟩ := HDZ.out hc20
    obtain ⟨ha19, hb19⟩ := HDA.out p18 rfl
    obtain ⟨hp1, hp2⟩ := fd_point hv19
    have hn17p := hv19.n1
    subst hN19 hc20
    obtain ⟨b19', o19, hA, _, t0, t1⟩ := rdQ_at R19.out 0 (by omega)
    obtain ⟨b17', o17, hA17, _, hcc⟩ := rdF_all R17.out (by omega)
    have t2 := hcc 0 (by omega)
    rw [ha19, hp1] at t0
    rw [hb19, hp2] at t1
    rw [Nat.zero_mul, Nat.add_zero] at t0 t1
    rw [Nat.add_zero] at t2
    subst hA hA17
    generalize f17 0 = y at *
    have hpos : (0 : Int) < (N19 : Int) := by omega
    clear hcc ha19 hb19 hp1 hp2 hv19 HDZ HDA
    go_upto_region 17 with (fail)
    go_quiet (fail)
    clear t0 t1 t2
    have hb : Below wn.heap.size wn (wn.drewN nq) := below_drewN (Below.refl _ _) nq
    have R3' := Lib.hid (rdN R3.out hb); clear R3; have R3 := R3'; clear R3'
    have R6' := Lib.hid (rdN R6.out hb); clear R6; have R6 := R6'; clear R6'
    have HB' := Lib.hid (HB.out.trans (hb.mono HB.out.size)); clear HB; have HB := HB'; clear HB'
    clear hb
    generalize wn.drewN nq = wn at *
    clear R17 R19
    by_cases hc7 : C7 = 0
    · obtain ⟨p, c, rfl, rfl, hc, hN6, hv⟩ := HFZ.out hc7
      subst hN6
      subst hc7
      have hq1 := hv.q1
      have hq20 := hv.q20
      have hn1 := hv.n1
      have hn6 := hv.n6
      rw [Int.toNat_natCast] at HVA
      have HVP := Lib.hid (fun k hk => va_point (k := k) hv hk)
      clear HFZ hv
      go_wp2_with fail
      go_loopw [28] (fun i wr => ∃ (k d : Nat), k ≤ n3 ∧ i = .int .i64 (k : Int) ∧ wr = wn.drewN d) (fun i _ => n3 - (intOf i).toNat)
      case atStart => exact ⟨0, 0, by omega, rfl, rfl⟩
      case round =>
        obtain ⟨k, d, hk, rfl, hwr⟩ := hrel
        have hbr : Below wn.heap.size wn wr := by rw [hwr]; exact below_drewN (Below.refl _ _) d
        have Hwr := Lib.hid hwr
        have Hbr := Lib.hid (HB.out.trans (hbr.mono HB.out.size))
        clear hwr
        by_cases hlt : k < n3
        · have hlt' : (k : Int) < (n3 : Int) := by omega
          have hP := kq_le (k := k) (q := p) (by omega) hq20
          obtain ⟨m, hm⟩ : ∃ m : Nat, (k : Int) * (p : Int) = (m : Int) := ⟨k * p, (Int.natCast_mul _ _).symm⟩
          have hmw : IntKind.i64.wrap ((k : Int) * (p : Int)) = (m : Int) := by rw [hm]; exact IntWalk.i64_in _ (by omega)
          rw [hm] at hP
          obtain ⟨g1, g2⟩ := HVA.out m
          obtain ⟨g3, g4⟩ := HVP.out k hlt
          rw [hm] at g3 g4
          rw [g3] at g1
          rw [g4] at g2
          clear g3 g4 hm
          by_cases hmc : m < N6
          · obtain ⟨b6', o6, hA, _, t0, t1⟩ := rdQ_at (R6.out.below hbr) m hmc
            obtain ⟨b3', o3, hA3, _, hcc⟩ := rdF_all (R3.out.below hbr) (show 0 < n3 by omega)
            subst hA hA3
            have t2 := hcc k hlt
            rw [g1] at t0
            rw [g2] at t1
            have hmc' : (m : Int) < (N6 : Int) := by omega
            have hmz : (0 : Int) ≤ (m : Int) := by omega
            generalize f3 k = y at *
            clear hcc g1 g2 hbr
            obtain ⟨wz, rfl⟩ : ∃ z, z = wr := ⟨_, rfl⟩
            go_wp2_with fail
            go_quiet (fail)
            go_wp2_with fail
            go_roundw
            case rel => exact ⟨k + 1, d + nq, by omega, by go_num, by rw [Hwr.out]; first | rfl | exact World.drewN_drewN _ _ _⟩
            case measure => first | (simp [intOf]; done) | (simp [intOf]; omega)
          · have hmc' : (N6 : Int) ≤ (m : Int) := by omega
            go_wp2_with fail
            go_ret
            exact ⟨rfl, Hbr.out⟩
        · have hlt' : (n3 : Int) ≤ (k : Int) := by omega
          go_wp2_with fail
          go_ret
          exact ⟨rfl, Hbr.out⟩
    · have hc7' : (C7 == 0) = false := by simp [hc7]
      have hc7'' : (C7 != 0) = true := by simp [hc7]
      clear HFZ
      go_wp2_with fail
      go_ret
      exact ⟨rfl, HB.out⟩
  · have hc20' : (C20 == 0) = false := by simp [hc20]
    clear HDZ HDA R17 R19
    go_upto_region 17 with (fail)
    go_quiet (fail)
    have hb : Below wn.heap.size wn (wn.drewN nq) := below_drewN (Below.refl _ _) nq
    have R3' := Lib.hid (rdN R3.out hb); clear R3; have R3 := R3'; clear R3'
    have R6' := Lib.hid (rdN R6.out hb); clear R6; have R6 := R6'; clear R6'
    have HB' := Lib.hid (HB.out.trans (hb.mono HB.out.size)); clear HB; have HB := HB'; clear HB'
    clear hb
    generalize wn.drewN nq = wn at *
    by_cases hc7 : C7 = 0
    · obtain ⟨p, c, rfl, rfl, hc, hN6, hv⟩ := HFZ.out hc7
      subst hN6
      subst hc7
      have hq1 := hv.q1
      have hq20 := hv.q20
      have hn1 := hv.n1
      have hn6 := hv.n6
      rw [Int.toNat_natCast] at HVA
      have HVP := Lib.hid (fun k hk => va_point (k := k) hv hk)
      clear HFZ hv
      go_wp2_with fail
      go_loopw [28] (fun i wr => ∃ (k d : Nat), k ≤ n3 ∧ i = .int .i64 (k : Int) ∧ wr = wn.drewN d) (fun i _ => n3 - (intOf i).toNat)
      case atStart => exact ⟨0, 0, by omega, rfl, rfl⟩
      case round =>
        obtain ⟨k, d, hk, rfl, hwr⟩ := hrel
        have hbr : Below wn.heap.size wn wr := by rw [hwr]; exact below_drewN (Below.refl _ _) d
        have Hwr := Lib.hid hwr
        have Hbr := Lib.hid (HB.out.trans (hbr.mono HB.out.size))
        clear hwr
        by_cases hlt : k < n3
        · have hlt' : (k : Int) < (n3 : Int) := by omega
          have hP := kq_le (k := k) (q := p) (by omega) hq20
          obtain ⟨m, hm⟩ : ∃ m : Nat, (k : Int) * (p : Int) = (m : Int) := ⟨k * p, (Int.natCast_mul _ _).symm⟩
          have hmw : IntKind.i64.wrap ((k : Int) * (p : Int)) = (m : Int) := by rw [hm]; exact IntWalk.i64_in _ (by omega)
          rw [hm] at hP
          obtain ⟨g1, g2⟩ := HVA.out m
          obtain ⟨g3, g4⟩ := HVP.out k hlt
          rw [hm] at g3 g4
          rw [g3] at g1
          rw [g4] at g2
          clear g3 g4 hm
          by_cases hmc : m < N6
          · obtain ⟨b6', o6, hA, _, t0, t1⟩ := rdQ_at (R6.out.below hbr) m hmc
            obtain ⟨b3', o3, hA3, _, hcc⟩ := rdF_all (R3.out.below hbr) (show 0 < n3 by omega)
            subst hA hA3
            have t2 := hcc k hlt
            rw [g1] at t0
            rw [g2] at t1
            have hmc' : (m : Int) < (N6 : Int) := by omega
            have hmz : (0 : Int) ≤ (m : Int) := by omega
            generalize f3 k = y at *
            clear hcc g1 g2 hbr
            obtain ⟨wz, rfl⟩ : ∃ z, z = wr := ⟨_, rfl⟩
            go_wp2_with fail
            go_quiet (fail)
            go_wp2_with fail
            go_roundw
            case rel => exact ⟨k + 1, d + nq, by omega, by go_num, by rw [Hwr.out]; first | rfl | exact World.drewN_drewN _ _ _⟩
            case measure => first | (simp [intOf]; done) | (simp [intOf]; omega)
          · have hmc' : (N6 : Int) ≤ (m : Int) := by omega
            go_wp2_with fail
            go_ret
            exact ⟨rfl, Hbr.out⟩
        · have hlt' : (n3 : Int) ≤ (k : Int) := by omega
          go_wp2_with fail
          go_ret
          exact ⟨rfl, Hbr.out⟩
    · have hc7' : (C7 == 0) = false := by simp [hc7]
      have hc7'' : (C7 != 0) = true := by simp [hc7]
      clear HFZ
      go_wp2_with fail
      go_ret
      exact ⟨rfl, HB.out⟩
end Go.Proofs.Ytemcdmjnokpldaa
