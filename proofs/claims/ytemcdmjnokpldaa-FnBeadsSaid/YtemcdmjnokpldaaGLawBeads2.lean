/- Merged texts: Dm2, Dm3, Dm4, Lib7, Dm5, Dm6, Dm7, Src, One, Dg1, Dr1, Dm8, Dm9, Dm10, Dm11, Dm12, Ab1, Ab2, Ab3, Ab5. -/
import Derived.Test.YtemcdmjnokpldaaGLawBeads1
import Derived.Deep.DeepCutAuto
import Derived.Deep.CutRange
import Derived.Lib.SmallJoins
import Derived.Laws.BitsAllLaws
/- Drums: the times of a digit's steps, both sides. -/
namespace Go.Proofs.Ytemcdmjnokpldaa
open Go.RowKit Go.Joins

theorem DmAt.below {w w' : World} {b B : Nat} {d : Dm} (h : DmAt w b d) (hb : b < B) (hw : Below B w w') : DmAt w' b d :=
  ⟨(hw.cell (p := ⟨b, 0, none⟩) hb).trans h.c0, (hw.cell (p := ⟨b, 1, none⟩) hb).trans h.c1, (hw.cell (p := ⟨b, 2, none⟩) hb).trans h.c2, (hw.cell (p := ⟨b, 3, none⟩) hb).trans h.c3⟩
/-- the time of a tooth's step -/
def timeD (d : Dm) (g : Int) (j : Nat) : Int := if d.k = 1 then d.f + d.b - 1 - g + j else if d.k = 2 then d.f + j else (((j : Int) + 1) * d.t + g - 1) / g
theorem prodT {j : Nat} {g t : Int} (h : (j : Int) < g) (hg : g ≤ 15) (h0 : 0 ≤ t) (ht : t ≤ 60) : 0 ≤ ((j : Int) + 1) * t ∧ ((j : Int) + 1) * t ≤ 900 := by
  have h1 : 0 ≤ ((j : Int) + 1) * t := Int.mul_nonneg (by omega) h0
  have h2 : ((j : Int) + 1) * t ≤ 15 * t := Int.mul_le_mul_of_nonneg_right (by omega) h0
  omega
end Go.Proofs.Ytemcdmjnokpldaa
/- Drums: the steps up to a time, both sides. -/
namespace Go.Proofs.Ytemcdmjnokpldaa
open Go.RowKit Go.Joins

/-- how many of the first n are at most m -/
def cntT (T : Nat → Int) (m : Int) : Nat → Nat
  | 0 => 0
  | j + 1 => cntT T m j + if T j ≤ m then 1 else 0
theorem cntT_le (T : Nat → Int) (m : Int) : ∀ n, cntT T m n ≤ n := by
  intro n
  induction n with
  | zero => exact Nat.le_refl _
  | succ n ih => unfold cntT; split <;> omega
theorem cntT_yes {T : Nat → Int} {m : Int} {j : Nat} (h : T j ≤ m) : cntT T m (j + 1) = cntT T m j + 1 := by
  show cntT T m j + (if T j ≤ m then 1 else 0) = _
  rw [if_pos h]
theorem cntT_no {T : Nat → Int} {m : Int} {j : Nat} (h : ¬ T j ≤ m) : cntT T m (j + 1) = cntT T m j := by
  show cntT T m j + (if T j ≤ m then 1 else 0) = _
  rw [if_neg h]; rfl
def stepsD (d : Dm) (n : Nat) (time : Int) : Int := time / d.t * n + cntT (timeD d n) (time % d.t) n
theorem quoT {time t : Int} (h0 : 0 ≤ time) (h1 : time ≤ 100000) (ht : 2 ≤ t) : 0 ≤ time / t ∧ time / t ≤ 100000 := by
  have h2 : 0 ≤ time / t := Int.ediv_nonneg h0 (by omega)
  have h3 : time / t ≤ time := Int.ediv_le_self t h0
  omega
theorem prodQ {Q : Int} {n : Nat} (h0 : 0 ≤ Q) (h1 : Q ≤ 100000) (hn : n ≤ 15) : 0 ≤ Q * (n : Int) ∧ Q * (n : Int) ≤ 1500000 := by
  have h2 : 0 ≤ Q * (n : Int) := Int.mul_nonneg h0 (by omega)
  have h3 : Q * (n : Int) ≤ 100000 * (n : Int) := Int.mul_le_mul_of_nonneg_right h1 (by omega)
  omega

end Go.Proofs.Ytemcdmjnokpldaa
/- Drums: codes, the times and the steps of a digit, both sides. -/
namespace Go.Proofs.Ytemcdmjnokpldaa
open Go.RowKit Go.Joins

def codeD (d : Dm) (g : Int) : Int := if okDm d = false then 1 else if inB g 0 (d.b - 1) = false then 2 else 0
theorem code_cases (d : Dm) (g : Int) : (okDm d = false ∧ codeD d g = 1) ∨ (okDm d = true ∧ inB g 0 (d.b - 1) = false ∧ codeD d g = 2) ∨ (okDm d = true ∧ inB g 0 (d.b - 1) = true ∧ codeD d g = 0) := by
  unfold codeD
  cases okDm d <;> cases inB g 0 (d.b - 1) <;> simp
theorem code_0 {d : Dm} {g : Int} (h : codeD d g = 0) : okDm d = true ∧ ∃ n : Nat, g = (n : Int) ∧ (n : Int) < d.b := by
  rcases code_cases d g with ⟨_, h2⟩ | ⟨_, _, h2⟩ | ⟨h1, h2, _⟩
  · rw [h] at h2; cases h2
  · rw [h] at h2; cases h2
  · have := inB_bd h2
    exact ⟨h1, g.toNat, by omega, by omega⟩
/-- how many times a digit has -/
def nD (d : Dm) (g : Int) : Nat := if codeD d g = 0 then g.toNat else 0
def RetTm (w : World) (d : Dm) (g : Int) (e : Ending) (w' : World) : Prop :=
  ∃ v, e = .returned (.tuple #[v, .int .i64 (codeD d g)]) ∧ w'.ownsRow w.heap.size 2 1 v (nD d g) (tab (nD d g) (timeD d (nD d g))) ∧ Below w.heap.size w w'
theorem RetTm.no {d : Dm} {g c : Int} {w w' : World} (h : codeD d g = c) (hc : c ≠ 0) (hb : Below w.heap.size w w') : RetTm w d g (.returned (.tuple #[.slice none 0 0, .int .i64 c])) w' := by
  refine ⟨_, by rw [h], ?_, hb⟩
  have : nD d g = 0 := by unfold nD; rw [if_neg (by rw [h]; exact hc)]
  rw [this]
  exact World.ownsRow_nil _ _ _ _
theorem RetTm.yes {d : Dm} {n : Nat} {v : Value} {w w' : World} {base : Nat} (h : codeD d n = 0) (ho : w'.ownsRow base 2 1 v n (tab n (timeD d n))) (hle : w.heap.size ≤ base) (hb : Below w.heap.size w w') : RetTm w d n (.returned (.tuple #[v, .int .i64 0])) w' := by
  refine ⟨_, by rw [h], ?_, hb⟩
  have : nD d n = n := by unfold nD; rw [if_pos h]; omega
  rw [this]
  exact ownsRow_le ho hle
end Go.Proofs.Ytemcdmjnokpldaa
/- A region that draws its order and whose last operations write where the region has loaded: the loads are taken first; S is not asked behind those last operations (Ls). No program is named here. -/
namespace Go.Proofs.Ytemcdmjnokpldaa
open Go.RowKit

section
variable {P : Program} {ops : Array Oper} {Q : Exit → Act → World → Prop} {md : Region.Mode} {S : World → Prop} {L : Nat} {Ls : List Nat}

/-- every operation that has come up has those ahead of it come up -/
def ClosedL (md : Region.Mode) (ops : Array Oper) (listed : Array Bool) : Prop :=
  ∀ (k : Nat) (o : Oper), ops[k]? = some o → listed.getD k true = true → ∀ e ∈ o.after, Region.binds md e = true → listed.getD e.on false = true
def closedB (md : Region.Mode) (ops : Array Oper) (listed : Array Bool) : Bool :=
  (List.range ops.size).all fun k => !listed.getD k true || ((ops[k]?).map (·.after.all fun e => !Region.binds md e || listed.getD e.on false)).getD true
theorem closedB_spec {listed : Array Bool} (h : closedB md ops listed = true) : ClosedL md ops listed := by
  intro k o ho hk e he hb
  unfold closedB at h
  rw [List.all_eq_true] at h
  have h1 := h k (List.mem_range.2 (Array.getElem?_eq_some_iff.1 ho).1)
  rw [ho, hk] at h1
  simp only [Bool.not_true, Bool.false_or, Option.map_some, Option.getD_some] at h1
  have h2 := Array.all_eq_true_iff_forall_mem.1 h1 e he
  rw [hb] at h2
  simpa using h2
theorem ClosedL.set {listed : Array Bool} {j : Nat} (h : ClosedL md ops listed) (hj : j ∈ Region.ready md ops listed) : ClosedL md ops (listed.setIfInBounds j true) := by
  intro k o ho hk e he hb
  by_cases hkj : j = k
  · subst hkj
    obtain ⟨_, o', ho', hall⟩ := mem_ready.1 hj
    rw [ho] at ho'
    cases ho'
    exact getD_set_true (hall e he hb)
  · rw [getD_set_ne true hkj] at hk
    exact getD_set_true (h k o ho hk e he hb)
/-- a chain of operations, each of which waits for the next -/
def waitsB (md : Region.Mode) (ops : Array Oper) : List Nat → Bool
  | x :: y :: rest => (((ops[x]?).map (·.after.any fun e => Region.binds md e && e.on == y)).getD false) && waitsB md ops (y :: rest)
  | _ => true
theorem waits_cons {x y : Nat} {rest : List Nat} (h : waitsB md ops (x :: y :: rest) = true) : (∃ o, ops[x]? = some o ∧ ∃ e ∈ o.after, Region.binds md e = true ∧ e.on = y) ∧ waitsB md ops (y :: rest) = true := by
  unfold waitsB at h
  rw [Bool.and_eq_true] at h
  refine ⟨?_, h.2⟩
  cases ho : ops[x]? with
  | none => rw [ho] at h; simp at h
  | some o =>
    rw [ho] at h
    simp only [Option.map_some, Option.getD_some] at h
    obtain ⟨e, he, hb⟩ := Array.any_eq_true'.1 h.1
    simp only [Bool.and_eq_true, beq_iff_eq] at hb
    exact ⟨o, rfl, e, he, hb.1, hb.2⟩
theorem getD_ft {l : Array Bool} {i : Nat} (h : l.getD i false = true) : l.getD i true = true := by
  rcases Nat.lt_or_ge i l.size with h' | h'
  · simp [h'] at h ⊢; exact h
  · simp [Array.getElem?_eq_none h'] at h
theorem listed_last {listed : Array Bool} (hc : ClosedL md ops listed) : ∀ (rest : List Nat) (y : Nat), listed.getD y false = true → waitsB md ops (y :: rest) = true → listed.getD ((y :: rest).getLast (by simp)) false = true
  | [], _, h, _ => h
  | z :: rest, y, h, hw => by
    obtain ⟨⟨o, ho, e, he, hb, hon⟩, hw2⟩ := waits_cons hw
    have h2 := hc y o ho (getD_ft h) e he hb
    rw [hon] at h2
    have h3 := listed_last hc rest z h2 hw2
    rw [List.getLast_cons (by simp)]
    exact h3
def lateB (md : Region.Mode) (ops : Array Oper) (L : Nat) (p : List Nat) (i : Nat) : Bool := !p.isEmpty && waitsB md ops (L :: p) && p.getLast? == some i
theorem late_not {listed : Array Bool} {p : List Nat} {i : Nat} (hc : ClosedL md ops listed) (h : lateB md ops L p i = true) (hi : listed.getD i true = false) : L ∉ Region.ready md ops listed := by
  intro hL
  unfold lateB at h
  simp only [Bool.and_eq_true, beq_iff_eq] at h
  obtain ⟨⟨h0, h1⟩, h2⟩ := h
  cases p with
  | nil => simp at h0
  | cons y rest =>
    obtain ⟨⟨o, ho, e, he, hb, hon⟩, hw⟩ := waits_cons h1
    obtain ⟨_, o', ho', hall⟩ := mem_ready.1 hL
    rw [ho] at ho'
    cases ho'
    have hy := hall e he hb
    rw [hon] at hy
    have hl := listed_last hc rest y hy hw
    rw [List.getLast?_eq_some_getLast (by simp)] at h2
    injection h2 with h2
    rw [h2] at hl
    rw [getD_ft hl] at hi
    cases hi

/-- what comes behind L in a list -/
def behind (L : Nat) : List Nat → List Nat
  | [] => []
  | x :: l => if x == L then l else behind L l
/-- every one of Ls waits for i, by the chain Ls ++ p -/
def lateAll (md : Region.Mode) (ops : Array Oper) (Ls p : List Nat) (i : Nat) : Bool := Ls.all fun L => lateB md ops L (behind L (Ls ++ p)) i
theorem lateAll_spec {p : List Nat} {i : Nat} (h : lateAll md ops Ls p i = true) (hL : L ∈ Ls) : lateB md ops L (behind L (Ls ++ p)) i = true := List.all_eq_true.1 h L hL
/-- none of the last ones has come up -/
def noneL (Ls : List Nat) (listed : Array Bool) : Bool := Ls.all fun L => !listed.getD L false
theorem noneL_set {listed : Array Bool} {j : Nat} (hj : j ∉ Ls) (h : noneL Ls listed = true) : noneL Ls (listed.setIfInBounds j true) = true := by
  unfold noneL at *
  rw [List.all_eq_true] at *
  intro L hL
  rw [getD_set_ne false (show j ≠ L from fun e => hj (e ▸ hL))]
  exact h L hL
theorem noneL_of {listed : Array Bool} {j : Nat} (h : noneL Ls (listed.setIfInBounds j true) = true) : noneL Ls listed = true := by
  unfold noneL at *
  rw [List.all_eq_true] at *
  intro L hL
  have h1 := h L hL
  cases hb : listed.getD L false with
  | false => rfl
  | true => rw [getD_set_true hb] at h1; exact h1
/-- whatever order is picked, and S holds as long as none of the last ones has come up -/
def wpAnyL (P : Program) (md : Region.Mode) (ops : Array Oper) (Q : Exit → Act → World → Prop) (S : World → Prop) (Ls : List Nat) : Nat → Array Bool → Act → World → Prop
  | 0, listed, a, w => Region.ready md ops listed = [] ∧ Q .normal a w
  | fuel + 1, listed, a, w =>
    (Region.ready md ops listed = [] → Q .normal a w) ∧
    ∀ i ∈ Region.ready md ops listed, wpOp P ops Q i (fun a' w' => (noneL Ls (listed.setIfInBounds i true) = true → S w') ∧ wpAnyL P md ops Q S Ls fuel (listed.setIfInBounds i true) a' w') a w
theorem wpAny_of_L : ∀ (fuel : Nat) (listed : Array Bool) (a : Act) (w : World), wpAnyL P md ops Q S Ls fuel listed a w → wpAny P md ops Q fuel listed a w
  | 0, _, _, _, h => h
  | fuel + 1, _, _, _, h => ⟨h.1, fun i hi => wpOp_mono (fun a' w' h' => wpAny_of_L fuel _ a' w' h'.2) (h.2 i hi)⟩

theorem wpAnyL_first {S0 : World → Prop} {i : Nat} {oi : Oper} {v : Value} (hi : ops[i]? = some oi) (hsel : ∀ (j : Nat) (o : Oper) cs b, ops[j]? = some o → o.op ≠ .select cs b)
    (hQ : ∀ c a w, Q (.panic c) (a.put oi.dst v) w → Q (.panic c) a w) (hiL : i ∉ Ls) (p : List Nat) (hor : (lateAll md ops Ls p i = true ∧ ∀ w, S w → S0 w) ∨ ∀ w, S0 w) :
    ∀ (fuel : Nat) (listed : Array Bool) (a : Act) (w : World), ClosedL md ops listed → (noneL Ls listed = true → S w) → ((∀ w, S0 w) ∨ noneL Ls listed = true) →
      (∀ j oj, ops[j]? = some oj → j ≠ i → listed.getD j true = false → (∀ e ∈ oj.after, Region.binds md e = true → e.on ≠ i) → oi.apart ops oj = true) →
      i ∈ Region.ready md ops listed → YieldsIf P ops S0 oi v a →
      wpAnyL P md ops Q S Ls fuel (listed.setIfInBounds i true) (a.put oi.dst v) w → wpAnyL P md ops Q S Ls (fuel + 1) listed a w := by
  have hS0 : ∀ (listed : Array Bool) (w : World), (noneL Ls listed = true → S w) → ((∀ w, S0 w) ∨ noneL Ls listed = true) → S0 w := fun listed w hS hn => by
    rcases hn with h | h
    · exact h w
    · rcases hor with h' | h'
      · exact h'.2 w (hS h)
      · exact h' w
  intro fuel
  induction fuel with
  | zero =>
    intro listed a w _ hS hn _ hr hy H
    refine ⟨fun h => (by rw [h] at hr; cases hr), fun j hj => ?_⟩
    by_cases hji : j = i
    · subst hji
      exact hy.wpOp hi (hS0 listed w hS hn) ⟨fun h => hS (noneL_of h), H⟩
    · have hm := ready_mono hj hji
      rw [H.1] at hm
      cases hm
  | succ fuel ih =>
    intro listed a w hc hS hn hfree hr hy H
    refine ⟨fun h => (by rw [h] at hr; cases hr), fun j hj => ?_⟩
    by_cases hji : j = i
    · subst hji
      exact hy.wpOp hi (hS0 listed w hS hn) ⟨fun h => hS (noneL_of h), H⟩
    · have hu := (mem_ready.1 hr).1
      have h1 := H.2 j (ready_mono hj hji)
      have hn' : (∀ w, S0 w) ∨ noneL Ls (listed.setIfInBounds j true) = true := by
        rcases hn with h | h
        · exact .inl h
        · rcases hor with h' | h'
          · exact .inr (noneL_set (fun e => late_not hc (lateAll_spec h'.1 e) hu hj) h)
          · exact .inl h'
      obtain ⟨hjun, oj, hoj, hall⟩ := mem_ready.1 hj
      have hnot : ∀ e ∈ oj.after, Region.binds md e = true → e.on ≠ i := fun e he hb heq => by
        have h2 := hall e he hb
        rw [heq] at h2
        rw [getD_ft h2] at hu
        cases hu
      have h2 := wpOp_putIf hoj (hfree j oj hoj hji hjun hnot) (fun cs b => hsel i oi cs b hi) (fun cs b => hsel j oj cs b hoj) hQ hy h1
      have hfree' : ∀ k ok, ops[k]? = some ok → k ≠ i → (listed.setIfInBounds j true).getD k true = false →
          (∀ e ∈ ok.after, Region.binds md e = true → e.on ≠ i) → oi.apart ops ok = true := fun k ok hk hki hun hno => by
        by_cases hjk : j = k
        · subst hjk
          exact hfree j ok hk hki hjun hno
        · rw [getD_set_ne true hjk] at hun
          exact hfree k ok hk hki hun hno
      refine wpOp_mono (fun a' w' h3 => ?_) h2
      have hS' : noneL Ls (listed.setIfInBounds j true) = true → S w' := fun h => h3.2.1 (by
        rw [Array.setIfInBounds_comm _ _ (Ne.symm hji)]
        exact noneL_set hiL h)
      refine ⟨hS', ih (listed.setIfInBounds j true) a' w' (hc.set hj) hS' hn' hfree' (ready_mono hr (Ne.symm hji)) h3.1 ?_⟩
      rw [Array.setIfInBounds_comm _ _ hji]
      exact h3.2.2

/-- a load: taken first, under S -/
theorem take_L {i : Nat} {oi : Oper} {d : Option Nat} {v : Value} {fuel : Nat} {listed : Array Bool} {a : Act} {w : World} (p : List Nat) (hL : lateAll md ops Ls p i = true) (hc : closedB md ops listed = true) (hn : noneL Ls listed = true) (hiL : Ls.contains i = false) (hi : ops[i]? = some oi) (hd : oi.dst = d)
    (hs : Region.noSelect ops = true) (hf : Region.free md ops listed i = true) (hr : (Region.ready md ops listed).contains i = true)
    (hQ : ∀ c a w, Q (.panic c) (a.put d v) w → Q (.panic c) a w) (hy : YieldsIf P ops S oi v a) (hS : S w)
    (h : wpAnyL P md ops Q S Ls fuel (listed.setIfInBounds i true) (a.put d v) w) : wpAnyL P md ops Q S Ls (fuel + 1) listed a w := by
  subst hd
  exact wpAnyL_first hi (Region.noSelect_spec hs) hQ (fun e => by simp [e] at hiL) p (.inl ⟨hL, fun _ h => h⟩) fuel listed a w (closedB_spec hc) (fun _ => hS) (.inr hn) (Region.free_spec hi hf) (by simpa using hr) hy h
/-- what yields in whatever world: taken first -/
theorem take_F {i : Nat} {oi : Oper} {d : Option Nat} {v : Value} {fuel : Nat} {listed : Array Bool} {a : Act} {w : World} (hc : closedB md ops listed = true) (hiL : Ls.contains i = false) (hi : ops[i]? = some oi) (hd : oi.dst = d)
    (hs : Region.noSelect ops = true) (hf : Region.free md ops listed i = true) (hr : (Region.ready md ops listed).contains i = true)
    (hQ : ∀ c a w, Q (.panic c) (a.put d v) w → Q (.panic c) a w) (hy : YieldsIf P ops (fun _ => True) oi v a) (hS : S w)
    (h : wpAnyL P md ops Q S Ls fuel (listed.setIfInBounds i true) (a.put d v) w) : wpAnyL P md ops Q S Ls (fuel + 1) listed a w := by
  subst hd
  exact wpAnyL_first (S0 := fun _ => True) hi (Region.noSelect_spec hs) hQ (fun e => by simp [e] at hiL) [] (.inr fun _ => trivial) fuel listed a w (closedB_spec hc) (fun _ => hS) (.inl fun _ => trivial) (Region.free_spec hi hf) (by simpa using hr) hy h
/-- the only operation that may come up; S is shown anew -/
theorem call_L {i : Nat} {o : Oper} {d : Option Nat} {fuel : Nat} {listed : Array Bool} {a : Act} {w : World} (ho : ops[i]? = some o) (hd : o.dst = d) (hr : Region.ready md ops listed = [i])
    (h : ∀ K' : Act → World → Prop, Shut (∀ a w, S w → (S w → wpAnyL P md ops Q S Ls fuel (listed.setIfInBounds i true) a w) → K' a w) → if Region.wanted o (yielded ops a.tmps) = true then Oper.wp P o a w K' Q else K' (a.put d undef) w) :
    wpAnyL P md ops Q S Ls (fuel + 1) listed a w := by
  subst hd
  refine ⟨fun h0 => absurd (h0.symm.trans hr) (by simp), fun j hj => ?_⟩
  rw [hr] at hj
  obtain rfl := List.mem_singleton.1 hj
  exact wpOp_step ho (fun K' hK => h K' (fun a w hS hW => hK a w ⟨fun _ => hS, hW hS⟩))
/-- two operations that may come up -/
theorem both_L {i j : Nat} {oi oj : Oper} {di dj : Option Nat} {fuel : Nat} {listed : Array Bool} {a : Act} {w : World} (hoi : ops[i]? = some oi) (hdi : oi.dst = di) (hoj : ops[j]? = some oj) (hdj : oj.dst = dj) (hr : Region.ready md ops listed = [i, j])
    (h1 : ∀ K' : Act → World → Prop, Shut (∀ a w, S w → (S w → wpAnyL P md ops Q S Ls fuel (listed.setIfInBounds i true) a w) → K' a w) → if Region.wanted oi (yielded ops a.tmps) = true then Oper.wp P oi a w K' Q else K' (a.put di undef) w)
    (h2 : ∀ K' : Act → World → Prop, Shut (∀ a w, S w → (S w → wpAnyL P md ops Q S Ls fuel (listed.setIfInBounds j true) a w) → K' a w) → if Region.wanted oj (yielded ops a.tmps) = true then Oper.wp P oj a w K' Q else K' (a.put dj undef) w) :
    wpAnyL P md ops Q S Ls (fuel + 1) listed a w := by
  subst hdi
  subst hdj
  refine ⟨fun h0 => absurd (h0.symm.trans hr) (by simp), fun k hk => ?_⟩
  rw [hr] at hk
  rcases List.mem_cons.1 hk with rfl | hk
  · exact wpOp_step hoi (fun K' hK => h1 K' (fun a w hS hW => hK a w ⟨fun _ => hS, hW hS⟩))
  · obtain rfl := List.mem_singleton.1 hk
    exact wpOp_step hoj (fun K' hK => h2 K' (fun a w hS hW => hK a w ⟨fun _ => hS, hW hS⟩))
/-- .. and S is not asked -/
theorem late_L {i : Nat} {o : Oper} {d : Option Nat} {fuel : Nat} {listed : Array Bool} {a : Act} {w : World} (hi : noneL Ls (listed.setIfInBounds i true) = false) (ho : ops[i]? = some o) (hd : o.dst = d) (hr : Region.ready md ops listed = [i])
    (h : ∀ K' : Act → World → Prop, Shut (∀ a w, wpAnyL P md ops Q S Ls fuel (listed.setIfInBounds i true) a w → K' a w) → if Region.wanted o (yielded ops a.tmps) = true then Oper.wp P o a w K' Q else K' (a.put d undef) w) :
    wpAnyL P md ops Q S Ls (fuel + 1) listed a w := by
  subst hd
  refine ⟨fun h0 => absurd (h0.symm.trans hr) (by simp), fun j hj => ?_⟩
  rw [hr] at hj
  obtain rfl := List.mem_singleton.1 hj
  exact wpOp_step ho (fun K' hK => h K' (fun a w hW => hK a w ⟨fun hne => absurd (hi.symm.trans hne) (by simp), hW⟩))
theorem done_L {listed : Array Bool} {a : Act} {w : World} (hr : Region.ready md ops listed = []) (h : Q .normal a w) : ∀ fuel, wpAnyL P md ops Q S Ls fuel listed a w
  | 0 => ⟨hr, h⟩
  | _ + 1 => ⟨fun _ => h, by rw [hr]; simp⟩
theorem wp_region_L {id : Nat} {a : Act} {w : World} (Ls : List Nat) (S : World → Prop) (hm : P.follows .mixedOrders = true) (hS : S w.drew)
    (h : S w.drew → wpAnyL P .any ops Q S Ls ops.size (Array.replicate ops.size false) a w.drew) : (Code.region id ops true).wp P Q a w :=
  wp_region_any hm (wpAny_of_L _ _ _ _ (h hS))
end
end Go.Proofs.Ytemcdmjnokpldaa
/- Drums: StepsBy and StepsBetween, both sides. -/
namespace Go.Proofs.Ytemcdmjnokpldaa
open Go.RowKit Go.Joins

def sbC (d : Dm) (g time : Int) : Int := if codeD d g = 0 then (if inB time 0 100000 = true then 0 else 2) else codeD d g
def sbV (d : Dm) (g time : Int) : Int := if sbC d g time = 0 then stepsD d g.toNat time else 0
theorem by_cases3 (d : Dm) (g time : Int) : (codeD d g ≠ 0 ∧ sbC d g time = codeD d g ∧ sbV d g time = 0) ∨ (codeD d g = 0 ∧ inB time 0 100000 = false ∧ sbC d g time = 2 ∧ sbV d g time = 0) ∨
    (codeD d g = 0 ∧ inB time 0 100000 = true ∧ sbC d g time = 0 ∧ sbV d g time = stepsD d g.toNat time) := by
  have hv : sbV d g time = if sbC d g time = 0 then stepsD d g.toNat time else 0 := rfl
  have hc : sbC d g time = if codeD d g = 0 then (if inB time 0 100000 = true then 0 else 2) else codeD d g := rfl
  by_cases h0 : codeD d g = 0
  · rw [if_pos h0] at hc
    cases hi : inB time 0 100000 with
    | false =>
      rw [hi] at hc
      have hc2 : sbC d g time = 2 := hc
      rw [hc2] at hv
      exact .inr (.inl ⟨h0, rfl, hc2, hv⟩)
    | true =>
      rw [hi] at hc
      have hc2 : sbC d g time = 0 := hc
      rw [hc2] at hv
      exact .inr (.inr ⟨h0, rfl, hc2, hv⟩)
  · rw [if_neg h0] at hc
    rw [hc, if_neg h0] at hv
    exact .inl ⟨h0, hc, hv⟩
end Go.Proofs.Ytemcdmjnokpldaa
/- Drums: StepsBetween, both sides. -/
namespace Go.Proofs.Ytemcdmjnokpldaa
open Go.RowKit Go.Joins

theorem blk_ltD {w : World} {q : Nat} {o : Obj} (h : w.heap[q]? = some o) : q < w.heap.size := (Array.getElem?_eq_some_iff.1 h).1
def btC (d : Dm) (g a b : Int) : Int := if codeD d g = 0 then (if inB a 0 100000 = true ∧ inB b 0 100000 = true ∧ a ≤ b then 0 else 2) else codeD d g
def btV (d : Dm) (g a b : Int) : Int := if btC d g a b = 0 then stepsD d g.toNat b - stepsD d g.toNat a else 0
theorem bt_cases (d : Dm) (g a b : Int) : (codeD d g ≠ 0 ∧ btC d g a b = codeD d g ∧ btV d g a b = 0) ∨
    (codeD d g = 0 ∧ inB a 0 100000 = false ∧ btC d g a b = 2 ∧ btV d g a b = 0) ∨
    (codeD d g = 0 ∧ inB a 0 100000 = true ∧ inB b 0 100000 = false ∧ inB b a 100000 = false ∧ btC d g a b = 2 ∧ btV d g a b = 0) ∨
    (codeD d g = 0 ∧ inB a 0 100000 = true ∧ inB b 0 100000 = true ∧ b < a ∧ inB b a 100000 = false ∧ btC d g a b = 2 ∧ btV d g a b = 0) ∨
    (codeD d g = 0 ∧ inB a 0 100000 = true ∧ inB b 0 100000 = true ∧ a ≤ b ∧ inB b a 100000 = true ∧ btC d g a b = 0 ∧ btV d g a b = stepsD d g.toNat b - stepsD d g.toNat a) := by
  have hv : btV d g a b = if btC d g a b = 0 then stepsD d g.toNat b - stepsD d g.toNat a else 0 := rfl
  have hc : btC d g a b = if codeD d g = 0 then (if inB a 0 100000 = true ∧ inB b 0 100000 = true ∧ a ≤ b then 0 else 2) else codeD d g := rfl
  by_cases h0 : codeD d g = 0
  · rw [if_pos h0] at hc
    cases h1 : inB a 0 100000 with
    | false =>
      rw [h1, if_neg (by simp)] at hc
      rw [hc] at hv
      exact .inr (.inl ⟨h0, rfl, hc, hv⟩)
    | true =>
      have a1 := inB_bd h1
      cases h2 : inB b 0 100000 with
      | false =>
        rw [h2, if_neg (by simp)] at hc
        rw [hc] at hv
        have h3 : inB b a 100000 = false := by
          cases h4 : inB b a 100000 with
          | false => rfl
          | true =>
            have := inB_bd h4
            have h5 : inB b 0 100000 = true := by unfold inB; simp; omega
            rw [h2] at h5; cases h5
        exact .inr (.inr (.inl ⟨h0, rfl, rfl, h3, hc, hv⟩))
      | true =>
        have b1 := inB_bd h2
        by_cases hab : a ≤ b
        · rw [h1, h2, if_pos ⟨rfl, rfl, hab⟩] at hc
          rw [hc] at hv
          have h5 : inB b a 100000 = true := by unfold inB; simp; omega
          exact .inr (.inr (.inr (.inr ⟨h0, rfl, rfl, hab, h5, hc, hv⟩)))
        · rw [if_neg (fun h => hab h.2.2)] at hc
          rw [hc] at hv
          have h5 : inB b a 100000 = false := by unfold inB; simp; omega
          exact .inr (.inr (.inr (.inl ⟨h0, rfl, rfl, by omega, h5, hc, hv⟩)))
  · rw [if_neg h0] at hc
    rw [hc, if_neg h0] at hv
    exact .inl ⟨h0, hc, hv⟩
theorem stepsD_bd {d : Dm} {n : Nat} {time : Int} (hok : okDm d = true) (hn : (n : Int) < d.b) (h0 : 0 ≤ time) (h1 : time ≤ 100000) : 0 ≤ stepsD d n time ∧ stepsD d n time ≤ 1600000 := by
  obtain ⟨_, b1, b2, b3, b4, _⟩ := okDm_bd hok
  obtain ⟨q0, q1⟩ := quoT (t := d.t) h0 h1 (by omega)
  obtain ⟨p0, p1⟩ := prodQ (n := n) q0 q1 (by omega)
  have h2 := cntT_le (timeD d n) (time % d.t) n
  unfold stepsD
  omega
end Go.Proofs.Ytemcdmjnokpldaa
/- Drums: the digit for times, both sides. -/
namespace Go.Proofs.Ytemcdmjnokpldaa
open Go.RowKit Go.Joins

def sameF (n m : Nat) (f g : Nat → Int) : Bool := decide (n = m) && (List.range n).all fun i => f i == g i
theorem sameF_yes {n : Nat} {f g : Nat → Int} (h : ∀ j, j < n → f j = g j) : sameF n n f g = true := by
  unfold sameF
  rw [decide_eq_true rfl, Bool.true_and, List.all_eq_true]
  intro i hi
  rw [h i (List.mem_range.1 hi)]; simp
theorem sameF_no {n : Nat} {f g : Nat → Int} (i : Nat) (hi : i < n) (h : f i ≠ g i) : sameF n n f g = false := by
  cases hs : sameF n n f g with
  | false => rfl
  | true =>
    unfold sameF at hs
    rw [decide_eq_true rfl, Bool.true_and, List.all_eq_true] at hs
    have := hs i (List.mem_range.2 hi)
    exact absurd (by simpa using this) h
theorem sameF_ne {n m : Nat} {f g : Nat → Int} (h : n ≠ m) : sameF n m f g = false := by unfold sameF; rw [decide_eq_false h]; rfl
def dfC (d : Dm) (m : Nat) (F : Nat → Int) : Int := if okDm d = false then 1 else if (m : Int) < d.b ∧ sameF m m (timeD d m) F = true then 0 else 3
def dfV (d : Dm) (m : Nat) (F : Nat → Int) : Int := if dfC d m F = 0 then m else 0
theorem df_1 {d : Dm} {m : Nat} {F : Nat → Int} (h : okDm d = false) : dfC d m F = 1 ∧ dfV d m F = 0 := by
  have h1 : dfC d m F = 1 := by unfold dfC; rw [if_pos h]
  exact ⟨h1, by unfold dfV; rw [h1]; rfl⟩
theorem df_3 {d : Dm} {m : Nat} {F : Nat → Int} (h : okDm d = true) (h2 : (m : Int) < d.b → sameF m m (timeD d m) F = false) : dfC d m F = 3 ∧ dfV d m F = 0 := by
  have h1 : dfC d m F = 3 := by
    unfold dfC
    rw [h, if_neg (by decide), if_neg]
    rintro ⟨a, b⟩
    rw [h2 a] at b; cases b
  exact ⟨h1, by unfold dfV; rw [h1]; rfl⟩
theorem df_0 {d : Dm} {m : Nat} {F : Nat → Int} (h : okDm d = true) (h1 : (m : Int) < d.b) (h2 : sameF m m (timeD d m) F = true) : dfC d m F = 0 ∧ dfV d m F = m := by
  have h3 : dfC d m F = 0 := by unfold dfC; rw [h, if_neg (by decide), if_pos ⟨h1, h2⟩]
  exact ⟨h3, by unfold dfV; rw [if_pos h3]⟩
end Go.Proofs.Ytemcdmjnokpldaa
/- The source of draws (l00Src): what each draw hands back, and that only its own block turns. -/
namespace Go.Proofs.Ytemcdmjnokpldaa
open Go.RowKit Go.Joins

/-- block g is a source over the bytes bs, at most k of its draws are done; the bytes lie below block B -/
def SrcAt (w : World) (B g k : Nat) (bs : List UInt8) : Prop :=
  ∃ (cv : Value) (p s : Nat), w.heap[g]? = some (.cells #[cv, .int .i64 p, .int .u64 s] 156 (0, 0)) ∧ Rd w B cv bs.length 1 (bs.map byV) ∧ p ≤ k ∧ s < 18446744073709551616 ∧ B ≤ g

theorem SrcAt.lt {w : World} {B g k : Nat} {bs : List UInt8} (h : SrcAt w B g k bs) : g < w.heap.size := by
  obtain ⟨cv, p, s, h, _⟩ := h
  exact (Array.getElem?_eq_some_iff.1 h).1
theorem SrcAt.more {w : World} {B g k k' : Nat} {bs : List UInt8} (h : SrcAt w B g k bs) (hk : k ≤ k') : SrcAt w B g k' bs := by
  obtain ⟨cv, p, s, h1, h2, h3, h4, h5⟩ := h
  exact ⟨cv, p, s, h1, h2, by omega, h4, h5⟩
/-- kept by all that leaves its blocks alone -/
theorem SrcAt.grown {w w' : World} {B g k : Nat} {bs : List UInt8} {r : Option Nat} (h : SrcAt w B g k bs) (hg : w.grownBy w' r) (hr : ∀ x, r = some x → g < x) : SrcAt w' B g k bs := by
  obtain ⟨cv, p, s, h1, h2, h3, h4, h5⟩ := h
  have hlt := (Array.getElem?_eq_some_iff.1 h1).1
  refine ⟨cv, p, s, (hg.block g hlt (fun e => by have := hr g e.symm; omega)).trans h1, h2.keep fun q hq => World.cell?_of_block (hg.block q.block (by omega) (fun e => by have := hr _ e.symm; omega)), h3, h4, h5⟩
theorem SrcAt.below {w w' : World} {B g k : Nat} {bs : List UInt8} (h : SrcAt w B g k bs) (hb : Below w.heap.size w w') : SrcAt w' B g k bs := h.grown (grown_of_below hb none) (fun x hx => by cases hx)
theorem SrcAt.drewN {w : World} {B g k : Nat} {bs : List UInt8} (h : SrcAt w B g k bs) (n : Nat) : SrcAt (w.drewN n) B g k bs := h
theorem SrcAt.drew {w : World} {B g k : Nat} {bs : List UInt8} (h : SrcAt w B g k bs) : SrcAt w.drew B g k bs := h

/-- a draw: a number with a property is handed back, only block g has turned -/
def Drawn (w : World) (B g k : Nat) (bs : List UInt8) (p : Int → Prop) (e : Ending) (w' : World) : Prop :=
  ∃ x, e = .returned (.int .i64 x) ∧ p x ∧ SrcAt w' B g k bs ∧ w.grownBy w' (some g)

theorem src_cells {w : World} {g : Nat} {a b c : Value} {t : TypeId} (h : w.heap[g]? = some (.cells #[a, b, c] t (0, 0))) :
    w.cell? ⟨g, 0, none⟩ = some a ∧ w.cell? ⟨g, 1, none⟩ = some b ∧ w.cell? ⟨g, 2, none⟩ = some c ∧ ∀ i, w.frozen? ⟨g, i, none⟩ = false := by
  refine ⟨?_, ?_, ?_, fun i => ?_⟩
  · rw [cell_of_row w g 0 _ _ _ h]; rfl
  · rw [cell_of_row w g 1 _ _ _ h]; rfl
  · rw [cell_of_row w g 2 _ _ _ h]; rfl
  · exact frozen_of_row w g i _ _ h

theorem u64_bd (x : Int) : 0 ≤ IntKind.u64.wrap x ∧ IntKind.u64.wrap x < 18446744073709551616 := by
  rw [IntKind.wrap_u64]; omega

theorem src_step {w : World} {B g k p : Nat} {c0 c2 : Value} {bs : List UInt8} (h1 : w.heap[g]? = some (.cells #[c0, .int .i64 p, c2] 156 (0, 0))) (h2 : Rd w B c0 bs.length 1 (bs.map byV)) (h3 : p ≤ k) (h5 : B ≤ g) (X : Int) (a b : Nat) :
    SrcAt ((((w.drewN a).setCell ⟨g, 1, none⟩ (.int .i64 ((p : Int) + 1))).setCell ⟨g, 2, none⟩ (.int .u64 (IntKind.u64.wrap X))).drewN b) B g (k + 1) bs ∧
    w.grownBy ((((w.drewN a).setCell ⟨g, 1, none⟩ (.int .i64 ((p : Int) + 1))).setCell ⟨g, 2, none⟩ (.int .u64 (IntKind.u64.wrap X))).drewN b) (some g) := by
  have hh := u64_bd X
  have e1 := heap_setCell_same (w.drewN a) g 1 _ _ (.int .i64 ((p : Int) + 1)) h1
  have e2 := heap_setCell_same _ g 2 _ _ (.int .u64 (IntKind.u64.wrap X)) e1
  have hg : w.grownBy ((((w.drewN a).setCell ⟨g, 1, none⟩ (.int .i64 ((p : Int) + 1))).setCell ⟨g, 2, none⟩ (.int .u64 (IntKind.u64.wrap X))).drewN b) (some g) := by
    refine ⟨rfl, rfl, rfl, by simp [World.setCell, World.drewN], fun i _ hne => ?_⟩
    have hi : i ≠ g := fun e => hne (by rw [e])
    show ((((w.drewN a).setCell ⟨g, 1, none⟩ _).setCell ⟨g, 2, none⟩ _)).heap[i]? = _
    rw [Below.heap_setCell _ _ _ _ hi, Below.heap_setCell _ _ _ _ hi]
    rfl
  refine ⟨⟨c0, p + 1, (IntKind.u64.wrap X).toNat, ?_, ?_, by omega, by omega, h5⟩, hg⟩
  · rw [Int.toNat_of_nonneg hh.1]
    exact e2
  · refine h2.keep fun q hq => World.cell?_of_block ?_
    have hlt : g < w.heap.size := (Array.getElem?_eq_some_iff.1 h1).1
    exact hg.block q.block (by omega) (fun e => by injection e with e; omega)

theorem and255 (X : Int) (h0 : 0 ≤ X) (h1 : X < 18446744073709551616) : 0 ≤ wrap64 (bits .and .u64 X 255) ∧ wrap64 (bits .and .u64 X 255) ≤ 255 := by
  rw [u64_and X 255 h0 h1 (by omega) (by omega)]
  have h := Nat.and_le_right (n := X.toNat) (m := (255 : Int).toNat)
  have h' : (255 : Int).toNat = 255 := rfl
  rw [IntWalk.wrap64_in _ ⟨by omega, by omega⟩]
  omega

set_option maxRecDepth 100000 in
set_option maxHeartbeats 800000 in
theorem next_any (B g k : Nat) (bs : List UInt8) (w : World) (h : SrcAt w B g k bs) (hk : k < 4611686018427387904) :
    Calls Try.prog 140 #[.pointer (some ⟨g, 0, none⟩)] w (Drawn w B g (k + 1) bs fun x => 0 ≤ x ∧ x ≤ 255) := by
  obtain ⟨cv, p, s, h1, hRd, h3, h4, h5⟩ := h
  have hRd' := hRd
  obtain ⟨_, A, c, rfl, h2⟩ := hRd'
  have hRd := Lib.hid hRd
  obtain ⟨hc0, hc1, hc2, hfz⟩ := src_cells h1
  have hf1 := hfz 1
  have hf2 := hfz 2
  clear hfz
  have H1 := Lib.hid h1; clear h1
  have H2 := Lib.hid h2; clear h2
  by_cases hlt : p < bs.length
  · obtain ⟨b1, o1, rfl, hb1, hcc⟩ := H2.out (by omega)
    have hx := hcc p (byV bs[p]) (by simp [hlt])
    have hne : b1 ≠ g := by omega
    have hlt' : (p : Int) < (bs.length : Int) := by omega
    clear hcc
    unfold byV at hx
    have hx8 := bs[p].toNat_lt
    generalize bs[p].toNat = x at *
    have hxb : (x : Int) < 256 := by omega
    have hxi : (0 : Int) ≤ (x : Int) := by omega
    clear hx8
    have hwx : IntKind.i64.wrap (x : Int) = x := IntWalk.i64_in _ (by omega)
    go_enter Try.func140, Try.ntmps140
    go_wp2_with fail
    go_quiet (fail)
    go_wp2_with fail
    go_quiet (fail)
    clear hwx
    go_wp2_with fail
    go_quiet (fail)
    go_wp2_with fail
    go_ret
    have hs := src_step H1.out (hRd.out) h3 h5
    exact ⟨_, rfl, ⟨by omega, by omega⟩, (hs _ _ _).1, (hs _ _ _).2⟩
  · have hge : (bs.length : Int) ≤ (p : Int) := by omega
    go_enter Try.func140, Try.ntmps140
    go_wp2_with fail
    go_quiet (fail)
    go_wp2_with fail
    go_quiet (fail)
    go_wp2_with fail
    go_ret
    have hs := src_step H1.out (hRd.out) h3 h5
    exact ⟨_, rfl, and255 _ (by have := u64_bd (IntKind.u64.wrap (IntKind.u64.wrap ((s : Int) * 6364136223846793005)) + 1442695040888963407); omega) (by have := u64_bd (IntKind.u64.wrap (IntKind.u64.wrap ((s : Int) * 6364136223846793005)) + 1442695040888963407); omega), (hs _ _ _).1, (hs _ _ _).2⟩
/-- a draw: a bool is handed back -/
def DrawnB (w : World) (B g k : Nat) (bs : List UInt8) (e : Ending) (w' : World) : Prop :=
  ∃ x : Bool, e = .returned (.bool x) ∧ SrcAt w' B g k bs ∧ w.grownBy w' (some g)

set_option maxRecDepth 100000 in
set_option maxHeartbeats 800000 in
theorem pick_any (B g k : Nat) (bs : List UInt8) (n : Int) (w : World) (h : SrcAt w B g k bs) (hk : k < 4611686018427387900) :
    Calls Try.prog 77 #[.pointer (some ⟨g, 0, none⟩), .int .i64 n] w (Drawn w B g (k + 2) bs fun x => 0 ≤ x ∧ (2 ≤ n → x < n) ∧ (n ≤ 1 → x = 0)) := by
  by_cases h1 : n ≤ 1
  · have hg0 : w.grownBy w (some g) := ⟨rfl, rfl, rfl, Nat.le_refl _, fun _ _ _ => rfl⟩
    have H := Lib.hid h; clear h
    go_enter Try.func77, Try.ntmps77
    go_wp2_with fail
    go_ret
    exact ⟨0, rfl, ⟨by omega, by omega, by omega⟩, H.out.more (by omega), hg0⟩
  · by_cases h2 : n ≤ 200
    · have H := Lib.hid h; clear h
      go_enter Try.func77, Try.ntmps77
      go_wp2_with fail
      refine (next_any B g k bs _ H.out (by omega)).mono ?_; rintro e w1 ⟨x, rfl, ⟨hx0, hx1⟩, hs1, hg1⟩
      have Hs1 := Lib.hid hs1; clear hs1
      go_wp2_with fail
      go_ret
      have := Int.emod_nonneg x (by omega : n ≠ 0)
      have := Int.emod_lt_of_pos x (by omega : 0 < n)
      exact ⟨_, rfl, ⟨by omega, by omega, by omega⟩, Hs1.out.more (by omega), hg1⟩
    · have H := Lib.hid h; clear h
      go_enter Try.func77, Try.ntmps77
      go_wp2_with fail
      refine (next_any B g k bs _ H.out (by omega)).mono ?_; rintro e w1 ⟨x, rfl, ⟨hx0, hx1⟩, hs1, hg1⟩
      have Hs1 := Lib.hid hs1; clear hs1
      go_wp2_with fail
      refine (next_any B g (k + 1) bs _ Hs1.out (by omega)).mono ?_; rintro e w2 ⟨y, rfl, ⟨hy0, hy1⟩, hs2, hg2⟩
      have Hs2 := Lib.hid hs2; clear hs2
      have hg := grown_trans hg1 hg2
      go_wp2_with fail
      go_ret
      have := Int.emod_nonneg (x * 256 + y) (by omega : n ≠ 0)
      have := Int.emod_lt_of_pos (x * 256 + y) (by omega : 0 < n)
      exact ⟨_, rfl, ⟨by omega, by omega, by omega⟩, Hs2.out, hg⟩

set_option maxHeartbeats 400000 in
theorem l00From_any (B : Nat) (cv : Value) (bs : List UInt8) (w : World) (h : Rd w B cv bs.length 1 (bs.map byV)) (hB : B ≤ w.heap.size) :
    Calls Try.prog 63 #[cv] w fun e w' => e = .returned (.pointer (some ⟨w.heap.size, 0, none⟩)) ∧ SrcAt w' B w.heap.size 0 bs ∧ Below w.heap.size w w' ∧ w.heap.size < w'.heap.size := by
  have hb := (Below.refl w.heap.size w).alloc (Nat.le_refl _)
  have hs : ∀ t, SrcAt (w.alloc (.cells #[cv, .int .i64 0, .int .u64 0] t)) B w.heap.size 0 bs ∨ t ≠ 156 := fun t => by
    by_cases ht : t = 156
    · subst ht
      exact .inl ⟨cv, 0, 0, heap_alloc_new w _, h.below ((hb _).mono hB), Nat.le_refl _, by omega, hB⟩
    · exact .inr ht
  obtain ⟨_, A, c, rfl, h2⟩ := h
  clear h2
  have Hs := Lib.hid hs; clear hs
  go_enter Try.func63, Try.ntmps63
  go_wp2_with fail
  go_ret
  exact ⟨rfl, (Hs.out _).resolve_right (by simp), hb _, by simp⟩

end Go.Proofs.Ytemcdmjnokpldaa
/- The draw 'one'. -/
namespace Go.Proofs.Ytemcdmjnokpldaa
open Go.RowKit Go.Joins

set_option maxHeartbeats 400000 in
theorem one_any (B g k : Nat) (bs : List UInt8) (n : Int) (w : World) (h : SrcAt w B g k bs) (hk : k < 4611686018427387900) :
    Calls Try.prog 76 #[.pointer (some ⟨g, 0, none⟩), .int .i64 n] w (DrawnB w B g (k + 2) bs) := by
  have H := Lib.hid h; clear h
  go_enter Try.func76, Try.ntmps76
  go_wp2_with fail
  refine (pick_any B g k bs n _ H.out (by omega)).mono ?_; rintro e w1 ⟨x, rfl, _, hs1, hg1⟩
  have Hs1 := Lib.hid hs1; clear hs1
  go_wp2_with fail
  go_ret
  exact ⟨_, rfl, Hs1.out, hg1⟩

end Go.Proofs.Ytemcdmjnokpldaa
/- Draws: a row of the call's own that grows while numbers are drawn; a text is spoilt (l01Spoil). -/
namespace Go.Proofs.Ytemcdmjnokpldaa
open Go.RowKit Go.Joins

/-- in the world w, reached from W: the source g has done at most k draws, v is a row of the call's own, and of what was there only the source has turned -/
structure DrR (W w : World) (B g k : Nat) (bs : List UInt8) (e : TypeId) (sz : Nat) (v : Value) (n : Nat) (cs : List Value) : Prop where
  lt : g < W.heap.size
  src : SrcAt w B g k bs
  row : w.ownsRow W.heap.size e sz v n cs
  gr : W.grownBy w (some g)
theorem DrR.draw {W w w' : World} {B g k k' : Nat} {bs : List UInt8} {e : TypeId} {sz n : Nat} {v : Value} {cs : List Value} (h : DrR W w B g k bs e sz v n cs) (hs : SrcAt w' B g k' bs) (hg : w.grownBy w' (some g)) : DrR W w' B g k' bs e sz v n cs :=
  ⟨h.lt, hs, h.row.kept hg (by
    cases hv : v.ownBlock with
    | none => exact .inl rfl
    | some x => exact .inr fun e => by have := (h.row.lt x hv).1; have := h.lt; injection e; omega), grown_trans h.gr hg⟩
theorem DrR.below {W w w' : World} {B g k : Nat} {bs : List UInt8} {e : TypeId} {sz n : Nat} {v : Value} {cs : List Value} (h : DrR W w B g k bs e sz v n cs) (hb : Below w.heap.size w w') : DrR W w' B g k bs e sz v n cs :=
  ⟨h.lt, h.src.below hb, own_below h.row hb, grown_below h.gr hb⟩
theorem DrR.more {W w : World} {B g k k' : Nat} {bs : List UInt8} {e : TypeId} {sz n : Nat} {v : Value} {cs : List Value} (h : DrR W w B g k bs e sz v n cs) (hk : k ≤ k') : DrR W w B g k' bs e sz v n cs :=
  ⟨h.lt, h.src.more hk, h.row, h.gr⟩
theorem grownBy_row {W w w' : World} {g : Nat} {ob : Option Nat} (h : W.grownBy w (some g)) (hg : w.grownBy w' ob) (ho : ∀ x, ob = some x → W.heap.size ≤ x) : W.grownBy w' (some g) :=
  ⟨hg.os.trans h.os, hg.tape.trans h.tape, hg.output.trans h.output, Nat.le_trans h.size hg.size, fun i hi hne => (hg.block i (Nat.lt_of_lt_of_le hi h.size) (fun e => by have := ho i e.symm; omega)).trans (h.block i hi hne)⟩
theorem DrR.app {W w w' : World} {B g k : Nat} {bs : List UInt8} {e : TypeId} {sz n n' : Nat} {v v' : Value} {cs cs' : List Value} (h : DrR W w B g k bs e sz v n cs) (hr : w'.ownsRow W.heap.size e sz v' n' cs') (hg : w.grownBy w' v.ownBlock) : DrR W w' B g k bs e sz v' n' cs' :=
  ⟨h.lt, h.src.grown hg (fun x hx => Nat.lt_of_lt_of_le h.lt (h.row.lt x hx).1), hr, grownBy_row h.gr hg (fun x hx => (h.row.lt x hx).1)⟩
theorem DrR.drewN {W w : World} {B g k : Nat} {bs : List UInt8} {e : TypeId} {sz n : Nat} {v : Value} {cs : List Value} (h : DrR W w B g k bs e sz v n cs) (m : Nat) : DrR W (w.drewN m) B g k bs e sz v n cs :=
  ⟨h.lt, h.src.drewN m, h.row.drewN m, grown_below h.gr (below_drewN (Below.refl _ _) m)⟩
theorem DrR.size {W w : World} {B g k : Nat} {bs : List UInt8} {e : TypeId} {sz n : Nat} {v : Value} {cs : List Value} (h : DrR W w B g k bs e sz v n cs) : W.heap.size ≤ w.heap.size := h.gr.size
theorem DrR.nil {W : World} {B g k : Nat} {bs : List UInt8} (h : SrcAt W B g k bs) (e : TypeId) (sz : Nat) : DrR W W B g k bs e sz (.slice none 0 0) 0 [] :=
  ⟨h.lt, h, ⟨by simp, .inl ⟨rfl, rfl⟩⟩, ⟨rfl, rfl, rfl, Nat.le_refl _, fun _ _ _ => rfl⟩⟩
theorem DrR.made {W : World} {B g k : Nat} {bs : List UInt8} (h : SrcAt W B g k bs) (e : TypeId) (sz : Nat) : DrR W (W.alloc (.cells #[] e)) B g k bs e sz (.slice (some ⟨W.heap.size, 0, none⟩) 0 0) 0 [] :=
  have hb := (Below.refl W.heap.size W).alloc (Nat.le_refl _) (.cells #[] e)
  ⟨h.lt, h.below hb, World.ownsRow_made (base := W.heap.size) (e := e) (size := sz) W #[] 0 (Nat.le_refl _) (by simp [maxLen]) (by simp), grown_of_below hb _⟩
/-- what a later call sees: the row's owner has gone on -/
theorem DrR.from {W W' w : World} {B g k : Nat} {bs : List UInt8} {e : TypeId} {sz n : Nat} {v : Value} {cs : List Value} (h : DrR W' w B g k bs e sz v n cs) (hg : W.grownBy W' (some g)) (hl : g < W.heap.size) : DrR W w B g k bs e sz v n cs :=
  ⟨hl, h.src, ownsRow_le h.row hg.size, grown_trans hg h.gr⟩

set_option maxRecDepth 100000 in
set_option maxHeartbeats 400000 in
theorem text_in (B g k b m : Nat) (l : List ByteArray) (bs : List UInt8) (w : World) (h : SrcAt w B g k bs) (hk : k < 4611686018427387800) (hm : l.length = m) (hm2 : 2 ≤ m) (hm3 : m ≤ 200) (hb : b ≠ g) (hbl : b < w.heap.size)
    (hc : ∀ i (hi : i < l.length), w.cell? ⟨b, i, none⟩ = some (.string l[i])) :
    Calls Try.prog 154 #[.pointer (some ⟨g, 0, none⟩), .slice (some ⟨b, 0, none⟩) m m] w fun e w' => ∃ z, z ∈ l ∧ e = .returned (.string z) ∧ SrcAt w' B g (k + 2) bs ∧ w.grownBy w' (some g) := by
  have H := Lib.hid h; clear h
  have Hc := Lib.hid hc; clear hc
  have hm4 : (m : Int) ≤ 200 := by omega
  go_enter Try.func154, Try.ntmps154
  go_wp2_with fail
  refine (pick_any B g k bs m _ H.out (by omega)).mono ?_; rintro e w1 ⟨x, rfl, ⟨hx0, hx1, _⟩, hs1, hg1⟩
  have Hs1 := Lib.hid hs1; clear hs1
  obtain ⟨i, rfl⟩ : ∃ i : Nat, x = i := ⟨x.toNat, by omega⟩
  have hx2 := hx1 (by omega)
  have hi : i < l.length := by omega
  have hcell := (World.cell?_of_block (a := ⟨b, i, none⟩) (hg1.block b hbl (fun e => hb (by injection e)))).trans (Hc.out i hi)
  have hmem := Lib.hid (List.getElem_mem hi)
  generalize l[i] = z at *
  clear hx1
  go_wp2_with fail
  go_ret
  exact ⟨z, hmem.out, rfl, Hs1.out, hg1⟩
theorem alloc_strs (w : World) (l : List ByteArray) (t : TypeId) : ∀ i (hi : i < l.length), (w.alloc (.cells (l.map Value.string).toArray t)).cell? ⟨w.heap.size, i, none⟩ = some (.string l[i]) := fun i hi => by
  have := new_cells w (l.map Value.string).toArray t i (.string l[i]) (by simp [hi])
  rwa [show (⟨w.heap.size, 0, none⟩ : Addr).add i = ⟨w.heap.size, i, none⟩ by unfold Addr.add; split <;> simp_all] at this
/-- .. from texts just laid out, in a region that draws its order -/
theorem text_new (B g k m : Nat) (l : List ByteArray) (bs : List UInt8) (w : World) (h : SrcAt w B g k bs) (hk : k < 4611686018427387800) (hm : l.length = m) (hm2 : 2 ≤ m) (hm3 : m ≤ 200) :
    Calls Try.prog 154 #[.pointer (some ⟨g, 0, none⟩), .slice (some ⟨w.heap.size, 0, none⟩) m m] (w.alloc (.cells (l.map Value.string).toArray 9)) fun e w' => ∃ z, z ∈ l ∧ e = .returned (.string z) ∧ SrcAt w' B g (k + 2) bs ∧ w.grownBy w' (some g) := by
  have hlt := h.lt
  refine (text_in B g k w.heap.size m l bs _ (h.below ((Below.refl w.heap.size w).alloc (Nat.le_refl _) _)) hk hm hm2 hm3 (by omega) (by simp) (alloc_strs w l _)).mono ?_
  rintro e w' ⟨z, h1, h2, h3, h4⟩
  exact ⟨z, h1, h2, h3, grown_from_alloc h4⟩
theorem text_newd (B g k m : Nat) (l : List ByteArray) (bs : List UInt8) (w : World) (h : SrcAt w B g k bs) (hk : k < 4611686018427387800) (hm : l.length = m) (hm2 : 2 ≤ m) (hm3 : m ≤ 200) :
    Calls Try.prog 154 #[.pointer (some ⟨g, 0, none⟩), .slice (some ⟨w.heap.size, 0, none⟩) m m] (w.alloc (.cells (l.map Value.string).toArray 9)).drew fun e w' => ∃ z, z ∈ l ∧ e = .returned (.string z) ∧ SrcAt w' B g (k + 2) bs ∧ w.grownBy w' (some g) := by
  have hlt := h.lt
  refine (text_in B g k w.heap.size m l bs _ (SrcAt.drew (h.below ((Below.refl w.heap.size w).alloc (Nat.le_refl _) _))) hk hm hm2 hm3 (by omega) (by simp) (fun i hi => alloc_strs w l 9 i hi)).mono ?_
  rintro e w' ⟨z, h1, h2, h3, h4⟩
  exact ⟨z, h1, h2, h3, grown_from_alloc (grown_undrew h4)⟩

theorem ne_some0 {s : ByteArray} (h : 0 < s.size) : s.toList.isEmpty = false := by
  rw [ByteArray.toList_eq, List.isEmpty_eq_false_iff]
  intro e
  have h1 : s.data.toList.length = s.size := by simp
  rw [e] at h1
  simp at h1; omega
theorem ne_none0 {s : ByteArray} (h : s.size = 0) : s.toList.isEmpty = true := by
  rw [ByteArray.toList_eq, List.isEmpty_iff]
  exact List.eq_nil_of_length_eq_zero (by simpa using h)
def spoilL : List ByteArray := [⟨#[32]⟩, ⟨#[48]⟩, ⟨#[45]⟩, ⟨#[120]⟩, ⟨#[49]⟩, ⟨#[57]⟩, ⟨#[46]⟩]
theorem spoilL_one : ∀ z ∈ spoilL, z.size = 1 := by decide
def RetSp (w : World) (B g k : Nat) (bs : List UInt8) (n : Nat) (e : Ending) (w' : World) : Prop := ∃ z : ByteArray, e = .returned (.string z) ∧ z.size ≤ n ∧ SrcAt w' B g k bs ∧ w.grownBy w' (some g)

end Go.Proofs.Ytemcdmjnokpldaa
/- Draws: one of some numbers is drawn. -/
namespace Go.Proofs.Ytemcdmjnokpldaa
open Go.RowKit Go.Joins

set_option maxHeartbeats 400000 in
theorem among_in (B g k m : Nat) (l : List Int) (bs : List UInt8) (w : World) (h : SrcAt w B g k bs) (hk : k < 4611686018427387800) (hm : l.length = m) (hm2 : 2 ≤ m) (hm3 : m ≤ 200) :
    Calls Try.prog 89 #[.pointer (some ⟨g, 0, none⟩), .slice (some ⟨w.heap.size, 0, none⟩) m m] (w.alloc (.cells (l.map (Value.int .i64)).toArray 2)) fun e w' => ∃ x : Int, x ∈ l ∧ e = .returned (.int .i64 x) ∧ SrcAt w' B g (k + 2) bs ∧ w.grownBy w' (some g) := by
  have hlt := h.lt
  have hbk := (Below.refl w.heap.size w).alloc (Nat.le_refl _) (.cells (l.map (Value.int .i64)).toArray 2)
  have hnc : ∀ i (hi : i < l.length), (w.alloc (.cells (l.map (Value.int .i64)).toArray 2)).cell? ⟨w.heap.size, i, none⟩ = some (.int .i64 l[i]) := fun i hi => by
    have := new_cells w (l.map (Value.int .i64)).toArray 2 i (.int .i64 l[i]) (by simp [hi])
    rwa [show (⟨w.heap.size, 0, none⟩ : Addr).add i = ⟨w.heap.size, i, none⟩ by unfold Addr.add; split <;> simp_all] at this
  have H := Lib.hid (h.below hbk); clear h
  have Hc := Lib.hid hnc; clear hnc
  have Hg := Lib.hid (fun w' (h : (w.alloc (.cells (l.map (Value.int .i64)).toArray 2)).grownBy w' (some g)) => grown_from_alloc h)
  have hsz : w.heap.size < (w.alloc (.cells (l.map (Value.int .i64)).toArray 2)).heap.size := by simp
  have hm4 : (m : Int) ≤ 200 := by omega
  clear hbk
  generalize w.alloc (.cells (l.map (Value.int .i64)).toArray 2) = wl at *
  go_enter Try.func89, Try.ntmps89
  go_wp2_with fail
  refine (pick_any B g k bs m _ H.out (by omega)).mono ?_; rintro e w1 ⟨x, rfl, ⟨hx0, hx1, _⟩, hs1, hg1⟩
  have Hs1 := Lib.hid hs1; clear hs1
  obtain ⟨i, rfl⟩ : ∃ i : Nat, x = i := ⟨x.toNat, by omega⟩
  have hx2 := hx1 (by omega)
  have hi : i < l.length := by omega
  have hcell := (World.cell?_of_block (a := ⟨w.heap.size, i, none⟩) (hg1.block w.heap.size hsz (fun e => by injection e; omega))).trans (Hc.out i hi)
  have hg2 := Hg.out _ hg1
  have hin := Lib.hid (show l[i] ∈ l from List.getElem_mem hi)
  generalize l[i] = z at *
  clear hx1 hg1
  go_wp2_with fail
  go_ret
  exact ⟨z, hin.out, rfl, Hs1.out, hg2⟩
end Go.Proofs.Ytemcdmjnokpldaa
/- Drums that are drawn: l05Draw. -/
namespace Go.Proofs.Ytemcdmjnokpldaa
open Go.RowKit Go.Joins

abbrev put4D (w : World) (g : Nat) (d : Dm) : World := put4 w g (.int .i64 d.k) (.int .i64 d.b) (.int .i64 d.t) (.int .i64 d.f)
def RetDw (w : World) (B g k : Nat) (bs : List UInt8) (e : Ending) (w' : World) : Prop := ∃ d : Dm, e = .returned (aggDm d) ∧ (2 ≤ d.b ∧ d.b ≤ 16 ∧ d.b ≤ d.t ∧ d.t ≤ 36 ∧ 0 ≤ d.f ∧ d.f ≤ 40) ∧ SrcAt w' B g k bs ∧ w.grownBy w' (some g)
end Go.Proofs.Ytemcdmjnokpldaa
/- Drums that are drawn: l05Bent, l05Clock. -/
namespace Go.Proofs.Ytemcdmjnokpldaa
open Go.RowKit Go.Joins

def RetDb (w : World) (B g k : Nat) (bs : List UInt8) (e : Ending) (w' : World) : Prop := ∃ d : Dm, e = .returned (aggDm d) ∧ SrcAt w' B g k bs ∧ w.grownBy w' (some g)
end Go.Proofs.Ytemcdmjnokpldaa
/- Drums that are drawn: l05Digit. -/
namespace Go.Proofs.Ytemcdmjnokpldaa
open Go.RowKit Go.Joins

theorem l00MinD_any (a b : Int) (w : World) : Calls Try.prog 159 #[.int .i64 a, .int .i64 b] w fun e w' => e = .returned (.int .i64 (if a < b then a else b)) ∧ w = w' := by
  by_cases h : a < b
  · rw [if_pos h]
    go_enter Try.func159, Try.ntmps159
    go_wp2_with fail
    go_ret
    exact ⟨rfl, rfl⟩
  · rw [if_neg h]
    go_enter Try.func159, Try.ntmps159
    go_wp2_with fail
    go_ret
    exact ⟨rfl, rfl⟩
theorem l00MaxD_any (a b : Int) (w : World) : Calls Try.prog 141 #[.int .i64 a, .int .i64 b] w fun e w' => e = .returned (.int .i64 (if b < a then a else b)) ∧ w = w' := by
  by_cases h : b < a
  · rw [if_pos h]
    go_enter Try.func141, Try.ntmps141
    go_wp2_with fail
    go_ret
    exact ⟨rfl, rfl⟩
  · rw [if_neg h]
    go_enter Try.func141, Try.ntmps141
    go_wp2_with fail
    go_ret
    exact ⟨rfl, rfl⟩
theorem blk_ltN {w : World} {q : Nat} {o : Obj} (h : w.heap[q]? = some o) : q < w.heap.size := (Array.getElem?_eq_some_iff.1 h).1
def RetDg (w : World) (B g k : Nat) (bs : List UInt8) (e : Ending) (w' : World) : Prop := ∃ (d : Dm) (x : Int), e = .returned (.tuple #[aggDm d, .int .i64 x]) ∧ SrcAt w' B g k bs ∧ w.grownBy w' (some g)
end Go.Proofs.Ytemcdmjnokpldaa
/- Drums: the law's draws, from the code. -/
namespace Go.Proofs.Ytemcdmjnokpldaa
open Go.RowKit Go.Joins

end Go.Proofs.Ytemcdmjnokpldaa
/- Drums: plain facts of the times; a row of numbers beside a draw from the code. -/
namespace Go.Proofs.Ytemcdmjnokpldaa
open Go.RowKit Go.Joins

theorem ceil_le {a g t : Int} (hg : 0 < g) (h : a ≤ g * t) : (a + g - 1) / g ≤ t := by
  have h1 : a + g - 1 < (t + 1) * g := by
    have : (t + 1) * g = g * t + g := by rw [Int.add_mul, Int.one_mul, Int.mul_comm]
    omega
  have h2 := Int.ediv_lt_of_lt_mul hg h1
  omega
theorem timeD_bd {d : Dm} {n j : Nat} (hok : okDm d = true) (hn : (n : Int) < d.b) (hj : j < n) : 1 ≤ timeD d n j ∧ timeD d n j ≤ d.t := by
  obtain ⟨hk, b1, b2, b3, b4, hf3, hf1⟩ := okDm_bd hok
  unfold timeD
  rcases hk with h | h | h
  · have hf := hf1 (by omega)
    rw [if_pos h]; omega
  · have hf := hf1 (by omega)
    rw [if_neg (by omega), if_pos h]; omega
  · rw [if_neg (by omega), if_neg (by omega)]
    have hn0 : (0 : Int) < (n : Int) := by omega
    have h1 : ((j : Int) + 1) * d.t ≤ (n : Int) * d.t := Int.mul_le_mul_of_nonneg_right (by omega) (by omega)
    have h2 : 1 * d.t ≤ ((j : Int) + 1) * d.t := Int.mul_le_mul_of_nonneg_right (by omega) (by omega)
    refine ⟨?_, ceil_le hn0 h1⟩
    have h3 := Int.le_ediv_of_mul_le (a := 1) (b := ((j : Int) + 1) * d.t + n - 1) hn0 (by omega)
    exact h3
theorem timeD_up {d : Dm} {n j : Nat} (hok : okDm d = true) (hn : (n : Int) < d.b) (hj : j + 1 < n) : timeD d n j < timeD d n (j + 1) := by
  obtain ⟨hk, b1, b2, b3, b4, hf3, hf1⟩ := okDm_bd hok
  unfold timeD
  rcases hk with h | h | h
  · rw [if_pos h, if_pos h]; push_cast; omega
  · rw [if_neg (by omega), if_pos h, if_neg (by omega), if_pos h]; push_cast; omega
  · rw [if_neg (by omega), if_neg (by omega), if_neg (by omega), if_neg (by omega)]
    have hn0 : (0 : Int) < (n : Int) := by omega
    have e : ((((j + 1 : Nat) : Int) + 1) * d.t) = ((j : Int) + 1) * d.t + d.t := by push_cast; rw [Int.add_mul]; omega
    rw [e]
    have h4 : (((j : Int) + 1) * d.t + n - 1 + n * 1) / (n : Int) = (((j : Int) + 1) * d.t + n - 1) / n + 1 := Int.add_mul_ediv_left _ _ (by omega)
    have h5 : (((j : Int) + 1) * d.t + n - 1 + n * 1) / (n : Int) ≤ (((j : Int) + 1) * d.t + d.t + n - 1) / n := Int.ediv_le_ediv hn0 (by omega)
    omega
theorem timeD_last {d : Dm} {n : Nat} (hok : okDm d = true) (hn : (n : Int) < d.b) : ∀ j, j < n → timeD d n j ≤ d.t := fun j hj => (timeD_bd hok hn hj).2
/-- a whole turn makes as many steps as the digit -/
theorem steps_turn {d : Dm} {n : Nat} (hok : okDm d = true) (hn : (n : Int) < d.b) : stepsD d n d.t = n := by
  obtain ⟨_, b1, b2, b3, b4, _⟩ := okDm_bd hok
  unfold stepsD
  rw [Int.ediv_self (by omega), Int.emod_self]
  have h : ∀ m, m ≤ n → cntT (timeD d n) 0 m = 0 := by
    intro m
    induction m with
    | zero => intro _; rfl
    | succ m ih =>
      intro hm
      rw [cntT_no (by have := (timeD_bd hok hn (j := m) (by omega)).1; omega), ih (by omega)]
  rw [h n (Nat.le_refl _)]
  omega
theorem cntT_mono {T : Nat → Int} {a b : Int} (h : a ≤ b) : ∀ n, cntT T a n ≤ cntT T b n := by
  intro n
  induction n with
  | zero => exact Nat.le_refl _
  | succ n ih =>
    unfold cntT
    by_cases h1 : T n ≤ a
    · rw [if_pos h1, if_pos (by omega)]; omega
    · rw [if_neg h1]; split <;> omega
/-- steps grow with the time -/
theorem steps_mono {d : Dm} {n : Nat} {a b : Int} (hok : okDm d = true) (h0 : 0 ≤ a) (hab : a ≤ b) : stepsD d n a ≤ stepsD d n b := by
  obtain ⟨_, b1, b2, b3, b4, _⟩ := okDm_bd hok
  have ht : 0 < d.t := by omega
  unfold stepsD
  have hq : a / d.t ≤ b / d.t := Int.ediv_le_ediv ht hab
  have hca := cntT_le (timeD d n) (a % d.t) n
  rcases Int.lt_or_eq_of_le hq with hlt | heq
  · have h1 : (a / d.t + 1) * (n : Int) ≤ b / d.t * (n : Int) := Int.mul_le_mul_of_nonneg_right (by omega) (by omega)
    rw [Int.add_mul, Int.one_mul] at h1
    omega
  · have e1 := Int.emod_def a d.t
    have e2 := Int.emod_def b d.t
    rw [← heq] at e2 ⊢
    have h2 : a % d.t ≤ b % d.t := by rw [e1, e2]; omega
    have h3 := cntT_mono (T := timeD d n) h2 n
    omega
theorem sameF_self (n : Nat) (f : Nat → Int) : sameF n n f f = true := sameF_yes (fun _ _ => rfl)
end Go.Proofs.Ytemcdmjnokpldaa
/- Abaci: plain facts. -/
namespace Go.Proofs.Ytemcdmjnokpldaa

structure Ab where
  u : Int
  l : Int
  w : Int
  rods : List (Int × Int)
def kindAb (a : Ab) : Bool := inB a.u 0 4 && inB a.l 1 12 && inB a.w 1 10 && decide (a.w - 1 ≤ a.l) && decide (9 ≤ a.u * a.w + a.l)
def rodOk (a : Ab) (r : Int × Int) : Bool := inB r.1 0 a.u && inB r.2 0 a.l
def okAb (a : Ab) : Bool := kindAb a && a.rods.all (rodOk a) && inB a.rods.length 1 10
/-- what a rod shows -/
def shownR (w : Int) (r : Int × Int) : Int := r.1 * w + r.2
/-- the value of rods, the first the least -/
def valR (w : Int) : List (Int × Int) → Int
  | [] => 0
  | r :: rs => 10 * valR w rs + shownR w r
/-- the plain setting of a rod -/
def plainRodA (u w d : Int) : Int × Int := (min u (d / w), d - min u (d / w) * w)
/-- n rods in the plain way; what is left of the value is value / 10 ^ n -/
def plainRs (u w : Int) : Nat → Int → List (Int × Int)
  | 0, _ => []
  | n + 1, v => plainRodA u w (v % 10) :: plainRs u w n (v / 10)
def leftV : Nat → Int → Int
  | 0, v => v
  | n + 1, v => leftV n (v / 10)
theorem plainRs_len (u w : Int) : ∀ n v, (plainRs u w n v).length = n
  | 0, _ => rfl
  | n + 1, v => by show (plainRs u w n (v / 10)).length + 1 = n + 1; rw [plainRs_len u w n]
theorem shown_plain (u w d : Int) : shownR w (plainRodA u w d) = d := by
  unfold shownR plainRodA
  dsimp only
  omega
theorem val_plain (u w : Int) : ∀ (n : Nat) (v : Int), leftV n v = 0 → valR w (plainRs u w n v) = v
  | 0, v, h => by
    show (0 : Int) = v
    exact h.symm
  | n + 1, v, h => by
    show 10 * valR w (plainRs u w n (v / 10)) + shownR w (plainRodA u w (v % 10)) = v
    rw [val_plain u w n (v / 10) h, shown_plain]
    omega
theorem kind_bd {a : Ab} (h : kindAb a = true) : 0 ≤ a.u ∧ a.u ≤ 4 ∧ 1 ≤ a.l ∧ a.l ≤ 12 ∧ 1 ≤ a.w ∧ a.w ≤ 10 ∧ a.w - 1 ≤ a.l ∧ 9 ≤ a.u * a.w + a.l := by
  unfold kindAb at h
  simp only [Bool.and_eq_true, decide_eq_true_eq] at h
  obtain ⟨⟨⟨⟨h1, h2⟩, h3⟩, h4⟩, h5⟩ := h
  have := inB_bd h1; have := inB_bd h2; have := inB_bd h3
  omega
/-- a plain rod is a rod of the abacus -/
theorem plain_ok {a : Ab} (h : kindAb a = true) {d : Int} (d0 : 0 ≤ d) (d9 : d ≤ 9) : rodOk a (plainRodA a.u a.w d) = true := by
  obtain ⟨h1, h2, h3, h4, h5, h6, h7, h8⟩ := kind_bd h
  have q0 : 0 ≤ d / a.w := Int.ediv_nonneg d0 (by omega)
  have hm := Int.mul_ediv_add_emod d a.w
  have r0 := Int.emod_nonneg d (show a.w ≠ 0 by omega)
  have r1 := Int.emod_lt_of_pos d (show 0 < a.w by omega)
  have hc := Int.mul_comm a.w (d / a.w)
  unfold rodOk plainRodA inB
  simp only [Bool.and_eq_true, decide_eq_true_eq]
  by_cases hle : d / a.w ≤ a.u
  · rw [Int.min_eq_right hle]
    omega
  · have hm2 : a.u * a.w ≤ d / a.w * a.w := Int.mul_le_mul_of_nonneg_right (by omega) (by omega)
    rw [Int.min_eq_left (by omega)]
    omega
end Go.Proofs.Ytemcdmjnokpldaa
/- Abaci: rows of rods. -/
namespace Go.Proofs.Ytemcdmjnokpldaa
open Go.RowKit Go.Joins

abbrev cellsRd (r : Int × Int) : List Value := [.int .i64 r.1, .int .i64 r.2]
abbrev rodsC (rs : List (Int × Int)) : List Value := rs.flatMap cellsRd
abbrev aggAb (u l w : Int) (v : Value) : Value := .agg #[.int .i64 u, .int .i64 l, .int .i64 w, v]
theorem rodsC_len (rs : List (Int × Int)) : (rodsC rs).length = rs.length * 2 := by
  induction rs with
  | nil => rfl
  | cons r rs ih => show (cellsRd r ++ rodsC rs).length = _; rw [List.length_append, ih]; simp; omega
theorem rodsC_get : ∀ (rs : List (Int × Int)) (i : Nat) (hi : i < rs.length), (rodsC rs)[i * 2]? = some (.int .i64 (rs[i]).1) ∧ (rodsC rs)[i * 2 + 1]? = some (.int .i64 (rs[i]).2)
  | r :: rs, 0, _ => ⟨rfl, rfl⟩
  | r :: rs, i + 1, hi => by
    have h := rodsC_get rs i (by simpa using hi)
    have e : rodsC (r :: rs) = .int .i64 r.1 :: .int .i64 r.2 :: rodsC rs := rfl
    rw [e, show (i + 1) * 2 = i * 2 + 1 + 1 by omega]
    exact h
/-- the reading of rods -/
theorem rods_at {w : World} {B c n : Nat} {A : Option Addr} {rs : List (Int × Int)} (h : Rd w B (.slice A n c) rs.length 2 (rodsC rs)) (hn : 0 < rs.length) :
    ∃ b off, A = some ⟨b, off, none⟩ ∧ b < B ∧ ∀ i (hi : i < rs.length), w.cell? ⟨b, off + i * 2, none⟩ = some (.int .i64 (rs[i]).1) ∧ w.cell? ⟨b, off + i * 2 + 1, none⟩ = some (.int .i64 (rs[i]).2) := by
  obtain ⟨_, A', c', hv, hc⟩ := h
  obtain ⟨b, off, hA, hb, hcc⟩ := hc (by omega)
  injection hv with e1 e2 e3
  subst e1
  refine ⟨b, off, hA, hb, fun i hi => ?_⟩
  obtain ⟨g1, g2⟩ := rodsC_get rs i hi
  exact ⟨hcc _ _ g1, hcc _ _ g2⟩
end Go.Proofs.Ytemcdmjnokpldaa
/- Abaci: valid abaci, the cases. -/
namespace Go.Proofs.Ytemcdmjnokpldaa

theorem kindAb_cases (u l w : Int) (rs : List (Int × Int)) : (inB u 0 4 = false ∧ kindAb ⟨u, l, w, rs⟩ = false) ∨ (inB u 0 4 = true ∧ inB l 1 12 = false ∧ kindAb ⟨u, l, w, rs⟩ = false) ∨
    (inB u 0 4 = true ∧ inB l 1 12 = true ∧ inB w 1 10 = false ∧ kindAb ⟨u, l, w, rs⟩ = false) ∨
    (inB u 0 4 = true ∧ inB l 1 12 = true ∧ inB w 1 10 = true ∧ l < w - 1 ∧ kindAb ⟨u, l, w, rs⟩ = false) ∨
    (inB u 0 4 = true ∧ inB l 1 12 = true ∧ inB w 1 10 = true ∧ ¬ l < w - 1 ∧ u * w + l < 9 ∧ kindAb ⟨u, l, w, rs⟩ = false) ∨
    (inB u 0 4 = true ∧ inB l 1 12 = true ∧ inB w 1 10 = true ∧ ¬ l < w - 1 ∧ ¬ u * w + l < 9 ∧ kindAb ⟨u, l, w, rs⟩ = true) := by
  unfold kindAb
  cases inB u 0 4 <;> cases inB l 1 12 <;> cases inB w 1 10 <;> simp
  by_cases h1 : l < w - 1
  · left
    exact ⟨h1, by omega⟩
  · right
    by_cases h2 : u * w + l < 9
    · left
      exact ⟨by omega, h2, by omega⟩
    · right
      exact ⟨by omega, by omega, by omega, by omega⟩
theorem okAb_kind {a : Ab} (h : kindAb a = false) : okAb a = false := by unfold okAb; rw [h]; rfl
theorem okAb_rest {a : Ab} (h : kindAb a = true) : okAb a = (a.rods.all (rodOk a) && inB a.rods.length 1 10) := by unfold okAb; rw [h]; simp
theorem all_take {p : Int × Int → Bool} {rs : List (Int × Int)} {k : Nat} (hk : k < rs.length) (h : (rs.take k).all p = true) (hp : p rs[k] = true) : (rs.take (k + 1)).all p = true := by
  rw [List.take_succ_eq_append_getElem hk, List.all_append, h]
  simpa using hp
theorem all_no {p : Int × Int → Bool} {rs : List (Int × Int)} {k : Nat} (hk : k < rs.length) (hp : p rs[k] = false) : rs.all p = false := by
  rw [List.all_eq_false]
  exact ⟨rs[k], List.getElem_mem hk, by rw [hp]; simp⟩
end Go.Proofs.Ytemcdmjnokpldaa
/- Abaci: l03Kind. -/
namespace Go.Proofs.Ytemcdmjnokpldaa
open Go.RowKit Go.Joins

/-- an abacus's cells -/
structure AbAt (W : World) (q : Nat) (u l w : Int) (v : Value) : Prop where
  c0 : W.cell? ⟨q, 0, none⟩ = some (.int .i64 u)
  c1 : W.cell? ⟨q, 1, none⟩ = some (.int .i64 l)
  c2 : W.cell? ⟨q, 2, none⟩ = some (.int .i64 w)
  c3 : W.cell? ⟨q, 3, none⟩ = some v
theorem AbAt.drewN {W : World} {q : Nat} {u l w : Int} {v : Value} (h : AbAt W q u l w v) (n : Nat) : AbAt (W.drewN n) q u l w v := ⟨h.1, h.2, h.3, h.4⟩
theorem AbAt.below {W W' : World} {q B : Nat} {u l w : Int} {v : Value} (h : AbAt W q u l w v) (hq : q < B) (hw : Below B W W') : AbAt W' q u l w v :=
  ⟨(hw.cell (p := ⟨q, 0, none⟩) hq).trans h.c0, (hw.cell (p := ⟨q, 1, none⟩) hq).trans h.c1, (hw.cell (p := ⟨q, 2, none⟩) hq).trans h.c2, (hw.cell (p := ⟨q, 3, none⟩) hq).trans h.c3⟩
set_option maxRecDepth 100000 in
set_option maxHeartbeats 1600000 in
theorem l03Kind_any (q : Nat) (u l w : Int) (v : Value) (rs : List (Int × Int)) (W : World) (h : AbAt W q u l w v) : Calls Try.prog 136 #[.pointer (some ⟨q, 0, none⟩)] W fun e w' => e = .returned (.bool (kindAb ⟨u, l, w, rs⟩)) ∧ ∃ n, w' = W.drewN n := by
  have hk := kindAb_cases u l w rs
  obtain ⟨c0, c1, c2, c3⟩ := h
  have H1 := Lib.hid (fun wx => flipC (l00In_any u 0 4 wx))
  have H2 := Lib.hid (fun wx => flipC (l00In_any l 1 12 wx))
  have H3 := Lib.hid (fun wx => flipC (l00In_any w 1 10 wx))
  generalize kindAb ⟨u, l, w, rs⟩ = K at *
  rcases hk with ⟨g1, rfl⟩ | ⟨g1, g2, rfl⟩ | ⟨g1, g2, g3, rfl⟩ | ⟨g1, g2, g3, g4, rfl⟩ | ⟨g1, g2, g3, g4, g5, rfl⟩ | ⟨g1, g2, g3, g4, g5, rfl⟩
  · rw [g1] at H1
    clear g1
    go_enter Try.func136, Try.ntmps136
    go_wp2_with fail
    refine (H1.out _).mono ?_; rintro e w1 ⟨rfl, rfl⟩
    go_wp2_with fail
    go_ret
    exact ⟨rfl, 0, rfl⟩
  · rw [g1] at H1
    rw [g2] at H2
    clear g1 g2
    go_enter Try.func136, Try.ntmps136
    go_wp2_with fail
    refine (H1.out _).mono ?_; rintro e w1 ⟨rfl, rfl⟩
    go_wp2_with fail
    refine (H2.out _).mono ?_; rintro e w1 ⟨rfl, rfl⟩
    go_wp2_with fail
    go_ret
    exact ⟨rfl, 0, rfl⟩
  · rw [g1] at H1
    rw [g2] at H2
    rw [g3] at H3
    clear g1 g2 g3
    go_enter Try.func136, Try.ntmps136
    go_wp2_with fail
    refine (H1.out _).mono ?_; rintro e w1 ⟨rfl, rfl⟩
    go_wp2_with fail
    refine (H2.out _).mono ?_; rintro e w1 ⟨rfl, rfl⟩
    go_wp2_with fail
    refine (H3.out _).mono ?_; rintro e w1 ⟨rfl, rfl⟩
    go_wp2_with fail
    go_ret
    exact ⟨rfl, 0, rfl⟩
  · obtain ⟨u0, u4⟩ := inB_bd g1
    obtain ⟨l0, l4⟩ := inB_bd g2
    obtain ⟨w0, w4⟩ := inB_bd g3
    have hw1 : IntKind.i64.wrap (w - 1) = w - 1 := IntWalk.i64_in _ (by omega)
    have p0 : 0 ≤ u * w := Int.mul_nonneg u0 (by omega)
    have p1 : u * w ≤ 4 * w := Int.mul_le_mul_of_nonneg_right u4 (by omega)
    have hw2 : IntKind.i64.wrap (u * w) = u * w := IntWalk.i64_in _ (by omega)
    have hw3 : IntKind.i64.wrap (u * w + l) = u * w + l := IntWalk.i64_in _ (by omega)
    rw [g1] at H1
    rw [g2] at H2
    rw [g3] at H3
    clear g1 g2 g3
    have k1 : decide (w - 1 ≤ l) = false := decide_eq_false (by omega)
    go_enter Try.func136, Try.ntmps136
    go_wp2_with fail
    refine (H1.out _).mono ?_; rintro e w1 ⟨rfl, rfl⟩
    go_wp2_with fail
    refine (H2.out _).mono ?_; rintro e w1 ⟨rfl, rfl⟩
    go_wp2_with fail
    refine (H3.out _).mono ?_; rintro e w1 ⟨rfl, rfl⟩
    go_wp2_with fail
    go_quiet (fail)
    go_wp2_with fail
    go_ret
    exact ⟨rfl, _, rfl⟩
  · obtain ⟨u0, u4⟩ := inB_bd g1
    obtain ⟨l0, l4⟩ := inB_bd g2
    obtain ⟨w0, w4⟩ := inB_bd g3
    have hw1 : IntKind.i64.wrap (w - 1) = w - 1 := IntWalk.i64_in _ (by omega)
    have p0 : 0 ≤ u * w := Int.mul_nonneg u0 (by omega)
    have p1 : u * w ≤ 4 * w := Int.mul_le_mul_of_nonneg_right u4 (by omega)
    have hw2 : IntKind.i64.wrap (u * w) = u * w := IntWalk.i64_in _ (by omega)
    have hw3 : IntKind.i64.wrap (u * w + l) = u * w + l := IntWalk.i64_in _ (by omega)
    rw [g1] at H1
    rw [g2] at H2
    rw [g3] at H3
    clear g1 g2 g3
    have k1 : w - 1 ≤ l := by omega
    have k2 : decide (9 ≤ u * w + l) = false := decide_eq_false (by omega)
    go_enter Try.func136, Try.ntmps136
    go_wp2_with fail
    refine (H1.out _).mono ?_; rintro e w1 ⟨rfl, rfl⟩
    go_wp2_with fail
    refine (H2.out _).mono ?_; rintro e w1 ⟨rfl, rfl⟩
    go_wp2_with fail
    refine (H3.out _).mono ?_; rintro e w1 ⟨rfl, rfl⟩
    go_wp2_with fail
    go_quiet (fail)
    go_wp2_with fail
    go_ret
    exact ⟨rfl, _, rfl⟩
  · obtain ⟨u0, u4⟩ := inB_bd g1
    obtain ⟨l0, l4⟩ := inB_bd g2
    obtain ⟨w0, w4⟩ := inB_bd g3
    have hw1 : IntKind.i64.wrap (w - 1) = w - 1 := IntWalk.i64_in _ (by omega)
    have p0 : 0 ≤ u * w := Int.mul_nonneg u0 (by omega)
    have p1 : u * w ≤ 4 * w := Int.mul_le_mul_of_nonneg_right u4 (by omega)
    have hw2 : IntKind.i64.wrap (u * w) = u * w := IntWalk.i64_in _ (by omega)
    have hw3 : IntKind.i64.wrap (u * w + l) = u * w + l := IntWalk.i64_in _ (by omega)
    rw [g1] at H1
    rw [g2] at H2
    rw [g3] at H3
    clear g1 g2 g3
    have k1 : w - 1 ≤ l := by omega
    have k2 : 9 ≤ u * w + l := by omega
    go_enter Try.func136, Try.ntmps136
    go_wp2_with fail
    refine (H1.out _).mono ?_; rintro e w1 ⟨rfl, rfl⟩
    go_wp2_with fail
    refine (H2.out _).mono ?_; rintro e w1 ⟨rfl, rfl⟩
    go_wp2_with fail
    refine (H3.out _).mono ?_; rintro e w1 ⟨rfl, rfl⟩
    go_wp2_with fail
    go_quiet (fail)
    go_wp2_with fail
    go_ret
    exact ⟨rfl, _, rfl⟩
end Go.Proofs.Ytemcdmjnokpldaa
