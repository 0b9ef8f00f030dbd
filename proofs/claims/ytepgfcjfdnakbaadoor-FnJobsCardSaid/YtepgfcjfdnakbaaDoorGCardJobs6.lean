/- Merged texts: Lib7, Dg1, Pc28, Rn6, Tx1, Pq3, Pq4. -/
import Derived.Test.YtepgfcjfdnakbaaDoorGCardJobs5
import Derived.Test.YtepgfcjfdnakbaaDoorGCardJobs3
import Derived.Test.YtepgfcjfdnakbaaDoorGCardJobs1
import Derived.Test.YtepgfcjfdnakbaaDoorGCardJobs4
import Derived.Deep.DeepCutAuto
import Derived.Deep.CutRange
import Derived.Deep.CutBlock
import Derived.Lib.AppendStr
/- A region that draws its order and whose last operations write where the region has loaded: the loads are taken first; S is not asked behind those last operations (Ls). No program is named here. -/
namespace Go.Proofs.YtepgfcjfdnakbaaDoor
open Go.RowKit

section
variable {P : Program} {ops : Array Oper} {Q : Exit → Act → World → Prop} {md : Region.Mode} {S : World → Prop} {L : Nat} {Ls : List Nat}

/-- every operation that has come up has those ahead of it come up -/
def ClosedL (md : Region.Mode) (ops : Array Oper) (listed : Array Bool) : Prop :=
  ∀ (k : Nat) (o : Oper), ops[k]? = some o → listed.getD k true = true → ∀ e ∈ o.after, Region.binds md e = true → listed.getD e.on false = true
def closedB (md : Region.Mode) (ops : Array Oper) (listed : Array Bool) : Bool :=
  (List.range ops.size).all fun k => !listed.getD k true || ((ops[k]?).map (·.after.all fun e => !Region.binds md e || listed.getD e.on false)).getD true
theorem closedB_spec {listed : Array Bool} (h : closedB md ops listed = true) : ClosedL md ops listed := by
  intro k o ho hk e he hb
  unfold closedB at h
  rw [List.all_eq_true] at h
  have h1 := h k (List.mem_range.2 (Array.getElem?_eq_some_iff.1 ho).1)
  rw [ho, hk] at h1
  simp only [Bool.not_true, Bool.false_or, Option.map_some, Option.getD_some] at h1
  have h2 := Array.all_eq_true_iff_forall_mem.1 h1 e he
  rw [hb] at h2
  simpa using h2
theorem ClosedL.set {listed : Array Bool} {j : Nat} (h : ClosedL md ops listed) (hj : j ∈ Region.ready md ops listed) : ClosedL md ops (listed.setIfInBounds j true) := by
  intro k o ho hk e he hb
  by_cases hkj : j = k
  · subst hkj
    obtain ⟨_, o', ho', hall⟩ := mem_ready.1 hj
    rw [ho] at ho'
    cases ho'
    exact getD_set_true (hall e he hb)
  · rw [getD_set_ne true hkj] at hk
    exact getD_set_true (h k o ho hk e he hb)
/-- a chain of operations, each of which waits for the next -/
def waitsB (md : Region.Mode) (ops : Array Oper) : List Nat → Bool
  | x :: y :: rest => (((ops[x]?).map (·.after.any fun e => Region.binds md e && e.on == y)).getD false) && waitsB md ops (y :: rest)
  | _ => true
theorem waits_cons {x y : Nat} {rest : List Nat} (h : waitsB md ops (x :: y :: rest) = true) : (∃ o, ops[x]? = some o ∧ ∃ e ∈ o.after, Region.binds md e = true ∧ e.on = y) ∧ waitsB md ops (y :: rest) = true := by
  unfold waitsB at h
  rw [Bool.and_eq_true] at h
  refine ⟨?_, h.2⟩
  cases ho : ops[x]? with
  | none => rw [ho] at h; simp at h
  | some o =>
    rw [ho] at h
    simp only [Option.map_some, Option.getD_some] at h
    obtain ⟨e, he, hb⟩ := Array.any_eq_true'.1 h.1
    simp only [Bool.and_eq_true, beq_iff_eq] at hb
    exact ⟨o, rfl, e, he, hb.1, hb.2⟩
theorem getD_ft {l : Array Bool} {i : Nat} (h : l.getD i false = true) : l.getD i true = true := by
  rcases Nat.lt_or_ge i l.size with h' | h'
  · simp [h'] at h ⊢; exact h
  · simp [Array.getElem?_eq_none h'] at h
theorem listed_last {listed : Array Bool} (hc : ClosedL md ops listed) : ∀ (rest : List Nat) (y : Nat), listed.getD y false = true → waitsB md ops (y :: rest) = true → listed.getD ((y :: rest).getLast (by simp)) false = true
  | [], _, h, _ => h
  | z :: rest, y, h, hw => by
    obtain ⟨⟨o, ho, e, he, hb, hon⟩, hw2⟩ := waits_cons hw
    have h2 := hc y o ho (getD_ft h) e he hb
    rw [hon] at h2
    have h3 := listed_last hc rest z h2 hw2
    rw [List.getLast_cons (by simp)]
    exact h3
def lateB (md : Region.Mode) (ops : Array Oper) (L : Nat) (p : List Nat) (i : Nat) : Bool := !p.isEmpty && waitsB md ops (L :: p) && p.getLast? == some i
theorem late_not {listed : Array Bool} {p : List Nat} {i : Nat} (hc : ClosedL md ops listed) (h : lateB md ops L p i = true) (hi : listed.getD i true = false) : L ∉ Region.ready md ops listed := by
  intro hL
  unfold lateB at h
  simp only [Bool.and_eq_true, beq_iff_eq] at h
  obtain ⟨⟨h0, h1⟩, h2⟩ := h
  cases p with
  | nil => simp at h0
  | cons y rest =>
    obtain ⟨⟨o, ho, e, he, hb, hon⟩, hw⟩ := waits_cons h1
    obtain ⟨_, o', ho', hall⟩ := mem_ready.1 hL
    rw [ho] at ho'
    cases ho'
    have hy := hall e he hb
    rw [hon] at hy
    have hl := listed_last hc rest y hy hw
    rw [List.getLast?_eq_some_getLast (by simp)] at h2
    injection h2 with h2
    rw [h2] at hl
    rw [getD_ft hl] at hi
    cases hi

/-- what comes behind L in a list -/
def behind (L : Nat) : List Nat → List Nat
  | [] => []
  | x :: l => if x == L then l else behind L l
/-- every one of Ls waits for i, by the chain Ls ++ p -/
def lateAll (md : Region.Mode) (ops : Array Oper) (Ls p : List Nat) (i : Nat) : Bool := Ls.all fun L => lateB md ops L (behind L (Ls ++ p)) i
theorem lateAll_spec {p : List Nat} {i : Nat} (h : lateAll md ops Ls p i = true) (hL : L ∈ Ls) : lateB md ops L (behind L (Ls ++ p)) i = true := List.all_eq_true.1 h L hL
/-- none of the last ones has come up -/
def noneL (Ls : List Nat) (listed : Array Bool) : Bool := Ls.all fun L => !listed.getD L false
theorem noneL_set {listed : Array Bool} {j : Nat} (hj : j ∉ Ls) (h : noneL Ls listed = true) : noneL Ls (listed.setIfInBounds j true) = true := by
  unfold noneL at *
  rw [List.all_eq_true] at *
  intro L hL
  rw [getD_set_ne false (show j ≠ L from fun e => hj (e ▸ hL))]
  exact h L hL
theorem noneL_of {listed : Array Bool} {j : Nat} (h : noneL Ls (listed.setIfInBounds j true) = true) : noneL Ls listed = true := by
  unfold noneL at *
  rw [List.all_eq_true] at *
  intro L hL
  have h1 := h L hL
  cases hb : listed.getD L false with
  | false => rfl
  | true => rw [getD_set_true hb] at h1; exact h1
/-- whatever order is picked, and S holds as long as none of the last ones has come up -/
def wpAnyL (P : Program) (md : Region.Mode) (ops : Array Oper) (Q : Exit → Act → World → Prop) (S : World → Prop) (Ls : List Nat) : Nat → Array Bool → Act → World → Prop
  | 0, listed, a, w => Region.ready md ops listed = [] ∧ Q .normal a w
  | fuel + 1, listed, a, w =>
    (Region.ready md ops listed = [] → Q .normal a w) ∧
    ∀ i ∈ Region.ready md ops listed, wpOp P ops Q i (fun a' w' => (noneL Ls (listed.setIfInBounds i true) = true → S w') ∧ wpAnyL P md ops Q S Ls fuel (listed.setIfInBounds i true) a' w') a w
theorem wpAny_of_L : ∀ (fuel : Nat) (listed : Array Bool) (a : Act) (w : World), wpAnyL P md ops Q S Ls fuel listed a w → wpAny P md ops Q fuel listed a w
  | 0, _, _, _, h => h
  | fuel + 1, _, _, _, h => ⟨h.1, fun i hi => wpOp_mono (fun a' w' h' => wpAny_of_L fuel _ a' w' h'.2) (h.2 i hi)⟩

theorem wpAnyL_first {S0 : World → Prop} {i : Nat} {oi : Oper} {v : Value} (hi : ops[i]? = some oi) (hsel : ∀ (j : Nat) (o : Oper) cs b, ops[j]? = some o → o.op ≠ .select cs b)
    (hQ : ∀ c a w, Q (.panic c) (a.put oi.dst v) w → Q (.panic c) a w) (hiL : i ∉ Ls) (p : List Nat) (hor : (lateAll md ops Ls p i = true ∧ ∀ w, S w → S0 w) ∨ ∀ w, S0 w) :
    ∀ (fuel : Nat) (listed : Array Bool) (a : Act) (w : World), ClosedL md ops listed → (noneL Ls listed = true → S w) → ((∀ w, S0 w) ∨ noneL Ls listed = true) →
      (∀ j oj, ops[j]? = some oj → j ≠ i → listed.getD j true = false → (∀ e ∈ oj.after, Region.binds md e = true → e.on ≠ i) → oi.apart ops oj = true) →
      i ∈ Region.ready md ops listed → YieldsIf P ops S0 oi v a →
      wpAnyL P md ops Q S Ls fuel (listed.setIfInBounds i true) (a.put oi.dst v) w → wpAnyL P md ops Q S Ls (fuel + 1) listed a w := by
  have hS0 : ∀ (listed : Array Bool) (w : World), (noneL Ls listed = true → S w) → ((∀ w, S0 w) ∨ noneL Ls listed = true) → S0 w := fun listed w hS hn => by
    rcases hn with h | h
    · exact h w
    · rcases hor with h' | h'
      · exact h'.2 w (hS h)
      · exact h' w
  intro fuel
  induction fuel with
  | zero =>
    intro listed a w _ hS hn _ hr hy H
    refine ⟨fun h => (by rw [h] at hr; cases hr), fun j hj => ?_⟩
    by_cases hji : j = i
    · subst hji
      exact hy.wpOp hi (hS0 listed w hS hn) ⟨fun h => hS (noneL_of h), H⟩
    · have hm := ready_mono hj hji
      rw [H.1] at hm
      cases hm
  | succ fuel ih =>
    intro listed a w hc hS hn hfree hr hy H
    refine ⟨fun h => (by rw [h] at hr; cases hr), fun j hj => ?_⟩
    by_cases hji : j = i
    · subst hji
      exact hy.wpOp hi (hS0 listed w hS hn) ⟨fun h => hS (noneL_of h), H⟩
    · have hu := (mem_ready.1 hr).1
      have h1 := H.2 j (ready_mono hj hji)
      have hn' : (∀ w, S0 w) ∨ noneL Ls (listed.setIfInBounds j true) = true := by
        rcases hn with h | h
        · exact .inl h
        · rcases hor with h' | h'
          · exact .inr (noneL_set (fun e => late_not hc (lateAll_spec h'.1 e) hu hj) h)
          · exact .inl h'
      obtain ⟨hjun, oj, hoj, hall⟩ := mem_ready.1 hj
      have hnot : ∀ e ∈ oj.after, Region.binds md e = true → e.on ≠ i := fun e he hb heq => by
        have h2 := hall e he hb
        rw [heq] at h2
        rw [getD_ft h2] at hu
        cases hu
      have h2 := wpOp_putIf hoj (hfree j oj hoj hji hjun hnot) (fun cs b => hsel i oi cs b hi) (fun cs b => hsel j oj cs b hoj) hQ hy h1
      have hfree' : ∀ k ok, ops[k]? = some ok → k ≠ i → (listed.setIfInBounds j true).getD k true = false →
          (∀ e ∈ ok.after, Region.binds md e = true → e.on ≠ i) → oi.apart ops ok = true := fun k ok hk hki hun hno => by
        by_cases hjk : j = k
        · subst hjk
          exact hfree j ok hk hki hjun hno
        · rw [getD_set_ne true hjk] at hun
          exact hfree k ok hk hki hun hno
      refine wpOp_mono (fun a' w' h3 => ?_) h2
      have hS' : noneL Ls (listed.setIfInBounds j true) = true → S w' := fun h => h3.2.1 (by
        rw [Array.setIfInBounds_comm _ _ (Ne.symm hji)]
        exact noneL_set hiL h)
      refine ⟨hS', ih (listed.setIfInBounds j true) a' w' (hc.set hj) hS' hn' hfree' (ready_mono hr (Ne.symm hji)) h3.1 ?_⟩
      rw [Array.setIfInBounds_comm _ _ hji]
      exact h3.2.2

/-- a load: taken first, under S -/
theorem take_L {i : Nat} {oi : Oper} {d : Option Nat} {v : Value} {fuel : Nat} {listed : Array Bool} {a : Act} {w : World} (p : List Nat) (hL : lateAll md ops Ls p i = true) (hc : closedB md ops listed = true) (hn : noneL Ls listed = true) (hiL : Ls.contains i = false) (hi : ops[i]? = some oi) (hd : oi.dst = d)
    (hs : Region.noSelect ops = true) (hf : Region.free md ops listed i = true) (hr : (Region.ready md ops listed).contains i = true)
    (hQ : ∀ c a w, Q (.panic c) (a.put d v) w → Q (.panic c) a w) (hy : YieldsIf P ops S oi v a) (hS : S w)
    (h : wpAnyL P md ops Q S Ls fuel (listed.setIfInBounds i true) (a.put d v) w) : wpAnyL P md ops Q S Ls (fuel + 1) listed a w := by
  subst hd
  exact wpAnyL_first hi (Region.noSelect_spec hs) hQ (fun e => by simp [e] at hiL) p (.inl ⟨hL, fun _ h => h⟩) fuel listed a w (closedB_spec hc) (fun _ => hS) (.inr hn) (Region.free_spec hi hf) (by simpa using hr) hy h
/-- what yields in whatever world: taken first -/
theorem take_F {i : Nat} {oi : Oper} {d : Option Nat} {v : Value} {fuel : Nat} {listed : Array Bool} {a : Act} {w : World} (hc : closedB md ops listed = true) (hiL : Ls.contains i = false) (hi : ops[i]? = some oi) (hd : oi.dst = d)
    (hs : Region.noSelect ops = true) (hf : Region.free md ops listed i = true) (hr : (Region.ready md ops listed).contains i = true)
    (hQ : ∀ c a w, Q (.panic c) (a.put d v) w → Q (.panic c) a w) (hy : YieldsIf P ops (fun _ => True) oi v a) (hS : S w)
    (h : wpAnyL P md ops Q S Ls fuel (listed.setIfInBounds i true) (a.put d v) w) : wpAnyL P md ops Q S Ls (fuel + 1) listed a w := by
  subst hd
  exact wpAnyL_first (S0 := fun _ => True) hi (Region.noSelect_spec hs) hQ (fun e => by simp [e] at hiL) [] (.inr fun _ => trivial) fuel listed a w (closedB_spec hc) (fun _ => hS) (.inl fun _ => trivial) (Region.free_spec hi hf) (by simpa using hr) hy h
/-- the only operation that may come up; S is shown anew -/
theorem call_L {i : Nat} {o : Oper} {d : Option Nat} {fuel : Nat} {listed : Array Bool} {a : Act} {w : World} (ho : ops[i]? = some o) (hd : o.dst = d) (hr : Region.ready md ops listed = [i])
    (h : ∀ K' : Act → World → Prop, Shut (∀ a w, S w → (S w → wpAnyL P md ops Q S Ls fuel (listed.setIfInBounds i true) a w) → K' a w) → if Region.wanted o (yielded ops a.tmps) = true then Oper.wp P o a w K' Q else K' (a.put d undef) w) :
    wpAnyL P md ops Q S Ls (fuel + 1) listed a w := by
  subst hd
  refine ⟨fun h0 => absurd (h0.symm.trans hr) (by simp), fun j hj => ?_⟩
  rw [hr] at hj
  obtain rfl := List.mem_singleton.1 hj
  exact wpOp_step ho (fun K' hK => h K' (fun a w hS hW => hK a w ⟨fun _ => hS, hW hS⟩))
/-- two operations that may come up -/
theorem both_L {i j : Nat} {oi oj : Oper} {di dj : Option Nat} {fuel : Nat} {listed : Array Bool} {a : Act} {w : World} (hoi : ops[i]? = some oi) (hdi : oi.dst = di) (hoj : ops[j]? = some oj) (hdj : oj.dst = dj) (hr : Region.ready md ops listed = [i, j])
    (h1 : ∀ K' : Act → World → Prop, Shut (∀ a w, S w → (S w → wpAnyL P md ops Q S Ls fuel (listed.setIfInBounds i true) a w) → K' a w) → if Region.wanted oi (yielded ops a.tmps) = true then Oper.wp P oi a w K' Q else K' (a.put di undef) w)
    (h2 : ∀ K' : Act → World → Prop, Shut (∀ a w, S w → (S w → wpAnyL P md ops Q S Ls fuel (listed.setIfInBounds j true) a w) → K' a w) → if Region.wanted oj (yielded ops a.tmps) = true then Oper.wp P oj a w K' Q else K' (a.put dj undef) w) :
    wpAnyL P md ops Q S Ls (fuel + 1) listed a w := by
  subst hdi
  subst hdj
  refine ⟨fun h0 => absurd (h0.symm.trans hr) (by simp), fun k hk => ?_⟩
  rw [hr] at hk
  rcases List.mem_cons.1 hk with rfl | hk
  · exact wpOp_step hoi (fun K' hK => h1 K' (fun a w hS hW => hK a w ⟨fun _ => hS, hW hS⟩))
  · obtain rfl := List.mem_singleton.1 hk
    exact wpOp_step hoj (fun K' hK => h2 K' (fun a w hS hW => hK a w ⟨fun _ => hS, hW hS⟩))
/-- .. and S is not asked -/
theorem late_L {i : Nat} {o : Oper} {d : Option Nat} {fuel : Nat} {listed : Array Bool} {a : Act} {w : World} (hi : noneL Ls (listed.setIfInBounds i true) = false) (ho : ops[i]? = some o) (hd : o.dst = d) (hr : Region.ready md ops listed = [i])
    (h : ∀ K' : Act → World → Prop, Shut (∀ a w, wpAnyL P md ops Q S Ls fuel (listed.setIfInBounds i true) a w → K' a w) → if Region.wanted o (yielded ops a.tmps) = true then Oper.wp P o a w K' Q else K' (a.put d undef) w) :
    wpAnyL P md ops Q S Ls (fuel + 1) listed a w := by
  subst hd
  refine ⟨fun h0 => absurd (h0.symm.trans hr) (by simp), fun j hj => ?_⟩
  rw [hr] at hj
  obtain rfl := List.mem_singleton.1 hj
  exact wpOp_step ho (fun K' hK => h K' (fun a w hW => hK a w ⟨fun hne => absurd (hi.symm.trans hne) (by simp), hW⟩))
theorem done_L {listed : Array Bool} {a : Act} {w : World} (hr : Region.ready md ops listed = []) (h : Q .normal a w) : ∀ fuel, wpAnyL P md ops Q S Ls fuel listed a w
  | 0 => ⟨hr, h⟩
  | _ + 1 => ⟨fun _ => h, by rw [hr]; simp⟩
theorem wp_region_L {id : Nat} {a : Act} {w : World} (Ls : List Nat) (S : World → Prop) (hm : P.follows .mixedOrders = true) (hS : S w.drew)
    (h : S w.drew → wpAnyL P .any ops Q S Ls ops.size (Array.replicate ops.size false) a w.drew) : (Code.region id ops true).wp P Q a w :=
  wp_region_any hm (wpAny_of_L _ _ _ _ (h hS))
end
end Go.Proofs.YtepgfcjfdnakbaaDoor
/- Draws: a row of the call's own that grows while numbers are drawn; a text is spoilt (l01Spoil). -/
namespace Go.Proofs.YtepgfcjfdnakbaaDoor
open Go.RowKit Go.Joins

/-- in the world w, reached from W: the source g has done at most k draws, v is a row of the call's own, and of what was there only the source has turned -/
structure DrR (W w : World) (B g k : Nat) (bs : List UInt8) (e : TypeId) (sz : Nat) (v : Value) (n : Nat) (cs : List Value) : Prop where
  lt : g < W.heap.size
  src : SrcAt w B g k bs
  row : w.ownsRow W.heap.size e sz v n cs
  gr : W.grownBy w (some g)
theorem DrR.draw {W w w' : World} {B g k k' : Nat} {bs : List UInt8} {e : TypeId} {sz n : Nat} {v : Value} {cs : List Value} (h : DrR W w B g k bs e sz v n cs) (hs : SrcAt w' B g k' bs) (hg : w.grownBy w' (some g)) : DrR W w' B g k' bs e sz v n cs :=
  ⟨h.lt, hs, h.row.kept hg (by
    cases hv : v.ownBlock with
    | none => exact .inl rfl
    | some x => exact .inr fun e => by have := (h.row.lt x hv).1; have := h.lt; injection e; omega), grown_trans h.gr hg⟩
theorem DrR.below {W w w' : World} {B g k : Nat} {bs : List UInt8} {e : TypeId} {sz n : Nat} {v : Value} {cs : List Value} (h : DrR W w B g k bs e sz v n cs) (hb : Below w.heap.size w w') : DrR W w' B g k bs e sz v n cs :=
  ⟨h.lt, h.src.below hb, own_below h.row hb, grown_below h.gr hb⟩
theorem DrR.more {W w : World} {B g k k' : Nat} {bs : List UInt8} {e : TypeId} {sz n : Nat} {v : Value} {cs : List Value} (h : DrR W w B g k bs e sz v n cs) (hk : k ≤ k') : DrR W w B g k' bs e sz v n cs :=
  ⟨h.lt, h.src.more hk, h.row, h.gr⟩
theorem grownBy_row {W w w' : World} {g : Nat} {ob : Option Nat} (h : W.grownBy w (some g)) (hg : w.grownBy w' ob) (ho : ∀ x, ob = some x → W.heap.size ≤ x) : W.grownBy w' (some g) :=
  ⟨hg.os.trans h.os, hg.tape.trans h.tape, hg.output.trans h.output, Nat.le_trans h.size hg.size, fun i hi hne => (hg.block i (Nat.lt_of_lt_of_le hi h.size) (fun e => by have := ho i e.symm; omega)).trans (h.block i hi hne)⟩
theorem DrR.app {W w w' : World} {B g k : Nat} {bs : List UInt8} {e : TypeId} {sz n n' : Nat} {v v' : Value} {cs cs' : List Value} (h : DrR W w B g k bs e sz v n cs) (hr : w'.ownsRow W.heap.size e sz v' n' cs') (hg : w.grownBy w' v.ownBlock) : DrR W w' B g k bs e sz v' n' cs' :=
  ⟨h.lt, h.src.grown hg (fun x hx => Nat.lt_of_lt_of_le h.lt (h.row.lt x hx).1), hr, grownBy_row h.gr hg (fun x hx => (h.row.lt x hx).1)⟩
theorem DrR.drewN {W w : World} {B g k : Nat} {bs : List UInt8} {e : TypeId} {sz n : Nat} {v : Value} {cs : List Value} (h : DrR W w B g k bs e sz v n cs) (m : Nat) : DrR W (w.drewN m) B g k bs e sz v n cs :=
  ⟨h.lt, h.src.drewN m, h.row.drewN m, grown_below h.gr (below_drewN (Below.refl _ _) m)⟩
theorem DrR.size {W w : World} {B g k : Nat} {bs : List UInt8} {e : TypeId} {sz n : Nat} {v : Value} {cs : List Value} (h : DrR W w B g k bs e sz v n cs) : W.heap.size ≤ w.heap.size := h.gr.size
theorem DrR.nil {W : World} {B g k : Nat} {bs : List UInt8} (h : SrcAt W B g k bs) (e : TypeId) (sz : Nat) : DrR W W B g k bs e sz (.slice none 0 0) 0 [] :=
  ⟨h.lt, h, ⟨by simp, .inl ⟨rfl, rfl⟩⟩, ⟨rfl, rfl, rfl, Nat.le_refl _, fun _ _ _ => rfl⟩⟩
theorem DrR.made {W : World} {B g k : Nat} {bs : List UInt8} (h : SrcAt W B g k bs) (e : TypeId) (sz : Nat) : DrR W (W.alloc (.cells #[] e)) B g k bs e sz (.slice (some ⟨W.heap.size, 0, none⟩) 0 0) 0 [] :=
  have hb := (Below.refl W.heap.size W).alloc (Nat.le_refl _) (.cells #[] e)
  ⟨h.lt, h.below hb, World.ownsRow_made (base := W.heap.size) (e := e) (size := sz) W #[] 0 (Nat.le_refl _) (by simp [maxLen]) (by simp), grown_of_below hb _⟩
/-- what a later call sees: the row's owner has gone on -/
theorem DrR.from {W W' w : World} {B g k : Nat} {bs : List UInt8} {e : TypeId} {sz n : Nat} {v : Value} {cs : List Value} (h : DrR W' w B g k bs e sz v n cs) (hg : W.grownBy W' (some g)) (hl : g < W.heap.size) : DrR W w B g k bs e sz v n cs :=
  ⟨hl, h.src, ownsRow_le h.row hg.size, grown_trans hg h.gr⟩

set_option maxRecDepth 100000 in
set_option maxHeartbeats 400000 in
theorem text_in (B g k b m : Nat) (l : List ByteArray) (bs : List UInt8) (w : World) (h : SrcAt w B g k bs) (hk : k < 4611686018427387800) (hm : l.length = m) (hm2 : 2 ≤ m) (hm3 : m ≤ 200) (hb : b ≠ g) (hbl : b < w.heap.size)
    (hc : ∀ i (hi : i < l.length), w.cell? ⟨b, i, none⟩ = some (.string l[i])) :
    Calls Tryd.prog 74 #[.pointer (some ⟨g, 0, none⟩), .slice (some ⟨b, 0, none⟩) m m] w fun e w' => ∃ z, z ∈ l ∧ e = .returned (.string z) ∧ SrcAt w' B g (k + 2) bs ∧ w.grownBy w' (some g) := by
  have H := Lib.hid h; clear h
  have Hc := Lib.hid hc; clear hc
  have hm4 : (m : Int) ≤ 200 := by omega
  go_enter Tryd.func74, Tryd.ntmps74
  go_wp2_with fail
  refine (pick_any B g k bs m _ H.out (by omega)).mono ?_; rintro e w1 ⟨x, rfl, ⟨hx0, hx1, _⟩, hs1, hg1⟩
  have Hs1 := Lib.hid hs1; clear hs1
  obtain ⟨i, rfl⟩ : ∃ i : Nat, x = i := ⟨x.toNat, by omega⟩
  have hx2 := hx1 (by omega)
  have hi : i < l.length := by omega
  have hcell := (World.cell?_of_block (a := ⟨b, i, none⟩) (hg1.block b hbl (fun e => hb (by injection e)))).trans (Hc.out i hi)
  have hmem := Lib.hid (List.getElem_mem hi)
  generalize l[i] = z at *
  clear hx1
  go_wp2_with fail
  go_ret
  exact ⟨z, hmem.out, rfl, Hs1.out, hg1⟩
theorem alloc_strs (w : World) (l : List ByteArray) (t : TypeId) : ∀ i (hi : i < l.length), (w.alloc (.cells (l.map Value.string).toArray t)).cell? ⟨w.heap.size, i, none⟩ = some (.string l[i]) := fun i hi => by
  have := new_cells w (l.map Value.string).toArray t i (.string l[i]) (by simp [hi])
  rwa [show (⟨w.heap.size, 0, none⟩ : Addr).add i = ⟨w.heap.size, i, none⟩ by unfold Addr.add; split <;> simp_all] at this
/-- .. from texts just laid out, in a region that draws its order -/
theorem text_new (B g k m : Nat) (l : List ByteArray) (bs : List UInt8) (w : World) (h : SrcAt w B g k bs) (hk : k < 4611686018427387800) (hm : l.length = m) (hm2 : 2 ≤ m) (hm3 : m ≤ 200) :
    Calls Tryd.prog 74 #[.pointer (some ⟨g, 0, none⟩), .slice (some ⟨w.heap.size, 0, none⟩) m m] (w.alloc (.cells (l.map Value.string).toArray 9)) fun e w' => ∃ z, z ∈ l ∧ e = .returned (.string z) ∧ SrcAt w' B g (k + 2) bs ∧ w.grownBy w' (some g) := by
  have hlt := h.lt
  refine (text_in B g k w.heap.size m l bs _ (h.below ((Below.refl w.heap.size w).alloc (Nat.le_refl _) _)) hk hm hm2 hm3 (by omega) (by simp) (alloc_strs w l _)).mono ?_
  rintro e w' ⟨z, h1, h2, h3, h4⟩
  exact ⟨z, h1, h2, h3, grown_from_alloc h4⟩
theorem text_newd (B g k m : Nat) (l : List ByteArray) (bs : List UInt8) (w : World) (h : SrcAt w B g k bs) (hk : k < 4611686018427387800) (hm : l.length = m) (hm2 : 2 ≤ m) (hm3 : m ≤ 200) :
    Calls Tryd.prog 74 #[.pointer (some ⟨g, 0, none⟩), .slice (some ⟨w.heap.size, 0, none⟩) m m] (w.alloc (.cells (l.map Value.string).toArray 9)).drew fun e w' => ∃ z, z ∈ l ∧ e = .returned (.string z) ∧ SrcAt w' B g (k + 2) bs ∧ w.grownBy w' (some g) := by
  have hlt := h.lt
  refine (text_in B g k w.heap.size m l bs _ (SrcAt.drew (h.below ((Below.refl w.heap.size w).alloc (Nat.le_refl _) _))) hk hm hm2 hm3 (by omega) (by simp) (fun i hi => alloc_strs w l 9 i hi)).mono ?_
  rintro e w' ⟨z, h1, h2, h3, h4⟩
  exact ⟨z, h1, h2, h3, grown_from_alloc (grown_undrew h4)⟩

theorem ne_some0 {s : ByteArray} (h : 0 < s.size) : s.toList.isEmpty = false := by
  rw [ByteArray.toList_eq, List.isEmpty_eq_false_iff]
  intro e
  have h1 : s.data.toList.length = s.size := by simp
  rw [e] at h1
  simp at h1; omega
theorem ne_none0 {s : ByteArray} (h : s.size = 0) : s.toList.isEmpty = true := by
  rw [ByteArray.toList_eq, List.isEmpty_iff]
  exact List.eq_nil_of_length_eq_zero (by simpa using h)
def spoilL : List ByteArray := [⟨#[32]⟩, ⟨#[48]⟩, ⟨#[45]⟩, ⟨#[120]⟩, ⟨#[49]⟩, ⟨#[57]⟩, ⟨#[46]⟩]
theorem spoilL_one : ∀ z ∈ spoilL, z.size = 1 := by decide
def RetSp (w : World) (B g k : Nat) (bs : List UInt8) (n : Nat) (e : Ending) (w' : World) : Prop := ∃ z : ByteArray, e = .returned (.string z) ∧ z.size ≤ n ∧ SrcAt w' B g k bs ∧ w.grownBy w' (some g)

set_option maxRecDepth 100000 in
set_option maxHeartbeats 1600000 in
theorem spoil_any (B g k : Nat) (bs : List UInt8) (t : ByteArray) (w : World) (h : SrcAt w B g k bs) (hk : k < 4611686018427380000) (ht : t.size ≤ 1073741824) :
    Calls Tryd.prog 68 #[.pointer (some ⟨g, 0, none⟩), .string t] w (RetSp w B g (k + 6) bs (t.size + 1)) := by
  have H := Lib.hid h; clear h
  go_enter Tryd.func68, Tryd.ntmps68
  go_wp2_with fail
  refine (pick_any B g k bs 5 _ H.out (by omega)).mono ?_; rintro e w1 ⟨x, rfl, ⟨hx0, hx1, _⟩, hs1, hg1⟩
  have Hs1 := Lib.hid hs1
  have Hg1 := Lib.hid hg1
  clear hs1 hg1 hx1 H
  by_cases e0 : x = 0
  · subst e0
    go_wp2_with fail
    refine (pick_any B g (k + 2) bs _ _ Hs1.out (by omega)).mono ?_; rintro e w2 ⟨y, rfl, ⟨hy0, hy1, hy2⟩, hs2, hg2⟩
    have Hs2 := Lib.hid hs2
    have Hg2 := Lib.hid (grown_trans Hg1.out hg2)
    obtain ⟨i, rfl⟩ : ∃ i : Nat, y = i := ⟨y.toNat, by omega⟩
    have hi : (i : Int) ≤ (t.size : Int) := by
      by_cases h1 : t.size = 0
      · have := hy2 (by omega); omega
      · have := hy1 (by omega); omega
    have hi2 : i ≤ t.size := by omega
    have hp1 : (t.extract 0 i).size = i := by rw [ByteArray.size_extract]; omega
    have hp2 : (t.extract i t.size).size = t.size - i := by rw [ByteArray.size_extract]; omega
    have Hp1 := Lib.hid hp1
    have Hp2 := Lib.hid hp2
    have hq1 : (t.extract 0 i).size ≤ 1073741824 := by omega
    have hq2 : (t.extract i t.size).size ≤ 1073741824 := by omega
    clear hs2 hg2 hy1 hy2 Hs1 Hg1 hp1 hp2
    go_wp2_with fail
    refine wp_region_noPanic ?_
    refine wp_region_L [] (fun _ => True) (by kernel_rfl) (trivial) (fun hHeld => ?_)
    refine take_F (i := 0) (d := some 16) (v := ?_) (by kernel_rfl) (by kernel_rfl) rfl rfl (by kernel_rfl) (by kernel_rfl) (by kernel_rfl) (fun _ _ _ h => h) (Or.inl ⟨by rfl, ?_⟩) (by assumption) ?_
    rotate_left
    · (intro w hSw; (try dsimp only at hSw); go_simp; (try rw [if_neg (by omega)]); (try (with_reducible rfl)))
    simp only [Act.put, List.setIfInBounds_toArray, List.set_cons_zero, List.set_cons_succ]
    refine take_F (i := 1) (d := some 17) (v := ?_) (by kernel_rfl) (by kernel_rfl) rfl rfl (by kernel_rfl) (by kernel_rfl) (by kernel_rfl) (fun _ _ _ h => h) (Or.inl ⟨by rfl, ?_⟩) (by assumption) ?_
    rotate_left
    · (intro w hSw; (try dsimp only at hSw); go_simp; (try rw [if_neg (by omega)]); (try (with_reducible rfl)))
    simp only [Act.put, List.setIfInBounds_toArray, List.set_cons_zero, List.set_cons_succ]
    refine take_F (i := 2) (d := some 18) (v := ?_) (by kernel_rfl) (by kernel_rfl) rfl rfl (by kernel_rfl) (by kernel_rfl) (by kernel_rfl) (fun _ _ _ h => h) (Or.inl ⟨by rfl, ?_⟩) (by assumption) ?_
    rotate_left
    · (intro w hSw; (try dsimp only at hSw); go_simp; (try rw [if_neg (by omega)]); (try (with_reducible rfl)))
    simp only [Act.put, List.setIfInBounds_toArray, List.set_cons_zero, List.set_cons_succ]
    refine take_F (i := 3) (d := some 19) (v := ?_) (by kernel_rfl) (by kernel_rfl) rfl rfl (by kernel_rfl) (by kernel_rfl) (by kernel_rfl) (fun _ _ _ h => h) (Or.inl ⟨by rfl, ?_⟩) (by assumption) ?_
    rotate_left
    · (intro w hSw; (try dsimp only at hSw); go_simp; (try rw [if_neg (by omega)]); (try (with_reducible rfl)))
    simp only [Act.put, List.setIfInBounds_toArray, List.set_cons_zero, List.set_cons_succ]
    refine take_F (i := 7) (d := some 23) (v := ?_) (by kernel_rfl) (by kernel_rfl) rfl rfl (by kernel_rfl) (by kernel_rfl) (by kernel_rfl) (fun _ _ _ h => h) (Or.inl ⟨by rfl, ?_⟩) (by assumption) ?_
    rotate_left
    · (intro w hSw; (try dsimp only at hSw); go_simp; (try rw [if_neg (by omega)]); (try (with_reducible rfl)))
    simp only [Act.put, List.setIfInBounds_toArray, List.set_cons_zero, List.set_cons_succ]
    refine take_F (i := 8) (d := some 24) (v := ?_) (by kernel_rfl) (by kernel_rfl) rfl rfl (by kernel_rfl) (by kernel_rfl) (by kernel_rfl) (fun _ _ _ h => h) (Or.inl ⟨by rfl, ?_⟩) (by assumption) ?_
    rotate_left
    · (intro w hSw; (try dsimp only at hSw); go_simp; (try rw [if_neg (by omega)]); (try (with_reducible rfl)))
    simp only [Act.put, List.setIfInBounds_toArray, List.set_cons_zero, List.set_cons_succ]
    refine take_F (i := 9) (d := some 25) (v := ?_) (by kernel_rfl) (by kernel_rfl) rfl rfl (by kernel_rfl) (by kernel_rfl) (by kernel_rfl) (fun _ _ _ h => h) (Or.inl ⟨by rfl, ?_⟩) (by assumption) ?_
    rotate_left
    · (intro w hSw; (try dsimp only at hSw); go_simp; (try rw [if_neg (by omega)]); (try (with_reducible rfl)))
    simp only [Act.put, List.setIfInBounds_toArray, List.set_cons_zero, List.set_cons_succ]
    refine call_L (i := 4) (d := (some 20)) rfl rfl (by kernel_rfl) (fun Kq hKq => ?_)
    go_simp
    refine hKq.out _ _ (trivial) (fun hHeld => ?_)
    clear hKq Kq
    (try simp only [Act.put, List.setIfInBounds_toArray, List.set_cons_zero, List.set_cons_succ])
    refine call_L (i := 5) (d := (some 21)) rfl rfl (by kernel_rfl) (fun Kq hKq => ?_)
    go_simp
    go_at_call 74
    refine (text_newd B g _ 7 spoilL bs w2 Hs2.out (by omega) rfl (by omega) (by omega)).mono ?_; rintro e w5 ⟨z, hz, rfl, hs5, hg5⟩
    have hz1 := spoilL_one z hz
    have Hz := Lib.hid hz1
    have hzl : z.size ≤ 1 := by omega
    have Hs5 := Lib.hid hs5
    have Hg5 := Lib.hid (grown_trans Hg2.out hg5)
    have hz3 : (t.extract 0 i ++ z).size ≤ 1073741825 := by rw [ByteArray.size_append]; omega
    clear hz hz1 hs5 hg5
    (try go_wp2_with fail)
    refine hKq.out _ _ (trivial) (fun hHeld => ?_)
    clear hKq Kq
    (try simp only [Act.put, List.setIfInBounds_toArray, List.set_cons_zero, List.set_cons_succ])
    refine take_F (i := 6) (d := some 22) (v := ?_) (by kernel_rfl) (by kernel_rfl) rfl rfl (by kernel_rfl) (by kernel_rfl) (by kernel_rfl) (fun _ _ _ h => h) (Or.inl ⟨by rfl, ?_⟩) (by assumption) ?_
    rotate_left
    · (intro w hSw; (try dsimp only at hSw); go_simp; (try rw [if_neg (by omega)]); (try (with_reducible rfl)))
    simp only [Act.put, List.setIfInBounds_toArray, List.set_cons_zero, List.set_cons_succ]
    refine take_F (i := 10) (d := some 26) (v := ?_) (by kernel_rfl) (by kernel_rfl) rfl rfl (by kernel_rfl) (by kernel_rfl) (by kernel_rfl) (fun _ _ _ h => h) (Or.inl ⟨by rfl, ?_⟩) (by assumption) ?_
    rotate_left
    · (intro w hSw; (try dsimp only at hSw); go_simp; (try rw [if_neg (by omega)]); (try (with_reducible rfl)))
    simp only [Act.put, List.setIfInBounds_toArray, List.set_cons_zero, List.set_cons_succ]
    refine take_F (i := 11) (d := some 1) (v := ?_) (by kernel_rfl) (by kernel_rfl) rfl rfl (by kernel_rfl) (by kernel_rfl) (by kernel_rfl) (fun _ _ _ h => h) (Or.inl ⟨by rfl, ?_⟩) (by assumption) ?_
    rotate_left
    · (intro w hSw; (try dsimp only at hSw); go_simp; (try rw [if_neg (by omega)]); (try (with_reducible rfl)))
    simp only [Act.put, List.setIfInBounds_toArray, List.set_cons_zero, List.set_cons_succ]
    refine done_L (by kernel_rfl) ?_ _
    refine NoPanic.normal ?_
    go_wp2_with fail
    go_ret
    exact ⟨_, rfl, by rw [ByteArray.size_append, ByteArray.size_append, Hp1.out, Hp2.out]; omega, Hs5.out.more (by omega), Hg5.out⟩
  · have hb0 : (x == 0) = false := by simpa using e0
    by_cases e1 : x = 1
    · subst e1
      by_cases ht0 : t.size = 0
      · have hn := ne_none0 ht0
        go_wp2_with fail
        go_ret
        exact ⟨t, rfl, by omega, Hs1.out.more (by omega), Hg1.out⟩
      · have hn := ne_some0 (s := t) (by omega)
        go_wp2_with fail
        refine (pick_any B g (k + 2) bs _ _ Hs1.out (by omega)).mono ?_; rintro e w2 ⟨y, rfl, ⟨hy0, hy1, hy2⟩, hs2, hg2⟩
        have Hs2 := Lib.hid hs2
        have Hg2 := Lib.hid (grown_trans Hg1.out hg2)
        obtain ⟨i, rfl⟩ : ∃ i : Nat, y = i := ⟨y.toNat, by omega⟩
        have hi : (i : Int) + 1 ≤ (t.size : Int) := by
          by_cases h1 : t.size = 1
          · have := hy2 (by omega); omega
          · have := hy1 (by omega); omega
        have hi3 : (i : Int) ≤ (t.size : Int) := by omega
        have hp1 : (t.extract 0 i).size = i := by rw [ByteArray.size_extract]; omega
        have hp2 : (t.extract (i + 1) t.size).size = t.size - (i + 1) := by rw [ByteArray.size_extract]; omega
        have Hp1 := Lib.hid hp1
        have Hp2 := Lib.hid hp2
        have hq1 : (t.extract 0 i).size ≤ 1073741824 := by omega
        have hq2 : (t.extract (i + 1) t.size).size ≤ 1073741824 := by omega
        have hw : IntKind.i64.wrap ((i : Int) + 1) = (i : Int) + 1 := IntWalk.i64_in _ (by omega)
        have hw0 : (0 : Int) ≤ (i : Int) + 1 := by omega
        have hw1 : ((i : Int) + 1).toNat = i + 1 := by omega
        clear hs2 hg2 hy1 hy2 Hs1 Hg1 hp1 hp2
        go_wp2_with fail
        go_quiet (fail)
        go_wp2_with fail
        go_ret
        exact ⟨_, rfl, by rw [ByteArray.size_append, Hp1.out, Hp2.out]; omega, SrcAt.drewN (Hs2.out.more (by omega)) _, grown_below Hg2.out (below_drewN (Below.refl _ _) _)⟩
    · have hb1 : (x == 1) = false := by simpa using e1
      go_wp2_with fail
      go_ret
      exact ⟨t, rfl, by omega, Hs1.out.more (by omega), Hg1.out⟩
end Go.Proofs.YtepgfcjfdnakbaaDoor
/- Inventories, part 28: lists of pieces that are drawn. -/
namespace Go.Proofs.YtepgfcjfdnakbaaDoor
open Go.RowKit Go.Joins

/-- what the text's numbers ask -/
def NmOk (xs : List Pc) (n : Nat) : Prop := ∀ k, k < n → (0 ≤ (pg xs k).each ∧ (pg xs k).each ≤ 1000000000) ∧ 0 ≤ (pg xs k).price ∧ (pg xs k).price ≤ 1000000000
/-- a list whose text can be made -/
structure GoodP (xs : List Pc) : Prop where
  shp : Shp xs xs.length
  nm : NmOk xs xs.length
theorem GoodP.nil : GoodP [] := ⟨⟨fun h => by simp at h, fun k _ h => by simp at h, fun k h => by simp at h⟩, fun k h => by simp at h⟩
theorem pg_left (xs : List Pc) (x : Pc) {k : Nat} (h : k < xs.length) : pg (xs ++ [x]) k = pg xs k := getD_left _ _ _ _ h
theorem pg_last (xs : List Pc) (x : Pc) : pg (xs ++ [x]) xs.length = x := getD_last _ _ _
theorem GoodP.snoc {xs : List Pc} {x : Pc} (h : GoodP xs) (h0 : xs.length = 0 → x.par = -1) (h1 : 0 < xs.length → 0 ≤ x.par ∧ x.par < (xs.length : Int)) (he : 1 ≤ x.each ∧ x.each ≤ 100) (hq : 0 ≤ x.price ∧ x.price ≤ 1000000000) : GoodP (xs ++ [x]) := by
  have hl : (xs ++ [x]).length = xs.length + 1 := by simp
  refine ⟨⟨fun _ => ?_, fun k hk0 hk => ?_, fun k hk => ?_⟩, fun k hk => ?_⟩
  · by_cases e : xs.length = 0
    · have := pg_last xs x
      rw [e] at this
      rw [this]
      exact h0 e
    · rw [pg_left xs x (by omega)]
      exact h.shp.par0 (by omega)
  · by_cases e : k = xs.length
    · rw [e, pg_last]
      exact h1 (by omega)
    · rw [pg_left xs x (by omega)]
      exact h.shp.par k hk0 (by omega)
  · by_cases e : k = xs.length
    · rw [e, pg_last]
      exact he
    · rw [pg_left xs x (by omega)]
      exact h.shp.each k (by omega)
  · by_cases e : k = xs.length
    · rw [e, pg_last]
      exact ⟨by omega, hq⟩
    · rw [pg_left xs x (by omega)]
      exact h.nm k (by omega)
/-- a drawn list of pieces -/
structure DrC (W w : World) (B g k : Nat) (bs : List UInt8) (v : Value) (xs : List Pc) : Prop where
  dr : DrR W w B g k bs 46 4 v xs.length (xs.flatMap cellsP)
  len : xs.length ≤ 62
  sm : ∀ x ∈ xs, x.name.size ≤ 16
  nn : ∃ b c, v = .slice (some ⟨b, 0, none⟩) xs.length c
theorem DrC.draw {W w w' : World} {B g k k' : Nat} {bs : List UInt8} {v : Value} {xs : List Pc} (h : DrC W w B g k bs v xs) (hs : SrcAt w' B g k' bs) (hg : w.grownBy w' (some g)) : DrC W w' B g k' bs v xs := ⟨h.dr.draw hs hg, h.len, h.sm, h.nn⟩
theorem DrC.more {W w : World} {B g k k' : Nat} {bs : List UInt8} {v : Value} {xs : List Pc} (h : DrC W w B g k bs v xs) (hk : k ≤ k') : DrC W w B g k' bs v xs := ⟨h.dr.more hk, h.len, h.sm, h.nn⟩
theorem DrC.below {W w w' : World} {B g k : Nat} {bs : List UInt8} {v : Value} {xs : List Pc} (h : DrC W w B g k bs v xs) (hb : Below w.heap.size w w') : DrC W w' B g k bs v xs := ⟨h.dr.below hb, h.len, h.sm, h.nn⟩
theorem DrC.drew {W w : World} {B g k : Nat} {bs : List UInt8} {v : Value} {xs : List Pc} (h : DrC W w B g k bs v xs) : DrC W w.drew B g k bs v xs := ⟨h.dr.drewN 1, h.len, h.sm, h.nn⟩
theorem DrC.from {W W' w : World} {B g k : Nat} {bs : List UInt8} {v : Value} {xs : List Pc} (h : DrC W' w B g k bs v xs) (hg : W.grownBy W' (some g)) (hl : g < W.heap.size) : DrC W w B g k bs v xs := ⟨h.dr.from hg hl, h.len, h.sm, h.nn⟩
theorem DrC.rd {W w : World} {B g k : Nat} {bs : List UInt8} {v : Value} {xs : List Pc} (h : DrC W w B g k bs v xs) : RdP w w.heap.size v xs := Rd.of_own h.dr.row
theorem DrC.sz {W w : World} {B g k : Nat} {bs : List UInt8} {v : Value} {xs : List Pc} (h : DrC W w B g k bs v xs) : szP xs := fun i hi => by
  rw [pg_at hi]
  exact Nat.le_trans (h.sm _ (List.getElem_mem hi)) (by omega)
/-- .. and a piece under way in block q -/
structure PcQ (W w : World) (B g k : Nat) (bs : List UInt8) (v : Value) (xs : List Pc) (q : Nat) (a b c d : Value) : Prop extends DrC W w B g k bs v xs where
  hq : w.heap[q]? = some (.cells #[a, b, c, d] 46 (0, 0))
  rq : W.heap.size ≤ q
  ne : v.ownBlock ≠ some q
theorem PcQ.draw {W w w' : World} {B g k k' q : Nat} {bs : List UInt8} {v a b c d : Value} {xs : List Pc} (h : PcQ W w B g k bs v xs q a b c d) (hs : SrcAt w' B g k' bs) (hg : w.grownBy w' (some g)) : PcQ W w' B g k' bs v xs q a b c d :=
  ⟨h.toDrC.draw hs hg, (hg.block q (Array.getElem?_eq_some_iff.1 h.hq).1 (fun e => by have := h.dr.lt; have := h.rq; injection e; omega)).trans h.hq, h.rq, h.ne⟩
theorem PcQ.drew {W w : World} {B g k q : Nat} {bs : List UInt8} {v a b c d : Value} {xs : List Pc} (h : PcQ W w B g k bs v xs q a b c d) : PcQ W w.drew B g k bs v xs q a b c d := ⟨h.toDrC.drew, h.hq, h.rq, h.ne⟩
theorem PcQ.new {W w : World} {B g k : Nat} {bs : List UInt8} {v : Value} {xs : List Pc} (h : DrC W w B g k bs v xs) (a b c d : Value) : PcQ W (w.alloc (.cells #[a, b, c, d] 46)) B g k bs v xs w.heap.size a b c d :=
  ⟨h.below ((Below.refl w.heap.size w).alloc (Nat.le_refl _) _), heap_alloc_new w _, h.dr.size, fun e => Nat.lt_irrefl _ (h.dr.row.lt _ e).2⟩
theorem PcQ.set {W w : World} {B g k q : Nat} {bs : List UInt8} {v a b c d : Value} {xs : List Pc} (h : PcQ W w B g k bs v xs q a b c d) (i : Nat) (u : Value) {cs : Array Value} (hc : (#[a, b, c, d] : Array Value).setIfInBounds i u = cs) {a' b' c' d' : Value} (he : cs = #[a', b', c', d']) : PcQ W (w.setCell ⟨q, i, none⟩ u) B g k bs v xs q a' b' c' d' := by
  have h1 := heap_setCell_same w q i _ _ u h.hq
  rw [hc, he] at h1
  have hg : w.grownBy (w.setCell ⟨q, i, none⟩ u) (some q) := grown_setCell (a := w) (p := ⟨q, i, none⟩) ⟨rfl, rfl, rfl, Nat.le_refl _, fun _ _ _ => rfl⟩ (.inl rfl) u
  have hlt := h.dr.lt
  refine ⟨⟨⟨hlt, h.dr.src.grown hg (fun x hx => by cases hx; exact Nat.lt_of_lt_of_le hlt h.rq), ownsRow_setCell_other h.dr.row (a := ⟨q, i, none⟩) h.ne u, grownBy_row h.dr.gr hg (fun x hx => by cases hx; exact h.rq)⟩, h.len, h.sm, h.nn⟩, h1, h.rq, h.ne⟩
abbrev put4P (w : World) (r : Nat) (a b c d : Value) : World := (((w.setCell ⟨r, 0, none⟩ a).setCell ⟨r, 1, none⟩ b).setCell ⟨r, 2, none⟩ c).setCell ⟨r, 3, none⟩ d
theorem PcQ.put {W w : World} {B g k q : Nat} {bs : List UInt8} {v a b c d : Value} {xs : List Pc} (h : PcQ W w B g k bs v xs q a b c d) (a' b' c' d' : Value) : PcQ W (put4P w q a' b' c' d') B g k bs v xs q a' b' c' d' :=
  (((h.set 0 a' rfl rfl).set 1 b' rfl rfl).set 2 c' rfl rfl).set 3 d' rfl rfl
/-- the piece comes to the list's end -/
theorem DrC.snoc {W w w' : World} {B g k : Nat} {bs : List UInt8} {v v' : Value} {xs : List Pc} {x : Pc} (h : DrC W w B g k bs v xs) (hl : xs.length < 62) (hx : x.name.size ≤ 16)
    (hr : w'.ownsRow W.heap.size 46 4 v' (xs.length + 1) (xs.flatMap cellsP ++ (#[Value.string x.name, .int .i64 x.par, .int .i64 x.each, .int .i64 x.price] : Array Value).toList)) (hg : w.grownBy w' v.ownBlock) :
    ∃ zs, zs.length = xs.length + 1 ∧ zs = xs ++ [x] ∧ DrC W w' B g k bs v' zs := by
  have e : xs.flatMap cellsP ++ (#[Value.string x.name, .int .i64 x.par, .int .i64 x.each, .int .i64 x.price] : Array Value).toList = (xs ++ [x]).flatMap cellsP := by
    rw [List.flatMap_append]; simp [cellsP]
  rw [e] at hr
  have hlen : (xs ++ [x]).length = xs.length + 1 := by simp
  refine ⟨_, hlen, rfl, ⟨h.dr.app (by rw [hlen]; exact hr) hg, by rw [hlen]; omega, fun y hy => ?_, ?_⟩⟩
  · rcases List.mem_append.1 hy with hy | hy
    · exact h.sm y hy
    · rw [List.mem_singleton.1 hy]; exact hx
  · obtain ⟨b, c, hv, _⟩ := own_posC hr (by omega)
    exact ⟨b, c, by rw [hv, hlen]⟩
def RetDd (w : World) (B g k : Nat) (bs : List UInt8) (e : Ending) (w' : World) : Prop := ∃ v xs, e = .returned v ∧ 1 ≤ xs.length ∧ xs.length ≤ 10 ∧ GoodP xs ∧ DrC w w' B g k bs v xs
def RetDc (w : World) (B g k : Nat) (bs : List UInt8) (e : Ending) (w' : World) : Prop := ∃ v xs, e = .returned v ∧ DrC w w' B g k bs v xs
def pcL : List ByteArray := [⟨#[109, 97, 99, 104, 105, 110, 101]⟩, ⟨#[100, 114, 117, 109]⟩, ⟨#[119, 104, 101, 101, 108]⟩, ⟨#[108, 101, 118, 101, 114]⟩, ⟨#[97, 120, 108, 101]⟩, ⟨#[116, 111, 111, 116, 104]⟩, ⟨#[115, 112, 114, 105, 110, 103]⟩, ⟨#[98, 101, 108, 108]⟩, ⟨#[99, 114, 97, 110, 107]⟩, ⟨#[112, 105, 110]⟩]
theorem pcL_sz : ∀ z ∈ pcL, z.size ≤ 16 := by decide
end Go.Proofs.YtepgfcjfdnakbaaDoor
/- Numbers read from texts, part 6: a decimal form is read back. -/
namespace Go.Proofs.YtepgfcjfdnakbaaDoor

theorem dgt_ok (d : Nat) (h : d < 10) : isDg (UInt8.ofNat (48 + d)) = true ∧ (UInt8.ofNat (48 + d)).toNat - 48 = d ∧ UInt8.ofNat (48 + d) ≠ 45 := by
  have hh : ∀ m : Fin 10, isDg (UInt8.ofNat (48 + m.1)) = true ∧ (UInt8.ofNat (48 + m.1)).toNat - 48 = m.1 ∧ UInt8.ofNat (48 + m.1) ≠ 45 := by decide
  exact hh ⟨d, h⟩
theorem dec_facts (u : Nat) : (∀ c ∈ Lib.decDigits u, isDg c = true ∧ c ≠ 45) ∧ numVN (Lib.decDigits u) = u := by
  induction u using Nat.strongRecOn with
  | _ u ih =>
    by_cases h : u < 10
    · rw [Lib.decDigits, dif_pos h]
      obtain ⟨h1, h2, h3⟩ := dgt_ok u h
      refine ⟨fun c hc => ?_, ?_⟩
      · rw [List.mem_singleton.1 hc]; exact ⟨h1, h3⟩
      · show 10 * 0 + ((UInt8.ofNat (48 + u)).toNat - 48) = u
        omega
    · rw [Lib.decDigits, dif_neg h]
      obtain ⟨h1, h2, h3⟩ := dgt_ok (u % 10) (Nat.mod_lt _ (by omega))
      obtain ⟨k1, k2⟩ := ih (u / 10) (by omega)
      refine ⟨fun c hc => ?_, ?_⟩
      · rcases List.mem_append.1 hc with hc | hc
        · exact k1 c hc
        · rw [List.mem_singleton.1 hc]; exact ⟨h1, h3⟩
      · rw [numVN_snoc, k2, h2]; omega
theorem nDig18 (u : Nat) (h : u < 1000000000000000000) : 1 ≤ Lib.nDigits u ∧ Lib.nDigits u ≤ 18 := by
  refine ⟨Lib.nDigits_pos u, ?_⟩
  by_cases h0 : u < 10
  · rw [Lib.nDigits_small h0]; omega
  · rcases Nat.lt_or_ge 18 (Lib.nDigits u) with hl | hg
    · exfalso
      have key : ∀ (k v : Nat), v < 10 ^ (k + 1) → Lib.nDigits v ≤ k + 1 := by
        intro k
        induction k with
        | zero => intro v hv; rw [Lib.nDigits_small (by simpa using hv)]; omega
        | succ k ih =>
          intro v hv
          by_cases hs : v < 10
          · rw [Lib.nDigits_small hs]; omega
          · rw [Lib.nDigits_big hs]
            have := ih (v / 10) (by rw [Nat.pow_succ] at hv; omega)
            omega
      have := key 17 u h
      omega
    · exact hg
theorem readN_decS (a : Int) (h0 : -1000000000000000000 < a) (h1 : a < 1000000000000000000) : readN (decS a) = some a := by
  by_cases hn : a < 0
  · obtain ⟨u, hu⟩ : ∃ u : Nat, a = -(u : Int) := ⟨(-a).toNat, by omega⟩
    obtain ⟨k1, k2⟩ := dec_facts u
    obtain ⟨d1, d2⟩ := nDig18 u (by omega)
    have hs : decS a = ⟨(45 :: Lib.decDigits u).toArray⟩ := by
      unfold decS Lib.itoa
      rw [if_pos hn, show a.natAbs = u by omega]
    have hb : bodyN (decS a) = ⟨(Lib.decDigits u).toArray⟩ := by
      unfold bodyN
      rw [hs, if_pos (by rfl)]
      apply ByteArray.ext
      rw [ByteArray.data_extract]
      simp [ByteArray.size]
    have hz : (bodyN (decS a)).size = Lib.nDigits u := by rw [hb, ← Lib.decDigits_length]; simp [ByteArray.size]
    have hzz : (decS a).size = Lib.nDigits u + 1 := by rw [hs, ← Lib.decDigits_length]; simp [ByteArray.size]
    have hv : valN (decS a) = a := by
      unfold valN
      rw [if_pos (by omega), hb]
      show -((numVN (Lib.decDigits u) : Nat) : Int) = a
      rw [k2]; exact hu.symm
    rw [readN_val (by omega) (by rw [hb]; exact fun c hc => (k1 c hc).1), hv, if_pos rfl]
  · obtain ⟨u, rfl⟩ : ∃ u : Nat, a = (u : Int) := ⟨a.toNat, by omega⟩
    obtain ⟨k1, k2⟩ := dec_facts u
    obtain ⟨d1, d2⟩ := nDig18 u (by omega)
    have hs : decS (u : Int) = ⟨(Lib.decDigits u).toArray⟩ := by
      unfold decS Lib.itoa
      rw [if_neg hn]; rfl
    have hh : (decS (u : Int)).data.toList.head? ≠ some 45 := by
      rw [hs]
      intro e
      have e2 : (Lib.decDigits u).head? = some 45 := e
      exact (k1 45 (List.mem_of_mem_head? e2)).2 rfl
    have hb : bodyN (decS (u : Int)) = decS (u : Int) := by unfold bodyN; rw [if_neg hh]
    have hz : (decS (u : Int)).size = Lib.nDigits u := by rw [hs, ← Lib.decDigits_length]; simp [ByteArray.size]
    have hv : valN (decS (u : Int)) = u := by
      unfold valN
      rw [hb, if_neg (by omega), hs]
      show ((numVN (Lib.decDigits u) : Nat) : Int) = u
      rw [k2]
    rw [readN_val (by rw [hb]; omega) (by rw [hb, hs]; exact fun c hc => (k1 c hc).1), hv, if_pos rfl]
end Go.Proofs.YtepgfcjfdnakbaaDoor
/- Texts that do not hold a byte; a text is cut at the byte where two were joined. -/
namespace Go.Proofs.YtepgfcjfdnakbaaDoor

/-- the text does not hold the byte -/
def hasNo (c : UInt8) (x : ByteArray) : Prop := ∀ b ∈ x.data.toList, b ≠ c
theorem hasNo_app {c : UInt8} {x y : ByteArray} (h : hasNo c x) (k : hasNo c y) : hasNo c (x ++ y) := fun b hb => by
  have h2 : (x ++ y).data.toList = x.data.toList ++ y.data.toList := by simp
  rw [h2] at hb
  rcases List.mem_append.1 hb with hb | hb
  · exact h b hb
  · exact k b hb
theorem fnd_hasNo {c : UInt8} {x : ByteArray} (h : hasNo c x) : fnd c x = x.size := by
  unfold fnd
  rw [List.findIdx_eq_length_of_false (fun b hb => by simpa using h b hb)]
  simp
theorem fnd_cut {c : UInt8} {x y : ByteArray} (h : hasNo c x) : fnd c (x ++ ⟨#[c]⟩ ++ y) = x.size := by
  have h := fnd_hasNo h
  unfold fnd at *
  have h2 : (x ++ ⟨#[c]⟩ ++ y).data.toList = x.data.toList ++ (c :: y.data.toList) := by simp
  have h3 : x.data.toList.length = x.size := by simp
  rw [h2, List.findIdx_append]
  have hn : ¬ List.findIdx (fun z => z == c) x.data.toList < x.data.toList.length := by rw [h, h3]; omega
  rw [if_neg hn, List.findIdx_cons]
  simp
theorem cut_parts {c : UInt8} {x y : ByteArray} (h : hasNo c x) : fnd c (x ++ ⟨#[c]⟩ ++ y) < (x ++ ⟨#[c]⟩ ++ y).size ∧ (x ++ ⟨#[c]⟩ ++ y).extract 0 (fnd c (x ++ ⟨#[c]⟩ ++ y)) = x ∧ (x ++ ⟨#[c]⟩ ++ y).extract (fnd c (x ++ ⟨#[c]⟩ ++ y) + 1) (x ++ ⟨#[c]⟩ ++ y).size = y := by
  rw [fnd_cut h]
  have h1 : (⟨#[c]⟩ : ByteArray).size = 1 := rfl
  refine ⟨by rw [ByteArray.size_append, ByteArray.size_append, h1]; omega, ?_, ?_⟩
  · rw [ByteArray.append_assoc]
    exact ByteArray.extract_append_eq_left rfl
  · exact ByteArray.extract_append_eq_right (by rw [ByteArray.size_append]; rfl) (by rw [ByteArray.size_append])
theorem splitB_cut {c : UInt8} {x y : ByteArray} (h : hasNo c x) : splitB c (x ++ ⟨#[c]⟩ ++ y) = x :: splitB c y := by
  obtain ⟨h1, h2, h3⟩ := cut_parts (y := y) h
  rw [splitB_yes h1, h2, h3]
theorem splitB_last {c : UInt8} {x : ByteArray} (h : hasNo c x) : splitB c x = [x] := splitB_no (by rw [fnd_hasNo h]; exact Nat.le_refl _)
theorem dec_no {a : Int} (h : 0 ≤ a) {c : UInt8} (hc : isDg c = false) : hasNo c (decS a) := by
  obtain ⟨u, rfl⟩ : ∃ u : Nat, a = (u : Int) := ⟨a.toNat, by omega⟩
  have hs : decS (u : Int) = ⟨(Lib.decDigits u).toArray⟩ := by
    unfold decS Lib.itoa
    rw [if_neg (by omega)]; rfl
  intro b hb e
  rw [hs] at hb
  have := ((dec_facts u).1 b (by simpa using hb)).1
  rw [e, hc] at this; cases this
theorem dec_noz (a : Int) {c : UInt8} (hc : isDg c = false) (h45 : c ≠ 45) : hasNo c (decS a) := by
  by_cases h : 0 ≤ a
  · exact dec_no h hc
  · obtain ⟨n, rfl⟩ : ∃ n : Nat, a = -(n : Int) := ⟨(-a).toNat, by omega⟩
    rw [decS_neg n (by omega)]
    refine hasNo_app ?_ ?_
    · intro b hb e
      have : b = 45 := by simpa using hb
      exact h45 (e.symm.trans this)
    · intro b hb e
      have := ((dec_facts n).1 b (by simpa using hb)).1
      rw [e, hc] at this; cases this
end Go.Proofs.YtepgfcjfdnakbaaDoor
/- Inventories, texts, part 3: the text of an inventory, in plain words. -/
namespace Go.Proofs.YtepgfcjfdnakbaaDoor
open Go.RowKit Go.Joins

/-- the name of the piece to which a piece belongs -/
def ofP (xs : List Pc) (k : Nat) : ByteArray := if (pg xs k).par < 0 then ⟨#[45]⟩ else (pg xs (pg xs k).par.toNat).name
def bodyP (xs : List Pc) (k : Nat) : ByteArray := (pg xs k).name ++ ⟨#[32]⟩ ++ ofP xs k ++ ⟨#[32]⟩ ++ decS (pg xs k).each ++ ⟨#[32]⟩ ++ decS (pg xs k).price
def lineP (xs : List Pc) (k : Nat) : ByteArray := bodyP xs k ++ ⟨#[10]⟩
def textP (xs : List Pc) : Nat → ByteArray
  | 0 => ⟨#[]⟩
  | k + 1 => textP xs k ++ lineP xs k
/-- the text of a list, empty where it is not valid -/
def txP (xs : List Pc) : ByteArray := if okP xs then textP xs xs.length else ⟨#[]⟩
theorem ofP_size {xs : List Pc} {n : Nat} (hs : Shp xs n) (hn : n ≤ xs.length) (hz : szP xs) {k : Nat} (hk : k < n) : (ofP xs k).size ≤ 1048576 := by
  have hp := hs.par_in hk
  unfold ofP
  split
  · show 1 ≤ 1048576; omega
  · exact hz _ (by omega)
theorem lineP_sizes {a o d e : ByteArray} (ha : a.size ≤ 1048576) (ho : o.size ≤ 1048576) (hd : d.size ≤ 20) (he : e.size ≤ 20) :
    (a ++ ⟨#[32]⟩ : ByteArray).size = a.size + 1 ∧ (a ++ ⟨#[32]⟩ ++ o : ByteArray).size = a.size + 1 + o.size ∧ (a ++ ⟨#[32]⟩ ++ o ++ ⟨#[32]⟩ : ByteArray).size = a.size + 1 + o.size + 1 ∧
    (a ++ ⟨#[32]⟩ ++ o ++ ⟨#[32]⟩ ++ d : ByteArray).size = a.size + 1 + o.size + 1 + d.size ∧ (a ++ ⟨#[32]⟩ ++ o ++ ⟨#[32]⟩ ++ d ++ ⟨#[32]⟩ : ByteArray).size = a.size + 1 + o.size + 1 + d.size + 1 ∧
    (a ++ ⟨#[32]⟩ ++ o ++ ⟨#[32]⟩ ++ d ++ ⟨#[32]⟩ ++ e : ByteArray).size = a.size + 1 + o.size + 1 + d.size + 1 + e.size ∧ (a ++ ⟨#[32]⟩ ++ o ++ ⟨#[32]⟩ ++ d ++ ⟨#[32]⟩ ++ e ++ ⟨#[10]⟩ : ByteArray).size = a.size + 1 + o.size + 1 + d.size + 1 + e.size + 1 := by
  have p1 : (a ++ ⟨#[32]⟩ : ByteArray).size = a.size + 1 := ByteArray.size_append
  have p2 : (a ++ ⟨#[32]⟩ ++ o : ByteArray).size = a.size + 1 + o.size := by rw [ByteArray.size_append, p1]
  have p3 : (a ++ ⟨#[32]⟩ ++ o ++ ⟨#[32]⟩ : ByteArray).size = a.size + 1 + o.size + 1 := by rw [ByteArray.size_append, p2]; rfl
  have p4 : (a ++ ⟨#[32]⟩ ++ o ++ ⟨#[32]⟩ ++ d : ByteArray).size = a.size + 1 + o.size + 1 + d.size := by rw [ByteArray.size_append, p3]
  have p5 : (a ++ ⟨#[32]⟩ ++ o ++ ⟨#[32]⟩ ++ d ++ ⟨#[32]⟩ : ByteArray).size = a.size + 1 + o.size + 1 + d.size + 1 := by rw [ByteArray.size_append, p4]; rfl
  have p6 : (a ++ ⟨#[32]⟩ ++ o ++ ⟨#[32]⟩ ++ d ++ ⟨#[32]⟩ ++ e : ByteArray).size = a.size + 1 + o.size + 1 + d.size + 1 + e.size := by rw [ByteArray.size_append, p5]
  exact ⟨p1, p2, p3, p4, p5, p6, by rw [ByteArray.size_append, p6]; rfl⟩
theorem okP_nm {xs : List Pc} (h : okP xs = true) : NmOk xs xs.length := fun k hk => by
  have h1 := pcB_ok (allN_get (okP_ok h).2.1 hk)
  have h2 := h1.2.2.1
  have h3 := h1.2.2.2.1
  omega
theorem lineP_size {xs : List Pc} {n : Nat} (hs : Shp xs n) (hn : n ≤ xs.length) (hz : szP xs) (hm : NmOk xs n) {k : Nat} (hk : k < n) : (lineP xs k).size ≤ 2097300 := by
  obtain ⟨h1, h2⟩ := hm k hk
  have := (lineP_sizes (hz k (by omega)) (ofP_size hs hn hz hk) (decS_size (pg xs k).each (by omega) (by omega)) (decS_size (pg xs k).price (by omega) (by omega))).2.2.2.2.2.2
  have a := hz k (by omega)
  have b := ofP_size hs hn hz hk
  have c := decS_size (pg xs k).each (by omega) (by omega)
  have d := decS_size (pg xs k).price (by omega) (by omega)
  unfold lineP bodyP
  rw [this]
  omega
theorem textP_size {xs : List Pc} {n : Nat} (hs : Shp xs n) (hn : n ≤ xs.length) (hz : szP xs) (hm : NmOk xs n) : ∀ k, k ≤ n → (textP xs k).size ≤ k * 2097300
  | 0, _ => Nat.le_refl _
  | k + 1, hk => by
    show (textP xs k ++ lineP xs k).size ≤ _
    rw [ByteArray.size_append]
    have h1 := textP_size hs hn hz hm k (by omega)
    have h2 := lineP_size hs hn hz hm (show k < n by omega)
    omega
theorem four_keptP {w w' : World} {g : Nat} {a b c d : Value} (hb : Below w.heap.size w w') (h : w.cell? ⟨g, 0, none⟩ = some a ∧ w.cell? ⟨g, 1, none⟩ = some b ∧ w.cell? ⟨g, 2, none⟩ = some c ∧ w.cell? ⟨g, 3, none⟩ = some d) :
    w'.cell? ⟨g, 0, none⟩ = some a ∧ w'.cell? ⟨g, 1, none⟩ = some b ∧ w'.cell? ⟨g, 2, none⟩ = some c ∧ w'.cell? ⟨g, 3, none⟩ = some d := by
  have hlt : g < w.heap.size := by
    have h0 := h.1
    unfold World.cell? at h0
    cases hg : w.heap[g]? with
    | none => simp [hg] at h0
    | some o => exact (Array.getElem?_eq_some_iff.1 hg).1
  exact ⟨(hb.cell (p := ⟨g, 0, none⟩) hlt).trans h.1, (hb.cell (p := ⟨g, 1, none⟩) hlt).trans h.2.1, (hb.cell (p := ⟨g, 2, none⟩) hlt).trans h.2.2.1, (hb.cell (p := ⟨g, 3, none⟩) hlt).trans h.2.2.2⟩
end Go.Proofs.YtepgfcjfdnakbaaDoor
/- Inventories, texts, part 4: PiecesText of the program (gen_pq4.py). -/
namespace Go.Proofs.YtepgfcjfdnakbaaDoor
open Go.RowKit Go.Joins

set_option maxRecDepth 100000 in
set_option maxHeartbeats 3200000 in
theorem TextI_any (B : Nat) (v : Value) (xs : List Pc) (w : World) (h : RdP w B v xs) (hB : B ≤ w.heap.size) (hn : xs.length ≤ 100000) (hz : szP xs) (ht : Tab w) :
    Calls Tryd.prog 14 #[v] w fun e w' => e = .returned (.string (txP xs)) ∧ Below w.heap.size w w' := by
  have HV := Lib.hid (ValidPI_any B v xs w h hB hn hz)
  have H := Lib.hid h
  have Ht := Lib.hid ht
  have Hz := Lib.hid hz
  obtain ⟨A, c, rfl⟩ := h.slice
  clear h ht hz
  cases hok : okP xs with
  | false =>
    have e0 := Lib.hid (show txP xs = ⟨#[]⟩ by unfold txP; rw [hok]; rfl)
    rw [hok] at HV
    clear hok
    go_enter Tryd.func14, Tryd.ntmps14
    go_wp2_with fail
    refine HV.out.mono ?_; rintro e w1 ⟨rfl, hb1⟩
    go_wp2_with fail
    go_ret
    rw [e0.out]; exact ⟨rfl, hb1⟩
  | true =>
    have e0 := Lib.hid (show txP xs = textP xs xs.length by unfold txP; rw [hok]; rfl)
    obtain ⟨⟨_, hl40⟩, _, hsh, _⟩ := okP_ok hok
    have HS := Lib.hid hsh
    have HM := Lib.hid (okP_nm hok)
    rw [hok] at HV
    clear hok hsh
    go_enter Tryd.func14, Tryd.ntmps14
    go_wp2_with fail
    refine HV.out.mono ?_; rintro e w1 ⟨rfl, hb1⟩
    go_wp2_with fail
    go_loopw [3, 12] (fun o i wr => ∃ (k : Nat), k ≤ xs.length ∧ i = .int .i64 k ∧ o = .string (textP xs k) ∧ (textP xs k).size ≤ k * 2097300 ∧ Below w.heap.size w wr) (fun _ i _ => xs.length - (intOf i).toNat)
    case atStart => exact ⟨0, Nat.zero_le _, rfl, rfl, Nat.le_refl _, hb1⟩
    case round =>
      obtain ⟨k, hk, rfl, rfl, hsz, hbl⟩ := hrel
      by_cases hlt : k < xs.length
      · obtain ⟨b1, o1, hA, hE⟩ := (H.out.below (hbl.mono hB)).at k hlt
        subst hA
        have hlt' : (k : Int) < (xs.length : Int) := by omega
        have hln := lineP_size HS.out (Nat.le_refl _) Hz.out HM.out hlt
        obtain ⟨m1, m2⟩ := HM.out k hlt
        have hof := ofP_size HS.out (Nat.le_refl _) Hz.out hlt
        have hnz := Hz.out k hlt
        have hp := HS.out.par_in hlt
        have Hst := Lib.hid (show textP xs (k + 1) = textP xs k ++ ((pg xs k).name ++ ⟨#[32]⟩ ++ ofP xs k ++ ⟨#[32]⟩ ++ decS (pg xs k).each ++ ⟨#[32]⟩ ++ decS (pg xs k).price ++ ⟨#[10]⟩) from rfl)
        have HA := Lib.hid (fun wx hx => Decimal_any (pg xs k).each wx (by omega) (by omega) hx)
        have HBd := Lib.hid (fun wx hx => Decimal_any (pg xs k).price wx (by omega) (by omega) hx)
        have s1 := decS_size (pg xs k).each (by omega) (by omega)
        have s2 := decS_size (pg xs k).price (by omega) (by omega)
        obtain ⟨p1, p2, p3, p4, p5, p6, p7⟩ := lineP_sizes hnz hof s1 s2
        have hsz2 : (textP xs (k + 1)).size ≤ (k + 1) * 2097300 := textP_size HS.out (Nat.le_refl _) Hz.out HM.out (k + 1) (by omega)
        have Hof := Lib.hid (show ofP xs k = if (pg xs k).par < 0 then ⟨#[45]⟩ else (pg xs (pg xs k).par.toNat).name from rfl)
        obtain ⟨T', hT'⟩ : ∃ z, textP xs (k + 1) = z := ⟨_, rfl⟩
        rw [hT'] at hsz2 Hst
        have HT := Lib.hid hT'
        clear hT' hln m1 m2
        generalize textP xs k = T at *
        generalize ofP xs k = O at *
        have Hbl := Lib.hid (hbl.trans (((Below.refl wr.heap.size wr).alloc (Nat.le_refl _) (.cells #[.string (pg xs k).name, .int .i64 (pg xs k).par, .int .i64 (pg xs k).each, .int .i64 (pg xs k).price] 46)).mono hbl.size))
        have hblk := heap_alloc_new wr (.cells #[.string (pg xs k).name, .int .i64 (pg xs k).par, .int .i64 (pg xs k).each, .int .i64 (pg xs k).price] 46)
        obtain ⟨wn, hwn⟩ : ∃ z, wr.alloc (.cells #[.string (pg xs k).name, .int .i64 (pg xs k).par, .int .i64 (pg xs k).each, .int .i64 (pg xs k).price] 46) = z := ⟨_, rfl⟩
        rw [hwn] at Hbl hblk
        obtain ⟨⟨f0, f1, f2, f3⟩, -⟩ := blk4p hblk
        obtain ⟨hbB, c0, c1, c2, c3⟩ := hE
        clear hblk
        by_cases hpn : (pg xs k).par < 0
        · have hof2 := Hof.out
          rw [if_pos hpn] at hof2
          subst hof2
          have hp0 : (pg xs k).par = -1 := by omega
          rw [hp0] at c1 f1 hwn
          clear hpn hp0 hp Hof hbl
          generalize (pg xs k).name = a at *
          generalize decS (pg xs k).each = D at *
          generalize decS (pg xs k).price = E at *
          generalize (pg xs k).each = f at *
          generalize (pg xs k).price = t at *
          go_upto_region 10 with (fail)
          clear hwn c0 c1 c2 c3
          have hacc := Hbl.out.drew
          refine wp_region_noPanic ?_
          refine wp_region_L [] (fun w' => w'.cell? ⟨wr.heap.size, 0, none⟩ = some (.string a) ∧ w'.cell? ⟨wr.heap.size, 1, none⟩ = some (.int .i64 (-1)) ∧ w'.cell? ⟨wr.heap.size, 2, none⟩ = some (.int .i64 f) ∧ w'.cell? ⟨wr.heap.size, 3, none⟩ = some (.int .i64 t)) (by kernel_rfl) (⟨f0, f1, f2, f3⟩) (fun hHeld => ?_)
          refine take_F (i := 0) (d := some 25) (v := ?_) (by kernel_rfl) (by kernel_rfl) rfl rfl (by kernel_rfl) (by kernel_rfl) (by kernel_rfl) (fun _ _ _ h => h) (Or.inl ⟨by rfl, ?_⟩) (by assumption) ?_
          rotate_left
          · (intro w hSw; (try dsimp only at hSw); go_simp; (try rw [if_neg (by omega)]); (try (with_reducible rfl)))
          simp only [Act.put, List.setIfInBounds_toArray, List.set_cons_zero, List.set_cons_succ]
          refine take_F (i := 1) (d := some 26) (v := ?_) (by kernel_rfl) (by kernel_rfl) rfl rfl (by kernel_rfl) (by kernel_rfl) (by kernel_rfl) (fun _ _ _ h => h) (Or.inl ⟨by rfl, ?_⟩) (by assumption) ?_
          rotate_left
          · (intro w hSw; (try dsimp only at hSw); go_simp; (try rw [if_neg (by omega)]); (try (with_reducible rfl)))
          simp only [Act.put, List.setIfInBounds_toArray, List.set_cons_zero, List.set_cons_succ]
          refine take_L [2] (i := 2) (d := some 27) (v := ?_) (by kernel_rfl) (by kernel_rfl) (by kernel_rfl) (by kernel_rfl) rfl rfl (by kernel_rfl) (by kernel_rfl) (by kernel_rfl) (fun _ _ _ h => h) (Or.inl ⟨by rfl, ?_⟩) (by assumption) ?_
          rotate_left
          · (intro w hSw; (try dsimp only at hSw); go_simp; (try rw [if_neg (by omega)]); (try (with_reducible rfl)))
          simp only [Act.put, List.setIfInBounds_toArray, List.set_cons_zero, List.set_cons_succ]
          refine take_F (i := 3) (d := some 28) (v := ?_) (by kernel_rfl) (by kernel_rfl) rfl rfl (by kernel_rfl) (by kernel_rfl) (by kernel_rfl) (fun _ _ _ h => h) (Or.inl ⟨by rfl, ?_⟩) (by assumption) ?_
          rotate_left
          · (intro w hSw; (try dsimp only at hSw); go_simp; (try rw [if_neg (by omega)]); (try (with_reducible rfl)))
          simp only [Act.put, List.setIfInBounds_toArray, List.set_cons_zero, List.set_cons_succ]
          refine take_F (i := 4) (d := some 29) (v := ?_) (by kernel_rfl) (by kernel_rfl) rfl rfl (by kernel_rfl) (by kernel_rfl) (by kernel_rfl) (fun _ _ _ h => h) (Or.inl ⟨by rfl, ?_⟩) (by assumption) ?_
          rotate_left
          · (intro w hSw; (try dsimp only at hSw); go_simp; (try rw [if_neg (by omega)]); (try (with_reducible rfl)))
          simp only [Act.put, List.setIfInBounds_toArray, List.set_cons_zero, List.set_cons_succ]
          refine take_F (i := 5) (d := some 30) (v := ?_) (by kernel_rfl) (by kernel_rfl) rfl rfl (by kernel_rfl) (by kernel_rfl) (by kernel_rfl) (fun _ _ _ h => h) (Or.inl ⟨by rfl, ?_⟩) (by assumption) ?_
          rotate_left
          · (intro w hSw; (try dsimp only at hSw); go_simp; (try rw [if_neg (by omega)]); (try (with_reducible rfl)))
          simp only [Act.put, List.setIfInBounds_toArray, List.set_cons_zero, List.set_cons_succ]
          refine take_F (i := 6) (d := some 31) (v := ?_) (by kernel_rfl) (by kernel_rfl) rfl rfl (by kernel_rfl) (by kernel_rfl) (by kernel_rfl) (fun _ _ _ h => h) (Or.inl ⟨by rfl, ?_⟩) (by assumption) ?_
          rotate_left
          · (intro w hSw; (try dsimp only at hSw); go_simp; (try rw [if_neg (by omega)]); (try (with_reducible rfl)))
          simp only [Act.put, List.setIfInBounds_toArray, List.set_cons_zero, List.set_cons_succ]
          refine take_F (i := 7) (d := some 32) (v := ?_) (by kernel_rfl) (by kernel_rfl) rfl rfl (by kernel_rfl) (by kernel_rfl) (by kernel_rfl) (fun _ _ _ h => h) (Or.inl ⟨by rfl, ?_⟩) (by assumption) ?_
          rotate_left
          · (intro w hSw; (try dsimp only at hSw); go_simp; (try rw [if_neg (by omega)]); (try (with_reducible rfl)))
          simp only [Act.put, List.setIfInBounds_toArray, List.set_cons_zero, List.set_cons_succ]
          refine take_L [8] (i := 8) (d := some 33) (v := ?_) (by kernel_rfl) (by kernel_rfl) (by kernel_rfl) (by kernel_rfl) rfl rfl (by kernel_rfl) (by kernel_rfl) (by kernel_rfl) (fun _ _ _ h => h) (Or.inl ⟨by rfl, ?_⟩) (by assumption) ?_
          rotate_left
          · (intro w hSw; (try dsimp only at hSw); go_simp; (try rw [if_neg (by omega)]); (try (with_reducible rfl)))
          simp only [Act.put, List.setIfInBounds_toArray, List.set_cons_zero, List.set_cons_succ]
          refine take_F (i := 12) (d := some 37) (v := ?_) (by kernel_rfl) (by kernel_rfl) rfl rfl (by kernel_rfl) (by kernel_rfl) (by kernel_rfl) (fun _ _ _ h => h) (Or.inl ⟨by rfl, ?_⟩) (by assumption) ?_
          rotate_left
          · (intro w hSw; (try dsimp only at hSw); go_simp; (try rw [if_neg (by omega)]); (try (with_reducible rfl)))
          simp only [Act.put, List.setIfInBounds_toArray, List.set_cons_zero, List.set_cons_succ]
          refine take_L [13] (i := 13) (d := some 38) (v := ?_) (by kernel_rfl) (by kernel_rfl) (by kernel_rfl) (by kernel_rfl) rfl rfl (by kernel_rfl) (by kernel_rfl) (by kernel_rfl) (fun _ _ _ h => h) (Or.inl ⟨by rfl, ?_⟩) (by assumption) ?_
          rotate_left
          · (intro w hSw; (try dsimp only at hSw); go_simp; (try rw [if_neg (by omega)]); (try (with_reducible rfl)))
          simp only [Act.put, List.setIfInBounds_toArray, List.set_cons_zero, List.set_cons_succ]
          refine call_L (i := 9) (d := (some 34)) rfl rfl (by kernel_rfl) (fun Kq hKq => ?_)
          go_simp
          go_at_call 60
          refine (HA.out _ (Ht.out.below hacc)).mono ?_; rintro e w5 ⟨rfl, hb5⟩
          have hS5 := four_keptP hb5 ⟨f0, f1, f2, f3⟩
          have hacc5 := hacc.trans (hb5.mono hacc.size)
          clear hacc hb5
          (try go_wp2_with fail)
          refine hKq.out _ _ (hS5) (fun hHeld => ?_)
          clear hKq Kq
          (try simp only [Act.put, List.setIfInBounds_toArray, List.set_cons_zero, List.set_cons_succ])
          refine take_F (i := 10) (d := some 35) (v := ?_) (by kernel_rfl) (by kernel_rfl) rfl rfl (by kernel_rfl) (by kernel_rfl) (by kernel_rfl) (fun _ _ _ h => h) (Or.inl ⟨by rfl, ?_⟩) (by assumption) ?_
          rotate_left
          · (intro w hSw; (try dsimp only at hSw); go_simp; (try rw [if_neg (by omega)]); (try (with_reducible rfl)))
          simp only [Act.put, List.setIfInBounds_toArray, List.set_cons_zero, List.set_cons_succ]
          refine take_F (i := 11) (d := some 36) (v := ?_) (by kernel_rfl) (by kernel_rfl) rfl rfl (by kernel_rfl) (by kernel_rfl) (by kernel_rfl) (fun _ _ _ h => h) (Or.inl ⟨by rfl, ?_⟩) (by assumption) ?_
          rotate_left
          · (intro w hSw; (try dsimp only at hSw); go_simp; (try rw [if_neg (by omega)]); (try (with_reducible rfl)))
          simp only [Act.put, List.setIfInBounds_toArray, List.set_cons_zero, List.set_cons_succ]
          refine call_L (i := 14) (d := (some 39)) rfl rfl (by kernel_rfl) (fun Kq hKq => ?_)
          go_simp
          go_at_call 60
          refine (HBd.out _ (Ht.out.below hacc5)).mono ?_; rintro e w6 ⟨rfl, hb6⟩
          have hS6 := four_keptP hb6 hS5
          have hacc := hacc5.trans (hb6.mono hacc5.size)
          clear hacc5 hb6
          (try go_wp2_with fail)
          refine hKq.out _ _ (hS6) (fun hHeld => ?_)
          clear hKq Kq
          (try simp only [Act.put, List.setIfInBounds_toArray, List.set_cons_zero, List.set_cons_succ])
          refine take_F (i := 15) (d := some 40) (v := ?_) (by kernel_rfl) (by kernel_rfl) rfl rfl (by kernel_rfl) (by kernel_rfl) (by kernel_rfl) (fun _ _ _ h => h) (Or.inl ⟨by rfl, ?_⟩) (by assumption) ?_
          rotate_left
          · (intro w hSw; (try dsimp only at hSw); go_simp; (try rw [if_neg (by omega)]); (try (with_reducible rfl)))
          simp only [Act.put, List.setIfInBounds_toArray, List.set_cons_zero, List.set_cons_succ]
          refine take_F (i := 16) (d := some 41) (v := ?_) (by kernel_rfl) (by kernel_rfl) rfl rfl (by kernel_rfl) (by kernel_rfl) (by kernel_rfl) (fun _ _ _ h => h) (Or.inl ⟨by rfl, ?_⟩) (by assumption) ?_
          rotate_left
          · (intro w hSw; (try dsimp only at hSw); go_simp; (try rw [if_neg (by omega)]); (try (with_reducible rfl)))
          simp only [Act.put, List.setIfInBounds_toArray, List.set_cons_zero, List.set_cons_succ]
          refine take_F (i := 17) (d := some 42) (v := ?_) (by kernel_rfl) (by kernel_rfl) rfl rfl (by kernel_rfl) (by kernel_rfl) (by kernel_rfl) (fun _ _ _ h => h) (Or.inl ⟨by rfl, ?_⟩) (by assumption) ?_
          rotate_left
          · (intro w hSw; (try dsimp only at hSw); go_simp; (try rw [if_neg (by omega)]); (try (with_reducible rfl)))
          simp only [Act.put, List.setIfInBounds_toArray, List.set_cons_zero, List.set_cons_succ]
          refine take_F (i := 18) (d := some 3) (v := ?_) (by kernel_rfl) (by kernel_rfl) rfl rfl (by kernel_rfl) (by kernel_rfl) (by kernel_rfl) (fun _ _ _ h => h) (Or.inl ⟨by rfl, ?_⟩) (by assumption) ?_
          rotate_left
          · (intro w hSw; (try dsimp only at hSw); go_simp; (try rw [if_neg (by omega)]); (try (with_reducible rfl)))
          simp only [Act.put, List.setIfInBounds_toArray, List.set_cons_zero, List.set_cons_succ]
          refine done_L (by kernel_rfl) ?_ _
          refine NoPanic.normal ?_
          rw [← Hst.out]
          clear p1 p2 p3 p4 p5 p6 p7 f0 f1 f2 f3 hS5 hS6
          go_wp2_with fail
          go_roundw
          case rel => exact ⟨k + 1, by omega, by go_num, by rw [HT.out], by rw [HT.out]; exact hsz2, hacc⟩
          case measure => simp [intOf]; omega
        · have hof2 := Hof.out
          rw [if_neg hpn] at hof2
          obtain ⟨p, hpp⟩ : ∃ p : Nat, (pg xs k).par = (p : Int) := ⟨(pg xs k).par.toNat, by omega⟩
          rw [hpp, Int.toNat_natCast] at hof2
          rw [hpp] at hp
          obtain ⟨b2, o2, hA2, hE2⟩ := (H.out.below (Hbl.out.mono hB)).at p (by omega)
          have q0 := hE2.c0
          obtain ⟨rfl, rfl⟩ := adr_inj hA2
          rw [← hof2] at q0
          rw [hpp] at c1 f1 hwn
          have hpl : (p : Int) < (xs.length : Int) := by omega
          have hp0 : (0 : Int) ≤ (p : Int) := by omega
          clear hpn hpp Hof hbl hE2 hof2
          generalize (pg xs k).name = a at *
          generalize decS (pg xs k).each = D at *
          generalize decS (pg xs k).price = E at *
          generalize (pg xs k).each = f at *
          generalize (pg xs k).price = t at *
          go_upto_region 10 with (fail)
          clear hwn c0 c1 c2 c3
          have hacc := Hbl.out.drew
          refine wp_region_noPanic ?_
          refine wp_region_L [] (fun w' => w'.cell? ⟨wr.heap.size, 0, none⟩ = some (.string a) ∧ w'.cell? ⟨wr.heap.size, 1, none⟩ = some (.int .i64 (p : Int)) ∧ w'.cell? ⟨wr.heap.size, 2, none⟩ = some (.int .i64 f) ∧ w'.cell? ⟨wr.heap.size, 3, none⟩ = some (.int .i64 t)) (by kernel_rfl) (⟨f0, f1, f2, f3⟩) (fun hHeld => ?_)
          refine take_F (i := 0) (d := some 25) (v := ?_) (by kernel_rfl) (by kernel_rfl) rfl rfl (by kernel_rfl) (by kernel_rfl) (by kernel_rfl) (fun _ _ _ h => h) (Or.inl ⟨by rfl, ?_⟩) (by assumption) ?_
          rotate_left
          · (intro w hSw; (try dsimp only at hSw); go_simp; (try rw [if_neg (by omega)]); (try (with_reducible rfl)))
          simp only [Act.put, List.setIfInBounds_toArray, List.set_cons_zero, List.set_cons_succ]
          refine take_F (i := 1) (d := some 26) (v := ?_) (by kernel_rfl) (by kernel_rfl) rfl rfl (by kernel_rfl) (by kernel_rfl) (by kernel_rfl) (fun _ _ _ h => h) (Or.inl ⟨by rfl, ?_⟩) (by assumption) ?_
          rotate_left
          · (intro w hSw; (try dsimp only at hSw); go_simp; (try rw [if_neg (by omega)]); (try (with_reducible rfl)))
          simp only [Act.put, List.setIfInBounds_toArray, List.set_cons_zero, List.set_cons_succ]
          refine take_L [2] (i := 2) (d := some 27) (v := ?_) (by kernel_rfl) (by kernel_rfl) (by kernel_rfl) (by kernel_rfl) rfl rfl (by kernel_rfl) (by kernel_rfl) (by kernel_rfl) (fun _ _ _ h => h) (Or.inl ⟨by rfl, ?_⟩) (by assumption) ?_
          rotate_left
          · (intro w hSw; (try dsimp only at hSw); go_simp; (try rw [if_neg (by omega)]); (try (with_reducible rfl)))
          simp only [Act.put, List.setIfInBounds_toArray, List.set_cons_zero, List.set_cons_succ]
          refine take_F (i := 3) (d := some 28) (v := ?_) (by kernel_rfl) (by kernel_rfl) rfl rfl (by kernel_rfl) (by kernel_rfl) (by kernel_rfl) (fun _ _ _ h => h) (Or.inl ⟨by rfl, ?_⟩) (by assumption) ?_
          rotate_left
          · (intro w hSw; (try dsimp only at hSw); go_simp; (try rw [if_neg (by omega)]); (try (with_reducible rfl)))
          simp only [Act.put, List.setIfInBounds_toArray, List.set_cons_zero, List.set_cons_succ]
          refine take_F (i := 4) (d := some 29) (v := ?_) (by kernel_rfl) (by kernel_rfl) rfl rfl (by kernel_rfl) (by kernel_rfl) (by kernel_rfl) (fun _ _ _ h => h) (Or.inl ⟨by rfl, ?_⟩) (by assumption) ?_
          rotate_left
          · (intro w hSw; (try dsimp only at hSw); go_simp; (try rw [if_neg (by omega)]); (try (with_reducible rfl)))
          simp only [Act.put, List.setIfInBounds_toArray, List.set_cons_zero, List.set_cons_succ]
          refine take_F (i := 5) (d := some 30) (v := ?_) (by kernel_rfl) (by kernel_rfl) rfl rfl (by kernel_rfl) (by kernel_rfl) (by kernel_rfl) (fun _ _ _ h => h) (Or.inl ⟨by rfl, ?_⟩) (by assumption) ?_
          rotate_left
          · (intro w hSw; (try dsimp only at hSw); go_simp; (try rw [if_neg (by omega)]); (try (with_reducible rfl)))
          simp only [Act.put, List.setIfInBounds_toArray, List.set_cons_zero, List.set_cons_succ]
          refine take_F (i := 6) (d := some 31) (v := ?_) (by kernel_rfl) (by kernel_rfl) rfl rfl (by kernel_rfl) (by kernel_rfl) (by kernel_rfl) (fun _ _ _ h => h) (Or.inl ⟨by rfl, ?_⟩) (by assumption) ?_
          rotate_left
          · (intro w hSw; (try dsimp only at hSw); go_simp; (try rw [if_neg (by omega)]); (try (with_reducible rfl)))
          simp only [Act.put, List.setIfInBounds_toArray, List.set_cons_zero, List.set_cons_succ]
          refine take_F (i := 7) (d := some 32) (v := ?_) (by kernel_rfl) (by kernel_rfl) rfl rfl (by kernel_rfl) (by kernel_rfl) (by kernel_rfl) (fun _ _ _ h => h) (Or.inl ⟨by rfl, ?_⟩) (by assumption) ?_
          rotate_left
          · (intro w hSw; (try dsimp only at hSw); go_simp; (try rw [if_neg (by omega)]); (try (with_reducible rfl)))
          simp only [Act.put, List.setIfInBounds_toArray, List.set_cons_zero, List.set_cons_succ]
          refine take_L [8] (i := 8) (d := some 33) (v := ?_) (by kernel_rfl) (by kernel_rfl) (by kernel_rfl) (by kernel_rfl) rfl rfl (by kernel_rfl) (by kernel_rfl) (by kernel_rfl) (fun _ _ _ h => h) (Or.inl ⟨by rfl, ?_⟩) (by assumption) ?_
          rotate_left
          · (intro w hSw; (try dsimp only at hSw); go_simp; (try rw [if_neg (by omega)]); (try (with_reducible rfl)))
          simp only [Act.put, List.setIfInBounds_toArray, List.set_cons_zero, List.set_cons_succ]
          refine take_F (i := 12) (d := some 37) (v := ?_) (by kernel_rfl) (by kernel_rfl) rfl rfl (by kernel_rfl) (by kernel_rfl) (by kernel_rfl) (fun _ _ _ h => h) (Or.inl ⟨by rfl, ?_⟩) (by assumption) ?_
          rotate_left
          · (intro w hSw; (try dsimp only at hSw); go_simp; (try rw [if_neg (by omega)]); (try (with_reducible rfl)))
          simp only [Act.put, List.setIfInBounds_toArray, List.set_cons_zero, List.set_cons_succ]
          refine take_L [13] (i := 13) (d := some 38) (v := ?_) (by kernel_rfl) (by kernel_rfl) (by kernel_rfl) (by kernel_rfl) rfl rfl (by kernel_rfl) (by kernel_rfl) (by kernel_rfl) (fun _ _ _ h => h) (Or.inl ⟨by rfl, ?_⟩) (by assumption) ?_
          rotate_left
          · (intro w hSw; (try dsimp only at hSw); go_simp; (try rw [if_neg (by omega)]); (try (with_reducible rfl)))
          simp only [Act.put, List.setIfInBounds_toArray, List.set_cons_zero, List.set_cons_succ]
          refine call_L (i := 9) (d := (some 34)) rfl rfl (by kernel_rfl) (fun Kq hKq => ?_)
          go_simp
          go_at_call 60
          refine (HA.out _ (Ht.out.below hacc)).mono ?_; rintro e w5 ⟨rfl, hb5⟩
          have hS5 := four_keptP hb5 ⟨f0, f1, f2, f3⟩
          have hacc5 := hacc.trans (hb5.mono hacc.size)
          clear hacc hb5
          (try go_wp2_with fail)
          refine hKq.out _ _ (hS5) (fun hHeld => ?_)
          clear hKq Kq
          (try simp only [Act.put, List.setIfInBounds_toArray, List.set_cons_zero, List.set_cons_succ])
          refine take_F (i := 10) (d := some 35) (v := ?_) (by kernel_rfl) (by kernel_rfl) rfl rfl (by kernel_rfl) (by kernel_rfl) (by kernel_rfl) (fun _ _ _ h => h) (Or.inl ⟨by rfl, ?_⟩) (by assumption) ?_
          rotate_left
          · (intro w hSw; (try dsimp only at hSw); go_simp; (try rw [if_neg (by omega)]); (try (with_reducible rfl)))
          simp only [Act.put, List.setIfInBounds_toArray, List.set_cons_zero, List.set_cons_succ]
          refine take_F (i := 11) (d := some 36) (v := ?_) (by kernel_rfl) (by kernel_rfl) rfl rfl (by kernel_rfl) (by kernel_rfl) (by kernel_rfl) (fun _ _ _ h => h) (Or.inl ⟨by rfl, ?_⟩) (by assumption) ?_
          rotate_left
          · (intro w hSw; (try dsimp only at hSw); go_simp; (try rw [if_neg (by omega)]); (try (with_reducible rfl)))
          simp only [Act.put, List.setIfInBounds_toArray, List.set_cons_zero, List.set_cons_succ]
          refine call_L (i := 14) (d := (some 39)) rfl rfl (by kernel_rfl) (fun Kq hKq => ?_)
          go_simp
          go_at_call 60
          refine (HBd.out _ (Ht.out.below hacc5)).mono ?_; rintro e w6 ⟨rfl, hb6⟩
          have hS6 := four_keptP hb6 hS5
          have hacc := hacc5.trans (hb6.mono hacc5.size)
          clear hacc5 hb6
          (try go_wp2_with fail)
          refine hKq.out _ _ (hS6) (fun hHeld => ?_)
          clear hKq Kq
          (try simp only [Act.put, List.setIfInBounds_toArray, List.set_cons_zero, List.set_cons_succ])
          refine take_F (i := 15) (d := some 40) (v := ?_) (by kernel_rfl) (by kernel_rfl) rfl rfl (by kernel_rfl) (by kernel_rfl) (by kernel_rfl) (fun _ _ _ h => h) (Or.inl ⟨by rfl, ?_⟩) (by assumption) ?_
          rotate_left
          · (intro w hSw; (try dsimp only at hSw); go_simp; (try rw [if_neg (by omega)]); (try (with_reducible rfl)))
          simp only [Act.put, List.setIfInBounds_toArray, List.set_cons_zero, List.set_cons_succ]
          refine take_F (i := 16) (d := some 41) (v := ?_) (by kernel_rfl) (by kernel_rfl) rfl rfl (by kernel_rfl) (by kernel_rfl) (by kernel_rfl) (fun _ _ _ h => h) (Or.inl ⟨by rfl, ?_⟩) (by assumption) ?_
          rotate_left
          · (intro w hSw; (try dsimp only at hSw); go_simp; (try rw [if_neg (by omega)]); (try (with_reducible rfl)))
          simp only [Act.put, List.setIfInBounds_toArray, List.set_cons_zero, List.set_cons_succ]
          refine take_F (i := 17) (d := some 42) (v := ?_) (by kernel_rfl) (by kernel_rfl) rfl rfl (by kernel_rfl) (by kernel_rfl) (by kernel_rfl) (fun _ _ _ h => h) (Or.inl ⟨by rfl, ?_⟩) (by assumption) ?_
          rotate_left
          · (intro w hSw; (try dsimp only at hSw); go_simp; (try rw [if_neg (by omega)]); (try (with_reducible rfl)))
          simp only [Act.put, List.setIfInBounds_toArray, List.set_cons_zero, List.set_cons_succ]
          refine take_F (i := 18) (d := some 3) (v := ?_) (by kernel_rfl) (by kernel_rfl) rfl rfl (by kernel_rfl) (by kernel_rfl) (by kernel_rfl) (fun _ _ _ h => h) (Or.inl ⟨by rfl, ?_⟩) (by assumption) ?_
          rotate_left
          · (intro w hSw; (try dsimp only at hSw); go_simp; (try rw [if_neg (by omega)]); (try (with_reducible rfl)))
          simp only [Act.put, List.setIfInBounds_toArray, List.set_cons_zero, List.set_cons_succ]
          refine done_L (by kernel_rfl) ?_ _
          refine NoPanic.normal ?_
          rw [← Hst.out]
          clear p1 p2 p3 p4 p5 p6 p7 f0 f1 f2 f3 hS5 hS6
          go_wp2_with fail
          go_roundw
          case rel => exact ⟨k + 1, by omega, by go_num, by rw [HT.out], by rw [HT.out]; exact hsz2, hacc⟩
          case measure => simp [intOf]; omega
      · have hkn : k = xs.length := by omega
        subst hkn
        have hlt' : ¬ ((xs.length : Int) < (xs.length : Int)) := by omega
        go_wp2_with fail
        go_ret
        rw [e0.out]; exact ⟨rfl, hbl⟩
end Go.Proofs.YtepgfcjfdnakbaaDoor
