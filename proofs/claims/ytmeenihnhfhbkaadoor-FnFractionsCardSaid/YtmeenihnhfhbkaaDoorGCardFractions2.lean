/- Merged texts: Fi2, Lib3, Lib7, Fi3, U2, Fi4, Fi5, Fi6, Fi7, Lib6, Fi8, Fr1, Fr2, Strs, Args. -/
import Derived.Test.YtmeenihnhfhbkaaDoorGCardFractions1
import Derived.Deep.RegionHeld3
import Derived.Maps.AppendAt
import Derived.Lib.SmallJoins
import Derived.ProofKit
import Derived.OpenShut
/- Finer tables, part 2: plain fractions and their sums. -/
namespace Go.Proofs.YtmeenihnhfhbkaaDoor
open Go.RowKit Go.Joins

/-- a plain fraction -/
def okQ (N D : Int) : Bool := inB N (-1000000000000) 1000000000000 && (inB D 1 1000000000000 && (Nat.gcd N.natAbs D.natAbs == 1))
/-- a fraction as a value -/
abbrev aggQ (N D : Int) : Value := .agg #[.int .i64 N, .int .i64 D]
theorem box2' {w : World} {x y : Value} {t : TypeId} : ∃ wb g, wb = w.alloc (.cells #[x, y] t) ∧ g = w.heap.size ∧ wb.cell? ⟨g, 0, none⟩ = some x ∧ wb.cell? ⟨g, 1, none⟩ = some y ∧ Below w.heap.size w wb := by
  have h := blk2 (heap_alloc_new w (.cells #[x, y] t))
  exact ⟨_, _, rfl, rfl, h.1, h.2.1, (Below.refl w.heap.size w).alloc (Nat.le_refl _) _⟩
set_option maxRecDepth 100000 in
set_option maxHeartbeats 3200000 in
theorem isPlain_any (N D : Int) (w : World) : Calls Tryd.prog 48 #[aggQ N D] w fun e w' => e = .returned (.bool (okQ N D)) ∧ Below w.heap.size w w' := by
  have HV := Lib.hid (fun wx => flipQ (isValue_c N wx))
  have HB := Lib.hid (fun wx => flipQ (between_any D 1 1000000000000 wx))
  obtain ⟨p0, p1, _, _⟩ := blk2 (heap_alloc_new w (.cells #[.int .i64 N, .int .i64 D] 25))
  have hb0 := Lib.hid ((Below.refl w.heap.size w).alloc (Nat.le_refl _) (.cells #[.int .i64 N, .int .i64 D] 25))
  unfold okQ
  by_cases h1 : inB N (-1000000000000) 1000000000000 = true
  · by_cases h2 : inB D 1 1000000000000 = true
    · rw [h1] at HV
      rw [h2] at HB
      rw [h1, h2, Bool.true_and, Bool.true_and]
      rw [inB_iff] at h1 h2
      obtain ⟨d, rfl⟩ : ∃ d : Nat, D = (d : Int) := ⟨D.toNat, by omega⟩
      have HA := Lib.hid (fun wx => flipQ (absolute_any N wx (by omega) (by omega)))
      have HG := Lib.hid (fun wx => divisor_any N.natAbs d wx (by omega) (by omega))
      rw [Int.natAbs_natCast]
      generalize hg : Nat.gcd N.natAbs d = g at *
      clear hg h1 h2
      go_enter Tryd.func48, Tryd.ntmps48
      go_upto_region 1 with (fail)
      generalize hw1 : w.alloc (.cells #[.int .i64 N, .int .i64 (d : Int)] 25) = w1 at *
      clear hw1
      go_quiet ((first | (go_at_call 58; exact Calls.quiet_of_same (HV.out _)) | (go_at_call 66; exact Calls.quiet_of_same (HB.out _)) | (go_at_call 49; exact Calls.quiet_of_same (HA.out _)) | (go_at_call 68; exact Calls.quiet_of (HG.out _))))
      go_wp2_with fail
      go_ret
      exact ⟨by congr 2; cases g with | zero => rfl | succ n => cases n <;> simp <;> omega, below_drewN hb0.out _⟩
    · have h2 : inB D 1 1000000000000 = false := by simpa using h2
      rw [h1] at HV
      rw [h2] at HB
      rw [h2, Bool.false_and, Bool.and_false]
      clear h1 h2
      go_enter Tryd.func48, Tryd.ntmps48
      go_upto_region 1 with (fail)
      generalize hw1 : w.alloc (.cells #[.int .i64 N, .int .i64 D] 25) = w1 at *
      clear hw1
      go_quiet ((first | (go_at_call 58; exact Calls.quiet_of_same (HV.out _)) | (go_at_call 66; exact Calls.quiet_of_same (HB.out _))))
      go_wp2_with fail
      go_ret
      exact ⟨rfl, below_drewN hb0.out _⟩
  · have h1 : inB N (-1000000000000) 1000000000000 = false := by simpa using h1
    rw [h1] at HV
    rw [h1, Bool.false_and]
    clear h1
    go_enter Tryd.func48, Tryd.ntmps48
    go_upto_region 1 with (fail)
    generalize hw1 : w.alloc (.cells #[.int .i64 N, .int .i64 D] 25) = w1 at *
    clear hw1
    go_quiet ((first | (go_at_call 58; exact Calls.quiet_of_same (HV.out _))))
    go_wp2_with fail
    go_ret
    exact ⟨rfl, below_drewN hb0.out _⟩
set_option maxRecDepth 100000 in
set_option maxHeartbeats 3200000 in
theorem l19Ok_any (N D : Int) (w : World) : Calls Tryd.prog 51 #[aggQ N D] w fun e w' => e = .returned (.bool (okQ N D)) ∧ Below w.heap.size w w' := by
  have HV := Lib.hid (fun wx => flipQ (l17Most_c N wx))
  have HB := Lib.hid (fun wx => flipQ (l00In_any D 1 1000000000000 wx))
  obtain ⟨p0, p1, _, _⟩ := blk2 (heap_alloc_new w (.cells #[.int .i64 N, .int .i64 D] 25))
  have hb0 := Lib.hid ((Below.refl w.heap.size w).alloc (Nat.le_refl _) (.cells #[.int .i64 N, .int .i64 D] 25))
  unfold okQ
  by_cases h1 : inB N (-1000000000000) 1000000000000 = true
  · by_cases h2 : inB D 1 1000000000000 = true
    · rw [h1] at HV
      rw [h2] at HB
      rw [h1, h2, Bool.true_and, Bool.true_and]
      rw [inB_iff] at h1 h2
      obtain ⟨d, rfl⟩ : ∃ d : Nat, D = (d : Int) := ⟨D.toNat, by omega⟩
      have HA := Lib.hid (fun wx => flipQ (l03Size_c N wx (by omega) (by omega)))
      have HG := Lib.hid (fun wx => flipQ (l04Gcd_any N.natAbs d wx (by omega) (by omega)))
      rw [Int.natAbs_natCast]
      generalize hg : Nat.gcd N.natAbs d = g at *
      clear hg h1 h2
      go_enter Tryd.func51, Tryd.ntmps51
      go_upto_region 1 with (fail)
      generalize hw1 : w.alloc (.cells #[.int .i64 N, .int .i64 (d : Int)] 25) = w1 at *
      clear hw1
      go_quiet ((first | (go_at_call 60; exact Calls.quiet_of_same (HV.out _)) | (go_at_call 67; exact Calls.quiet_of_same (HB.out _)) | (go_at_call 52; exact Calls.quiet_of_same (HA.out _)) | (go_at_call 93; exact Calls.quiet_of_same (HG.out _))))
      go_wp2_with fail
      go_ret
      exact ⟨by congr 2; cases g with | zero => rfl | succ n => cases n <;> simp <;> omega, below_drewN hb0.out _⟩
    · have h2 : inB D 1 1000000000000 = false := by simpa using h2
      rw [h1] at HV
      rw [h2] at HB
      rw [h2, Bool.false_and, Bool.and_false]
      clear h1 h2
      go_enter Tryd.func51, Tryd.ntmps51
      go_upto_region 1 with (fail)
      generalize hw1 : w.alloc (.cells #[.int .i64 N, .int .i64 D] 25) = w1 at *
      clear hw1
      go_quiet ((first | (go_at_call 60; exact Calls.quiet_of_same (HV.out _)) | (go_at_call 67; exact Calls.quiet_of_same (HB.out _))))
      go_wp2_with fail
      go_ret
      exact ⟨rfl, below_drewN hb0.out _⟩
  · have h1 : inB N (-1000000000000) 1000000000000 = false := by simpa using h1
    rw [h1] at HV
    rw [h1, Bool.false_and]
    clear h1
    go_enter Tryd.func51, Tryd.ntmps51
    go_upto_region 1 with (fail)
    generalize hw1 : w.alloc (.cells #[.int .i64 N, .int .i64 D] 25) = w1 at *
    clear hw1
    go_quiet ((first | (go_at_call 60; exact Calls.quiet_of_same (HV.out _))))
    go_wp2_with fail
    go_ret
    exact ⟨rfl, below_drewN hb0.out _⟩
set_option maxRecDepth 100000 in
set_option maxHeartbeats 1600000 in
theorem l19Make_any (N : Int) (D : Nat) (w : World) (hN : -4611686018427387904 ≤ N ∧ N ≤ 4611686018427387904) (hD : D ≤ 4611686018427387904) (h0 : 0 < D) :
    Calls Tryd.prog 53 #[.int .i64 N, .int .i64 (D : Int)] w (RetQ (lowN N D) (lowD N D) w) := by
  have hg := low_g (N := N) h0
  have hgd : Nat.gcd N.natAbs D ≤ D := Nat.le_of_dvd h0 (Nat.gcd_dvd_right _ _)
  have hbd := low_bd N D
  have hle := low_le (N := N) h0
  have e1 : Int.tdiv N (Nat.gcd N.natAbs D : Int) = lowN N D := rfl
  have e2 : Int.tdiv (D : Int) (Nat.gcd N.natAbs D : Int) = (lowD N D : Int) := by rw [Int.tdiv_eq_ediv_of_nonneg (by omega)]; exact (Int.natCast_ediv _ _).symm
  have e3 : (D : Int) / (Nat.gcd N.natAbs D : Int) = (lowD N D : Int) := (Int.natCast_ediv _ _).symm
  have HA := Lib.hid (fun wx => l03Size_c N wx hN.1 hN.2)
  have HG := Lib.hid (fun wx => l04Gcd_any N.natAbs D wx (by omega) hD)
  generalize Nat.gcd N.natAbs D = g at *
  generalize lowN N D = x at *
  generalize lowD N D = y at *
  have hx1 : -4611686018427387904 ≤ x := by omega
  have hx2 : x ≤ 4611686018427387904 := by omega
  have hy2 : (y : Int) ≤ 4611686018427387904 := by omega
  have hg0 : (g : Int) ≠ 0 := by omega
  have hg1 : (0 : Int) < (g : Int) := by omega
  have hgn : g ≠ 0 := by omega
  have hwx : IntKind.i64.wrap x = x := IntWalk.i64_in _ (by omega)
  have hwy : IntKind.i64.wrap (y : Int) = (y : Int) := IntWalk.i64_in _ (by omega)
  obtain ⟨p0, p1, p2, p3⟩ := blk2 (heap_alloc_new w (.cells #[.int .i64 0, .int .i64 0] 25))
  have Hq := Lib.hid (fun (_ : Nat) => res2_post (w := w) (x := .int .i64 0) (y := .int .i64 0) (t := 25) (Below.refl _ _) (.int .i64 x) (.int .i64 (y : Int)))
  clear hbd hle
  go_enter Tryd.func53, Tryd.ntmps53
  go_wp2_with fail
  refine (HA.out _).mono ?_; rintro e w1 ⟨rfl, rfl⟩
  go_wp2_with fail
  refine (HG.out _).mono ?_; rintro e w1 ⟨rfl, rfl⟩
  go_wp2_with fail
  generalize hw1 : w.alloc (.cells #[.int .i64 0, .int .i64 0] 25) = w1 at *
  clear hw1
  go_region_law (fail)
  all_goals
    (try go_wp2_with fail)
    obtain ⟨q0, q1, hbe⟩ := Hq.out 1
    exact bodyPost_ret (v := .agg #[.int .i64 x, .int .i64 (y : Int)]) (by simp [results, Tryd.results53, go_sem, q0, q1]) rfl ⟨rfl, hbe.drew⟩
end Go.Proofs.YtmeenihnhfhbkaaDoor
/- A region that draws its order, step by step: an operation that is taken first, its slot given by number. No program is named here. -/
namespace Go.Proofs.YtmeenihnhfhbkaaDoor
open Go.RowKit

section
variable {P : Program} {ops : Array Oper} {Q : Exit → Act → World → Prop} {md : Region.Mode} {S : World → Prop}
theorem take_d {i : Nat} {oi : Oper} {d : Option Nat} {v : Value} {fuel : Nat} {listed : Array Bool} {a : Act} {w : World} (hi : ops[i]? = some oi) (hd : oi.dst = d)
    (hs : Region.noSelect ops = true) (hf : Region.free md ops listed i = true) (hr : (Region.ready md ops listed).contains i = true)
    (hQ : ∀ c a w, Q (.panic c) (a.put d v) w → Q (.panic c) a w) (hy : YieldsIf P ops S oi v a) (hS : S w)
    (h : wpAnyH P md ops Q S fuel (listed.setIfInBounds i true) (a.put d v) w) : wpAnyH P md ops Q S (fuel + 1) listed a w := by
  subst hd
  exact wpAnyH_take hi hs hf hr hQ hy hS h
theorem call_d {i : Nat} {o : Oper} {d : Option Nat} {fuel : Nat} {listed : Array Bool} {a : Act} {w : World} (ho : ops[i]? = some o) (hd : o.dst = d) (hr : Region.ready md ops listed = [i])
    (h : ∀ K' : Act → World → Prop, Shut (∀ a w, S w → (S w → wpAnyH P md ops Q S fuel (listed.setIfInBounds i true) a w) → K' a w) → if Region.wanted o (yielded ops a.tmps) = true then Oper.wp P o a w K' Q else K' (a.put d undef) w) :
    wpAnyH P md ops Q S (fuel + 1) listed a w := by
  subst hd
  exact wpAnyH_ready hr (by simp) (AllReadyH.cons ho h AllReadyH.nil)
end
end Go.Proofs.YtmeenihnhfhbkaaDoor
/- A region that draws its order and whose last operations write where the region has loaded: the loads are taken first; S is not asked behind those last operations (Ls). No program is named here. -/
namespace Go.Proofs.YtmeenihnhfhbkaaDoor
open Go.RowKit

section
variable {P : Program} {ops : Array Oper} {Q : Exit → Act → World → Prop} {md : Region.Mode} {S : World → Prop} {L : Nat} {Ls : List Nat}

/-- every operation that has come up has those ahead of it come up -/
def ClosedL (md : Region.Mode) (ops : Array Oper) (listed : Array Bool) : Prop :=
  ∀ (k : Nat) (o : Oper), ops[k]? = some o → listed.getD k true = true → ∀ e ∈ o.after, Region.binds md e = true → listed.getD e.on false = true
def closedB (md : Region.Mode) (ops : Array Oper) (listed : Array Bool) : Bool :=
  (List.range ops.size).all fun k => !listed.getD k true || ((ops[k]?).map (·.after.all fun e => !Region.binds md e || listed.getD e.on false)).getD true
theorem closedB_spec {listed : Array Bool} (h : closedB md ops listed = true) : ClosedL md ops listed := by
  intro k o ho hk e he hb
  unfold closedB at h
  rw [List.all_eq_true] at h
  have h1 := h k (List.mem_range.2 (Array.getElem?_eq_some_iff.1 ho).1)
  rw [ho, hk] at h1
  simp only [Bool.not_true, Bool.false_or, Option.map_some, Option.getD_some] at h1
  have h2 := Array.all_eq_true_iff_forall_mem.1 h1 e he
  rw [hb] at h2
  simpa using h2
theorem ClosedL.set {listed : Array Bool} {j : Nat} (h : ClosedL md ops listed) (hj : j ∈ Region.ready md ops listed) : ClosedL md ops (listed.setIfInBounds j true) := by
  intro k o ho hk e he hb
  by_cases hkj : j = k
  · subst hkj
    obtain ⟨_, o', ho', hall⟩ := mem_ready.1 hj
    rw [ho] at ho'
    cases ho'
    exact getD_set_true (hall e he hb)
  · rw [getD_set_ne true hkj] at hk
    exact getD_set_true (h k o ho hk e he hb)
/-- a chain of operations, each of which waits for the next -/
def waitsB (md : Region.Mode) (ops : Array Oper) : List Nat → Bool
  | x :: y :: rest => (((ops[x]?).map (·.after.any fun e => Region.binds md e && e.on == y)).getD false) && waitsB md ops (y :: rest)
  | _ => true
theorem waits_cons {x y : Nat} {rest : List Nat} (h : waitsB md ops (x :: y :: rest) = true) : (∃ o, ops[x]? = some o ∧ ∃ e ∈ o.after, Region.binds md e = true ∧ e.on = y) ∧ waitsB md ops (y :: rest) = true := by
  unfold waitsB at h
  rw [Bool.and_eq_true] at h
  refine ⟨?_, h.2⟩
  cases ho : ops[x]? with
  | none => rw [ho] at h; simp at h
  | some o =>
    rw [ho] at h
    simp only [Option.map_some, Option.getD_some] at h
    obtain ⟨e, he, hb⟩ := Array.any_eq_true'.1 h.1
    simp only [Bool.and_eq_true, beq_iff_eq] at hb
    exact ⟨o, rfl, e, he, hb.1, hb.2⟩
theorem getD_ft {l : Array Bool} {i : Nat} (h : l.getD i false = true) : l.getD i true = true := by
  rcases Nat.lt_or_ge i l.size with h' | h'
  · simp [h'] at h ⊢; exact h
  · simp [Array.getElem?_eq_none h'] at h
theorem listed_last {listed : Array Bool} (hc : ClosedL md ops listed) : ∀ (rest : List Nat) (y : Nat), listed.getD y false = true → waitsB md ops (y :: rest) = true → listed.getD ((y :: rest).getLast (by simp)) false = true
  | [], _, h, _ => h
  | z :: rest, y, h, hw => by
    obtain ⟨⟨o, ho, e, he, hb, hon⟩, hw2⟩ := waits_cons hw
    have h2 := hc y o ho (getD_ft h) e he hb
    rw [hon] at h2
    have h3 := listed_last hc rest z h2 hw2
    rw [List.getLast_cons (by simp)]
    exact h3
def lateB (md : Region.Mode) (ops : Array Oper) (L : Nat) (p : List Nat) (i : Nat) : Bool := !p.isEmpty && waitsB md ops (L :: p) && p.getLast? == some i
theorem late_not {listed : Array Bool} {p : List Nat} {i : Nat} (hc : ClosedL md ops listed) (h : lateB md ops L p i = true) (hi : listed.getD i true = false) : L ∉ Region.ready md ops listed := by
  intro hL
  unfold lateB at h
  simp only [Bool.and_eq_true, beq_iff_eq] at h
  obtain ⟨⟨h0, h1⟩, h2⟩ := h
  cases p with
  | nil => simp at h0
  | cons y rest =>
    obtain ⟨⟨o, ho, e, he, hb, hon⟩, hw⟩ := waits_cons h1
    obtain ⟨_, o', ho', hall⟩ := mem_ready.1 hL
    rw [ho] at ho'
    cases ho'
    have hy := hall e he hb
    rw [hon] at hy
    have hl := listed_last hc rest y hy hw
    rw [List.getLast?_eq_some_getLast (by simp)] at h2
    injection h2 with h2
    rw [h2] at hl
    rw [getD_ft hl] at hi
    cases hi

/-- what comes behind L in a list -/
def behind (L : Nat) : List Nat → List Nat
  | [] => []
  | x :: l => if x == L then l else behind L l
/-- every one of Ls waits for i, by the chain Ls ++ p -/
def lateAll (md : Region.Mode) (ops : Array Oper) (Ls p : List Nat) (i : Nat) : Bool := Ls.all fun L => lateB md ops L (behind L (Ls ++ p)) i
theorem lateAll_spec {p : List Nat} {i : Nat} (h : lateAll md ops Ls p i = true) (hL : L ∈ Ls) : lateB md ops L (behind L (Ls ++ p)) i = true := List.all_eq_true.1 h L hL
/-- none of the last ones has come up -/
def noneL (Ls : List Nat) (listed : Array Bool) : Bool := Ls.all fun L => !listed.getD L false
theorem noneL_set {listed : Array Bool} {j : Nat} (hj : j ∉ Ls) (h : noneL Ls listed = true) : noneL Ls (listed.setIfInBounds j true) = true := by
  unfold noneL at *
  rw [List.all_eq_true] at *
  intro L hL
  rw [getD_set_ne false (show j ≠ L from fun e => hj (e ▸ hL))]
  exact h L hL
theorem noneL_of {listed : Array Bool} {j : Nat} (h : noneL Ls (listed.setIfInBounds j true) = true) : noneL Ls listed = true := by
  unfold noneL at *
  rw [List.all_eq_true] at *
  intro L hL
  have h1 := h L hL
  cases hb : listed.getD L false with
  | false => rfl
  | true => rw [getD_set_true hb] at h1; exact h1
/-- whatever order is picked, and S holds as long as none of the last ones has come up -/
def wpAnyL (P : Program) (md : Region.Mode) (ops : Array Oper) (Q : Exit → Act → World → Prop) (S : World → Prop) (Ls : List Nat) : Nat → Array Bool → Act → World → Prop
  | 0, listed, a, w => Region.ready md ops listed = [] ∧ Q .normal a w
  | fuel + 1, listed, a, w =>
    (Region.ready md ops listed = [] → Q .normal a w) ∧
    ∀ i ∈ Region.ready md ops listed, wpOp P ops Q i (fun a' w' => (noneL Ls (listed.setIfInBounds i true) = true → S w') ∧ wpAnyL P md ops Q S Ls fuel (listed.setIfInBounds i true) a' w') a w
theorem wpAny_of_L : ∀ (fuel : Nat) (listed : Array Bool) (a : Act) (w : World), wpAnyL P md ops Q S Ls fuel listed a w → wpAny P md ops Q fuel listed a w
  | 0, _, _, _, h => h
  | fuel + 1, _, _, _, h => ⟨h.1, fun i hi => wpOp_mono (fun a' w' h' => wpAny_of_L fuel _ a' w' h'.2) (h.2 i hi)⟩

theorem wpAnyL_first {S0 : World → Prop} {i : Nat} {oi : Oper} {v : Value} (hi : ops[i]? = some oi) (hsel : ∀ (j : Nat) (o : Oper) cs b, ops[j]? = some o → o.op ≠ .select cs b)
    (hQ : ∀ c a w, Q (.panic c) (a.put oi.dst v) w → Q (.panic c) a w) (hiL : i ∉ Ls) (p : List Nat) (hor : (lateAll md ops Ls p i = true ∧ ∀ w, S w → S0 w) ∨ ∀ w, S0 w) :
    ∀ (fuel : Nat) (listed : Array Bool) (a : Act) (w : World), ClosedL md ops listed → (noneL Ls listed = true → S w) → ((∀ w, S0 w) ∨ noneL Ls listed = true) →
      (∀ j oj, ops[j]? = some oj → j ≠ i → listed.getD j true = false → (∀ e ∈ oj.after, Region.binds md e = true → e.on ≠ i) → oi.apart ops oj = true) →
      i ∈ Region.ready md ops listed → YieldsIf P ops S0 oi v a →
      wpAnyL P md ops Q S Ls fuel (listed.setIfInBounds i true) (a.put oi.dst v) w → wpAnyL P md ops Q S Ls (fuel + 1) listed a w := by
  have hS0 : ∀ (listed : Array Bool) (w : World), (noneL Ls listed = true → S w) → ((∀ w, S0 w) ∨ noneL Ls listed = true) → S0 w := fun listed w hS hn => by
    rcases hn with h | h
    · exact h w
    · rcases hor with h' | h'
      · exact h'.2 w (hS h)
      · exact h' w
  intro fuel
  induction fuel with
  | zero =>
    intro listed a w _ hS hn _ hr hy H
    refine ⟨fun h => (by rw [h] at hr; cases hr), fun j hj => ?_⟩
    by_cases hji : j = i
    · subst hji
      exact hy.wpOp hi (hS0 listed w hS hn) ⟨fun h => hS (noneL_of h), H⟩
    · have hm := ready_mono hj hji
      rw [H.1] at hm
      cases hm
  | succ fuel ih =>
    intro listed a w hc hS hn hfree hr hy H
    refine ⟨fun h => (by rw [h] at hr; cases hr), fun j hj => ?_⟩
    by_cases hji : j = i
    · subst hji
      exact hy.wpOp hi (hS0 listed w hS hn) ⟨fun h => hS (noneL_of h), H⟩
    · have hu := (mem_ready.1 hr).1
      have h1 := H.2 j (ready_mono hj hji)
      have hn' : (∀ w, S0 w) ∨ noneL Ls (listed.setIfInBounds j true) = true := by
        rcases hn with h | h
        · exact .inl h
        · rcases hor with h' | h'
          · exact .inr (noneL_set (fun e => late_not hc (lateAll_spec h'.1 e) hu hj) h)
          · exact .inl h'
      obtain ⟨hjun, oj, hoj, hall⟩ := mem_ready.1 hj
      have hnot : ∀ e ∈ oj.after, Region.binds md e = true → e.on ≠ i := fun e he hb heq => by
        have h2 := hall e he hb
        rw [heq] at h2
        rw [getD_ft h2] at hu
        cases hu
      have h2 := wpOp_putIf hoj (hfree j oj hoj hji hjun hnot) (fun cs b => hsel i oi cs b hi) (fun cs b => hsel j oj cs b hoj) hQ hy h1
      have hfree' : ∀ k ok, ops[k]? = some ok → k ≠ i → (listed.setIfInBounds j true).getD k true = false →
          (∀ e ∈ ok.after, Region.binds md e = true → e.on ≠ i) → oi.apart ops ok = true := fun k ok hk hki hun hno => by
        by_cases hjk : j = k
        · subst hjk
          exact hfree j ok hk hki hjun hno
        · rw [getD_set_ne true hjk] at hun
          exact hfree k ok hk hki hun hno
      refine wpOp_mono (fun a' w' h3 => ?_) h2
      have hS' : noneL Ls (listed.setIfInBounds j true) = true → S w' := fun h => h3.2.1 (by
        rw [Array.setIfInBounds_comm _ _ (Ne.symm hji)]
        exact noneL_set hiL h)
      refine ⟨hS', ih (listed.setIfInBounds j true) a' w' (hc.set hj) hS' hn' hfree' (ready_mono hr (Ne.symm hji)) h3.1 ?_⟩
      rw [Array.setIfInBounds_comm _ _ hji]
      exact h3.2.2

/-- a load: taken first, under S -/
theorem take_L {i : Nat} {oi : Oper} {d : Option Nat} {v : Value} {fuel : Nat} {listed : Array Bool} {a : Act} {w : World} (p : List Nat) (hL : lateAll md ops Ls p i = true) (hc : closedB md ops listed = true) (hn : noneL Ls listed = true) (hiL : Ls.contains i = false) (hi : ops[i]? = some oi) (hd : oi.dst = d)
    (hs : Region.noSelect ops = true) (hf : Region.free md ops listed i = true) (hr : (Region.ready md ops listed).contains i = true)
    (hQ : ∀ c a w, Q (.panic c) (a.put d v) w → Q (.panic c) a w) (hy : YieldsIf P ops S oi v a) (hS : S w)
    (h : wpAnyL P md ops Q S Ls fuel (listed.setIfInBounds i true) (a.put d v) w) : wpAnyL P md ops Q S Ls (fuel + 1) listed a w := by
  subst hd
  exact wpAnyL_first hi (Region.noSelect_spec hs) hQ (fun e => by simp [e] at hiL) p (.inl ⟨hL, fun _ h => h⟩) fuel listed a w (closedB_spec hc) (fun _ => hS) (.inr hn) (Region.free_spec hi hf) (by simpa using hr) hy h
/-- what yields in whatever world: taken first -/
theorem take_F {i : Nat} {oi : Oper} {d : Option Nat} {v : Value} {fuel : Nat} {listed : Array Bool} {a : Act} {w : World} (hc : closedB md ops listed = true) (hiL : Ls.contains i = false) (hi : ops[i]? = some oi) (hd : oi.dst = d)
    (hs : Region.noSelect ops = true) (hf : Region.free md ops listed i = true) (hr : (Region.ready md ops listed).contains i = true)
    (hQ : ∀ c a w, Q (.panic c) (a.put d v) w → Q (.panic c) a w) (hy : YieldsIf P ops (fun _ => True) oi v a) (hS : S w)
    (h : wpAnyL P md ops Q S Ls fuel (listed.setIfInBounds i true) (a.put d v) w) : wpAnyL P md ops Q S Ls (fuel + 1) listed a w := by
  subst hd
  exact wpAnyL_first (S0 := fun _ => True) hi (Region.noSelect_spec hs) hQ (fun e => by simp [e] at hiL) [] (.inr fun _ => trivial) fuel listed a w (closedB_spec hc) (fun _ => hS) (.inl fun _ => trivial) (Region.free_spec hi hf) (by simpa using hr) hy h
/-- the only operation that may come up; S is shown anew -/
theorem call_L {i : Nat} {o : Oper} {d : Option Nat} {fuel : Nat} {listed : Array Bool} {a : Act} {w : World} (ho : ops[i]? = some o) (hd : o.dst = d) (hr : Region.ready md ops listed = [i])
    (h : ∀ K' : Act → World → Prop, Shut (∀ a w, S w → (S w → wpAnyL P md ops Q S Ls fuel (listed.setIfInBounds i true) a w) → K' a w) → if Region.wanted o (yielded ops a.tmps) = true then Oper.wp P o a w K' Q else K' (a.put d undef) w) :
    wpAnyL P md ops Q S Ls (fuel + 1) listed a w := by
  subst hd
  refine ⟨fun h0 => absurd (h0.symm.trans hr) (by simp), fun j hj => ?_⟩
  rw [hr] at hj
  obtain rfl := List.mem_singleton.1 hj
  exact wpOp_step ho (fun K' hK => h K' (fun a w hS hW => hK a w ⟨fun _ => hS, hW hS⟩))
/-- two operations that may come up -/
theorem both_L {i j : Nat} {oi oj : Oper} {di dj : Option Nat} {fuel : Nat} {listed : Array Bool} {a : Act} {w : World} (hoi : ops[i]? = some oi) (hdi : oi.dst = di) (hoj : ops[j]? = some oj) (hdj : oj.dst = dj) (hr : Region.ready md ops listed = [i, j])
    (h1 : ∀ K' : Act → World → Prop, Shut (∀ a w, S w → (S w → wpAnyL P md ops Q S Ls fuel (listed.setIfInBounds i true) a w) → K' a w) → if Region.wanted oi (yielded ops a.tmps) = true then Oper.wp P oi a w K' Q else K' (a.put di undef) w)
    (h2 : ∀ K' : Act → World → Prop, Shut (∀ a w, S w → (S w → wpAnyL P md ops Q S Ls fuel (listed.setIfInBounds j true) a w) → K' a w) → if Region.wanted oj (yielded ops a.tmps) = true then Oper.wp P oj a w K' Q else K' (a.put dj undef) w) :
    wpAnyL P md ops Q S Ls (fuel + 1) listed a w := by
  subst hdi
  subst hdj
  refine ⟨fun h0 => absurd (h0.symm.trans hr) (by simp), fun k hk => ?_⟩
  rw [hr] at hk
  rcases List.mem_cons.1 hk with rfl | hk
  · exact wpOp_step hoi (fun K' hK => h1 K' (fun a w hS hW => hK a w ⟨fun _ => hS, hW hS⟩))
  · obtain rfl := List.mem_singleton.1 hk
    exact wpOp_step hoj (fun K' hK => h2 K' (fun a w hS hW => hK a w ⟨fun _ => hS, hW hS⟩))
/-- .. and S is not asked -/
theorem late_L {i : Nat} {o : Oper} {d : Option Nat} {fuel : Nat} {listed : Array Bool} {a : Act} {w : World} (hi : noneL Ls (listed.setIfInBounds i true) = false) (ho : ops[i]? = some o) (hd : o.dst = d) (hr : Region.ready md ops listed = [i])
    (h : ∀ K' : Act → World → Prop, Shut (∀ a w, wpAnyL P md ops Q S Ls fuel (listed.setIfInBounds i true) a w → K' a w) → if Region.wanted o (yielded ops a.tmps) = true then Oper.wp P o a w K' Q else K' (a.put d undef) w) :
    wpAnyL P md ops Q S Ls (fuel + 1) listed a w := by
  subst hd
  refine ⟨fun h0 => absurd (h0.symm.trans hr) (by simp), fun j hj => ?_⟩
  rw [hr] at hj
  obtain rfl := List.mem_singleton.1 hj
  exact wpOp_step ho (fun K' hK => h K' (fun a w hW => hK a w ⟨fun hne => absurd (hi.symm.trans hne) (by simp), hW⟩))
theorem done_L {listed : Array Bool} {a : Act} {w : World} (hr : Region.ready md ops listed = []) (h : Q .normal a w) : ∀ fuel, wpAnyL P md ops Q S Ls fuel listed a w
  | 0 => ⟨hr, h⟩
  | _ + 1 => ⟨fun _ => h, by rw [hr]; simp⟩
theorem wp_region_L {id : Nat} {a : Act} {w : World} (Ls : List Nat) (S : World → Prop) (hm : P.follows .mixedOrders = true) (hS : S w.drew)
    (h : S w.drew → wpAnyL P .any ops Q S Ls ops.size (Array.replicate ops.size false) a w.drew) : (Code.region id ops true).wp P Q a w :=
  wp_region_any hm (wpAny_of_L _ _ _ _ (h hS))
end
end Go.Proofs.YtmeenihnhfhbkaaDoor
/- Finer tables, part 3: sums and differences of fractions. -/
namespace Go.Proofs.YtmeenihnhfhbkaaDoor
open Go.RowKit Go.Joins

theorem blk_ltF {w : World} {g : Nat} {o : Obj} (h : w.heap[g]? = some o) : g < w.heap.size := (Array.getElem?_eq_some_iff.1 h).1
/-- block r holds a fraction of the call's own -/
structure FrB (W wr : World) (r : Nat) (x y : Value) : Prop where
  res : wr.heap[r]? = some (.cells #[x, y] 25 (0, 0))
  bel : Below W.heap.size W wr
  lr : W.heap.size ≤ r
section
variable {W wr wx : World} {r : Nat} {x y : Value}
theorem FrB.below (h : FrB W wr r x y) (hb : Below wr.heap.size wr wx) : FrB W wx r x y := ⟨(hb.block _ (blk_ltF h.res)).trans h.res, h.bel.trans (hb.mono h.bel.size), h.lr⟩
theorem FrB.drewN (h : FrB W wr r x y) (k : Nat) : FrB W (wr.drewN k) r x y := ⟨h.res, below_drewN h.bel k, h.lr⟩
theorem FrB.put (h : FrB W wr r x y) (a b : Value) : FrB W ((wr.setCell ⟨r, 0, none⟩ a).setCell ⟨r, 1, none⟩ b) r a b :=
  ⟨heap_setCell_same _ r 1 _ _ b (heap_setCell_same _ r 0 _ _ a h.res), (h.bel.setCell (p := ⟨r, 0, none⟩) h.lr a).setCell (p := ⟨r, 1, none⟩) h.lr b, h.lr⟩
theorem FrB.alloc (h : FrB W wr r x y) (o : Obj) : FrB W (wr.alloc o) r x y := h.below ((Below.refl _ _).alloc (Nat.le_refl _) o)
theorem FrB.new (hb : Below W.heap.size W wr) (x y : Value) : FrB W (wr.alloc (.cells #[x, y] 25)) wr.heap.size x y :=
  ⟨heap_alloc_new _ _, hb.alloc hb.size _, hb.size⟩
end
/-- a block of two cells -/
structure Q2 (w : World) (q : Nat) (a b : Value) : Prop where
  lt : q < w.heap.size
  c : w.cell? ⟨q, 0, none⟩ = some a ∧ w.cell? ⟨q, 1, none⟩ = some b
theorem Q2.below {w w' : World} {q : Nat} {a b : Value} (h : Q2 w q a b) (hb : Below w.heap.size w w') : Q2 w' q a b :=
  ⟨Nat.lt_of_lt_of_le h.lt hb.size, (hb.cell (p := ⟨q, 0, none⟩) h.lt).trans h.c.1, (hb.cell (p := ⟨q, 1, none⟩) h.lt).trans h.c.2⟩
theorem Q2.new (w : World) (a b : Value) (t : TypeId) : Q2 (w.alloc (.cells #[a, b] t)) w.heap.size a b :=
  have h := blk2 (heap_alloc_new w (.cells #[a, b] t))
  ⟨by simp, h.1, h.2.1⟩
theorem two_blocksF (W : World) (x y : Array Value) (t s : TypeId) : ((W.alloc (.cells x t)).alloc (.cells y s)).heap[W.heap.size]? = some (.cells x t (0, 0)) ∧ ((W.alloc (.cells x t)).alloc (.cells y s)).heap[W.heap.size + 1]? = some (.cells y s (0, 0)) ∧ Below W.heap.size W ((W.alloc (.cells x t)).alloc (.cells y s)) := by
  have h1 := (Below.refl W.heap.size W).alloc (Nat.le_refl _) (.cells x t)
  have hz : (W.alloc (.cells x t)).heap.size = W.heap.size + 1 := by simp
  have h2 := (Below.refl (W.alloc (.cells x t)).heap.size (W.alloc (.cells x t))).alloc (Nat.le_refl _) (.cells y s)
  have h3 := heap_alloc_new (W.alloc (.cells x t)) (.cells y s)
  rw [hz] at h3
  exact ⟨(h2.block _ (by omega)).trans (heap_alloc_new W _), h3, h1.trans (h2.mono h1.size)⟩
theorem three_blocks (W : World) (a b c d x y : Value) (t : TypeId) :
    (((((W.alloc (.cells #[a, b] t)).alloc (.cells #[c, d] t)).alloc (.cells #[x, y] t)).cell? ⟨W.heap.size, 0, none⟩ = some a ∧ (((W.alloc (.cells #[a, b] t)).alloc (.cells #[c, d] t)).alloc (.cells #[x, y] t)).cell? ⟨W.heap.size, 1, none⟩ = some b)) ∧
    (((((W.alloc (.cells #[a, b] t)).alloc (.cells #[c, d] t)).alloc (.cells #[x, y] t)).cell? ⟨W.heap.size + 1, 0, none⟩ = some c ∧ (((W.alloc (.cells #[a, b] t)).alloc (.cells #[c, d] t)).alloc (.cells #[x, y] t)).cell? ⟨W.heap.size + 1, 1, none⟩ = some d)) ∧
    ((((W.alloc (.cells #[a, b] t)).alloc (.cells #[c, d] t)).alloc (.cells #[x, y] t)).heap[W.heap.size + 1 + 1]? = some (.cells #[x, y] t (0, 0))) ∧ Below W.heap.size W (((W.alloc (.cells #[a, b] t)).alloc (.cells #[c, d] t)).alloc (.cells #[x, y] t)) := by
  obtain ⟨h1, h2, h3⟩ := two_blocksF W #[a, b] #[c, d] t t
  have hz : ((W.alloc (.cells #[a, b] t)).alloc (.cells #[c, d] t)).heap.size = W.heap.size + 1 + 1 := by simp
  generalize (W.alloc (.cells #[a, b] t)).alloc (.cells #[c, d] t) = w2 at *
  have hb := (Below.refl w2.heap.size w2).alloc (Nat.le_refl _) (.cells #[x, y] t)
  have k1 := blk2 ((hb.block _ (by omega)).trans h1)
  have k2 := blk2 ((hb.block _ (by omega)).trans h2)
  have k3 := heap_alloc_new w2 (.cells #[x, y] t)
  rw [hz] at k3
  exact ⟨⟨k1.1, k1.2.1⟩, ⟨k2.1, k2.2.1⟩, k3, h3.trans (hb.mono (by omega))⟩
set_option maxRecDepth 100000 in
set_option maxHeartbeats 3200000 in
theorem sum_any (a c : Int) (M : Nat) (w : World) (hM : 0 < M) (hMb : M ≤ 2305843009213693952) (ha : a.natAbs ≤ 2305843009213693952) (hc : c.natAbs ≤ 2305843009213693952) :
    Calls Tryd.prog 50 #[aggQ (lowN a M) (lowD a M : Int), aggQ (lowN c M) (lowD c M : Int)] w (RetQ (lowN (a + c) M) (lowD (a + c) M) w) := by
  obtain ⟨p1, p2, pg, pl, q1, q2, m1, m2, b1, b2, b3, b4, he⟩ := addQ_low a c hM
  unfold addQ low at *
  dsimp only at *
  generalize lowN a M = n1 at *
  generalize lowD a M = d1 at *
  generalize lowN c M = n2 at *
  generalize lowD c M = d2 at *
  have e1 : Int.tdiv (d2 : Int) (Nat.gcd d1 d2 : Int) = ((d2 / Nat.gcd d1 d2 : Nat) : Int) := by rw [Int.tdiv_eq_ediv_of_nonneg (by omega)]; exact (Int.natCast_ediv _ _).symm
  have e2 : Int.tdiv (d1 : Int) (Nat.gcd d1 d2 : Int) = ((d1 / Nat.gcd d1 d2 : Nat) : Int) := by rw [Int.tdiv_eq_ediv_of_nonneg (by omega)]; exact (Int.natCast_ediv _ _).symm
  have e3 : (d2 : Int) / (Nat.gcd d1 d2 : Int) = ((d2 / Nat.gcd d1 d2 : Nat) : Int) := (Int.natCast_ediv _ _).symm
  have e4 : (d1 : Int) / (Nat.gcd d1 d2 : Int) = ((d1 / Nat.gcd d1 d2 : Nat) : Int) := (Int.natCast_ediv _ _).symm
  have HG := Lib.hid (fun wx => divisor_any d1 d2 wx (by omega) (by omega))
  generalize Nat.gcd d1 d2 = g at *
  generalize d2 / g = x2 at *
  generalize d1 / g = x1 at *
  have eL : (x1 : Int) * (d2 : Int) = ((x1 * d2 : Nat) : Int) := (Int.natCast_mul _ _).symm
  generalize hP1 : n1 * (x2 : Int) = P1 at *
  generalize hP2 : n2 * (x1 : Int) = P2 at *
  generalize hL : x1 * d2 = L at *
  obtain ⟨he1, he2⟩ := Prod.mk.inj he
  rw [← he1, ← he2]
  have hw1 : IntKind.i64.wrap (n1 * (x2 : Int)) = P1 := by rw [hP1]; exact IntWalk.i64_in _ (by omega)
  have hw2 : IntKind.i64.wrap (n2 * (x1 : Int)) = P2 := by rw [hP2]; exact IntWalk.i64_in _ (by omega)
  have hw3 : IntKind.i64.wrap (P1 + P2) = P1 + P2 := IntWalk.i64_in _ (by omega)
  have hw4 : IntKind.i64.wrap (L : Int) = (L : Int) := IntWalk.i64_in _ (by omega)
  have hw5 : IntKind.i64.wrap (x1 : Int) = (x1 : Int) := IntWalk.i64_in _ (by omega)
  have hw6 : IntKind.i64.wrap (x2 : Int) = (x2 : Int) := IntWalk.i64_in _ (by omega)
  have hg0 : (g : Int) ≠ 0 := by omega
  have hg1 : (0 : Int) < (g : Int) := by omega
  have hgn : g ≠ 0 := by omega
  have HL := Lib.hid (fun wx => lowest_any (P1 + P2) L wx (by omega) (by omega) pl)
  unfold RetQ at HL
  obtain ⟨⟨c0, c1⟩, ⟨c2, c3⟩, hr, hb⟩ := three_blocks w (.int .i64 n1) (.int .i64 (d1 : Int)) (.int .i64 n2) (.int .i64 (d2 : Int)) (.int .i64 0) (.int .i64 0) 25
  have HR := Lib.hid (show FrB w _ (w.heap.size + 1 + 1) _ _ from ⟨hr, hb, by omega⟩)
  clear he he1 he2 b1 b2 b3 b4 hP1 hP2 hL p1 p2 pg pl q1 q2 m1 m2 hMb ha hc hM hr hb
  go_enter Tryd.func50, Tryd.ntmps50
  go_upto_region 1 with (fail)
  generalize ((w.alloc (.cells #[.int .i64 n1, .int .i64 (d1 : Int)] 25)).alloc (.cells #[.int .i64 n2, .int .i64 (d2 : Int)] 25)).alloc (.cells #[.int .i64 0, .int .i64 0] 25) = w3 at *
  go_wp2_with fail
  refine (HG.out _).mono ?_; rintro e w2 ⟨rfl, k, rfl⟩
  have HR2 := Lib.hid (HR.out.drewN k)
  clear HR
  go_upto_region 2 with (fail)
  obtain ⟨w4, hw4⟩ : ∃ w4, w4 = w3.drewN k := ⟨_, rfl⟩
  rw [← hw4] at HR2
  have c0 : w4.cell? ⟨w.heap.size, 0, none⟩ = some (.int .i64 n1) := by rw [hw4]; exact c0
  have c1 : w4.cell? ⟨w.heap.size, 1, none⟩ = some (.int .i64 (d1 : Int)) := by rw [hw4]; exact c1
  have c2 : w4.cell? ⟨w.heap.size + 1, 0, none⟩ = some (.int .i64 n2) := by rw [hw4]; exact c2
  have c3 : w4.cell? ⟨w.heap.size + 1, 1, none⟩ = some (.int .i64 (d2 : Int)) := by rw [hw4]; exact c3
  rw [← hw4]
  clear hw4
  refine wp_region_noPanic ?_
  refine wp_region_L [23,22] (fun w' => w'.cell? ⟨w.heap.size, 0, none⟩ = some (.int .i64 n1) ∧ w'.cell? ⟨w.heap.size, 1, none⟩ = some (.int .i64 (d1 : Int)) ∧ w'.cell? ⟨w.heap.size + 1, 0, none⟩ = some (.int .i64 n2) ∧ w'.cell? ⟨w.heap.size + 1, 1, none⟩ = some (.int .i64 (d2 : Int))) (by kernel_rfl) (⟨c0, c1, c2, c3⟩) (fun hHeld => ?_)
  refine take_F (i := 0) (d := some 11) (v := ?_) (by kernel_rfl) (by kernel_rfl) rfl rfl (by kernel_rfl) (by kernel_rfl) (by kernel_rfl) (fun _ _ _ h => h) (Or.inl ⟨by rfl, ?_⟩) (by assumption) ?_
  rotate_left
  · (intro w hSw; (try dsimp only at hSw); go_simp; (try rw [if_neg (by omega)]); (try (with_reducible rfl)))
  simp only [Act.put, List.setIfInBounds_toArray, List.set_cons_zero, List.set_cons_succ]
  refine take_L [14,6,1] (i := 1) (d := some 12) (v := ?_) (by kernel_rfl) (by kernel_rfl) (by kernel_rfl) (by kernel_rfl) rfl rfl (by kernel_rfl) (by kernel_rfl) (by kernel_rfl) (fun _ _ _ h => h) (Or.inl ⟨by rfl, ?_⟩) (by assumption) ?_
  rotate_left
  · (intro w hSw; (try dsimp only at hSw); go_simp; (try rw [if_neg (by omega)]); (try (with_reducible rfl)))
  simp only [Act.put, List.setIfInBounds_toArray, List.set_cons_zero, List.set_cons_succ]
  refine take_F (i := 2) (d := some 13) (v := ?_) (by kernel_rfl) (by kernel_rfl) rfl rfl (by kernel_rfl) (by kernel_rfl) (by kernel_rfl) (fun _ _ _ h => h) (Or.inl ⟨by rfl, ?_⟩) (by assumption) ?_
  rotate_left
  · (intro w hSw; (try dsimp only at hSw); go_simp; (try rw [if_neg (by omega)]); (try (with_reducible rfl)))
  simp only [Act.put, List.setIfInBounds_toArray, List.set_cons_zero, List.set_cons_succ]
  refine take_L [14,6,5,3] (i := 3) (d := some 14) (v := ?_) (by kernel_rfl) (by kernel_rfl) (by kernel_rfl) (by kernel_rfl) rfl rfl (by kernel_rfl) (by kernel_rfl) (by kernel_rfl) (fun _ _ _ h => h) (Or.inl ⟨by rfl, ?_⟩) (by assumption) ?_
  rotate_left
  · (intro w hSw; (try dsimp only at hSw); go_simp; (try rw [if_neg (by omega)]); (try (with_reducible rfl)))
  simp only [Act.put, List.setIfInBounds_toArray, List.set_cons_zero, List.set_cons_succ]
  refine take_F (i := 4) (d := some 15) (v := ?_) (by kernel_rfl) (by kernel_rfl) rfl rfl (by kernel_rfl) (by kernel_rfl) (by kernel_rfl) (fun _ _ _ h => h) (Or.inl ⟨by rfl, ?_⟩) (by assumption) ?_
  rotate_left
  · (intro w hSw; (try dsimp only at hSw); go_simp; (try rw [if_neg (by omega)]); (try (with_reducible rfl)))
  simp only [Act.put, List.setIfInBounds_toArray, List.set_cons_zero, List.set_cons_succ]
  refine take_F (i := 5) (d := some 16) (v := ?_) (by kernel_rfl) (by kernel_rfl) rfl rfl (by kernel_rfl) (by kernel_rfl) (by kernel_rfl) (fun _ _ _ h => h) (Or.inl ⟨by rfl, ?_⟩) (by assumption) ?_
  rotate_left
  · (intro w hSw; (try dsimp only at hSw); go_simp; (try rw [if_neg (by omega)]); (try (with_reducible rfl)))
  simp only [Act.put, List.setIfInBounds_toArray, List.set_cons_zero, List.set_cons_succ]
  refine take_F (i := 6) (d := some 17) (v := ?_) (by kernel_rfl) (by kernel_rfl) rfl rfl (by kernel_rfl) (by kernel_rfl) (by kernel_rfl) (fun _ _ _ h => h) (Or.inl ⟨by rfl, ?_⟩) (by assumption) ?_
  rotate_left
  · (intro w hSw; (try dsimp only at hSw); go_simp; (try rw [if_neg (by omega)]); (try (with_reducible rfl)))
  simp only [Act.put, List.setIfInBounds_toArray, List.set_cons_zero, List.set_cons_succ]
  refine take_F (i := 7) (d := some 18) (v := ?_) (by kernel_rfl) (by kernel_rfl) rfl rfl (by kernel_rfl) (by kernel_rfl) (by kernel_rfl) (fun _ _ _ h => h) (Or.inl ⟨by rfl, ?_⟩) (by assumption) ?_
  rotate_left
  · (intro w hSw; (try dsimp only at hSw); go_simp; (try rw [if_neg (by omega)]); (try (with_reducible rfl)))
  simp only [Act.put, List.setIfInBounds_toArray, List.set_cons_zero, List.set_cons_succ]
  refine take_L [14,13,8] (i := 8) (d := some 19) (v := ?_) (by kernel_rfl) (by kernel_rfl) (by kernel_rfl) (by kernel_rfl) rfl rfl (by kernel_rfl) (by kernel_rfl) (by kernel_rfl) (fun _ _ _ h => h) (Or.inl ⟨by rfl, ?_⟩) (by assumption) ?_
  rotate_left
  · (intro w hSw; (try dsimp only at hSw); go_simp; (try rw [if_neg (by omega)]); (try (with_reducible rfl)))
  simp only [Act.put, List.setIfInBounds_toArray, List.set_cons_zero, List.set_cons_succ]
  refine take_F (i := 9) (d := some 20) (v := ?_) (by kernel_rfl) (by kernel_rfl) rfl rfl (by kernel_rfl) (by kernel_rfl) (by kernel_rfl) (fun _ _ _ h => h) (Or.inl ⟨by rfl, ?_⟩) (by assumption) ?_
  rotate_left
  · (intro w hSw; (try dsimp only at hSw); go_simp; (try rw [if_neg (by omega)]); (try (with_reducible rfl)))
  simp only [Act.put, List.setIfInBounds_toArray, List.set_cons_zero, List.set_cons_succ]
  refine take_L [14,13,12,10] (i := 10) (d := some 21) (v := ?_) (by kernel_rfl) (by kernel_rfl) (by kernel_rfl) (by kernel_rfl) rfl rfl (by kernel_rfl) (by kernel_rfl) (by kernel_rfl) (fun _ _ _ h => h) (Or.inl ⟨by rfl, ?_⟩) (by assumption) ?_
  rotate_left
  · (intro w hSw; (try dsimp only at hSw); go_simp; (try rw [if_neg (by omega)]); (try (with_reducible rfl)))
  simp only [Act.put, List.setIfInBounds_toArray, List.set_cons_zero, List.set_cons_succ]
  refine take_F (i := 11) (d := some 22) (v := ?_) (by kernel_rfl) (by kernel_rfl) rfl rfl (by kernel_rfl) (by kernel_rfl) (by kernel_rfl) (fun _ _ _ h => h) (Or.inl ⟨by rfl, ?_⟩) (by assumption) ?_
  rotate_left
  · (intro w hSw; (try dsimp only at hSw); go_simp; (try rw [if_neg (by omega)]); (try (with_reducible rfl)))
  simp only [Act.put, List.setIfInBounds_toArray, List.set_cons_zero, List.set_cons_succ]
  refine take_F (i := 12) (d := some 23) (v := ?_) (by kernel_rfl) (by kernel_rfl) rfl rfl (by kernel_rfl) (by kernel_rfl) (by kernel_rfl) (fun _ _ _ h => h) (Or.inl ⟨by rfl, ?_⟩) (by assumption) ?_
  rotate_left
  · (intro w hSw; (try dsimp only at hSw); go_simp; (try rw [if_neg (by omega)]); (try (with_reducible rfl)))
  simp only [Act.put, List.setIfInBounds_toArray, List.set_cons_zero, List.set_cons_succ]
  refine take_F (i := 13) (d := some 24) (v := ?_) (by kernel_rfl) (by kernel_rfl) rfl rfl (by kernel_rfl) (by kernel_rfl) (by kernel_rfl) (fun _ _ _ h => h) (Or.inl ⟨by rfl, ?_⟩) (by assumption) ?_
  rotate_left
  · (intro w hSw; (try dsimp only at hSw); go_simp; (try rw [if_neg (by omega)]); (try (with_reducible rfl)))
  simp only [Act.put, List.setIfInBounds_toArray, List.set_cons_zero, List.set_cons_succ]
  refine take_F (i := 14) (d := some 25) (v := ?_) (by kernel_rfl) (by kernel_rfl) rfl rfl (by kernel_rfl) (by kernel_rfl) (by kernel_rfl) (fun _ _ _ h => h) (Or.inl ⟨by rfl, ?_⟩) (by assumption) ?_
  rotate_left
  · (intro w hSw; (try dsimp only at hSw); go_simp; (try rw [if_neg (by omega)]); (try (with_reducible rfl)))
  simp only [Act.put, List.setIfInBounds_toArray, List.set_cons_zero, List.set_cons_succ]
  refine take_F (i := 15) (d := some 26) (v := ?_) (by kernel_rfl) (by kernel_rfl) rfl rfl (by kernel_rfl) (by kernel_rfl) (by kernel_rfl) (fun _ _ _ h => h) (Or.inl ⟨by rfl, ?_⟩) (by assumption) ?_
  rotate_left
  · (intro w hSw; (try dsimp only at hSw); go_simp; (try rw [if_neg (by omega)]); (try (with_reducible rfl)))
  simp only [Act.put, List.setIfInBounds_toArray, List.set_cons_zero, List.set_cons_succ]
  refine take_L [21,18,16] (i := 16) (d := some 27) (v := ?_) (by kernel_rfl) (by kernel_rfl) (by kernel_rfl) (by kernel_rfl) rfl rfl (by kernel_rfl) (by kernel_rfl) (by kernel_rfl) (fun _ _ _ h => h) (Or.inl ⟨by rfl, ?_⟩) (by assumption) ?_
  rotate_left
  · (intro w hSw; (try dsimp only at hSw); go_simp; (try rw [if_neg (by omega)]); (try (with_reducible rfl)))
  simp only [Act.put, List.setIfInBounds_toArray, List.set_cons_zero, List.set_cons_succ]
  refine take_F (i := 17) (d := some 28) (v := ?_) (by kernel_rfl) (by kernel_rfl) rfl rfl (by kernel_rfl) (by kernel_rfl) (by kernel_rfl) (fun _ _ _ h => h) (Or.inl ⟨by rfl, ?_⟩) (by assumption) ?_
  rotate_left
  · (intro w hSw; (try dsimp only at hSw); go_simp; (try rw [if_neg (by omega)]); (try (with_reducible rfl)))
  simp only [Act.put, List.setIfInBounds_toArray, List.set_cons_zero, List.set_cons_succ]
  refine take_F (i := 18) (d := some 29) (v := ?_) (by kernel_rfl) (by kernel_rfl) rfl rfl (by kernel_rfl) (by kernel_rfl) (by kernel_rfl) (fun _ _ _ h => h) (Or.inl ⟨by rfl, ?_⟩) (by assumption) ?_
  rotate_left
  · (intro w hSw; (try dsimp only at hSw); go_simp; (try rw [if_neg (by omega)]); (try (with_reducible rfl)))
  simp only [Act.put, List.setIfInBounds_toArray, List.set_cons_zero, List.set_cons_succ]
  refine take_F (i := 19) (d := some 30) (v := ?_) (by kernel_rfl) (by kernel_rfl) rfl rfl (by kernel_rfl) (by kernel_rfl) (by kernel_rfl) (fun _ _ _ h => h) (Or.inl ⟨by rfl, ?_⟩) (by assumption) ?_
  rotate_left
  · (intro w hSw; (try dsimp only at hSw); go_simp; (try rw [if_neg (by omega)]); (try (with_reducible rfl)))
  simp only [Act.put, List.setIfInBounds_toArray, List.set_cons_zero, List.set_cons_succ]
  refine take_L [21,20] (i := 20) (d := some 31) (v := ?_) (by kernel_rfl) (by kernel_rfl) (by kernel_rfl) (by kernel_rfl) rfl rfl (by kernel_rfl) (by kernel_rfl) (by kernel_rfl) (fun _ _ _ h => h) (Or.inl ⟨by rfl, ?_⟩) (by assumption) ?_
  rotate_left
  · (intro w hSw; (try dsimp only at hSw); go_simp; (try rw [if_neg (by omega)]); (try (with_reducible rfl)))
  simp only [Act.put, List.setIfInBounds_toArray, List.set_cons_zero, List.set_cons_succ]
  refine take_F (i := 21) (d := some 32) (v := ?_) (by kernel_rfl) (by kernel_rfl) rfl rfl (by kernel_rfl) (by kernel_rfl) (by kernel_rfl) (fun _ _ _ h => h) (Or.inl ⟨by rfl, ?_⟩) (by assumption) ?_
  rotate_left
  · (intro w hSw; (try dsimp only at hSw); go_simp; (try rw [if_neg (by omega)]); (try (with_reducible rfl)))
  simp only [Act.put, List.setIfInBounds_toArray, List.set_cons_zero, List.set_cons_succ]
  refine late_L (i := 22) (d := (some 33)) (by kernel_rfl) rfl rfl (by kernel_rfl) (fun Kq hKq => ?_)
  go_simp
  go_at_call 59
  refine (HL.out _).mono ?_; rintro e w5 ⟨rfl, hb5⟩
  have HR5 := Lib.hid (HR2.out.below (below_undrew hb5))
  obtain ⟨_, _, f0, f1⟩ := blk2 HR5.out.res
  (try go_wp2_with fail)
  refine hKq.out _ _ ?_
  clear hKq Kq
  refine late_L (i := 23) (d := none) (by kernel_rfl) rfl rfl (by kernel_rfl) (fun Kq hKq => ?_)
  go_simp
  refine hKq.out _ _ ?_
  clear hKq Kq
  refine done_L (by kernel_rfl) ?_ _
  refine NoPanic.normal ?_
  have HR6 := Lib.hid (HR5.out.put (.int .i64 (lowN (P1 + P2) L)) (.int .i64 (lowD (P1 + P2) L : Int)))
  go_wp2_with fail
  obtain ⟨k0, k1, _, _⟩ := blk2 HR6.out.res
  exact bodyPost_ret (v := aggQ (lowN (P1 + P2) L) (lowD (P1 + P2) L : Int)) (by simp [results, Tryd.results50, go_sem, k0, k1]) rfl ⟨rfl, HR6.out.bel⟩
/-- the whole from the parts -/
theorem low_part (a : Int) {M : Nat} (hM : 0 < M) : lowN a M * ((M / lowD a M : Nat) : Int) = a := by
  have h1 := low_eq (N := a) hM
  have hd := low_pos (N := a) hM
  obtain ⟨r, hr⟩ := low_dvd a M
  have e1 : M / lowD a M = r := Nat.div_eq_of_eq_mul_right hd hr
  rw [e1]
  refine Int.eq_of_mul_eq_mul_right (show (lowD a M : Int) ≠ 0 by omega) ?_
  rw [← h1]
  have h2 : (M : Int) = (lowD a M : Int) * (r : Int) := by rw [← Int.natCast_mul]; exact congrArg Nat.cast hr
  rw [h2]
  generalize lowN a M = x
  generalize lowD a M = y
  rw [Int.mul_assoc, Int.mul_comm (r : Int)]
end Go.Proofs.YtmeenihnhfhbkaaDoor
/- Errors of tables, part 2: lists that are checked. -/
namespace Go.Proofs.YtmeenihnhfhbkaaDoor
open Go.RowKit Go.Joins

theorem ret_bool {a b : Bool} (h : a = b) : Ending.returned (.bool a) = .returned (.bool b) := by rw [h]
def allN (n : Nat) (f : Nat → Bool) : Bool := (List.range n).all f
theorem allN_bad {n : Nat} {f : Nat → Bool} (k : Nat) (hk : k < n) (h : f k = false) : allN n f = false := by
  unfold allN
  rw [List.all_eq_false]
  exact ⟨k, List.mem_range.2 hk, by simp [h]⟩
theorem allN_zero (f : Nat → Bool) : allN 0 f = true := rfl
theorem allN_step {f : Nat → Bool} {k : Nat} (h0 : allN k f = true) (h : f k = true) : allN (k + 1) f = true := by
  unfold allN at *
  rw [List.range_succ, List.all_append, h0]
  simp [h]
theorem allN_get {f : Nat → Bool} {n k : Nat} (h : allN n f = true) (hk : k < n) : f k = true := List.all_eq_true.1 h k (List.mem_range.2 hk)
theorem allN_congr {f g : Nat → Bool} {n : Nat} (h : ∀ i, i < n → f i = g i) : allN n f = allN n g := by
  induction n with
  | zero => rfl
  | succ n ih =>
    unfold allN at *
    rw [List.range_succ, List.all_append, List.all_append, ih (fun i hi => h i (by omega))]
    simp [h n (by omega)]
/-- the code of values and a unit -/
def rc (n : Nat) (f : Nat → Int) (u : Int) : Int := if allN n (fun i => inB (f i) (-1000000000000) 1000000000000) then (if inB u 1 1000000 then (if 200 < n then 5 else 0) else 2) else 2
theorem rc_bad {n : Nat} {f : Nat → Int} {u : Int} (h : allN n (fun i => inB (f i) (-1000000000000) 1000000000000) = false) : rc n f u = 2 := by unfold rc; rw [h]; rfl
theorem rc_unit {n : Nat} {f : Nat → Int} {u : Int} (h : inB u 1 1000000 = false) : rc n f u = 2 := by unfold rc; rw [h]; split <;> rfl
theorem rc_end {n : Nat} {f : Nat → Int} {u : Int} (h : allN n (fun i => inB (f i) (-1000000000000) 1000000000000) = true) (h2 : inB u 1 1000000 = true) : rc n f u = if 200 < n then 5 else 0 := by unfold rc; rw [h, h2]; rfl
theorem rc_ok {n : Nat} {f : Nat → Int} {u : Int} (h : rc n f u = 0) : (∀ i, i < n → -1000000000000 ≤ f i ∧ f i ≤ 1000000000000) ∧ (1 ≤ u ∧ u ≤ 1000000) ∧ n ≤ 200 := by
  unfold rc at h
  split at h
  · rename_i h1
    split at h
    · rename_i h2
      split at h
      · cases h
      · exact ⟨fun i hi => inB_iff.1 (allN_get h1 hi), inB_iff.1 h2, by omega⟩
    · cases h
  · cases h
theorem rc_cases (n : Nat) (f : Nat → Int) (u : Int) : rc n f u = 0 ∨ rc n f u = 2 ∨ rc n f u = 5 := by
  unfold rc
  split
  · split
    · split
      · exact .inr (.inr rfl)
      · exact .inl rfl
    · exact .inr (.inl rfl)
  · exact .inr (.inl rfl)
def slipB (n : Nat) (f : Nat → Int) : Bool := allN n (fun i => inB (f i) 0 1000000) && inB n 1 9
theorem slipB_bad {n : Nat} {f : Nat → Int} (h : allN n (fun i => inB (f i) 0 1000000) = false) : slipB n f = false := by unfold slipB; rw [h]; rfl
theorem slipB_end {n : Nat} {f : Nat → Int} (h : allN n (fun i => inB (f i) 0 1000000) = true) : slipB n f = inB n 1 9 := by unfold slipB; rw [h]; rfl
theorem slipB_ok {n : Nat} {f : Nat → Int} (h : slipB n f = true) : (∀ i, i < n → 0 ≤ f i ∧ f i ≤ 1000000) ∧ 1 ≤ n ∧ n ≤ 9 := by
  unfold slipB at h
  rw [Bool.and_eq_true] at h
  have := inB_iff.1 h.2
  exact ⟨fun i hi => inB_iff.1 (allN_get h.1 hi), by omega, by omega⟩
end Go.Proofs.YtmeenihnhfhbkaaDoor
/- Finer tables, part 4: tests of values, and their first differences in the reference. -/
namespace Go.Proofs.YtmeenihnhfhbkaaDoor
open Go.RowKit Go.Joins

/-- known values -/
def knownB (n : Nat) (f : Nat → Int) : Bool := allN n (fun i => inB (f i) (-100000) 100000) && inB n 1 6
theorem knownB_bad {n : Nat} {f : Nat → Int} (h : allN n (fun i => inB (f i) (-100000) 100000) = false) : knownB n f = false := by unfold knownB; rw [h]; rfl
theorem knownB_end {n : Nat} {f : Nat → Int} (h : allN n (fun i => inB (f i) (-100000) 100000) = true) : knownB n f = inB n 1 6 := by unfold knownB; rw [h]; rfl
theorem knownB_ok {n : Nat} {f : Nat → Int} (h : knownB n f = true) : Small 100000 n f ∧ 1 ≤ n ∧ n ≤ 6 := by
  unfold knownB at h
  rw [Bool.and_eq_true] at h
  have := inB_iff.1 h.2
  exact ⟨fun i hi => by have := inB_iff.1 (allN_get h.1 hi); omega, by omega, by omega⟩
end Go.Proofs.YtmeenihnhfhbkaaDoor
/- Finer tables, part 5: values of a polynomial between its points. -/
namespace Go.Proofs.YtmeenihnhfhbkaaDoor
open Go.RowKit Go.Joins

/-- leads, a place and a number of parts that are not too great -/
structure VB (L : Nat → Int) (x : Int) (q n : Nat) : Prop where
  n1 : 1 ≤ n
  n6 : n ≤ 6
  q1 : 1 ≤ q
  q20 : q ≤ 20
  x1 : -120 ≤ x
  x2 : x ≤ 120
  lds : Lds L n
theorem kq_le {k q : Nat} (hk : k ≤ 5) (hq : q ≤ 20) : (k : Int) * (q : Int) ≤ 100 ∧ 0 ≤ (k : Int) * (q : Int) := by
  have := Nat.mul_le_mul hk hq
  rw [← Int.natCast_mul]
  omega
section
variable {L : Nat → Int} {x : Int} {q n : Nat}
theorem VB.R (h : VB L x q n) : ∀ k, k < n - 1 → (x - (k : Int) * (q : Int)).natAbs ≤ 200 := by
  intro k hk
  have h6 := h.n6
  have h1 := kq_le (k := k) (q := q) (by omega) h.q20
  have h2 := kq_le (k := 4) (q := q) (by omega) h.q20
  have h3 : (k : Int) * (q : Int) ≤ 4 * (q : Int) := Int.mul_le_mul_of_nonneg_right (by omega) (by omega)
  have := h.x1
  have := h.x2
  have := h.q20
  omega
theorem VB.Q (h : VB L x q n) : q * (n - 1) ≤ 100 := Nat.le_trans (Nat.mul_le_mul h.q20 (show n - 1 ≤ 5 by have := h.n6; omega)) (by omega)
theorem pow200 {m : Nat} (h : m ≤ 5) : 200 ^ m ≤ 320000000000 := Nat.le_trans (Nat.pow_le_pow_right (by omega) h) (by decide)
theorem pow100 {m : Nat} (h : m ≤ 5) : 100 ^ m ≤ 10000000000 := Nat.le_trans (Nat.pow_le_pow_right (by omega) h) (by decide)
theorem pow2k {k : Nat} (h : k ≤ 5) : 2 ^ k ≤ 32 := Nat.le_trans (Nat.pow_le_pow_right (by omega) h) (by decide)
theorem VB.ab (h : VB L x q n) (k : Nat) (hk : k ≤ n - 1) : (abv x q k).natAbs ≤ 320000000000 := Nat.le_trans (abv_bd h.R k hk) (pow200 (by have := h.n6; omega))
theorem VB.be (h : VB L x q n) (k : Nat) (hk : k ≤ n - 1) : bel q k ≤ 10000000000 := Nat.le_trans (bel_bd h.Q k hk) (pow100 (by have := h.n6; omega))
theorem VB.belp (h : VB L x q n) (k : Nat) : 0 < bel q k := bel_pos h.q1 k
theorem VB.ld (h : VB L x q n) (k : Nat) (hk : k < n) : (L k).natAbs ≤ 3200000 := Nat.le_trans (h.lds k hk) (by have := pow2k (k := k) (by have := h.n6; omega); omega)
theorem VB.la (h : VB L x q n) (k : Nat) (hk : k < n) : (L k * abv x q k).natAbs ≤ 1024000000000000000 := by
  rw [Int.natAbs_mul]
  exact Nat.le_trans (Nat.mul_le_mul (h.ld k hk) (h.ab k (by omega))) (by omega)
theorem VB.tr (h : VB L x q n) (k : Nat) (hk : k < n) : (trm x q (n - 1) k).natAbs ≤ 320000000000 :=
  Nat.le_trans (trm_bd h.q1 (Nat.le_trans h.Q (by omega)) h.R k (by omega)) (pow200 (by have := h.n6; omega))
theorem VB.lt (h : VB L x q n) (k : Nat) (hk : k < n) : (L k * trm x q (n - 1) k).natAbs ≤ 1024000000000000000 := by
  rw [Int.natAbs_mul]
  exact Nat.le_trans (Nat.mul_le_mul (h.ld k hk) (h.tr k hk)) (by omega)
theorem VB.sq (h : VB L x q n) (k : Nat) (hk : k ≤ n) : (smQ L x q (n - 1) k).natAbs ≤ 2016000000000000000 := by
  have h1 := smQ_bd h.q1 (Nat.le_trans h.Q (by omega)) h.R h.lds (by have := h.n1; omega) k hk
  have h6 := h.n6
  have h2 : 2 ^ k ≤ 64 := Nat.le_trans (Nat.pow_le_pow_right (by omega) (show k ≤ 6 by omega)) (by decide)
  have h3 := pow200 (m := n - 1) (by omega)
  exact Nat.le_trans h1 (Nat.le_trans (Nat.mul_le_mul (show 2 ^ k - 1 ≤ 63 by omega) (Nat.mul_le_mul (Nat.le_refl 100000) h3)) (by omega))
end
/-- the value at x / q -/
def vaN (L : Nat → Int) (x : Int) (q n : Nat) : Int := lowN (smQ L x q (n - 1) n) (bel q (n - 1))
def vaD (L : Nat → Int) (x : Int) (q n : Nat) : Nat := lowD (smQ L x q (n - 1) n) (bel q (n - 1))
theorem FrB.pair (w : World) (x y a b : Value) : FrB w ((w.alloc (.cells #[x, y] 25)).alloc (.cells #[a, b] 25)) w.heap.size x y ∧ FrB w ((w.alloc (.cells #[x, y] 25)).alloc (.cells #[a, b] 25)) (w.heap.size + 1) a b := by
  obtain ⟨h1, h2, h3⟩ := two_blocksF w #[x, y] #[a, b] 25 25
  exact ⟨⟨h1, h3, by omega⟩, ⟨h2, h3, by omega⟩⟩

theorem FrB.othr {W wr : World} {r r2 : Nat} {x y : Value} (h : FrB W wr r x y) (hr : r2 ≠ r) (a b : Value) (hl : W.heap.size ≤ r2 := by omega) : FrB W ((wr.setCell ⟨r2, 0, none⟩ a).setCell ⟨r2, 1, none⟩ b) r x y :=
  ⟨((Below.heap_setCell _ _ _ _ (fun e => hr e.symm)).trans (Below.heap_setCell _ _ _ _ (fun e => hr e.symm))).trans h.res, (h.bel.setCell (p := ⟨r2, 0, none⟩) hl a).setCell (p := ⟨r2, 1, none⟩) hl b, h.lr⟩
end Go.Proofs.YtmeenihnhfhbkaaDoor
/- Finer tables, part 6: ValueBetween and LeadingDifferences, both sides. -/
namespace Go.Proofs.YtmeenihnhfhbkaaDoor
open Go.RowKit Go.Joins

/-- the first differences of values -/
def ldsF (f : Nat → Int) : Nat → Int := fun j => Dn j f 0
theorem lds_of {n : Nat} {f : Nat → Int} (h : Small 100000 n f) : Lds (ldsF f) n := by
  intro k hk
  have := Small.Dn h k 0 (by omega)
  show (Dn k f 0).natAbs ≤ _
  omega
theorem lds_sm : 2 ^ 6 * 100000 ≤ 4611686018427387903 := by decide
def codeB (n : Nat) (f : Nat → Int) (x q : Int) : Bool := knownB n f && (inB q 1 20 && inB x (-120) 120)
theorem codeB_ok {n : Nat} {f : Nat → Int} {x q : Int} (h : codeB n f x q = true) : ∃ p : Nat, q = (p : Int) ∧ Small 100000 n f ∧ VB (ldsF f) x p n := by
  unfold codeB at h
  rw [Bool.and_eq_true, Bool.and_eq_true] at h
  obtain ⟨hS, h1, h6⟩ := knownB_ok h.1
  have h2 := inB_iff.1 h.2.1
  have h3 := inB_iff.1 h.2.2
  exact ⟨q.toNat, by omega, hS, h1, h6, by omega, by omega, h3.1, h3.2, lds_of hS⟩
theorem codeB_k {n : Nat} {f : Nat → Int} {x q : Int} (h : knownB n f = false) : codeB n f x q = false := by unfold codeB; rw [h, Bool.false_and]
theorem codeB_f {n : Nat} {f : Nat → Int} {x q : Int} (h : inB q 1 20 = false) : codeB n f x q = false := by unfold codeB; rw [h, Bool.false_and, Bool.and_false]
theorem codeB_x {n : Nat} {f : Nat → Int} {x q : Int} (h : inB x (-120) 120 = false) : codeB n f x q = false := by unfold codeB; rw [h, Bool.and_false, Bool.and_false]
theorem codeB_all {n : Nat} {f : Nat → Int} {x q : Int} (h1 : knownB n f = true) (h2 : inB q 1 20 = true) (h3 : inB x (-120) 120 = true) : codeB n f x q = true := by unfold codeB; rw [h1, h2, h3]; rfl
/-- the value between: code, fraction -/
def vbOk (n : Nat) (f : Nat → Int) (x q : Int) : Bool := okQ (vaN (ldsF f) x q.toNat n) (vaD (ldsF f) x q.toNat n)
def vbC (n : Nat) (f : Nat → Int) (x q : Int) : Int := if codeB n f x q then (if vbOk n f x q then 0 else 5) else 2
def vbN (n : Nat) (f : Nat → Int) (x q : Int) : Int := if codeB n f x q && vbOk n f x q then vaN (ldsF f) x q.toNat n else 0
def vbD (n : Nat) (f : Nat → Int) (x q : Int) : Int := if codeB n f x q && vbOk n f x q then vaD (ldsF f) x q.toNat n else 0
def RetVB (n : Nat) (f : Nat → Int) (x q : Int) (w : World) (e : Ending) (w' : World) : Prop := e = .returned (.tuple #[aggQ (vbN n f x q) (vbD n f x q), .int .i64 (vbC n f x q)]) ∧ Below w.heap.size w w'
theorem vb_bad {n : Nat} {f : Nat → Int} {x q : Int} (h : codeB n f x q = false) : vbN n f x q = 0 ∧ vbD n f x q = 0 ∧ vbC n f x q = 2 := by unfold vbN vbD vbC; rw [h]; exact ⟨rfl, rfl, rfl⟩
theorem vb_full {n p : Nat} {f : Nat → Int} {x : Int} (h : codeB n f x (p : Int) = true) (h2 : okQ (vaN (ldsF f) x p n) (vaD (ldsF f) x p n) = false) : vbN n f x p = 0 ∧ vbD n f x p = 0 ∧ vbC n f x p = 5 := by
  have h3 : vbOk n f x p = false := by unfold vbOk; rw [Int.toNat_natCast]; exact h2
  unfold vbN vbD vbC; rw [h, h3]; exact ⟨rfl, rfl, rfl⟩
theorem vb_ok {n p : Nat} {f : Nat → Int} {x : Int} (h : codeB n f x (p : Int) = true) (h2 : okQ (vaN (ldsF f) x p n) (vaD (ldsF f) x p n) = true) : vbN n f x p = vaN (ldsF f) x p n ∧ vbD n f x p = vaD (ldsF f) x p n ∧ vbC n f x p = 0 := by
  have h3 : vbOk n f x p = true := by unfold vbOk; rw [Int.toNat_natCast]; exact h2
  unfold vbN vbD vbC; rw [h, h3, Int.toNat_natCast]; exact ⟨rfl, rfl, rfl⟩
/-- the first differences: a row and a code -/
def ldN (n : Nat) (f : Nat → Int) : Nat := if knownB n f then n else 0
def ldC (n : Nat) (f : Nat → Int) : Int := if knownB n f then 0 else 2
def RetLD (n : Nat) (f : Nat → Int) (w : World) (e : Ending) (w' : World) : Prop := ∃ v, e = .returned (.tuple #[v, .int .i64 (ldC n f)]) ∧ w'.ownsRow w.heap.size 2 1 v (ldN n f) (tab (ldN n f) (ldsF f)) ∧ Below w.heap.size w w'
theorem own_nil (w : World) (base : Nat) (e : TypeId) (sz : Nat) : w.ownsRow base e sz (.slice none 0 0) 0 [] := ⟨by simp, .inl ⟨rfl, rfl⟩⟩
end Go.Proofs.YtmeenihnhfhbkaaDoor
/- Finer tables, part 7: finer tables, both sides. -/
namespace Go.Proofs.YtmeenihnhfhbkaaDoor
open Go.RowKit Go.Joins

/-- the first n fractions -/
def tabQ (n : Nat) (a b : Nat → Int) : List Value := (List.range n).flatMap fun i => [.int .i64 (a i), .int .i64 (b i)]
theorem tabQ_succ (n : Nat) (a b : Nat → Int) : tabQ (n + 1) a b = tabQ n a b ++ [.int .i64 (a n), .int .i64 (b n)] := by simp [tabQ, List.range_succ]
theorem tabQ_len (a b : Nat → Int) : ∀ n, (tabQ n a b).length = n * 2
  | 0 => rfl
  | n + 1 => by rw [tabQ_succ, List.length_append, tabQ_len a b n]; simp; omega
theorem tabQ_at (a b : Nat → Int) : ∀ n k, k < n → (tabQ n a b)[k * 2]? = some (.int .i64 (a k)) ∧ (tabQ n a b)[k * 2 + 1]? = some (.int .i64 (b k))
  | 0, k, h => by omega
  | n + 1, k, h => by
    have hl := tabQ_len a b n
    rw [tabQ_succ]
    by_cases hk : k < n
    · rw [List.getElem?_append_left (by omega), List.getElem?_append_left (by omega)]
      exact tabQ_at a b n k hk
    · obtain rfl : k = n := by omega
      rw [List.getElem?_append_right (by omega), List.getElem?_append_right (by omega), hl, show k * 2 - k * 2 = 0 by omega, show k * 2 + 1 - k * 2 = 1 by omega]
      exact ⟨rfl, rfl⟩
theorem tabQ_congr {n : Nat} {a b c d : Nat → Int} (h : ∀ k, k < n → a k = c k ∧ b k = d k) : tabQ n a b = tabQ n c d := by
  unfold tabQ
  have : ∀ i ∈ List.range n, [Value.int .i64 (a i), .int .i64 (b i)] = [.int .i64 (c i), .int .i64 (d i)] := fun i hi => by
    have := h i (List.mem_range.1 hi)
    rw [this.1, this.2]
  rw [List.flatMap_def, List.flatMap_def, List.map_congr_left this]
theorem tabQ_one (n : Nat) (a b : Nat → Int) : ∀ u ∈ tabQ n a b, u.oneCell' = true := by
  intro u hu
  obtain ⟨i, _, h⟩ := List.mem_flatMap.1 hu
  simp at h
  rcases h with rfl | rfl <;> rfl
theorem rdQ_at {w : World} {B n n' c : Nat} {A : Option Addr} {a b : Nat → Int} (h : Rd w B (.slice A n' c) n 2 (tabQ n a b)) (k : Nat) (hk : k < n) :
    ∃ g o, A = some ⟨g, o, none⟩ ∧ g < B ∧ w.cell? ⟨g, o + k * 2, none⟩ = some (.int .i64 (a k)) ∧ w.cell? ⟨g, o + k * 2 + 1, none⟩ = some (.int .i64 (b k)) := by
  obtain ⟨_, A', c', hv, hc⟩ := h
  injection hv with e1 e2 e3
  subst e1
  obtain ⟨g, o, hA, hb, hcc⟩ := hc (by omega)
  obtain ⟨t1, t2⟩ := tabQ_at a b n k hk
  exact ⟨g, o, hA, hb, hcc _ _ t1, by have := hcc _ _ t2; rwa [← Nat.add_assoc] at this⟩
theorem infoQ : (Tryd.prog.info? 25).map (fun i => (i.zero, i.size, i.bytes)) = some (some (.agg #[.int .i64 0, .int .i64 0]), 2, 16) := by kernel_rfl
/-- the values of the finer table -/
def ftA (L : Nat → Int) (p n : Nat) : Nat → Int := fun i => vaN L (i : Int) p n
def ftB (L : Nat → Int) (p n : Nat) : Nat → Int := fun i => vaD L (i : Int) p n
def ftOk (L : Nat → Int) (p n : Nat) : Nat → Bool := fun i => okQ (ftA L p n i) (ftB L p n i)
/-- a row of fractions of the call's own and a code -/
def RetQs (m : Nat) (a b : Nat → Int) (code : Int) (w : World) (e : Ending) (w' : World) : Prop :=
  ∃ v, e = .returned (.tuple #[v, .int .i64 code]) ∧ w'.ownsRow w.heap.size 25 2 v m (tabQ m a b) ∧ Below w.heap.size w w'
theorem RetQs.none {a b : Nat → Int} {code : Int} {w w' : World} (h : Below w.heap.size w w') : RetQs 0 a b code w (.returned (.tuple #[.slice none 0 0, .int .i64 code])) w' := ⟨_, rfl, own_nil _ _ _ _, h⟩
/-- .. from a later world -/
theorem RetQs.from {m : Nat} {a b : Nat → Int} {code : Int} {w w1 w' : World} {e : Ending} (h : RetQs m a b code w1 e w') (hb : Below w.heap.size w w1) : RetQs m a b code w e w' := by
  obtain ⟨v, h1, h2, h3⟩ := h
  exact ⟨v, h1, ownsRow_le h2 hb.size, hb.trans (h3.mono hb.size)⟩
def finN (c : Nat) (g : Nat → Bool) : Nat := if allN c g then c else 0
def finC (c : Nat) (g : Nat → Bool) : Int := if allN c g then 0 else 5
theorem fin_bad {c : Nat} {g : Nat → Bool} (h : allN c g = false) : finN c g = 0 ∧ finC c g = 5 := by unfold finN finC; rw [h]; exact ⟨rfl, rfl⟩
theorem fin_ok {c : Nat} {g : Nat → Bool} (h : allN c g = true) : finN c g = c ∧ finC c g = 0 := by unfold finN finC; rw [h]; exact ⟨rfl, rfl⟩
/-- the finer table: code and number -/
def ftC (n : Nat) (f : Nat → Int) (p c : Int) : Int := if codeB n f 0 p && inB c 0 120 then finC c.toNat (ftOk (ldsF f) p.toNat n) else 2
def ftN (n : Nat) (f : Nat → Int) (p c : Int) : Nat := if codeB n f 0 p && inB c 0 120 then finN c.toNat (ftOk (ldsF f) p.toNat n) else 0
def RetFT (n : Nat) (f : Nat → Int) (p c : Int) (w : World) (e : Ending) (w' : World) : Prop := RetQs (ftN n f p c) (ftA (ldsF f) p.toNat n) (ftB (ldsF f) p.toNat n) (ftC n f p c) w e w'
theorem ft_bad {n : Nat} {f : Nat → Int} {p c : Int} (h : (codeB n f 0 p && inB c 0 120) = false) : ftN n f p c = 0 ∧ ftC n f p c = 2 := by unfold ftN ftC; rw [h]; exact ⟨rfl, rfl⟩
theorem ft_ok {n : Nat} {f : Nat → Int} {p c : Nat} (h : (codeB n f 0 (p : Int) && inB (c : Int) 0 120) = true) : ftN n f p c = finN c (ftOk (ldsF f) p n) ∧ ftC n f p c = finC c (ftOk (ldsF f) p n) := by unfold ftN ftC; rw [h, Int.toNat_natCast, Int.toNat_natCast]; exact ⟨rfl, rfl⟩
theorem VB.any {L : Nat → Int} {x y : Int} {q n : Nat} (h : VB L x q n) (h1 : -120 ≤ y) (h2 : y ≤ 120) : VB L y q n := ⟨h.n1, h.n6, h.q1, h.q20, h1, h2, h.lds⟩
theorem in0 : inB (0 : Int) (-120) 120 = true := by decide
theorem RetFT.bad {n : Nat} {f : Nat → Int} {p c : Int} {w w' : World} (h : (codeB n f 0 p && inB c 0 120) = false) (hb : Below w.heap.size w w') : RetFT n f p c w (.returned (.tuple #[.slice none 0 0, .int .i64 2])) w' := by
  obtain ⟨e1, e2⟩ := ft_bad h
  unfold RetFT
  rw [e1, e2]
  exact RetQs.none hb
end Go.Proofs.YtmeenihnhfhbkaaDoor
/- append to one of several own rows: where the grown row lies. -/
namespace Go.Proofs.YtmeenihnhfhbkaaDoor
open Go.RowKit Go.Joins

theorem wp_apd_at {P : Program} {w : World} {o : Oper} {a : Act} {K : Act → World → Prop} {Q : Exit → Act → World → Prop} (t e : TypeId) (z : Value) (size bytes : Nat)
    (ht : P.underlying t = some (.slice e)) (hinfo : (P.info? e).map (fun i => (i.zero, i.size, i.bytes)) = some (some z, size, bytes)) (hzs : z.cells.size = size) (hsz : 0 < size)
    (s x : Operand) (ho : o.op = .call { callee := .builtin .append, args := #[s, x], argTypes := #[t, t] })
    (base : Nat) (v : Value) (n : Nat) (xs : List Value) (hs : a.eval s = v) (hown : w.ownsRow base e size v n xs)
    (cs : Array Value) (m c : Nat) (hx : a.eval x = .slice (some ⟨w.heap.size, 0, none⟩) m c) (hl : cs.toList.length = m * size) (h1 : ∀ u ∈ cs.toList, u.oneCell' = true)
    (h63 : n + m ≤ maxLen) (hbytes : (n + m) * bytes ≤ 140737488355328) (hbase : base ≤ w.heap.size)
    (h : ∀ v' w', w'.ownsRow base e size v' (n + m) (xs ++ cs.toList) → w.grownBy w' v.ownBlock → w.heap.size + 1 ≤ w'.heap.size → (v'.ownBlock = v.ownBlock ∨ v'.ownBlock = some (w.heap.size + 1)) → K (a.put o.dst v') w') :
    o.wp P a (w.alloc (.cells cs e)) K Q := by
  obtain ⟨i, hi, hz, h2, h3⟩ := info_parts hinfo
  obtain ⟨v', w', hr, ho', hg', _, hat⟩ := run_append_own_at (P := P) (w.alloc (.cells cs e)) base t o.type e i z size bytes ht hi hz h2 h3 hzs hsz v n xs (hown.alloc _) ⟨w.heap.size, 0, none⟩ m c cs.toList hl (new_cells w cs e) h1 h63 hbytes (by simp; omega)
  unfold Oper.wp execOp
  simp only [ho, resolve, invoke, builtin, Sem.run_bind, Sem.run_pure, Result.andThen_ok, List.map_toArray, List.map_cons, List.map_nil, hs, hx, hr]
  refine h v' w' ho' ⟨hg'.os, hg'.tape, hg'.output, Nat.le_trans (by simp) hg'.size, fun k hk hne => ?_⟩ (Nat.le_trans (by simp) hg'.size) (by simpa using hat)
  rw [hg'.block k (by simp; omega) hne]
  exact Below.heap_alloc w _ k hk

/-- at a step of a region that draws, behind a call (no draw of its own) -/
theorem step_apd0_at {P : Program} {w : World} {ops : Array Oper} {o : Oper} {a : Act} {K : Act → World → Prop} {Q : Exit → Act → World → Prop} {E : Prop} (t e : TypeId) (z : Value) (size bytes : Nat)
    (ht : P.underlying t = some (.slice e)) (hinfo : (P.info? e).map (fun i => (i.zero, i.size, i.bytes)) = some (some z, size, bytes)) (hzs : z.cells.size = size) (hsz : 0 < size)
    (s x : Operand) (hgd : o.guard = none) (ho : o.op = .call { callee := .builtin .append, args := #[s, x], argTypes := #[t, t] })
    (base : Nat) (v : Value) (n : Nat) (xs : List Value) (hs : a.eval s = v) (hown : w.ownsRow base e size v n xs)
    (cs : Array Value) (m c : Nat) (hx : a.eval x = .slice (some ⟨w.heap.size, 0, none⟩) m c) (hl : cs.toList.length = m * size) (h1 : ∀ u ∈ cs.toList, u.oneCell' = true)
    (h63 : n + m ≤ maxLen) (hbytes : (n + m) * bytes ≤ 140737488355328) (hbase : base ≤ w.heap.size)
    (h : ∀ v' w', w'.ownsRow base e size v' (n + m) (xs ++ cs.toList) → w.grownBy w' v.ownBlock → w.heap.size + 1 ≤ w'.heap.size → (v'.ownBlock = v.ownBlock ∨ v'.ownBlock = some (w.heap.size + 1)) → K (a.put o.dst v') w') :
    if Region.wanted o (yielded ops a.tmps) = true then Oper.wp P o a (w.alloc (.cells cs e)) K Q else E := by
  have hw : Region.wanted o (yielded ops a.tmps) = true := by simp [Region.wanted, hgd]
  rw [if_pos hw]
  exact wp_apd_at (w := w) t e z size bytes ht hinfo hzs hsz s x ho base v n xs hs hown cs m c hx hl h1 h63 hbytes hbase h

/-- another own row is kept by an append -/
theorem own_grown {w w' : World} {base : Nat} {e : TypeId} {size n : Nat} {v : Value} {xs : List Value} {row : Option Nat} (hown : w.ownsRow base e size v n xs) (hg : w.grownBy w' row)
    (hne : ∀ g, v.ownBlock = some g → row ≠ some g) : w'.ownsRow base e size v n xs := by
  rcases hown.2 with ⟨hv, h0⟩ | ⟨g, cap, cur, hv, hbg, hgg, h1, h2, h3, h4⟩
  · exact ⟨hown.1, .inl ⟨hv, h0⟩⟩
  · refine ⟨hown.1, .inr ⟨g, cap, cur, hv, hbg, ?_, h1, h2, h3, h4⟩⟩
    have hlt : g < w.heap.size := (Array.getElem?_eq_some_iff.mp hgg).1
    rw [hg.block g hlt (fun e1 => hne g (by simp [hv, Value.ownBlock]) e1.symm)]
    exact hgg
end Go.Proofs.YtmeenihnhfhbkaaDoor
/- Finer tables, part 8: first differences of a finer table, both sides. -/
namespace Go.Proofs.YtmeenihnhfhbkaaDoor
open Go.RowKit Go.Joins

def okL (n : Nat) (a b : Nat → Int) : Bool := allN n (fun i => okQ (a i) (b i))
set_option maxRecDepth 100000 in
set_option maxHeartbeats 1600000 in
theorem l19List_any (B : Nat) (v : Value) (n : Nat) (a b : Nat → Int) (w : World) (h : Rd w B v n 2 (tabQ n a b)) (hB : B ≤ w.heap.size) (hn : n ≤ 1000) :
    Calls Tryd.prog 62 #[v] w fun e w' => e = .returned (.bool (okL n a b)) ∧ Below w.heap.size w w' := by
  have H := Lib.hid h
  obtain ⟨A, c, rfl⟩ := rd_sl h
  have hb0 := Lib.hid (Below.refl w.heap.size w)
  clear h
  go_enter Tryd.func62, Tryd.ntmps62
  go_wp2_with fail
  go_loopw [3] (fun i wr => ∃ k : Nat, k ≤ n ∧ i = .int .i64 (k : Int) ∧ okL k a b = true ∧ Below w.heap.size w wr) (fun i _ => n - (intOf i).toNat)
  case atStart => exact ⟨0, Nat.zero_le _, rfl, rfl, hb0.out⟩
  case round =>
    obtain ⟨k, hk, rfl, hall, hbl⟩ := hrel
    have Hall := Lib.hid hall
    have Hbl := Lib.hid hbl
    clear hall hbl
    by_cases hlt : k < n
    · obtain ⟨g, o, hA, hg, q0, q1⟩ := rdQ_at (H.out.below (Hbl.out.mono hB)) k hlt
      subst hA
      have hlt' : (k : Int) < (n : Int) := by omega
      have HB := Lib.hid (fun h => allN_bad (f := fun i => okQ (a i) (b i)) k hlt h)
      have HG := Lib.hid (fun h => allN_step (f := fun i => okQ (a i) (b i)) Hall.out h)
      have HP := Lib.hid (fun wx => l19Ok_any (a k) (b k) wx)
      generalize a k = x at *
      generalize b k = y at *
      go_wp2_with fail
      refine (HP.out _).mono ?_; rintro e w2 ⟨rfl, hb2⟩
      have Hb2 := Lib.hid (Hbl.out.trans (hb2.mono Hbl.out.size))
      clear hb2
      cases ho : okQ x y with
      | false =>
        have Hr := Lib.hid (HB.out ho)
        clear ho
        go_wp2_with fail
        go_ret
        exact ⟨ret_bool Hr.out.symm, Hb2.out⟩
      | true =>
        have Hr := Lib.hid (HG.out ho)
        clear ho
        go_wp2_with fail
        go_roundw
        case rel => exact ⟨k + 1, by omega, by go_num, Hr.out, Hb2.out⟩
        case measure => first | (simp [intOf]; done) | (simp [intOf]; omega)
    · obtain rfl : k = n := by omega
      have hlt' : ¬ ((k : Int) < (k : Int)) := by omega
      go_wp2_with fail
      go_ret
      exact ⟨ret_bool Hall.out.symm, Hbl.out⟩

/-- the values of the finer table, over the whole denominator -/
def fdV (f : Nat → Int) (n p : Nat) : Nat → Int := fun i => smQ (ldsF f) (i : Int) p (n - 1) n
def fdA (f : Nat → Int) (n p j : Nat) : Nat → Int := fun i => lowN (Dn j (fdV f n p) i) (bel p (n - 1))
def fdB (f : Nat → Int) (n p j : Nat) : Nat → Int := fun i => (lowD (Dn j (fdV f n p) i) (bel p (n - 1)) : Int)
/-- the first ones -/
def fd0 (f : Nat → Int) (n p : Nat) : Nat → Int := fun j => fdA f n p j 0
def fd1 (f : Nat → Int) (n p : Nat) : Nat → Int := fun j => fdB f n p j 0
def fdOk (f : Nat → Int) (n p : Nat) : Nat → Bool := fun j => okQ (fd0 f n p j) (fd1 f n p j)
theorem fdV_small {f : Nat → Int} {n p : Nat} {x : Int} (hv : VB (ldsF f) x p n) : Small 63000000000000000 n (fdV f n p) := by
  intro i hi
  have h6 := hv.n6
  have h20 := hv.q20
  have h1 := smQ_bd (L := ldsF f) (x := (i : Int)) (R := 100) (n := n - 1) hv.q1 hv.Q (fun k hk => by
    have h1 := kq_le (k := k) (q := p) (by omega) hv.q20
    have h3 : (k : Int) * (p : Int) ≤ 4 * (p : Int) := Int.mul_le_mul_of_nonneg_right (by omega) (by omega)
    omega) hv.lds (by have := hv.n1; omega) n (Nat.le_refl _)
  have h2 : 2 ^ n ≤ 64 := Nat.le_trans (Nat.pow_le_pow_right (by omega) h6) (by decide)
  have h3 := pow100 (m := n - 1) (by omega)
  have h4 := Nat.le_trans h1 (Nat.le_trans (Nat.mul_le_mul (show 2 ^ n - 1 ≤ 63 by omega) (Nat.mul_le_mul (Nat.le_refl 100000) h3)) (by omega : 63 * (100000 * 10000000000) ≤ 63000000000000000))
  show _ ≤ smQ (ldsF f) (i : Int) p (n - 1) n ∧ smQ (ldsF f) (i : Int) p (n - 1) n ≤ _
  omega
theorem fd_step {V : Nat → Int} {j m : Nat} : Dn (j + 1) V m = Dn j V (m + 1) - Dn j V m := rfl
theorem fd_small {f : Nat → Int} {n p : Nat} {x : Int} (hv : VB (ldsF f) x p n) (j i : Nat) (hi : i + j < n) : (Dn j (fdV f n p) i).natAbs ≤ 2016000000000000000 := by
  have h1 := Small.Dn (fdV_small hv) j i (by omega)
  have h2 : 2 ^ j * 63000000000000000 ≤ 32 * 63000000000000000 := Nat.mul_le_mul_right _ (pow2k (by have := hv.n6; omega))
  omega
def fdC (f : Nat → Int) (n : Nat) (p : Int) : Int := if ftC n f p n = 0 then finC n (fdOk f n p.toNat) else ftC n f p n
def fdN (f : Nat → Int) (n : Nat) (p : Int) : Nat := if ftC n f p n = 0 then finN n (fdOk f n p.toNat) else 0
def RetFD (n : Nat) (f : Nat → Int) (p : Int) (w : World) (e : Ending) (w' : World) : Prop := RetQs (fdN f n p) (fd0 f n p.toNat) (fd1 f n p.toNat) (fdC f n p) w e w'
theorem fd_bad {f : Nat → Int} {n : Nat} {p c : Int} (h : ftC n f p n = c) (hc : c ≠ 0) : fdN f n p = 0 ∧ fdC f n p = c := by
  unfold fdN fdC
  rw [h, if_neg hc, if_neg hc]
  exact ⟨rfl, rfl⟩
theorem fd_ok {f : Nat → Int} {n p : Nat} (h : ftC n f p n = 0) : fdN f n p = finN n (fdOk f n p) ∧ fdC f n p = finC n (fdOk f n p) := by
  unfold fdN fdC
  rw [if_pos h, if_pos h, Int.toNat_natCast]
  exact ⟨rfl, rfl⟩
theorem ft_code {f : Nat → Int} {n p : Nat} (h : codeB n f 0 (p : Int) = true) : ftN n f p n = finN n (ftOk (ldsF f) p n) ∧ ftC n f p n = finC n (ftOk (ldsF f) p n) := by
  obtain ⟨_, _, _, hv⟩ := codeB_ok h
  have h6 := hv.n6
  exact ft_ok (by rw [h]; have : inB (n : Int) 0 120 = true := inB_iff.2 (by omega); rw [this]; rfl)
theorem ft_codeF {f : Nat → Int} {n : Nat} {p : Int} (h : codeB n f 0 p = false) : ftC n f p n = 2 := (ft_bad (by rw [h]; rfl)).2
theorem fin_cases (c : Nat) (g : Nat → Bool) : (allN c g = true ∧ finN c g = c ∧ finC c g = 0) ∨ (allN c g = false ∧ finN c g = 0 ∧ finC c g = 5) := by
  cases h : allN c g with
  | true => exact .inl ⟨rfl, fin_ok h⟩
  | false => exact .inr ⟨rfl, fin_bad h⟩
theorem own_apartQ {w w2 w' : World} {b1 n1 n2 s1 s2 : Nat} {e1 e2 : TypeId} {v1 v2 : Value} {c1 c2 : List Value} (h1 : w.ownsRow b1 e1 s1 v1 n1 c1) (h2 : w2.ownsRow w.heap.size e2 s2 v2 n2 c2) (hg : w2.grownBy w' v1.ownBlock) : w'.ownsRow w.heap.size e2 s2 v2 n2 c2 := own_apart h1 h2 hg
end Go.Proofs.YtmeenihnhfhbkaaDoor
/- Fractions, part 1: the plain law of sums, common denominators and whole tables. -/
namespace Go.Proofs.YtmeenihnhfhbkaaDoor
open Go.RowKit Go.Joins

theorem okQ_iff {N D : Int} : okQ N D = true ↔ (-1000000000000 ≤ N ∧ N ≤ 1000000000000) ∧ (1 ≤ D ∧ D ≤ 1000000000000) ∧ Nat.gcd N.natAbs D.natAbs = 1 := by
  unfold okQ
  rw [Bool.and_eq_true, Bool.and_eq_true, inB_iff, inB_iff, beq_iff_eq]
/-- a plain fraction is its own lowest form -/
theorem okQ_low {N D : Int} (h : okQ N D = true) : low N D.toNat = (N, D.toNat) := by
  obtain ⟨_, h2, h3⟩ := okQ_iff.1 h
  have e : D.natAbs = D.toNat := by omega
  rw [e] at h3
  exact low_uniq' (by omega) (by omega) h3 rfl
theorem okQ_lows {N D : Int} (h : okQ N D = true) {t : Nat} (ht : 0 < t) : low (N * (t : Int)) (D.toNat * t) = (N, D.toNat) := by
  obtain ⟨_, h2, _⟩ := okQ_iff.1 h
  rw [low_scale _ (by omega) ht, okQ_low h]
/-! sums -/
def adS (a b c d : Int) : Int × Nat := low (a * d + c * b) (b.toNat * d.toNat)
def adBig (a b c d : Int) : Bool := decide (1000000 < a.natAbs) || decide (1000000 < b) || (decide (1000000 < c.natAbs) || decide (1000000 < d))
def adC (a b c d : Int) : Int := if okQ a b && okQ c d then (if adBig a b c d then 2 else if okQ (adS a b c d).1 (adS a b c d).2 then 0 else 5) else 1
def adN (a b c d : Int) : Int := if adC a b c d = 0 then (adS a b c d).1 else 0
def adD (a b c d : Int) : Int := if adC a b c d = 0 then ((adS a b c d).2 : Int) else 0
theorem adS_comm (a b c d : Int) : adS a b c d = adS c d a b := by unfold adS; rw [Int.add_comm, Nat.mul_comm]
theorem adC_comm (a b c d : Int) : adC a b c d = adC c d a b := by
  unfold adC adBig
  rw [adS_comm a b c d, Bool.and_comm (okQ a b), Bool.or_comm (decide (1000000 < a.natAbs) || decide (1000000 < b))]
theorem ad_comm (a b c d : Int) : adN a b c d = adN c d a b ∧ adD a b c d = adD c d a b := by
  unfold adN adD
  rw [adC_comm a b c d, adS_comm a b c d]
  exact ⟨rfl, rfl⟩
theorem ad_bad {a b c d : Int} (h : (okQ a b && okQ c d) = false) : adC a b c d = 1 ∧ adN a b c d = 0 ∧ adD a b c d = 0 := by
  have e : adC a b c d = 1 := by unfold adC; rw [h]; rfl
  unfold adN adD; rw [e]; exact ⟨rfl, rfl, rfl⟩
theorem ad_big {a b c d : Int} (h : (okQ a b && okQ c d) = true) (h2 : adBig a b c d = true) : adC a b c d = 2 ∧ adN a b c d = 0 ∧ adD a b c d = 0 := by
  have e : adC a b c d = 2 := by unfold adC; rw [h, h2]; rfl
  unfold adN adD; rw [e]; exact ⟨rfl, rfl, rfl⟩
theorem ad_full {a b c d : Int} (h : (okQ a b && okQ c d) = true) (h2 : adBig a b c d = false) (h3 : okQ (adS a b c d).1 (adS a b c d).2 = false) : adC a b c d = 5 ∧ adN a b c d = 0 ∧ adD a b c d = 0 := by
  have e : adC a b c d = 5 := by unfold adC; rw [h, h2, h3]; rfl
  unfold adN adD; rw [e]; exact ⟨rfl, rfl, rfl⟩
theorem ad_ok {a b c d : Int} (h : (okQ a b && okQ c d) = true) (h2 : adBig a b c d = false) (h3 : okQ (adS a b c d).1 (adS a b c d).2 = true) : adC a b c d = 0 ∧ adN a b c d = (adS a b c d).1 ∧ adD a b c d = (adS a b c d).2 := by
  have e : adC a b c d = 0 := by unfold adC; rw [h, h2, h3]; rfl
  unfold adN adD; rw [e]; exact ⟨rfl, rfl, rfl⟩
/-! a fraction in lowest terms -/
def plB (n d : Int) : Bool := inB n (-1000000000000) 1000000000000 && (inB d (-1000000000000) 1000000000000 && !(d == 0))
def plS (n d : Int) : Int × Nat := if d < 0 then low (-n) (-d).toNat else low n d.toNat
def plC (n d : Int) : Int := if plB n d then 0 else 2
def plN (n d : Int) : Int := if plB n d then (plS n d).1 else 0
def plD (n d : Int) : Int := if plB n d then ((plS n d).2 : Int) else 0
theorem pl_bad {n d : Int} (h : plB n d = false) : plC n d = 2 ∧ plN n d = 0 ∧ plD n d = 0 := by unfold plC plN plD; rw [h]; exact ⟨rfl, rfl, rfl⟩
theorem pl_ok {n d : Int} (h : plB n d = true) : plC n d = 0 ∧ plN n d = (plS n d).1 ∧ plD n d = (plS n d).2 := by unfold plC plN plD; rw [h]; exact ⟨rfl, rfl, rfl⟩
/-- a whole table leads back -/
theorem pl_back {a b den : Int} (h : okQ a b = true) (hd : 1 ≤ den) (hd2 : den ≤ 1000000000000) (hm : den.toNat % b.toNat = 0) (hb : (a * ((den.toNat / b.toNat : Nat) : Int)).natAbs ≤ 1000000000000) :
    plC (a * ((den.toNat / b.toNat : Nat) : Int)) den = 0 ∧ plN (a * ((den.toNat / b.toNat : Nat) : Int)) den = a ∧ plD (a * ((den.toNat / b.toNat : Nat) : Int)) den = b := by
  obtain ⟨_, h2, _⟩ := okQ_iff.1 h
  obtain ⟨t, ht⟩ := Nat.dvd_of_mod_eq_zero hm
  have hbp : 0 < b.toNat := by omega
  have e1 : den.toNat / b.toNat = t := Nat.div_eq_of_eq_mul_right hbp ht
  have htp : 0 < t := Nat.pos_of_ne_zero fun e => by rw [e, Nat.mul_zero] at ht; omega
  have hp : plB (a * ((den.toNat / b.toNat : Nat) : Int)) den = true := by
    unfold plB
    rw [inB_iff.2 ⟨by omega, by omega⟩, inB_iff.2 ⟨by omega, by omega⟩]
    have : (den == 0) = false := by simp; omega
    rw [this]; rfl
  obtain ⟨k1, k2, k3⟩ := pl_ok hp
  have k4 : plS (a * ((den.toNat / b.toNat : Nat) : Int)) den = (a, b.toNat) := by
    unfold plS
    rw [if_neg (by omega), e1, ht]
    exact okQ_lows h htp
  rw [k2, k3, k4]
  exact ⟨k1, rfl, by show ((b.toNat : Nat) : Int) = b; omega⟩
/-! common denominators -/
def cdF (b : Nat → Int) : Nat → Option Nat
  | 0 => some 1
  | k + 1 => match cdF b k with
    | none => none
    | some c => if 1000000000000 / ((b k).toNat / Nat.gcd c (b k).toNat) < c then none else some (c * ((b k).toNat / Nat.gcd c (b k).toNat))
theorem cdF_none {b : Nat → Int} {k : Nat} (h : cdF b k = none) : ∀ n, k ≤ n → cdF b n = none := by
  intro n hn
  induction n with
  | zero => obtain rfl : k = 0 := by omega
            exact h
  | succ m ih =>
    by_cases e : k = m + 1
    · subst e; exact h
    · show (match cdF b m with | none => none | some c => _) = none
      rw [ih (by omega)]
theorem cdF_step {b : Nat → Int} {k c : Nat} (h : cdF b k = some c) : cdF b (k + 1) = if 1000000000000 / ((b k).toNat / Nat.gcd c (b k).toNat) < c then none else some (c * ((b k).toNat / Nat.gcd c (b k).toNat)) := by
  show (match cdF b k with | none => none | some c => _) = _
  rw [h]
theorem cd_more {c d : Nat} (hd : 1 ≤ d) : 1 ≤ d / Nat.gcd c d ∧ d ∣ c * (d / Nat.gcd c d) ∧ d / Nat.gcd c d ≤ d := by
  have hg : 0 < Nat.gcd c d := Nat.gcd_pos_of_pos_right _ hd
  obtain ⟨x, hx⟩ := Nat.gcd_dvd_right c d
  obtain ⟨y, hy⟩ := Nat.gcd_dvd_left c d
  have e : d / Nat.gcd c d = x := Nat.div_eq_of_eq_mul_right hg hx
  rw [e]
  refine ⟨Nat.pos_of_ne_zero fun e => by rw [e, Nat.mul_zero] at hx; omega, ⟨y, ?_⟩, by rw [← e]; exact Nat.div_le_self _ _⟩
  calc c * x = Nat.gcd c d * y * x := by rw [← hy]
    _ = Nat.gcd c d * x * y := by rw [Nat.mul_right_comm]
    _ = d * y := by rw [← hx]
theorem cdF_all {b : Nat → Int} {n : Nat} (hb : ∀ i, i < n → 1 ≤ b i) : ∀ k, k ≤ n → ∀ c, cdF b k = some c → 1 ≤ c ∧ c ≤ 1000000000000 ∧ ∀ j, j < k → (b j).toNat ∣ c
  | 0, _, c, h => by
    have : c = 1 := by have h' : some 1 = some c := h; injection h' with h'; exact h'.symm
    subst this
    exact ⟨by omega, by omega, fun j hj => by omega⟩
  | k + 1, hk, c, h => by
    cases hc : cdF b k with
    | none => rw [cdF_none hc (k + 1) (by omega)] at h; cases h
    | some c0 =>
      obtain ⟨h1, h2, h3⟩ := cdF_all hb k (by omega) c0 hc
      rw [cdF_step hc] at h
      have hd := hb k (by omega)
      obtain ⟨m1, m2, _⟩ := cd_more (c := c0) (d := (b k).toNat) (by omega)
      split at h
      · cases h
      · rename_i hle
        injection h with h
        subst h
        refine ⟨Nat.mul_pos h1 m1, ?_, fun j hj => ?_⟩
        · have := Nat.mul_le_of_le_div _ _ _ (Nat.le_of_not_lt hle)
          exact this
        · by_cases e : j = k
          · subst e; exact m2
          · exact Nat.dvd_trans (h3 j (by omega)) (Nat.dvd_mul_right _ _)
def cdC (n : Nat) (a b : Nat → Int) : Int := if okL n a b then (if (cdF b n).isSome then 0 else 5) else 1
def cdV (n : Nat) (a b : Nat → Int) : Int := if okL n a b then (match cdF b n with | some c => (c : Int) | none => 0) else 0
theorem cd_bad {n : Nat} {a b : Nat → Int} (h : okL n a b = false) : cdC n a b = 1 ∧ cdV n a b = 0 := by unfold cdC cdV; rw [h]; exact ⟨rfl, rfl⟩
theorem cd_full {n : Nat} {a b : Nat → Int} (h : okL n a b = true) (h2 : cdF b n = none) : cdC n a b = 5 ∧ cdV n a b = 0 := by unfold cdC cdV; rw [h, h2]; exact ⟨rfl, rfl⟩
theorem cd_ok {n c : Nat} {a b : Nat → Int} (h : okL n a b = true) (h2 : cdF b n = some c) : cdC n a b = 0 ∧ cdV n a b = c := by unfold cdC cdV; rw [h, h2]; exact ⟨rfl, rfl⟩
theorem okL_get {n : Nat} {a b : Nat → Int} (h : okL n a b = true) {i : Nat} (hi : i < n) : okQ (a i) (b i) = true := allN_get (f := fun i => okQ (a i) (b i)) h hi
theorem okL_den {n : Nat} {a b : Nat → Int} (h : okL n a b = true) : ∀ i, i < n → 1 ≤ b i ∧ b i ≤ 1000000000000 := fun i hi => (okQ_iff.1 (okL_get h hi)).2.1
theorem cd_zero {n : Nat} {a b : Nat → Int} (h : cdC n a b = 0) : ∃ c : Nat, okL n a b = true ∧ cdF b n = some c ∧ cdV n a b = c ∧ 1 ≤ c ∧ c ≤ 1000000000000 ∧ ∀ j, j < n → (b j).toNat ∣ c := by
  cases h1 : okL n a b with
  | false => rw [(cd_bad h1).1] at h; cases h
  | true =>
    cases h2 : cdF b n with
    | none => rw [(cd_full h1 h2).1] at h; cases h
    | some c => exact ⟨c, rfl, rfl, (cd_ok h1 h2).2, cdF_all (fun i hi => (okL_den h1 i hi).1) n (Nat.le_refl _) c h2⟩
/-! whole tables -/
def wtE (a b : Nat → Int) (den : Nat) (k : Nat) : Int := if den % (b k).toNat = 0 then (if 1000000000000 / (den / (b k).toNat) < (a k).natAbs then 5 else 0) else 6
def wtF (a b : Nat → Int) (den : Nat) : Nat → Int
  | 0 => 0
  | k + 1 => if wtF a b den k = 0 then wtE a b den k else wtF a b den k
def wtV (a b : Nat → Int) (den : Nat) : Nat → Int := fun k => a k * ((den / (b k).toNat : Nat) : Int)
theorem wtF_bad {a b : Nat → Int} {den k : Nat} (h : wtF a b den k ≠ 0) : ∀ n, k ≤ n → wtF a b den n = wtF a b den k := by
  intro n hn
  induction n with
  | zero => obtain rfl : k = 0 := by omega
            rfl
  | succ m ih =>
    by_cases e : k = m + 1
    · subst e; rfl
    · have := ih (by omega)
      show (if wtF a b den m = 0 then _ else wtF a b den m) = _
      rw [this, if_neg h]
theorem wtF_stop {a b : Nat → Int} {den k n : Nat} (h0 : wtF a b den k = 0) (hk : k < n) {e : Int} (he : wtE a b den k = e) (h : e ≠ 0) : wtF a b den n = e := by
  have h1 : wtF a b den (k + 1) = e := by show (if wtF a b den k = 0 then wtE a b den k else _) = e; rw [if_pos h0, he]
  rw [wtF_bad (k := k + 1) (by rw [h1]; exact h) n (by omega), h1]
theorem wtF_go {a b : Nat → Int} {den k : Nat} (h0 : wtF a b den k = 0) (he : wtE a b den k = 0) : wtF a b den (k + 1) = 0 := by show (if wtF a b den k = 0 then wtE a b den k else _) = 0; rw [if_pos h0, he]
theorem wtF_zero {a b : Nat → Int} {den : Nat} : ∀ n, wtF a b den n = 0 → ∀ k, k < n → wtE a b den k = 0
  | 0, _, k, hk => by omega
  | n + 1, h, k, hk => by
    have h' : (if wtF a b den n = 0 then wtE a b den n else wtF a b den n) = 0 := h
    split at h'
    · rename_i h0
      by_cases e : k = n
      · subst e; exact h'
      · exact wtF_zero n h0 k (by omega)
    · rename_i h0; exact absurd h' h0
theorem wtE_zero {a b : Nat → Int} {den k : Nat} (hd : 1 ≤ (b k).toNat) (h1 : 1 ≤ den) (h : wtE a b den k = 0) : den % (b k).toNat = 0 ∧ (wtV a b den k).natAbs ≤ 1000000000000 := by
  unfold wtE at h
  split at h
  · rename_i h0
    split at h
    · cases h
    · rename_i h2
      refine ⟨h0, ?_⟩
      unfold wtV
      rw [Int.natAbs_mul, Int.natAbs_natCast]
      exact Nat.mul_le_of_le_div _ _ _ (Nat.le_of_not_lt h2)
  · cases h
theorem wtE_ne {a b : Nat → Int} {den k : Nat} (h : (b k).toNat ∣ den) : wtE a b den k ≠ 6 := by
  unfold wtE
  rw [if_pos (Nat.mod_eq_zero_of_dvd h)]
  split <;> decide
theorem wtF_ne {a b : Nat → Int} {den : Nat} : ∀ n, (∀ j, j < n → (b j).toNat ∣ den) → wtF a b den n ≠ 6
  | 0, _ => by show (0 : Int) ≠ 6; decide
  | n + 1, h => by
    show (if wtF a b den n = 0 then wtE a b den n else wtF a b den n) ≠ 6
    split
    · exact wtE_ne (h n (by omega))
    · exact wtF_ne n (fun j hj => h j (by omega))
def wtC (n : Nat) (a b : Nat → Int) (den : Int) : Int := if okL n a b then (if inB den 1 1000000000000 then wtF a b den.toNat n else 2) else 1
def wtN (n : Nat) (a b : Nat → Int) (den : Int) : Nat := if wtC n a b den = 0 then n else 0
theorem wt_bad {n : Nat} {a b : Nat → Int} {den c : Int} (h : wtC n a b den = c) (hc : c ≠ 0) : wtN n a b den = 0 := by unfold wtN; rw [h, if_neg hc]
theorem wt_ok {n : Nat} {a b : Nat → Int} {den : Int} (h : wtC n a b den = 0) : wtN n a b den = n := by unfold wtN; rw [if_pos h]
theorem wtC_p {n : Nat} {a b : Nat → Int} {den : Int} (h : okL n a b = false) : wtC n a b den = 1 := by unfold wtC; rw [h]; rfl
theorem wtC_d {n : Nat} {a b : Nat → Int} {den : Int} (h : okL n a b = true) (h2 : inB den 1 1000000000000 = false) : wtC n a b den = 2 := by unfold wtC; rw [h, h2]; rfl
theorem wtC_f {n : Nat} {a b : Nat → Int} {den : Nat} (h : okL n a b = true) (h2 : inB (den : Int) 1 1000000000000 = true) : wtC n a b den = wtF a b den n := by unfold wtC; rw [h, h2, Int.toNat_natCast]; rfl
theorem wtC_zero {n : Nat} {a b : Nat → Int} {den : Int} (h : wtC n a b den = 0) : okL n a b = true ∧ 1 ≤ den ∧ den ≤ 1000000000000 ∧ ∀ k, k < n → plC (wtV a b den.toNat k) den = 0 ∧ plN (wtV a b den.toNat k) den = a k ∧ plD (wtV a b den.toNat k) den = b k := by
  cases h1 : okL n a b with
  | false => rw [wtC_p h1] at h; cases h
  | true =>
    cases h2 : inB den 1 1000000000000 with
    | false => rw [wtC_d h1 h2] at h; cases h
    | true =>
      have h3 := inB_iff.1 h2
      refine ⟨rfl, h3.1, h3.2, fun k hk => ?_⟩
      have h4 : wtF a b den.toNat n = 0 := by unfold wtC at h; rw [h1, h2] at h; exact h
      have h5 := okL_den h1 k hk
      obtain ⟨h6, h7⟩ := wtE_zero (by omega) (by omega) (wtF_zero n h4 k hk)
      exact pl_back (okL_get h1 hk) h3.1 h3.2 h6 h7
/-- the common denominator fits each fraction -/
theorem wtC_cd {n : Nat} {a b : Nat → Int} (h : cdC n a b = 0) : wtC n a b (cdV n a b) ≠ 6 ∧ 1 ≤ cdV n a b := by
  obtain ⟨c, h1, _, h3, h4, h5, h6⟩ := cd_zero h
  rw [h3]
  have h2 : inB (c : Int) 1 1000000000000 = true := inB_iff.2 (by omega)
  rw [wtC_f h1 h2]
  exact ⟨wtF_ne n h6, by omega⟩
end Go.Proofs.YtmeenihnhfhbkaaDoor
/- Fractions, part 2: PlainFraction, both sides. -/
namespace Go.Proofs.YtmeenihnhfhbkaaDoor
open Go.RowKit Go.Joins

/-- a fraction and a code -/
def RetQC (N D c : Int) (w : World) (e : Ending) (w' : World) : Prop := e = .returned (.tuple #[aggQ N D, .int .i64 c]) ∧ Below w.heap.size w w'
theorem plBad {n d : Int} (h : plB n d = false) : plN n d = 0 ∧ plD n d = 0 ∧ plC n d = 2 := ⟨(pl_bad h).2.1, (pl_bad h).2.2, (pl_bad h).1⟩
set_option maxRecDepth 100000 in
set_option maxHeartbeats 1600000 in
theorem PlainI_any (n d : Int) (w : World) : Calls Tryd.prog 10 #[.int .i64 n, .int .i64 d] w (RetQC (plN n d) (plD n d) (plC n d) w) := by
  have HR := Lib.hid (show FrB w (w.alloc (.cells #[.int .i64 0, .int .i64 0] 25)) w.heap.size (.int .i64 0) (.int .i64 0) from FrB.new (Below.refl _ _) _ _)
  have HV := Lib.hid (fun wx => isValue_c n wx)
  have HW := Lib.hid (fun wx => isValue_c d wx)
  cases h1 : inB n (-1000000000000) 1000000000000 with
  | false =>
    have Hr := Lib.hid (plBad (n := n) (d := d) (by unfold plB; rw [h1]; rfl))
    rw [h1] at HV
    clear h1
    go_enter Tryd.func10, Tryd.ntmps10
    go_upto_region 1 with (fail)
    generalize hw1 : w.alloc (.cells #[.int .i64 0, .int .i64 0] 25) = w1 at *
    clear hw1
    go_wp2_with fail
    obtain ⟨r0, r1, r2, r3⟩ := blk2 HR.out.res
    refine (HV.out _).mono ?_; rintro e w1 ⟨rfl, rfl⟩
    have HF := Lib.hid (HR.out.put (.int .i64 0) (.int .i64 0))
    obtain ⟨k0, k1, _, _⟩ := blk2 HF.out.res
    go_wp2_with fail
    exact bodyPost_ret (v := .tuple #[aggQ 0 0, .int .i64 2]) (by simp [results, Tryd.results10, go_sem, k0, k1]) rfl ⟨by rw [Hr.out.1, Hr.out.2.1, Hr.out.2.2], HF.out.bel⟩
  | true =>
    cases h2 : inB d (-1000000000000) 1000000000000 with
    | false =>
      have Hr := Lib.hid (plBad (n := n) (d := d) (by unfold plB; rw [h1, h2]; rfl))
      rw [h1] at HV
      rw [h2] at HW
      clear h1 h2
      go_enter Tryd.func10, Tryd.ntmps10
      go_upto_region 1 with (fail)
      generalize hw1 : w.alloc (.cells #[.int .i64 0, .int .i64 0] 25) = w1 at *
      clear hw1
      go_wp2_with fail
      obtain ⟨r0, r1, r2, r3⟩ := blk2 HR.out.res
      refine (HV.out _).mono ?_; rintro e w1 ⟨rfl, rfl⟩
      go_wp2_with fail
      refine (HW.out _).mono ?_; rintro e w1 ⟨rfl, rfl⟩
      have HF := Lib.hid (HR.out.put (.int .i64 0) (.int .i64 0))
      obtain ⟨k0, k1, _, _⟩ := blk2 HF.out.res
      go_wp2_with fail
      exact bodyPost_ret (v := .tuple #[aggQ 0 0, .int .i64 2]) (by simp [results, Tryd.results10, go_sem, k0, k1]) rfl ⟨by rw [Hr.out.1, Hr.out.2.1, Hr.out.2.2], HF.out.bel⟩
    | true =>
      by_cases h3 : d = 0
      · subst h3
        have Hr := Lib.hid (plBad (n := n) (d := 0) (by unfold plB; rw [h1, h2]; rfl))
        rw [h1] at HV
        rw [h2] at HW
        clear h1 h2
        go_enter Tryd.func10, Tryd.ntmps10
        go_upto_region 1 with (fail)
        generalize hw1 : w.alloc (.cells #[.int .i64 0, .int .i64 0] 25) = w1 at *
        clear hw1
        go_wp2_with fail
        obtain ⟨r0, r1, r2, r3⟩ := blk2 HR.out.res
        refine (HV.out _).mono ?_; rintro e w1 ⟨rfl, rfl⟩
        go_wp2_with fail
        refine (HW.out _).mono ?_; rintro e w1 ⟨rfl, rfl⟩
        have HF := Lib.hid (HR.out.put (.int .i64 0) (.int .i64 0))
        obtain ⟨k0, k1, _, _⟩ := blk2 HF.out.res
        go_wp2_with fail
        exact bodyPost_ret (v := .tuple #[aggQ 0 0, .int .i64 2]) (by simp [results, Tryd.results10, go_sem, k0, k1]) rfl ⟨by rw [Hr.out.1, Hr.out.2.1, Hr.out.2.2], HF.out.bel⟩
      · have h3b : (d == 0) = false := by simp [h3]
        by_cases h4 : d < 0
        · have Hr0 := pl_ok (n := n) (d := d) (by unfold plB; rw [h1, h2, h3b]; rfl)
          have b1 := inB_iff.1 h1
          have b2 := inB_iff.1 h2
          obtain ⟨p, hp⟩ : ∃ p : Nat, -d = (p : Int) := ⟨(-d).toNat, by omega⟩
          have hs : plS n d = low (-n) p := by unfold plS; rw [if_pos h4, hp, Int.toNat_natCast]
          have hdw : IntKind.i64.wrap (-d) = (p : Int) := by rw [hp]; exact IntWalk.i64_in _ (by omega)
          have hnw : IntKind.i64.wrap (-n) = -n := IntWalk.i64_in _ (by omega)
          have HL := Lib.hid (fun wx => lowest_any (-n) p wx (by omega) (by omega) (by omega))
          rw [hs] at Hr0
          have Hr := Lib.hid (show _ = lowN (-n) p ∧ _ = (lowD (-n) p : Int) ∧ _ from ⟨Hr0.2.1, Hr0.2.2, Hr0.1⟩)
          unfold RetQ at HL
          rw [h1] at HV
          rw [h2] at HW
          clear h1 h2 Hr0 hs
          generalize lowN (-n) p = N at *
          generalize lowD (-n) p = D at *
          go_enter Tryd.func10, Tryd.ntmps10
          go_upto_region 1 with (fail)
          generalize hw1 : w.alloc (.cells #[.int .i64 0, .int .i64 0] 25) = w1 at *
          clear hw1
          go_wp2_with fail
          refine (HV.out _).mono ?_; rintro e w1 ⟨rfl, rfl⟩
          go_wp2_with fail
          refine (HW.out _).mono ?_; rintro e w1 ⟨rfl, rfl⟩
          go_wp2_with fail
          refine (HL.out _).mono ?_; rintro e w5 ⟨rfl, hb5⟩
          have HR5 := Lib.hid (HR.out.below hb5)
          obtain ⟨_, _, f0, f1⟩ := blk2 HR5.out.res
          have HF := Lib.hid (HR5.out.put (.int .i64 N) (.int .i64 ((D : Int))))
          obtain ⟨k0, k1, _, _⟩ := blk2 HF.out.res
          go_wp2_with fail
          exact bodyPost_ret (v := .tuple #[aggQ N (D : Int), .int .i64 0]) (by simp [results, Tryd.results10, go_sem, k0, k1]) rfl ⟨by rw [Hr.out.1, Hr.out.2.1, Hr.out.2.2], HF.out.bel⟩
        · have Hr0 := pl_ok (n := n) (d := d) (by unfold plB; rw [h1, h2, h3b]; rfl)
          have b1 := inB_iff.1 h1
          have b2 := inB_iff.1 h2
          obtain ⟨p, rfl⟩ : ∃ p : Nat, d = (p : Int) := ⟨d.toNat, by omega⟩
          have hs : plS n p = low n p := by unfold plS; rw [if_neg h4, Int.toNat_natCast]
          have h4' : ¬ ((p : Int) < 0) := h4
          have HL := Lib.hid (fun wx => lowest_any n p wx (by omega) (by omega) (by omega))
          rw [hs] at Hr0
          have Hr := Lib.hid (show _ = lowN n p ∧ _ = (lowD n p : Int) ∧ _ from ⟨Hr0.2.1, Hr0.2.2, Hr0.1⟩)
          unfold RetQ at HL
          rw [h1] at HV
          rw [h2] at HW
          clear h1 h2 Hr0 hs
          generalize lowN n p = N at *
          generalize lowD n p = D at *
          go_enter Tryd.func10, Tryd.ntmps10
          go_upto_region 1 with (fail)
          generalize hw1 : w.alloc (.cells #[.int .i64 0, .int .i64 0] 25) = w1 at *
          clear hw1
          go_wp2_with fail
          refine (HV.out _).mono ?_; rintro e w1 ⟨rfl, rfl⟩
          go_wp2_with fail
          refine (HW.out _).mono ?_; rintro e w1 ⟨rfl, rfl⟩
          go_wp2_with fail
          refine (HL.out _).mono ?_; rintro e w5 ⟨rfl, hb5⟩
          have HR5 := Lib.hid (HR.out.below hb5)
          obtain ⟨_, _, f0, f1⟩ := blk2 HR5.out.res
          have HF := Lib.hid (HR5.out.put (.int .i64 N) (.int .i64 ((D : Int))))
          obtain ⟨k0, k1, _, _⟩ := blk2 HF.out.res
          go_wp2_with fail
          exact bodyPost_ret (v := .tuple #[aggQ N (D : Int), .int .i64 0]) (by simp [results, Tryd.results10, go_sem, k0, k1]) rfl ⟨by rw [Hr.out.1, Hr.out.2.1, Hr.out.2.2], HF.out.bel⟩
set_option maxRecDepth 100000 in
set_option maxHeartbeats 1600000 in
theorem PlainS_any (n d : Int) (w : World) : Calls Tryd.prog 11 #[.int .i64 n, .int .i64 d] w (RetQC (plN n d) (plD n d) (plC n d) w) := by
  have HR := Lib.hid (show FrB w (w.alloc (.cells #[.int .i64 0, .int .i64 0] 25)) w.heap.size (.int .i64 0) (.int .i64 0) from FrB.new (Below.refl _ _) _ _)
  have HV := Lib.hid (fun wx => l17Most_c n wx)
  have HW := Lib.hid (fun wx => l17Most_c d wx)
  cases h1 : inB n (-1000000000000) 1000000000000 with
  | false =>
    have Hr := Lib.hid (plBad (n := n) (d := d) (by unfold plB; rw [h1]; rfl))
    rw [h1] at HV
    clear h1
    go_enter Tryd.func11, Tryd.ntmps11
    go_upto_region 1 with (fail)
    generalize hw1 : w.alloc (.cells #[.int .i64 0, .int .i64 0] 25) = w1 at *
    clear hw1
    go_wp2_with fail
    obtain ⟨r0, r1, r2, r3⟩ := blk2 HR.out.res
    refine (HV.out _).mono ?_; rintro e w1 ⟨rfl, rfl⟩
    have HF := Lib.hid (HR.out.put (.int .i64 0) (.int .i64 0))
    obtain ⟨k0, k1, _, _⟩ := blk2 HF.out.res
    go_wp2_with fail
    exact bodyPost_ret (v := .tuple #[aggQ 0 0, .int .i64 2]) (by simp [results, Tryd.results11, go_sem, k0, k1]) rfl ⟨by rw [Hr.out.1, Hr.out.2.1, Hr.out.2.2], HF.out.bel⟩
  | true =>
    cases h2 : inB d (-1000000000000) 1000000000000 with
    | false =>
      have Hr := Lib.hid (plBad (n := n) (d := d) (by unfold plB; rw [h1, h2]; rfl))
      rw [h1] at HV
      rw [h2] at HW
      clear h1 h2
      go_enter Tryd.func11, Tryd.ntmps11
      go_upto_region 1 with (fail)
      generalize hw1 : w.alloc (.cells #[.int .i64 0, .int .i64 0] 25) = w1 at *
      clear hw1
      go_wp2_with fail
      obtain ⟨r0, r1, r2, r3⟩ := blk2 HR.out.res
      refine (HV.out _).mono ?_; rintro e w1 ⟨rfl, rfl⟩
      go_wp2_with fail
      refine (HW.out _).mono ?_; rintro e w1 ⟨rfl, rfl⟩
      have HF := Lib.hid (HR.out.put (.int .i64 0) (.int .i64 0))
      obtain ⟨k0, k1, _, _⟩ := blk2 HF.out.res
      go_wp2_with fail
      exact bodyPost_ret (v := .tuple #[aggQ 0 0, .int .i64 2]) (by simp [results, Tryd.results11, go_sem, k0, k1]) rfl ⟨by rw [Hr.out.1, Hr.out.2.1, Hr.out.2.2], HF.out.bel⟩
    | true =>
      by_cases h3 : d = 0
      · subst h3
        have Hr := Lib.hid (plBad (n := n) (d := 0) (by unfold plB; rw [h1, h2]; rfl))
        rw [h1] at HV
        rw [h2] at HW
        clear h1 h2
        go_enter Tryd.func11, Tryd.ntmps11
        go_upto_region 1 with (fail)
        generalize hw1 : w.alloc (.cells #[.int .i64 0, .int .i64 0] 25) = w1 at *
        clear hw1
        go_wp2_with fail
        obtain ⟨r0, r1, r2, r3⟩ := blk2 HR.out.res
        refine (HV.out _).mono ?_; rintro e w1 ⟨rfl, rfl⟩
        go_wp2_with fail
        refine (HW.out _).mono ?_; rintro e w1 ⟨rfl, rfl⟩
        have HF := Lib.hid (HR.out.put (.int .i64 0) (.int .i64 0))
        obtain ⟨k0, k1, _, _⟩ := blk2 HF.out.res
        go_wp2_with fail
        exact bodyPost_ret (v := .tuple #[aggQ 0 0, .int .i64 2]) (by simp [results, Tryd.results11, go_sem, k0, k1]) rfl ⟨by rw [Hr.out.1, Hr.out.2.1, Hr.out.2.2], HF.out.bel⟩
      · have h3b : (d == 0) = false := by simp [h3]
        by_cases h4 : d < 0
        · have Hr0 := pl_ok (n := n) (d := d) (by unfold plB; rw [h1, h2, h3b]; rfl)
          have b1 := inB_iff.1 h1
          have b2 := inB_iff.1 h2
          obtain ⟨p, hp⟩ : ∃ p : Nat, -d = (p : Int) := ⟨(-d).toNat, by omega⟩
          have hs : plS n d = low (-n) p := by unfold plS; rw [if_pos h4, hp, Int.toNat_natCast]
          have hdw : IntKind.i64.wrap (-d) = (p : Int) := by rw [hp]; exact IntWalk.i64_in _ (by omega)
          have hnw : IntKind.i64.wrap (-n) = -n := IntWalk.i64_in _ (by omega)
          have HL := Lib.hid (fun wx => l19Make_any (-n) p wx (by omega) (by omega) (by omega))
          rw [hs] at Hr0
          have Hr := Lib.hid (show _ = lowN (-n) p ∧ _ = (lowD (-n) p : Int) ∧ _ from ⟨Hr0.2.1, Hr0.2.2, Hr0.1⟩)
          unfold RetQ at HL
          rw [h1] at HV
          rw [h2] at HW
          clear h1 h2 Hr0 hs
          generalize lowN (-n) p = N at *
          generalize lowD (-n) p = D at *
          go_enter Tryd.func11, Tryd.ntmps11
          go_upto_region 1 with (fail)
          generalize hw1 : w.alloc (.cells #[.int .i64 0, .int .i64 0] 25) = w1 at *
          clear hw1
          go_wp2_with fail
          refine (HV.out _).mono ?_; rintro e w1 ⟨rfl, rfl⟩
          go_wp2_with fail
          refine (HW.out _).mono ?_; rintro e w1 ⟨rfl, rfl⟩
          go_wp2_with fail
          refine (HL.out _).mono ?_; rintro e w5 ⟨rfl, hb5⟩
          have HR5 := Lib.hid (HR.out.below hb5)
          obtain ⟨_, _, f0, f1⟩ := blk2 HR5.out.res
          have HF := Lib.hid (HR5.out.put (.int .i64 N) (.int .i64 ((D : Int))))
          obtain ⟨k0, k1, _, _⟩ := blk2 HF.out.res
          go_wp2_with fail
          exact bodyPost_ret (v := .tuple #[aggQ N (D : Int), .int .i64 0]) (by simp [results, Tryd.results11, go_sem, k0, k1]) rfl ⟨by rw [Hr.out.1, Hr.out.2.1, Hr.out.2.2], HF.out.bel⟩
        · have Hr0 := pl_ok (n := n) (d := d) (by unfold plB; rw [h1, h2, h3b]; rfl)
          have b1 := inB_iff.1 h1
          have b2 := inB_iff.1 h2
          obtain ⟨p, rfl⟩ : ∃ p : Nat, d = (p : Int) := ⟨d.toNat, by omega⟩
          have hs : plS n p = low n p := by unfold plS; rw [if_neg h4, Int.toNat_natCast]
          have h4' : ¬ ((p : Int) < 0) := h4
          have HL := Lib.hid (fun wx => l19Make_any n p wx (by omega) (by omega) (by omega))
          rw [hs] at Hr0
          have Hr := Lib.hid (show _ = lowN n p ∧ _ = (lowD n p : Int) ∧ _ from ⟨Hr0.2.1, Hr0.2.2, Hr0.1⟩)
          unfold RetQ at HL
          rw [h1] at HV
          rw [h2] at HW
          clear h1 h2 Hr0 hs
          generalize lowN n p = N at *
          generalize lowD n p = D at *
          go_enter Tryd.func11, Tryd.ntmps11
          go_upto_region 1 with (fail)
          generalize hw1 : w.alloc (.cells #[.int .i64 0, .int .i64 0] 25) = w1 at *
          clear hw1
          go_wp2_with fail
          refine (HV.out _).mono ?_; rintro e w1 ⟨rfl, rfl⟩
          go_wp2_with fail
          refine (HW.out _).mono ?_; rintro e w1 ⟨rfl, rfl⟩
          go_wp2_with fail
          refine (HL.out _).mono ?_; rintro e w5 ⟨rfl, hb5⟩
          have HR5 := Lib.hid (HR.out.below hb5)
          obtain ⟨_, _, f0, f1⟩ := blk2 HR5.out.res
          have HF := Lib.hid (HR5.out.put (.int .i64 N) (.int .i64 ((D : Int))))
          obtain ⟨k0, k1, _, _⟩ := blk2 HF.out.res
          go_wp2_with fail
          exact bodyPost_ret (v := .tuple #[aggQ N (D : Int), .int .i64 0]) (by simp [results, Tryd.results11, go_sem, k0, k1]) rfl ⟨by rw [Hr.out.1, Hr.out.2.1, Hr.out.2.2], HF.out.bel⟩
end Go.Proofs.YtmeenihnhfhbkaaDoor
/- Lists of texts: equality on three functions, the room that they take, copies. -/
namespace Go.Proofs.YtmeenihnhfhbkaaDoor
open Go.RowKit Go.Joins

def strs (l : List ByteArray) : List Value := l.map Value.string
theorem strs_at (l : List ByteArray) (k : Nat) (h : k < l.length) : (strs l)[k]? = some (.string l[k]) := by simp [strs, h]
theorem infoSL : (Tryd.prog.info? 9).map (fun i => (i.zero, i.size, i.bytes)) = some (some (.string ⟨#[]⟩), 1, 16) := by kernel_rfl
theorem take_strs (zs : List ByteArray) (k : Nat) (h : k < zs.length) : strs (zs.take k) ++ [.string zs[k]] = strs (zs.take (k + 1)) := by
  rw [List.take_succ_eq_append_getElem h]; unfold strs; rw [List.map_append]; rfl
theorem rd_at {w : World} {B n c : Nat} {A : Option Addr} {zs : List ByteArray} (h : Rd w B (.slice A n c) zs.length 1 (strs zs)) (k : Nat) (hk : k < zs.length) :
    n = zs.length ∧ ∃ b off, A = some ⟨b, off, none⟩ ∧ w.cell? ⟨b, off + k, none⟩ = some (.string zs[k]) := by
  obtain ⟨_, A', c', hv, hc⟩ := h
  injection hv with e1 e2 e3
  subst e1
  obtain ⟨b, off, hA, _, hcc⟩ := hc (by omega)
  exact ⟨e2, b, off, hA, hcc k _ (strs_at zs k hk)⟩

/-- a new list of the same strings -/
def RetS (w : World) (zs : List ByteArray) (e : Ending) (w' : World) : Prop := ∃ v, e = .returned v ∧ w'.ownsRow w.heap.size 9 1 v zs.length (strs zs) ∧ Below w.heap.size w w'

end Go.Proofs.YtmeenihnhfhbkaaDoor
/- What a law's arguments read as, in the words of the walks: slices of numbers, of bytes. -/
namespace Go.Proofs.YtmeenihnhfhbkaaDoor
open Go.ChangeShapes Go.WideShapes Go.ChangeAt Go.RowKit

section
variable {H : Type} {enc : TypeId × Value → H} {P : Program} {W : World}

theorem rd_ints {T E base : Nat} {k : IntKind} {r : Reach} {v : Value} {d : DataW H} {p : List MemPlace} (hT : P.underlying T = some (.slice E)) (hE : P.underlying E = some (.int k)) (hC : P.cellsOf E = 1)
    (ok : Value.okWide P W r base T v) (h : DataW.Trod enc P W 0 (fun _ => true) true T v d p) :
    ∃ zs : List Int, Rd W W.heap.size v zs.length 1 (zs.map (.int k)) ∧ zs.length ≤ maxLen ∧ ∀ z ∈ zs, (Lit.int k z).wf = true := by
  obtain ⟨a0, len, cap, rfl⟩ := okWide_slice hT ok
  obtain ⟨fuel, hf⟩ := h
  rcases open_ints hT hE hC hf with ⟨hcs, hx⟩ | ⟨a, len', cap', zs, hcs, _, hl, hm, hz, hx, hcell, hwz⟩
  · simp [Value.cells] at hcs
    obtain ⟨rfl, rfl, rfl⟩ := hcs
    exact ⟨[], ⟨rfl, none, 0, rfl, fun h => by simp at h⟩, by simp [maxLen], by simp⟩
  · simp [Value.cells] at hcs
    obtain ⟨rfl, rfl, rfl⟩ := hcs
    have hz' : zs.length = cap := by simpa using hz
    have hlen : (zs.take len).length = len := by rw [List.length_take]; omega
    refine ⟨zs.take len, ?_, by rw [hlen]; omega, fun z hzz => hwz z (List.mem_of_mem_take hzz)⟩
    rw [hlen]
    refine ⟨by simp; omega, some a, cap, rfl, fun hn => ?_⟩
    obtain ⟨b, off, rfl, hc⟩ := ints_at hcell (by omega)
    refine ⟨b, off, rfl, World.block_lt_of_cell? W _ (hc 0 (by omega)), fun i u hu => ?_⟩
    have hi : i < len := by
      have := (List.getElem?_eq_some_iff.1 hu).1
      simp at this; omega
    rw [hc i (by omega), ← hu]
    simp [hi, List.getD, (show i < zs.length by omega)]

theorem rd_bytes {T E base : Nat} {r : Reach} {v : Value} {d : DataW H} {p : List MemPlace} (hT : P.underlying T = some (.slice E)) (hE : P.underlying E = some (.int .u8)) (hC : P.cellsOf E = 1)
    (ok : Value.okWide P W r base T v) (h : DataW.Trod enc P W 0 (fun _ => true) true T v d p) :
    ∃ bs : List UInt8, Rd W W.heap.size v bs.length 1 (bs.map byV) ∧ bs.length ≤ maxLen := by
  obtain ⟨zs, h1, h2, h3⟩ := rd_ints hT hE hC ok h
  refine ⟨zs.map fun z => UInt8.ofNat z.toNat, ?_, by simpa using h2⟩
  have e : (zs.map fun z => UInt8.ofNat z.toNat).map byV = zs.map (.int .u8) := by
    rw [List.map_map]
    refine List.map_congr_left fun z hz => ?_
    have hb := bounds_u8 (h3 z hz)
    simp only [Function.comp, byV, UInt8.toNat_ofNat']
    congr 1
    omega
  rw [e]
  simpa using h1
end
end Go.Proofs.YtmeenihnhfhbkaaDoor
