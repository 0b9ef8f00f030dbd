/- Loans, part 12: a loan is added, in plain words; rows of loans. -/
import Derived.Test.YtfaoilonkonmkaaLo11
import Derived.Test.YtfaoilonkonmkaaLib4
namespace Go.Proofs.Ytfaoilonkonmkaa
open Go.RowKit Go.Joins

theorem flat_part {xs : List Ln} (k : Nat) : xs.flatMap cellsL = (xs.take k).flatMap cellsL ++ (xs.drop k).flatMap cellsL := by
  rw [← List.flatMap_append, List.take_append_drop]
theorem RdL.cells {w : World} {B b o n c : Nat} {xs : List Ln} (h : RdL w B (.slice (some ⟨b, o, none⟩) n c) xs) (i : Nat) (u : Value) (hu : (xs.flatMap cellsL)[i]? = some u) : w.cell? ⟨b, o + i, none⟩ = some u := by
  obtain ⟨hl, A, c', hv, hc⟩ := h
  injection hv with e1 e2 e3
  have hi := (List.getElem?_eq_some_iff.1 hu).1
  obtain ⟨b', o', hA, _, hcc⟩ := hc (by omega)
  rw [hA] at e1
  obtain ⟨rfl, rfl⟩ : b = b' ∧ o = o' := by simpa using e1
  exact hcc i u hu
theorem RdL.head {w : World} {B b o n c : Nat} {xs : List Ln} (h : RdL w B (.slice (some ⟨b, o, none⟩) n c) xs) (k i : Nat) (u : Value) (hu : ((xs.take k).flatMap cellsL)[i]? = some u) : w.cell? ⟨b, o + i, none⟩ = some u := by
  refine h.cells i u ?_
  rw [flat_part k, List.getElem?_append_left (List.getElem?_eq_some_iff.1 hu).1]
  exact hu
theorem RdL.tail {w : World} {B b o n c : Nat} {xs : List Ln} (h : RdL w B (.slice (some ⟨b, o, none⟩) n c) xs) (k : Nat) (hk : k ≤ xs.length) (i : Nat) (u : Value) (hu : ((xs.drop k).flatMap cellsL)[i]? = some u) : w.cell? ⟨b, o + k * 4 + i, none⟩ = some u := by
  have : (xs.flatMap cellsL)[k * 4 + i]? = some u := by
    rw [flat_part k, List.getElem?_append_right (by rw [flat_len cellsL 4 (fun _ => rfl), List.length_take]; omega), flat_len cellsL 4 (fun _ => rfl), List.length_take, ← hu]
    congr 1; omega
  have := h.cells _ u this
  rwa [← Nat.add_assoc] at this
theorem cellsL_one (l : List Ln) : ∀ u ∈ l.flatMap cellsL, u.oneCell' = true := by
  intro u hu
  obtain ⟨x, _, hx⟩ := List.mem_flatMap.1 hu
  simp [cellsL] at hx
  rcases hx with rfl | rfl | rfl | rfl <;> rfl
/-- a row of loans of the call's own -/
def OwnL (w : World) (base : Nat) (v : Value) (zs : List Ln) : Prop := w.ownsRow base 63 4 v zs.length (zs.flatMap cellsL)
theorem OwnL.app {w : World} {base n m : Nat} {v : Value} {zs ys : List Ln} (h : w.ownsRow base 63 4 v (n + m) (zs.flatMap cellsL ++ ys.flatMap cellsL)) (hn : n = zs.length) (hm : m = ys.length) : OwnL w base v (zs ++ ys) := by
  subst hn hm
  unfold OwnL
  rw [List.length_append, List.flatMap_append]; exact h
theorem OwnL.mid {w : World} {base base' a m : Nat} {v : Value} {xs ys : List Ln} {x : Ln} (h : w.ownsRow base' 63 4 v (a + 1 + m) ((xs.flatMap cellsL ++ (#[Value.string x.what, .string x.who, .int .i64 x.from_, .int .i64 x.till] : Array Value).toList) ++ ys.flatMap cellsL)) (ha : xs.length = a) (hm : ys.length = m) (hb : base ≤ base') : OwnL w base v ((xs ++ [x]) ++ ys) := by
  subst ha hm
  have e1 : ((xs ++ [x]) ++ ys).length = xs.length + 1 + ys.length := by simp; omega
  have e2 : ((xs ++ [x]) ++ ys).flatMap cellsL = (xs.flatMap cellsL ++ (#[Value.string x.what, .string x.who, .int .i64 x.from_, .int .i64 x.till] : Array Value).toList) ++ ys.flatMap cellsL := by
    rw [List.flatMap_append, List.flatMap_append]; simp [cellsL]
  unfold OwnL
  rw [e1, e2]
  exact ownsRow_le h hb
theorem OwnL.rd {w : World} {base : Nat} {v : Value} {zs : List Ln} (h : OwnL w base v zs) : RdL w w.heap.size v zs := Rd.of_own h
theorem OwnL.slice {w : World} {base : Nat} {v : Value} {zs : List Ln} (h : OwnL w base v zs) : ∃ A c, v = .slice A zs.length c := h.rd.slice

/-- the last place behind which the new loan stands, from the front -/
def upI (q : Ln → Bool) : List Ln → Nat → Nat → Nat
  | [], _, a => a
  | y :: l, k, a => upI q l (k + 1) (if q y = true then k + 1 else a)
/-- the same, from the end -/
def dnS (p : Nat → Bool) : Nat → Nat
  | 0 => 0
  | k + 1 => if p k = true then dnS p k else k + 1
theorem upI_at (q : Ln → Bool) (xs : List Ln) (k a : Nat) (hk : k < xs.length) : upI q (xs.drop k) k a = upI q (xs.drop (k + 1)) (k + 1) (if q xs[k] = true then k + 1 else a) := by
  rw [List.drop_eq_getElem_cons hk]; rfl
theorem upI_app (q : Ln → Bool) : ∀ (l r : List Ln) (k a : Nat), upI q (l ++ r) k a = upI q r (k + l.length) (upI q l k a)
  | [], r, k, a => rfl
  | y :: l, r, k, a => by
    show upI q (l ++ r) (k + 1) (if q y = true then k + 1 else a) = upI q r (k + (y :: l).length) (upI q l (k + 1) (if q y = true then k + 1 else a))
    rw [upI_app q l r, List.length_cons, show k + (l.length + 1) = k + 1 + l.length by omega]
theorem upI_dn (q : Ln → Bool) (p : Nat → Bool) (xs : List Ln) : ∀ n, n ≤ xs.length → (∀ j, j < n → p j = !q (atL xs j)) → upI q (xs.take n) 0 0 = dnS p n
  | 0, _, _ => rfl
  | n + 1, hn, hp => by
    rw [List.take_succ_eq_append_getElem (by omega), upI_app, upI_dn q p xs n (by omega) (fun j hj => hp j (by omega))]
    have h1 := hp n (by omega)
    rw [atL_at xs n (by omega)] at h1
    show (if q xs[n] = true then 0 + (xs.take n).length + 1 else dnS p n) = (if p n = true then dnS p n else n + 1)
    rw [h1, List.length_take, Nat.min_eq_left (by omega), Nat.zero_add]
    cases q xs[n] <;> rfl
theorem dnS_le (p : Nat → Bool) : ∀ n, dnS p n ≤ n
  | 0 => Nat.le_refl _
  | n + 1 => by
    unfold dnS
    split
    · exact Nat.le_succ_of_le (dnS_le p n)
    · exact Nat.le_refl _
def hitI (xs : List Ln) (x : Ln) (k : Nat) : Bool := !clash x (atL xs k)
def addC (xs : List Ln) (x : Ln) : Int := if loansOk xs = false then 1 else if loanOk x = false then 2 else if chk xs.length (hitI xs x) = false then 9 else if 60 ≤ xs.length then 5 else 0
def addAt (xs : List Ln) (x : Ln) : Nat := dnS (fun k => before x (atL xs k)) xs.length
def addR (xs : List Ln) (x : Ln) : List Ln := if addC xs x = 0 then xs.take (addAt xs x) ++ x :: xs.drop (addAt xs x) else []
theorem addAt_le (xs : List Ln) (x : Ln) : addAt xs x ≤ xs.length := dnS_le _ _
theorem addAt_up {xs : List Ln} {x : Ln} (h1 : loansOk xs = true) (h2 : loanOk x = true) (h3 : chk xs.length (hitI xs x) = true) : upI (fun y => before y x) xs 0 0 = addAt xs x := by
  have := upI_dn (fun y => before y x) (fun k => before x (atL xs k)) xs xs.length (Nat.le_refl _) (fun j hj => by
    have h4 := chk_get h3 hj
    unfold hitI at h4
    unfold loansOk at h1
    simp only [Bool.and_eq_true] at h1
    have h5 := chk_get h1.1 hj
    unfold placeS at h5
    simp only [Bool.and_eq_true] at h5
    exact before_flip h2 h5.1.1 (by simpa using h4))
  rwa [List.take_length] at this
theorem add_1 {xs : List Ln} {x : Ln} (h : loansOk xs = false) : addC xs x = 1 ∧ addR xs x = [] := by
  have : addC xs x = 1 := by unfold addC; rw [if_pos h]
  exact ⟨this, by unfold addR; rw [this]; rfl⟩
theorem add_2 {xs : List Ln} {x : Ln} (h : loansOk xs = true) (h2 : loanOk x = false) : addC xs x = 2 ∧ addR xs x = [] := by
  have : addC xs x = 2 := by unfold addC; rw [h, h2]; rfl
  exact ⟨this, by unfold addR; rw [this]; rfl⟩
theorem add_9 {xs : List Ln} {x : Ln} (h : loansOk xs = true) (h2 : loanOk x = true) (k : Nat) (hk : k < xs.length) (h3 : clash x xs[k] = true) : addC xs x = 9 ∧ addR xs x = [] := by
  have hc : chk xs.length (hitI xs x) = false := chk_bad k hk (by unfold hitI; rw [atL_at xs k hk, h3]; rfl)
  have : addC xs x = 9 := by unfold addC; rw [h, h2, hc]; rfl
  exact ⟨this, by unfold addR; rw [this]; rfl⟩
theorem add_5 {xs : List Ln} {x : Ln} (h : loansOk xs = true) (h2 : loanOk x = true) (h3 : chk xs.length (hitI xs x) = true) (h4 : 60 ≤ xs.length) : addC xs x = 5 ∧ addR xs x = [] := by
  have : addC xs x = 5 := by unfold addC; rw [h, h2, h3, if_pos h4]; rfl
  exact ⟨this, by unfold addR; rw [this]; rfl⟩
theorem add_0 {xs : List Ln} {x : Ln} (h : loansOk xs = true) (h2 : loanOk x = true) (h3 : chk xs.length (hitI xs x) = true) (h4 : xs.length < 60) : addC xs x = 0 ∧ addR xs x = (xs.take (addAt xs x) ++ [x]) ++ xs.drop (addAt xs x) := by
  have : addC xs x = 0 := by unfold addC; rw [h, h2, h3]; simp; omega
  exact ⟨this, by unfold addR; rw [if_pos this]; simp⟩
theorem loansOk_len {xs : List Ln} (h : loansOk xs = true) : xs.length ≤ 60 := by
  unfold loansOk at h
  simp only [Bool.and_eq_true, decide_eq_true_eq] at h
  exact h.2
theorem hit_step {xs : List Ln} {x : Ln} {k : Nat} (hk : k < xs.length) (h0 : chk k (hitI xs x) = true) (h : clash x xs[k] = false) : chk (k + 1) (hitI xs x) = true :=
  chk_step h0 (by unfold hitI; rw [atL_at xs k hk, h]; rfl)

/-- a new list of loans and a code -/
def RetLn (code : Int) (zs : List Ln) (w : World) (e : Ending) (w' : World) : Prop :=
  ∃ v, e = .returned (.tuple #[v, .int .i64 code]) ∧ OwnL w' w.heap.size v zs ∧ Below w.heap.size w w'
theorem RetLn_no {code c2 : Int} {zs : List Ln} {w w' : World} (h : code = c2 ∧ zs = []) (hb : Below w.heap.size w w') : RetLn code zs w (.returned (.tuple #[.slice none 0 0, .int .i64 c2])) w' := by
  obtain ⟨rfl, rfl⟩ := h
  exact ⟨_, rfl, World.ownsRow_nil _ _ _ _, hb⟩
theorem RetLn_yes {code c2 : Int} {zs l : List Ln} {v : Value} {w w' : World} (h : code = c2 ∧ zs = l) (ho : OwnL w' w.heap.size v l) (hb : Below w.heap.size w w') : RetLn code zs w (.returned (.tuple #[v, .int .i64 c2])) w' := by
  obtain ⟨rfl, rfl⟩ := h
  exact ⟨_, rfl, ho, hb⟩
end Go.Proofs.Ytfaoilonkonmkaa
