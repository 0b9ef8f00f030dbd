/- Chains, part 7: a drawn chain under way. -/
import Derived.Test.YtdljlemgaefbpaaCh6
import Derived.Test.YtdljlemgaefbpaaLib6
import Derived.Test.YtdljlemgaefbpaaFew8
namespace Go.Proofs.Ytdljlemgaefbpaa
open Go.RowKit Go.Joins

/-- a chain with its own rows of plays and of places, a result's block r beside it -/
structure DrAt (B0 : Nat) (w wr : World) (r g : Nat) (vp vq : Value) (ps qs : List Int) : Prop where
  res : wr.heap[r]? = some nilC
  own : wr.heap[g]? = some (.cells #[vp, vq] 26 (0, 0))
  rp : wr.ownsRow w.heap.size 2 1 vp ps.length (nmV ps)
  rq : wr.ownsRow w.heap.size 2 1 vq qs.length (nmV qs)
  ne : vp.ownBlock = none ∨ vp.ownBlock ≠ vq.ownBlock
  bel : Below B0 w wr
theorem or_none {a : Option Nat} {g : Nat} (h : a ≠ some g) : a = none ∨ a ≠ some g := .inr h
theorem grown_set (w' : World) (g i : Nat) (v : Value) : w'.grownBy (w'.setCell ⟨g, i, none⟩ v) (some g) :=
  ⟨rfl, rfl, rfl, by simp [World.setCell], fun i _ hi => Below.heap_setCell _ _ _ _ (fun e => hi (by rw [e]))⟩
theorem new_ne {wr : World} {B n sz N : Nat} {e : TypeId} {v : Value} {xs : List Value} (h : wr.ownsRow B e sz v n xs) (hN : wr.heap.size ≤ N) : v.ownBlock ≠ some N := by
  intro e
  have := (h.lt N e).2
  omega
theorem DrAt.appP {B0 : Nat} {w wr w' : World} {r g N : Nat} {vp vq v' : Value} {ps qs : List Int} {x : Int} (h : DrAt B0 w wr r g vp vq ps qs) (hB : B0 ≤ w.heap.size) (hg : w.heap.size ≤ g) (hrg : r ≠ g) (hN : wr.heap.size ≤ N)
    (h2 : w'.ownsRow w.heap.size 2 1 v' (ps.length + 1) (nmV ps ++ [.int .i64 x])) (h3 : wr.grownBy w' vp.ownBlock) (h4 : v'.ownBlock = vp.ownBlock ∨ v'.ownBlock = some N) :
    w'.cell? ⟨g, 0, none⟩ = some vp ∧ w'.frozen? ⟨g, 0, none⟩ = false ∧ DrAt B0 w (w'.setCell ⟨g, 0, none⟩ v') r g v' vq (ps ++ [x]) qs := by
  have hr0 := (h3.block r (Array.getElem?_eq_some_iff.1 h.res).1 (fun e => own_ne h.rp h.res (by decide) e.symm)).trans h.res
  have hg0 := (h3.block g (Array.getElem?_eq_some_iff.1 h.own).1 (fun e => own_ne h.rp h.own (by decide) e.symm)).trans h.own
  obtain ⟨q0, _, q2, _⟩ := blk2 hg0
  have hpp : w'.ownsRow w.heap.size 2 1 v' (ps ++ [x]).length (nmV (ps ++ [x])) := by rw [List.length_append, nmV_app]; exact h2
  have hqq : w'.ownsRow w.heap.size 2 1 vq qs.length (nmV qs) := h.rq.kept h3 (by
    rcases h.ne with e | e
    · cases hv : vq.ownBlock with
      | none => exact .inl rfl
      | some y => rw [e]; exact .inr (by simp)
    · exact .inr (fun e2 => e e2.symm))
  refine ⟨q0, q2, ⟨(Below.heap_setCell _ _ _ _ hrg).trans hr0, heap_setCell_same w' g 0 _ _ v' hg0, hpp.kept (grown_set w' g 0 v') (.inr (own_ne hpp hg0 (by decide))), hqq.kept (grown_set w' g 0 v') (.inr (own_ne hqq hg0 (by decide))), ?_, (h.bel.grown h3 (Nat.le_trans hB h.bel.size) (fun k hk => Nat.le_trans hB (h.rp.lt k hk).1)).setCell (p := ⟨g, 0, none⟩) (Nat.le_trans hB hg) v'⟩⟩
  rcases h4 with e | e
  · rw [e]; exact h.ne
  · rw [e]; exact .inr (fun e2 => new_ne h.rq hN e2.symm)
theorem DrAt.appQ {B0 : Nat} {w wr w' : World} {r g N : Nat} {vp vq v' : Value} {ps qs : List Int} {x : Int} (h : DrAt B0 w wr r g vp vq ps qs) (hB : B0 ≤ w.heap.size) (hg : w.heap.size ≤ g) (hrg : r ≠ g) (hN : wr.heap.size ≤ N)
    (h2 : w'.ownsRow w.heap.size 2 1 v' (qs.length + 1) (nmV qs ++ [.int .i64 x])) (h3 : wr.grownBy w' vq.ownBlock) (h4 : v'.ownBlock = vq.ownBlock ∨ v'.ownBlock = some N) :
    w'.cell? ⟨g, 1, none⟩ = some vq ∧ w'.frozen? ⟨g, 1, none⟩ = false ∧ DrAt B0 w (w'.setCell ⟨g, 1, none⟩ v') r g vp v' ps (qs ++ [x]) := by
  have hr0 := (h3.block r (Array.getElem?_eq_some_iff.1 h.res).1 (fun e => own_ne h.rq h.res (by decide) e.symm)).trans h.res
  have hg0 := (h3.block g (Array.getElem?_eq_some_iff.1 h.own).1 (fun e => own_ne h.rq h.own (by decide) e.symm)).trans h.own
  obtain ⟨_, q1, _, q3⟩ := blk2 hg0
  have hqq : w'.ownsRow w.heap.size 2 1 v' (qs ++ [x]).length (nmV (qs ++ [x])) := by rw [List.length_append, nmV_app]; exact h2
  have hpp : w'.ownsRow w.heap.size 2 1 vp ps.length (nmV ps) := h.rp.kept h3 h.ne
  refine ⟨q1, q3, ⟨(Below.heap_setCell _ _ _ _ hrg).trans hr0, heap_setCell_same w' g 1 _ _ v' hg0, hpp.kept (grown_set w' g 1 v') (.inr (own_ne hpp hg0 (by decide))), hqq.kept (grown_set w' g 1 v') (.inr (own_ne hqq hg0 (by decide))), ?_, (h.bel.grown h3 (Nat.le_trans hB h.bel.size) (fun k hk => Nat.le_trans hB (h.rq.lt k hk).1)).setCell (p := ⟨g, 1, none⟩) (Nat.le_trans hB hg) v'⟩⟩
  rcases h4 with e | e
  · rw [e]; exact h.ne
  · rw [e]; exact .inr (new_ne h.rp hN)
theorem kept_gs {wr w2 : World} {gs B n sz : Nat} {e : TypeId} {v : Value} {xs : List Value} (h : wr.ownsRow B e sz v n xs) (h2 : wr.grownBy w2 (some gs)) (hgs : gs < B) : w2.ownsRow B e sz v n xs :=
  h.kept h2 (.inr (fun e => by have := (h.lt gs e).1; omega))
theorem DrAt.pick {B0 gs : Nat} {w wr w2 : World} {r g : Nat} {vp vq : Value} {ps qs : List Int} (h : DrAt B0 w wr r g vp vq ps qs) (hB : B0 ≤ w.heap.size) (hgs : B0 ≤ gs) (hgw : gs < w.heap.size) (hr : w.heap.size ≤ r) (hg : w.heap.size ≤ g) (h2 : wr.grownBy w2 (some gs)) : DrAt B0 w w2 r g vp vq ps qs :=
  ⟨(h2.block r (Array.getElem?_eq_some_iff.1 h.res).1 (fun e => by injection e; omega)).trans h.res, (h2.block g (Array.getElem?_eq_some_iff.1 h.own).1 (fun e => by injection e; omega)).trans h.own, kept_gs h.rp h2 hgw, kept_gs h.rq h2 hgw, h.ne, h.bel.grown h2 (Nat.le_trans hB h.bel.size) (fun k hk => by cases hk; exact hgs)⟩
theorem dr_new {B0 : Nat} {w wr : World} {r : Nat} (q0 : Int) (h : wr.heap[r]? = some nilC) (hb : Below B0 w wr) (hB : B0 ≤ w.heap.size) (hw : w.heap.size ≤ wr.heap.size) :
    DrAt B0 w ((wr.alloc (.cells #[.int .i64 q0] 2)).alloc (.cells #[.slice none 0 0, .slice (some ⟨wr.heap.size, 0, none⟩) 1 1] 26)) r (wr.heap.size + 1) (.slice none 0 0) (.slice (some ⟨wr.heap.size, 0, none⟩) 1 1) [] [q0] := by
  have hr := (Array.getElem?_eq_some_iff.1 h).1
  refine ⟨?_, ?_, World.ownsRow_nil _ _ _ _, ?_, .inl rfl, (hb.alloc (Nat.le_trans hB hb.size) _).alloc (Nat.le_trans (Nat.le_trans hB hb.size) (by simp)) _⟩
  · show ((wr.heap.push _).push _)[r]? = _
    simp only [Array.getElem?_push, Array.size_push]
    rw [if_neg (by omega), if_neg (by omega)]; exact h
  · show ((wr.heap.push _).push _)[wr.heap.size + 1]? = _
    simp only [Array.getElem?_push, Array.size_push]
    rw [if_pos trivial]
  · have h1 : (wr.alloc (.cells #[.int .i64 q0] 2)).ownsRow w.heap.size 2 1 (.slice (some ⟨wr.heap.size, 0, none⟩) 1 1) 1 [.int .i64 q0] :=
      ⟨rfl, .inr ⟨wr.heap.size, 1, #[.int .i64 q0], rfl, hw, heap_alloc_new wr _, Nat.le_refl _, by simp [maxLen], rfl, rfl⟩⟩
    exact h1.alloc _
theorem DrAt.done {B0 : Nat} {w wr : World} {r g : Nat} {vp vq : Value} {ps qs : List Int} (h : DrAt B0 w wr r g vp vq ps qs) (hr : B0 ≤ r) (x y : Value) :
    ((wr.setCell ⟨r, 0, none⟩ x).setCell ⟨r, 1, none⟩ y).cell? ⟨r, 0, none⟩ = some x ∧ ((wr.setCell ⟨r, 0, none⟩ x).setCell ⟨r, 1, none⟩ y).cell? ⟨r, 1, none⟩ = some y ∧
    ((wr.setCell ⟨r, 0, none⟩ x).setCell ⟨r, 1, none⟩ y).ownsRow w.heap.size 2 1 vp ps.length (nmV ps) ∧ ((wr.setCell ⟨r, 0, none⟩ x).setCell ⟨r, 1, none⟩ y).ownsRow w.heap.size 2 1 vq qs.length (nmV qs) ∧ Below B0 w ((wr.setCell ⟨r, 0, none⟩ x).setCell ⟨r, 1, none⟩ y) := by
  have hq := heap_setCell_same _ r 1 _ _ y (heap_setCell_same wr r 0 _ _ x h.res)
  obtain ⟨e0, e1, _, _⟩ := blk2 hq
  have h0 := heap_setCell_same wr r 0 _ _ x h.res
  exact ⟨e0, e1, (h.rp.kept (grown_set wr r 0 x) (.inr (own_ne h.rp h.res (by decide)))).kept (grown_set _ r 1 y) (.inr (own_ne h.rp h.res (by decide))), (h.rq.kept (grown_set wr r 0 x) (.inr (own_ne h.rq h.res (by decide)))).kept (grown_set _ r 1 y) (.inr (own_ne h.rq h.res (by decide))), (h.bel.setCell (p := ⟨r, 0, none⟩) hr x).setCell (p := ⟨r, 1, none⟩) hr y⟩

/-- the drawn chain's numbers -/
theorem chn_app {ps qs : List Int} {p x : Int} (hp : ∀ k, k < ps.length → 0 ≤ at0 ps k ∧ at0 ps k ≤ 100 ∧ at0 qs (k + 1) - at0 qs k ≤ at0 ps k ∧ at0 qs k - at0 qs (k + 1) ≤ at0 ps k) (hl : qs.length = ps.length + 1) (h0 : 0 ≤ p) (h1 : p ≤ 100) (hx : x - at0 qs ps.length ≤ p ∧ at0 qs ps.length - x ≤ p) :
    ∀ k, k < (ps ++ [p]).length → 0 ≤ at0 (ps ++ [p]) k ∧ at0 (ps ++ [p]) k ≤ 100 ∧ at0 (qs ++ [x]) (k + 1) - at0 (qs ++ [x]) k ≤ at0 (ps ++ [p]) k ∧ at0 (qs ++ [x]) k - at0 (qs ++ [x]) (k + 1) ≤ at0 (ps ++ [p]) k := by
  intro k hk
  rw [List.length_append, List.length_singleton] at hk
  unfold at0 at *
  simp only [List.getD_eq_getElem?_getD] at *
  by_cases e : k = ps.length
  · subst e
    rw [List.getElem?_append_right (Nat.le_refl _), List.getElem?_append_right (by omega), List.getElem?_append_left (l₁ := qs) (by omega)]
    rw [show ps.length + 1 - qs.length = 0 by omega, show ps.length - ps.length = 0 by omega]
    simp only [List.getElem?_cons_zero, Option.getD_some]
    omega
  · have hk' : k < ps.length := by omega
    have := hp k hk'
    rw [List.getElem?_append_left (by omega), List.getElem?_append_left (l₁ := qs) (by omega), List.getElem?_append_left (l₁ := qs) (by omega)]
    exact this
end Go.Proofs.Ytdljlemgaefbpaa
