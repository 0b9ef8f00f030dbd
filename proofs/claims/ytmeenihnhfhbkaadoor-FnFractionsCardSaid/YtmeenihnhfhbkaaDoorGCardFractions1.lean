/- Merged texts: Lib, Tr1, Lib2, Base, Df1, Df2, Df3, Fi1, Lib5, Df6, Src, Long, Df4, Df5, Df7, Df8, Dd1, Tr2, Ro1, U1. -/
import Derived.WalkKit
import Derived.WalkSpells
import Derived.WalkLawsBesides
import Derived.Deep.QuietTactic
import Derived.BigQuiet
import Derived.StillTailTactics
import Derived.Laws.IdiomStrings
import Derived.Deep.RegionHeld3
import Derived.Deep.AppendLies
import Derived.Deep.DrawnRows
import Derived.Lib.Hide
import Derived.IntWalk
import Derived.KernelRfl
import Derived.Test.YtmeenihnhfhbkaaDoorRows
import Derived.Lib.SmallJoins
import Derived.Deep.RegionLaw
import Derived.Deep.RegionWith
import Derived.Deep.DeepCutAuto
import Derived.Deep.CutRange
import Derived.Laws.BitsAllLaws
/- Laws of my own for walks: append of new elements to a row of the call's own; conversions of owned rows of bytes to strings. No program is named here but for the numbers of types. -/
namespace Go.Proofs.YtmeenihnhfhbkaaDoor
open Go.RowKit

theorem ret_int {k : IntKind} {a b : Int} (h : a = b) : Ending.returned (.int k a) = .returned (.int k b) := by rw [h]

section
variable {P : Program}

/-- the cells of a block that has just been made -/
theorem new_cells (w : World) (cs : Array Value) (e : TypeId) : ∀ j u, cs.toList[j]? = some u → (w.alloc (.cells cs e)).cell? ((⟨w.heap.size, 0, none⟩ : Addr).add j) = some u := by
  intro j u hu
  have hadd : (⟨w.heap.size, 0, none⟩ : Addr).add j = ⟨w.heap.size, j, none⟩ := by unfold Addr.add; split <;> simp_all
  rw [hadd, cell_of_row (w.alloc (.cells cs e)) w.heap.size j cs e (0, 0) (heap_alloc_new w _)]
  simpa using hu

theorem wpList_apd {w : World} {ops : Array Oper} {rest : List Oper} {o : Oper} {a : Act} {Q : Exit → Act → World → Prop} (t e : TypeId) (z : Value) (size bytes : Nat)
    (ht : P.underlying t = some (.slice e)) (hinfo : (P.info? e).map (fun i => (i.zero, i.size, i.bytes)) = some (some z, size, bytes)) (hzs : z.cells.size = size) (hsz : 0 < size)
    (s x : Operand) (hgd : o.guard = none) (ho : o.op = .call { callee := .builtin .append, args := #[s, x], argTypes := #[t, t] })
    (base : Nat) (v : Value) (n : Nat) (xs : List Value) (hs : a.eval s = v) (hown : w.ownsRow base e size v n xs)
    (cs : Array Value) (m c : Nat) (hx : a.eval x = .slice (some ⟨w.heap.size, 0, none⟩) m c) (hl : cs.toList.length = m * size) (h1 : ∀ u ∈ cs.toList, u.oneCell' = true)
    (h63 : n + m ≤ maxLen) (hbytes : (n + m) * bytes ≤ 140737488355328) (hbase : base ≤ w.heap.size)
    (h : ∀ v' w', w'.ownsRow base e size v' (n + m) (xs ++ cs.toList) → w.grownBy w' v.ownBlock → wpList P ops Q rest (a.put o.dst v') w') :
    wpList P ops Q (o :: rest) a (w.alloc (.cells cs e)) := by
  obtain ⟨i, hi, hz, h2, h3⟩ := info_parts hinfo
  refine wpList_append_own _ hgd s x t ho base e i z size bytes ht hi hz h2 h3 hzs hsz v n xs hs (hown.alloc _) ⟨w.heap.size, 0, none⟩ m c cs.toList hx hl (new_cells w cs e) h1 h63 hbytes (by simp; omega) ?_
  intro v' w' ho' hg' _
  refine h v' w' ho' ⟨hg'.os, hg'.tape, hg'.output, Nat.le_trans (by simp) hg'.size, fun k hk hne => ?_⟩
  rw [hg'.block k (by simp; omega) hne]
  exact Below.heap_alloc w _ k hk

theorem wp_apd {w : World} {o : Oper} {a : Act} {K : Act → World → Prop} {Q : Exit → Act → World → Prop} (t e : TypeId) (z : Value) (size bytes : Nat)
    (ht : P.underlying t = some (.slice e)) (hinfo : (P.info? e).map (fun i => (i.zero, i.size, i.bytes)) = some (some z, size, bytes)) (hzs : z.cells.size = size) (hsz : 0 < size)
    (s x : Operand) (ho : o.op = .call { callee := .builtin .append, args := #[s, x], argTypes := #[t, t] })
    (base : Nat) (v : Value) (n : Nat) (xs : List Value) (hs : a.eval s = v) (hown : w.ownsRow base e size v n xs)
    (cs : Array Value) (m c : Nat) (hx : a.eval x = .slice (some ⟨w.heap.size, 0, none⟩) m c) (hl : cs.toList.length = m * size) (h1 : ∀ u ∈ cs.toList, u.oneCell' = true)
    (h63 : n + m ≤ maxLen) (hbytes : (n + m) * bytes ≤ 140737488355328) (hbase : base ≤ w.heap.size)
    (h : ∀ v' w', w'.ownsRow base e size v' (n + m) (xs ++ cs.toList) → w.grownBy w' v.ownBlock → K (a.put o.dst v') w') :
    o.wp P a (w.alloc (.cells cs e)) K Q := by
  obtain ⟨i, hi, hz, h2, h3⟩ := info_parts hinfo
  refine wp_append_own _ s x t ho base e i z size bytes ht hi hz h2 h3 hzs hsz v n xs hs (hown.alloc _) ⟨w.heap.size, 0, none⟩ m c cs.toList hx hl (new_cells w cs e) h1 h63 hbytes (by simp; omega) ?_
  intro v' w' ho' hg' _
  refine h v' w' ho' ⟨hg'.os, hg'.tape, hg'.output, Nat.le_trans (by simp) hg'.size, fun k hk hne => ?_⟩
  rw [hg'.block k (by simp; omega) hne]
  exact Below.heap_alloc w _ k hk

/-- the same at a step of a region that draws its order -/
theorem step_apd {w : World} {ops : Array Oper} {o : Oper} {a : Act} {K : Act → World → Prop} {Q : Exit → Act → World → Prop} {E : Prop} (t e : TypeId) (z : Value) (size bytes : Nat)
    (ht : P.underlying t = some (.slice e)) (hinfo : (P.info? e).map (fun i => (i.zero, i.size, i.bytes)) = some (some z, size, bytes)) (hzs : z.cells.size = size) (hsz : 0 < size)
    (s x : Operand) (hgd : o.guard = none) (ho : o.op = .call { callee := .builtin .append, args := #[s, x], argTypes := #[t, t] })
    (base : Nat) (v : Value) (n : Nat) (xs : List Value) (hs : a.eval s = v) (hown : w.ownsRow base e size v n xs)
    (cs : Array Value) (m c : Nat) (hx : a.eval x = .slice (some ⟨w.heap.size, 0, none⟩) m c) (hl : cs.toList.length = m * size) (h1 : ∀ u ∈ cs.toList, u.oneCell' = true)
    (h63 : n + m ≤ maxLen) (hbytes : (n + m) * bytes ≤ 140737488355328) (hbase : base ≤ w.heap.size)
    (h : ∀ v' w', w'.ownsRow base e size v' (n + m) (xs ++ cs.toList) → w.grownBy w' v.ownBlock → K (a.put o.dst v') w') :
    if Region.wanted o (yielded ops a.tmps) = true then Oper.wp P o a (w.alloc (.cells cs e)).drew K Q else E := by
  have hw : Region.wanted o (yielded ops a.tmps) = true := by simp [Region.wanted, hgd]
  rw [if_pos hw]
  refine wp_apd (w := w.drew) t e z size bytes ht hinfo hzs hsz s x ho base v n xs hs hown.drew cs m c hx hl h1 h63 hbytes hbase ?_
  intro v' w' h2 h3
  exact h v' w' h2 ⟨h3.os, h3.tape, h3.output, h3.size, h3.block⟩

/-- what an append to a row of the call's own does to what lay below -/
theorem below_apd {w w' : World} {B base : Nat} {W : World} {e : TypeId} {size n : Nat} {v : Value} {xs : List Value} (h : Below B W w) (hown : w.ownsRow base e size v n xs) (hg : w.grownBy w' v.ownBlock)
    (hB : B ≤ base) (hs : B ≤ w.heap.size) : Below B W w' :=
  h.grown hg hs (fun k hk => Nat.le_trans hB (hown.lt k hk).1)

theorem below_drewN {B : Nat} {a w : World} (h : Below B a w) (n : Nat) : Below B a (w.drewN n) := ⟨h.os, h.tape, h.output, h.size, h.block⟩
theorem below_undrew {B : Nat} {a w : World} (h : Below B a.drew w) : Below B a w := ⟨h.os, h.tape, h.output, h.size, h.block⟩
theorem below_undrewN {B n : Nat} {a w : World} (h : Below B (a.drewN n) w) : Below B a w := ⟨h.os, h.tape, h.output, h.size, h.block⟩
theorem grown_undrew {r : Option Nat} {a w : World} (h : a.drew.grownBy w r) : a.grownBy w r := ⟨h.os, h.tape, h.output, h.size, h.block⟩
theorem grown_of_below {a w : World} (h : Below a.heap.size a w) (r : Option Nat) : a.grownBy w r := ⟨h.os, h.tape, h.output, h.size, fun i hi _ => h.block i hi⟩
theorem grown_trans {a b c : World} {r : Option Nat} (h : a.grownBy b r) (k : b.grownBy c r) : a.grownBy c r :=
  ⟨k.os.trans h.os, k.tape.trans h.tape, k.output.trans h.output, Nat.le_trans h.size k.size, fun i hi hne => (k.block i (Nat.lt_of_lt_of_le hi h.size) hne).trans (h.block i hi hne)⟩
theorem own_below {w w' : World} {base : Nat} {e : TypeId} {size : Nat} {v : Value} {n : Nat} {xs : List Value} (h : w.ownsRow base e size v n xs) (hb : Below w.heap.size w w') : w'.ownsRow base e size v n xs :=
  h.kept (grown_of_below hb none) (by cases hv : v.ownBlock <;> simp)
theorem _root_.Go.World.ownsRow.drewN {w : World} {base : Nat} {e : TypeId} {size : Nat} {v : Value} {n : Nat} {xs : List Value} (h : w.ownsRow base e size v n xs) (k : Nat) : (w.drewN k).ownsRow base e size v n xs := h

theorem blk2 {w : World} {g : Nat} {a b : Value} {t : TypeId} (h : w.heap[g]? = some (.cells #[a, b] t (0, 0))) :
    w.cell? ⟨g, 0, none⟩ = some a ∧ w.cell? ⟨g, 1, none⟩ = some b ∧ w.frozen? ⟨g, 0, none⟩ = false ∧ w.frozen? ⟨g, 1, none⟩ = false :=
  ⟨by rw [cell_of_row w g 0 _ _ _ h]; rfl, by rw [cell_of_row w g 1 _ _ _ h]; rfl, frozen_of_row w g 0 _ _ h, frozen_of_row w g 1 _ _ h⟩
theorem grown_setCell {a w : World} {r : Option Nat} (h : a.grownBy w r) {p : Addr} (hp : some p.block = r ∨ a.heap.size ≤ p.block) (u : Value) : a.grownBy (w.setCell p u) r :=
  ⟨h.os, h.tape, h.output, by simpa [World.setCell] using h.size, fun i hi hne => (Below.heap_setCell w p u i (by
    rintro rfl
    rcases hp with hp | hp
    · exact hne hp
    · omega)).trans (h.block i hi hne)⟩
theorem grown_alloc {a w : World} {r : Option Nat} (h : a.grownBy w r) (o : Obj) : a.grownBy (w.alloc o) r :=
  ⟨h.os, h.tape, h.output, Nat.le_trans h.size (by simp), fun i hi hne => (Below.heap_alloc w o i (Nat.lt_of_lt_of_le hi h.size)).trans (h.block i hi hne)⟩
theorem grown_below {a b c : World} {r : Option Nat} (h : a.grownBy b r) (k : Below b.heap.size b c) : a.grownBy c r := grown_trans h (grown_of_below k r)
/-- a block that was made on the way: seen from before, it is new -/
theorem grown_from_alloc {a w : World} {o : Obj} {r : Option Nat} (h : (a.alloc o).grownBy w r) : a.grownBy w r :=
  ⟨h.os, h.tape, h.output, Nat.le_trans (by simp) h.size, fun i hi hne => (h.block i (by simp; omega) hne).trans (Below.heap_alloc a o i hi)⟩
theorem below_of_grown {a w : World} {r : Option Nat} {B : Nat} (h : a.grownBy w r) (hB : B ≤ a.heap.size) (hr : ∀ x, r = some x → B ≤ x) : Below B a w :=
  ⟨h.os, h.tape, h.output, h.size, fun i hi => h.block i (by omega) (fun e => by have := hr i e.symm; omega)⟩

/-- THE READING OF A SLICE: the value is a slice of n elements, whose cells (sz an element) lie below block B and hold cs. -/
def Rd (w : World) (B : Nat) (v : Value) (n sz : Nat) (cs : List Value) : Prop :=
  cs.length = n * sz ∧ ∃ A c, v = .slice A n c ∧ (0 < n * sz → ∃ b off, A = some ⟨b, off, none⟩ ∧ b < B ∧ ∀ i u, cs[i]? = some u → w.cell? ⟨b, off + i, none⟩ = some u)

theorem Rd.of_own {w : World} {base : Nat} {e : TypeId} {sz n : Nat} {v : Value} {cs : List Value} (h : w.ownsRow base e sz v n cs) : Rd w w.heap.size v n sz cs := by
  refine ⟨h.1, ?_⟩
  rcases h.2 with ⟨rfl, rfl⟩ | ⟨g, cap, cur, rfl, _, hg, _⟩
  · exact ⟨none, 0, rfl, fun h => by simp at h⟩
  · refine ⟨_, _, rfl, fun _ => ⟨g, 0, rfl, (Array.getElem?_eq_some_iff.1 hg).1, fun i u hu => ?_⟩⟩
    have := h.cells (g := g) rfl i u hu
    rw [show (⟨g, 0, none⟩ : Addr).add i = ⟨g, 0 + i, none⟩ by unfold Addr.add; split <;> simp_all] at this
    exact this
theorem Rd.keep {w w' : World} {B : Nat} {v : Value} {n sz : Nat} {cs : List Value} (h : Rd w B v n sz cs) (hk : ∀ p : Addr, p.block < B → w'.cell? p = w.cell? p) : Rd w' B v n sz cs := by
  obtain ⟨h1, A, c, hv, h2⟩ := h
  refine ⟨h1, A, c, hv, fun hn => ?_⟩
  obtain ⟨b, off, hA, hb, hc⟩ := h2 hn
  exact ⟨b, off, hA, hb, fun i u hu => (hk _ hb).trans (hc i u hu)⟩
theorem Rd.below {w w' : World} {B : Nat} {v : Value} {n sz : Nat} {cs : List Value} (h : Rd w B v n sz cs) (hb : Below B w w') : Rd w' B v n sz cs := h.keep fun _ hp => hb.cell hp
theorem Rd.more {w : World} {B B' : Nat} {v : Value} {n sz : Nat} {cs : List Value} (h : Rd w B v n sz cs) (hB : B ≤ B') : Rd w B' v n sz cs := by
  obtain ⟨h1, A, c, hv, h2⟩ := h
  refine ⟨h1, A, c, hv, fun hn => ?_⟩
  obtain ⟨b, off, hA, hb, hc⟩ := h2 hn
  exact ⟨b, off, hA, Nat.lt_of_lt_of_le hb hB, hc⟩
theorem Rd.drewN {w : World} {B : Nat} {v : Value} {n sz : Nat} {cs : List Value} (h : Rd w B v n sz cs) (k : Nat) : Rd (w.drewN k) B v n sz cs := h

theorem ba_app (a b : Array UInt8) : ((⟨a⟩ : ByteArray) ++ ⟨b⟩) = ⟨a ++ b⟩ := ByteArray.ext (by simp)
theorem ba_inj {a b : ByteArray} (h : a.toList = b.toList) : a = b := by
  rw [ByteArray.toList_eq, ByteArray.toList_eq] at h
  exact ByteArray.ext (by rw [← Array.toArray_toList (xs := a.data), h, Array.toArray_toList])

/-- a byte as a cell -/
def byV (c : UInt8) : Value := .int .u8 (c.toNat : Int)

theorem run_conv_own {w : World} (src dst e : TypeId) (hsrc : P.underlying src = some (.slice e)) (he : P.underlying e = some (.int .u8)) (hd : P.underlying dst = some .string)
    (base : Nat) (v : Value) (n : Nat) (l : List UInt8) (hown : w.ownsRow base e 1 v n (l.map byV)) : (convert src dst v).run P w = .ok (.string ⟨l.toArray⟩) w := by
  have hlen : l.length = n := by simpa using hown.1
  rcases hown.2 with ⟨rfl, h0⟩ | ⟨g, cap, cur, rfl, _, hg, _⟩
  · obtain rfl : l = [] := List.eq_nil_of_length_eq_zero (by omega)
    rw [run_convert_bytes_string w src dst e _ _ _ hsrc he hd]
    simp [Conv.bytesToString]; rfl
  · subst hlen
    refine run_convert_bytes_back w src dst e _ cap l hsrc he hd (fun j hj => ?_)
    have := hown.cells (g := g) rfl j (byV l[j]) (by simp [hj])
    exact this
theorem run_conv_one {w : World} (src dst e : TypeId) (hsrc : P.underlying src = some (.slice e)) (he : P.underlying e = some (.int .u8)) (hd : P.underlying dst = some .string) (c : UInt8) :
    (convert src dst (.slice (some ⟨w.heap.size, 0, none⟩) 1 1)).run P (w.alloc (.cells #[.int .u8 (c.toNat : Int)] e)) = .ok (.string ⟨#[c]⟩) (w.alloc (.cells #[.int .u8 (c.toNat : Int)] e)) :=
  run_convert_bytes_back _ src dst e _ 1 [c] hsrc he hd (fun j hj => by
    have : j = 0 := by simpa using hj
    subst this
    exact new_cells w #[.int .u8 (c.toNat : Int)] e 0 _ rfl)
end
end Go.Proofs.YtmeenihnhfhbkaaDoor
/- Trains, part 1: ratios in plain words. -/
namespace Go.Proofs.YtmeenihnhfhbkaaDoor

/-- lowest terms -/
def lowN (N : Int) (D : Nat) : Int := N.tdiv (Nat.gcd N.natAbs D : Nat)
def lowD (N : Int) (D : Nat) : Nat := D / Nat.gcd N.natAbs D
theorem low_mul (N : Int) (D : Nat) : lowN N D * (Nat.gcd N.natAbs D : Nat) = N := by
  unfold lowN
  exact Int.tdiv_mul_cancel (Int.ofNat_dvd_left.2 (Nat.gcd_dvd_left _ _))
theorem low_muld (N : Int) (D : Nat) : lowD N D * Nat.gcd N.natAbs D = D := Nat.div_mul_cancel (Nat.gcd_dvd_right _ _)
theorem low_pos {N : Int} {D : Nat} (h : 0 < D) : 0 < lowD N D := by
  have := low_muld N D
  refine Nat.pos_of_ne_zero fun e => ?_
  rw [e] at this; omega
theorem low_g {N : Int} {D : Nat} (h : 0 < D) : 0 < Nat.gcd N.natAbs D := Nat.gcd_pos_of_pos_right _ h
theorem low_eq {N : Int} {D : Nat} (_h : 0 < D) : lowN N D * (D : Int) = N * (lowD N D : Int) := by
  have h1 := low_mul N D
  have h2 := low_muld N D
  have h2' : (lowD N D : Int) * (Nat.gcd N.natAbs D : Nat) = (D : Int) := by rw [← Int.natCast_mul, h2]
  have h3 : lowN N D * ((lowD N D : Int) * (Nat.gcd N.natAbs D : Nat)) = (lowN N D * (Nat.gcd N.natAbs D : Nat)) * (lowD N D : Int) := by
    rw [Int.mul_assoc, Int.mul_comm (lowD N D : Int)]
  rw [h2', h1] at h3
  exact h3
theorem low_dvd (N : Int) (D : Nat) : lowD N D ∣ D := ⟨_, (low_muld N D).symm⟩
theorem low_le {N : Int} {D : Nat} (h : 0 < D) : lowD N D ≤ D := Nat.le_of_dvd h (low_dvd N D)
theorem low_bd (N : Int) (D : Nat) : (lowN N D).natAbs ≤ N.natAbs := by
  unfold lowN
  rw [Int.natAbs_tdiv]
  exact Nat.div_le_self _ _
theorem low_ne {N : Int} {D : Nat} (h : N ≠ 0) : lowN N D ≠ 0 := by
  intro e
  have := low_mul N D
  rw [e, Int.zero_mul] at this
  exact h this.symm

/-- the ratio of the first k pairs -/
def rt (a b : Nat → Nat) : Nat → Int × Nat
  | 0 => (1, 1)
  | k + 1 => (lowN (-(rt a b k).1 * (a k : Int)) ((rt a b k).2 * b k), lowD (-(rt a b k).1 * (a k : Int)) ((rt a b k).2 * b k))
def pr (a : Nat → Nat) : Nat → Nat
  | 0 => 1
  | k + 1 => pr a k * a k
def sgn : Nat → Int
  | 0 => 1
  | k + 1 => -(sgn k)
theorem sgn_sq : ∀ k, sgn k * sgn k = 1
  | 0 => rfl
  | k + 1 => by show -(sgn k) * -(sgn k) = 1; rw [Int.neg_mul_neg]; exact sgn_sq k
theorem pr_pos {a : Nat → Nat} {n : Nat} (h : ∀ k, k < n → 0 < a k) : ∀ k, k ≤ n → 0 < pr a k
  | 0, _ => by simp [pr]
  | k + 1, hk => Nat.mul_pos (pr_pos h k (by omega)) (h k (by omega))
theorem pr_le {a : Nat → Nat} {n M : Nat} (h : ∀ k, k < n → a k ≤ M) : ∀ k, k ≤ n → pr a k ≤ M ^ k
  | 0, _ => by simp [pr]
  | k + 1, hk => by rw [Nat.pow_succ]; exact Nat.mul_le_mul (pr_le h k (by omega)) (h k (by omega))
theorem rt_all {a b : Nat → Nat} {n : Nat} (ha : ∀ k, k < n → 0 < a k) (hb : ∀ k, k < n → 0 < b k) : ∀ k, k ≤ n → 0 < (rt a b k).2 ∧ (rt a b k).2 ≤ pr b k ∧ (rt a b k).1.natAbs ≤ pr a k ∧ (rt a b k).1 ≠ 0 ∧
    (rt a b k).1 * (pr b k : Int) = (rt a b k).2 * (sgn k * (pr a k : Int))
  | 0, _ => by simp [rt, pr, sgn]
  | k + 1, hk => by
    obtain ⟨h1, h2, h3, h4, h5⟩ := rt_all ha hb k (by omega)
    have ha1 := ha k (by omega)
    have hb1 := hb k (by omega)
    have hD : 0 < (rt a b k).2 * b k := Nat.mul_pos h1 hb1
    have e1 : (rt a b (k + 1)).1 = lowN (-(rt a b k).1 * (a k : Int)) ((rt a b k).2 * b k) := rfl
    have e2 : (rt a b (k + 1)).2 = lowD (-(rt a b k).1 * (a k : Int)) ((rt a b k).2 * b k) := rfl
    have e3 : pr a (k + 1) = pr a k * a k := rfl
    have e4 : pr b (k + 1) = pr b k * b k := rfl
    have e5 : sgn (k + 1) = -(sgn k) := rfl
    rw [e1, e2, e3, e4, e5]
    generalize hN : -(rt a b k).1 * (a k : Int) = N at *
    generalize hDD : (rt a b k).2 * b k = DD at *
    have hle := low_le (N := N) hD
    have hbd := low_bd N DD
    have heq := low_eq (N := N) hD
    refine ⟨low_pos hD, ?_, ?_, ?_, ?_⟩
    · refine Nat.le_trans hle ?_
      rw [← hDD]; exact Nat.mul_le_mul_right _ h2
    · refine Nat.le_trans hbd ?_
      rw [← hN, Int.natAbs_mul, Int.natAbs_neg, Int.natAbs_natCast]
      exact Nat.mul_le_mul_right _ h3
    · refine low_ne ?_
      rw [← hN]
      exact Int.mul_ne_zero (by omega) (by omega)
    · have hDi : (DD : Int) ≠ 0 := by omega
      refine Int.eq_of_mul_eq_mul_right hDi ?_
      have hDDi : (DD : Int) = ((rt a b k).2 : Int) * (b k : Int) := by rw [← hDD, Int.natCast_mul]
      calc lowN N DD * ((pr b k * b k : Nat) : Int) * (DD : Int) = (lowN N DD * (DD : Int)) * ((pr b k : Int) * (b k : Int)) := by rw [Int.natCast_mul]; ac_rfl
        _ = N * (lowD N DD : Int) * ((pr b k : Int) * (b k : Int)) := by rw [heq]
        _ = (lowD N DD : Int) * -(a k : Int) * (b k : Int) * ((rt a b k).1 * (pr b k : Int)) := by rw [← hN, Int.neg_mul, Int.neg_mul, Int.neg_mul, Int.mul_neg, Int.neg_mul, Int.neg_mul]; ac_rfl
        _ = (lowD N DD : Int) * -(a k : Int) * (b k : Int) * ((rt a b k).2 * (sgn k * (pr a k : Int))) := by rw [h5]
        _ = (lowD N DD : Int) * (-(sgn k) * ((pr a k * a k : Nat) : Int)) * (DD : Int) := by rw [hDDi, Int.natCast_mul, Int.mul_neg, Int.neg_mul, Int.neg_mul, Int.neg_mul, Int.mul_neg, Int.neg_mul]; ac_rfl
theorem rt_congr {a b a' b' : Nat → Nat} : ∀ n, (∀ k, k < n → a k = a' k ∧ b k = b' k) → rt a b n = rt a' b' n
  | 0, _ => rfl
  | n + 1, h => by
    have h1 := h n (by omega)
    have h2 := rt_congr n (fun k hk => h k (by omega))
    show (lowN (-(rt a b n).1 * (a n : Int)) ((rt a b n).2 * b n), lowD (-(rt a b n).1 * (a n : Int)) ((rt a b n).2 * b n)) = _
    rw [h1.1, h1.2, h2]; rfl
/-- two trains, one behind the other -/
def jn (n : Nat) (a c : Nat → Nat) : Nat → Nat := fun k => if k < n then a k else c (k - n)
theorem jn_l {n k : Nat} (a c : Nat → Nat) (h : k < n) : jn n a c k = a k := by simp [jn, h]
theorem jn_r {n k : Nat} (a c : Nat → Nat) : jn n a c (n + k) = c k := by
  unfold jn
  rw [if_neg (by omega), Nat.add_sub_cancel_left]
theorem pr_congr {a a' : Nat → Nat} : ∀ n, (∀ k, k < n → a k = a' k) → pr a n = pr a' n
  | 0, _ => rfl
  | n + 1, h => by
    show pr a n * a n = pr a' n * a' n
    rw [pr_congr n (fun k hk => h k (by omega)), h n (by omega)]
theorem pr_jn (n : Nat) (a c : Nat → Nat) : ∀ m, pr (jn n a c) (n + m) = pr a n * pr c m
  | 0 => by rw [Nat.add_zero]; show _ = pr a n * 1; rw [Nat.mul_one]; exact pr_congr n (fun k hk => jn_l a c hk)
  | m + 1 => by
    show pr (jn n a c) (n + m) * jn n a c (n + m) = pr a n * (pr c m * c m)
    rw [pr_jn n a c m, jn_r, Nat.mul_assoc]
theorem sgn_add (n : Nat) : ∀ m, sgn (n + m) = sgn n * sgn m
  | 0 => by show sgn n = sgn n * 1; rw [Int.mul_one]
  | m + 1 => by show -(sgn (n + m)) = sgn n * -(sgn m); rw [sgn_add n m, Int.mul_neg]
theorem int3 {A B C D : Int} (h : A = B) (k : C = D) : A * C = B * D := by rw [h, k]
/-- the ratio of joined trains is the product -/
theorem rt_join {n m : Nat} {a b c d : Nat → Nat} (ha : ∀ k, k < n → 0 < a k) (hb : ∀ k, k < n → 0 < b k) (hc : ∀ k, k < m → 0 < c k) (hd : ∀ k, k < m → 0 < d k) :
    (rt (jn n a c) (jn n b d) (n + m)).1 * (((rt a b n).2 : Int) * ((rt c d m).2 : Int)) = (rt a b n).1 * (rt c d m).1 * ((rt (jn n a c) (jn n b d) (n + m)).2 : Int) := by
  obtain ⟨_, _, _, _, r⟩ := rt_all ha hb n (Nat.le_refl _)
  obtain ⟨_, _, _, _, s⟩ := rt_all hc hd m (Nat.le_refl _)
  have hj : ∀ (x y : Nat → Nat), (∀ k, k < n → 0 < x k) → (∀ k, k < m → 0 < y k) → ∀ k, k < n + m → 0 < jn n x y k := by
    intro x y hx hy k hk
    unfold jn
    split
    · exact hx k (by omega)
    · exact hy _ (by omega)
  obtain ⟨_, _, _, _, t⟩ := rt_all (hj a c ha hc) (hj b d hb hd) (n + m) (Nat.le_refl _)
  have p1 := pr_pos hb n (Nat.le_refl _)
  have p2 := pr_pos hd m (Nat.le_refl _)
  rw [pr_jn, pr_jn, sgn_add, Int.natCast_mul, Int.natCast_mul] at t
  generalize (rt (jn n a c) (jn n b d) (n + m)).1 = tn at *
  generalize (rt (jn n a c) (jn n b d) (n + m)).2 = td at *
  generalize (rt a b n).1 = rn at *
  generalize (rt a b n).2 = rd at *
  generalize (rt c d m).1 = sn at *
  generalize (rt c d m).2 = sd at *
  have hP : ((pr b n : Int) * (pr d m : Int)) ≠ 0 := Int.mul_ne_zero (by omega) (by omega)
  refine Int.eq_of_mul_eq_mul_right hP ?_
  calc tn * ((rd : Int) * sd) * ((pr b n : Int) * (pr d m : Int)) = (tn * ((pr b n : Int) * (pr d m : Int))) * ((rd : Int) * sd) := by ac_rfl
    _ = (td : Int) * (sgn n * sgn m * ((pr a n : Int) * (pr c m : Int))) * ((rd : Int) * sd) := by rw [t]
    _ = (td : Int) * (((rd : Int) * (sgn n * (pr a n : Int))) * ((sd : Int) * (sgn m * (pr c m : Int)))) := by ac_rfl
    _ = (td : Int) * ((rn * (pr b n : Int)) * (sn * (pr d m : Int))) := by rw [r, s]
    _ = rn * sn * (td : Int) * ((pr b n : Int) * (pr d m : Int)) := by ac_rfl
/-- a train from its end -/
def bk (n : Nat) (a : Nat → Nat) : Nat → Nat := fun k => a (n - 1 - k)
theorem pr_shift (a : Nat → Nat) : ∀ n, pr a (n + 1) = a 0 * pr (fun k => a (k + 1)) n
  | 0 => by show 1 * a 0 = a 0 * 1; omega
  | n + 1 => by show pr a (n + 1) * a (n + 1) = a 0 * (pr (fun k => a (k + 1)) n * a (n + 1)); rw [pr_shift a n, Nat.mul_assoc]
theorem pr_bk (a : Nat → Nat) : ∀ n, pr (bk n a) n = pr a n
  | 0 => rfl
  | n + 1 => by
    rw [pr_shift]
    have e : pr (fun k => bk (n + 1) a (k + 1)) n = pr (bk n a) n := pr_congr n (fun k hk => by show a (n + 1 - 1 - (k + 1)) = a (n - 1 - k); congr 1; omega)
    rw [e, pr_bk a n]
    show a (n + 1 - 1 - 0) * pr a n = pr a n * a n
    rw [Nat.mul_comm]; rfl
theorem rt_back {n : Nat} {a b : Nat → Nat} (ha : ∀ k, k < n → 0 < a k) (hb : ∀ k, k < n → 0 < b k) : (rt (bk n b) (bk n a) n).1 * (rt a b n).1 = ((rt (bk n b) (bk n a) n).2 : Int) * ((rt a b n).2 : Int) := by
  obtain ⟨_, _, _, _, r⟩ := rt_all ha hb n (Nat.le_refl _)
  obtain ⟨_, _, _, _, u⟩ := rt_all (a := bk n b) (b := bk n a) (n := n) (fun k hk => hb _ (by omega)) (fun k hk => ha _ (by omega)) n (Nat.le_refl _)
  have p1 := pr_pos hb n (Nat.le_refl _)
  have p2 := pr_pos ha n (Nat.le_refl _)
  have q := sgn_sq n
  rw [pr_bk, pr_bk] at u
  generalize (rt (bk n b) (bk n a) n).1 = un at *
  generalize (rt (bk n b) (bk n a) n).2 = ud at *
  generalize (rt a b n).1 = rn at *
  generalize (rt a b n).2 = rd at *
  have hP : ((pr a n : Int) * (pr b n : Int)) ≠ 0 := Int.mul_ne_zero (by omega) (by omega)
  refine Int.eq_of_mul_eq_mul_right hP ?_
  calc un * rn * ((pr a n : Int) * (pr b n : Int)) = (un * (pr a n : Int)) * (rn * (pr b n : Int)) := by ac_rfl
    _ = ((ud : Int) * (sgn n * (pr b n : Int))) * ((rd : Int) * (sgn n * (pr a n : Int))) := by rw [r, u]
    _ = (ud : Int) * rd * ((pr a n : Int) * (pr b n : Int)) * (sgn n * sgn n) := by ac_rfl
    _ = _ := by rw [q, Int.mul_one]

/-- after how many turns all wheels are as at the beginning: the first k pairs -/
def lt (a b : Nat → Nat) : Nat → Nat
  | 0 => 1
  | k + 1 => lt a b k / Nat.gcd (lt a b k) (rt a b (k + 1)).2 * (rt a b (k + 1)).2
theorem lt_all {a b : Nat → Nat} {n : Nat} (ha : ∀ k, k < n → 0 < a k) (hb : ∀ k, k < n → 0 < b k) : ∀ k, k ≤ n → 0 < lt a b k ∧ lt a b (k + 1) = lt a b k / Nat.gcd (lt a b k) (rt a b (k + 1)).2 * (rt a b (k + 1)).2
  | 0, _ => by simp [lt]
  | k + 1, hk => by
    obtain ⟨h1, h2⟩ := lt_all ha hb k (by omega)
    refine ⟨?_, rfl⟩
    rw [h2]
    have h3 := (rt_all ha hb (k + 1) hk).1
    refine Nat.mul_pos (Nat.div_pos (Nat.le_of_dvd h1 (Nat.gcd_dvd_left _ _)) (Nat.gcd_pos_of_pos_left _ h1)) h3
theorem lt_step_le (x d : Nat) : x / Nat.gcd x d * d ≤ x * d := Nat.mul_le_mul_right _ (Nat.div_le_self _ _)
theorem lt_dvd (a b : Nat → Nat) (k : Nat) : (rt a b (k + 1)).2 ∣ lt a b (k + 1) := Nat.dvd_mul_left _ _
/-- turns that are a multiple of the denominator -/
theorem low_whole {N : Int} {D n : Nat} (hD : 0 < D) (h : D ∣ n) : lowD (N * (n : Int)) D = 1 ∧ lowN (N * (n : Int)) D * (D : Int) = N * (n : Int) := by
  have hg : Nat.gcd (N * (n : Int)).natAbs D = D := by
    refine Nat.gcd_eq_right ?_
    rw [Int.natAbs_mul, Int.natAbs_natCast]
    exact Nat.dvd_trans h (Nat.dvd_mul_left _ _)
  have h1 : lowD (N * (n : Int)) D = 1 := by
    unfold lowD
    rw [hg]
    exact Nat.div_self hD
  refine ⟨h1, ?_⟩
  have := low_mul (N * (n : Int)) D
  rw [hg] at this
  exact this
/-- a fraction in lowest terms stays the same number -/
theorem low_cross {n d g num den : Nat} (hn : num = n * g) (hd : den = d * g) (hd0 : 0 < d) (k : Nat) (hk : 0 < k) : lowN ((k * n : Nat) : Int) (k * d) * (den : Int) = (num : Int) * (lowD ((k * n : Nat) : Int) (k * d) : Int) := by
  have h := low_eq (N := ((k * n : Nat) : Int)) (D := k * d) (Nat.mul_pos hk hd0)
  generalize lowN ((k * n : Nat) : Int) (k * d) = x at *
  generalize lowD ((k * n : Nat) : Int) (k * d) = y at *
  subst hn hd
  have hk' : (k : Int) ≠ 0 := by omega
  refine Int.eq_of_mul_eq_mul_right hk' ?_
  rw [Int.natCast_mul, Int.natCast_mul] at h
  rw [Int.natCast_mul, Int.natCast_mul]
  calc x * ((d : Int) * g) * (k : Int) = (x * ((k : Int) * d)) * g := by ac_rfl
    _ = ((k : Int) * n * y) * g := by rw [h]
    _ = _ := by ac_rfl
end Go.Proofs.YtmeenihnhfhbkaaDoor
/- Append of a row that is read to a row of the call's own. No program is named here. -/
namespace Go.Proofs.YtmeenihnhfhbkaaDoor
open Go.RowKit

section
variable {P : Program}
theorem wpList_apr {w : World} {ops : Array Oper} {rest : List Oper} {o : Oper} {a : Act} {Q : Exit → Act → World → Prop} (t e : TypeId) (z : Value) (size bytes : Nat)
    (ht : P.underlying t = some (.slice e)) (hinfo : (P.info? e).map (fun i => (i.zero, i.size, i.bytes)) = some (some z, size, bytes)) (hzs : z.cells.size = size) (hsz : 0 < size)
    (s x : Operand) (hgd : o.guard = none) (ho : o.op = .call { callee := .builtin .append, args := #[s, x], argTypes := #[t, t] })
    (base : Nat) (v : Value) (n : Nat) (xs : List Value) (hs : a.eval s = v) (hown : w.ownsRow base e size v n xs)
    (b off m c : Nat) (cs : List Value) (hx : a.eval x = .slice (some ⟨b, off, none⟩) m c) (hl : cs.length = m * size) (hc : ∀ (i : Nat) (u : Value), cs[i]? = some u → w.cell? ⟨b, off + i, none⟩ = some u) (h1 : ∀ u ∈ cs, u.oneCell' = true)
    (h63 : n + m ≤ maxLen) (hbytes : (n + m) * bytes ≤ 140737488355328) (hbase : base ≤ w.heap.size)
    (h : ∀ v' w', w'.ownsRow base e size v' (n + m) (xs ++ cs) → w.grownBy w' v.ownBlock → wpList P ops Q rest (a.put o.dst v') w') :
    wpList P ops Q (o :: rest) a w := by
  obtain ⟨i, hi, hz, h2, h3⟩ := info_parts hinfo
  refine wpList_append_own _ hgd s x t ho base e i z size bytes ht hi hz h2 h3 hzs hsz v n xs hs hown ⟨b, off, none⟩ m c cs hx hl (fun j u hu => ?_) h1 h63 hbytes hbase ?_
  · have hadd : (⟨b, off, none⟩ : Addr).add j = ⟨b, off + j, none⟩ := by unfold Addr.add; split <;> simp_all
    rw [hadd]; exact hc j u hu
  · intro v' w' ho' hg' _
    exact h v' w' ho' hg'
end
end Go.Proofs.YtmeenihnhfhbkaaDoor
/- Contracts for the small helpers (l00In, between). -/
namespace Go.Proofs.YtmeenihnhfhbkaaDoor
open Go.RowKit

def inB (n low high : Int) : Bool := decide (low ≤ n) && decide (n ≤ high)

set_option maxHeartbeats 400000 in
theorem l00In_any (n low high : Int) (w : World) :
    Calls Tryd.prog 67 #[.int .i64 n, .int .i64 low, .int .i64 high] w fun e w' => e = .returned (.bool (inB n low high)) ∧ w = w' := by
  go_enter Tryd.func67, Tryd.ntmps67
  go_wp2
  all_goals (first | go_ret | skip)
  all_goals (refine ⟨?_, rfl⟩; simp_all [inB] <;> omega)

set_option maxHeartbeats 400000 in
theorem between_any (n low high : Int) (w : World) :
    Calls Tryd.prog 66 #[.int .i64 n, .int .i64 low, .int .i64 high] w fun e w' => e = .returned (.bool (inB n low high)) ∧ w = w' := by
  go_enter Tryd.func66, Tryd.ntmps66
  go_wp2
  all_goals (first | go_ret | skip)
  all_goals (refine ⟨?_, rfl⟩; simp_all [inB] <;> omega)

end Go.Proofs.YtmeenihnhfhbkaaDoor
/- Differences, part 1: rows of numbers as functions, lessBefore, copyNumbers. -/
namespace Go.Proofs.YtmeenihnhfhbkaaDoor
open Go.RowKit Go.Joins

theorem infoD : (Tryd.prog.info? 2).map (fun i => (i.zero, i.size, i.bytes)) = some (some (.int .i64 0), 1, 8) := by kernel_rfl
/-- the first n values of f -/
def tab (n : Nat) (f : Nat → Int) : List Value := (List.range n).map fun i => .int .i64 (f i)
theorem tab_len (n : Nat) (f : Nat → Int) : (tab n f).length = n := by simp [tab]
theorem tab_succ (n : Nat) (f : Nat → Int) : tab (n + 1) f = tab n f ++ [.int .i64 (f n)] := by simp [tab, List.range_succ]
theorem tab_at {n i : Nat} (f : Nat → Int) (h : i < n) : (tab n f)[i]? = some (.int .i64 (f i)) := by simp [tab, h]
theorem tab_one (n : Nat) (f : Nat → Int) : ∀ u ∈ tab n f, u.oneCell' = true := by
  intro u hu
  obtain ⟨i, _, rfl⟩ := List.mem_map.1 hu
  rfl
theorem tab_congr {n : Nat} {f g : Nat → Int} (h : ∀ i, i < n → f i = g i) : tab n f = tab n g := by
  unfold tab
  exact List.map_congr_left fun i hi => by rw [h i (List.mem_range.1 hi)]
def D (f : Nat → Int) : Nat → Int := fun i => f (i + 1) - f i
def Dn : Nat → (Nat → Int) → Nat → Int
  | 0, f => f
  | k + 1, f => D (Dn k f)
def Small (M n : Nat) (f : Nat → Int) : Prop := ∀ i, i < n → -(M : Int) ≤ f i ∧ f i ≤ M
theorem Small.D {M n : Nat} {f : Nat → Int} (h : Small M n f) : Small (2 * M) (n - 1) (D f) := by
  intro i hi
  have h1 := h i (by omega)
  have h2 := h (i + 1) (by omega)
  show _ ≤ f (i + 1) - f i ∧ f (i + 1) - f i ≤ _
  omega
theorem Small.Dn {M n : Nat} {f : Nat → Int} (h : Small M n f) : ∀ k, Small (2 ^ k * M) (n - k) (Dn k f)
  | 0 => by rw [Nat.pow_zero, Nat.one_mul]; exact h
  | k + 1 => by
    have := (Small.Dn h k).D
    rw [Nat.pow_succ, show n - (k + 1) = n - k - 1 by omega, show 2 ^ k * 2 * M = 2 * (2 ^ k * M) by rw [Nat.mul_comm (2 ^ k) 2, Nat.mul_assoc]]
    exact this
theorem Small.more {M M' n : Nat} {f : Nat → Int} (h : Small M n f) (hM : M ≤ M') : Small M' n f := fun i hi => by have := h i hi; omega
theorem rdF_all {w : World} {B n n' c : Nat} {A : Option Addr} {f : Nat → Int} (h : Rd w B (.slice A n' c) n 1 (tab n f)) (hn : 0 < n) : ∃ b off, A = some ⟨b, off, none⟩ ∧ b < B ∧ ∀ j, j < n → w.cell? ⟨b, off + j, none⟩ = some (.int .i64 (f j)) := by
  obtain ⟨_, A', c', hv, hc⟩ := h
  injection hv with e1 e2 e3
  subst e1
  obtain ⟨b, off, hA, hb, hcc⟩ := hc (by omega)
  exact ⟨b, off, hA, hb, fun j hj => hcc j _ (tab_at f hj)⟩
theorem own_sl {w : World} {base n size : Nat} {e : TypeId} {v : Value} {cs : List Value} (h : w.ownsRow base e size v n cs) : ∃ A c, v = .slice A n c := by
  obtain ⟨_, A, c, h, _⟩ := Rd.of_own h
  exact ⟨A, c, h⟩
theorem rd_sl {w : World} {B n sz : Nat} {v : Value} {cs : List Value} (h : Rd w B v n sz cs) : ∃ A c, v = .slice A n c := by
  obtain ⟨_, A, c, h, _⟩ := h
  exact ⟨A, c, h⟩
/-- a row of numbers of the call's own is handed back -/
def RetF (w : World) (n : Nat) (f : Nat → Int) (e : Ending) (w' : World) : Prop :=
  ∃ v, e = .returned v ∧ w'.ownsRow w.heap.size 2 1 v n (tab n f) ∧ Below w.heap.size w w'

end Go.Proofs.YtmeenihnhfhbkaaDoor
/- Differences, part 2: copies, differences of an order, leading differences, tests of entries. -/
namespace Go.Proofs.YtmeenihnhfhbkaaDoor
open Go.RowKit Go.Joins

theorem pow_mul_le {j k M X : Nat} (h : 2 ^ k * M ≤ X) (hj : j ≤ k) : 2 ^ j * M ≤ X :=
  Nat.le_trans (Nat.mul_le_mul_right M (Nat.pow_le_pow_right (by omega) hj)) h

theorem own_apart {w w2 w' : World} {b1 n1 n2 s1 s2 : Nat} {e1 e2 : TypeId} {v1 v2 : Value} {c1 c2 : List Value} (h1 : w.ownsRow b1 e1 s1 v1 n1 c1) (h2 : w2.ownsRow w.heap.size e2 s2 v2 n2 c2) (hg : w2.grownBy w' v1.ownBlock) : w'.ownsRow w.heap.size e2 s2 v2 n2 c2 := by
  refine h2.kept hg ?_
  cases h : v2.ownBlock with
  | none => exact .inl rfl
  | some g =>
    refine .inr fun e => ?_
    have k2 := (h2.lt g h).1
    have k1 := (h1.lt g (by rw [← e])).2
    omega
theorem rd_apart {w w2 : World} {B base n1 n2 s1 s2 : Nat} {e1 : TypeId} {v1 v2 : Value} {c1 c2 : List Value} (h1 : w.ownsRow base e1 s1 v1 n1 c1) (hB : B ≤ base) (hbs : base ≤ w.heap.size) (h2 : Rd w B v2 n2 s2 c2) (hg : w.grownBy w2 v1.ownBlock) : Rd w2 w2.heap.size v2 n2 s2 c2 :=
  have hb : Below B w w2 := (Below.refl B w).grown hg (Nat.le_trans hB hbs) (fun k hk => Nat.le_trans hB (h1.lt k hk).1)
  (h2.below hb).more (Nat.le_trans (Nat.le_trans hB hbs) hg.size)

end Go.Proofs.YtmeenihnhfhbkaaDoor
/- Differences, part 3: tests of entries, Newton's values, binomial coefficients. -/
namespace Go.Proofs.YtmeenihnhfhbkaaDoor
open Go.RowKit Go.Joins

theorem inB_true {n lo hi : Int} (h1 : lo ≤ n) (h2 : n ≤ hi) : inB n lo hi = true := by simp [inB, h1, h2]

/-- the binomial coefficients as the code makes them -/
def chb (x : Nat) : Nat → Nat
  | 0 => 1
  | k + 1 => if k < x then chb x k * (x - k) / (k + 1) else 0
theorem chb_bd : ∀ x, x < 14 → ∀ k, k < 10 → chb x k ≤ 1716 := by decide +kernel
def nval (f : Nat → Int) (x : Nat) : Nat → Int
  | 0 => 0
  | j + 1 => nval f x j + f j * (chb x j : Int)
theorem mul_bd {a : Int} {C : Nat} (h : -(C : Int) ≤ a ∧ a ≤ C) (b M : Nat) (hb : b ≤ M) : -((C * M : Nat) : Int) ≤ a * (b : Int) ∧ a * (b : Int) ≤ ((C * M : Nat) : Int) := by
  have h1 : a.natAbs ≤ C := by omega
  have h2 : (a * (b : Int)).natAbs ≤ C * M := by
    rw [Int.natAbs_mul, Int.natAbs_natCast]
    exact Nat.mul_le_mul h1 hb
  omega
theorem nval_bd {f : Nat → Int} {C n x : Nat} (hS : Small C n f) (hx : x < 14) (hn : n ≤ 9) : ∀ j, j ≤ n → -((j * (C * 1716) : Nat) : Int) ≤ nval f x j ∧ nval f x j ≤ ((j * (C * 1716) : Nat) : Int)
  | 0, _ => by simp [nval]
  | j + 1, hj => by
    have h1 := nval_bd hS hx hn j (by omega)
    have h2 := mul_bd (hS j (by omega)) (chb x j) 1716 (chb_bd x hx j (by omega))
    show _ ≤ nval f x j + f j * (chb x j : Int) ∧ nval f x j + f j * (chb x j : Int) ≤ _
    rw [Nat.add_mul, Nat.one_mul]
    omega

theorem quo_bd (c : Int) (h0 : c ≠ 0) (h1 : -1000000 ≤ c ∧ c ≤ 1000000) : (1000000000 : Int) ≤ (1000000000000000 : Int) / (c.natAbs : Int) := by
  have h2 : (0 : Int) < (c.natAbs : Int) := by omega
  rw [Int.le_ediv_iff_mul_le h2]
  omega

end Go.Proofs.YtmeenihnhfhbkaaDoor
/- Finer tables, part 1: fractions in lowest terms, values of a polynomial between its points, in plain words. -/
namespace Go.Proofs.YtmeenihnhfhbkaaDoor

/-- a fraction as a pair -/
def low (N : Int) (D : Nat) : Int × Nat := (lowN N D, lowD N D)
theorem low_cop {N : Int} {D : Nat} (h : 0 < D) : Nat.gcd (lowN N D).natAbs (lowD N D) = 1 := by
  unfold lowN lowD
  rw [Int.natAbs_tdiv, Int.natAbs_natCast]
  exact Nat.coprime_div_gcd_div_gcd (low_g h)
theorem low_uniq {n N : Int} {d D : Nat} (hd : 0 < d) (hD : 0 < D) (hc : Nat.gcd n.natAbs d = 1) (he : n * (D : Int) = N * (d : Int)) : lowN N D = n ∧ lowD N D = d := by
  have h1 := low_eq (N := N) hD
  have hb := low_pos (N := N) hD
  have hcop := low_cop (N := N) hD
  generalize lowN N D = a at *
  generalize lowD N D = b at *
  have hDz : (D : Int) ≠ 0 := by omega
  have e1 : a * (d : Int) = n * (b : Int) := by
    refine Int.eq_of_mul_eq_mul_right hDz ?_
    calc a * (d : Int) * (D : Int) = a * (D : Int) * (d : Int) := by rw [Int.mul_right_comm]
      _ = N * (b : Int) * (d : Int) := by rw [h1]
      _ = N * (d : Int) * (b : Int) := by rw [Int.mul_right_comm]
      _ = n * (D : Int) * (b : Int) := by rw [he]
      _ = n * (b : Int) * (D : Int) := by rw [Int.mul_right_comm]
  have e2 : a.natAbs * d = n.natAbs * b := by
    have := congrArg Int.natAbs e1
    rwa [Int.natAbs_mul, Int.natAbs_mul, Int.natAbs_natCast, Int.natAbs_natCast] at this
  have d1 : b ∣ d := (Nat.Coprime.symm hcop).dvd_of_dvd_mul_left (by rw [e2]; exact Nat.dvd_mul_left _ _)
  have d2 : d ∣ b := (Nat.Coprime.symm hc).dvd_of_dvd_mul_left (by rw [← e2]; exact Nat.dvd_mul_left _ _)
  have hdb : b = d := Nat.dvd_antisymm d1 d2
  subst hdb
  exact ⟨Int.eq_of_mul_eq_mul_right (by omega) e1, rfl⟩
theorem low_uniq' {n N : Int} {d D : Nat} (hd : 0 < d) (hD : 0 < D) (hc : Nat.gcd n.natAbs d = 1) (he : n * (D : Int) = N * (d : Int)) : low N D = (n, d) := by
  obtain ⟨h1, h2⟩ := low_uniq hd hD hc he
  unfold low
  rw [h1, h2]
theorem low_scale (N : Int) {D t : Nat} (hD : 0 < D) (ht : 0 < t) : low (N * (t : Int)) (D * t) = low N D := by
  refine low_uniq' (low_pos hD) (Nat.mul_pos hD ht) (low_cop hD) ?_
  rw [Int.natCast_mul, ← Int.mul_assoc, low_eq hD, Int.mul_right_comm]
theorem low_cong {N M : Int} {D E : Nat} (hD : 0 < D) (hE : 0 < E) (h : N * (E : Int) = M * (D : Int)) : low N D = low M E := by
  refine low_uniq' (low_pos hE) hD (low_cop hE) ?_
  have h1 := low_eq (N := M) hE
  have hEz : (E : Int) ≠ 0 := by omega
  refine Int.eq_of_mul_eq_mul_right hEz ?_
  calc lowN M E * (D : Int) * (E : Int) = lowN M E * (E : Int) * (D : Int) := by rw [Int.mul_right_comm]
    _ = M * (lowD M E : Int) * (D : Int) := by rw [h1]
    _ = M * (D : Int) * (lowD M E : Int) := by rw [Int.mul_right_comm]
    _ = N * (E : Int) * (lowD M E : Int) := by rw [h]
    _ = N * (lowD M E : Int) * (E : Int) := by rw [Int.mul_right_comm]
theorem low_one (x : Int) : low x 1 = (x, 1) := low_uniq' (by omega) (by omega) (Nat.gcd_one_right _) rfl
theorem low_zero {D : Nat} (h : 0 < D) : low 0 D = (0, 1) := low_uniq' (by omega) h (by simp) (by simp)
theorem low_neg (N : Int) {D : Nat} (h : 0 < D) : low (-N) D = (-(lowN N D), lowD N D) := by
  refine low_uniq' (low_pos h) h (by rw [Int.natAbs_neg]; exact low_cop h) ?_
  rw [Int.neg_mul, Int.neg_mul, low_eq h]
theorem low_whole' (x : Int) {D : Nat} (h : 0 < D) : low (x * (D : Int)) D = (x, 1) := low_uniq' (by omega) h (Nat.gcd_one_right _) (by simp)

/-- the sum as the program makes it -/
def addQ (f g : Int × Nat) : Int × Nat := low (f.1 * ((g.2 / Nat.gcd f.2 g.2 : Nat) : Int) + g.1 * ((f.2 / Nat.gcd f.2 g.2 : Nat) : Int)) (f.2 / Nat.gcd f.2 g.2 * g.2)
structure AddOk (a c : Int) (M : Nat) (f g : Int × Nat) : Prop where
  p1 : 0 < f.2
  p2 : 0 < g.2
  pg : 0 < Nat.gcd f.2 g.2
  pl : 0 < f.2 / Nat.gcd f.2 g.2 * g.2
  q1 : f.2 / Nat.gcd f.2 g.2 ≤ M
  q2 : g.2 / Nat.gcd f.2 g.2 ≤ M
  m1 : f.2 ≤ M
  m2 : g.2 ≤ M
  b1 : (f.1 * ((g.2 / Nat.gcd f.2 g.2 : Nat) : Int)).natAbs ≤ a.natAbs
  b2 : (g.1 * ((f.2 / Nat.gcd f.2 g.2 : Nat) : Int)).natAbs ≤ c.natAbs
  b3 : f.2 / Nat.gcd f.2 g.2 * g.2 ≤ M
  b4 : (f.1 * ((g.2 / Nat.gcd f.2 g.2 : Nat) : Int) + g.1 * ((f.2 / Nat.gcd f.2 g.2 : Nat) : Int)).natAbs ≤ (a + c).natAbs
  eq : addQ f g = low (a + c) M
theorem abs_le_mul (x : Int) {t : Nat} (h : 0 < t) : x.natAbs ≤ (x * (t : Int)).natAbs := by
  rw [Int.natAbs_mul, Int.natAbs_natCast]
  exact Nat.le_mul_of_pos_right _ h
theorem addQ_low (a c : Int) {M : Nat} (hM : 0 < M) : AddOk a c M (low a M) (low c M) := by
  have e1 := low_eq (N := a) hM
  have e2 := low_eq (N := c) hM
  have p1 := low_pos (N := a) hM
  have p2 := low_pos (N := c) hM
  have v1 := low_dvd a M
  have v2 := low_dvd c M
  have l1 := low_le (N := a) hM
  have l2 := low_le (N := c) hM
  unfold low
  generalize hn1 : lowN a M = n1 at *
  generalize hd1 : lowD a M = d1 at *
  generalize hn2 : lowN c M = n2 at *
  generalize hd2 : lowD c M = d2 at *
  have hg : 0 < Nat.gcd d1 d2 := Nat.gcd_pos_of_pos_left _ p1
  obtain ⟨x1, hx1⟩ := Nat.gcd_dvd_left d1 d2
  obtain ⟨x2, hx2⟩ := Nat.gcd_dvd_right d1 d2
  have q1 : d1 / Nat.gcd d1 d2 = x1 := Nat.div_eq_of_eq_mul_right hg hx1
  have q2 : d2 / Nat.gcd d1 d2 = x2 := Nat.div_eq_of_eq_mul_right hg hx2
  have hlcm : x1 * d2 ∣ M := by
    have h1 : Nat.lcm d1 d2 ∣ M := Nat.lcm_dvd v1 v2
    have h2 : Nat.lcm d1 d2 = x1 * d2 := by
      unfold Nat.lcm
      rw [Nat.mul_comm d1 d2, Nat.mul_div_assoc _ (Nat.gcd_dvd_left d1 d2), q1, Nat.mul_comm]
    rwa [h2] at h1
  obtain ⟨t, ht⟩ := hlcm
  have px1 : 0 < x1 := Nat.pos_of_ne_zero fun e => by rw [e, Nat.mul_zero] at hx1; omega
  have px2 : 0 < x2 := Nat.pos_of_ne_zero fun e => by rw [e, Nat.mul_zero] at hx2; omega
  have pt : 0 < t := Nat.pos_of_ne_zero fun e => by rw [e, Nat.mul_zero] at ht; omega
  have hsym : x1 * d2 = x2 * d1 := by
    have k1 : x1 * d2 = x1 * (Nat.gcd d1 d2 * x2) := congrArg (x1 * ·) hx2
    have k2 : x2 * d1 = x2 * (Nat.gcd d1 d2 * x1) := congrArg (x2 * ·) hx1
    rw [k1, k2]; simp only [Nat.mul_assoc, Nat.mul_comm, Nat.mul_left_comm]
  have c1 : n1 * (x2 : Int) * (t : Int) = a := by
    refine Int.eq_of_mul_eq_mul_right (show (d1 : Int) ≠ 0 by omega) ?_
    rw [← e1, ht, hsym, Int.natCast_mul, Int.natCast_mul]
    simp only [Int.mul_assoc, Int.mul_comm, Int.mul_left_comm]
  have c2 : n2 * (x1 : Int) * (t : Int) = c := by
    refine Int.eq_of_mul_eq_mul_right (show (d2 : Int) ≠ 0 by omega) ?_
    rw [← e2, ht, Int.natCast_mul, Int.natCast_mul]
    simp only [Int.mul_assoc, Int.mul_comm, Int.mul_left_comm]
  have hL : 0 < x1 * d2 := Nat.mul_pos px1 p2
  have hb3 : x1 * d2 ≤ M := by rw [ht]; exact Nat.le_mul_of_pos_right _ pt
  have c3 : (n1 * (x2 : Int) + n2 * (x1 : Int)) * (t : Int) = a + c := by rw [Int.add_mul, c1, c2]
  refine ⟨p1, p2, hg, ?_, ?_, ?_, l1, l2, ?_, ?_, ?_, ?_, ?_⟩ <;> (try dsimp only) <;> (try rw [q1]) <;> (try rw [q2])
  · exact hL
  · exact Nat.le_trans (Nat.le_mul_of_pos_right _ p2) hb3
  · rw [hsym] at hb3; exact Nat.le_trans (Nat.le_mul_of_pos_right _ p1) hb3
  · rw [← c1]; exact abs_le_mul _ pt
  · rw [← c2]; exact abs_le_mul _ pt
  · exact hb3
  · rw [← c3]; exact abs_le_mul _ pt
  · unfold addQ
    dsimp only
    rw [q1, q2, ← c3, ht]
    exact (low_scale _ hL pt).symm

/-- the products below and above -/
def bel (q : Nat) : Nat → Nat
  | 0 => 1
  | k + 1 => bel q k * (q * (k + 1))
def abv (x : Int) (q : Nat) : Nat → Int
  | 0 => 1
  | k + 1 => abv x q k * (x - (k : Int) * (q : Int))
theorem bel_pos {q : Nat} (h : 0 < q) : ∀ k, 0 < bel q k
  | 0 => by simp [bel]
  | k + 1 => Nat.mul_pos (bel_pos h k) (Nat.mul_pos h (by omega))
/-- the k-th factor of the sum: all parts below through the first k, times the k above -/
def trm (x : Int) (q n k : Nat) : Int := ((bel q n / bel q k : Nat) : Int) * abv x q k
theorem bel_dvd (q : Nat) : ∀ {k n : Nat}, k ≤ n → bel q k ∣ bel q n := by
  intro k n h
  induction n with
  | zero => obtain rfl : k = 0 := by omega
            exact Nat.dvd_refl _
  | succ m ih =>
    by_cases e : k = m + 1
    · subst e; exact Nat.dvd_refl _
    · exact Nat.dvd_trans (ih (by omega)) (Nat.dvd_mul_right _ _)
theorem bel_quot {q : Nat} (hq : 0 < q) {k n : Nat} (h : k + 1 ≤ n) : bel q n / bel q k = (bel q n / bel q (k + 1)) * (q * (k + 1)) := by
  obtain ⟨r, hr⟩ := bel_dvd q h
  have p1 := bel_pos hq (k + 1)
  have p0 := bel_pos hq k
  have e1 : bel q n / bel q (k + 1) = r := Nat.div_eq_of_eq_mul_right p1 hr
  have e2 : bel q n / bel q k = q * (k + 1) * r := Nat.div_eq_of_eq_mul_right p0 (by rw [hr]; show bel q k * (q * (k + 1)) * r = _; rw [Nat.mul_assoc])
  rw [e1, e2, Nat.mul_comm]
theorem trm_zero (x : Int) (q n : Nat) : trm x q n 0 = (bel q n : Int) := by
  unfold trm
  show ((bel q n / 1 : Nat) : Int) * 1 = _
  rw [Nat.div_one, Int.mul_one]
/-- the reference's step -/
theorem trm_step (x : Int) {q n k : Nat} (hq : 0 < q) (h : k + 1 ≤ n) : Int.tdiv (trm x q n k) (((k : Int) + 1) * (q : Int)) * (x - (k : Int) * (q : Int)) = trm x q n (k + 1) := by
  unfold trm
  rw [bel_quot hq h]
  have hz : ((k : Int) + 1) * (q : Int) ≠ 0 := by
    have : 0 < (((k + 1) * q : Nat) : Int) := by have := Nat.mul_pos (show 0 < k + 1 by omega) hq; omega
    rw [Int.natCast_mul] at this
    intro e
    have e' : ((k + 1 : Nat) : Int) * (q : Int) = 0 := e
    omega
  have e1 : (((bel q n / bel q (k + 1)) * (q * (k + 1)) : Nat) : Int) * abv x q k = (((bel q n / bel q (k + 1) : Nat) : Int) * abv x q k) * (((k : Int) + 1) * (q : Int)) := by
    rw [Int.natCast_mul, Int.natCast_mul, Int.natCast_add]
    simp only [Int.natCast_one, Int.mul_assoc, Int.mul_comm, Int.mul_left_comm]
  rw [e1, Int.mul_tdiv_cancel _ hz]
  show _ = _ * (abv x q k * (x - (k : Int) * (q : Int)))
  rw [Int.mul_assoc]
/-- the sum of the first k terms -/
def smQ (L : Nat → Int) (x : Int) (q n : Nat) : Nat → Int
  | 0 => 0
  | k + 1 => smQ L x q n k + L k * trm x q n k
/-- the program's k-th term in lowest terms -/
theorem low_trm (L : Nat → Int) (x : Int) {q n k : Nat} (hq : 0 < q) (h : k ≤ n) : low (L k * abv x q k) (bel q k) = low (L k * trm x q n k) (bel q n) := by
  refine low_cong (bel_pos hq k) (bel_pos hq n) ?_
  unfold trm
  obtain ⟨r, hr⟩ := bel_dvd q h
  have e1 : bel q n / bel q k = r := Nat.div_eq_of_eq_mul_right (bel_pos hq k) hr
  rw [e1, hr, Int.natCast_mul]
  simp only [Int.mul_assoc, Int.mul_comm, Int.mul_left_comm]
/-! bounds -/
theorem abv_bd {x : Int} {q R m : Nat} (h : ∀ k, k < m → (x - (k : Int) * (q : Int)).natAbs ≤ R) : ∀ k, k ≤ m → (abv x q k).natAbs ≤ R ^ k
  | 0, _ => by simp [abv]
  | k + 1, hk => by
    show (abv x q k * (x - (k : Int) * (q : Int))).natAbs ≤ _
    rw [Int.natAbs_mul, Nat.pow_succ]
    exact Nat.mul_le_mul (abv_bd h k (by omega)) (h k (by omega))
theorem bel_bd {q R m : Nat} (h : q * m ≤ R) : ∀ k, k ≤ m → bel q k ≤ R ^ k
  | 0, _ => by simp [bel]
  | k + 1, hk => by
    show bel q k * (q * (k + 1)) ≤ _
    rw [Nat.pow_succ]
    exact Nat.mul_le_mul (bel_bd h k (by omega)) (Nat.le_trans (Nat.mul_le_mul_left q hk) h)
theorem quot_bd {q R n : Nat} (hq : 0 < q) (h : q * n ≤ R) : ∀ j, j ≤ n → bel q n / bel q (n - j) ≤ R ^ j
  | 0, _ => by rw [Nat.sub_zero, Nat.div_self (bel_pos hq n)]; exact Nat.le_refl _
  | j + 1, hj => by
    rw [bel_quot hq (k := n - (j + 1)) (by omega), show n - (j + 1) + 1 = n - j by omega, Nat.pow_succ]
    exact Nat.mul_le_mul (quot_bd hq h j (by omega)) (Nat.le_trans (Nat.mul_le_mul_left q (by omega)) h)
theorem trm_bd {x : Int} {q n R : Nat} (hq : 0 < q) (hn : q * n ≤ R) (h : ∀ k, k < n → (x - (k : Int) * (q : Int)).natAbs ≤ R) (k : Nat) (hk : k ≤ n) : (trm x q n k).natAbs ≤ R ^ n := by
  unfold trm
  rw [Int.natAbs_mul, Int.natAbs_natCast]
  have h1 := quot_bd hq hn (n - k) (by omega)
  rw [show n - (n - k) = k by omega] at h1
  have h2 := Nat.mul_le_mul h1 (abv_bd h k hk)
  rw [← Nat.pow_add, show n - k + k = n by omega] at h2
  exact h2
/-- leads that at most double -/
def Lds (L : Nat → Int) (m : Nat) : Prop := ∀ k, k < m → (L k).natAbs ≤ 2 ^ k * 100000
theorem smQ_bd {L : Nat → Int} {x : Int} {q n R m : Nat} (hq : 0 < q) (hn : q * n ≤ R) (h : ∀ k, k < n → (x - (k : Int) * (q : Int)).natAbs ≤ R) (hL : Lds L m) (hm : m ≤ n + 1) : ∀ k, k ≤ m → (smQ L x q n k).natAbs ≤ (2 ^ k - 1) * (100000 * R ^ n)
  | 0, _ => by simp [smQ]
  | k + 1, hk => by
    have h1 := smQ_bd hq hn h hL hm k (by omega)
    have h2 := trm_bd hq hn h k (by omega)
    have h3 := hL k (by omega)
    have h4 : (L k * trm x q n k).natAbs ≤ 2 ^ k * (100000 * R ^ n) := by
      rw [Int.natAbs_mul, ← Nat.mul_assoc]; exact Nat.mul_le_mul h3 h2
    show (smQ L x q n k + L k * trm x q n k).natAbs ≤ _
    have h5 : (2 ^ (k + 1) - 1) * (100000 * R ^ n) = (2 ^ k - 1) * (100000 * R ^ n) + 2 ^ k * (100000 * R ^ n) := by
      rw [← Nat.add_mul]; congr 1
      have := Nat.pow_pos (n := k) (show 0 < 2 by omega)
      rw [Nat.pow_succ]; omega
    rw [h5]
    omega
/-! the points themselves -/
theorem chb_rec : ∀ x, x < 7 → ∀ k, k < 7 → (chb x (k + 1) : Int) * ((k : Int) + 1) = (chb x k : Int) * ((x : Int) - (k : Int)) := by decide +kernel
theorem trm_point {x q n : Nat} (hx : x < 7) (hq : 0 < q) (hn : n < 7) : ∀ k, k ≤ n → trm ((x : Int) * (q : Int)) q n k = (chb x k : Int) * (bel q n : Int)
  | 0, _ => by rw [trm_zero]; simp [chb]
  | k + 1, hk => by
    have ih := trm_point hx hq hn k (by omega)
    have hrec := chb_rec x hx k (by omega)
    have hz : ((k : Int) + 1) * (q : Int) ≠ 0 := by
      have : 0 < (((k + 1) * q : Nat) : Int) := by have := Nat.mul_pos (show 0 < k + 1 by omega) hq; omega
      rw [Int.natCast_mul] at this
      intro e
      have e' : ((k + 1 : Nat) : Int) * (q : Int) = 0 := e
      omega
    refine Int.eq_of_mul_eq_mul_right hz ?_
    have e1 : trm ((x : Int) * (q : Int)) q n (k + 1) * (((k : Int) + 1) * (q : Int)) = trm ((x : Int) * (q : Int)) q n k * ((x : Int) * (q : Int) - (k : Int) * (q : Int)) := by
      unfold trm
      rw [bel_quot hq hk]
      show _ * (abv _ q k * _) * _ = _
      rw [Int.natCast_mul, Int.natCast_mul, Int.natCast_add]
      simp only [Int.natCast_one, Int.mul_assoc, Int.mul_comm, Int.mul_left_comm]
    rw [e1, ih, ← Int.sub_mul]
    calc (chb x k : Int) * (bel q n : Int) * (((x : Int) - (k : Int)) * (q : Int)) = ((chb x k : Int) * ((x : Int) - (k : Int))) * ((bel q n : Int) * (q : Int)) := by simp only [Int.mul_assoc, Int.mul_comm, Int.mul_left_comm]
      _ = ((chb x (k + 1) : Int) * ((k : Int) + 1)) * ((bel q n : Int) * (q : Int)) := by rw [hrec]
      _ = _ := by simp only [Int.mul_assoc, Int.mul_comm, Int.mul_left_comm]
theorem smQ_point (L : Nat → Int) {x q n : Nat} (hx : x < 7) (hq : 0 < q) (hn : n < 7) : ∀ k, k ≤ n + 1 → smQ L ((x : Int) * (q : Int)) q n k = nval L x k * (bel q n : Int)
  | 0, _ => by simp [smQ, nval]
  | k + 1, hk => by
    show smQ L _ q n k + L k * trm _ q n k = (nval L x k + L k * (chb x k : Int)) * (bel q n : Int)
    rw [smQ_point L hx hq hn k (by omega), trm_point hx hq hn k (by omega), Int.add_mul, Int.mul_assoc]
/-- Newton's formula gives the values back -/
theorem newton_back (f : Nat → Int) (m x : Nat) (hm : m ≤ 6) (hx : x < m) : nval (fun j => Dn j f 0) x m = f x := by
  obtain rfl | rfl | rfl | rfl | rfl | rfl : m = 1 ∨ m = 2 ∨ m = 3 ∨ m = 4 ∨ m = 5 ∨ m = 6 := by omega
  all_goals
    obtain rfl | rfl | rfl | rfl | rfl | rfl : x = 0 ∨ x = 1 ∨ x = 2 ∨ x = 3 ∨ x = 4 ∨ x = 5 := by omega
    all_goals first | omega | (simp [nval, chb, Dn, D]; done) | (simp [nval, chb, Dn, D]; omega)
end Go.Proofs.YtmeenihnhfhbkaaDoor
/- Small laws for quiet calls. -/
namespace Go.Proofs.YtmeenihnhfhbkaaDoor
open Go.RowKit Go.Joins

theorem rdN {w w' : World} {v : Value} {n sz : Nat} {cs : List Value} (h : Rd w w.heap.size v n sz cs) (hb : Below w.heap.size w w') : Rd w' w'.heap.size v n sz cs := (h.below hb).more hb.size
theorem own_posC {w : World} {base n size : Nat} {e : TypeId} {v : Value} {cs : List Value} (h : w.ownsRow base e size v n cs) (hn : 0 < n) : ∃ g cap, v = .slice (some ⟨g, 0, none⟩) n cap ∧ n ≤ cap ∧ cap ≤ maxLen := by
  rcases h.2 with ⟨_, h0⟩ | ⟨g, cap, _, hv, _, _, h1, h2, _⟩
  · omega
  · exact ⟨g, cap, hv, h1, h2⟩
theorem flipQ {P : Program} {f : FuncId} {args : Array Value} {w : World} {v : Value} (h : Calls P f args w fun e w' => e = .returned v ∧ w = w') : Calls P f args w fun e w' => e = .returned v ∧ w' = w :=
  h.mono fun _ _ ⟨h1, h2⟩ => ⟨h1, h2.symm⟩
theorem abs_mul {a b A B : Int} (ha : -A ≤ a ∧ a ≤ A) (hb : -B ≤ b ∧ b ≤ B) : -(A * B) ≤ a * b ∧ a * b ≤ A * B := by
  have h1 : a.natAbs ≤ A.natAbs := by omega
  have h2 : b.natAbs ≤ B.natAbs := by omega
  have h3 : (a * b).natAbs ≤ A.natAbs * B.natAbs := by rw [Int.natAbs_mul]; exact Nat.mul_le_mul h1 h2
  have h4 : (A * B).natAbs = A.natAbs * B.natAbs := Int.natAbs_mul A B
  have h5 : 0 ≤ A * B := Int.mul_nonneg (by omega) (by omega)
  omega

/-- a result of two fields in a block of its own: ahead of the store -/
theorem res2_pre {w w2 : World} {x y : Value} {t : TypeId} (h : Below (w.alloc (.cells #[x, y] t)).heap.size (w.alloc (.cells #[x, y] t)) w2) :
    w2.cell? ⟨w.heap.size, 0, none⟩ = some x ∧ w2.cell? ⟨w.heap.size, 1, none⟩ = some y ∧ w2.frozen? ⟨w.heap.size, 0, none⟩ = false ∧ w2.frozen? ⟨w.heap.size, 1, none⟩ = false :=
  blk2 ((h.block w.heap.size (by simp)).trans (heap_alloc_new w _))
/-- .. and behind it -/
theorem res2_post {w w2 : World} {x y : Value} {t : TypeId} (h : Below (w.alloc (.cells #[x, y] t)).heap.size (w.alloc (.cells #[x, y] t)) w2) (a b : Value) :
    ((w2.setCell ⟨w.heap.size, 0, none⟩ a).setCell ⟨w.heap.size, 1, none⟩ b).cell? ⟨w.heap.size, 0, none⟩ = some a ∧ ((w2.setCell ⟨w.heap.size, 0, none⟩ a).setCell ⟨w.heap.size, 1, none⟩ b).cell? ⟨w.heap.size, 1, none⟩ = some b ∧
    Below w.heap.size w ((w2.setCell ⟨w.heap.size, 0, none⟩ a).setCell ⟨w.heap.size, 1, none⟩ b) := by
  have g := heap_setCell_same _ w.heap.size 1 _ _ b (heap_setCell_same w2 w.heap.size 0 _ _ a ((h.block w.heap.size (by simp)).trans (heap_alloc_new w _)))
  obtain ⟨p, q, _, _⟩ := blk2 g
  exact ⟨p, q, ((((Below.refl w.heap.size w).alloc (Nat.le_refl _) _).trans (h.mono (by simp))).setCell (p := ⟨w.heap.size, 0, none⟩) (Nat.le_refl _) a).setCell (p := ⟨w.heap.size, 1, none⟩) (Nat.le_refl _) b⟩
theorem res2_own {w2 : World} {base B n sz : Nat} {e : TypeId} {v : Value} {xs : List Value} (h : w2.ownsRow base e sz v n xs) {g : Nat} (hg : g < base) (hB : B ≤ base) (a b : Value) : ((w2.setCell ⟨g, 0, none⟩ a).setCell ⟨g, 1, none⟩ b).ownsRow B e sz v n xs :=
  ownsRow_le (ownsRow_setCell_below (ownsRow_setCell_below h (a := ⟨g, 0, none⟩) hg a) (a := ⟨g, 1, none⟩) hg b) hB
/-- a boxed argument of two fields -/
theorem box2 {w : World} {x y : Value} {t : TypeId} : (w.alloc (.cells #[x, y] t)).cell? ⟨w.heap.size, 0, none⟩ = some x ∧ (w.alloc (.cells #[x, y] t)).cell? ⟨w.heap.size, 1, none⟩ = some y :=
  have h := blk2 (heap_alloc_new w (.cells #[x, y] t))
  ⟨h.1, h.2.1⟩

theorem cell_alloc {w : World} {g i : Nat} {v : Value} (h : w.cell? ⟨g, i, none⟩ = some v) (o : Obj) : (w.alloc o).cell? ⟨g, i, none⟩ = some v :=
  (((Below.refl w.heap.size w).alloc (Nat.le_refl _) o).cell (p := ⟨g, i, none⟩) (World.block_lt_of_cell? w _ h)).trans h
/-- append of new elements at a step of a region that draws, where the world has no draw of its own (behind a call) -/
theorem step_apd0 {P : Program} {w : World} {ops : Array Oper} {o : Oper} {a : Act} {K : Act → World → Prop} {Q : Exit → Act → World → Prop} {E : Prop} (t e : TypeId) (z : Value) (size bytes : Nat)
    (ht : P.underlying t = some (.slice e)) (hinfo : (P.info? e).map (fun i => (i.zero, i.size, i.bytes)) = some (some z, size, bytes)) (hzs : z.cells.size = size) (hsz : 0 < size)
    (s x : Operand) (hgd : o.guard = none) (ho : o.op = .call { callee := .builtin .append, args := #[s, x], argTypes := #[t, t] })
    (base : Nat) (v : Value) (n : Nat) (xs : List Value) (hs : a.eval s = v) (hown : w.ownsRow base e size v n xs)
    (cs : Array Value) (m c : Nat) (hx : a.eval x = .slice (some ⟨w.heap.size, 0, none⟩) m c) (hl : cs.toList.length = m * size) (h1 : ∀ u ∈ cs.toList, u.oneCell' = true)
    (h63 : n + m ≤ maxLen) (hbytes : (n + m) * bytes ≤ 140737488355328) (hbase : base ≤ w.heap.size)
    (h : ∀ v' w', w'.ownsRow base e size v' (n + m) (xs ++ cs.toList) → w.grownBy w' v.ownBlock → K (a.put o.dst v') w') :
    if Region.wanted o (yielded ops a.tmps) = true then Oper.wp P o a (w.alloc (.cells cs e)) K Q else E := by
  have hw : Region.wanted o (yielded ops a.tmps) = true := by simp [Region.wanted, hgd]
  rw [if_pos hw]
  exact wp_apd (w := w) t e z size bytes ht hinfo hzs hsz s x ho base v n xs hs hown cs m c hx hl h1 h63 hbytes hbase h
end Go.Proofs.YtmeenihnhfhbkaaDoor
/- Differences, part 6: degrees, what an entry must be. -/
namespace Go.Proofs.YtmeenihnhfhbkaaDoor
open Go.RowKit Go.Joins

theorem mk_ints (n : Nat) (hn : n ≤ 1000) (w : World) : ∃ w', (Instr.makeSlice 36 (.int .i64 (n : Int)) (.int .i64 (n : Int))).run Tryd.prog w = .ok (.slice (some ⟨w.heap.size, 0, none⟩) n n) w' ∧
    w'.ownsRow w.heap.size 2 1 (.slice (some ⟨w.heap.size, 0, none⟩) n n) n (tab n (fun _ => 0)) ∧ Below w.heap.size w w' := by
  obtain ⟨i, hi, hz, h2, h3⟩ := info_parts infoD
  obtain ⟨w1, hr, hown, hg⟩ := run_makeSlice_full (P := Tryd.prog) (w := w) w.heap.size 36 2 i _ 1 Tryd.underlying36 hi hz h2 .i64 .i64 n (by omega) (by rw [h3]; omega) (by simp [maxLen]; omega) (Nat.le_refl _)
  refine ⟨w1, hr, ?_, below_of_grown hg (Nat.le_refl _) (fun x hx => by cases hx)⟩
  have e : (madeCells (Value.cells (.int .i64 0)) (n * 1)).toList = tab n (fun _ => 0) := by
    rw [Nat.mul_one]
    refine List.ext_getElem (by simp [madeCells, tab]) fun i h1 h2 => ?_
    simp [madeCells, tab, Value.cells]
    rw [Nat.mod_one]; rfl
  rw [← e]
  exact hown
def zap (f : Nat → Int) (a : Nat) : Nat → Int := fun x => if x = a then 0 else f x
def one (a : Nat) : Nat → Int := fun x => if x = a then 1 else 0
def put (f : Nat → Int) (a : Nat) (y : Int) : Nat → Int := fun x => if x = a then y else f x
theorem tab_set (n : Nat) (f : Nat → Int) (a : Nat) (y : Int) : (tab n f).set a (.int .i64 y) = tab n (put f a y) := by
  refine List.ext_getElem (by simp [tab]) fun i h1 h2 => ?_
  rw [List.getElem_set]
  simp only [tab, List.getElem_map, List.getElem_range, put]
  by_cases h : a = i
  · simp [h]
  · rw [if_neg h, if_neg (fun e => h e.symm)]
theorem Small.put {M n : Nat} {f : Nat → Int} (h : Small M n f) (a : Nat) (y : Int) (hy : -(M : Int) ≤ y ∧ y ≤ M) : Small M n (put f a y) := by
  intro i hi
  show _ ≤ (if i = a then y else f i) ∧ (if i = a then y else f i) ≤ _
  split
  · exact hy
  · exact h i hi
/-- all are 0 -/
def zer (n : Nat) (f : Nat → Int) : Bool := (List.range n).all fun i => f i == 0
theorem zer_at {n : Nat} {f : Nat → Int} (i : Nat) (hi : i < n) (h : f i ≠ 0) : zer n f = false := by
  unfold zer
  rw [List.all_eq_false]
  exact ⟨i, List.mem_range.2 hi, by simpa using h⟩
theorem zer_all {n : Nat} {f : Nat → Int} (h : ∀ i, i < n → f i = 0) : zer n f = true := by
  unfold zer
  rw [List.all_eq_true]
  intro i hi
  simp [h i (List.mem_range.1 hi)]

/-- what replacement finds: the loop from place i on -/
def rep (r s : Nat → Int) : Nat → Nat → Int → Bool → Int × Bool
  | 0, _, due, _ => (due, true)
  | n + 1, i, due, found =>
    if s i = 0 then (if r i = 0 then rep r s n (i + 1) due found else (0, false))
    else if (r i).tmod (s i) = 0 then (if found = true ∧ (-(r i)).tdiv (s i) ≠ due then (0, false) else rep r s n (i + 1) ((-(r i)).tdiv (s i)) true)
    else (0, false)
theorem tmod_bd {a b : Int} {M : Int} (h : -M ≤ a ∧ a ≤ M) : -M ≤ a.tmod b ∧ a.tmod b ≤ M := by
  have h1 : (a.tmod b).natAbs = a.natAbs % b.natAbs := Int.natAbs_tmod a b
  have h2 := Nat.mod_le a.natAbs b.natAbs
  omega
theorem tdiv_bd {a b : Int} {M : Int} (h : -M ≤ a ∧ a ≤ M) : -M ≤ a.tdiv b ∧ a.tdiv b ≤ M := by
  have h1 : (a.tdiv b).natAbs = a.natAbs / b.natAbs := Int.natAbs_tdiv a b
  have h2 := Nat.div_le_self a.natAbs b.natAbs
  omega
theorem rep_succ (r s : Nat → Int) (n i : Nat) (due : Int) (found : Bool) : rep r s (n + 1) i due found =
    if s i = 0 then (if r i = 0 then rep r s n (i + 1) due found else (0, false))
    else if (r i).tmod (s i) = 0 then (if found = true ∧ (-(r i)).tdiv (s i) ≠ due then (0, false) else rep r s n (i + 1) ((-(r i)).tdiv (s i)) true)
    else (0, false) := rfl
theorem rep_cases (r s : Nat → Int) (n i : Nat) (due : Int) (found : Bool) : (s i = 0 ∧ r i ≠ 0 ∧ rep r s (n + 1) i due found = (0, false)) ∨ (s i = 0 ∧ r i = 0 ∧ rep r s (n + 1) i due found = rep r s n (i + 1) due found) ∨
    (s i ≠ 0 ∧ (r i).tmod (s i) ≠ 0 ∧ rep r s (n + 1) i due found = (0, false)) ∨ (s i ≠ 0 ∧ (r i).tmod (s i) = 0 ∧ found = true ∧ (-(r i)).tdiv (s i) ≠ due ∧ rep r s (n + 1) i due found = (0, false)) ∨
    (s i ≠ 0 ∧ (r i).tmod (s i) = 0 ∧ found = true ∧ (-(r i)).tdiv (s i) = due ∧ rep r s (n + 1) i due found = rep r s n (i + 1) ((-(r i)).tdiv (s i)) true) ∨
    (s i ≠ 0 ∧ (r i).tmod (s i) = 0 ∧ found = false ∧ rep r s (n + 1) i due found = rep r s n (i + 1) ((-(r i)).tdiv (s i)) true) := by
  rw [rep_succ]
  generalize (-(r i)).tdiv (s i) = U
  by_cases h1 : s i = 0
  · by_cases h2 : r i = 0 <;> simp [h1, h2]
  · by_cases h2 : (r i).tmod (s i) = 0
    · cases found with
      | false => simp [h1, h2]
      | true => by_cases h3 : U = due <;> simp [h1, h2, h3]
    · simp [h1, h2]

theorem own_posD {w : World} {base n size : Nat} {e : TypeId} {v : Value} {cs : List Value} (h : w.ownsRow base e size v n cs) (hn : 0 < n) : ∃ g cap, v = .slice (some ⟨g, 0, none⟩) n cap := by
  rcases ownsRow_forms h with ⟨_, h0⟩ | ⟨g, cap, rfl⟩
  · omega
  · exact ⟨g, cap, rfl⟩
theorem own_cellD {w : World} {base n g cap : Nat} {e : TypeId} {f : Nat → Int} (h : w.ownsRow base e 1 (.slice (some ⟨g, 0, none⟩) n cap) n (tab n f)) (j : Nat) (hj : j < n) : w.cell? ⟨g, j, none⟩ = some (.int .i64 (f j)) ∧ w.frozen? ⟨g, j, none⟩ = false :=
  ⟨(h.cellAt j (by omega)).trans (tab_at f hj), h.frozenAt j⟩

end Go.Proofs.YtmeenihnhfhbkaaDoor
/- The source of draws (l00Src): what each draw hands back, and that only its own block turns. -/
namespace Go.Proofs.YtmeenihnhfhbkaaDoor
open Go.RowKit Go.Joins

/-- block g is a source over the bytes bs, at most k of its draws are done; the bytes lie below block B -/
def SrcAt (w : World) (B g k : Nat) (bs : List UInt8) : Prop :=
  ∃ (cv : Value) (p s : Nat), w.heap[g]? = some (.cells #[cv, .int .i64 p, .int .u64 s] 104 (0, 0)) ∧ Rd w B cv bs.length 1 (bs.map byV) ∧ p ≤ k ∧ s < 18446744073709551616 ∧ B ≤ g

theorem SrcAt.lt {w : World} {B g k : Nat} {bs : List UInt8} (h : SrcAt w B g k bs) : g < w.heap.size := by
  obtain ⟨cv, p, s, h, _⟩ := h
  exact (Array.getElem?_eq_some_iff.1 h).1
theorem SrcAt.more {w : World} {B g k k' : Nat} {bs : List UInt8} (h : SrcAt w B g k bs) (hk : k ≤ k') : SrcAt w B g k' bs := by
  obtain ⟨cv, p, s, h1, h2, h3, h4, h5⟩ := h
  exact ⟨cv, p, s, h1, h2, by omega, h4, h5⟩
/-- kept by all that leaves its blocks alone -/
theorem SrcAt.grown {w w' : World} {B g k : Nat} {bs : List UInt8} {r : Option Nat} (h : SrcAt w B g k bs) (hg : w.grownBy w' r) (hr : ∀ x, r = some x → g < x) : SrcAt w' B g k bs := by
  obtain ⟨cv, p, s, h1, h2, h3, h4, h5⟩ := h
  have hlt := (Array.getElem?_eq_some_iff.1 h1).1
  refine ⟨cv, p, s, (hg.block g hlt (fun e => by have := hr g e.symm; omega)).trans h1, h2.keep fun q hq => World.cell?_of_block (hg.block q.block (by omega) (fun e => by have := hr _ e.symm; omega)), h3, h4, h5⟩
theorem SrcAt.below {w w' : World} {B g k : Nat} {bs : List UInt8} (h : SrcAt w B g k bs) (hb : Below w.heap.size w w') : SrcAt w' B g k bs := h.grown (grown_of_below hb none) (fun x hx => by cases hx)
theorem SrcAt.drewN {w : World} {B g k : Nat} {bs : List UInt8} (h : SrcAt w B g k bs) (n : Nat) : SrcAt (w.drewN n) B g k bs := h
theorem SrcAt.drew {w : World} {B g k : Nat} {bs : List UInt8} (h : SrcAt w B g k bs) : SrcAt w.drew B g k bs := h

/-- a draw: a number with a property is handed back, only block g has turned -/
def Drawn (w : World) (B g k : Nat) (bs : List UInt8) (p : Int → Prop) (e : Ending) (w' : World) : Prop :=
  ∃ x, e = .returned (.int .i64 x) ∧ p x ∧ SrcAt w' B g k bs ∧ w.grownBy w' (some g)

theorem src_cells {w : World} {g : Nat} {a b c : Value} {t : TypeId} (h : w.heap[g]? = some (.cells #[a, b, c] t (0, 0))) :
    w.cell? ⟨g, 0, none⟩ = some a ∧ w.cell? ⟨g, 1, none⟩ = some b ∧ w.cell? ⟨g, 2, none⟩ = some c ∧ ∀ i, w.frozen? ⟨g, i, none⟩ = false := by
  refine ⟨?_, ?_, ?_, fun i => ?_⟩
  · rw [cell_of_row w g 0 _ _ _ h]; rfl
  · rw [cell_of_row w g 1 _ _ _ h]; rfl
  · rw [cell_of_row w g 2 _ _ _ h]; rfl
  · exact frozen_of_row w g i _ _ h

theorem u64_bd (x : Int) : 0 ≤ IntKind.u64.wrap x ∧ IntKind.u64.wrap x < 18446744073709551616 := by
  rw [IntKind.wrap_u64]; omega

theorem src_step {w : World} {B g k p : Nat} {c0 c2 : Value} {bs : List UInt8} (h1 : w.heap[g]? = some (.cells #[c0, .int .i64 p, c2] 104 (0, 0))) (h2 : Rd w B c0 bs.length 1 (bs.map byV)) (h3 : p ≤ k) (h5 : B ≤ g) (X : Int) (a b : Nat) :
    SrcAt ((((w.drewN a).setCell ⟨g, 1, none⟩ (.int .i64 ((p : Int) + 1))).setCell ⟨g, 2, none⟩ (.int .u64 (IntKind.u64.wrap X))).drewN b) B g (k + 1) bs ∧
    w.grownBy ((((w.drewN a).setCell ⟨g, 1, none⟩ (.int .i64 ((p : Int) + 1))).setCell ⟨g, 2, none⟩ (.int .u64 (IntKind.u64.wrap X))).drewN b) (some g) := by
  have hh := u64_bd X
  have e1 := heap_setCell_same (w.drewN a) g 1 _ _ (.int .i64 ((p : Int) + 1)) h1
  have e2 := heap_setCell_same _ g 2 _ _ (.int .u64 (IntKind.u64.wrap X)) e1
  have hg : w.grownBy ((((w.drewN a).setCell ⟨g, 1, none⟩ (.int .i64 ((p : Int) + 1))).setCell ⟨g, 2, none⟩ (.int .u64 (IntKind.u64.wrap X))).drewN b) (some g) := by
    refine ⟨rfl, rfl, rfl, by simp [World.setCell, World.drewN], fun i _ hne => ?_⟩
    have hi : i ≠ g := fun e => hne (by rw [e])
    show ((((w.drewN a).setCell ⟨g, 1, none⟩ _).setCell ⟨g, 2, none⟩ _)).heap[i]? = _
    rw [Below.heap_setCell _ _ _ _ hi, Below.heap_setCell _ _ _ _ hi]
    rfl
  refine ⟨⟨c0, p + 1, (IntKind.u64.wrap X).toNat, ?_, ?_, by omega, by omega, h5⟩, hg⟩
  · rw [Int.toNat_of_nonneg hh.1]
    exact e2
  · refine h2.keep fun q hq => World.cell?_of_block ?_
    have hlt : g < w.heap.size := (Array.getElem?_eq_some_iff.1 h1).1
    exact hg.block q.block (by omega) (fun e => by injection e with e; omega)

theorem and255 (X : Int) (h0 : 0 ≤ X) (h1 : X < 18446744073709551616) : 0 ≤ wrap64 (bits .and .u64 X 255) ∧ wrap64 (bits .and .u64 X 255) ≤ 255 := by
  rw [u64_and X 255 h0 h1 (by omega) (by omega)]
  have h := Nat.and_le_right (n := X.toNat) (m := (255 : Int).toNat)
  have h' : (255 : Int).toNat = 255 := rfl
  rw [IntWalk.wrap64_in _ ⟨by omega, by omega⟩]
  omega

set_option maxRecDepth 100000 in
set_option maxHeartbeats 800000 in
theorem next_any (B g k : Nat) (bs : List UInt8) (w : World) (h : SrcAt w B g k bs) (hk : k < 4611686018427387904) :
    Calls Tryd.prog 95 #[.pointer (some ⟨g, 0, none⟩)] w (Drawn w B g (k + 1) bs fun x => 0 ≤ x ∧ x ≤ 255) := by
  obtain ⟨cv, p, s, h1, hRd, h3, h4, h5⟩ := h
  have hRd' := hRd
  obtain ⟨_, A, c, rfl, h2⟩ := hRd'
  have hRd := Lib.hid hRd
  obtain ⟨hc0, hc1, hc2, hfz⟩ := src_cells h1
  have hf1 := hfz 1
  have hf2 := hfz 2
  clear hfz
  have H1 := Lib.hid h1; clear h1
  have H2 := Lib.hid h2; clear h2
  by_cases hlt : p < bs.length
  · obtain ⟨b1, o1, rfl, hb1, hcc⟩ := H2.out (by omega)
    have hx := hcc p (byV bs[p]) (by simp [hlt])
    have hne : b1 ≠ g := by omega
    have hlt' : (p : Int) < (bs.length : Int) := by omega
    clear hcc
    unfold byV at hx
    have hx8 := bs[p].toNat_lt
    generalize bs[p].toNat = x at *
    have hxb : (x : Int) < 256 := by omega
    have hxi : (0 : Int) ≤ (x : Int) := by omega
    clear hx8
    have hwx : IntKind.i64.wrap (x : Int) = x := IntWalk.i64_in _ (by omega)
    go_enter Tryd.func95, Tryd.ntmps95
    go_wp2_with fail
    go_quiet (fail)
    go_wp2_with fail
    go_quiet (fail)
    clear hwx
    go_wp2_with fail
    go_quiet (fail)
    go_wp2_with fail
    go_ret
    have hs := src_step H1.out (hRd.out) h3 h5
    exact ⟨_, rfl, ⟨by omega, by omega⟩, (hs _ _ _).1, (hs _ _ _).2⟩
  · have hge : (bs.length : Int) ≤ (p : Int) := by omega
    go_enter Tryd.func95, Tryd.ntmps95
    go_wp2_with fail
    go_quiet (fail)
    go_wp2_with fail
    go_quiet (fail)
    go_wp2_with fail
    go_ret
    have hs := src_step H1.out (hRd.out) h3 h5
    exact ⟨_, rfl, and255 _ (by have := u64_bd (IntKind.u64.wrap (IntKind.u64.wrap ((s : Int) * 6364136223846793005)) + 1442695040888963407); omega) (by have := u64_bd (IntKind.u64.wrap (IntKind.u64.wrap ((s : Int) * 6364136223846793005)) + 1442695040888963407); omega), (hs _ _ _).1, (hs _ _ _).2⟩
/-- a draw: a bool is handed back -/
def DrawnB (w : World) (B g k : Nat) (bs : List UInt8) (e : Ending) (w' : World) : Prop :=
  ∃ x : Bool, e = .returned (.bool x) ∧ SrcAt w' B g k bs ∧ w.grownBy w' (some g)

set_option maxRecDepth 100000 in
set_option maxHeartbeats 800000 in
theorem pick_any (B g k : Nat) (bs : List UInt8) (n : Int) (w : World) (h : SrcAt w B g k bs) (hk : k < 4611686018427387900) :
    Calls Tryd.prog 57 #[.pointer (some ⟨g, 0, none⟩), .int .i64 n] w (Drawn w B g (k + 2) bs fun x => 0 ≤ x ∧ (2 ≤ n → x < n) ∧ (n ≤ 1 → x = 0)) := by
  by_cases h1 : n ≤ 1
  · have hg0 : w.grownBy w (some g) := ⟨rfl, rfl, rfl, Nat.le_refl _, fun _ _ _ => rfl⟩
    have H := Lib.hid h; clear h
    go_enter Tryd.func57, Tryd.ntmps57
    go_wp2_with fail
    go_ret
    exact ⟨0, rfl, ⟨by omega, by omega, by omega⟩, H.out.more (by omega), hg0⟩
  · by_cases h2 : n ≤ 200
    · have H := Lib.hid h; clear h
      go_enter Tryd.func57, Tryd.ntmps57
      go_wp2_with fail
      refine (next_any B g k bs _ H.out (by omega)).mono ?_; rintro e w1 ⟨x, rfl, ⟨hx0, hx1⟩, hs1, hg1⟩
      have Hs1 := Lib.hid hs1; clear hs1
      go_wp2_with fail
      go_ret
      have := Int.emod_nonneg x (by omega : n ≠ 0)
      have := Int.emod_lt_of_pos x (by omega : 0 < n)
      exact ⟨_, rfl, ⟨by omega, by omega, by omega⟩, Hs1.out.more (by omega), hg1⟩
    · have H := Lib.hid h; clear h
      go_enter Tryd.func57, Tryd.ntmps57
      go_wp2_with fail
      refine (next_any B g k bs _ H.out (by omega)).mono ?_; rintro e w1 ⟨x, rfl, ⟨hx0, hx1⟩, hs1, hg1⟩
      have Hs1 := Lib.hid hs1; clear hs1
      go_wp2_with fail
      refine (next_any B g (k + 1) bs _ Hs1.out (by omega)).mono ?_; rintro e w2 ⟨y, rfl, ⟨hy0, hy1⟩, hs2, hg2⟩
      have Hs2 := Lib.hid hs2; clear hs2
      have hg := grown_trans hg1 hg2
      go_wp2_with fail
      go_ret
      have := Int.emod_nonneg (x * 256 + y) (by omega : n ≠ 0)
      have := Int.emod_lt_of_pos (x * 256 + y) (by omega : 0 < n)
      exact ⟨_, rfl, ⟨by omega, by omega, by omega⟩, Hs2.out, hg⟩

set_option maxHeartbeats 400000 in
theorem l00From_any (B : Nat) (cv : Value) (bs : List UInt8) (w : World) (h : Rd w B cv bs.length 1 (bs.map byV)) (hB : B ≤ w.heap.size) :
    Calls Tryd.prog 46 #[cv] w fun e w' => e = .returned (.pointer (some ⟨w.heap.size, 0, none⟩)) ∧ SrcAt w' B w.heap.size 0 bs ∧ Below w.heap.size w w' ∧ w.heap.size < w'.heap.size := by
  have hb := (Below.refl w.heap.size w).alloc (Nat.le_refl _)
  have hs : ∀ t, SrcAt (w.alloc (.cells #[cv, .int .i64 0, .int .u64 0] t)) B w.heap.size 0 bs ∨ t ≠ 104 := fun t => by
    by_cases ht : t = 104
    · subst ht
      exact .inl ⟨cv, 0, 0, heap_alloc_new w _, h.below ((hb _).mono hB), Nat.le_refl _, by omega, hB⟩
    · exact .inr ht
  obtain ⟨_, A, c, rfl, h2⟩ := h
  clear h2
  have Hs := Lib.hid hs; clear hs
  go_enter Tryd.func46, Tryd.ntmps46
  go_wp2_with fail
  go_ret
  exact ⟨rfl, (Hs.out _).resolve_right (by simp), hb _, by simp⟩

end Go.Proofs.YtmeenihnhfhbkaaDoor
/- The tests of the drawn laws' arguments: a2Long, a2At. -/
namespace Go.Proofs.YtmeenihnhfhbkaaDoor
open Go.RowKit Go.Joins

end Go.Proofs.YtmeenihnhfhbkaaDoor
/- Differences, part 4: NewtonValue, BinomialOf, the drawn coefficients. -/
namespace Go.Proofs.YtmeenihnhfhbkaaDoor
open Go.RowKit Go.Joins

/-- binomial coefficients as the program makes them -/
def bin (n : Nat) : Nat → Nat
  | 0 => 1
  | i + 1 => bin n i * (n - i) / (i + 1)
def binV (n k : Nat) : Nat := if n < k then 0 else bin n (min k (n - k))
theorem bin_bd : ∀ n, n < 61 → ∀ i, i < 31 → bin n i * (n - i) < 9223372036854775807 := by decide +kernel
theorem bin_bd2 : ∀ n, n < 61 → ∀ i, i < 31 → bin n i ≤ 118264581564861424 := by decide +kernel
theorem bin_pascal : ∀ n, n < 60 → ∀ k, k < 59 → binV (n + 1) (k + 1) = binV n (k + 1) + binV n k := by decide +kernel
theorem binV_bd {n k : Nat} (hn : n < 61) : binV n k ≤ 118264581564861424 := by
  unfold binV
  split
  · omega
  · exact bin_bd2 n hn _ (by omega)

theorem tab_snoc (i : Nat) (f : Nat → Int) (x : Int) : tab (i + 1) (fun k => if k < i then f k else x) = tab i f ++ [.int .i64 x] := by
  rw [tab_succ]
  simp only [Nat.lt_irrefl, if_false]
  congr 1
  exact tab_congr fun k hk => by simp [hk]
theorem Small.snoc {M i : Nat} {f : Nat → Int} {x : Int} (h : Small M i f) (hx : -(M : Int) ≤ x ∧ x ≤ M) : Small M (i + 1) (fun k => if k < i then f k else x) := by
  intro k hk
  by_cases h1 : k < i
  · simp only [h1, if_true]; exact h k h1
  · simp only [h1, if_false]; exact hx
/-- drawn coefficients -/
def RetC (g : Nat) (w : World) (e : Ending) (w' : World) : Prop :=
  ∃ v n f, e = .returned v ∧ 1 ≤ n ∧ n ≤ 5 ∧ Small 20 n f ∧ w'.ownsRow w.heap.size 2 1 v n (tab n f) ∧ Below g w w'
end Go.Proofs.YtmeenihnhfhbkaaDoor
/- Differences, part 5: polynomials of powers; BinomialOf. -/
namespace Go.Proofs.YtmeenihnhfhbkaaDoor
open Go.RowKit Go.Joins

/-- Horner's value, the last d coefficients of m -/
def hp (p : Nat → Int) (x m : Nat) : Nat → Int
  | 0 => 0
  | d + 1 => hp p x m d * (x : Int) + p (m - 1 - d)
theorem hp_bd {p : Nat → Int} {m x X : Nat} (hS : Small 20 m p) (hx : x ≤ X) : ∀ d, d ≤ m → -((20 * (X + 1) ^ d : Nat) : Int) ≤ hp p x m d ∧ hp p x m d ≤ ((20 * (X + 1) ^ d : Nat) : Int)
  | 0, _ => by simp [hp]
  | d + 1, hd => by
    have h1 := hp_bd hS hx d (by omega)
    have h2 := mul_bd h1 x X hx
    have h3 := hS (m - 1 - d) (by omega)
    have h4 : 1 ≤ (X + 1) ^ d := Nat.one_le_pow _ _ (by omega)
    have h5 : 20 * (X + 1) ^ (d + 1) = 20 * (X + 1) ^ d * X + 20 * (X + 1) ^ d := by rw [Nat.pow_succ, ← Nat.mul_assoc, Nat.mul_add, Nat.mul_one]
    show _ ≤ hp p x m d * (x : Int) + p (m - 1 - d) ∧ hp p x m d * (x : Int) + p (m - 1 - d) ≤ _
    rw [h5]
    omega
theorem hp_bd2 {p : Nat → Int} {m x X d : Nat} (hS : Small 20 m p) (hx : x ≤ X) (hX : X ≤ 8) (hm : m ≤ 5) (hd : d ≤ m) : -1180980 ≤ hp p x m d ∧ hp p x m d ≤ 1180980 := by
  have h1 := hp_bd hS hx d hd
  have h2 : 20 * (X + 1) ^ d ≤ 20 * 9 ^ 5 := Nat.mul_le_mul_left _ (Nat.le_trans (Nat.pow_le_pow_left (by omega) d) (Nat.pow_le_pow_right (by omega) (by omega)))
  omega
theorem vals_small {p : Nat → Int} {m : Nat} (hS : Small 20 m p) (hm : m ≤ 5) : Small 62500 m (fun x => hp p x m m) := by
  intro x hx
  have h1 := hp_bd (X := 4) hS (show x ≤ 4 by omega) m (Nat.le_refl _)
  have h2 : 20 * (4 + 1) ^ m ≤ 20 * 5 ^ 5 := Nat.mul_le_mul_left _ (Nat.pow_le_pow_right (by omega) (by omega))
  show _ ≤ hp p x m m ∧ hp p x m m ≤ _
  omega
theorem lead_small {p : Nat → Int} {m : Nat} (hS : Small 20 m p) (hm : m ≤ 5) : Small 1000000 m (fun j => Dn j (fun x => hp p x m m) 0) := by
  intro j hj
  have h1 := (vals_small hS hm).Dn j 0 (by omega)
  have h2 : 2 ^ j * 62500 ≤ 2 ^ 4 * 62500 := Nat.mul_le_mul_right _ (Nat.pow_le_pow_right (by omega) (by omega))
  show _ ≤ Dn j _ 0 ∧ Dn j _ 0 ≤ _
  omega

/-- a row of numbers of the call's own and the code 0 -/
def RetF0 (w : World) (n : Nat) (f : Nat → Int) (e : Ending) (w' : World) : Prop :=
  ∃ v, e = .returned (.tuple #[v, .int .i64 0]) ∧ w'.ownsRow w.heap.size 2 1 v n (tab n f) ∧ Below w.heap.size w w'

/-- Newton's formula for polynomials of up to five powers, up to 8 -/
theorem newton_pow (p : Nat → Int) (m x : Nat) (h1 : 1 ≤ m) (hm : m ≤ 5) (hx : x < 9) : nval (fun j => Dn j (fun i => hp p i m m) 0) x m = hp p x m m := by
  obtain rfl | rfl | rfl | rfl | rfl : m = 1 ∨ m = 2 ∨ m = 3 ∨ m = 4 ∨ m = 5 := by omega
  all_goals
    obtain rfl | rfl | rfl | rfl | rfl | rfl | rfl | rfl | rfl : x = 0 ∨ x = 1 ∨ x = 2 ∨ x = 3 ∨ x = 4 ∨ x = 5 ∨ x = 6 ∨ x = 7 ∨ x = 8 := by omega
    all_goals
      simp [nval, Dn, D, hp, chb]
      try omega
end Go.Proofs.YtmeenihnhfhbkaaDoor
/- Differences, part 7: WrongEntry, TabulateNewton; what a wrong entry leaves behind, in plain words. -/
namespace Go.Proofs.YtmeenihnhfhbkaaDoor
open Go.RowKit Go.Joins

abbrev one1 (a : Nat) : Nat → Int := put (fun _ => 0) a 1
theorem Dn_lin (f g : Nat → Int) (k : Int) : ∀ m, Dn m (fun x => f x + k * g x) = fun i => Dn m f i + k * Dn m g i
  | 0 => rfl
  | m + 1 => by
    show D (Dn m (fun x => f x + k * g x)) = _
    rw [Dn_lin f g k m]
    funext i
    show (Dn m f (i + 1) + k * Dn m g (i + 1)) - (Dn m f i + k * Dn m g i) = (Dn m f (i + 1) - Dn m f i) + k * (Dn m g (i + 1) - Dn m g i)
    rw [Int.mul_sub]; omega
theorem put_eq (f : Nat → Int) (a : Nat) (y : Int) : put f a y = fun x => f x + (y - f a) * one1 a x := by
  funext x
  show (if x = a then y else f x) = f x + (y - f a) * (if x = a then 1 else 0)
  by_cases h : x = a
  · subst h; simp; omega
  · simp [h]
theorem Dn_put (f : Nat → Int) (a : Nat) (y : Int) (m i : Nat) : Dn m (put f a y) i = Dn m f i + (y - f a) * Dn m (one1 a) i := by
  rw [put_eq, Dn_lin]
theorem chz : ∀ m, m < 6 → ∀ k, k < m → ∀ i, i < 14 → i + m < 14 → Dn m (fun x => (chb x k : Int)) i = 0 := by decide +kernel
theorem sone : ∀ m, m < 6 → ∀ L, L < 10 → 2 ≤ L → ∀ a, a < L + m → ∃ i, i < L ∧ Dn m (one1 a) i ≠ 0 := by decide +kernel
theorem Dn_nval (c : Nat → Int) (m : Nat) (hm : m < 6) (i : Nat) (hi : i + m < 14) : ∀ j, j ≤ m → Dn m (fun x => nval c x j) i = 0
  | 0, _ => by
    have : (fun x => nval c x 0) = fun x => (0 : Int) + 0 * (0 : Int) := by funext x; simp [nval]
    have h0 : ∀ m i, Dn m (fun _ => (0 : Int)) i = 0 := by
      intro m
      induction m with
      | zero => intro i; rfl
      | succ m ih => intro i; show Dn m _ (i + 1) - Dn m _ i = 0; rw [ih, ih]; rfl
    show Dn m (fun _ => (0 : Int)) i = 0
    exact h0 m i
  | j + 1, hj => by
    have e : (fun x => nval c x (j + 1)) = fun x => nval c x j + c j * (fun x => (chb x j : Int)) x := rfl
    rw [e, Dn_lin]
    show Dn m (fun x => nval c x j) i + c j * Dn m (fun x => (chb x j : Int)) i = 0
    rw [Dn_nval c m hm i hi j (by omega), chz m hm j (by omega) i (by omega) hi]; simp
/-- two places leave no proportional rows behind -/
def skew (m L a b : Nat) : Bool := (List.range L).any fun i => (List.range L).any fun j => Dn m (one1 a) i * Dn m (one1 b) j != Dn m (one1 a) j * Dn m (one1 b) i
def skewAll : Bool := (List.range 6).all fun m => (List.range 10).all fun L => (List.range (L + m)).all fun a => (List.range (L + m)).all fun b => decide (a = b) || decide (L < 2) || decide (m < 1) || skew m L a b
theorem skewAll_true : skewAll = true := by decide +kernel
theorem skew_all (m : Nat) (hm : m < 6) (h1 : 1 ≤ m) (L : Nat) (hL : L < 10) (h2 : 2 ≤ L) (a : Nat) (ha : a < L + m) (b : Nat) (hb : b < L + m) (hab : a ≠ b) : skew m L a b = true := by
  have h := List.all_eq_true.1 (List.all_eq_true.1 (List.all_eq_true.1 (List.all_eq_true.1 skewAll_true m (List.mem_range.2 hm)) L (List.mem_range.2 hL)) a (List.mem_range.2 ha)) b (List.mem_range.2 hb)
  rw [decide_eq_false hab, decide_eq_false (by omega : ¬ L < 2), decide_eq_false (by omega : ¬ m < 1)] at h
  simpa using h
theorem skew_at {m L a b : Nat} (h : skew m L a b = true) : ∃ i j, i < L ∧ j < L ∧ Dn m (one1 a) i * Dn m (one1 b) j ≠ Dn m (one1 a) j * Dn m (one1 b) i := by
  unfold skew at h
  obtain ⟨i, hi, h⟩ := List.any_eq_true.1 h
  obtain ⟨j, hj, h⟩ := List.any_eq_true.1 h
  exact ⟨i, j, List.mem_range.1 hi, List.mem_range.1 hj, by simpa using h⟩

theorem rep_ok (r s : Nat → Int) (v : Int) : ∀ n i due found, (∀ j, i ≤ j → j < i + n → r j = -v * s j) → (found = true → due = v) →
    (rep r s n i due found).2 = true ∧ ((found = true ∨ ∃ j, i ≤ j ∧ j < i + n ∧ s j ≠ 0) → (rep r s n i due found).1 = v)
  | 0, i, due, found, _, hf => ⟨rfl, fun h => by
      rcases h with h | ⟨j, h1, h2, _⟩
      · exact hf h
      · omega⟩
  | n + 1, i, due, found, h, hf => by
    have hi := h i (Nat.le_refl _) (by omega)
    have h' : ∀ j, i + 1 ≤ j → j < i + 1 + n → r j = -v * s j := fun j h1 h2 => h j (by omega) (by omega)
    rw [rep_succ]
    by_cases hs : s i = 0
    · have hr : r i = 0 := by rw [hi, hs, Int.mul_zero]
      rw [if_pos hs, if_pos hr]
      obtain ⟨k1, k2⟩ := rep_ok r s v n (i + 1) due found h' hf
      refine ⟨k1, fun hh => k2 ?_⟩
      rcases hh with hh | ⟨j, h1, h2, h3⟩
      · exact .inl hh
      · by_cases e : j = i
        · subst e; exact absurd hs h3
        · exact .inr ⟨j, by omega, by omega, h3⟩
    · have ht : (r i).tmod (s i) = 0 := by rw [hi]; exact Int.mul_tmod_left _ _
      have hd : (-(r i)).tdiv (s i) = v := by
        rw [hi, Int.neg_mul, Int.neg_neg]; exact Int.mul_tdiv_cancel _ hs
      rw [if_neg hs, if_pos ht, hd, if_neg (fun e => e.2 (hf e.1).symm)]
      obtain ⟨k1, k2⟩ := rep_ok r s v n (i + 1) v true h' (fun _ => rfl)
      exact ⟨k1, fun _ => k2 (.inl rfl)⟩
theorem rep_bad (r s : Nat → Int) : ∀ n i due found, (rep r s n i due found).2 = true → ∃ v, (found = true → v = due) ∧ ∀ j, i ≤ j → j < i + n → r j = -v * s j
  | 0, i, due, found, _ => ⟨due, fun _ => rfl, fun j h1 h2 => by omega⟩
  | n + 1, i, due, found, h => by
    rw [rep_succ] at h
    by_cases hs : s i = 0
    · rw [if_pos hs] at h
      by_cases hr : r i = 0
      · rw [if_pos hr] at h
        obtain ⟨v, h1, h2⟩ := rep_bad r s n (i + 1) due found h
        refine ⟨v, h1, fun j h3 h4 => ?_⟩
        by_cases e : j = i
        · subst e; rw [hr, hs, Int.mul_zero]
        · exact h2 j (by omega) (by omega)
      · rw [if_neg hr] at h; simp at h
    · rw [if_neg hs] at h
      by_cases ht : (r i).tmod (s i) = 0
      · rw [if_pos ht] at h
        by_cases hc : found = true ∧ (-(r i)).tdiv (s i) ≠ due
        · rw [if_pos hc] at h; simp at h
        · rw [if_neg hc] at h
          obtain ⟨v, h1, h2⟩ := rep_bad r s n (i + 1) _ true h
          have hv := h1 rfl
          refine ⟨v, fun hf => ?_, fun j h3 h4 => ?_⟩
          · rw [hv]
            exact Classical.byContradiction fun e => hc ⟨hf, e⟩
          · by_cases e : j = i
            · subst e
              have hm := Int.mul_tdiv_add_tmod (r j) (s j)
              rw [ht, Int.add_zero] at hm
              rw [hv, Int.neg_tdiv, Int.neg_neg, Int.mul_comm]
              exact hm.symm
            · exact h2 j (by omega) (by omega)
      · rw [if_neg ht] at h; simp at h

/-- what replacement finds for place a -/
def rp (f : Nat → Int) (d n a : Nat) : Int × Bool := rep (Dn (d + 1) (put f a 0)) (Dn (d + 1) (put (fun _ => 0) a 1)) (n - (d + 1)) 0 0 false

/-- one entry is wrong: all that the law asks -/
theorem wrong_one (f : Nat → Int) (d L a : Nat) (e : Int) (hd : d + 1 < 6) (hL : L < 10) (hL2 : 2 ≤ L) (ha : a < L + (d + 1)) (he : e ≠ 0) (hf : ∀ i, i < L → Dn (d + 1) f i = 0) :
    zer L (Dn (d + 1) f) = true ∧ zer L (Dn (d + 1) (put f a (f a + e))) = false ∧ (∀ b, b < a → (rp (put f a (f a + e)) d (L + (d + 1)) b).2 = false) ∧ rp (put f a (f a + e)) d (L + (d + 1)) a = (f a, true) := by
  have hg : ∀ i, i < L → Dn (d + 1) (put f a (f a + e)) i = e * Dn (d + 1) (one1 a) i := fun i hi => by
    rw [Dn_put, hf i hi, show f a + e - f a = e by omega, Int.zero_add]
  have hLm : L + (d + 1) - (d + 1) = L := by omega
  refine ⟨zer_all hf, ?_, fun b hb => ?_, ?_⟩
  · obtain ⟨i, hi, hs⟩ := sone (d + 1) hd L hL hL2 a ha
    exact zer_at i hi (by rw [hg i hi]; exact Int.mul_ne_zero he hs)
  · cases hr : (rp (put f a (f a + e)) d (L + (d + 1)) b).2 with
    | false => rfl
    | true =>
      unfold rp at hr
      rw [hLm] at hr
      obtain ⟨v, _, h2⟩ := rep_bad _ _ _ _ _ _ hr
      obtain ⟨i, j, hi, hj, hne⟩ := skew_at (skew_all (d + 1) hd (by omega) L hL hL2 a ha b (by omega) (by omega))
      have key : ∀ x, x < L → e * Dn (d + 1) (one1 a) x = (put f a (f a + e) b - v) * Dn (d + 1) (one1 b) x := fun x hx => by
        have h3 := h2 x (Nat.zero_le _) (by omega)
        rw [Dn_put, hg x hx] at h3
        have h4 : (0 - put f a (f a + e) b) * Dn (d + 1) (one1 b) x = -(put f a (f a + e) b * Dn (d + 1) (one1 b) x) := by rw [Int.zero_sub, Int.neg_mul]
        have h5 : -v * Dn (d + 1) (put (fun _ => 0) b 1) x = -(v * Dn (d + 1) (one1 b) x) := Int.neg_mul _ _
        rw [h4, h5] at h3
        rw [Int.sub_mul]
        omega
      have k1 := key i hi
      have k2 := key j hj
      exfalso
      apply hne
      refine Int.eq_of_mul_eq_mul_left he ?_
      rw [← Int.mul_assoc, ← Int.mul_assoc, k1, k2, Int.mul_assoc, Int.mul_assoc, Int.mul_comm (Dn (d + 1) (one1 b) i)]
  · unfold rp
    rw [hLm]
    have hr : ∀ j, 0 ≤ j → j < 0 + L → Dn (d + 1) (put (put f a (f a + e)) a 0) j = -(f a) * Dn (d + 1) (put (fun _ => 0) a 1) j := fun j _ hj => by
      rw [Dn_put, hg j (by omega)]
      have h0 : put f a (f a + e) a = f a + e := by simp [put]
      rw [h0, ← Int.add_mul]
      congr 1; omega
    obtain ⟨k1, k2⟩ := rep_ok _ _ (f a) L 0 0 false hr (by simp)
    obtain ⟨i, hi, hs⟩ := sone (d + 1) hd L hL hL2 a ha
    exact Prod.ext (k2 (.inr ⟨i, Nat.zero_le _, by omega, hs⟩)) k1
end Go.Proofs.YtmeenihnhfhbkaaDoor
/- Differences, part 8: Newton's differences, continued tables and shifts, in plain words. -/
namespace Go.Proofs.YtmeenihnhfhbkaaDoor
open Go.RowKit Go.Joins

theorem least (p : Nat → Bool) : ∀ n, p n = true → ∃ d, d ≤ n ∧ p d = true ∧ ∀ e, e < d → p e = false
  | 0, h => ⟨0, Nat.le_refl _, h, fun e he => by omega⟩
  | n + 1, h => by
    by_cases h2 : ∃ k, k ≤ n ∧ p k = true
    · obtain ⟨k, hk, h3⟩ := h2
      have : ∀ j, j ≤ n → p j = true → ∃ d, d ≤ n ∧ p d = true ∧ ∀ e, e < d → p e = false := by
        intro j
        induction j using Nat.strongRecOn with
        | ind j ih =>
          intro hj hp
          by_cases h4 : ∃ e, e < j ∧ p e = true
          · obtain ⟨e, he, hpe⟩ := h4
            exact ih e he (by omega) hpe
          · exact ⟨j, hj, hp, fun e he => by
              cases hpe : p e with
              | false => rfl
              | true => exact absurd ⟨e, he, hpe⟩ h4⟩
      obtain ⟨d, h5, h6, h7⟩ := this k hk h3
      exact ⟨d, by omega, h6, h7⟩
    · exact ⟨n + 1, Nat.le_refl _, h, fun e he => by
        cases hpe : p e with
        | false => rfl
        | true => exact absurd ⟨e, by omega, hpe⟩ h2⟩
theorem dn_table : ∀ k, k < 5 → ∀ j, j < 5 → Dn k (fun x => (chb x j : Int)) 0 = if j = k then 1 else 0 := by decide +kernel
theorem Dn_const (k i : Nat) : Dn k (fun _ => (0 : Int)) i = 0 := by
  induction k generalizing i with
  | zero => rfl
  | succ m ih => show Dn m _ (i + 1) - Dn m _ i = 0; rw [ih, ih]; rfl
theorem Dn_nval0 (c : Nat → Int) (k : Nat) (hk : k < 5) : ∀ j, j ≤ 5 → Dn k (fun x => nval c x j) 0 = if k < j then c k else 0
  | 0, _ => by
    show Dn k (fun _ => (0 : Int)) 0 = _
    rw [Dn_const]; simp
  | j + 1, hj => by
    have e : (fun x => nval c x (j + 1)) = fun x => nval c x j + c j * (fun x => (chb x j : Int)) x := rfl
    rw [e, Dn_lin]
    show Dn k (fun x => nval c x j) 0 + c j * Dn k (fun x => (chb x j : Int)) 0 = _
    rw [Dn_nval0 c k hk j (by omega), dn_table k hk j (by omega)]
    by_cases h1 : k < j
    · rw [if_pos h1, if_neg (by omega), if_pos (by omega)]; simp
    · by_cases h2 : j = k
      · subst h2; rw [if_neg h1, if_pos rfl, if_pos (by omega)]; simp
      · rw [if_neg h1, if_neg h2, if_neg (by omega)]; simp
theorem Dn_later (f : Nat → Int) (d L : Nat) (h : ∀ i, i < L → Dn d f i = 0) : ∀ t i, i + t < L → Dn (d + t) f i = 0
  | 0, i, hi => h i hi
  | t + 1, i, hi => by
    show Dn (d + t) f (i + 1) - Dn (d + t) f i = 0
    rw [Dn_later f d L h t (i + 1) (by omega), Dn_later f d L h t i (by omega)]; rfl
theorem zer_get {n : Nat} {f : Nat → Int} (h : zer n f = true) (i : Nat) (hi : i < n) : f i = 0 := by
  unfold zer at h
  have := List.all_eq_true.1 h i (List.mem_range.2 hi)
  simpa using this

def sg : Nat → Int
  | 0 => 1
  | j + 1 => -(sg j)
def exv (f : Nat → Int) (d n : Nat) : Nat → Int
  | 0 => 0
  | j + 1 => exv f d n j + sg j * (binV d (j + 1) : Int) * f (n - (j + 1))
theorem exv_eq (f : Nat → Int) (d i : Nat) (h1 : 1 ≤ d) (h5 : d ≤ 5) (h : Dn d f i = 0) : exv f d (i + d) d = f (i + d) := by
  obtain rfl | rfl | rfl | rfl | rfl : d = 1 ∨ d = 2 ∨ d = 3 ∨ d = 4 ∨ d = 5 := by omega
  all_goals
    simp [Dn, D, Nat.add_assoc] at h
    simp [exv, sg, binV, bin]
    omega
theorem sg_bd : ∀ j, -1 ≤ sg j ∧ sg j ≤ 1
  | 0 => by simp [sg]
  | j + 1 => by have := sg_bd j; show _ ≤ -(sg j) ∧ -(sg j) ≤ 1; omega

def shp (c : Nat → Int) (j : Nat) : Nat → Int := fun k => if k < j then c k + c (k + 1) else c k
theorem shp_put (c : Nat → Int) (j : Nat) : put (shp c j) j (c j + c (j + 1)) = shp c (j + 1) := by
  funext k
  show (if k = j then c j + c (j + 1) else if k < j then c k + c (k + 1) else c k) = if k < j + 1 then c k + c (k + 1) else c k
  by_cases h : k = j
  · subst h; simp
  · by_cases h2 : k < j
    · simp [h, h2, show k < j + 1 by omega]
    · simp [h, h2, show ¬ k < j + 1 by omega]
theorem Small.shp {M m : Nat} {c : Nat → Int} (h : Small M m c) (j : Nat) (hj : j < m) : Small (2 * M) m (shp c j) := by
  intro k hk
  have h1 := h k hk
  show _ ≤ (if k < j then c k + c (k + 1) else c k) ∧ (if k < j then c k + c (k + 1) else c k) ≤ _
  split
  · have h2 := h (k + 1) (by omega)
    omega
  · omega
def shn (m : Nat) (c : Nat → Int) : Nat → Nat → Int
  | 0 => c
  | t + 1 => Go.Proofs.YtmeenihnhfhbkaaDoor.shp (shn m c t) (m - 1)
theorem shn_small {m : Nat} {c : Nat → Int} (h : Small 20 m c) (hm : 1 ≤ m) : ∀ t, Small (20 * 2 ^ t) m (shn m c t)
  | 0 => by simpa [shn] using h
  | t + 1 => by
    have := (shn_small h hm t).shp (m - 1) (by omega)
    rw [Nat.pow_succ, show 20 * (2 ^ t * 2) = 2 * (20 * 2 ^ t) by omega]
    exact this
theorem pascal1 : ∀ k, k < 4 → ∀ t, t < 14 → chb (t + 1) (k + 1) = chb t (k + 1) + chb t k := by decide +kernel
theorem sh_nval (c : Nat → Int) (m t : Nat) (h1 : 1 ≤ m) (hm : m ≤ 5) (ht : t < 14) : nval (shp c (m - 1)) t m = nval c (t + 1) m := by
  have p0 := pascal1 0 (by omega) t ht
  have p1 := pascal1 1 (by omega) t ht
  have p2 := pascal1 2 (by omega) t ht
  have p3 := pascal1 3 (by omega) t ht
  have z0 : chb t 0 = 1 := rfl
  have z1 : chb (t + 1) 0 = 1 := rfl
  simp only [Nat.zero_add] at p0 p1 p2 p3
  obtain rfl | rfl | rfl | rfl | rfl : m = 1 ∨ m = 2 ∨ m = 3 ∨ m = 4 ∨ m = 5 := by omega
  all_goals
    simp only [nval, shp, p0, p1, p2, p3, z0, z1, Nat.reduceAdd, Nat.reduceSub, Nat.reduceLT, Nat.zero_add, if_true, if_false, Int.natCast_add, Int.mul_add, Int.add_mul, Int.natCast_one, Int.mul_one, Int.zero_add, Nat.lt_irrefl]
    try omega
theorem nval_0 (c : Nat → Int) (m : Nat) (h1 : 1 ≤ m) (hm : m ≤ 5) : nval c 0 m = c 0 := by
  obtain rfl | rfl | rfl | rfl | rfl : m = 1 ∨ m = 2 ∨ m = 3 ∨ m = 4 ∨ m = 5 := by omega
  all_goals simp [nval, chb]
theorem shn_nval (c : Nat → Int) (m : Nat) (h1 : 1 ≤ m) (hm : m ≤ 5) : ∀ t s, t + s ≤ 14 → nval (shn m c t) s m = nval c (t + s) m
  | 0, s, _ => by rw [Nat.zero_add]; rfl
  | t + 1, s, h => by
    show nval (shp (shn m c t) (m - 1)) s m = _
    rw [sh_nval _ m s h1 hm (by omega), shn_nval c m h1 hm t (s + 1) (by omega), show t + (s + 1) = t + 1 + s by omega]
theorem shn_0 (c : Nat → Int) (m t : Nat) (h1 : 1 ≤ m) (hm : m ≤ 5) (ht : t ≤ 14) : shn m c t 0 = nval c t m := by
  rw [← nval_0 (shn m c t) m h1 hm, shn_nval c m h1 hm t 0 (by omega), Nat.add_zero]
end Go.Proofs.YtmeenihnhfhbkaaDoor
/- Differences, part 9: the program's Newton values, tables, comparison of rows. -/
namespace Go.Proofs.YtmeenihnhfhbkaaDoor
open Go.RowKit Go.Joins

theorem absolute_any (x : Int) (w : World) (h1 : -4611686018427387904 ≤ x) (h2 : x ≤ 4611686018427387904) :
    Calls Tryd.prog 49 #[.int .i64 x] w fun e w' => e = .returned (.int .i64 (x.natAbs : Int)) ∧ w = w' := by
  by_cases h : x < 0
  · have hw : IntKind.i64.wrap (-x) = -x := IntWalk.i64_in _ (by omega)
    go_enter Tryd.func49, Tryd.ntmps49
    go_wp2_with fail
    go_ret
    exact ⟨ret_int (by omega), rfl⟩
  · go_enter Tryd.func49, Tryd.ntmps49
    go_wp2_with fail
    go_ret
    exact ⟨ret_int (by omega), rfl⟩
/-- the binomial coefficient one place before -/
def chq (x j : Nat) : Nat := chb x (j - 1)
theorem chb_1 (x : Nat) (i : Nat) : chb x (i + 1) = chb x i * (x - i) / (i + 1) := by
  show (if i < x then chb x i * (x - i) / (i + 1) else 0) = _
  split
  · rfl
  · rw [show x - i = 0 by omega, Nat.mul_zero, Nat.zero_div]
theorem chb_0 (x : Nat) : ∀ i, x < i → chb x i = 0
  | 0, h => by omega
  | i + 1, h => by rw [chb_1, show x - i = 0 by omega, Nat.mul_zero, Nat.zero_div]
/-- what the program reckons: the next coefficient -/
theorem chq_step (x i : Nat) : (chb x i : Int) * ((x : Int) - ((i + 1 : Nat) : Int) + 1) = ((chb x i * (x - i) : Nat) : Int) := by
  by_cases h : i ≤ x
  · rw [Int.natCast_mul]
    congr 1; omega
  · rw [chb_0 x i (by omega)]; simp

end Go.Proofs.YtmeenihnhfhbkaaDoor
/- Trains, part 2: divisors and lowest terms in the program and in the reference. -/
namespace Go.Proofs.YtmeenihnhfhbkaaDoor
open Go.RowKit Go.Joins

theorem gcd_step (a b : Nat) : Nat.gcd b (a % b) = Nat.gcd a b := by rw [Nat.gcd_comm, ← Nat.gcd_rec, Nat.gcd_comm]
set_option maxRecDepth 100000 in
set_option maxHeartbeats 1600000 in
theorem divisor_any (a b : Nat) (w : World) (ha : a ≤ 4611686018427387904) (hb : b ≤ 4611686018427387904) :
    Calls Tryd.prog 68 #[.int .i64 (a : Int), .int .i64 (b : Int)] w fun e w' => e = .returned (.int .i64 (Nat.gcd a b : Int)) ∧ ∃ k, w' = w.drewN k := by
  go_enter Tryd.func68, Tryd.ntmps68
  go_wp2_with fail
  go_loopw [0, 1] (fun x y wr => ∃ p q k : Nat, p ≤ 4611686018427387904 ∧ q ≤ 4611686018427387904 ∧ Nat.gcd p q = Nat.gcd a b ∧ x = .int .i64 (p : Int) ∧ y = .int .i64 (q : Int) ∧ wr = w.drewN k) (fun _ y _ => (intOf y).toNat)
  case atStart => exact ⟨a, b, 0, ha, hb, rfl, rfl, rfl, rfl⟩
  case round =>
    obtain ⟨p, q, k, hp, hq, hg, rfl, rfl, rfl⟩ := hrel
    have Hg := Lib.hid hg
    clear hg
    by_cases h0 : q = 0
    · subst h0
      have hpg : p = Nat.gcd a b := by have := Hg.out; rwa [Nat.gcd_zero_right] at this
      have Hpg := Lib.hid hpg
      clear hpg
      go_wp2_with fail
      go_ret
      exact ⟨ret_int (by rw [Hpg.out]), k, rfl⟩
    · have h1 : ((q : Int) == 0) = false := by simp; omega
      have h2 : (q : Int) ≠ 0 := by omega
      have h3 : ((q : Int) != 0) = true := by simp; omega
      have hlt := Nat.mod_lt p (show 0 < q by omega)
      have Hn := Lib.hid (gcd_step p q)
      have e1 : Int.tmod (p : Int) (q : Int) = ((p % q : Nat) : Int) := by rw [Int.tmod_eq_emod_of_nonneg (by omega)]; exact (Int.natCast_emod _ _).symm
      have e2 : (p : Int) % (q : Int) = ((p % q : Nat) : Int) := (Int.natCast_emod _ _).symm
      generalize p % q = r at *
      have Hlt := Lib.hid hlt
      clear h0
      go_wp2_with fail
      go_quiet (fail)
      clear e1 e2
      go_wp2_with fail
      go_roundw
      case rel => exact ⟨q, r, k + nq, hq, by omega, by rw [Hn.out]; exact Hg.out, rfl, rfl, by first | rfl | exact World.drewN_drewN _ _ _⟩
      case measure =>
        have := Hlt.out
        first | (simp [intOf]; done) | (simp [intOf]; omega)
set_option maxRecDepth 100000 in
set_option maxHeartbeats 1600000 in
theorem l04Gcd_any (a b : Nat) (w : World) (ha : a ≤ 4611686018427387904) (hb : b ≤ 4611686018427387904) :
    Calls Tryd.prog 93 #[.int .i64 (a : Int), .int .i64 (b : Int)] w fun e w' => e = .returned (.int .i64 (Nat.gcd a b : Int)) ∧ w = w' := by
  go_enter Tryd.func93, Tryd.ntmps93
  go_wp2_with fail
  go_loop [0, 1] (fun x y => ∃ p q : Nat, p ≤ 4611686018427387904 ∧ q ≤ 4611686018427387904 ∧ Nat.gcd p q = Nat.gcd a b ∧ x = .int .i64 (p : Int) ∧ y = .int .i64 (q : Int)) (fun _ y => (intOf y).toNat)
  case atStart => exact ⟨a, b, ha, hb, rfl, rfl, rfl⟩
  case round =>
    obtain ⟨p, q, hp, hq, hg, rfl, rfl⟩ := hrel
    have Hg := Lib.hid hg
    clear hg
    by_cases h0 : q = 0
    · subst h0
      have hpg : p = Nat.gcd a b := by have := Hg.out; rwa [Nat.gcd_zero_right] at this
      have Hpg := Lib.hid hpg
      clear hpg
      go_wp2_with fail
      go_ret
      exact ⟨ret_int (by rw [Hpg.out]), rfl⟩
    · have h1 : ((q : Int) == 0) = false := by simp; omega
      have h2 : (q : Int) ≠ 0 := by omega
      have h3 : ((q : Int) != 0) = true := by simp; omega
      have hlt := Nat.mod_lt p (show 0 < q by omega)
      have Hn := Lib.hid (gcd_step p q)
      have e1 : Int.tmod (p : Int) (q : Int) = ((p % q : Nat) : Int) := by rw [Int.tmod_eq_emod_of_nonneg (by omega)]; exact (Int.natCast_emod _ _).symm
      have e2 : (p : Int) % (q : Int) = ((p % q : Nat) : Int) := (Int.natCast_emod _ _).symm
      generalize p % q = r at *
      have Hlt := Lib.hid hlt
      clear h0
      go_wp2_with fail
      go_round
      case rel => exact ⟨q, r, hq, by omega, by rw [Hn.out]; exact Hg.out, rfl, rfl⟩
      case measure =>
        have := Hlt.out
        first | (simp [intOf]; done) | (simp [intOf]; omega)
/-- a fraction is handed back -/
def RetQ (N : Int) (D : Nat) (w : World) (e : Ending) (w' : World) : Prop := e = .returned (.agg #[.int .i64 N, .int .i64 (D : Int)]) ∧ Below w.heap.size w w'
set_option maxRecDepth 100000 in
set_option maxHeartbeats 1600000 in
theorem lowest_any (N : Int) (D : Nat) (w : World) (hN : -4611686018427387904 ≤ N ∧ N ≤ 4611686018427387904) (hD : D ≤ 4611686018427387904) (h0 : 0 < D) :
    Calls Tryd.prog 59 #[.int .i64 N, .int .i64 (D : Int)] w (RetQ (lowN N D) (lowD N D) w) := by
  have hg := low_g (N := N) h0
  have hgd : Nat.gcd N.natAbs D ≤ D := Nat.le_of_dvd h0 (Nat.gcd_dvd_right _ _)
  have hbd := low_bd N D
  have hle := low_le (N := N) h0
  have e1 : Int.tdiv N (Nat.gcd N.natAbs D : Int) = lowN N D := rfl
  have e2 : Int.tdiv (D : Int) (Nat.gcd N.natAbs D : Int) = (lowD N D : Int) := by rw [Int.tdiv_eq_ediv_of_nonneg (by omega)]; exact (Int.natCast_ediv _ _).symm
  have e3 : (D : Int) / (Nat.gcd N.natAbs D : Int) = (lowD N D : Int) := (Int.natCast_ediv _ _).symm
  have HA := Lib.hid (fun wx => absolute_any N wx hN.1 hN.2)
  have HG := Lib.hid (fun wx => divisor_any N.natAbs D wx (by omega) hD)
  generalize Nat.gcd N.natAbs D = g at *
  generalize lowN N D = x at *
  generalize lowD N D = y at *
  have hx1 : -4611686018427387904 ≤ x := by omega
  have hx2 : x ≤ 4611686018427387904 := by omega
  have hy2 : (y : Int) ≤ 4611686018427387904 := by omega
  have hg0 : (g : Int) ≠ 0 := by omega
  have hg1 : (0 : Int) < (g : Int) := by omega
  have hgn : g ≠ 0 := by omega
  have hwx : IntKind.i64.wrap x = x := IntWalk.i64_in _ (by omega)
  have hwy : IntKind.i64.wrap (y : Int) = (y : Int) := IntWalk.i64_in _ (by omega)
  obtain ⟨p0, p1, p2, p3⟩ := blk2 (heap_alloc_new w (.cells #[.int .i64 0, .int .i64 0] 25))
  have Hq := Lib.hid (fun n => res2_post (w := w) (x := .int .i64 0) (y := .int .i64 0) (t := 25) (below_drewN (Below.refl _ _) n) (.int .i64 x) (.int .i64 (y : Int)))
  clear hbd hle
  go_enter Tryd.func59, Tryd.ntmps59
  go_wp2_with fail
  refine (HA.out _).mono ?_; rintro e w1 ⟨rfl, rfl⟩
  go_wp2_with fail
  refine (HG.out _).mono ?_; rintro e w2 ⟨rfl, k, rfl⟩
  go_wp2_with fail
  generalize hw1 : w.alloc (.cells #[.int .i64 0, .int .i64 0] 25) = w1 at *
  clear hw1
  go_region_law (fail)
  all_goals
    (try go_wp2_with fail)
    obtain ⟨q0, q1, hbe⟩ := Hq.out (k + 1)
    exact bodyPost_ret (v := .agg #[.int .i64 x, .int .i64 (y : Int)]) (by simp [results, Tryd.results59, go_sem, q0, q1]) rfl ⟨rfl, hbe⟩
end Go.Proofs.YtmeenihnhfhbkaaDoor
/- Rounding, part 1: rounded values and patterns of errors, in plain words. -/
namespace Go.Proofs.YtmeenihnhfhbkaaDoor

/-- how many units a value has, rounded -/
def ru (v u : Int) : Int := (2 * v + u) / (2 * u)
theorem ru_bd {v u : Int} (hu : 0 < u) : 2 * (ru v u * u) ≤ 2 * v + u ∧ 2 * v - u < 2 * (ru v u * u) := by
  have h1 := Int.mul_ediv_add_emod (2 * v + u) (2 * u)
  have h2 := Int.emod_nonneg (2 * v + u) (show 2 * u ≠ 0 by omega)
  have h3 := Int.emod_lt_of_pos (2 * v + u) (show 0 < 2 * u by omega)
  have e : 2 * u * ((2 * v + u) / (2 * u)) = 2 * (ru v u * u) := by
    unfold ru
    rw [Int.mul_assoc, Int.mul_comm u]
  rw [e] at h1
  omega
theorem ru_le {v u M : Int} (hu : 1 ≤ u) (hM : 0 ≤ M) (hv : v ≤ M) : ru v u ≤ M := by
  refine Int.le_of_lt_add_one (Int.ediv_lt_of_lt_mul (by omega) ?_)
  have h1 : M ≤ M * u := by
    have := Int.mul_le_mul_of_nonneg_left hu hM
    rwa [Int.mul_one] at this
  have e : (M + 1) * (2 * u) = 2 * (M * u) + 2 * u := by rw [Int.add_mul, ← Int.mul_assoc, Int.mul_comm M 2, Int.mul_assoc, Int.one_mul]
  rw [e]; omega
theorem ru_ge {v u M : Int} (hu : 1 ≤ u) (hM : 0 ≤ M) (hv : -M ≤ v) : -M ≤ ru v u := by
  refine Int.le_ediv_of_mul_le (by omega) ?_
  have h1 : M ≤ M * u := by
    have := Int.mul_le_mul_of_nonneg_left hu hM
    rwa [Int.mul_one] at this
  have e : -M * (2 * u) = -(2 * (M * u)) := by rw [Int.neg_mul, ← Int.mul_assoc, Int.mul_comm M 2, Int.mul_assoc]
  rw [e]; omega
/-- Go's quotient and remainder, turned to a quotient that is rounded down -/
theorem fl_div {a b : Int} (hb : 0 < b) : (if a.tmod b < 0 then a.tdiv b - 1 else a.tdiv b) = a / b := by
  have h1 := Int.tmod_add_mul_tdiv a b
  have h2 : -b < a.tmod b := by
    have h4 := Int.natAbs_tmod a b
    have h5 := Nat.mod_lt a.natAbs (show 0 < b.natAbs by omega)
    omega
  have h3 : a.tmod b < b := Int.tmod_lt_of_pos a hb
  split
  · rename_i h
    exact ((Int.ediv_emod_unique (q := a.tdiv b - 1) (r := a.tmod b + b) hb).2 ⟨by rw [Int.mul_sub, Int.mul_one]; omega, by omega, by omega⟩).1.symm
  · exact ((Int.ediv_emod_unique (q := a.tdiv b) (r := a.tmod b) hb).2 ⟨by omega, by omega, by omega⟩).1.symm
/-- errors that make the error of a difference greatest, for the error 1 -/
def wp (n : Nat) (k : Nat) : Int := if (n - k) % 2 = 1 then -1 else 1
theorem wp_top : ∀ n, n < 9 → Dn n (wp n) 0 = ((2 ^ n : Nat) : Int) := by decide +kernel
theorem Dn_mul (f : Nat → Int) (s : Int) : ∀ m, Dn m (fun x => s * f x) = fun i => s * Dn m f i
  | 0 => rfl
  | m + 1 => by
    show D (Dn m (fun x => s * f x)) = _
    rw [Dn_mul f s m]
    funext i
    show s * Dn m f (i + 1) - s * Dn m f i = s * (Dn m f (i + 1) - Dn m f i)
    rw [Int.mul_sub]
end Go.Proofs.YtmeenihnhfhbkaaDoor
/- Errors of tables, part 1: small tests, and values rounded to units. -/
namespace Go.Proofs.YtmeenihnhfhbkaaDoor
open Go.RowKit Go.Joins

theorem isValue_c (x : Int) (w : World) : Calls Tryd.prog 58 #[.int .i64 x] w fun e w' => e = .returned (.bool (inB x (-1000000000000) 1000000000000)) ∧ w = w' := by
  have HB := Lib.hid (fun wx => between_any x (-1000000000000) 1000000000000 wx)
  go_enter Tryd.func58, Tryd.ntmps58
  go_wp2_with fail
  refine (HB.out _).mono ?_; rintro e w1 ⟨rfl, rfl⟩
  go_wp2_with fail
  go_ret
  exact ⟨rfl, rfl⟩
theorem l17Most_c (x : Int) (w : World) : Calls Tryd.prog 60 #[.int .i64 x] w fun e w' => e = .returned (.bool (inB x (-1000000000000) 1000000000000)) ∧ w = w' := by
  have HB := Lib.hid (fun wx => l00In_any x (-1000000000000) 1000000000000 wx)
  go_enter Tryd.func60, Tryd.ntmps60
  go_wp2_with fail
  refine (HB.out _).mono ?_; rintro e w1 ⟨rfl, rfl⟩
  go_wp2_with fail
  go_ret
  exact ⟨rfl, rfl⟩
theorem l00Max_c (a b : Int) (w : World) : Calls Tryd.prog 94 #[.int .i64 a, .int .i64 b] w fun e w' => e = .returned (.int .i64 (max a b)) ∧ w = w' := by
  by_cases h : b < a
  · have e : max a b = a := by omega
    rw [e]
    go_enter Tryd.func94, Tryd.ntmps94
    go_wp2_with fail
    go_ret
    exact ⟨rfl, rfl⟩
  · have e : max a b = b := by omega
    rw [e]
    go_enter Tryd.func94, Tryd.ntmps94
    go_wp2_with fail
    go_ret
    exact ⟨rfl, rfl⟩
theorem l00Min_c (a b : Int) (w : World) : Calls Tryd.prog 63 #[.int .i64 a, .int .i64 b] w fun e w' => e = .returned (.int .i64 (min a b)) ∧ w = w' := by
  by_cases h : a < b
  · have e : min a b = a := by omega
    rw [e]
    go_enter Tryd.func63, Tryd.ntmps63
    go_wp2_with fail
    go_ret
    exact ⟨rfl, rfl⟩
  · have e : min a b = b := by omega
    rw [e]
    go_enter Tryd.func63, Tryd.ntmps63
    go_wp2_with fail
    go_ret
    exact ⟨rfl, rfl⟩
theorem l03Size_c (x : Int) (w : World) (h1 : -4611686018427387904 ≤ x) (h2 : x ≤ 4611686018427387904) : Calls Tryd.prog 52 #[.int .i64 x] w fun e w' => e = .returned (.int .i64 (x.natAbs : Int)) ∧ w = w' := by
  have HM := Lib.hid (fun wx => l00Max_c x (-x) wx)
  have e : max x (-x) = (x.natAbs : Int) := by omega
  rw [e] at HM
  clear e
  go_enter Tryd.func52, Tryd.ntmps52
  go_wp2_with fail
  refine (HM.out _).mono ?_; rintro e w1 ⟨rfl, rfl⟩
  go_wp2_with fail
  go_ret
  exact ⟨rfl, rfl⟩

theorem td_bd {a b : Int} (_hb : 1 ≤ b) (h : -4611686018427387904 ≤ a ∧ a ≤ 4611686018427387904) : -4611686018427387904 ≤ a.tdiv b ∧ a.tdiv b ≤ 4611686018427387904 := by
  have h1 : (a.tdiv b).natAbs ≤ a.natAbs := by rw [Int.natAbs_tdiv]; exact Nat.div_le_self _ _
  omega
def okU (v u : Int) : Bool := inB v (-1000000000000) 1000000000000 && inB u 1 1000000
def rV (v u : Int) : Int := if okU v u then (if 1000000000000 < ru v u * u then 0 else ru v u * u) else 0
def rE (v u : Int) : Int := if okU v u then (if 1000000000000 < ru v u * u then 5 else 0) else 2
theorem inB_iff {n a b : Int} : inB n a b = true ↔ a ≤ n ∧ n ≤ b := by simp [inB]
theorem inB_not {n a b : Int} : inB n a b = false ↔ ¬ (a ≤ n ∧ n ≤ b) := by rw [← inB_iff]; simp
end Go.Proofs.YtmeenihnhfhbkaaDoor
