/- Merged texts: Lib, Base, Strs, Args, ArgRows, En1, En2, En3, Nm1, Nm2, Nm3, En6. -/
import Derived.WalkKit
import Derived.WalkSpells
import Derived.WalkLawsBesides
import Derived.Deep.QuietTactic
import Derived.BigQuiet
import Derived.StillTailTactics
import Derived.Laws.IdiomStrings
import Derived.Deep.RegionHeld3
import Derived.Deep.AppendLies
import Derived.Deep.DrawnRows
import Derived.Lib.Hide
import Derived.IntWalk
import Derived.KernelRfl
import Derived.Test.YtbfhlkpicehnlaaDoorRows
import Derived.Lib.SmallJoins
import Derived.ProofKit
import Derived.OpenShut
import Derived.Deep.Slices
import Derived.SliceStrings
/- Laws of my own for walks: append of new elements to a row of the call's own; conversions of owned rows of bytes to strings. No program is named here but for the numbers of types. -/
namespace Go.Proofs.YtbfhlkpicehnlaaDoor
open Go.RowKit

theorem ret_int {k : IntKind} {a b : Int} (h : a = b) : Ending.returned (.int k a) = .returned (.int k b) := by rw [h]

section
variable {P : Program}

/-- the cells of a block that has just been made -/
theorem new_cells (w : World) (cs : Array Value) (e : TypeId) : ∀ j u, cs.toList[j]? = some u → (w.alloc (.cells cs e)).cell? ((⟨w.heap.size, 0, none⟩ : Addr).add j) = some u := by
  intro j u hu
  have hadd : (⟨w.heap.size, 0, none⟩ : Addr).add j = ⟨w.heap.size, j, none⟩ := by unfold Addr.add; split <;> simp_all
  rw [hadd, cell_of_row (w.alloc (.cells cs e)) w.heap.size j cs e (0, 0) (heap_alloc_new w _)]
  simpa using hu

theorem wpList_apd {w : World} {ops : Array Oper} {rest : List Oper} {o : Oper} {a : Act} {Q : Exit → Act → World → Prop} (t e : TypeId) (z : Value) (size bytes : Nat)
    (ht : P.underlying t = some (.slice e)) (hinfo : (P.info? e).map (fun i => (i.zero, i.size, i.bytes)) = some (some z, size, bytes)) (hzs : z.cells.size = size) (hsz : 0 < size)
    (s x : Operand) (hgd : o.guard = none) (ho : o.op = .call { callee := .builtin .append, args := #[s, x], argTypes := #[t, t] })
    (base : Nat) (v : Value) (n : Nat) (xs : List Value) (hs : a.eval s = v) (hown : w.ownsRow base e size v n xs)
    (cs : Array Value) (m c : Nat) (hx : a.eval x = .slice (some ⟨w.heap.size, 0, none⟩) m c) (hl : cs.toList.length = m * size) (h1 : ∀ u ∈ cs.toList, u.oneCell' = true)
    (h63 : n + m ≤ maxLen) (hbytes : (n + m) * bytes ≤ 140737488355328) (hbase : base ≤ w.heap.size)
    (h : ∀ v' w', w'.ownsRow base e size v' (n + m) (xs ++ cs.toList) → w.grownBy w' v.ownBlock → wpList P ops Q rest (a.put o.dst v') w') :
    wpList P ops Q (o :: rest) a (w.alloc (.cells cs e)) := by
  obtain ⟨i, hi, hz, h2, h3⟩ := info_parts hinfo
  refine wpList_append_own _ hgd s x t ho base e i z size bytes ht hi hz h2 h3 hzs hsz v n xs hs (hown.alloc _) ⟨w.heap.size, 0, none⟩ m c cs.toList hx hl (new_cells w cs e) h1 h63 hbytes (by simp; omega) ?_
  intro v' w' ho' hg' _
  refine h v' w' ho' ⟨hg'.os, hg'.tape, hg'.output, Nat.le_trans (by simp) hg'.size, fun k hk hne => ?_⟩
  rw [hg'.block k (by simp; omega) hne]
  exact Below.heap_alloc w _ k hk

theorem wp_apd {w : World} {o : Oper} {a : Act} {K : Act → World → Prop} {Q : Exit → Act → World → Prop} (t e : TypeId) (z : Value) (size bytes : Nat)
    (ht : P.underlying t = some (.slice e)) (hinfo : (P.info? e).map (fun i => (i.zero, i.size, i.bytes)) = some (some z, size, bytes)) (hzs : z.cells.size = size) (hsz : 0 < size)
    (s x : Operand) (ho : o.op = .call { callee := .builtin .append, args := #[s, x], argTypes := #[t, t] })
    (base : Nat) (v : Value) (n : Nat) (xs : List Value) (hs : a.eval s = v) (hown : w.ownsRow base e size v n xs)
    (cs : Array Value) (m c : Nat) (hx : a.eval x = .slice (some ⟨w.heap.size, 0, none⟩) m c) (hl : cs.toList.length = m * size) (h1 : ∀ u ∈ cs.toList, u.oneCell' = true)
    (h63 : n + m ≤ maxLen) (hbytes : (n + m) * bytes ≤ 140737488355328) (hbase : base ≤ w.heap.size)
    (h : ∀ v' w', w'.ownsRow base e size v' (n + m) (xs ++ cs.toList) → w.grownBy w' v.ownBlock → K (a.put o.dst v') w') :
    o.wp P a (w.alloc (.cells cs e)) K Q := by
  obtain ⟨i, hi, hz, h2, h3⟩ := info_parts hinfo
  refine wp_append_own _ s x t ho base e i z size bytes ht hi hz h2 h3 hzs hsz v n xs hs (hown.alloc _) ⟨w.heap.size, 0, none⟩ m c cs.toList hx hl (new_cells w cs e) h1 h63 hbytes (by simp; omega) ?_
  intro v' w' ho' hg' _
  refine h v' w' ho' ⟨hg'.os, hg'.tape, hg'.output, Nat.le_trans (by simp) hg'.size, fun k hk hne => ?_⟩
  rw [hg'.block k (by simp; omega) hne]
  exact Below.heap_alloc w _ k hk

/-- the same at a step of a region that draws its order -/
theorem step_apd {w : World} {ops : Array Oper} {o : Oper} {a : Act} {K : Act → World → Prop} {Q : Exit → Act → World → Prop} {E : Prop} (t e : TypeId) (z : Value) (size bytes : Nat)
    (ht : P.underlying t = some (.slice e)) (hinfo : (P.info? e).map (fun i => (i.zero, i.size, i.bytes)) = some (some z, size, bytes)) (hzs : z.cells.size = size) (hsz : 0 < size)
    (s x : Operand) (hgd : o.guard = none) (ho : o.op = .call { callee := .builtin .append, args := #[s, x], argTypes := #[t, t] })
    (base : Nat) (v : Value) (n : Nat) (xs : List Value) (hs : a.eval s = v) (hown : w.ownsRow base e size v n xs)
    (cs : Array Value) (m c : Nat) (hx : a.eval x = .slice (some ⟨w.heap.size, 0, none⟩) m c) (hl : cs.toList.length = m * size) (h1 : ∀ u ∈ cs.toList, u.oneCell' = true)
    (h63 : n + m ≤ maxLen) (hbytes : (n + m) * bytes ≤ 140737488355328) (hbase : base ≤ w.heap.size)
    (h : ∀ v' w', w'.ownsRow base e size v' (n + m) (xs ++ cs.toList) → w.grownBy w' v.ownBlock → K (a.put o.dst v') w') :
    if Region.wanted o (yielded ops a.tmps) = true then Oper.wp P o a (w.alloc (.cells cs e)).drew K Q else E := by
  have hw : Region.wanted o (yielded ops a.tmps) = true := by simp [Region.wanted, hgd]
  rw [if_pos hw]
  refine wp_apd (w := w.drew) t e z size bytes ht hinfo hzs hsz s x ho base v n xs hs hown.drew cs m c hx hl h1 h63 hbytes hbase ?_
  intro v' w' h2 h3
  exact h v' w' h2 ⟨h3.os, h3.tape, h3.output, h3.size, h3.block⟩

/-- what an append to a row of the call's own does to what lay below -/
theorem below_apd {w w' : World} {B base : Nat} {W : World} {e : TypeId} {size n : Nat} {v : Value} {xs : List Value} (h : Below B W w) (hown : w.ownsRow base e size v n xs) (hg : w.grownBy w' v.ownBlock)
    (hB : B ≤ base) (hs : B ≤ w.heap.size) : Below B W w' :=
  h.grown hg hs (fun k hk => Nat.le_trans hB (hown.lt k hk).1)

theorem below_drewN {B : Nat} {a w : World} (h : Below B a w) (n : Nat) : Below B a (w.drewN n) := ⟨h.os, h.tape, h.output, h.size, h.block⟩
theorem below_undrew {B : Nat} {a w : World} (h : Below B a.drew w) : Below B a w := ⟨h.os, h.tape, h.output, h.size, h.block⟩
theorem below_undrewN {B n : Nat} {a w : World} (h : Below B (a.drewN n) w) : Below B a w := ⟨h.os, h.tape, h.output, h.size, h.block⟩
theorem grown_undrew {r : Option Nat} {a w : World} (h : a.drew.grownBy w r) : a.grownBy w r := ⟨h.os, h.tape, h.output, h.size, h.block⟩
theorem grown_of_below {a w : World} (h : Below a.heap.size a w) (r : Option Nat) : a.grownBy w r := ⟨h.os, h.tape, h.output, h.size, fun i hi _ => h.block i hi⟩
theorem grown_trans {a b c : World} {r : Option Nat} (h : a.grownBy b r) (k : b.grownBy c r) : a.grownBy c r :=
  ⟨k.os.trans h.os, k.tape.trans h.tape, k.output.trans h.output, Nat.le_trans h.size k.size, fun i hi hne => (k.block i (Nat.lt_of_lt_of_le hi h.size) hne).trans (h.block i hi hne)⟩
theorem own_below {w w' : World} {base : Nat} {e : TypeId} {size : Nat} {v : Value} {n : Nat} {xs : List Value} (h : w.ownsRow base e size v n xs) (hb : Below w.heap.size w w') : w'.ownsRow base e size v n xs :=
  h.kept (grown_of_below hb none) (by cases hv : v.ownBlock <;> simp)
theorem _root_.Go.World.ownsRow.drewN {w : World} {base : Nat} {e : TypeId} {size : Nat} {v : Value} {n : Nat} {xs : List Value} (h : w.ownsRow base e size v n xs) (k : Nat) : (w.drewN k).ownsRow base e size v n xs := h

theorem blk2 {w : World} {g : Nat} {a b : Value} {t : TypeId} (h : w.heap[g]? = some (.cells #[a, b] t (0, 0))) :
    w.cell? ⟨g, 0, none⟩ = some a ∧ w.cell? ⟨g, 1, none⟩ = some b ∧ w.frozen? ⟨g, 0, none⟩ = false ∧ w.frozen? ⟨g, 1, none⟩ = false :=
  ⟨by rw [cell_of_row w g 0 _ _ _ h]; rfl, by rw [cell_of_row w g 1 _ _ _ h]; rfl, frozen_of_row w g 0 _ _ h, frozen_of_row w g 1 _ _ h⟩
theorem grown_setCell {a w : World} {r : Option Nat} (h : a.grownBy w r) {p : Addr} (hp : some p.block = r ∨ a.heap.size ≤ p.block) (u : Value) : a.grownBy (w.setCell p u) r :=
  ⟨h.os, h.tape, h.output, by simpa [World.setCell] using h.size, fun i hi hne => (Below.heap_setCell w p u i (by
    rintro rfl
    rcases hp with hp | hp
    · exact hne hp
    · omega)).trans (h.block i hi hne)⟩
theorem grown_alloc {a w : World} {r : Option Nat} (h : a.grownBy w r) (o : Obj) : a.grownBy (w.alloc o) r :=
  ⟨h.os, h.tape, h.output, Nat.le_trans h.size (by simp), fun i hi hne => (Below.heap_alloc w o i (Nat.lt_of_lt_of_le hi h.size)).trans (h.block i hi hne)⟩
theorem grown_below {a b c : World} {r : Option Nat} (h : a.grownBy b r) (k : Below b.heap.size b c) : a.grownBy c r := grown_trans h (grown_of_below k r)
/-- a block that was made on the way: seen from before, it is new -/
theorem grown_from_alloc {a w : World} {o : Obj} {r : Option Nat} (h : (a.alloc o).grownBy w r) : a.grownBy w r :=
  ⟨h.os, h.tape, h.output, Nat.le_trans (by simp) h.size, fun i hi hne => (h.block i (by simp; omega) hne).trans (Below.heap_alloc a o i hi)⟩
theorem below_of_grown {a w : World} {r : Option Nat} {B : Nat} (h : a.grownBy w r) (hB : B ≤ a.heap.size) (hr : ∀ x, r = some x → B ≤ x) : Below B a w :=
  ⟨h.os, h.tape, h.output, h.size, fun i hi => h.block i (by omega) (fun e => by have := hr i e.symm; omega)⟩

/-- THE READING OF A SLICE: the value is a slice of n elements, whose cells (sz an element) lie below block B and hold cs. -/
def Rd (w : World) (B : Nat) (v : Value) (n sz : Nat) (cs : List Value) : Prop :=
  cs.length = n * sz ∧ ∃ A c, v = .slice A n c ∧ (0 < n * sz → ∃ b off, A = some ⟨b, off, none⟩ ∧ b < B ∧ ∀ i u, cs[i]? = some u → w.cell? ⟨b, off + i, none⟩ = some u)

theorem Rd.of_own {w : World} {base : Nat} {e : TypeId} {sz n : Nat} {v : Value} {cs : List Value} (h : w.ownsRow base e sz v n cs) : Rd w w.heap.size v n sz cs := by
  refine ⟨h.1, ?_⟩
  rcases h.2 with ⟨rfl, rfl⟩ | ⟨g, cap, cur, rfl, _, hg, _⟩
  · exact ⟨none, 0, rfl, fun h => by simp at h⟩
  · refine ⟨_, _, rfl, fun _ => ⟨g, 0, rfl, (Array.getElem?_eq_some_iff.1 hg).1, fun i u hu => ?_⟩⟩
    have := h.cells (g := g) rfl i u hu
    rw [show (⟨g, 0, none⟩ : Addr).add i = ⟨g, 0 + i, none⟩ by unfold Addr.add; split <;> simp_all] at this
    exact this
theorem Rd.keep {w w' : World} {B : Nat} {v : Value} {n sz : Nat} {cs : List Value} (h : Rd w B v n sz cs) (hk : ∀ p : Addr, p.block < B → w'.cell? p = w.cell? p) : Rd w' B v n sz cs := by
  obtain ⟨h1, A, c, hv, h2⟩ := h
  refine ⟨h1, A, c, hv, fun hn => ?_⟩
  obtain ⟨b, off, hA, hb, hc⟩ := h2 hn
  exact ⟨b, off, hA, hb, fun i u hu => (hk _ hb).trans (hc i u hu)⟩
theorem Rd.below {w w' : World} {B : Nat} {v : Value} {n sz : Nat} {cs : List Value} (h : Rd w B v n sz cs) (hb : Below B w w') : Rd w' B v n sz cs := h.keep fun _ hp => hb.cell hp
theorem Rd.more {w : World} {B B' : Nat} {v : Value} {n sz : Nat} {cs : List Value} (h : Rd w B v n sz cs) (hB : B ≤ B') : Rd w B' v n sz cs := by
  obtain ⟨h1, A, c, hv, h2⟩ := h
  refine ⟨h1, A, c, hv, fun hn => ?_⟩
  obtain ⟨b, off, hA, hb, hc⟩ := h2 hn
  exact ⟨b, off, hA, Nat.lt_of_lt_of_le hb hB, hc⟩
theorem Rd.drewN {w : World} {B : Nat} {v : Value} {n sz : Nat} {cs : List Value} (h : Rd w B v n sz cs) (k : Nat) : Rd (w.drewN k) B v n sz cs := h

theorem ba_app (a b : Array UInt8) : ((⟨a⟩ : ByteArray) ++ ⟨b⟩) = ⟨a ++ b⟩ := ByteArray.ext (by simp)
theorem ba_inj {a b : ByteArray} (h : a.toList = b.toList) : a = b := by
  rw [ByteArray.toList_eq, ByteArray.toList_eq] at h
  exact ByteArray.ext (by rw [← Array.toArray_toList (xs := a.data), h, Array.toArray_toList])

/-- a byte as a cell -/
def byV (c : UInt8) : Value := .int .u8 (c.toNat : Int)

theorem run_conv_own {w : World} (src dst e : TypeId) (hsrc : P.underlying src = some (.slice e)) (he : P.underlying e = some (.int .u8)) (hd : P.underlying dst = some .string)
    (base : Nat) (v : Value) (n : Nat) (l : List UInt8) (hown : w.ownsRow base e 1 v n (l.map byV)) : (convert src dst v).run P w = .ok (.string ⟨l.toArray⟩) w := by
  have hlen : l.length = n := by simpa using hown.1
  rcases hown.2 with ⟨rfl, h0⟩ | ⟨g, cap, cur, rfl, _, hg, _⟩
  · obtain rfl : l = [] := List.eq_nil_of_length_eq_zero (by omega)
    rw [run_convert_bytes_string w src dst e _ _ _ hsrc he hd]
    simp [Conv.bytesToString]; rfl
  · subst hlen
    refine run_convert_bytes_back w src dst e _ cap l hsrc he hd (fun j hj => ?_)
    have := hown.cells (g := g) rfl j (byV l[j]) (by simp [hj])
    exact this
theorem run_conv_one {w : World} (src dst e : TypeId) (hsrc : P.underlying src = some (.slice e)) (he : P.underlying e = some (.int .u8)) (hd : P.underlying dst = some .string) (c : UInt8) :
    (convert src dst (.slice (some ⟨w.heap.size, 0, none⟩) 1 1)).run P (w.alloc (.cells #[.int .u8 (c.toNat : Int)] e)) = .ok (.string ⟨#[c]⟩) (w.alloc (.cells #[.int .u8 (c.toNat : Int)] e)) :=
  run_convert_bytes_back _ src dst e _ 1 [c] hsrc he hd (fun j hj => by
    have : j = 0 := by simpa using hj
    subst this
    exact new_cells w #[.int .u8 (c.toNat : Int)] e 0 _ rfl)
end
end Go.Proofs.YtbfhlkpicehnlaaDoor
/- Contracts for the small helpers (l00In, between). -/
namespace Go.Proofs.YtbfhlkpicehnlaaDoor
open Go.RowKit

def inB (n low high : Int) : Bool := decide (low ≤ n) && decide (n ≤ high)

set_option maxHeartbeats 400000 in
theorem l00In_any (n low high : Int) (w : World) :
    Calls Tryd.prog 29 #[.int .i64 n, .int .i64 low, .int .i64 high] w fun e w' => e = .returned (.bool (inB n low high)) ∧ w = w' := by
  go_enter Tryd.func29, Tryd.ntmps29
  go_wp2
  all_goals (first | go_ret | skip)
  all_goals (refine ⟨?_, rfl⟩; simp_all [inB] <;> omega)

set_option maxHeartbeats 400000 in
theorem between_any (n low high : Int) (w : World) :
    Calls Tryd.prog 31 #[.int .i64 n, .int .i64 low, .int .i64 high] w fun e w' => e = .returned (.bool (inB n low high)) ∧ w = w' := by
  go_enter Tryd.func31, Tryd.ntmps31
  go_wp2
  all_goals (first | go_ret | skip)
  all_goals (refine ⟨?_, rfl⟩; simp_all [inB] <;> omega)

end Go.Proofs.YtbfhlkpicehnlaaDoor
/- Lists of texts: equality on three functions, the room that they take, copies. -/
namespace Go.Proofs.YtbfhlkpicehnlaaDoor
open Go.RowKit Go.Joins

def strs (l : List ByteArray) : List Value := l.map Value.string
theorem strs_at (l : List ByteArray) (k : Nat) (h : k < l.length) : (strs l)[k]? = some (.string l[k]) := by simp [strs, h]
theorem infoSL : (Tryd.prog.info? 9).map (fun i => (i.zero, i.size, i.bytes)) = some (some (.string ⟨#[]⟩), 1, 16) := by kernel_rfl
theorem take_strs (zs : List ByteArray) (k : Nat) (h : k < zs.length) : strs (zs.take k) ++ [.string zs[k]] = strs (zs.take (k + 1)) := by
  rw [List.take_succ_eq_append_getElem h]; unfold strs; rw [List.map_append]; rfl
theorem rd_at {w : World} {B n c : Nat} {A : Option Addr} {zs : List ByteArray} (h : Rd w B (.slice A n c) zs.length 1 (strs zs)) (k : Nat) (hk : k < zs.length) :
    n = zs.length ∧ ∃ b off, A = some ⟨b, off, none⟩ ∧ w.cell? ⟨b, off + k, none⟩ = some (.string zs[k]) := by
  obtain ⟨_, A', c', hv, hc⟩ := h
  injection hv with e1 e2 e3
  subst e1
  obtain ⟨b, off, hA, _, hcc⟩ := hc (by omega)
  exact ⟨e2, b, off, hA, hcc k _ (strs_at zs k hk)⟩

set_option maxHeartbeats 400000 in
theorem eqStringS_any (B1 B2 : Nat) (v1 v2 : Value) (xs ys : List ByteArray) (w : World) (h1 : Rd w B1 v1 xs.length 1 (strs xs)) (h2 : Rd w B2 v2 ys.length 1 (strs ys)) (hx : xs.length ≤ 4611686018427387904) :
    Calls Tryd.prog 8 #[v1, v2] w fun e w' => e = .returned (.bool (decide (xs = ys))) ∧ ∃ n, w' = w.drewN n := by
  obtain ⟨_, A1, c1, rfl, h1⟩ := h1
  obtain ⟨_, A2, c2, rfl, h2⟩ := h2
  by_cases hlen : xs.length = ys.length
  · rw [← hlen] at h2
    have hb : ((xs.length : Int) != (xs.length : Int)) = false := by simp
    have Hlen := Lib.hid hlen
    rw [← hlen]
    clear hlen
    generalize hn : xs.length = n at *
    have Hn := Lib.hid hn; clear hn
    have H1 := Lib.hid h1; clear h1
    have H2 := Lib.hid h2; clear h2
    go_enter Tryd.func8, Tryd.ntmps8
    go_wp2_with fail
    go_loopw [5] (fun i wr => ∃ k m : Nat, k ≤ n ∧ i = .int .i64 k ∧ wr = w.drewN m ∧ xs.take k = ys.take k) (fun i _ => n - (intOf i).toNat)
    case atStart => exact ⟨0, 0, Nat.zero_le _, rfl, rfl, rfl⟩
    case round =>
      obtain ⟨k, m, hk, rfl, rfl, heq⟩ := hrel
      have Heq := Lib.hid heq; clear heq
      by_cases hlt : k < n
      · obtain ⟨b1, o1, rfl, _, hc1⟩ := H1.out (by omega)
        obtain ⟨b2, o2, rfl, _, hc2⟩ := H2.out (by omega)
        have hkx : k < xs.length := by have := Hn.out; omega
        have hky : k < ys.length := by have := Hn.out; have := Hlen.out; omega
        have hx := hc1 k _ (strs_at xs k hkx)
        have hy := hc2 k _ (strs_at ys k hky)
        have hlt' : (k : Int) < (n : Int) := by omega
        clear hc1 hc2
        generalize hX : xs[k] = X at *
        generalize hY : ys[k] = Y at *
        have HX := Lib.hid hX; clear hX
        have HY := Lib.hid hY; clear hY
        by_cases he : X = Y
        · subst he
          go_wp2_with fail
          go_quiet (fail)
          go_wp2_with fail
          go_roundw
          case rel => exact ⟨k + 1, _, by omega, by go_num, rfl, by rw [List.take_succ_eq_append_getElem hkx, List.take_succ_eq_append_getElem hky, Heq.out, HX.out, HY.out]⟩
          case measure => simp [intOf]; omega
        · have he' : (X.toList == Y.toList) = false := by rw [beq_eq_false_iff_ne]; exact fun h => he (ba_inj h)
          have hne := Lib.hid (show ¬ xs = ys from fun h => he (by subst h; rw [← HX.out, ← HY.out]))
          clear he
          go_wp2_with fail
          go_quiet (fail)
          go_wp2_with fail
          go_ret
          exact ⟨by simp [hne.out], m + nq, World.drewN_drewN ..⟩
      · have hfin := Lib.hid (show xs = ys by
          have := Heq.out
          rwa [List.take_of_length_le (by have := Hn.out; omega), List.take_of_length_le (by have := Hn.out; have := Hlen.out; omega)] at this)
        go_wp2_with fail
        go_ret
        exact ⟨by simp [hfin.out], _, rfl⟩
  · have hb : ((xs.length : Int) != (ys.length : Int)) = true := by simp; omega
    have hne := Lib.hid (show ¬ xs = ys from fun h => hlen (by rw [h]))
    clear hlen
    go_enter Tryd.func8, Tryd.ntmps8
    go_wp2_with fail
    go_ret
    exact ⟨by simp [hne.out], 0, rfl⟩

set_option maxHeartbeats 400000 in
theorem szStringS_any (B : Nat) (v : Value) (zs : List ByteArray) (left : Int) (w : World) (h : Rd w B v zs.length 1 (strs zs)) (hl : zs.length ≤ maxLen ∧ ∀ z ∈ zs, z.size ≤ maxLen) (q0 : 0 ≤ left) (q1 : left ≤ 1048576) :
    Calls Tryd.prog 23 #[v, .int .i64 left] w fun e w' => (∃ r : Int, e = .returned (.int .i64 r) ∧ r ≤ left ∧ (0 ≤ r → zs.length ≤ 1048576 ∧ ∀ z ∈ zs, z.size ≤ 1048576)) ∧ w = w' := by
  have h' := h
  obtain ⟨_, A, c, rfl, _⟩ := h'
  obtain ⟨hl1, hl2⟩ := hl
  have H := Lib.hid h; clear h
  have Hl2 := Lib.hid hl2; clear hl2
  simp only [maxLen] at hl1
  by_cases hbig : left < (zs.length : Int)
  · have hb : left - (zs.length : Int) < 0 := by omega
    go_enter Tryd.func23, Tryd.ntmps23
    go_wp2_with fail
    go_ret
    exact ⟨⟨_, rfl, by omega, by omega⟩, rfl⟩
  · have hb : ¬ left - (zs.length : Int) < 0 := by omega
    have hb0 : (0 : Int) ≤ left - (zs.length : Int) := by omega
    go_enter Tryd.func23, Tryd.ntmps23
    go_wp2_with fail
    go_loop [1, 5] (fun l i => ∃ (k : Nat) (r : Int), k ≤ zs.length ∧ 0 ≤ r ∧ r ≤ left ∧ (∀ z ∈ zs.take k, z.size ≤ 1048576) ∧ l = .int .i64 r ∧ i = .int .i64 k) (fun _ i => zs.length - (intOf i).toNat)
    case atStart => exact ⟨0, _, Nat.zero_le _, hb0, by omega, by simp, rfl, rfl⟩
    case round =>
      obtain ⟨k, r, hk, hr0, hr1, hall, rfl, rfl⟩ := hrel
      have Hall := Lib.hid hall; clear hall
      by_cases hlt : k < zs.length
      · obtain ⟨_, b1, o1, hA, hx⟩ := rd_at H.out k hlt
        subst hA
        have hz := Hl2.out zs[k] (List.getElem_mem _)
        simp only [maxLen] at hz
        have Hst := Lib.hid (show zs[k].size ≤ 1048576 → ∀ z ∈ zs.take (k + 1), z.size ≤ 1048576 from fun h z hz => by
          rw [List.take_succ_eq_append_getElem hlt] at hz
          rcases List.mem_append.1 hz with h1 | h1
          · exact Hall.out z h1
          · rw [List.mem_singleton.1 h1]; exact h)
        generalize zs[k] = z at *
        have hlt' : (k : Int) < (zs.length : Int) := by omega
        by_cases hsm : r - (z.size : Int) < 0
        · go_wp2_with fail
          go_ret
          exact ⟨⟨_, rfl, by omega, by omega⟩, rfl⟩
        · go_wp2_with fail
          go_round
          case rel => exact ⟨k + 1, r - (z.size : Int), by omega, by omega, by omega, Hst.out (by omega), rfl, by go_num⟩
          case measure => simp [intOf]; omega
      · have hfin := Hall.out
        rw [List.take_of_length_le (by omega)] at hfin
        have Hfin := Lib.hid hfin; clear hfin
        have hlt' : (zs.length : Int) ≤ (k : Int) := by omega
        go_wp2_with fail
        go_ret
        exact ⟨⟨_, rfl, hr1, fun _ => ⟨by omega, Hfin.out⟩⟩, rfl⟩

/-- a new list of the same strings -/
def RetS (w : World) (zs : List ByteArray) (e : Ending) (w' : World) : Prop := ∃ v, e = .returned v ∧ w'.ownsRow w.heap.size 9 1 v zs.length (strs zs) ∧ Below w.heap.size w w'

set_option maxHeartbeats 800000 in
theorem toStringS_any (B : Nat) (v : Value) (zs : List ByteArray) (w : World) (h : Rd w B v zs.length 1 (strs zs)) (hB : B ≤ w.heap.size) (hl : zs.length ≤ 1048576) :
    Calls Tryd.prog 25 #[v] w (RetS w zs) := by
  have h' := h
  obtain ⟨_, A, c, rfl, _⟩ := h'
  have H := Lib.hid h; clear h
  obtain ⟨i, hi, hz, h2, h3⟩ := info_parts infoSL
  obtain ⟨w1, hr, hown, hg⟩ := run_makeSlice_full (P := Tryd.prog) (w := w) w.heap.size 24 9 i _ 1 Tryd.underlying24 hi hz h2 .i64 .i64 zs.length (by omega) (by rw [h3]; omega) (by simp [maxLen]; omega) (Nat.le_refl _)
  have hb1 := below_of_grown hg (Nat.le_refl _) (fun x hx => by cases hx)
  generalize hxs : (madeCells (Value.cells (.string ⟨#[]⟩)) (zs.length * 1)).toList = xs at *
  have hxl : xs.length = zs.length := by simpa using hown.1
  have Hown := Lib.hid hown
  have Hb1 := Lib.hid hb1
  clear hi hz h2 h3 hxs hown hb1 hg
  go_enter Tryd.func25, Tryd.ntmps25
  go_wp2_with fail
  clear hr
  go_loopw [4] (fun i wr => ∃ k : Nat, k ≤ zs.length ∧ i = .int .i64 k ∧ wr.ownsRow w.heap.size 9 1 (.slice (some ⟨w.heap.size, 0, none⟩) zs.length zs.length) zs.length (strs (zs.take k) ++ xs.drop k) ∧ Below w.heap.size w wr) (fun i _ => zs.length - (intOf i).toNat)
  case atStart => exact ⟨0, Nat.zero_le _, rfl, by simpa [strs] using Hown.out, Hb1.out⟩
  case round =>
    obtain ⟨k, hk, rfl, hown, hbl⟩ := hrel
    by_cases hlt : k < zs.length
    · obtain ⟨_, b1, o1, hA, hx⟩ := rd_at (H.out.below (hbl.mono hB)) k hlt
      subst hA
      have hlt' : (k : Int) < (zs.length : Int) := by omega
      have hset : (strs (zs.take k) ++ xs.drop k).set k (.string zs[k]) = strs (zs.take (k + 1)) ++ xs.drop (k + 1) := by
        have hlen : (strs (zs.take k)).length = k := by simp [strs]; omega
        rw [List.set_append_right _ _ (by omega), hlen, Nat.sub_self, List.drop_eq_getElem_cons (by rw [hxl]; exact hlt), List.set_cons_zero, ← take_strs zs k hlt]
        simp
      have Hset := Lib.hid hset; clear hset
      generalize zs[k] = z at *
      obtain ⟨u, hu⟩ : ∃ u, (strs (zs.take k) ++ xs.drop k)[k]? = some u := ⟨_, List.getElem?_eq_getElem (by have := hown.1; omega)⟩
      have hc : wr.cell? ⟨w.heap.size, k, none⟩ = some u := (hown.cellAt k (by omega)).trans hu
      have hf : wr.frozen? ⟨w.heap.size, k, none⟩ = false := hown.frozenAt k
      obtain ⟨ho2, hg2⟩ := hown.stored k (.string z)
      rw [Hset.out] at ho2
      have hb2 : Below w.heap.size w (wr.setCell ⟨w.heap.size, k, none⟩ (.string z)) := hbl.setCell (p := ⟨w.heap.size, k, none⟩) (Nat.le_refl _) _
      clear hu hown hg2
      go_wp2_with fail
      go_roundw
      case rel => exact ⟨k + 1, by omega, by go_num, ho2, hb2⟩
      case measure => simp [intOf]; omega
    · rw [List.take_of_length_le (by omega), List.drop_of_length_le (by omega), List.append_nil] at hown
      have hlt' : (zs.length : Int) ≤ (k : Int) := by omega
      have Hown := Lib.hid hown; clear hown
      go_wp2_with fail
      go_ret
      exact ⟨_, rfl, Hown.out, hbl⟩

end Go.Proofs.YtbfhlkpicehnlaaDoor
/- What a law's arguments read as, in the words of the walks: slices of numbers, of bytes. -/
namespace Go.Proofs.YtbfhlkpicehnlaaDoor
open Go.ChangeShapes Go.WideShapes Go.ChangeAt Go.RowKit

section
variable {H : Type} {enc : TypeId × Value → H} {P : Program} {W : World}

theorem rd_ints {T E base : Nat} {k : IntKind} {r : Reach} {v : Value} {d : DataW H} {p : List MemPlace} (hT : P.underlying T = some (.slice E)) (hE : P.underlying E = some (.int k)) (hC : P.cellsOf E = 1)
    (ok : Value.okWide P W r base T v) (h : DataW.Trod enc P W 0 (fun _ => true) true T v d p) :
    ∃ zs : List Int, Rd W W.heap.size v zs.length 1 (zs.map (.int k)) ∧ zs.length ≤ maxLen ∧ ∀ z ∈ zs, (Lit.int k z).wf = true := by
  obtain ⟨a0, len, cap, rfl⟩ := okWide_slice hT ok
  obtain ⟨fuel, hf⟩ := h
  rcases open_ints hT hE hC hf with ⟨hcs, hx⟩ | ⟨a, len', cap', zs, hcs, _, hl, hm, hz, hx, hcell, hwz⟩
  · simp [Value.cells] at hcs
    obtain ⟨rfl, rfl, rfl⟩ := hcs
    exact ⟨[], ⟨rfl, none, 0, rfl, fun h => by simp at h⟩, by simp [maxLen], by simp⟩
  · simp [Value.cells] at hcs
    obtain ⟨rfl, rfl, rfl⟩ := hcs
    have hz' : zs.length = cap := by simpa using hz
    have hlen : (zs.take len).length = len := by rw [List.length_take]; omega
    refine ⟨zs.take len, ?_, by rw [hlen]; omega, fun z hzz => hwz z (List.mem_of_mem_take hzz)⟩
    rw [hlen]
    refine ⟨by simp; omega, some a, cap, rfl, fun hn => ?_⟩
    obtain ⟨b, off, rfl, hc⟩ := ints_at hcell (by omega)
    refine ⟨b, off, rfl, World.block_lt_of_cell? W _ (hc 0 (by omega)), fun i u hu => ?_⟩
    have hi : i < len := by
      have := (List.getElem?_eq_some_iff.1 hu).1
      simp at this; omega
    rw [hc i (by omega), ← hu]
    simp [hi, List.getD, (show i < zs.length by omega)]

theorem rd_bytes {T E base : Nat} {r : Reach} {v : Value} {d : DataW H} {p : List MemPlace} (hT : P.underlying T = some (.slice E)) (hE : P.underlying E = some (.int .u8)) (hC : P.cellsOf E = 1)
    (ok : Value.okWide P W r base T v) (h : DataW.Trod enc P W 0 (fun _ => true) true T v d p) :
    ∃ bs : List UInt8, Rd W W.heap.size v bs.length 1 (bs.map byV) ∧ bs.length ≤ maxLen := by
  obtain ⟨zs, h1, h2, h3⟩ := rd_ints hT hE hC ok h
  refine ⟨zs.map fun z => UInt8.ofNat z.toNat, ?_, by simpa using h2⟩
  have e : (zs.map fun z => UInt8.ofNat z.toNat).map byV = zs.map (.int .u8) := by
    rw [List.map_map]
    refine List.map_congr_left fun z hz => ?_
    have hb := bounds_u8 (h3 z hz)
    simp only [Function.comp, byV, UInt8.toNat_ofNat']
    congr 1
    omega
  rw [e]
  simpa using h1
end
end Go.Proofs.YtbfhlkpicehnlaaDoor
/- What a law's arguments read as: slices of structs, as rows of cells. -/
namespace Go.Proofs.YtbfhlkpicehnlaaDoor
open Go.ChangeShapes Go.WideShapes Go.ChangeAt Go.RowKit

/-- rows of equal width: cell j of row k -/
theorem flat_at {α : Type} (cells : α → List Value) (sz : Nat) (hc : ∀ x, (cells x).length = sz) : ∀ (xs : List α) (k j : Nat) (hk : k < xs.length), j < sz → (xs.flatMap cells)[k * sz + j]? = (cells xs[k])[j]?
  | [], k, j, hk, _ => by simp at hk
  | x :: xs, 0, j, _, hj => by
    rw [List.flatMap_cons, Nat.zero_mul, Nat.zero_add, List.getElem?_append_left (by rw [hc]; exact hj)]; rfl
  | x :: xs, k + 1, j, hk, hj => by
    rw [List.flatMap_cons, List.getElem?_append_right (by rw [hc, Nat.succ_mul]; omega), hc]
    have e : (k + 1) * sz + j - sz = k * sz + j := by rw [Nat.succ_mul]; omega
    rw [e, flat_at cells sz hc xs k j (by simpa using hk) hj]
    simp
theorem flat_len {α : Type} (cells : α → List Value) (sz : Nat) (hc : ∀ x, (cells x).length = sz) : ∀ xs : List α, (xs.flatMap cells).length = xs.length * sz
  | [] => by simp
  | x :: xs => by
    rw [List.flatMap_cons, List.length_append, hc, flat_len cells sz hc xs, List.length_cons, Nat.succ_mul]; omega

section
variable {H : Type} {enc : TypeId × Value → H} {P : Program} {W : World}

theorem rd_rows {α : Type} (cells : α → List Value) (good : α → Prop) {T E base sz : Nat} {r : Reach} {v : Value} {d : DataW H} {p : List MemPlace} (hT : P.underlying T = some (.slice E)) (hC : P.cellsOf E = sz) (hsz : 0 < sz) (hc : ∀ x, (cells x).length = sz)
    (elem : ∀ n cs y, DataW.trod enc P W 0 (fun _ => true) true n E cs = some y → ∃ x, cs = cells x ∧ good x)
    (ok : Value.okWide P W r base T v) (h : DataW.Trod enc P W 0 (fun _ => true) true T v d p) :
    ∃ xs : List α, Rd W W.heap.size v xs.length sz (xs.flatMap cells) ∧ xs.length ≤ maxLen ∧ ∀ x ∈ xs, good x := by
  obtain ⟨a0, len, cap, rfl⟩ := okWide_slice hT ok
  obtain ⟨fuel, hf⟩ := h
  rcases Go.Deep.open_slice hT hf with ⟨hcs, hx⟩ | ⟨a, len', cap', m, n, D, Pl, hcs, _, hl, hm, hmm, hx, hi⟩
  · simp [Value.cells] at hcs
    obtain ⟨rfl, rfl, rfl⟩ := hcs
    exact ⟨[], ⟨by simp, none, 0, rfl, fun h => by simp at h⟩, by simp [maxLen], by simp⟩
  · simp [Value.cells] at hcs
    obtain ⟨rfl, rfl, rfl⟩ := hcs
    have hm' : m = cap := by simpa using hmm
    subst hm'
    have hel : ∀ i : Nat, i < m → ∃ x, good x ∧ W.cells? 0 (a.add (i * sz)) sz = some (cells x) := fun i hi' => by
      obtain ⟨cs', h1, h2⟩ := hi i hi'
      obtain ⟨x, rfl, hg⟩ := elem _ _ _ h2
      rw [hC] at h1
      exact ⟨x, hg, h1⟩
    have hch : ∃ f : Fin len → α, ∀ i : Fin len, good (f i) ∧ W.cells? 0 (a.add (i * sz)) sz = some (cells (f i)) :=
      ⟨fun i => Classical.choose (hel i (by have := i.2; omega)), fun i => Classical.choose_spec (hel i (by have := i.2; omega))⟩
    obtain ⟨f, hff⟩ := hch
    have hlen : (List.ofFn f).length = len := List.length_ofFn
    refine ⟨List.ofFn f, ?_, by rw [hlen]; omega, fun x hx => ?_⟩
    · rw [hlen]
      refine ⟨by rw [flat_len cells sz hc, hlen], some a, m, rfl, fun hn => ?_⟩
      have hl0 : 0 < len := by
        rcases Nat.eq_zero_or_pos len with h | h
        · subst h; simp at hn
        · exact h
      have hcell : ∀ (k : Nat) (hk : k < len) (j : Nat), j < sz → W.cell? ((a.add (k * sz)).add j) = (cells (f ⟨k, hk⟩))[j]? := fun k hk j hj =>
        (World.cells?_some (hff ⟨k, hk⟩).2).2.2 j hj
      obtain ⟨b, off, spot⟩ := a
      have h00 := hcell 0 hl0 0 hsz
      rw [List.getElem?_eq_getElem (by rw [hc]; exact hsz)] at h00
      have hspot : spot = none := by simpa [Addr.add] using World.cell?_spot h00
      subst hspot
      have hadd : ∀ k j, ((⟨b, off, none⟩ : Addr).add (k * sz)).add j = ⟨b, off + (k * sz + j), none⟩ := fun k j => by
        rw [Go.WideShapes.add_plain, Go.WideShapes.add_plain, Nat.add_assoc]
      rw [hadd] at h00
      refine ⟨b, off, rfl, World.block_lt_of_cell? W _ h00, fun i u hu => ?_⟩
      have hil : i < len * sz := by
        have := (List.getElem?_eq_some_iff.1 hu).1
        rwa [flat_len cells sz hc, hlen] at this
      have hk : i / sz < len := by rw [Nat.div_lt_iff_lt_mul hsz]; exact hil
      have hj : i % sz < sz := Nat.mod_lt _ hsz
      have hdm : i / sz * sz + i % sz = i := by rw [Nat.mul_comm]; exact Nat.div_add_mod i sz
      have h1 := hcell (i / sz) hk (i % sz) hj
      rw [hadd, hdm] at h1
      have h2 := flat_at cells sz hc (List.ofFn f) (i / sz) (i % sz) (by rw [hlen]; exact hk) hj
      rw [hdm, List.getElem_ofFn] at h2
      rw [h1, ← h2, hu]
    · obtain ⟨i, rfl⟩ := List.mem_ofFn.1 hx
      exact (hff i).1
end
end Go.Proofs.YtbfhlkpicehnlaaDoor
/- Entries, part 1: how lists of entries lie; the exact laws' helpers. -/
namespace Go.Proofs.YtbfhlkpicehnlaaDoor
open Go.RowKit Go.Joins

structure Ent where
  num : Int
  name : ByteArray
  maker : ByteArray
  year : Int
  words : List ByteArray
deriving DecidableEq

/-- an entry's cells; the second part is the value of its words -/
def cellsE (x : Ent × Value) : List Value := [.int .i64 x.1.num, .string x.1.name, .string x.1.maker, .int .i64 x.1.year, x.2]
def RdW (w : World) (B : Nat) (y : Ent × Value) : Prop := Rd w B y.2 y.1.words.length 1 (strs y.1.words)
/-- THE READING OF A LIST OF ENTRIES -/
def RdE (w : World) (B : Nat) (v : Value) (xs : List Ent) : Prop :=
  ∃ ys : List (Ent × Value), ys.map (·.1) = xs ∧ Rd w B v xs.length 5 (ys.flatMap cellsE) ∧ ∀ y ∈ ys, RdW w B y
theorem RdE.below {w w' : World} {B : Nat} {v : Value} {xs : List Ent} (h : RdE w B v xs) (hb : Below B w w') : RdE w' B v xs := by
  obtain ⟨ys, h1, h2, h3⟩ := h
  exact ⟨ys, h1, h2.below hb, fun y hy => (h3 y hy).below hb⟩
theorem RdE.more {w : World} {B B' : Nat} {v : Value} {xs : List Ent} (h : RdE w B v xs) (hB : B ≤ B') : RdE w B' v xs := by
  obtain ⟨ys, h1, h2, h3⟩ := h
  exact ⟨ys, h1, h2.more hB, fun y hy => (h3 y hy).more hB⟩
theorem RdE.next {w w' : World} {v : Value} {xs : List Ent} (h : RdE w w.heap.size v xs) (hb : Below w.heap.size w w') : RdE w' w'.heap.size v xs := (h.below hb).more hb.size
theorem RdE.drewN {w : World} {B : Nat} {v : Value} {xs : List Ent} (h : RdE w B v xs) (n : Nat) : RdE (w.drewN n) B v xs := h
theorem RdE.slice {w : World} {B : Nat} {v : Value} {xs : List Ent} (h : RdE w B v xs) : ∃ A c, v = .slice A xs.length c := by
  obtain ⟨ys, h1, ⟨_, A, c, h2, _⟩, h3⟩ := h
  exact ⟨A, c, h2⟩

/-- the five cells of an entry -/
structure EntAt (w : World) (B b o : Nat) (x : Ent) (A : Option Addr) (c : Nat) : Prop where
  lt : b < B
  c0 : w.cell? ⟨b, o, none⟩ = some (.int .i64 x.num)
  c1 : w.cell? ⟨b, o + 1, none⟩ = some (.string x.name)
  c2 : w.cell? ⟨b, o + 2, none⟩ = some (.string x.maker)
  c3 : w.cell? ⟨b, o + 3, none⟩ = some (.int .i64 x.year)
  c4 : w.cell? ⟨b, o + 4, none⟩ = some (.slice A x.words.length c)
  words : Rd w B (.slice A x.words.length c) x.words.length 1 (strs x.words)
theorem EntAt.below {w w' : World} {B b o c : Nat} {x : Ent} {A : Option Addr} (h : EntAt w B b o x A c) (hb : Below B w w') : EntAt w' B b o x A c :=
  ⟨h.lt, (hb.cell (p := ⟨b, o, none⟩) h.lt).trans h.c0, (hb.cell (p := ⟨b, o + 1, none⟩) h.lt).trans h.c1, (hb.cell (p := ⟨b, o + 2, none⟩) h.lt).trans h.c2, (hb.cell (p := ⟨b, o + 3, none⟩) h.lt).trans h.c3, (hb.cell (p := ⟨b, o + 4, none⟩) h.lt).trans h.c4, h.words.below hb⟩
theorem EntAt.drewN {w : World} {B b o c : Nat} {x : Ent} {A : Option Addr} (h : EntAt w B b o x A c) (n : Nat) : EntAt (w.drewN n) B b o x A c := ⟨h.1, h.2, h.3, h.4, h.5, h.6, h.7⟩

theorem RdE.at {w : World} {B n c : Nat} {A : Option Addr} {xs : List Ent} (h : RdE w B (.slice A n c) xs) (k : Nat) (hk : k < xs.length) :
    ∃ b off A' c', A = some ⟨b, off, none⟩ ∧ EntAt w B b (off + k * 5) xs[k] A' c' := by
  obtain ⟨ys, h1, ⟨_, A0, c0, hv, hc⟩, h3⟩ := h
  subst h1
  injection hv with e1 e2 e3
  subst e1
  rw [List.length_map] at hk hc
  obtain ⟨b, off, hA, hb, hcc⟩ := hc (by omega)
  have hw := h3 ys[k] (List.getElem_mem hk)
  obtain ⟨_, A', c', hv', _⟩ := id hw
  have hx : (ys.map (·.1))[k]'(by simpa using hk) = ys[k].1 := by simp
  rw [hx]
  have hat : ∀ j u, j < 5 → (cellsE ys[k])[j]? = some u → w.cell? ⟨b, off + k * 5 + j, none⟩ = some u := fun j u hj hu => by
    have := hcc (k * 5 + j) u ((flat_at cellsE 5 (fun _ => rfl) ys k j hk hj).trans hu)
    rwa [← Nat.add_assoc] at this
  refine ⟨b, off, A', c', hA, ⟨hb, hat 0 _ (by omega) rfl, hat 1 _ (by omega) rfl, hat 2 _ (by omega) rfl, hat 3 _ (by omega) rfl, ?_, ?_⟩⟩
  · rw [← hv']; exact hat 4 _ (by omega) rfl
  · rw [← hv']; exact hw

theorem infoE : (Tryd.prog.info? 38).map (fun i => (i.zero, i.size, i.bytes)) = some (some (.agg #[.int .i64 0, .string ⟨#[]⟩, .string ⟨#[]⟩, .int .i64 0, .slice none 0 0]), 5, 72) := by kernel_rfl

/-- five cells of a block that is the call's own -/
theorem blk5 {w : World} {g : Nat} {a b c d e : Value} {t : TypeId} (h : w.heap[g]? = some (.cells #[a, b, c, d, e] t (0, 0))) :
    w.cell? ⟨g, 0, none⟩ = some a ∧ w.cell? ⟨g, 1, none⟩ = some b ∧ w.cell? ⟨g, 2, none⟩ = some c ∧ w.cell? ⟨g, 3, none⟩ = some d ∧ w.cell? ⟨g, 4, none⟩ = some e ∧ ∀ i, w.frozen? ⟨g, i, none⟩ = false := by
  refine ⟨?_, ?_, ?_, ?_, ?_, fun i => ?_⟩
  · rw [cell_of_row w g 0 _ _ _ h]; rfl
  · rw [cell_of_row w g 1 _ _ _ h]; rfl
  · rw [cell_of_row w g 2 _ _ _ h]; rfl
  · rw [cell_of_row w g 3 _ _ _ h]; rfl
  · rw [cell_of_row w g 4 _ _ _ h]; rfl
  · exact frozen_of_row w g i _ _ h

/-- a list of texts, copied: the slice is written out -/
theorem toStringS_c (B : Nat) (A : Option Addr) (c : Nat) (zs : List ByteArray) (w : World) (h : Rd w B (.slice A zs.length c) zs.length 1 (strs zs)) (hB : B ≤ w.heap.size) (hl : zs.length ≤ 1048576) :
    Calls Tryd.prog 25 #[.slice A zs.length c] w fun e w' => ∃ A' c', e = .returned (.slice A' zs.length c') ∧ w'.ownsRow w.heap.size 9 1 (.slice A' zs.length c') zs.length (strs zs) ∧ Below w.heap.size w w' := by
  refine (toStringS_any B _ zs w h hB hl).mono ?_
  rintro e w' ⟨v, rfl, ho, hb⟩
  obtain ⟨_, A', c', rfl, _⟩ := Rd.of_own ho
  exact ⟨A', c', rfl, ho, hb⟩

set_option maxRecDepth 100000 in
set_option maxHeartbeats 1600000 in
theorem toEntry_any (B : Nat) (x : Ent) (A : Option Addr) (c : Nat) (w : World) (h : Rd w B (.slice A x.words.length c) x.words.length 1 (strs x.words)) (hB : B ≤ w.heap.size) (hl : x.words.length ≤ 1048576) :
    Calls Tryd.prog 17 #[.agg #[.int .i64 x.num, .string x.name, .string x.maker, .int .i64 x.year, .slice A x.words.length c]] w fun e w' =>
      ∃ A' c', e = .returned (.agg #[.int .i64 x.num, .string x.name, .string x.maker, .int .i64 x.year, .slice A' x.words.length c']) ∧ w'.ownsRow w.heap.size 9 1 (.slice A' x.words.length c') x.words.length (strs x.words) ∧ Below w.heap.size w w' := by
  obtain ⟨num, name, maker, year, words⟩ := x
  simp only at *
  have HT := Lib.hid (fun wx hx hB => toStringS_c B A c words wx hx hB hl)
  have H := Lib.hid h
  go_enter Tryd.func17, Tryd.ntmps17
  go_wp2_with fail
  have hb3 := Lib.hid ((((Below.refl w.heap.size w).alloc (Nat.le_refl _) (.cells #[.int .i64 num, .string name, .string maker, .int .i64 year, .slice A words.length c] 36)).alloc (by simp) (.cells #[.int .i64 0, .string ⟨#[]⟩, .string ⟨#[]⟩, .int .i64 0, .slice none 0 0] 38)).alloc (by simp; omega) (.cells #[.int .i64 num, .string name, .string maker, .int .i64 year, .slice none 0 0] 38))
  have hr : ∀ i o, (i = 1 ∧ o = Obj.cells #[.int .i64 0, .string ⟨#[]⟩, .string ⟨#[]⟩, .int .i64 0, .slice none 0 0] 38 (0, 0)) ∨ (i = 2 ∧ o = Obj.cells #[.int .i64 num, .string name, .string maker, .int .i64 year, .slice none 0 0] 38 (0, 0)) → (((w.alloc (.cells #[.int .i64 num, .string name, .string maker, .int .i64 year, .slice A words.length c] 36)).alloc (.cells #[.int .i64 0, .string ⟨#[]⟩, .string ⟨#[]⟩, .int .i64 0, .slice none 0 0] 38)).alloc (.cells #[.int .i64 num, .string name, .string maker, .int .i64 year, .slice none 0 0] 38)).heap[w.heap.size + i]? = some o := by
    intro i o hi
    show (((w.heap.push _).push _).push _)[w.heap.size + i]? = _
    simp only [Array.getElem?_push, Array.size_push]
    rcases hi with ⟨rfl, rfl⟩ | ⟨rfl, rfl⟩ <;> simp
  have Hr := Lib.hid hr; clear hr
  have hz3 : (((w.alloc (.cells #[.int .i64 num, .string name, .string maker, .int .i64 year, .slice A words.length c] 36)).alloc (.cells #[.int .i64 0, .string ⟨#[]⟩, .string ⟨#[]⟩, .int .i64 0, .slice none 0 0] 38)).alloc (.cells #[.int .i64 num, .string name, .string maker, .int .i64 year, .slice none 0 0] 38)).heap.size = w.heap.size + 3 := by simp
  generalize ((w.alloc (.cells #[.int .i64 num, .string name, .string maker, .int .i64 year, .slice A words.length c] 36)).alloc (.cells #[.int .i64 0, .string ⟨#[]⟩, .string ⟨#[]⟩, .int .i64 0, .slice none 0 0] 38)).alloc (.cells #[.int .i64 num, .string name, .string maker, .int .i64 year, .slice none 0 0] 38) = w3 at *
  refine (HT.out _ (H.out.below (hb3.out.mono hB)) (by omega)).mono ?_; rintro e w4 ⟨A', c', rfl, ho4, hb4⟩
  have f1 := (hb4.block (w.heap.size + 1) (by omega)).trans (Hr.out 1 _ (.inl ⟨rfl, rfl⟩))
  have f2 := (hb4.block (w.heap.size + 1 + 1) (by omega)).trans (Hr.out 2 _ (.inr ⟨rfl, rfl⟩))
  obtain ⟨a0, a1, a2, a3, a4, a5⟩ := blk5 f1
  obtain ⟨b0, b1, b2, b3, b4, b5⟩ := blk5 f2
  have hb04 := hb3.out.trans (hb4.mono hb3.out.size)
  have g2 := heap_setCell_same w4 (w.heap.size + 1 + 1) 4 _ _ (.slice A' words.length c') f2
  have g1 : (w4.setCell ⟨w.heap.size + 1 + 1, 4, none⟩ (.slice A' words.length c')).heap[w.heap.size + 1]? = _ := (Below.heap_setCell _ _ _ _ (by simp)).trans f1
  have g3 := (heap_setCell_same _ (w.heap.size + 1) 4 _ _ (.slice A' words.length c') (heap_setCell_same _ (w.heap.size + 1) 3 _ _ (.int .i64 year) (heap_setCell_same _ (w.heap.size + 1) 2 _ _ (.string maker) (heap_setCell_same _ (w.heap.size + 1) 1 _ _ (.string name) (heap_setCell_same _ (w.heap.size + 1) 0 _ _ (.int .i64 num) g1)))))
  obtain ⟨p0, p1, p2, p3, p4, p5⟩ := blk5 g2
  obtain ⟨q0, q1, q2, q3, q4, _⟩ := blk5 g3
  have Hbe := Lib.hid ((((((hb04.setCell (p := ⟨w.heap.size + 1 + 1, 4, none⟩) (by simp; omega) (.slice A' words.length c')).setCell (p := ⟨w.heap.size + 1, 0, none⟩) (by simp) (.int .i64 num)).setCell (p := ⟨w.heap.size + 1, 1, none⟩) (by simp) (.string name)).setCell (p := ⟨w.heap.size + 1, 2, none⟩) (by simp) (.string maker)).setCell (p := ⟨w.heap.size + 1, 3, none⟩) (by simp) (.int .i64 year)).setCell (p := ⟨w.heap.size + 1, 4, none⟩) (by simp) (.slice A' words.length c'))
  have Hoe := Lib.hid (ownsRow_le (ownsRow_setCell_below (ownsRow_setCell_below (ownsRow_setCell_below (ownsRow_setCell_below (ownsRow_setCell_below (ownsRow_setCell_below ho4 (a := ⟨w.heap.size + 1 + 1, 4, none⟩) (by show w.heap.size + 1 + 1 < w3.heap.size; omega) (.slice A' words.length c')) (a := ⟨w.heap.size + 1, 0, none⟩) (by show w.heap.size + 1 < w3.heap.size; omega) (.int .i64 num)) (a := ⟨w.heap.size + 1, 1, none⟩) (by show w.heap.size + 1 < w3.heap.size; omega) (.string name)) (a := ⟨w.heap.size + 1, 2, none⟩) (by show w.heap.size + 1 < w3.heap.size; omega) (.string maker)) (a := ⟨w.heap.size + 1, 3, none⟩) (by show w.heap.size + 1 < w3.heap.size; omega) (.int .i64 year)) (a := ⟨w.heap.size + 1, 4, none⟩) (by show w.heap.size + 1 < w3.heap.size; omega) (.slice A' words.length c')) (base' := w.heap.size) (by omega))
  have k10 := a5 0
  have k11 := a5 1
  have k12 := a5 2
  have k13 := a5 3
  have k14 := a5 4
  have k24 := b5 4
  clear f1 f2 g1 g2 g3 hb4 hb04 ho4 hz3 a5 b5 p5
  go_wp2_with fail
  exact bodyPost_ret (v := .agg #[.int .i64 num, .string name, .string maker, .int .i64 year, .slice A' words.length c']) (by simp [results, Tryd.results17, go_sem, q0, q1, q2, q3, q4]) rfl ⟨_, _, rfl, Hoe.out, Hbe.out⟩
end Go.Proofs.YtbfhlkpicehnlaaDoor
/- Entries, part 2: copies, equality and room of lists of entries; the reading of an argument. -/
namespace Go.Proofs.YtbfhlkpicehnlaaDoor
open Go.RowKit Go.Joins

theorem set5 (l r : List Value) (n : Nat) (hn : l.length = n) (hr : 5 ≤ r.length) (a b c d e : Value) :
    (((((l ++ r).set n a).set (n + 1) b).set (n + 2) c).set (n + 3) d).set (n + 4) e = (l ++ [a, b, c, d, e]) ++ r.drop 5 := by
  subst hn
  match r, hr with
  | x0 :: x1 :: x2 :: x3 :: x4 :: r, _ =>
    rw [List.set_append_right _ _ (Nat.le_refl _), List.set_append_right _ _ (by omega), List.set_append_right _ _ (by omega), List.set_append_right _ _ (by omega), List.set_append_right _ _ (by omega)]
    simp

/-- a new list of the same entries -/
def RetE (w : World) (xs : List Ent) (e : Ending) (w' : World) : Prop :=
  ∃ ys : List (Ent × Value), e = .returned (.slice (some ⟨w.heap.size, 0, none⟩) xs.length xs.length) ∧ ys.map (·.1) = xs ∧ w'.ownsRow w.heap.size 38 5 (.slice (some ⟨w.heap.size, 0, none⟩) xs.length xs.length) xs.length (ys.flatMap cellsE) ∧
    (∀ y ∈ ys, w'.ownsRow (w.heap.size + 1) 9 1 y.2 y.1.words.length (strs y.1.words)) ∧ Below w.heap.size w w'
theorem Rd.of_own' {w : World} {base : Nat} {e : TypeId} {sz n : Nat} {v : Value} {cs : List Value} (h : w.ownsRow base e sz v n cs) : Rd w w.heap.size v n sz cs := Rd.of_own h

set_option maxRecDepth 100000 in
set_option maxHeartbeats 3200000 in
theorem toEntryS_any (B : Nat) (v : Value) (xs : List Ent) (w : World) (h : RdE w B v xs) (hB : B ≤ w.heap.size) (hl : xs.length ≤ 1048576) (hws : ∀ x ∈ xs, x.words.length ≤ 1048576) :
    Calls Tryd.prog 6 #[v] w (RetE w xs) := by
  have H := Lib.hid h
  obtain ⟨A, c, rfl⟩ := h.slice
  have Hws := Lib.hid hws
  obtain ⟨i, hi, hz, h2, h3⟩ := info_parts infoE
  obtain ⟨w1, hr, hown, hg⟩ := run_makeSlice_full (P := Tryd.prog) (w := w) w.heap.size 27 38 i _ 5 Tryd.underlying27 hi hz h2 .i64 .i64 xs.length (by omega) (by rw [h3]; omega) (by simp [maxLen]; omega) (Nat.le_refl _)
  have hb1 := below_of_grown hg (Nat.le_refl _) (fun x hx => by cases hx)
  generalize hxs : (madeCells (Value.cells (.agg #[.int .i64 0, .string ⟨#[]⟩, .string ⟨#[]⟩, .int .i64 0, .slice none 0 0])) (xs.length * 5)).toList = zs at *
  have hxl : zs.length = xs.length * 5 := by simpa using hown.1
  have Hown := Lib.hid hown
  have Hb1 := Lib.hid hb1
  have Hxl := Lib.hid hxl
  clear hi hz h2 h3 hxs hown hb1 hg hxl h hws
  go_enter Tryd.func6, Tryd.ntmps6
  go_wp2_with fail
  clear hr
  go_loopw [4] (fun i wr => ∃ (k : Nat) (ys : List (Ent × Value)), k ≤ xs.length ∧ ys.map (·.1) = xs.take k ∧ i = .int .i64 k ∧ wr.ownsRow w.heap.size 38 5 (.slice (some ⟨w.heap.size, 0, none⟩) xs.length xs.length) xs.length (ys.flatMap cellsE ++ zs.drop (k * 5)) ∧ (∀ y ∈ ys, wr.ownsRow (w.heap.size + 1) 9 1 y.2 y.1.words.length (strs y.1.words)) ∧ Below w.heap.size w wr) (fun i _ => xs.length - (intOf i).toNat)
  case atStart => exact ⟨0, [], Nat.zero_le _, rfl, rfl, by simpa using Hown.out, by simp, Hb1.out⟩
  case round =>
    obtain ⟨k, ys, hk, hys, rfl, hown, hyo, hbl⟩ := hrel
    have Hyo := Lib.hid hyo; clear hyo
    have Hys := Lib.hid hys
    have hyl : ys.length = k := by
      have := congrArg List.length hys
      rw [List.length_map, List.length_take] at this
      omega
    clear hys
    by_cases hlt : k < xs.length
    · obtain ⟨b1, o1, A1, c1, hA, hE⟩ := (H.out.below (hbl.mono hB)).at k hlt
      subst hA
      have hlt' : (k : Int) < (xs.length : Int) := by omega
      have hwl := Hws.out xs[k] (List.getElem_mem hlt)
      have HX := Lib.hid (show xs.take (k + 1) = xs.take k ++ [xs[k]] from List.take_succ_eq_append_getElem hlt)
      generalize xs[k] = x at *
      obtain ⟨num, name, maker, year, words⟩ := x
      obtain ⟨hbB, e0, e1, e2, e3, e4, ew⟩ := hE
      (try dsimp only at e0 e1 e2 e3 e4 ew hwl)
      have HT := Lib.hid (toEntry_any B ⟨num, name, maker, year, words⟩ A1 c1 wr ew (Nat.le_trans hB hbl.size) hwl)
      have hzb : b1 < wr.heap.size := World.block_lt_of_cell? wr _ e0
      have Hown := Lib.hid hown; clear hown ew
      have hgz := (Hown.out.lt w.heap.size rfl).2
      go_wp2_with fail
      refine HT.out.mono ?_; rintro e w3 ⟨A3, c3, rfl, how, hb3⟩
      (try dsimp only at how)
      have hown := own_below Hown.out hb3
      have hbl3 := hbl.trans (hb3.mono hbl.size)
      have hset : (((((ys.flatMap cellsE ++ zs.drop (k * 5)).set (k * 5) (.int .i64 num)).set (k * 5 + 1) (.string name)).set (k * 5 + 2) (.string maker)).set (k * 5 + 3) (.int .i64 year)).set (k * 5 + 4) (.slice A3 words.length c3) = (ys ++ [((⟨num, name, maker, year, words⟩ : Ent), Value.slice A3 words.length c3)]).flatMap cellsE ++ zs.drop ((k + 1) * 5) := by
        have hx2 := Hxl.out
        rw [set5 _ _ (k * 5) (by rw [flat_len cellsE 5 (fun _ => rfl), hyl]) (by rw [List.length_drop]; omega), List.flatMap_append, List.drop_drop, show k * 5 + 5 = (k + 1) * 5 by omega]
        rfl
      have Hset := Lib.hid hset; clear hset
      obtain ⟨u0, hu0⟩ : ∃ u, (ys.flatMap cellsE ++ zs.drop (k * 5))[k * 5 + 0]? = some u := ⟨_, List.getElem?_eq_getElem (by have := hown.1; omega)⟩
      have hc0 : w3.cell? ⟨w.heap.size, k * 5, none⟩ = some u0 := (hown.cellAt (k * 5 + 0) (by omega)).trans hu0
      have hf0 : w3.frozen? ⟨w.heap.size, k * 5, none⟩ = false := hown.frozenAt (k * 5 + 0)
      obtain ⟨u1, hu1⟩ : ∃ u, (ys.flatMap cellsE ++ zs.drop (k * 5))[k * 5 + 1]? = some u := ⟨_, List.getElem?_eq_getElem (by have := hown.1; omega)⟩
      have hc1 : w3.cell? ⟨w.heap.size, k * 5 + 1, none⟩ = some u1 := (hown.cellAt (k * 5 + 1) (by omega)).trans hu1
      have hf1 : w3.frozen? ⟨w.heap.size, k * 5 + 1, none⟩ = false := hown.frozenAt (k * 5 + 1)
      obtain ⟨u2, hu2⟩ : ∃ u, (ys.flatMap cellsE ++ zs.drop (k * 5))[k * 5 + 2]? = some u := ⟨_, List.getElem?_eq_getElem (by have := hown.1; omega)⟩
      have hc2 : w3.cell? ⟨w.heap.size, k * 5 + 2, none⟩ = some u2 := (hown.cellAt (k * 5 + 2) (by omega)).trans hu2
      have hf2 : w3.frozen? ⟨w.heap.size, k * 5 + 2, none⟩ = false := hown.frozenAt (k * 5 + 2)
      obtain ⟨u3, hu3⟩ : ∃ u, (ys.flatMap cellsE ++ zs.drop (k * 5))[k * 5 + 3]? = some u := ⟨_, List.getElem?_eq_getElem (by have := hown.1; omega)⟩
      have hc3 : w3.cell? ⟨w.heap.size, k * 5 + 3, none⟩ = some u3 := (hown.cellAt (k * 5 + 3) (by omega)).trans hu3
      have hf3 : w3.frozen? ⟨w.heap.size, k * 5 + 3, none⟩ = false := hown.frozenAt (k * 5 + 3)
      obtain ⟨u4, hu4⟩ : ∃ u, (ys.flatMap cellsE ++ zs.drop (k * 5))[k * 5 + 4]? = some u := ⟨_, List.getElem?_eq_getElem (by have := hown.1; omega)⟩
      have hc4 : w3.cell? ⟨w.heap.size, k * 5 + 4, none⟩ = some u4 := (hown.cellAt (k * 5 + 4) (by omega)).trans hu4
      have hf4 : w3.frozen? ⟨w.heap.size, k * 5 + 4, none⟩ = false := hown.frozenAt (k * 5 + 4)
      obtain ⟨ho0, _⟩ := hown.stored (k * 5) (.int .i64 num)
      obtain ⟨ho1, _⟩ := ho0.stored (k * 5 + 1) (.string name)
      obtain ⟨ho2, _⟩ := ho1.stored (k * 5 + 2) (.string maker)
      obtain ⟨ho3, _⟩ := ho2.stored (k * 5 + 3) (.int .i64 year)
      obtain ⟨ho4, _⟩ := ho3.stored (k * 5 + 4) (.slice A3 words.length c3)
      rw [Hset.out] at ho4
      have Ho4 := Lib.hid ho4
      have Hb4 := Lib.hid (((((hbl3.setCell (p := ⟨w.heap.size, k * 5, none⟩) (Nat.le_refl _) (.int .i64 num)).setCell (p := ⟨w.heap.size, k * 5 + 1, none⟩) (Nat.le_refl _) (.string name)).setCell (p := ⟨w.heap.size, k * 5 + 2, none⟩) (Nat.le_refl _) (.string maker)).setCell (p := ⟨w.heap.size, k * 5 + 3, none⟩) (Nat.le_refl _) (.int .i64 year)).setCell (p := ⟨w.heap.size, k * 5 + 4, none⟩) (Nat.le_refl _) (.slice A3 words.length c3))
      have hnew : Hid (∀ y ∈ ys ++ [((⟨num, name, maker, year, words⟩ : Ent), Value.slice A3 words.length c3)], (((((w3.setCell ⟨w.heap.size, k * 5, none⟩ (.int .i64 num)).setCell ⟨w.heap.size, k * 5 + 1, none⟩ (.string name)).setCell ⟨w.heap.size, k * 5 + 2, none⟩ (.string maker)).setCell ⟨w.heap.size, k * 5 + 3, none⟩ (.int .i64 year)).setCell ⟨w.heap.size, k * 5 + 4, none⟩ (.slice A3 words.length c3)).ownsRow (w.heap.size + 1) 9 1 y.2 y.1.words.length (strs y.1.words)) := Lib.hid fun y hy => by
        rcases List.mem_append.1 hy with hy | hy
        · exact (ownsRow_setCell_below (ownsRow_setCell_below (ownsRow_setCell_below (ownsRow_setCell_below (ownsRow_setCell_below (own_below (Hyo.out y hy) hb3) (a := ⟨w.heap.size, k * 5, none⟩) (Nat.lt_succ_self _) (.int .i64 num)) (a := ⟨w.heap.size, k * 5 + 1, none⟩) (Nat.lt_succ_self _) (.string name)) (a := ⟨w.heap.size, k * 5 + 2, none⟩) (Nat.lt_succ_self _) (.string maker)) (a := ⟨w.heap.size, k * 5 + 3, none⟩) (Nat.lt_succ_self _) (.int .i64 year)) (a := ⟨w.heap.size, k * 5 + 4, none⟩) (Nat.lt_succ_self _) (.slice A3 words.length c3))
        · obtain rfl := List.mem_singleton.1 hy
          exact (ownsRow_setCell_below (ownsRow_setCell_below (ownsRow_setCell_below (ownsRow_setCell_below (ownsRow_setCell_below (ownsRow_le how (base' := w.heap.size + 1) hgz) (a := ⟨w.heap.size, k * 5, none⟩) (Nat.lt_succ_self _) (.int .i64 num)) (a := ⟨w.heap.size, k * 5 + 1, none⟩) (Nat.lt_succ_self _) (.string name)) (a := ⟨w.heap.size, k * 5 + 2, none⟩) (Nat.lt_succ_self _) (.string maker)) (a := ⟨w.heap.size, k * 5 + 3, none⟩) (Nat.lt_succ_self _) (.int .i64 year)) (a := ⟨w.heap.size, k * 5 + 4, none⟩) (Nat.lt_succ_self _) (.slice A3 words.length c3))
      clear hu0 hu1 hu2 hu3 hu4 hown ho0 ho1 ho2 ho3 ho4 how hb3 e0 e1 e2 e3 e4 hbl hbl3
      go_wp2_with fail
      go_roundw
      case rel => exact ⟨k + 1, _, by omega, by rw [List.map_append, Hys.out, HX.out]; rfl, by go_num, Ho4.out, hnew.out, Hb4.out⟩
      case measure => simp [intOf]; omega
    · have hd : (ys.flatMap cellsE ++ zs.drop (k * 5)) = ys.flatMap cellsE := by
        rw [List.drop_of_length_le (by have := Hxl.out; omega), List.append_nil]
      rw [hd] at hown
      have hfin := Lib.hid (show ys.map (·.1) = xs by rw [Hys.out, List.take_of_length_le (by omega)])
      clear hd
      have hlt' : (xs.length : Int) ≤ (k : Int) := by omega
      have Hown := Lib.hid hown; clear hown
      go_wp2_with fail
      go_ret
      exact ⟨ys, rfl, hfin.out, Hown.out, Hyo.out, hbl⟩

theorem RetE.rd {w w' : World} {xs : List Ent} {e : Ending} (h : RetE w xs e w') : ∃ A c, e = .returned (.slice A xs.length c) ∧ RdE w' w'.heap.size (.slice A xs.length c) xs ∧ Below w.heap.size w w' := by
  obtain ⟨ys, rfl, h1, h2, h3, h4⟩ := h
  exact ⟨_, _, rfl, ⟨ys, h1, Rd.of_own h2, fun y hy => Rd.of_own (h3 y hy)⟩, h4⟩
theorem toEntryS_c (B : Nat) (v : Value) (xs : List Ent) (w : World) (h : RdE w B v xs) (hB : B ≤ w.heap.size) (hl : xs.length ≤ 1048576) (hws : ∀ x ∈ xs, x.words.length ≤ 1048576) :
    Calls Tryd.prog 6 #[v] w fun e w' => ∃ A c, e = .returned (.slice A xs.length c) ∧ RdE w' w'.heap.size (.slice A xs.length c) xs ∧ Below w.heap.size w w' :=
  (toEntryS_any B v xs w h hB hl hws).mono fun _ _ h => h.rd
end Go.Proofs.YtbfhlkpicehnlaaDoor
/- Entries, part 3: equality and room of entries; the reading of an argument. -/
namespace Go.Proofs.YtbfhlkpicehnlaaDoor
open Go.RowKit Go.Joins

theorem eqStringS_same (B1 B2 : Nat) (v1 v2 : Value) (xs : List ByteArray) (w : World) (h1 : Rd w B1 v1 xs.length 1 (strs xs)) (h2 : Rd w B2 v2 xs.length 1 (strs xs)) (hx : xs.length ≤ 4611686018427387904) :
    Calls Tryd.prog 8 #[v1, v2] w fun e w' => e = .returned (.bool true) ∧ ∃ n, w' = w.drewN n := by
  refine (eqStringS_any B1 B2 v1 v2 xs xs w h1 h2 hx).mono ?_
  rintro e w' ⟨rfl, h⟩
  exact ⟨by simp, h⟩

/-- an entry as a value -/
abbrev aggE (x : Ent) (A : Option Addr) (c : Nat) : Value := .agg #[.int .i64 x.num, .string x.name, .string x.maker, .int .i64 x.year, .slice A x.words.length c]

set_option maxRecDepth 100000 in
set_option maxHeartbeats 800000 in
theorem eqEntry_same (B1 B2 : Nat) (x : Ent) (A1 A2 : Option Addr) (c1 c2 : Nat) (w : World) (h1 : Rd w B1 (.slice A1 x.words.length c1) x.words.length 1 (strs x.words)) (h2 : Rd w B2 (.slice A2 x.words.length c2) x.words.length 1 (strs x.words)) (hB1 : B1 ≤ w.heap.size) (hB2 : B2 ≤ w.heap.size) (hl : x.words.length ≤ 1048576) :
    Calls Tryd.prog 21 #[aggE x A1 c1, aggE x A2 c2] w fun e w' => e = .returned (.bool true) ∧ Below w.heap.size w w' := by
  obtain ⟨num, name, maker, year, words⟩ := x
  dsimp only at *
  have Hb := fun o1 o2 => Lib.hid (((Below.refl w.heap.size w).alloc (Nat.le_refl _) o1).alloc (by simp) o2)
  have HE := Lib.hid (fun wx hx hy => eqStringS_same B1 B2 (.slice A1 words.length c1) (.slice A2 words.length c2) words wx hx hy (by omega))
  have H1 := Lib.hid h1
  have H2 := Lib.hid h2
  clear h1 h2
  go_enter Tryd.func21, Tryd.ntmps21
  go_wp2_with fail
  refine (HE.out _ (H1.out.below ((Hb _ _).out.mono hB1)) (H2.out.below ((Hb _ _).out.mono hB2))).mono ?_; rintro e w1 ⟨rfl, n, rfl⟩
  have hfin := Lib.hid (below_drewN (Hb (.cells #[.int .i64 num, .string name, .string maker, .int .i64 year, .slice A1 words.length c1] 38) (.cells #[.int .i64 num, .string name, .string maker, .int .i64 year, .slice A2 words.length c2] 38)).out n)
  clear Hb
  go_wp2_with fail
  go_ret
  exact ⟨rfl, hfin.out⟩

/-- the ten cells of two entries -/
theorem EntAt.ten {w : World} {B1 B2 b1 o1 b2 o2 c1 c2 : Nat} {x y : Ent} {A1 A2 : Option Addr} (h : EntAt w B1 b1 o1 x A1 c1) (k : EntAt w B2 b2 o2 y A2 c2) :
    w.cell? ⟨b1, o1, none⟩ = some (.int .i64 x.num) ∧ w.cell? ⟨b1, o1 + 1, none⟩ = some (.string x.name) ∧ w.cell? ⟨b1, o1 + 2, none⟩ = some (.string x.maker) ∧ w.cell? ⟨b1, o1 + 3, none⟩ = some (.int .i64 x.year) ∧ w.cell? ⟨b1, o1 + 4, none⟩ = some (.slice A1 x.words.length c1) ∧
    w.cell? ⟨b2, o2, none⟩ = some (.int .i64 y.num) ∧ w.cell? ⟨b2, o2 + 1, none⟩ = some (.string y.name) ∧ w.cell? ⟨b2, o2 + 2, none⟩ = some (.string y.maker) ∧ w.cell? ⟨b2, o2 + 3, none⟩ = some (.int .i64 y.year) ∧ w.cell? ⟨b2, o2 + 4, none⟩ = some (.slice A2 y.words.length c2) :=
  ⟨h.c0, h.c1, h.c2, h.c3, h.c4, k.c0, k.c1, k.c2, k.c3, k.c4⟩

set_option maxRecDepth 100000 in
set_option maxHeartbeats 1600000 in
theorem eqEntryS_same (B1 B2 : Nat) (v1 v2 : Value) (xs : List Ent) (w : World) (h1 : RdE w B1 v1 xs) (h2 : RdE w B2 v2 xs) (hB1 : B1 ≤ w.heap.size) (hB2 : B2 ≤ w.heap.size) (hl : xs.length ≤ 1048576) (hws : ∀ x ∈ xs, x.words.length ≤ 1048576) :
    Calls Tryd.prog 9 #[v1, v2] w fun e w' => e = .returned (.bool true) ∧ Below w.heap.size w w' := by
  have H1 := Lib.hid h1
  have H2 := Lib.hid h2
  have Hws := Lib.hid hws
  obtain ⟨A1, c1, rfl⟩ := h1.slice
  obtain ⟨A2, c2, rfl⟩ := h2.slice
  clear h1 h2 hws
  have hb0 := Below.refl w.heap.size w
  go_enter Tryd.func9, Tryd.ntmps9
  go_wp2_with fail
  go_loopw [5] (fun i wr => ∃ k : Nat, k ≤ xs.length ∧ i = .int .i64 k ∧ Below w.heap.size w wr) (fun i _ => xs.length - (intOf i).toNat)
  case atStart => exact ⟨0, Nat.zero_le _, rfl, hb0⟩
  case round =>
    obtain ⟨k, hk, rfl, hbl⟩ := hrel
    by_cases hlt : k < xs.length
    · obtain ⟨b1, o1, A3, c3, hA1, hE1⟩ := (H1.out.below (hbl.mono hB1)).at k hlt
      obtain ⟨b2, o2, A4, c4, hA2, hE2⟩ := (H2.out.below (hbl.mono hB2)).at k hlt
      subst hA1 hA2
      have hwl := Hws.out xs[k] (List.getElem_mem hlt)
      generalize xs[k] = x at *
      obtain ⟨num, name, maker, year, words⟩ := x
      have HE1 := Lib.hid hE1
      have HE2 := Lib.hid hE2
      obtain ⟨hbB1, e0, e1, e2, e3, e4, _⟩ := hE1
      obtain ⟨hbB2, f0, f1, f2, f3, f4, _⟩ := hE2
      dsimp only at e0 e1 e2 e3 e4 f0 f1 f2 f3 f4 hwl
      have hlt' : (k : Int) < (xs.length : Int) := by omega
      have hacc : Below w.heap.size w wr.drew := hbl.drew
      have hac2 : Below wr.heap.size wr wr.drew := (Below.refl _ _).drew
      have hz1 : B1 ≤ wr.heap.size := Nat.le_trans hB1 hbl.size
      have hz2 : B2 ≤ wr.heap.size := Nat.le_trans hB2 hbl.size
      clear hbl
      go_wp2_with fail
      go_region_held3 (fun w' => w'.cell? ⟨b1, o1 + k * 5, none⟩ = some (.int .i64 num) ∧ w'.cell? ⟨b1, o1 + k * 5 + 1, none⟩ = some (.string name) ∧ w'.cell? ⟨b1, o1 + k * 5 + 2, none⟩ = some (.string maker) ∧ w'.cell? ⟨b1, o1 + k * 5 + 3, none⟩ = some (.int .i64 year) ∧ w'.cell? ⟨b1, o1 + k * 5 + 4, none⟩ = some (.slice A3 words.length c3) ∧
          w'.cell? ⟨b2, o2 + k * 5, none⟩ = some (.int .i64 num) ∧ w'.cell? ⟨b2, o2 + k * 5 + 1, none⟩ = some (.string name) ∧ w'.cell? ⟨b2, o2 + k * 5 + 2, none⟩ = some (.string maker) ∧ w'.cell? ⟨b2, o2 + k * 5 + 3, none⟩ = some (.int .i64 year) ∧ w'.cell? ⟨b2, o2 + k * 5 + 4, none⟩ = some (.slice A4 words.length c4))
        (first | go_keep | assumption)
        ((go_at_call 21; ((with_reducible refine (eqEntry_same B1 B2 ⟨num, name, maker, year, words⟩ A3 A4 c3 c4 _ (HE1.out.words.below (hac2.mono hz1)) (HE2.out.words.below (hac2.mono hz2)) (Nat.le_trans hz1 hac2.size) (Nat.le_trans hz2 hac2.size) hwl).mono ?_)); rintro e wq ⟨rfl, hbq⟩; have hSq := (HE1.out.below ((hac2.trans (hbq.mono hac2.size)).mono hz1)).ten (HE2.out.below ((hac2.trans (hbq.mono hac2.size)).mono hz2)); dsimp only at hSq; have hacc' := hacc.trans (hbq.mono hacc.size); clear hacc; have hacc := hacc'; clear hacc'))
      go_wp2_with fail
      go_roundw
      case rel => exact ⟨k + 1, by omega, by go_num, hacc⟩
      case measure => simp [intOf]; omega
    · have hlt' : (xs.length : Int) ≤ (k : Int) := by omega
      go_wp2_with fail
      go_ret
      exact ⟨rfl, hbl⟩

/-- all that an argument's entries are -/
def lenE (x : Ent) : Prop := x.name.size ≤ maxLen ∧ x.maker.size ≤ maxLen ∧ x.words.length ≤ maxLen ∧ ∀ z ∈ x.words, z.size ≤ maxLen
/-- small enough -/
def smE (x : Ent) : Prop := x.name.size ≤ 1048576 ∧ x.maker.size ≤ 1048576 ∧ x.words.length ≤ 1048576 ∧ ∀ z ∈ x.words, z.size ≤ 1048576
def SzE (x : Ent) (left : Int) (w : World) (e : Ending) (w' : World) : Prop := ∃ r : Int, e = .returned (.int .i64 r) ∧ r ≤ left ∧ (0 ≤ r → smE x) ∧ Below w.heap.size w w'

set_option maxRecDepth 100000 in
set_option maxHeartbeats 800000 in
theorem szEntry_any (B : Nat) (x : Ent) (A : Option Addr) (c : Nat) (left : Int) (w : World) (h : Rd w B (.slice A x.words.length c) x.words.length 1 (strs x.words)) (hB : B ≤ w.heap.size) (hx : lenE x) (q0 : 0 ≤ left) (q1 : left ≤ 1048576) :
    Calls Tryd.prog 13 #[aggE x A c, .int .i64 left] w (SzE x left w) := by
  obtain ⟨num, name, maker, year, words⟩ := x
  obtain ⟨l1, l2, l3, l4⟩ := hx
  dsimp only at *
  have hb := Lib.hid ((Below.refl w.heap.size w).alloc (Nat.le_refl _) (.cells #[.int .i64 num, .string name, .string maker, .int .i64 year, .slice A words.length c] 36))
  have HZ := Lib.hid (fun lf wx hx q0 q1 => szStringS_any B (.slice A words.length c) words lf wx hx ⟨l3, l4⟩ q0 q1)
  have H := Lib.hid (h.below (hb.out.mono hB))
  clear h l4
  simp only [maxLen] at l1 l2 l3
  by_cases n1 : left - (name.size : Int) < 0
  · go_enter Tryd.func13, Tryd.ntmps13
    go_wp2_with fail
    go_ret
    exact ⟨_, rfl, by omega, by omega, hb.out⟩
  · by_cases n2 : left - (name.size : Int) - (maker.size : Int) < 0
    · go_enter Tryd.func13, Tryd.ntmps13
      go_wp2_with fail
      go_ret
      exact ⟨_, rfl, by omega, by omega, hb.out⟩
    · have HZ2 := Lib.hid (HZ.out (left - (name.size : Int) - (maker.size : Int)) _ H.out (by omega) (by omega))
      go_enter Tryd.func13, Tryd.ntmps13
      go_wp2_with fail
      refine HZ2.out.mono ?_; rintro e w1 ⟨⟨r, rfl, hr1, hr2⟩, rfl⟩
      have Hr2 := Lib.hid hr2; clear hr2
      by_cases n3 : r < 0
      · go_wp2_with fail
        go_ret
        exact ⟨_, rfl, by omega, by omega, hb.out⟩
      · go_wp2_with fail
        go_ret
        have h5 := Hr2.out (by omega)
        exact ⟨_, rfl, by omega, fun _ => ⟨by show name.size ≤ _; omega, by show maker.size ≤ _; omega, h5.1, h5.2⟩, hb.out⟩

def SzEs (xs : List Ent) (left : Int) (w : World) (e : Ending) (w' : World) : Prop := ∃ r : Int, e = .returned (.int .i64 r) ∧ r ≤ left ∧ (0 ≤ r → xs.length ≤ 1048576 ∧ ∀ x ∈ xs, smE x) ∧ Below w.heap.size w w'
set_option maxRecDepth 100000 in
set_option maxHeartbeats 1600000 in
theorem szEntryS_any (B : Nat) (v : Value) (xs : List Ent) (left : Int) (w : World) (h : RdE w B v xs) (hB : B ≤ w.heap.size) (hl : xs.length ≤ maxLen) (hx : ∀ x ∈ xs, lenE x) (q0 : 0 ≤ left) (q1 : left ≤ 1048576) :
    Calls Tryd.prog 4 #[v, .int .i64 left] w (SzEs xs left w) := by
  have H := Lib.hid h
  have Hx := Lib.hid hx
  obtain ⟨A, c, rfl⟩ := h.slice
  clear h hx
  simp only [maxLen] at hl
  have hb0 := Lib.hid (Below.refl w.heap.size w)
  by_cases hbig : left - (xs.length : Int) < 0
  · go_enter Tryd.func4, Tryd.ntmps4
    go_wp2_with fail
    go_ret
    exact ⟨_, rfl, by omega, by omega, hb0.out⟩
  · have hb1 : (0 : Int) ≤ left - (xs.length : Int) := by omega
    go_enter Tryd.func4, Tryd.ntmps4
    go_wp2_with fail
    go_loopw [1, 5] (fun l i wr => ∃ (k : Nat) (r : Int), k ≤ xs.length ∧ 0 ≤ r ∧ r ≤ left ∧ (∀ x ∈ xs.take k, smE x) ∧ l = .int .i64 r ∧ i = .int .i64 k ∧ Below w.heap.size w wr) (fun _ i _ => xs.length - (intOf i).toNat)
    case atStart => exact ⟨0, _, Nat.zero_le _, hb1, by omega, by simp, rfl, rfl, hb0.out⟩
    case round =>
      obtain ⟨k, r, hk, hr0, hr1, hall, rfl, rfl, hbl⟩ := hrel
      have Hall := Lib.hid hall; clear hall
      by_cases hlt : k < xs.length
      · obtain ⟨b1, o1, A1, c1, hA, hE⟩ := (H.out.below (hbl.mono hB)).at k hlt
        subst hA
        have hlt' : (k : Int) < (xs.length : Int) := by omega
        have Hle := Lib.hid (Hx.out xs[k] (List.getElem_mem hlt))
        have Hst := Lib.hid (show smE xs[k] → ∀ x ∈ xs.take (k + 1), smE x from fun h x hx => by
          rw [List.take_succ_eq_append_getElem hlt] at hx
          rcases List.mem_append.1 hx with h1 | h1
          · exact Hall.out x h1
          · rw [List.mem_singleton.1 h1]; exact h)
        generalize xs[k] = x at *
        obtain ⟨num, name, maker, year, words⟩ := x
        have HZ := Lib.hid (szEntry_any B ⟨num, name, maker, year, words⟩ A1 c1 r wr hE.words (Nat.le_trans hB hbl.size) Hle.out hr0 (by omega))
        obtain ⟨hbB, e0, e1, e2, e3, e4, _⟩ := hE
        dsimp only at e0 e1 e2 e3 e4
        go_wp2_with fail
        refine HZ.out.mono ?_; rintro e w1 ⟨r', rfl, hr1', hr2', hb1'⟩
        have hbl1 := hbl.trans (hb1'.mono hbl.size)
        have Hr2 := Lib.hid hr2'; clear hr2' hbl hb1'
        by_cases n1 : r' < 0
        · go_wp2_with fail
          go_ret
          exact ⟨_, rfl, by omega, by omega, hbl1⟩
        · go_wp2_with fail
          go_roundw
          case rel => exact ⟨k + 1, r', by omega, by omega, by omega, Hst.out (Hr2.out (by omega)), rfl, by go_num, hbl1⟩
          case measure => simp [intOf]; omega
      · have hfin := Hall.out
        rw [List.take_of_length_le (by omega)] at hfin
        have Hfin := Lib.hid hfin; clear hfin
        have hlt' : (xs.length : Int) ≤ (k : Int) := by omega
        go_wp2_with fail
        go_ret
        exact ⟨_, rfl, hr1, fun _ => ⟨by omega, Hfin.out⟩, hbl⟩
end Go.Proofs.YtbfhlkpicehnlaaDoor
/- Names: IsName on both sides. -/
namespace Go.Proofs.YtbfhlkpicehnlaaDoor
open Go.RowKit Go.Joins

def smC (c : Nat) : Bool := decide (97 ≤ c) && decide (c ≤ 122)
def dgC (c : Nat) : Bool := decide (48 ≤ c) && decide (c ≤ 57)
def okC (c : Nat) : Bool := smC c || dgC c || decide (c = 45)
/-- a name -/
def isNm (l : List UInt8) : Bool := match l with
  | [] => false
  | c :: t => decide (t.length < 12) && smC c.toNat && (c :: t).all fun c => okC c.toNat
theorem isNm_nil : isNm [] = false := rfl
theorem isNm_cons (c : UInt8) (t : List UInt8) : isNm (c :: t) = (decide (t.length < 12) && smC c.toNat && (c :: t).all fun c => okC c.toNat) := rfl
theorem isNm_long (l : List UInt8) (h : 12 < l.length) : isNm l = false := by
  cases l with
  | nil => rfl
  | cons c t =>
    have : ¬ t.length < 12 := by simp at h; omega
    simp [isNm, this]
theorem isNm_bad (l : List UInt8) (k : Nat) (hk : k < l.length) (h : okC l[k].toNat = false) : isNm l = false := by
  cases l with
  | nil => rfl
  | cons c t =>
    have : ((c :: t).all fun c => okC c.toNat) = false := by
      rw [List.all_eq_false]
      exact ⟨_, List.getElem_mem hk, by simp [h]⟩
    rw [isNm_cons, this, Bool.and_false]
theorem isNm_first (l : List UInt8) (hk : 0 < l.length) (h : smC l[0].toNat = false) : isNm l = false := by
  cases l with
  | nil => rfl
  | cons c t => simp at h; simp [isNm, h]
theorem isNm_yes (l : List UInt8) (hk : 0 < l.length) (hk2 : l.length ≤ 12) (h : smC l[0].toNat = true) (ha : (l.all fun c => okC c.toNat) = true) : isNm l = true := by
  cases l with
  | nil => simp at hk
  | cons c t =>
    simp only [List.length_cons] at hk2
    have : t.length < 12 := by omega
    simp at h
    rw [isNm_cons, ha, h]
    simp [this]
theorem all_step (l : List UInt8) (k : Nat) (hk : k < l.length) (h0 : ((l.take k).all fun c => okC c.toNat) = true) (h : okC l[k].toNat = true) : ((l.take (k + 1)).all fun c => okC c.toNat) = true := by
  rw [List.take_succ_eq_append_getElem hk, List.all_append, h0]
  simp [h]
theorem chr_cases (x : Nat) : (smC x = true ∧ 97 ≤ x ∧ x ≤ 122) ∨ (smC x = false ∧ dgC x = true ∧ 48 ≤ x ∧ x ≤ 57) ∨ (smC x = false ∧ dgC x = false ∧ x = 45) ∨ (smC x = false ∧ dgC x = false ∧ x ≠ 45 ∧ x < 97) ∨ (smC x = false ∧ dgC x = false ∧ x ≠ 45 ∧ 122 < x) := by
  simp only [smC, dgC, Bool.and_eq_true, Bool.and_eq_false_iff, decide_eq_true_eq, decide_eq_false_iff_not]
  omega

theorem isDigit_any (x : Nat) (w : World) :
    Calls Tryd.prog 38 #[.int .u8 (x : Int)] w fun e w' => e = .returned (.bool (dgC x)) ∧ w = w' := by
  by_cases h1 : 48 ≤ x
  · by_cases h2 : x ≤ 57
    all_goals
      have e1 := Lib.hid (show dgC x = decide (x ≤ 57) by simp [dgC, h1])
      go_enter Tryd.func38, Tryd.ntmps38
      go_wp2
      go_ret
      rw [e1.out]; simp [h2] <;> omega
  · have e1 := Lib.hid (show dgC x = false by simp [dgC, h1])
    have h1' : (x : Int) < 48 := by omega
    go_enter Tryd.func38, Tryd.ntmps38
    go_wp2
    go_ret
    rw [e1.out]; exact ⟨rfl, rfl⟩
theorem l01Small_any (x : Nat) (w : World) :
    Calls Tryd.prog 36 #[.int .u8 (x : Int)] w fun e w' => e = .returned (.bool (smC x)) ∧ w = w' := by
  by_cases h1 : 97 ≤ x
  · by_cases h2 : x ≤ 122
    all_goals
      have e1 := Lib.hid (show smC x = decide (x ≤ 122) by simp [smC, h1])
      go_enter Tryd.func36, Tryd.ntmps36
      go_wp2
      go_ret
      rw [e1.out]; simp [h2] <;> omega
  · have e1 := Lib.hid (show smC x = false by simp [smC, h1])
    have h1' : (x : Int) < 97 := by omega
    go_enter Tryd.func36, Tryd.ntmps36
    go_wp2
    go_ret
    rw [e1.out]; exact ⟨rfl, rfl⟩
theorem l01Digit_any (x : Nat) (w : World) :
    Calls Tryd.prog 37 #[.int .u8 (x : Int)] w fun e w' => e = .returned (.bool (dgC x)) ∧ w = w' := by
  by_cases h1 : 48 ≤ x
  · by_cases h2 : x ≤ 57
    all_goals
      have e1 := Lib.hid (show dgC x = decide (x ≤ 57) by simp [dgC, h1])
      go_enter Tryd.func37, Tryd.ntmps37
      go_wp2
      go_ret
      rw [e1.out]; simp [h2] <;> omega
  · have e1 := Lib.hid (show dgC x = false by simp [dgC, h1])
    have h1' : (x : Int) < 48 := by omega
    go_enter Tryd.func37, Tryd.ntmps37
    go_wp2
    go_ret
    rw [e1.out]; exact ⟨rfl, rfl⟩
end Go.Proofs.YtbfhlkpicehnlaaDoor
/- Names, part 2: the walks of IsName. -/
namespace Go.Proofs.YtbfhlkpicehnlaaDoor
open Go.RowKit Go.Joins

theorem okC_sm {x : Nat} (h : smC x = true) : okC x = true := by simp [okC, h]
theorem okC_dg {x : Nat} (h : dgC x = true) : okC x = true := by simp [okC, h]
theorem okC_da {x : Nat} (h : x = 45) : okC x = true := by simp [okC, h]
theorem okC_no {x : Nat} (h : smC x = false) (h2 : dgC x = false) (h3 : x ≠ 45) : okC x = false := by simp [okC, h, h2, h3]

set_option maxRecDepth 100000 in
set_option maxHeartbeats 1600000 in
theorem IsNameI_any (s : ByteArray) (w : World) (hs : s.size ≤ 1048576) :
    Calls Tryd.prog 32 #[.string s] w fun e w' => e = .returned (.bool (isNm s.data.toList)) ∧ w = w' := by
  have hsz : s.data.toList.length = s.size := by simp
  have Hsz := Lib.hid hsz; clear hsz
  by_cases h0 : s.size = 0
  · have hfin := Lib.hid (show isNm s.data.toList = false by
      have he : s.data.toList = [] := List.eq_nil_of_length_eq_zero (by rw [Hsz.out, h0])
      rw [he]; rfl)
    have hq : ((s.size : Int) == 0) = true := by simp [h0]
    clear h0
    go_enter Tryd.func32, Tryd.ntmps32
    go_wp2_with fail
    go_ret
    rw [hfin.out]; exact ⟨rfl, rfl⟩
  · have hq : ((s.size : Int) == 0) = false := by simpa using h0
    by_cases h12 : 12 < s.size
    · have hfin := Lib.hid (isNm_long s.data.toList (by rw [Hsz.out]; exact h12))
      have hq2 : (12 : Int) < (s.size : Int) := by omega
      clear h0
      go_enter Tryd.func32, Tryd.ntmps32
      go_wp2_with fail
      go_ret
      rw [hfin.out]; exact ⟨rfl, rfl⟩
    · have hq2 : (s.size : Int) ≤ 12 := by omega
      have hp : 0 < s.data.toList.length := by rw [Hsz.out]; omega
      have Hp := Lib.hid hp
      go_enter Tryd.func32, Tryd.ntmps32
      go_wp2_with fail
      go_loop [15] (fun i => ∃ k : Nat, k ≤ s.size ∧ ((s.data.toList.take k).all fun c => okC c.toNat) = true ∧ (0 < k → smC (s.data.toList[0]'hp).toNat = true) ∧ i = .int .i64 k) (fun i => s.size - (intOf i).toNat)
      case atStart => exact ⟨0, Nat.zero_le _, rfl, by omega, rfl⟩
      case round =>
        obtain ⟨k, hk, hall, hfst, rfl⟩ := hrel
        have Hall := Lib.hid hall; clear hall
        have Hfst := Lib.hid hfst; clear hfst
        by_cases hlt : k < s.size
        · have hkl : k < s.data.toList.length := by rw [Hsz.out]; exact hlt
          have Hbad := Lib.hid (show okC s[k].toNat = false → isNm s.data.toList = false from fun h => isNm_bad s.data.toList k hkl h)
          have Hst := Lib.hid (show okC s[k].toNat = true → ((s.data.toList.take (k + 1)).all fun c => okC c.toNat) = true from fun h => all_step s.data.toList k hkl Hall.out h)
          have Hfk := Lib.hid (show smC s[k].toNat = true → smC (s.data.toList[0]'hp).toNat = true from fun h => by
            by_cases hk0 : k = 0
            · subst hk0; exact h
            · exact Hfst.out (by omega))
          have Hf0 := Lib.hid (show k = 0 → smC s[k].toNat = false → isNm s.data.toList = false from fun h h2 => isNm_first s.data.toList hp (by subst h; exact h2))
          have hx8 := s[k].toNat_lt
          have hx9 : (s[k].toNat : Int) < 256 := by omega
          have HD := Lib.hid (fun wx => isDigit_any s[k].toNat wx)
          clear hx8
          have hlt' : (k : Int) < (s.size : Int) := by omega
          by_cases hk0 : k = 0
          · have hqk : ((k : Int) == 0) = true := by simp [hk0]
            rcases chr_cases s[k].toNat with ⟨c1, c2, c3⟩ | ⟨c1, c2, c3, c4⟩ | ⟨c1, c2, c3⟩ | ⟨c1, c2, c3, c4⟩ | ⟨c1, c2, c3, c4⟩
            · have hst := Lib.hid (Hst.out (okC_sm c1))
              have hf := Lib.hid (Hfk.out c1)
              clear Hbad Hst Hfk Hf0 c1 hk0
              have d1 : (97 : Int) ≤ (s[k].toNat : Int) := by omega
              have d2 : (s[k].toNat : Int) ≤ 122 := by omega
              go_wp2_with fail
              go_round
              case rel => exact ⟨k + 1, by omega, hst.out, fun _ => hf.out, by go_num⟩
              case measure => simp [intOf]; omega
            all_goals
              have hfin := Lib.hid (Hf0.out hk0 c1)
              clear Hbad Hst Hfk Hf0 c1 c2 hk0
              rcases Nat.lt_or_ge s[k].toNat 97 with d0 | d0
              · first
                | (exfalso; omega)
                | (have d1 : (s[k].toNat : Int) < 97 := by omega
                   go_wp2_with fail
                   go_ret
                   rw [hfin.out]; exact ⟨rfl, rfl⟩)
              · first
                | (exfalso; omega)
                | (have d1 : (97 : Int) ≤ (s[k].toNat : Int) := by omega
                   have d2 : decide ((s[k].toNat : Int) ≤ 122) = false := by rw [decide_eq_false_iff_not]; omega
                   go_wp2_with fail
                   go_ret
                   rw [hfin.out]; exact ⟨rfl, rfl⟩)
          · have hqk : ((k : Int) == 0) = false := by simpa using hk0
            have hf := Lib.hid (Hfst.out (by omega))
            rcases chr_cases s[k].toNat with ⟨c1, c2, c3⟩ | ⟨c1, c2, c3, c4⟩ | ⟨c1, c2, c3⟩ | ⟨c1, c2, c3, c4⟩ | ⟨c1, c2, c3, c4⟩
            · have hst := Lib.hid (Hst.out (okC_sm c1))
              clear Hbad Hst Hfk Hf0 c1 hk0
              have d1 : (97 : Int) ≤ (s[k].toNat : Int) := by omega
              have d2 : (s[k].toNat : Int) ≤ 122 := by omega
              go_wp2_with fail
              go_round
              case rel => exact ⟨k + 1, by omega, hst.out, fun _ => hf.out, by go_num⟩
              case measure => simp [intOf]; omega
            · have hst := Lib.hid (Hst.out (okC_dg c2))
              rw [c2] at HD
              clear Hbad Hst Hfk Hf0 c1 c2 hk0
              have d1 : (s[k].toNat : Int) < 97 := by omega
              have d3 : ((s[k].toNat : Int) != 45) = true := by rw [bne_iff_ne]; omega
              go_wp2_with fail
              refine (HD.out _).mono ?_; rintro e w1 ⟨rfl, rfl⟩
              go_wp2_with fail
              go_round
              case rel => exact ⟨k + 1, by omega, hst.out, fun _ => hf.out, by go_num⟩
              case measure => simp [intOf]; omega
            · have hst := Lib.hid (Hst.out (okC_da c3))
              clear Hbad Hst Hfk Hf0 c1 c2 hk0
              have d1 : (s[k].toNat : Int) < 97 := by omega
              have d3 : ((s[k].toNat : Int) != 45) = false := by simp [c3]
              clear c3
              go_wp2_with fail
              go_round
              case rel => exact ⟨k + 1, by omega, hst.out, fun _ => hf.out, by go_num⟩
              case measure => simp [intOf]; omega
            · have hfin := Lib.hid (Hbad.out (okC_no c1 c2 c3))
              rw [c2] at HD
              have d1 : (s[k].toNat : Int) < 97 := by omega
              have d3 : ((s[k].toNat : Int) != 45) = true := by rw [bne_iff_ne]; omega
              clear Hbad Hst Hfk Hf0 c1 c2 c3 hk0
              go_wp2_with fail
              refine (HD.out _).mono ?_; rintro e w1 ⟨rfl, rfl⟩
              go_wp2_with fail
              go_ret
              rw [hfin.out]; exact ⟨rfl, rfl⟩
            · have hfin := Lib.hid (Hbad.out (okC_no c1 c2 c3))
              rw [c2] at HD
              have d1 : (97 : Int) ≤ (s[k].toNat : Int) := by omega
              have d2 : decide ((s[k].toNat : Int) ≤ 122) = false := by rw [decide_eq_false_iff_not]; omega
              have d3 : ((s[k].toNat : Int) != 45) = true := by rw [bne_iff_ne]; omega
              clear Hbad Hst Hfk Hf0 c1 c2 c3 hk0
              go_wp2_with fail
              refine (HD.out _).mono ?_; rintro e w1 ⟨rfl, rfl⟩
              go_wp2_with fail
              go_ret
              rw [hfin.out]; exact ⟨rfl, rfl⟩
        · have hfin := Lib.hid (show isNm s.data.toList = true from isNm_yes _ hp (by rw [Hsz.out]; omega) (Hfst.out (by omega)) (by
            have := Hall.out
            rwa [List.take_of_length_le (by rw [Hsz.out]; omega)] at this))
          have hlt' : (s.size : Int) ≤ (k : Int) := by omega
          go_wp2_with fail
          go_ret
          rw [hfin.out]; exact ⟨rfl, rfl⟩
end Go.Proofs.YtbfhlkpicehnlaaDoor
/- Names, part 3: the reference's IsName. -/
namespace Go.Proofs.YtbfhlkpicehnlaaDoor
open Go.RowKit Go.Joins

theorem toList_ne {s : ByteArray} (h : s.size ≠ 0) : s.toList.isEmpty = false := by
  cases hs : s.toList.isEmpty with
  | false => rfl
  | true =>
    have h1 : s.toList = [] := by simpa using hs
    have h2 := congrArg List.length h1
    rw [ByteArray.toList_eq] at h2
    simp at h2
    exact absurd h2 (by simpa using h)

set_option maxRecDepth 100000 in
set_option maxHeartbeats 1600000 in
theorem IsNameS_any (s : ByteArray) (w : World) (hs : s.size ≤ 1048576) :
    Calls Tryd.prog 30 #[.string s] w fun e w' => e = .returned (.bool (isNm s.data.toList)) ∧ w = w' := by
  have hsz : s.data.toList.length = s.size := by simp
  have Hsz := Lib.hid hsz; clear hsz
  by_cases h0 : s.size = 0
  · obtain rfl : s = ⟨#[]⟩ := by
      obtain ⟨⟨l⟩⟩ := s
      have : l = [] := List.eq_nil_of_length_eq_zero h0
      rw [this]
    clear h0
    go_enter Tryd.func30, Tryd.ntmps30
    go_wp2_with fail
    go_ret
    exact ⟨rfl, rfl⟩
  · have he := toList_ne h0
    have hp : 0 < s.data.toList.length := by rw [Hsz.out]; omega
    have hp0 : 0 < s.size := by omega
    have hp1 : (0 : Int) < (s.size : Int) := by omega
    by_cases h12 : 12 < s.size
    · have hfin := Lib.hid (isNm_long s.data.toList (by rw [Hsz.out]; exact h12))
      have hq2 : (12 : Int) < (s.size : Int) := by omega
      clear h0
      go_enter Tryd.func30, Tryd.ntmps30
      go_wp2_with fail
      go_ret
      rw [hfin.out]; exact ⟨rfl, rfl⟩
    · have hq2 : (s.size : Int) ≤ 12 := by omega
      have HS := Lib.hid (fun wx => l01Small_any s[0].toNat wx)
      have hx8 := s[0].toNat_lt
      cases hsm : smC s[0].toNat with
      | false =>
        have hfin := Lib.hid (isNm_first s.data.toList hp hsm)
        rw [hsm] at HS
        clear hsm h0
        go_enter Tryd.func30, Tryd.ntmps30
        go_wp2_with fail
        refine (HS.out _).mono ?_; rintro e w1 ⟨rfl, rfl⟩
        go_wp2_with fail
        go_ret
        rw [hfin.out]; exact ⟨rfl, rfl⟩
      | true =>
        have Hyes := Lib.hid (fun h => isNm_yes s.data.toList hp (by rw [Hsz.out]; omega) hsm h)
        rw [hsm] at HS
        clear hsm h0
        go_enter Tryd.func30, Tryd.ntmps30
        go_wp2_with fail
        refine (HS.out _).mono ?_; rintro e w1 ⟨rfl, rfl⟩
        go_wp2_with fail
        go_loop [3] (fun i => ∃ k : Nat, k ≤ s.size ∧ ((s.data.toList.take k).all fun c => okC c.toNat) = true ∧ i = .int .i64 k) (fun i => s.size - (intOf i).toNat)
        case atStart => exact ⟨0, Nat.zero_le _, rfl, rfl⟩
        case round =>
          obtain ⟨k, hk, hall, rfl⟩ := hrel
          have Hall := Lib.hid hall; clear hall
          by_cases hlt : k < s.size
          · have hkl : k < s.data.toList.length := by rw [Hsz.out]; exact hlt
            have Hbad := Lib.hid (show okC s[k].toNat = false → isNm s.data.toList = false from fun h => isNm_bad s.data.toList k hkl h)
            have Hst := Lib.hid (show okC s[k].toNat = true → ((s.data.toList.take (k + 1)).all fun c => okC c.toNat) = true from fun h => all_step s.data.toList k hkl Hall.out h)
            have hx8 := s[k].toNat_lt
            have hx9 : (s[k].toNat : Int) < 256 := by omega
            have HC := Lib.hid (fun wx => l01Small_any s[k].toNat wx)
            have HD := Lib.hid (fun wx => l01Digit_any s[k].toNat wx)
            clear hx8
            have hlt' : (k : Int) < (s.size : Int) := by omega
            cases c1 : smC s[k].toNat with
            | true =>
              have hst := Lib.hid (Hst.out (okC_sm c1))
              rw [c1] at HC
              clear Hbad Hst c1
              go_wp2_with fail
              refine (HC.out _).mono ?_; rintro e w1 ⟨rfl, rfl⟩
              go_wp2_with fail
              go_round
              case rel => exact ⟨k + 1, by omega, hst.out, by go_num⟩
              case measure => simp [intOf]; omega
            | false =>
              rw [c1] at HC
              cases c2 : dgC s[k].toNat with
              | true =>
                have hst := Lib.hid (Hst.out (okC_dg c2))
                rw [c2] at HD
                clear Hbad Hst c1 c2
                go_wp2_with fail
                refine (HC.out _).mono ?_; rintro e w1 ⟨rfl, rfl⟩
                go_wp2_with fail
                refine (HD.out _).mono ?_; rintro e w1 ⟨rfl, rfl⟩
                go_wp2_with fail
                go_round
                case rel => exact ⟨k + 1, by omega, hst.out, by go_num⟩
                case measure => simp [intOf]; omega
              | false =>
                rw [c2] at HD
                by_cases c3 : s[k].toNat = 45
                · have hst := Lib.hid (Hst.out (okC_da c3))
                  have d3 : ((s[k].toNat : Int) != 45) = false := by simp [c3]
                  clear Hbad Hst c1 c2 c3
                  go_wp2_with fail
                  refine (HC.out _).mono ?_; rintro e w1 ⟨rfl, rfl⟩
                  go_wp2_with fail
                  refine (HD.out _).mono ?_; rintro e w1 ⟨rfl, rfl⟩
                  go_wp2_with fail
                  go_round
                  case rel => exact ⟨k + 1, by omega, hst.out, by go_num⟩
                  case measure => simp [intOf]; omega
                · have hfin := Lib.hid (Hbad.out (okC_no c1 c2 c3))
                  have d3 : ((s[k].toNat : Int) != 45) = true := by rw [bne_iff_ne]; omega
                  clear Hbad Hst c1 c2 c3
                  go_wp2_with fail
                  refine (HC.out _).mono ?_; rintro e w1 ⟨rfl, rfl⟩
                  go_wp2_with fail
                  refine (HD.out _).mono ?_; rintro e w1 ⟨rfl, rfl⟩
                  go_wp2_with fail
                  go_ret
                  rw [hfin.out]; exact ⟨rfl, rfl⟩
          · have hfin := Lib.hid (Hyes.out (by
              have := Hall.out
              rwa [List.take_of_length_le (by rw [Hsz.out]; omega)] at this))
            have hlt' : (s.size : Int) ≤ (k : Int) := by omega
            go_wp2_with fail
            go_ret
            rw [hfin.out]; exact ⟨rfl, rfl⟩
end Go.Proofs.YtbfhlkpicehnlaaDoor
/- Entries, part 6: a valid entry, both sides. -/
namespace Go.Proofs.YtbfhlkpicehnlaaDoor
open Go.RowKit Go.Joins

/-- all of the first n -/
def chk (n : Nat) (f : Nat → Bool) : Bool := (List.range n).all f
theorem chk_bad {n : Nat} {f : Nat → Bool} (k : Nat) (hk : k < n) (h : f k = false) : chk n f = false := by
  unfold chk
  rw [List.all_eq_false]
  exact ⟨k, List.mem_range.2 hk, by simp [h]⟩
theorem chk_step {f : Nat → Bool} {k : Nat} (h0 : chk k f = true) (h : f k = true) : chk (k + 1) f = true := by
  unfold chk at *
  rw [List.range_succ, List.all_append, h0]
  simp [h]
def lessS (a b : ByteArray) : Bool := Op.bytesLess a.toList b.toList
theorem bl_tot : ∀ a b : List UInt8, Op.bytesLess a b = !(Op.bytesLess b a || b == a)
  | [], [] => rfl
  | [], _ :: _ => by simp [Op.bytesLess]
  | _ :: _, [] => by simp [Op.bytesLess]
  | a :: x, b :: y => by
    have ih := bl_tot x y
    rcases Nat.lt_trichotomy a.toNat b.toNat with h | h | h
    · have h1 : a < b := UInt8.lt_iff_toNat_lt.2 h
      have h2 : ¬ b < a := fun e => by have := UInt8.lt_iff_toNat_lt.1 e; omega
      have h3 : b ≠ a := fun e => by rw [e] at h; omega
      simp [Op.bytesLess, h1, h2, h3]
    · have h1 : a = b := UInt8.toNat_inj.1 h
      subst h1
      have h2 : ¬ a < a := fun e => by have := UInt8.lt_iff_toNat_lt.1 e; omega
      simp only [Op.bytesLess, h2, ih]
      simp
    · have h1 : ¬ a < b := fun e => by have := UInt8.lt_iff_toNat_lt.1 e; omega
      have h2 : b < a := UInt8.lt_iff_toNat_lt.2 h
      have h3 : a ≠ b := fun e => by rw [e] at h; omega
      simp [Op.bytesLess, h1, h2, h3]
/-- what the two sides ask of neighbours -/
theorem less_yes {a b : ByteArray} (h : lessS a b = true) : (Op.bytesLess b.toList a.toList || b.toList == a.toList) = false ∧ Op.bytesLess b.toList a.toList = false ∧ (b.toList == a.toList) = false ∧ Op.bytesLess a.toList b.toList = true := by
  have h1 := bl_tot a.toList b.toList
  unfold lessS at h
  rw [h] at h1
  have h2 : (Op.bytesLess b.toList a.toList || b.toList == a.toList) = false := by simpa using h1.symm
  have h3 := h2
  rw [Bool.or_eq_false_iff] at h3
  exact ⟨h2, h3.1, h3.2, h⟩
theorem less_no {a b : ByteArray} (h : lessS a b = false) : (Op.bytesLess b.toList a.toList || b.toList == a.toList) = true ∧ Op.bytesLess a.toList b.toList = false := by
  have h1 := bl_tot a.toList b.toList
  unfold lessS at h
  rw [h] at h1
  refine ⟨?_, h⟩
  cases hh : (Op.bytesLess b.toList a.toList || b.toList == a.toList) with
  | true => rfl
  | false => rw [hh] at h1; simp at h1

def wordOk (l : List ByteArray) (i : Nat) : Bool := isNm (l.getD i ⟨#[]⟩).data.toList && (decide (i = 0) || lessS (l.getD (i - 1) ⟨#[]⟩) (l.getD i ⟨#[]⟩))
def entOk (x : Ent) : Bool := inB x.num 1 1000000 && isNm x.name.data.toList && isNm x.maker.data.toList && inB x.year 1000 3000 && decide (x.words.length ≤ 8) && chk x.words.length (wordOk x.words)
theorem getD_at (l : List ByteArray) (k : Nat) (hk : k < l.length) : l.getD k ⟨#[]⟩ = l[k] := by simp [List.getD, hk]
theorem wordOk_nm (l : List ByteArray) (k : Nat) (hk : k < l.length) (h : isNm l[k].data.toList = false) : wordOk l k = false := by unfold wordOk; rw [getD_at l k hk, h]; rfl
theorem wordOk_0 (l : List ByteArray) (hk : 0 < l.length) (h : isNm l[0].data.toList = true) : wordOk l 0 = true := by unfold wordOk; rw [getD_at l 0 hk, h]; rfl
theorem wordOk_s (l : List ByteArray) (k : Nat) (hk : k + 1 < l.length) (h : isNm l[k + 1].data.toList = true) : wordOk l (k + 1) = lessS l[k] l[k + 1] := by
  unfold wordOk
  rw [getD_at l (k + 1) hk, h, show k + 1 - 1 = k by omega, getD_at l k (by omega)]
  simp
theorem entOk_1 {x : Ent} (h : inB x.num 1 1000000 = false) : entOk x = false := by unfold entOk; rw [h]; rfl
theorem entOk_2 {x : Ent} (h : isNm x.name.data.toList = false) : entOk x = false := by unfold entOk; rw [h]; simp
theorem entOk_3 {x : Ent} (h : isNm x.maker.data.toList = false) : entOk x = false := by unfold entOk; rw [h]; simp
theorem entOk_4 {x : Ent} (h : inB x.year 1000 3000 = false) : entOk x = false := by unfold entOk; rw [h]; simp
theorem entOk_5 {x : Ent} (h : 8 < x.words.length) : entOk x = false := by unfold entOk; rw [decide_eq_false (by omega)]; simp
theorem entOk_6 {x : Ent} (h1 : inB x.num 1 1000000 = true) (h2 : isNm x.name.data.toList = true) (h3 : isNm x.maker.data.toList = true) (h4 : inB x.year 1000 3000 = true) (h5 : x.words.length ≤ 8) : entOk x = chk x.words.length (wordOk x.words) := by unfold entOk; rw [h1, h2, h3, h4, decide_eq_true h5]; simp

set_option maxRecDepth 100000 in
set_option maxHeartbeats 3200000 in
theorem validEntry_any (B : Nat) (x : Ent) (A : Option Addr) (c : Nat) (w : World) (h : Rd w B (.slice A x.words.length c) x.words.length 1 (strs x.words)) (hB : B ≤ w.heap.size) (hsm : smE x) :
    Calls Tryd.prog 26 #[aggE x A c] w fun e w' => e = .returned (.bool (entOk x)) ∧ Below w.heap.size w w' := by
  obtain ⟨num, name, maker, year, words⟩ := x
  obtain ⟨l1, l2, l3, l4⟩ := hsm
  dsimp only at *
  have hsz := Lib.hid l4
  have hb0 := Lib.hid ((Below.refl w.heap.size w).alloc (Nat.le_refl _) (.cells #[.int .i64 num, .string name, .string maker, .int .i64 year, .slice A words.length c] 38))
  have H := Lib.hid (h.below (hb0.out.mono hB))
  have HB1 := Lib.hid (fun wx => between_any num 1 1000000 wx)
  have HB2 := Lib.hid (fun wx => IsNameI_any name wx l1)
  have HB3 := Lib.hid (fun wx => IsNameI_any maker wx l2)
  have HB4 := Lib.hid (fun wx => between_any year 1000 3000 wx)
  clear h l4
  cases g1 : inB num 1 1000000 with
  | false =>
    have hfin := Lib.hid (entOk_1 (x := ⟨num, name, maker, year, words⟩) g1)
    rw [g1] at HB1
    clear g1
    go_enter Tryd.func26, Tryd.ntmps26
    go_wp2_with fail
    refine (HB1.out _).mono ?_; rintro e w1 ⟨rfl, rfl⟩
    go_wp2_with fail
    go_ret
    rw [hfin.out]; exact ⟨rfl, hb0.out⟩
  | true =>
    rw [g1] at HB1
    cases g2 : isNm name.data.toList with
    | false =>
      have hfin := Lib.hid (entOk_2 (x := ⟨num, name, maker, year, words⟩) g2)
      rw [g2] at HB2
      clear g1 g2
      go_enter Tryd.func26, Tryd.ntmps26
      go_wp2_with fail
      refine (HB1.out _).mono ?_; rintro e w1 ⟨rfl, rfl⟩
      go_wp2_with fail
      refine (HB2.out _).mono ?_; rintro e w1 ⟨rfl, rfl⟩
      go_wp2_with fail
      go_ret
      rw [hfin.out]; exact ⟨rfl, hb0.out⟩
    | true =>
      rw [g2] at HB2
      cases g3 : isNm maker.data.toList with
      | false =>
        have hfin := Lib.hid (entOk_3 (x := ⟨num, name, maker, year, words⟩) g3)
        rw [g3] at HB3
        clear g1 g2 g3
        go_enter Tryd.func26, Tryd.ntmps26
        go_wp2_with fail
        refine (HB1.out _).mono ?_; rintro e w1 ⟨rfl, rfl⟩
        go_wp2_with fail
        refine (HB2.out _).mono ?_; rintro e w1 ⟨rfl, rfl⟩
        go_wp2_with fail
        refine (HB3.out _).mono ?_; rintro e w1 ⟨rfl, rfl⟩
        go_wp2_with fail
        go_ret
        rw [hfin.out]; exact ⟨rfl, hb0.out⟩
      | true =>
        rw [g3] at HB3
        cases g4 : inB year 1000 3000 with
        | false =>
          have hfin := Lib.hid (entOk_4 (x := ⟨num, name, maker, year, words⟩) g4)
          rw [g4] at HB4
          clear g1 g2 g3 g4
          go_enter Tryd.func26, Tryd.ntmps26
          go_wp2_with fail
          refine (HB1.out _).mono ?_; rintro e w1 ⟨rfl, rfl⟩
          go_wp2_with fail
          refine (HB2.out _).mono ?_; rintro e w1 ⟨rfl, rfl⟩
          go_wp2_with fail
          refine (HB3.out _).mono ?_; rintro e w1 ⟨rfl, rfl⟩
          go_wp2_with fail
          refine (HB4.out _).mono ?_; rintro e w1 ⟨rfl, rfl⟩
          go_wp2_with fail
          go_ret
          rw [hfin.out]; exact ⟨rfl, hb0.out⟩
        | true =>
          rw [g4] at HB4
          by_cases g5 : 8 < words.length
          · have hfin := Lib.hid (entOk_5 (x := ⟨num, name, maker, year, words⟩) g5)
            have g5' : (8 : Int) < (words.length : Int) := by omega
            clear g1 g2 g3 g4
            go_enter Tryd.func26, Tryd.ntmps26
            go_wp2_with fail
            refine (HB1.out _).mono ?_; rintro e w1 ⟨rfl, rfl⟩
            go_wp2_with fail
            refine (HB2.out _).mono ?_; rintro e w1 ⟨rfl, rfl⟩
            go_wp2_with fail
            refine (HB3.out _).mono ?_; rintro e w1 ⟨rfl, rfl⟩
            go_wp2_with fail
            refine (HB4.out _).mono ?_; rintro e w1 ⟨rfl, rfl⟩
            go_wp2_with fail
            go_ret
            rw [hfin.out]; exact ⟨rfl, hb0.out⟩
          · have hfin := Lib.hid (entOk_6 (x := ⟨num, name, maker, year, words⟩) g1 g2 g3 g4 (by show words.length ≤ 8; omega))
            (try dsimp only at hfin)
            have g5' : (words.length : Int) ≤ 8 := by omega
            clear g1 g2 g3 g4
            go_enter Tryd.func26, Tryd.ntmps26
            go_wp2_with fail
            refine (HB1.out _).mono ?_; rintro e w1 ⟨rfl, rfl⟩
            go_wp2_with fail
            refine (HB2.out _).mono ?_; rintro e w1 ⟨rfl, rfl⟩
            go_wp2_with fail
            refine (HB3.out _).mono ?_; rintro e w1 ⟨rfl, rfl⟩
            go_wp2_with fail
            refine (HB4.out _).mono ?_; rintro e w1 ⟨rfl, rfl⟩
            go_wp2_with fail
            go_loop [36] (fun i => ∃ k : Nat, k ≤ words.length ∧ chk k (wordOk words) = true ∧ i = .int .i64 k) (fun i => words.length - (intOf i).toNat)
            case atStart => exact ⟨0, Nat.zero_le _, rfl, rfl⟩
            case round =>
              obtain ⟨k, hk, hall, rfl⟩ := hrel
              have Hall := Lib.hid hall; clear hall
              by_cases hlt : k < words.length
              · obtain ⟨_, b1, o1, hA, hx⟩ := rd_at H.out k hlt
                have HA := Lib.hid hA
                have hlt' : (k : Int) < (words.length : Int) := by omega
                have Hbad := Lib.hid (fun h => hfin.out.trans (chk_bad (f := wordOk words) k hlt h))
                have Hst := Lib.hid (fun h => chk_step (f := wordOk words) (k := k) Hall.out h)
                have Hn := Lib.hid (fun h => wordOk_nm words k hlt h)
                have HN := Lib.hid (fun wx => IsNameI_any words[k] wx (hsz.out _ (List.getElem_mem hlt)))
                cases k with
                | zero =>
                  have H0 := Lib.hid (fun h => wordOk_0 words hlt h)
                  generalize words[0] = z at *
                  subst hA
                  rw [Nat.add_zero] at hx
                  clear HA
                  cases g : isNm z.data.toList with
                  | false =>
                    have hf := Lib.hid (Hbad.out (Hn.out g))
                    rw [g] at HN
                    clear Hbad Hst Hn g H0
                    go_wp2_with fail
                    refine (HN.out _).mono ?_; rintro e w1 ⟨rfl, rfl⟩
                    go_wp2_with fail
                    go_ret
                    rw [hf.out]; exact ⟨rfl, hb0.out⟩
                  | true =>
                    have hst := Lib.hid (Hst.out (H0.out g))
                    rw [g] at HN
                    clear Hbad Hst Hn g H0
                    go_wp2_with fail
                    refine (HN.out _).mono ?_; rintro e w1 ⟨rfl, rfl⟩
                    go_wp2_with fail
                    go_round
                    case rel => exact ⟨1, by omega, hst.out, by go_num⟩
                    case measure => simp [intOf]; omega
                | succ m =>
                  obtain ⟨_, b1', o1', hA', hy⟩ := rd_at H.out m (by omega)
                  rw [HA.out] at hA'
                  obtain ⟨rfl, rfl⟩ : b1 = b1' ∧ o1 = o1' := by simpa using hA'
                  have H0 := Lib.hid (fun h => wordOk_s words m hlt h)
                  generalize words[m + 1] = z at *
                  generalize words[m] = y at *
                  subst hA
                  clear hA'
                  cases g : isNm z.data.toList with
                  | false =>
                    have hf := Lib.hid (Hbad.out (Hn.out g))
                    rw [g] at HN
                    clear Hbad Hst Hn g H0
                    go_wp2_with fail
                    refine (HN.out _).mono ?_; rintro e w1 ⟨rfl, rfl⟩
                    go_wp2_with fail
                    go_ret
                    rw [hf.out]; exact ⟨rfl, hb0.out⟩
                  | true =>
                    rw [g] at HN
                    have h1 := H0.out g
                    have hm1 : IntKind.i64.wrap (((m + 1 : Nat) : Int) - 1) = (m : Int) := by rw [IntWalk.i64_in _ (by omega)]; omega
                    have hm2 : ((m + 1 : Nat) : Int) - 1 = (m : Int) := by omega
                    have hpos : (0 : Int) < ((m + 1 : Nat) : Int) := by omega
                    cases gl : lessS y z with
                    | true =>
                      have hst := Lib.hid (Hst.out (h1.trans gl))
                      obtain ⟨t1, t2, t3, t4⟩ := less_yes gl
                      clear Hbad Hst Hn g H0 h1 gl
                      go_wp2_with fail
                      refine (HN.out _).mono ?_; rintro e w1 ⟨rfl, rfl⟩
                      go_wp2_with fail
                      clear hm1 hm2
                      go_round
                      case rel => exact ⟨m + 1 + 1, by omega, hst.out, by go_num⟩
                      case measure => simp [intOf]; omega
                    | false =>
                      have hf := Lib.hid (Hbad.out (h1.trans gl))
                      obtain ⟨t1, t2⟩ := less_no gl
                      clear Hbad Hst Hn g H0 h1 gl
                      go_wp2_with fail
                      refine (HN.out _).mono ?_; rintro e w1 ⟨rfl, rfl⟩
                      go_wp2_with fail
                      clear hm1 hm2
                      go_ret
                      rw [hf.out]; exact ⟨rfl, hb0.out⟩
              · have hf := Lib.hid (show entOk ⟨num, name, maker, year, words⟩ = true by rw [hfin.out, show words.length = k by omega]; exact Hall.out)
                have hlt' : (words.length : Int) ≤ (k : Int) := by omega
                go_wp2_with fail
                go_ret
                rw [hf.out]; exact ⟨rfl, hb0.out⟩
end Go.Proofs.YtbfhlkpicehnlaaDoor
