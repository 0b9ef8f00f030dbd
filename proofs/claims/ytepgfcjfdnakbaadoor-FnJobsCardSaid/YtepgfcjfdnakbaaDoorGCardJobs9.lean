/- Merged texts: Jc8, Jb23, Jc9, Jc10, Pq8. -/
import Derived.Test.YtepgfcjfdnakbaaDoorGCardJobs8
import Derived.Test.YtepgfcjfdnakbaaDoorGCardJobs1
import Derived.Deep.DeepCutAuto
import Derived.Deep.CutRange
/- Jobs, texts and laws, part 8: a list of jobs that a call makes, with a job under way; a map from names to places. -/
namespace Go.Proofs.YtepgfcjfdnakbaaDoor
open Go.RowKit Go.Joins Go.Maps

/-! a map from names to places -/
def plV (xs : List Jb) (s : ByteArray) : Int := if 0 ≤ lastJ xs s xs.length then lastJ xs s xs.length else 0
def PlMap (w : World) (b : Nat) (xs : List Jb) : Prop :=
  ∃ D : DataW Unit, w.ownsMap Tryd.prog 9 (plainElem Tryd.prog 2) b xs.length D ∧ IsMap D ∧ ∀ s : ByteArray, has D (.string s.data.toList) = decide (0 ≤ lastJ xs s xs.length) ∧ D.atKey (.string s.data.toList) (.lit (.int .i64 0)) = .lit (.int .i64 (plV xs s))
theorem PlMap.made (w : World) : PlMap (w.alloc (.map #[] 0)) w.heap.size [] :=
  ⟨.map [], World.ownsMap_made _ _ _ _, isMap_empty, fun s => ⟨rfl, rfl⟩⟩
theorem PlMap.lt {w : World} {b : Nat} {xs : List Jb} (h : PlMap w b xs) : b < w.heap.size := by
  obtain ⟨D, h1, _⟩ := h
  exact h1.lt
theorem PlMap.kept {w w' : World} {b : Nat} {xs : List Jb} {row : Option Nat} (h : PlMap w b xs) (hg : w.grownBy w' row) (hne : some b ≠ row) : PlMap w' b xs := by
  obtain ⟨D, h1, h2, h3⟩ := h
  exact ⟨D, h1.kept hg hne, h2, h3⟩
theorem PlMap.below {w w' : World} {b : Nat} {xs : List Jb} (h : PlMap w b xs) (hb : Below w.heap.size w w') : PlMap w' b xs := h.kept (grown_of_below hb none) (by simp)
theorem PlMap.belQ {w w' : World} {b B : Nat} {xs : List Jb} (h : PlMap w b xs) (hb : Below B w w') (hl : b < B) : PlMap w' b xs := by
  obtain ⟨D, ⟨es, clock, h0, F, hs, hD⟩, h2, h3⟩ := h
  exact ⟨D, ⟨es, clock, (hb.block b hl).trans h0, F, hs, hD⟩, h2, h3⟩
set_option maxRecDepth 100000 in
theorem zeroInt (w : World) : (zeroValue 2).run Tryd.prog w = .ok (.int .i64 0) w := by kernel_rfl
theorem PlMap.look {w : World} {b : Nat} {xs : List Jb} (h : PlMap w b xs) (s : ByteArray) (hs : s.size ≤ maxLen) :
    (Instr.lookup 91 (.map (some b)) (.string s) true).run Tryd.prog w = .ok (.tuple #[.int .i64 (plV xs s), .bool (decide (0 ≤ lastJ xs s xs.length))]) w := by
  obtain ⟨D, h1, h2, h3⟩ := h
  obtain ⟨v, ps, hrun, hv⟩ := h1.look_ok keyedS Tryd.underlying91 (zeroInt w) (plainElem_int Tryd.underlying2 (by decide)) (Go.WideMaps.keyOf_string_mk Tryd.underlying9 hs)
  rw [(h3 s).2] at hv
  rw [(h3 s).1] at hrun
  obtain ⟨x, rfl, hx, _⟩ := plainElem_int_inv Tryd.underlying2 hv
  have : plV xs s = x := (by simpa using hx : plV xs s = x ∧ ps = []).1
  rw [this]
  exact hrun
theorem lastJ_snoc (xs : List Jb) (x : Jb) (s : ByteArray) : lastJ (xs ++ [x]) s (xs ++ [x]).length = if x.nm = s then (xs.length : Int) else lastJ xs s xs.length := by
  rw [List.length_append, List.length_singleton]
  show (if (jg (xs ++ [x]) xs.length).nm = s then (xs.length : Int) else lastJ (xs ++ [x]) s xs.length) = _
  rw [jg_last, lastJ_congr xs.length fun i hi => jg_appL hi]
theorem PlMap.upd {w : World} {b : Nat} {xs : List Jb} (h : PlMap w b xs) (x : Jb) (hs : x.nm.size ≤ maxLen) (hn : xs.length ≤ 100000) :
    ∃ w', (Instr.mapUpdate 91 (.map (some b)) (.string x.nm) (.int .i64 (xs.length : Int))).run Tryd.prog w = .ok () w' ∧ PlMap w' b (xs ++ [x]) ∧ w.grownBy w' (some b) := by
  obtain ⟨D, h1, h2, h3⟩ := h
  have hwf : (Lit.int .i64 (xs.length : Int)).wf = true := by
    unfold Lit.wf
    rw [Bool.and_eq_true, decide_eq_true_eq, decide_eq_true_eq]
    have e1 : IntKind.i64.min = -9223372036854775808 := by decide
    have e2 : IntKind.i64.max = 9223372036854775807 := by decide
    rw [e1, e2]
    omega
  obtain ⟨w', hrun, hown, hg⟩ := h1.update keyedS Tryd.underlying91 (by simp only [maxLen]; omega) (WideMaps.keyOf_string_mk Tryd.underlying9 hs) (plainElem_int Tryd.underlying2 hwf)
  refine ⟨w', hrun, ⟨_, by rw [List.length_append]; exact hown, h2.put _ _, fun s => ?_⟩, hg⟩
  by_cases e : x.nm = s
  · subst e
    have hl := lastJ_snoc xs x x.nm
    rw [if_pos rfl] at hl
    constructor
    · rw [has_put_same h2 (by trivial), hl]
      exact (decide_eq_true (by omega)).symm
    · rw [atKey_put_same h2 (by trivial)]
      unfold plV
      rw [hl, if_pos (by omega)]
  · have hl := lastJ_snoc xs x s
    rw [if_neg e] at hl
    have hne : (Lit.string s.data.toList) ≠ Lit.string x.nm.data.toList := by intro e2; injection e2 with e3; exact e (ba_list e3).symm
    constructor
    · rw [has_put_other hne, (h3 s).1, hl]
    · rw [atKey_put_other hne, (h3 s).2]
      unfold plV
      rw [hl]
theorem own_notmap {w : World} {base sz n b : Nat} {e : TypeId} {v : Value} {cs : List Value} {xs : List Jb} (h : w.ownsRow base e sz v n cs) (hm : PlMap w b xs) : v.ownBlock ≠ some b := by
  rcases h.2 with ⟨rfl, _⟩ | ⟨g1, cap1, cur1, rfl, _, hg1, _⟩
  · simp [Value.ownBlock]
  · intro he
    obtain rfl : g1 = b := by simpa [Value.ownBlock] using he
    obtain ⟨D, ⟨es, clock, h0, _⟩, _⟩ := hm
    rw [hg1] at h0
    cases h0
/-! lists of jobs under way -/
structure OwJ (W w : World) (v : Value) (ys : List (Jb × Value)) : Prop where
  row : w.ownsRow W.heap.size 62 4 v ys.length (ys.flatMap cellsJ)
  nds : ∀ y ∈ ys, w.ownsRow W.heap.size 2 1 y.2 y.1.needs.length (intV y.1.needs)
  bel : Below W.heap.size W w
theorem OwJ.below {W w w' : World} {v : Value} {ys : List (Jb × Value)} (h : OwJ W w v ys) (hb : Below w.heap.size w w') : OwJ W w' v ys :=
  ⟨own_below h.row hb, fun y hy => own_below (h.nds y hy) hb, h.bel.trans (hb.mono h.bel.size)⟩
theorem OwJ.rd {W w : World} {v : Value} {ys : List (Jb × Value)} (h : OwJ W w v ys) : RdJ w w.heap.size v (jbsOf ys) :=
  ⟨ys, rfl, by rw [jbsOf_len]; exact Rd.of_own h.row, fun y hy => Rd.of_own (h.nds y hy)⟩
theorem OwJ.none (W : World) : OwJ W (W.alloc (.cells #[] 62)) (.slice (some ⟨W.heap.size, 0, none⟩) 0 0) [] :=
  ⟨World.ownsRow_made (base := W.heap.size) (e := 62) (size := 4) W #[] 0 (Nat.le_refl _) (by simp [maxLen]) rfl, fun y hy => (by cases hy), (Below.refl W.heap.size W).alloc (Nat.le_refl _) _⟩
structure OwQ (W w : World) (v : Value) (ys : List (Jb × Value)) (q : Nat) (a b c d : Value) (l : List Int) : Prop extends OwJ W w v ys where
  hq : w.heap[q]? = some (.cells #[a, b, c, d] 62 (0, 0))
  rq : W.heap.size ≤ q
  ne : v.ownBlock ≠ some q
  old : ∀ y ∈ ys, ∀ x, y.2.ownBlock = some x → x < q
  cur : w.ownsRow (q + 1) 2 1 d l.length (intV l)
theorem OwQ.qlt {W w : World} {q : Nat} {v a b c d : Value} {ys : List (Jb × Value)} {l : List Int} (h : OwQ W w v ys q a b c d l) : q < w.heap.size := (Array.getElem?_eq_some_iff.1 h.hq).1
theorem OwQ.below {W w w' : World} {q : Nat} {v a b c d : Value} {ys : List (Jb × Value)} {l : List Int} (h : OwQ W w v ys q a b c d l) (hb : Below w.heap.size w w') : OwQ W w' v ys q a b c d l :=
  ⟨h.toOwJ.below hb, (hb.block q h.qlt).trans h.hq, h.rq, h.ne, h.old, own_below h.cur hb⟩
theorem OwQ.new {W w : World} {v : Value} {ys : List (Jb × Value)} (h : OwJ W w v ys) (a b c : Value) : OwQ W (w.alloc (.cells #[a, b, c, .slice none 0 0] 62)) v ys w.heap.size a b c (.slice none 0 0) [] :=
  ⟨h.below ((Below.refl w.heap.size w).alloc (Nat.le_refl _) _), heap_alloc_new w _, h.bel.size, fun e => Nat.lt_irrefl _ (h.row.lt _ e).2, fun y hy x hx => ((h.nds y hy).lt x hx).2, ⟨by simp [intV], .inl ⟨rfl, rfl⟩⟩⟩
/-- a need comes to the job's needs -/
theorem OwQ.app {W w w1 : World} {q : Nat} {v a b c d d' : Value} {ys : List (Jb × Value)} {l : List Int} {n : Int} (h : OwQ W w v ys q a b c d l) (hg : w.grownBy w1 d.ownBlock)
    (hr : w1.ownsRow (q + 1) 2 1 d' (l.length + 1) (intV l ++ (#[Value.int .i64 n] : Array Value).toList)) : OwQ W (w1.setCell ⟨q, 3, none⟩ d') v ys q a b c d' (l ++ [n]) ∧ w1.heap[q]? = some (.cells #[a, b, c, d] 62 (0, 0)) ∧ Below q w (w1.setCell ⟨q, 3, none⟩ d') := by
  have hrq := h.rq
  have hdb : ∀ x, d.ownBlock = some x → q + 1 ≤ x := fun x hx => (h.cur.lt x hx).1
  have hq1 : w1.heap[q]? = some (.cells #[a, b, c, d] 62 (0, 0)) := (hg.block q h.qlt (fun e => by have := hdb q e.symm; omega)).trans h.hq
  have hr2 : w1.ownsRow (q + 1) 2 1 d' (l ++ [n]).length (intV (l ++ [n])) := by
    have e : intV (l ++ [n]) = intV l ++ (#[Value.int .i64 n] : Array Value).toList := by simp [intV]
    rw [e, List.length_append]
    exact hr
  have hbq : Below q w (w1.setCell ⟨q, 3, none⟩ d') := (below_apd (Below.refl q w) h.cur hg (by omega) (by have := h.qlt; omega)).setCell (p := ⟨q, 3, none⟩) (Nat.le_refl _) d'
  have hrow := h.row.kept hg (apart_p h.row h.cur (by decide))
  refine ⟨⟨⟨ownsRow_setCell_other hrow (a := ⟨q, 3, none⟩) h.ne d', fun y hy => ?_, h.bel.trans (hbq.mono hrq)⟩, ?_, hrq, h.ne, h.old, ?_⟩, hq1, hbq⟩
  · have h1 : w1.ownsRow W.heap.size 2 1 y.2 y.1.needs.length (intV y.1.needs) := (h.nds y hy).kept hg (by
      cases hv : y.2.ownBlock with
      | none => exact .inl rfl
      | some x => exact .inr fun e => by have h1 := h.old y hy x hv; have h2 := hdb x e.symm; omega)
    exact ownsRow_setCell_other h1 (a := ⟨q, 3, none⟩) (fun e => Nat.lt_irrefl _ (h.old y hy q e)) d'
  · exact heap_setCell_same w1 q 3 _ _ d' hq1
  · exact ownsRow_setCell_other hr2 (a := ⟨q, 3, none⟩) (fun e => by have := (hr2.lt q e).1; omega) d'
/-- the map is written -/
theorem OwQ.mapUp {W w w1 : World} {q pm : Nat} {v a b c d : Value} {ys : List (Jb × Value)} {l : List Int} {xs : List Jb} (h : OwQ W w v ys q a b c d l) (hm : PlMap w pm xs) (hg : w.grownBy w1 (some pm)) (hp : W.heap.size ≤ pm) : OwQ W w1 v ys q a b c d l := by
  have hk : ∀ {base sz n : Nat} {e : TypeId} {u : Value} {cs : List Value}, w.ownsRow base e sz u n cs → w1.ownsRow base e sz u n cs := fun hr => hr.kept hg (.inr (own_notmap hr hm))
  have hqp : q ≠ pm := by
    intro e
    subst e
    obtain ⟨D, ⟨es, clock, h0, _⟩, _⟩ := hm
    rw [h.hq] at h0
    cases h0
  refine ⟨⟨hk h.row, fun y hy => hk (h.nds y hy), ?_⟩, (hg.block q h.qlt (fun e => hqp (by injection e))).trans h.hq, h.rq, h.ne, h.old, hk h.cur⟩
  exact h.bel.grown hg h.bel.size (fun k hk => by injection hk with e; omega)
/-- the job comes to the list's end -/
theorem OwQ.snoc {W w w' : World} {q : Nat} {v v' d : Value} {ys : List (Jb × Value)} {nm : ByteArray} {dd cc : Int} {l : List Int} (h : OwQ W w v ys q (.string nm) (.int .i64 dd) (.int .i64 cc) d l)
    (hr : w'.ownsRow W.heap.size 62 4 v' (ys.length + 1) (ys.flatMap cellsJ ++ (#[Value.string nm, .int .i64 dd, .int .i64 cc, d] : Array Value).toList)) (hg : w.grownBy w' v.ownBlock) :
    OwJ W w' v' (ys ++ [(⟨nm, dd, cc, l⟩, d)]) := by
  have e : ys.flatMap cellsJ ++ (#[Value.string nm, .int .i64 dd, .int .i64 cc, d] : Array Value).toList = (ys ++ [((⟨nm, dd, cc, l⟩ : Jb), d)]).flatMap cellsJ := by
    rw [List.flatMap_append]; simp [cellsJ]
  rw [e] at hr
  have hlen : (ys ++ [((⟨nm, dd, cc, l⟩ : Jb), d)]).length = ys.length + 1 := by simp
  refine ⟨by rw [hlen]; exact hr, fun y hy => ?_, below_apd h.bel h.row hg (Nat.le_refl _) h.bel.size⟩
  rcases List.mem_append.1 hy with hy | hy
  · exact (h.nds y hy).kept hg (apart_p (h.nds y hy) h.row (by decide))
  · rw [List.mem_singleton.1 hy]
    exact ownsRow_le (h.cur.kept hg (apart_p h.cur h.row (by decide))) (by have := h.rq; omega)
theorem jbsOf_snoc (ys : List (Jb × Value)) (y : Jb × Value) : jbsOf (ys ++ [y]) = jbsOf ys ++ [y.1] := by unfold jbsOf; simp
/-- jobs that are read, and whether the text told them -/
def RetRj (w : World) (r : Option (List Jb)) (e : Ending) (w' : World) : Prop :=
  ∃ v ys, e = .returned (.tuple #[v, .bool r.isSome]) ∧ jbsOf ys = r.getD [] ∧ OwJ w w' v ys ∧ szJ (jbsOf ys) ∧ ys.length ≤ 30
theorem RetRj.none {w w' : World} {r : Option (List Jb)} (h : r = none) (hb : Below w.heap.size w w') : RetRj w r (.returned (.tuple #[.slice none 0 0, .bool false])) w' := by
  subst h
  exact ⟨_, [], rfl, rfl, ⟨⟨rfl, .inl ⟨rfl, rfl⟩⟩, fun y hy => (by cases hy), hb⟩, fun k hk => absurd hk (by simp [jbsOf]), by simp⟩
theorem OwJ.from {W W' w : World} {v : Value} {ys : List (Jb × Value)} (h : OwJ W' w v ys) (hb : Below W.heap.size W W') : OwJ W w v ys :=
  ⟨ownsRow_le h.row hb.size, fun y hy => ownsRow_le (h.nds y hy) hb.size, hb.trans (h.bel.mono hb.size)⟩
theorem RetRj.some {w w' : World} {r : Option (List Jb)} {ys : List (Jb × Value)} {v : Value} (h : r = some (jbsOf ys)) (ho : OwJ w w' v ys) (hz : szJ (jbsOf ys)) (hl : ys.length ≤ 30) : RetRj w r (.returned (.tuple #[v, .bool true])) w' := by
  subst h; exact ⟨_, ys, rfl, rfl, ho, hz, hl⟩
theorem mkJ_sm {l : List ByteArray} {n : Nat} (hl : ∀ z ∈ l, z.size ≤ n) : ∀ k, k ≤ l.length → okWJ l k → ∀ x ∈ mkJ l k, x.nm.size ≤ n ∧ x.needs.length ≤ n + 1 := by
  intro k
  induction k with
  | zero => intro _ _ x hx; cases hx
  | succ k ih =>
    intro hk ho x hx
    obtain ⟨r, hr⟩ := Option.isSome_iff_exists.1 (ho k (by omega) (by omega))
    rw [mkJ_step (by omega) hr] at hx
    rcases List.mem_append.1 hx with hx | hx
    · exact ih (by omega) (fun i hi h2 => ho i hi (by omega)) x hx
    · rw [List.mem_singleton.1 hx]
      have h1 := rdWJ_size hr
      have h2 := hl _ (List.getElem_mem (show k < l.length by omega))
      dsimp only
      rw [List.length_map]
      omega
theorem mkJ_sz {l : List ByteArray} (hl : ∀ z ∈ l, z.size ≤ 1000000) {k : Nat} (hk : k ≤ l.length) (ho : okWJ l k) : szJ (mkJ l k) := fun i hi => by
  have := mkJ_sm hl k hk ho _ (List.getElem_mem hi)
  rw [jg_at hi]
  omega
end Go.Proofs.YtepgfcjfdnakbaaDoor
/- Jobs, part 23: l22Draw (gen_jb23.py). -/
namespace Go.Proofs.YtepgfcjfdnakbaaDoor
open Go.RowKit Go.Joins

theorem JbQ.put {W w : World} {B g k q : Nat} {bs : List UInt8} {v a b c : Value} {ys : List (Jb × Value)} (h : JbQ W w B g k bs v ys q a b c (.slice none 0 0) []) (a' b' c' : Value) : JbQ W (put4P w q a' b' c' (.slice none 0 0)) B g k bs v ys q a' b' c' (.slice none 0 0) [] :=
  (((h.set 0 a' rfl rfl).set 1 b' rfl rfl).set 2 c' rfl rfl).set 3 (.slice none 0 0) rfl rfl
def RetDj (w : World) (B g k : Nat) (bs : List UInt8) (e : Ending) (w' : World) : Prop := ∃ v ys, e = .returned v ∧ ys.length ≤ 9 ∧ DrJ w w' B g k bs v ys
def jbL : List ByteArray := [⟨#[99, 108, 101, 97, 110]⟩, ⟨#[109, 101, 97, 115, 117, 114, 101]⟩, ⟨#[100, 114, 117, 109, 115]⟩, ⟨#[108, 101, 118, 101, 114, 115]⟩, ⟨#[99, 97, 114, 114, 105, 97, 103, 101]⟩, ⟨#[98, 101, 108, 108]⟩, ⟨#[116, 101, 115, 116]⟩, ⟨#[112, 97, 105, 110, 116]⟩, ⟨#[99, 97, 115, 101]⟩]
theorem jbL_sz : ∀ z ∈ jbL, z.size ≤ 16 := by decide
theorem ones4J (a : ByteArray) (b c : Int) (A : Option Addr) (n m : Nat) : ∀ u ∈ (#[Value.string a, .int .i64 b, .int .i64 c, .slice A n m] : Array Value).toList, u.oneCell' = true := by
  intro u hu
  simp only [List.mem_cons, List.not_mem_nil, or_false] at hu
  rcases hu with rfl | rfl | rfl | rfl <;> rfl
set_option maxRecDepth 100000 in
set_option maxHeartbeats 6400000 in
theorem l22Draw_any (B g k : Nat) (bs : List UInt8) (w : World) (hs : SrcAt w B g k bs) (hk : k + 400 ≤ 4611686018427380000) :
    Calls Tryd.prog 86 #[.pointer (some ⟨g, 0, none⟩)] w (RetDj w B g (k + 202) bs) := by
  have hlt := hs.lt
  have hb0 := (Below.refl w.heap.size w).alloc (Nat.le_refl _) (.cells (jbL.map Value.string).toArray 9)
  have Hg0 := Lib.hid (grown_of_below hb0 (some g))
  have HD0 := Lib.hid (show DrJ (w.alloc (.cells (jbL.map Value.string).toArray 9)) ((w.alloc (.cells (jbL.map Value.string).toArray 9)).alloc (.cells #[] 62)) B g k bs (.slice (some ⟨w.heap.size + 1, 0, none⟩) 0 0) [] from by
    have e : w.heap.size + 1 = (w.alloc (.cells (jbL.map Value.string).toArray 9)).heap.size := by simp
    rw [e]
    exact ⟨DrR.made (hs.below hb0) _ _, fun y hy => (by cases hy), by simp, fun x hx => (by cases hx), _, _, rfl⟩)
  have HNm := Lib.hid (fun i hi => alloc_strs w jbL 9 i hi)
  have Hlt := Lib.hid (show w.heap.size < (w.alloc (.cells (jbL.map Value.string).toArray 9)).heap.size by simp)
  have hng : w.heap.size ≠ g := by omega
  clear hs hb0
  go_enter Tryd.func86, Tryd.ntmps86
  go_wp2_with fail
  refine (pick_any B g k bs 10 _ HD0.out.dr.src (by omega)).mono ?_; rintro e w1 ⟨x, rfl, ⟨hx0, hx1, _⟩, hs1, hg1⟩
  have HD1 := Lib.hid (HD0.out.draw hs1 hg1)
  have hx9 := hx1 (by omega)
  obtain ⟨c, hc⟩ : ∃ c : Nat, x = (c : Int) := ⟨x.toNat, by omega⟩
  have hc10 : c ≤ 9 := by omega
  clear hs1 hg1 hx1 HD0
  obtain ⟨W1, hW1⟩ : ∃ z, w.alloc (.cells (jbL.map Value.string).toArray 9) = z := ⟨_, rfl⟩
  rw [hW1] at HD1 Hlt Hg0 HNm
  clear hW1
  go_wp2_with fail
  (try rw [hc])
  clear hc hx0 hx9
  go_loopw [4, 5] (fun o i wr => ∃ (j : Nat) (ys : List (Jb × Value)), j + ys.length = c ∧ i = .int .i64 (j : Int) ∧ DrJ W1 wr B g (k + 2 + 22 * ys.length) bs o ys) (fun _ i _ => (intOf i).toNat)
  case atStart => exact ⟨c, [], by simp, rfl, HD1.out⟩
  case round =>
    obtain ⟨j, ys, hjc, rfl, hd⟩ := hrel
    obtain ⟨b0, c0, rfl⟩ := hd.nn
    have HD := Lib.hid hd
    have Hjc := Lib.hid hjc
    have hxl : ys.length ≤ 9 := by omega
    clear HD1
    by_cases hj : 0 < j
    · have hj' : (0 : Int) < (j : Int) := by omega
      have hjj : (j : Int) - 1 = ((j - 1 : Nat) : Int) := by omega
      have Hjj := Lib.hid hjj
      have hj10 : (j : Int) ≤ 9 := by omega
      have hx10 : ys.length < 9 := by omega
      have hx10' : (ys.length : Int) < 9 := by omega
      have hz16 := jbL_sz (jbL[ys.length]'(by show ys.length < 9; omega)) (List.getElem_mem _)
      have HNx := Lib.hid (fun wy (hg : W1.grownBy wy (some g)) => (World.cell?_of_block (a := ⟨w.heap.size, ys.length, none⟩) (hg.block w.heap.size Hlt.out (fun e => hng (by injection e)))).trans (HNm.out ys.length (by show ys.length < 9; omega)))
      generalize (jbL[ys.length]'(by show ys.length < 9; omega)) = z at *
      have hn := HNx.out wr.drew hd.drew.dr.gr
      have HDd := Lib.hid hd.drew
      clear hd hjc hjj
      go_upto_region 7 with (fail)
      go_cut [7] (fun s7 wx => ∃ (q : Nat) (y2 y3 : Int), s7 = .pointer (some ⟨q, 0, none⟩) ∧ (1 ≤ y2 ∧ y2 ≤ 9) ∧ (0 ≤ y3 ∧ y3 ≤ 50) ∧ JbQ W1 wx B g (k + 2 + 22 * ys.length + 4) bs (.slice (some ⟨b0, 0, none⟩) ys.length c0) ys q (.string z) (.int .i64 y2) (.int .i64 y3) (.slice none 0 0) [])
      case first =>
        refine wp_region_noPanic ?_
        refine wp_region_L [] (fun w' => w'.cell? ⟨w.heap.size, ys.length, none⟩ = some (.string z)) (by kernel_rfl) (hn) (fun hHeld => ?_)
        refine take_F (i := 0) (d := some 22) (v := ?_) (by kernel_rfl) (by kernel_rfl) rfl rfl (by kernel_rfl) (by kernel_rfl) (by kernel_rfl) (fun _ _ _ h => h) (Or.inl ⟨by rfl, ?_⟩) (by assumption) ?_
        rotate_left
        · (intro w hSw; (try dsimp only at hSw); go_simp; (try rw [if_neg (by omega)]); (try (with_reducible rfl)))
        simp only [Act.put, List.setIfInBounds_toArray, List.set_cons_zero, List.set_cons_succ]
        refine take_F (i := 1) (d := some 23) (v := ?_) (by kernel_rfl) (by kernel_rfl) rfl rfl (by kernel_rfl) (by kernel_rfl) (by kernel_rfl) (fun _ _ _ h => h) (Or.inl ⟨by rfl, ?_⟩) (by assumption) ?_
        rotate_left
        · (intro w hSw; (try dsimp only at hSw); go_simp; (try rw [if_neg (by omega)]); (try (with_reducible rfl)))
        simp only [Act.put, List.setIfInBounds_toArray, List.set_cons_zero, List.set_cons_succ]
        refine take_F (i := 2) (d := some 24) (v := ?_) (by kernel_rfl) (by kernel_rfl) rfl rfl (by kernel_rfl) (by kernel_rfl) (by kernel_rfl) (fun _ _ _ h => h) (Or.inl ⟨by rfl, ?_⟩) (by assumption) ?_
        rotate_left
        · (intro w hSw; (try dsimp only at hSw); go_simp; (try rw [if_neg (by omega)]); (try (with_reducible rfl)))
        simp only [Act.put, List.setIfInBounds_toArray, List.set_cons_zero, List.set_cons_succ]
        refine take_L [3] (i := 3) (d := some 25) (v := ?_) (by kernel_rfl) (by kernel_rfl) (by kernel_rfl) (by kernel_rfl) rfl rfl (by kernel_rfl) (by kernel_rfl) (by kernel_rfl) (fun _ _ _ h => h) (Or.inl ⟨by rfl, ?_⟩) (by assumption) ?_
        rotate_left
        · (intro w hSw; (try dsimp only at hSw); go_simp; (try rw [if_neg (by omega)]); (try (with_reducible rfl)))
        simp only [Act.put, List.setIfInBounds_toArray, List.set_cons_zero, List.set_cons_succ]
        refine take_F (i := 4) (d := some 26) (v := ?_) (by kernel_rfl) (by kernel_rfl) rfl rfl (by kernel_rfl) (by kernel_rfl) (by kernel_rfl) (fun _ _ _ h => h) (Or.inl ⟨by rfl, ?_⟩) (by assumption) ?_
        rotate_left
        · (intro w hSw; (try dsimp only at hSw); go_simp; (try rw [if_neg (by omega)]); (try (with_reducible rfl)))
        simp only [Act.put, List.setIfInBounds_toArray, List.set_cons_zero, List.set_cons_succ]
        refine take_F (i := 7) (d := some 29) (v := ?_) (by kernel_rfl) (by kernel_rfl) rfl rfl (by kernel_rfl) (by kernel_rfl) (by kernel_rfl) (fun _ _ _ h => h) (Or.inl ⟨by rfl, ?_⟩) (by assumption) ?_
        rotate_left
        · (intro w hSw; (try dsimp only at hSw); go_simp; (try rw [if_neg (by omega)]); (try (with_reducible rfl)))
        simp only [Act.put, List.setIfInBounds_toArray, List.set_cons_zero, List.set_cons_succ]
        refine both_L (i := 5) (j := 10) (di := (some 27)) (dj := (some 7)) rfl rfl rfl rfl (by kernel_rfl) (fun Kq hKq => ?_) (fun Kq hKq => ?_)
        · go_simp
          go_at_call 70
          refine (pick_any B g _ bs 9 _ HDd.out.dr.src (by omega)).mono ?_; rintro e wz11 ⟨xa, rfl, ⟨hxa0, hxa1, _⟩, hs11, hg11⟩
          have hxa2 := hxa1 (by omega)
          have HA1 := Lib.hid (HDd.out.draw hs11 hg11)
          have hn11 := HNx.out wz11 HA1.out.dr.gr
          have hwz11 : IntKind.i64.wrap (1 + xa) = 1 + xa := IntWalk.i64_in _ (by omega)
          clear hs11 hg11 hxa1
          (try go_wp2_with fail)
          refine hKq.out _ _ (hn11) (fun hHeld => ?_)
          clear hKq Kq
          (try simp only [Act.put, List.setIfInBounds_toArray, List.set_cons_zero, List.set_cons_succ])
          refine take_F (i := 6) (d := some 28) (v := ?_) (by kernel_rfl) (by kernel_rfl) rfl rfl (by kernel_rfl) (by kernel_rfl) (by kernel_rfl) (fun _ _ _ h => h) (Or.inl ⟨by rfl, ?_⟩) (by assumption) ?_
          rotate_left
          · (intro w hSw; (try dsimp only at hSw); go_simp; (try rw [if_neg (by omega)]); (try (with_reducible rfl)))
          simp only [Act.put, List.setIfInBounds_toArray, List.set_cons_zero, List.set_cons_succ]
          refine both_L (i := 8) (j := 10) (di := (some 30)) (dj := (some 7)) rfl rfl rfl rfl (by kernel_rfl) (fun Kq hKq => ?_) (fun Kq hKq => ?_)
          · go_simp
            go_at_call 70
            refine (pick_any B g _ bs 50 _ HA1.out.dr.src (by omega)).mono ?_; rintro e wz12 ⟨ya, rfl, ⟨hya0, hya1, _⟩, hs12, hg12⟩
            have hya2 := hya1 (by omega)
            have HA2 := Lib.hid (HA1.out.draw hs12 hg12)
            have hn12 := HNx.out wz12 HA2.out.dr.gr
            have hwz12 : IntKind.i64.wrap (1 + ya) = 1 + ya := IntWalk.i64_in _ (by omega)
            clear hs12 hg12 hya1
            (try go_wp2_with fail)
            refine hKq.out _ _ (hn12) (fun hHeld => ?_)
            clear hKq Kq
            (try simp only [Act.put, List.setIfInBounds_toArray, List.set_cons_zero, List.set_cons_succ])
            refine take_F (i := 9) (d := some 31) (v := ?_) (by kernel_rfl) (by kernel_rfl) rfl rfl (by kernel_rfl) (by kernel_rfl) (by kernel_rfl) (fun _ _ _ h => h) (Or.inl ⟨by rfl, ?_⟩) (by assumption) ?_
            rotate_left
            · (intro w hSw; (try dsimp only at hSw); go_simp; (try rw [if_neg (by omega)]); (try (with_reducible rfl)))
            simp only [Act.put, List.setIfInBounds_toArray, List.set_cons_zero, List.set_cons_succ]
            have hnq := HNx.out _ (JbQ.new HA2.out (.string ⟨#[]⟩) (.int .i64 0) (.int .i64 0)).dr.gr
            refine call_L (i := 10) (d := (some 7)) rfl rfl (by kernel_rfl) (fun Kq hKq => ?_)
            go_simp
            refine hKq.out _ _ (hnq) (fun hHeld => ?_)
            clear hKq Kq
            (try simp only [Act.put, List.setIfInBounds_toArray, List.set_cons_zero, List.set_cons_succ])
            refine call_L (i := 11) (d := none) rfl rfl (by kernel_rfl) (fun Kq hKq => ?_)
            go_simp
            have HA4 := Lib.hid (JbQ.new HA2.out (.string z) (.int .i64 (1 + xa)) (.int .i64 ya))
            have hn13 := HNx.out _ HA4.out.dr.gr
            refine hKq.out _ _ (hn13) (fun hHeld => ?_)
            clear hKq Kq
            (try simp only [Act.put, List.setIfInBounds_toArray, List.set_cons_zero, List.set_cons_succ])
            refine done_L (by kernel_rfl) ?_ _
            refine NoPanic.normal ?_
            (try go_wp2_with fail)
            go_meet
            exact ⟨_, _, _, rfl, by omega, by omega, HA4.out⟩
          · go_simp
            have HB2 := Lib.hid (JbQ.new HA1.out (.string ⟨#[]⟩) (.int .i64 0) (.int .i64 0))
            have hn14 := HNx.out _ HB2.out.dr.gr
            refine hKq.out _ _ (hn14) (fun hHeld => ?_)
            clear hKq Kq
            (try simp only [Act.put, List.setIfInBounds_toArray, List.set_cons_zero, List.set_cons_succ])
            refine call_L (i := 8) (d := (some 30)) rfl rfl (by kernel_rfl) (fun Kq hKq => ?_)
            go_simp
            go_at_call 70
            refine (pick_any B g _ bs 50 _ HB2.out.dr.src (by omega)).mono ?_; rintro e wz15 ⟨yb, rfl, ⟨hyb0, hyb1, _⟩, hs15, hg15⟩
            have hyb2 := hyb1 (by omega)
            have HB3 := Lib.hid (HB2.out.draw hs15 hg15)
            have hn15 := HNx.out wz15 HB3.out.dr.gr
            have hwz15 : IntKind.i64.wrap (1 + yb) = 1 + yb := IntWalk.i64_in _ (by omega)
            clear hs15 hg15 hyb1
            (try go_wp2_with fail)
            refine hKq.out _ _ (hn15) (fun hHeld => ?_)
            clear hKq Kq
            (try simp only [Act.put, List.setIfInBounds_toArray, List.set_cons_zero, List.set_cons_succ])
            refine take_F (i := 9) (d := some 31) (v := ?_) (by kernel_rfl) (by kernel_rfl) rfl rfl (by kernel_rfl) (by kernel_rfl) (by kernel_rfl) (fun _ _ _ h => h) (Or.inl ⟨by rfl, ?_⟩) (by assumption) ?_
            rotate_left
            · (intro w hSw; (try dsimp only at hSw); go_simp; (try rw [if_neg (by omega)]); (try (with_reducible rfl)))
            simp only [Act.put, List.setIfInBounds_toArray, List.set_cons_zero, List.set_cons_succ]
            refine call_L (i := 11) (d := none) rfl rfl (by kernel_rfl) (fun Kq hKq => ?_)
            obtain ⟨⟨c016, c116, c216, c316⟩, f016, f116, f216, f316⟩ := blk4p HB3.out.hq
            go_simp
            have HB4 := Lib.hid (HB3.out.put (.string z) (.int .i64 (1 + xa)) (.int .i64 yb))
            have hn16 := HNx.out _ HB4.out.dr.gr
            refine hKq.out _ _ (hn16) (fun hHeld => ?_)
            clear hKq Kq
            (try simp only [Act.put, List.setIfInBounds_toArray, List.set_cons_zero, List.set_cons_succ])
            refine done_L (by kernel_rfl) ?_ _
            refine NoPanic.normal ?_
            (try go_wp2_with fail)
            go_meet
            exact ⟨_, _, _, rfl, by omega, by omega, HB4.out⟩
        · go_simp
          have HC1 := Lib.hid (show JbQ W1 (wr.drew.alloc (.cells #[.string ⟨#[]⟩, .int .i64 0, .int .i64 0, .slice none 0 0] 62)) B g (k + 2 + 22 * ys.length) bs (.slice (some ⟨b0, 0, none⟩) ys.length c0) ys wr.heap.size (.string ⟨#[]⟩) (.int .i64 0) (.int .i64 0) (.slice none 0 0) [] from JbQ.new HDd.out (.string ⟨#[]⟩) (.int .i64 0) (.int .i64 0))
          have hn17 := HNx.out _ HC1.out.dr.gr
          refine hKq.out _ _ (hn17) (fun hHeld => ?_)
          clear hKq Kq
          (try simp only [Act.put, List.setIfInBounds_toArray, List.set_cons_zero, List.set_cons_succ])
          refine call_L (i := 5) (d := (some 27)) rfl rfl (by kernel_rfl) (fun Kq hKq => ?_)
          go_simp
          go_at_call 70
          refine (pick_any B g _ bs 9 _ HC1.out.dr.src (by omega)).mono ?_; rintro e wz18 ⟨xc, rfl, ⟨hxc0, hxc1, _⟩, hs18, hg18⟩
          have hxc2 := hxc1 (by omega)
          have HC2 := Lib.hid (HC1.out.draw hs18 hg18)
          have hn18 := HNx.out wz18 HC2.out.dr.gr
          have hwz18 : IntKind.i64.wrap (1 + xc) = 1 + xc := IntWalk.i64_in _ (by omega)
          clear hs18 hg18 hxc1
          (try go_wp2_with fail)
          refine hKq.out _ _ (hn18) (fun hHeld => ?_)
          clear hKq Kq
          (try simp only [Act.put, List.setIfInBounds_toArray, List.set_cons_zero, List.set_cons_succ])
          refine take_F (i := 6) (d := some 28) (v := ?_) (by kernel_rfl) (by kernel_rfl) rfl rfl (by kernel_rfl) (by kernel_rfl) (by kernel_rfl) (fun _ _ _ h => h) (Or.inl ⟨by rfl, ?_⟩) (by assumption) ?_
          rotate_left
          · (intro w hSw; (try dsimp only at hSw); go_simp; (try rw [if_neg (by omega)]); (try (with_reducible rfl)))
          simp only [Act.put, List.setIfInBounds_toArray, List.set_cons_zero, List.set_cons_succ]
          refine call_L (i := 8) (d := (some 30)) rfl rfl (by kernel_rfl) (fun Kq hKq => ?_)
          go_simp
          go_at_call 70
          refine (pick_any B g _ bs 50 _ HC2.out.dr.src (by omega)).mono ?_; rintro e wz19 ⟨yc, rfl, ⟨hyc0, hyc1, _⟩, hs19, hg19⟩
          have hyc2 := hyc1 (by omega)
          have HC3 := Lib.hid (HC2.out.draw hs19 hg19)
          have hn19 := HNx.out wz19 HC3.out.dr.gr
          have hwz19 : IntKind.i64.wrap (1 + yc) = 1 + yc := IntWalk.i64_in _ (by omega)
          clear hs19 hg19 hyc1
          (try go_wp2_with fail)
          refine hKq.out _ _ (hn19) (fun hHeld => ?_)
          clear hKq Kq
          (try simp only [Act.put, List.setIfInBounds_toArray, List.set_cons_zero, List.set_cons_succ])
          refine take_F (i := 9) (d := some 31) (v := ?_) (by kernel_rfl) (by kernel_rfl) rfl rfl (by kernel_rfl) (by kernel_rfl) (by kernel_rfl) (fun _ _ _ h => h) (Or.inl ⟨by rfl, ?_⟩) (by assumption) ?_
          rotate_left
          · (intro w hSw; (try dsimp only at hSw); go_simp; (try rw [if_neg (by omega)]); (try (with_reducible rfl)))
          simp only [Act.put, List.setIfInBounds_toArray, List.set_cons_zero, List.set_cons_succ]
          refine call_L (i := 11) (d := none) rfl rfl (by kernel_rfl) (fun Kq hKq => ?_)
          obtain ⟨⟨c020, c120, c220, c320⟩, f020, f120, f220, f320⟩ := blk4p HC3.out.hq
          go_simp
          have HC4 := Lib.hid (HC3.out.put (.string z) (.int .i64 (1 + xc)) (.int .i64 yc))
          have hn20 := HNx.out _ HC4.out.dr.gr
          refine hKq.out _ _ (hn20) (fun hHeld => ?_)
          clear hKq Kq
          (try simp only [Act.put, List.setIfInBounds_toArray, List.set_cons_zero, List.set_cons_succ])
          refine done_L (by kernel_rfl) ?_ _
          refine NoPanic.normal ?_
          (try go_wp2_with fail)
          go_meet
          exact ⟨_, _, _, rfl, by omega, by omega, HC4.out⟩
      case rest =>
        obtain ⟨q, y2, y3, rfl, hy2, hy3, hQ⟩ := hcut
        have HQ := Lib.hid hQ
        clear hQ HD HDd hn HNx
        go_wp2_with fail
        go_loopw [8] (fun x wr => ∃ (i : Nat) (l : List Int) (d : Value), i ≤ ys.length ∧ x = .int .i64 (i : Int) ∧ l.length ≤ i ∧ JbQ W1 wr B g (k + 2 + 22 * ys.length + 4 + 2 * i) bs (.slice (some ⟨b0, 0, none⟩) ys.length c0) ys q (.string z) (.int .i64 y2) (.int .i64 y3) d l) (fun x _ => ys.length - (intOf x).toNat)
        case atStart => exact ⟨0, [], _, Nat.zero_le _, rfl, Nat.le_refl _, HQ.out⟩
        case round =>
          clear HQ
          obtain ⟨i, l, d, hi, rfl, hll, hQ⟩ := hrel
          obtain ⟨Ad, cd, rfl⟩ := own_sl hQ.cur
          have HQ := Lib.hid hQ
          have Hll := Lib.hid hll
          clear hQ hll
          by_cases hil : i < ys.length
          · have hil' : (i : Int) < (ys.length : Int) := by omega
            go_wp2_with fail
            refine (one_any B g _ bs 3 _ HQ.out.dr.src (by omega)).mono ?_; rintro e wy1 ⟨tb, rfl, hs1, hg1⟩
            have HQ1 := Lib.hid (HQ.out.draw hs1 hg1)
            clear hs1 hg1 HQ
            cases tb with
            | false =>
              go_wp2_with fail
              go_roundw
              case rel => exact ⟨i + 1, l, _, by omega, by go_num, by have := Hll.out; omega, HQ1.out.more (by omega)⟩
              case measure => first | (simp [intOf]; done) | (simp [intOf]; omega)
            | true =>
              obtain ⟨⟨_, _, _, e3⟩, _, _, _, f3⟩ := blk4p HQ1.out.hq
              have Hcur := Lib.hid HQ1.out.cur
              have Hqb := Lib.hid (show q + 1 ≤ wy1.heap.size from HQ1.out.qlt)
              have hl62 : l.length ≤ 62 := by have := Hll.out; omega
              go_wp2_with (at_builtin; refine wpList_apd 29 2 _ 1 8 Tryd.underlying29 infoD rfl (by omega) _ _ rfl rfl (q + 1) _ l.length _ rfl Hcur.out #[.int .i64 (i : Int)] 1 1 rfl rfl (by simp [Value.oneCell']) (by simp [maxLen]; omega) (by omega) Hqb.out ?_; intro v7 w7 hown7 hg7; obtain ⟨A7, c7, rfl⟩ := own_sl hown7; obtain ⟨hQ7, hq7⟩ := HQ1.out.app hg7 hown7; have HQ7 := Lib.hid hQ7; obtain ⟨⟨_, _, _, z3⟩, _, _, _, g3⟩ := blk4p hq7; clear hown7 hg7 hQ7 hq7 e3 f3)
              go_roundw
              case rel => exact ⟨i + 1, _, _, by omega, by go_num, by have := Hll.out; simp; omega, HQ7.out.more (by omega)⟩
              case measure => first | (simp [intOf]; done) | (simp [intOf]; omega)
          · obtain rfl : i = ys.length := by omega
            have hil' : ¬ ((ys.length : Int) < (ys.length : Int)) := by omega
            have hl62 : l.length ≤ 62 := by have := Hll.out; omega
            have Hon := Lib.hid (ones4J z y2 y3 Ad l.length cd)
            obtain ⟨⟨d0, d1, d2, d3⟩, -⟩ := blk4p HQ.out.hq
            have Hsn := Lib.hid (fun (v' : Value) (w' : World) hr hg => HQ.out.snoc (w' := w') (v' := v') (by omega) hz16 hl62 hr hg)
            have Hro := Lib.hid HQ.out.dr.row
            have Hsz := Lib.hid HQ.out.dr.size
            go_wp2_with (at_builtin; refine wpList_apd 47 62 _ 4 56 Tryd.underlying47 infoJ rfl (by omega) _ _ rfl rfl W1.heap.size _ _ _ rfl Hro.out #[.string z, .int .i64 y2, .int .i64 y3, .slice Ad l.length cd] 1 1 rfl rfl Hon.out (by simp [maxLen]; omega) (by omega) Hsz.out ?_; intro v9 w9 hown9 hg9; obtain ⟨zs, hzl, _, hd9⟩ := Hsn.out v9 w9 hown9 hg9; have Hzl := Lib.hid hzl; obtain ⟨b9, c9, rfl⟩ := hd9.nn; have HM9 := Lib.hid (show DrJ W1 w9 B g (k + 2 + 22 * zs.length) bs (.slice (some ⟨b9, 0, none⟩) (ys.length + 1) c9) zs from by rw [← Hzl.out]; exact hd9.more (k' := k + 2 + 22 * zs.length) (by omega)); clear hown9 hg9 hzl hd9)
            go_roundw
            case rel => exact ⟨j - 1, zs, by have := Hjc.out; have := Hzl.out; omega, by rw [Hjj.out], HM9.out⟩
            case measure => simp [intOf]; omega
    · have hj0 : j = 0 := by omega
      subst hj0
      have Hz := Lib.hid (HD.out.from Hg0.out hlt)
      clear HD hd hjc
      go_wp2_with fail
      go_ret
      exact ⟨_, ys, rfl, hxl, Hz.out.more (by omega)⟩
end Go.Proofs.YtepgfcjfdnakbaaDoor
/- Jobs, texts and laws, part 9: ReadJobs of the program. -/
namespace Go.Proofs.YtepgfcjfdnakbaaDoor
open Go.RowKit Go.Joins Go.Maps

/-- what the first names stand for -/
def ndsI (xs : List Jb) (ws : List ByteArray) (i : Nat) : List Int := (ws.take i).map fun s => lastJ xs s xs.length
theorem ndsI_step (xs : List Jb) {ws : List ByteArray} {i : Nat} (h : i < ws.length) : ndsI xs ws (i + 1) = ndsI xs ws i ++ [lastJ xs ws[i] xs.length] := by
  unfold ndsI
  rw [List.take_succ_eq_append_getElem h, List.map_append]; rfl
theorem ndsI_len (xs : List Jb) (ws : List ByteArray) {i : Nat} (h : i ≤ ws.length) : (ndsI xs ws i).length = i := by
  unfold ndsI
  rw [List.length_map, List.length_take]; omega
theorem ndsI_all (xs : List Jb) (ws : List ByteArray) : ndsI xs ws ws.length = ws.map fun s => lastJ xs s xs.length := by
  unfold ndsI
  rw [List.take_of_length_le (Nat.le_refl _)]
set_option maxRecDepth 100000 in
set_option maxHeartbeats 12800000 in
theorem ReadJI_any (s : ByteArray) (w : World) (hs : s.size ≤ 100000) (ht : Tab w) : Calls Tryd.prog 42 #[.string s] w (RetRj w (rdJobs s)) := by
  have HT := Lib.hid (textLines_any s w (by omega))
  have Ht := Lib.hid ht; clear ht
  cases hl : linesB 10 s with
  | none =>
    have Hr := Lib.hid (rdJobs_none hl)
    rw [hl] at HT
    clear hl
    go_enter Tryd.func42, Tryd.ntmps42
    go_wp2_with fail
    refine HT.out.mono ?_; rintro e w5 ⟨v5, rfl, _, hb5⟩
    have HB5 := Lib.hid hb5; clear hb5
    go_wp2_with fail
    go_ret2
    exact RetRj.none Hr.out HB5.out
  | some l =>
    have Hl := Lib.hid hl
    have hn6 := linesB_le hl
    have HM := Lib.hid (show ∀ z ∈ l, z.size ≤ 100000 from fun z hz => Nat.le_trans (linesB_mem hl z hz) hs)
    rw [hl] at HT
    clear hl
    generalize hdl : l.length = n at *
    have Hdl := Lib.hid hdl; clear hdl
    have hmm := @run_makeMap Tryd.prog
    go_enter Tryd.func42, Tryd.ntmps42
    go_wp2_with fail
    refine HT.out.mono ?_; rintro e w5 ⟨v5, rfl, ho5, hb5⟩
    obtain ⟨A5, c5, g5, rfl, hA5, hc5⟩ := own_strs0 (ho5 l rfl)
    rw [Hdl.out] at hA5 ⊢
    have HA5 := Lib.hid hA5
    have HC := Lib.hid hc5
    have HB5 := Lib.hid hb5
    have hnone := OwJ.none w5
    have hma := (Below.refl (w5.alloc (.cells #[] 62)).heap.size (w5.alloc (.cells #[] 62))).alloc (Nat.le_refl _) (.map #[] 0)
    have HO0 := Lib.hid (hnone.below hma)
    have HP0 := Lib.hid (PlMap.made (w5.alloc (.cells #[] 62)))
    have hpm : (w5.alloc (.cells #[] 62)).heap.size = w5.heap.size + 1 := by simp
    rw [hpm] at HP0
    clear ho5 hb5 HT hA5 hc5 hnone hma
    go_wp2_with fail
    obtain ⟨pm, hpm2⟩ : ∃ z, w5.heap.size + 1 = z := ⟨_, rfl⟩
    rw [hpm2] at HP0 ⊢
    have hpw : w5.heap.size ≤ pm := by omega
    clear hpm hpm2 hmm
    go_loopw [6, 31] (fun o i wr => ∃ (k : Nat) (ys : List (Jb × Value)), k ≤ n ∧ i = .int .i64 (k : Int) ∧ okWJ l k ∧ jbsOf ys = mkJ l k ∧ OwJ w5 wr o ys ∧ PlMap wr pm (mkJ l k)) (fun _ i _ => n - (intOf i).toNat)
    case atStart => exact ⟨0, [], Nat.zero_le _, rfl, fun i hi h => by omega, rfl, HO0.out, HP0.out⟩
    case round =>
      obtain ⟨k, ys, hk, rfl, hall, hys, ho, hp⟩ := hrel
      have HO := Lib.hid ho
      have HP := Lib.hid hp
      have Hall := Lib.hid hall
      have Hys := Lib.hid hys
      obtain ⟨A6, c6, rfl⟩ := own_sl ho.row
      have hbl := ho.bel
      have Hml := Lib.hid (mkJ_len k (by rw [Hdl.out]; exact hk) hall)
      have hyl : ys.length = k := by rw [← jbsOf_len, hys]; exact Hml.out
      have Hyl := Lib.hid hyl
      have hyk : ys.length ≤ 100000 := by omega
      clear hyl
      clear ho hp hall hys HO0 HP0
      by_cases hlt : k < n
      · have hlt' : (k : Int) < (n : Int) := by omega
        have hkl : k < l.length := by rw [Hdl.out]; exact hlt
        obtain ⟨rfl, hlt5⟩ := HA5.out (by omega)
        have hce := (hbl.cell (p := ⟨g5, k, none⟩) hlt5).trans (HC.out k hkl)
        have hline := HM.out _ (List.getElem_mem hkl)
        have HPt := Lib.hid (parts_any l[k] wr (by omega))
        have Hbad := Lib.hid (fun h => rdJobs_bad Hl.out k hkl h)
        have Hunk := Lib.hid (fun (r : Wj) h (z : ByteArray) hz hn => rdJobs_unk (r := r) Hl.out k hkl h (w := z) hz hn)
        have Hgood := Lib.hid (fun (r : Wj) h => (⟨okWJ_step Hall.out hkl h, mkJ_step hkl h⟩ : okWJ l (k + 1) ∧ mkJ l (k + 1) = mkJ l k ++ [⟨r.nm, r.days, r.cost, r.ws.map fun s => lastJ (mkJ l k) s (mkJ l k).length⟩]))
        unfold RetPs at HPt
        generalize l[k] = line at *
        have hplen := splitB_len 32 line.size line (Nat.le_refl _)
        clear hbl
        by_cases h3 : (splitB 32 line).length < 3
        · have h3' : ((splitB 32 line).length : Int) < 3 := by omega
          have Hr := Lib.hid (Hbad.out (rdWJ_few h3))
          clear Hbad Hgood Hunk h3
          go_wp2_with fail
          refine HPt.out.mono ?_; rintro e w6 ⟨v6, rfl, ho6, hb6⟩
          obtain ⟨A6', c6', rfl⟩ := sl_of_own ho6
          have Hb6 := Lib.hid (HO.out.bel.trans (hb6.mono HO.out.bel.size))
          generalize (splitB 32 line).length = m at *
          clear ho6 hb6 HPt HO HP hce
          go_wp2_with fail
          go_ret2
          exact RetRj.none Hr.out (HB5.out.trans (Hb6.out.mono HB5.out.size))
        · have h3' : ¬ (((splitB 32 line).length : Int) < 3) := by omega
          obtain ⟨x, a, b, ws, he⟩ := three_ofJ h3
          have hmem := splitB_mem 32 line.size line (Nat.le_refl _)
          have hrd := rdWJ_more he
          rw [he] at HPt hmem h3' hplen
          have ha := hmem a (by simp)
          have hbz := hmem b (by simp)
          have hxz := hmem x (by simp)
          have HWz := Lib.hid (show ∀ z ∈ ws, z.size ≤ 1000000 from fun z hz => by have := hmem z (by simp [hz]); omega)
          have HD1 := Lib.hid (fun wx hq => ReadDecimal_any a wx (by omega) hq)
          have HD2 := Lib.hid (fun wx hq => ReadDecimal_any b wx (by omega) hq)
          unfold RetN1 at HD1 HD2
          have hfin := mkWj_fin (x := x) (ws := ws) (a := readN a) (b := readN b)
          rw [← hrd] at hfin
          have Hfin := Lib.hid hfin
          have hL := show (x :: a :: b :: ws).length = ws.length + 3 from rfl
          clear he h3 hmem hrd hfin ha hbz
          generalize (readN a).getD 0 = f at *
          generalize (readN b).getD 0 = t at *
          generalize (readN a).isSome = o1 at *
          generalize (readN b).isSome = o2 at *
          go_wp2_with fail
          refine HPt.out.mono ?_; rintro e w6 ⟨v6, rfl, ho6, hb6⟩
          obtain ⟨g6, c6', rfl, hcap, _, hl6, hcs⟩ := own_strs ho6 (by simp)
          rw [hL] at hcap h3' hplen ⊢
          have q0 := hcs 0 (by simp)
          have q1 := hcs 1 (by simp)
          have q2 := hcs 2 (by simp)
          have HWs := Lib.hid (show ∀ i (hi : i < ws.length), w6.cell? ⟨g6, 3 + i, none⟩ = some (.string ws[i]) from fun i hi => by
            have := hcs (i + 3) (by rw [hL]; omega)
            rw [Nat.add_comm 3 i]
            exact this)
          have HO6 := Lib.hid (HO.out.below hb6)
          have HP6 := Lib.hid (HP.out.below hb6)
          clear ho6 hb6 HPt HO HP hce hcs hL
          have hws : ws.length ≤ 100000 := by omega
          have hm1 : (1 : Int) < ((ws.length + 3 : Nat) : Int) := by omega
          have hm2 : (2 : Int) < ((ws.length + 3 : Nat) : Int) := by omega
          have hm0 : (0 : Int) < ((ws.length + 3 : Nat) : Int) := by omega
          obtain ⟨m6, hm6⟩ : ∃ z, ws.length + 3 = z := ⟨_, rfl⟩
          rw [hm6] at h3' hm0 hm1 hm2 hcap ⊢
          go_wp2_with fail
          refine (HD1.out _ (Ht.out.below (HB5.out.trans (HO6.out.bel.mono HB5.out.size)))).mono ?_; rintro e w8 ⟨rfl, hb8⟩
          have HO8 := Lib.hid (HO6.out.below hb8)
          have HP8 := Lib.hid (HP6.out.below hb8)
          have r0 := (hb8.cell (p := ⟨g6, 0, none⟩) hl6).trans q0
          have r2 := (hb8.cell (p := ⟨g6, 2, none⟩) hl6).trans q2
          have HWs8 := Lib.hid (show ∀ i (hi : i < ws.length), w8.cell? ⟨g6, 3 + i, none⟩ = some (.string ws[i]) from fun i hi => (hb8.cell (p := ⟨g6, 3 + i, none⟩) hl6).trans (HWs.out i hi))
          have hl8 : g6 < w8.heap.size := Nat.lt_of_lt_of_le hl6 hb8.size
          clear hb8 HO6 HP6 HD1 q0 q1 q2 HWs hl6
          go_wp2_with fail
          refine (HD2.out _ (Ht.out.below (HB5.out.trans (HO8.out.bel.mono HB5.out.size)))).mono ?_; rintro e w9 ⟨rfl, hb9⟩
          have HO9 := Lib.hid (HO8.out.below hb9)
          have HP9 := Lib.hid (HP8.out.below hb9)
          have q0 := (hb9.cell (p := ⟨g6, 0, none⟩) hl8).trans r0
          have HWs9 := Lib.hid (show ∀ i (hi : i < ws.length), w9.cell? ⟨g6, 3 + i, none⟩ = some (.string ws[i]) from fun i hi => (hb9.cell (p := ⟨g6, 3 + i, none⟩) hl8).trans (HWs8.out i hi))
          have hl9 : g6 < w9.heap.size := Nat.lt_of_lt_of_le hl8 hb9.size
          clear hb9 HO8 HP8 HD2 r0 r2 HWs8 hl8
          have hba := (Below.refl w9.heap.size w9).alloc (Nat.le_refl _) (.cells #[.string x, .int .i64 f, .int .i64 t, .slice none 0 0] 62)
          have HQa := Lib.hid (OwQ.new HO9.out (.string x) (.int .i64 f) (.int .i64 t))
          have HPa := Lib.hid (HP9.out.below hba)
          have HWsa := Lib.hid (show ∀ i (hi : i < ws.length), (w9.alloc (.cells #[.string x, .int .i64 f, .int .i64 t, .slice none 0 0] 62)).cell? ⟨g6, 3 + i, none⟩ = some (.string ws[i]) from fun i hi => (hba.cell (p := ⟨g6, 3 + i, none⟩) hl9).trans (HWs9.out i hi))
          have hpq : pm < w9.heap.size := HP9.out.lt
          clear hba HO9 HP9 HWs9
          go_upto_region 14 with (fail)
          generalize w9.alloc (.cells #[.string x, .int .i64 f, .int .i64 t, .slice none 0 0] 62) = wa at *
          generalize w9.heap.size = q at *
          clear q0
          have Hnone := Lib.hid (show ∀ i (hi : i < ws.length), lastJ (mkJ l k) ws[i] (mkJ l k).length < 0 → rdJobs s = none from fun i hi hn => by
            cases hr : rdWJ line with
            | none => exact Hbad.out hr
            | some y =>
              have hy := Hfin.out.2 y hr
              exact Hunk.out y hr ws[i] (by rw [hy]; exact List.getElem_mem hi) hn)
          by_cases hc3 : c6' = 3
          · subst hc3
            obtain rfl : m6 = 3 := by omega
            obtain rfl : ws = [] := List.eq_nil_of_length_eq_zero (by omega)
            go_wp2_with fail
            have HB0 := Lib.hid (Below.refl q wa)
            go_loopw [64] (fun i wy => ∃ (i' : Nat) (d : Value), i' ≤ 0 ∧ i = .int .i64 (i' : Int) ∧ OwQ w5 wy (.slice A6 ys.length c6) ys q (.string x) (.int .i64 f) (.int .i64 t) d (ndsI (mkJ l k) [] i') ∧ PlMap wy pm (mkJ l k) ∧ Below q wa wy) (fun i _ => 0 - (intOf i).toNat)
            case atStart => exact ⟨0, _, Nat.zero_le _, rfl, HQa.out, HPa.out, HB0.out⟩
            case round =>
              clear HB0 HQa HPa
              obtain ⟨i, d, hi, rfl, hQ, hP, hbq⟩ := hrel
              obtain ⟨Ad, cd, rfl⟩ := own_sl hQ.cur
              have HQ := Lib.hid hQ
              have HPm := Lib.hid hP
              have hndl : (ndsI (mkJ l k) [] i).length ≤ 100000 := by rw [ndsI_len (mkJ l k) [] hi]; omega
              by_cases hil : i < 0
              · exact absurd hil (by omega)
              · obtain rfl : i = 0 := by omega
                have hil' : ¬ ((0 : Int) < (0 : Int)) := by omega
                have Hend := Lib.hid (HB5.out.trans (hQ.bel.mono HB5.out.size))
                clear Hnone
                cases hr : rdWJ line with
                | none =>
                  have Hr := Lib.hid (Hbad.out hr)
                  have ho12 := Hfin.out.1
                  rw [hr] at ho12
                  clear hr Hbad Hgood Hfin Hunk hQ hP HQ HPm
                  cases o1 with
                  | false =>
                    clear ho12
                    go_wp2_with fail
                    go_ret2
                    exact RetRj.none Hr.out Hend.out
                  | true =>
                    cases o2 with
                    | true => cases ho12
                    | false =>
                      clear ho12
                      go_wp2_with fail
                      go_ret2
                      exact RetRj.none Hr.out Hend.out
                | some y =>
                  have ho12 := Hfin.out.1
                  rw [hr] at ho12
                  have hy := Hfin.out.2 y hr
                  obtain ⟨hall2, hmk2⟩ := Hgood.out y hr
                  rw [hy] at hmk2
                  have Hall2 := Lib.hid hall2
                  have hmk3 : mkJ l (k + 1) = mkJ l k ++ [⟨x, f, t, ndsI (mkJ l k) [] 0⟩] := hmk2
                  have Hmk := Lib.hid hmk3
                  obtain ⟨w10, hrun, hP10, hg10⟩ := hP.upd ⟨x, f, t, ndsI (mkJ l k) [] 0⟩ (by simp only [maxLen]; omega) (by rw [Hml.out]; omega)
                  rw [Hml.out] at hrun
                  dsimp only at hrun
                  rw [← hmk3] at hP10
                  have hQ10 := hQ.mapUp hP hg10 hpw
                  have HQ10 := Lib.hid hQ10
                  have HP10 := Lib.hid hP10
                  obtain ⟨⟨e0, _, _, _⟩, -⟩ := blk4p hQ.hq
                  obtain ⟨⟨d0, d1, d2, d3⟩, -⟩ := blk4p hQ10.hq
                  have Hon := Lib.hid (ones4J x f t Ad (ndsI (mkJ l k) [] 0).length cd)
                  have Hro := Lib.hid hQ10.row
                  have Hsz := Lib.hid hQ10.bel.size
                  have Hsn := Lib.hid (fun (v' : Value) (w' : World) hr hg => HQ10.out.snoc (w' := w') (v' := v') hr hg)
                  have Hpk := Lib.hid (fun (w' : World) (hg : w10.grownBy w' (Value.slice A6 ys.length c6).ownBlock) => HP10.out.kept hg (fun e => own_notmap HQ10.out.row HP10.out e.symm))
                  clear hr hy hmk2 hmk3 hall2 Hbad Hgood Hfin Hunk hQ hP HQ HPm hQ10 hP10 hg10 hbq
                  cases o1 with
                  | false => cases ho12
                  | true =>
                    cases o2 with
                    | false => cases ho12
                    | true =>
                      clear ho12
                      go_wp2_with (at_builtin; refine wpList_apd 47 62 _ 4 56 Tryd.underlying47 infoJ rfl (by omega) _ _ rfl rfl w5.heap.size _ _ _ rfl Hro.out #[.string x, .int .i64 f, .int .i64 t, .slice Ad (ndsI (mkJ l k) [] 0).length cd] 1 1 rfl rfl Hon.out (by simp [maxLen]; omega) (by omega) Hsz.out ?_; intro v9 w9' hown9 hg9; have HO9 := Lib.hid (Hsn.out v9 w9' hown9 hg9); have HP9' := Lib.hid (Hpk.out w9' hg9); clear hown9 hg9)
                      go_roundw
                      case rel => exact ⟨k + 1, _, by omega, by go_num, Hall2.out, by rw [jbsOf_snoc, Hys.out, Hmk.out], HO9.out, HP9'.out⟩
                      case measure => simp [intOf]; omega
          · have hc3' : ¬ (c6' = 3) := hc3
            go_wp2_with fail
            rw [show m6 - 3 = ws.length by omega]
            have HB0 := Lib.hid (Below.refl q wa)
            go_loopw [64] (fun i wy => ∃ (i' : Nat) (d : Value), i' ≤ ws.length ∧ i = .int .i64 (i' : Int) ∧ OwQ w5 wy (.slice A6 ys.length c6) ys q (.string x) (.int .i64 f) (.int .i64 t) d (ndsI (mkJ l k) ws i') ∧ PlMap wy pm (mkJ l k) ∧ Below q wa wy) (fun i _ => ws.length - (intOf i).toNat)
            case atStart => exact ⟨0, _, Nat.zero_le _, rfl, HQa.out, HPa.out, HB0.out⟩
            case round =>
              clear HB0 HQa HPa
              obtain ⟨i, d, hi, rfl, hQ, hP, hbq⟩ := hrel
              obtain ⟨Ad, cd, rfl⟩ := own_sl hQ.cur
              have HQ := Lib.hid hQ
              have HPm := Lib.hid hP
              have hndl : (ndsI (mkJ l k) ws i).length ≤ 100000 := by rw [ndsI_len (mkJ l k) ws hi]; omega
              by_cases hil : i < ws.length
              · have hil' : (i : Int) < (ws.length : Int) := by omega
                have y0 := (hbq.cell (p := ⟨g6, 3 + i, none⟩) hl9).trans (HWsa.out i hil)
                have hzw := HWz.out _ (List.getElem_mem hil)
                have hlook := hP.look ws[i] (by simp only [maxLen]; omega)
                have Hst := Lib.hid (ndsI_step (mkJ l k) hil)
                have HNo := Lib.hid (Hnone.out i hil)
                have Hval := Lib.hid (show ∀ h : 0 ≤ lastJ (mkJ l k) ws[i] (mkJ l k).length, plV (mkJ l k) ws[i] = lastJ (mkJ l k) ws[i] (mkJ l k).length from fun h => if_pos h)
                obtain ⟨⟨_, _, _, e3⟩, _, _, _, f3⟩ := blk4p hQ.hq
                clear Hnone Hfin Hbad Hunk Hgood
                generalize lastJ (mkJ l k) ws[i] (mkJ l k).length = pos at *
                generalize plV (mkJ l k) ws[i] = pv at *
                generalize ws[i] = z at *
                by_cases hpos : 0 ≤ pos
                · have hpd := decide_eq_true hpos
                  rw [hpd] at hlook
                  have hpv := Hval.out hpos
                  subst hpv
                  have Hcur := Lib.hid hQ.cur
                  have Hqb := Lib.hid (show q + 1 ≤ wr.heap.size from hQ.qlt)
                  have Hbq := Lib.hid hbq
                  clear hQ hP hbq HNo Hval hpd

                  go_wp2_with (at_builtin; refine wpList_apd 29 2 _ 1 8 Tryd.underlying29 infoD rfl (by omega) _ _ rfl rfl (q + 1) _ (ndsI (mkJ l k) ws i).length _ rfl Hcur.out #[.int .i64 pv] 1 1 rfl rfl (by simp [Value.oneCell']) (by simp [maxLen]; omega) (by omega) Hqb.out ?_; intro v7 w7 hown7 hg7; obtain ⟨A7, c7, rfl⟩ := own_sl hown7; obtain ⟨hQ7, hq7, hb7⟩ := HQ.out.app hg7 hown7; have HQ7 := Lib.hid hQ7; have HB7 := Lib.hid (Hbq.out.trans hb7); have HP7 := Lib.hid (HPm.out.belQ hb7 hpq); obtain ⟨⟨_, _, _, z3⟩, _, _, _, g3⟩ := blk4p hq7; clear hown7 hg7 hQ7 hq7 hb7 e3 f3)
                  go_roundw
                  case rel => exact ⟨i + 1, _, by omega, by go_num, by rw [Hst.out]; exact HQ7.out, HP7.out, HB7.out⟩
                  case measure => first | (simp [intOf]; done) | (simp [intOf]; omega)
                · have hpd : decide (0 ≤ pos) = false := decide_eq_false hpos
                  rw [hpd] at hlook
                  have Hr := Lib.hid (HNo.out (by omega))
                  have Hend := Lib.hid (HB5.out.trans (hQ.bel.mono HB5.out.size))
                  clear hQ hP hbq HNo Hval hpd
                  go_wp2_with fail
                  go_ret2
                  exact RetRj.none Hr.out Hend.out
              · obtain rfl : i = ws.length := by omega
                have hil' : ¬ ((ws.length : Int) < (ws.length : Int)) := by omega
                have Hend := Lib.hid (HB5.out.trans (hQ.bel.mono HB5.out.size))
                clear Hnone
                cases hr : rdWJ line with
                | none =>
                  have Hr := Lib.hid (Hbad.out hr)
                  have ho12 := Hfin.out.1
                  rw [hr] at ho12
                  clear hr Hbad Hgood Hfin Hunk hQ hP HQ HPm
                  cases o1 with
                  | false =>
                    clear ho12
                    go_wp2_with fail
                    go_ret2
                    exact RetRj.none Hr.out Hend.out
                  | true =>
                    cases o2 with
                    | true => cases ho12
                    | false =>
                      clear ho12
                      go_wp2_with fail
                      go_ret2
                      exact RetRj.none Hr.out Hend.out
                | some y =>
                  have ho12 := Hfin.out.1
                  rw [hr] at ho12
                  have hy := Hfin.out.2 y hr
                  obtain ⟨hall2, hmk2⟩ := Hgood.out y hr
                  rw [hy] at hmk2
                  have Hall2 := Lib.hid hall2
                  have hmk3 : mkJ l (k + 1) = mkJ l k ++ [⟨x, f, t, ndsI (mkJ l k) ws ws.length⟩] := by rw [ndsI_all]; exact hmk2
                  have Hmk := Lib.hid hmk3
                  obtain ⟨w10, hrun, hP10, hg10⟩ := hP.upd ⟨x, f, t, ndsI (mkJ l k) ws ws.length⟩ (by simp only [maxLen]; omega) (by rw [Hml.out]; omega)
                  rw [Hml.out] at hrun
                  dsimp only at hrun
                  rw [← hmk3] at hP10
                  have hQ10 := hQ.mapUp hP hg10 hpw
                  have HQ10 := Lib.hid hQ10
                  have HP10 := Lib.hid hP10
                  obtain ⟨⟨e0, _, _, _⟩, -⟩ := blk4p hQ.hq
                  obtain ⟨⟨d0, d1, d2, d3⟩, -⟩ := blk4p hQ10.hq
                  have Hon := Lib.hid (ones4J x f t Ad (ndsI (mkJ l k) ws ws.length).length cd)
                  have Hro := Lib.hid hQ10.row
                  have Hsz := Lib.hid hQ10.bel.size
                  have Hsn := Lib.hid (fun (v' : Value) (w' : World) hr hg => HQ10.out.snoc (w' := w') (v' := v') hr hg)
                  have Hpk := Lib.hid (fun (w' : World) (hg : w10.grownBy w' (Value.slice A6 ys.length c6).ownBlock) => HP10.out.kept hg (fun e => own_notmap HQ10.out.row HP10.out e.symm))
                  clear hr hy hmk2 hmk3 hall2 Hbad Hgood Hfin Hunk hQ hP HQ HPm hQ10 hP10 hg10 hbq
                  cases o1 with
                  | false => cases ho12
                  | true =>
                    cases o2 with
                    | false => cases ho12
                    | true =>
                      clear ho12
                      go_wp2_with (at_builtin; refine wpList_apd 47 62 _ 4 56 Tryd.underlying47 infoJ rfl (by omega) _ _ rfl rfl w5.heap.size _ _ _ rfl Hro.out #[.string x, .int .i64 f, .int .i64 t, .slice Ad (ndsI (mkJ l k) ws ws.length).length cd] 1 1 rfl rfl Hon.out (by simp [maxLen]; omega) (by omega) Hsz.out ?_; intro v9 w9' hown9 hg9; have HO9 := Lib.hid (Hsn.out v9 w9' hown9 hg9); have HP9' := Lib.hid (Hpk.out w9' hg9); clear hown9 hg9)
                      go_roundw
                      case rel => exact ⟨k + 1, _, by omega, by go_num, Hall2.out, by rw [jbsOf_snoc, Hys.out, Hmk.out], HO9.out, HP9'.out⟩
                      case measure => simp [intOf]; omega
      · have hkn : k = n := by omega
        subst hkn
        have hlt' : ¬ (k : Int) < (k : Int) := by omega
        have hall := Hall.out
        have hr := rdJobs_all Hl.out (by rw [Hdl.out]; exact hall)
        rw [Hdl.out] at hr
        have hszx : szJ (jbsOf ys) := by rw [Hys.out]; exact mkJ_sz (fun z hz => Nat.le_trans (HM.out z hz) (by omega)) (by rw [Hdl.out]; exact Nat.le_refl _) hall
        have HSz := Lib.hid hszx
        have hjl := jbsOf_len ys
        have HV := Lib.hid (ValidJI_any wr.heap.size (.slice A6 ys.length c6) (jbsOf ys) wr HO.out.rd (Nat.le_refl _) (by rw [hjl]; omega) hszx)
        have HTx := Lib.hid (fun wx (hx : Below wr.heap.size wr wx) => TextJI_any wr.heap.size (.slice A6 ys.length c6) (jbsOf ys) wx (HO.out.rd.below hx) hx.size (by rw [hjl]; omega) hszx (Ht.out.below (HB5.out.trans ((HO.out.bel.trans (hx.mono HO.out.bel.size)).mono HB5.out.size))))
        have Htext := Lib.hid (fun hk => rdJobs_prog Hl.out (by rw [Hdl.out]; exact hall) hk)
        rw [Hdl.out] at Htext
        have Hlen := Lib.hid (fun (h : okJ (mkJ l k) = true) => (okJ_ok h).len)
        have Hml2 := Lib.hid Hml.out
        rw [Hys.out] at HV HTx
        clear hall hszx hjl hbl HP
        cases hok : okJ (mkJ l k) with
        | false =>
          have Hr := Lib.hid (hr.trans (if_neg (by rw [hok]; simp)))
          rw [hok] at HV
          clear hok hr Htext HTx Hlen
          go_wp2_with fail
          refine HV.out.mono ?_; rintro e w9 ⟨rfl, hb9⟩
          have Hb9 := Lib.hid (HO.out.bel.trans (hb9.mono HO.out.bel.size))
          clear hb9
          go_wp2_with fail
          go_ret2
          exact RetRj.none Hr.out (HB5.out.trans (Hb9.out.mono HB5.out.size))
        | true =>
          have Hr := Lib.hid (show rdJobs s = some (jbsOf ys) by rw [Hys.out]; exact hr.trans (if_pos hok))
          have htx := Htext.out hok
          rw [htx] at HTx
          have hl30 := Hlen.out hok
          rw [Hml2.out] at hl30
          rw [hok] at HV
          clear hok hr htx Htext Hlen
          go_wp2_with fail
          refine HV.out.mono ?_; rintro e w9 ⟨rfl, hb9⟩
          have HO9 := Lib.hid (HO.out.below hb9)
          have HT9 := Lib.hid (HTx.out w9 hb9)
          clear hb9 HTx
          go_wp2_with fail
          refine HT9.out.mono ?_; rintro e w10 ⟨rfl, hb10⟩
          have HO10 := Lib.hid (HO9.out.below hb10)
          clear hb10
          go_wp2_with fail
          go_ret2
          exact RetRj.some Hr.out (HO10.out.from HB5.out) HSz.out (by rw [Hyl.out]; exact hl30)
end Go.Proofs.YtepgfcjfdnakbaaDoor
/- Jobs, texts and laws, part 10: l22Line (gen_jc10.py). -/
namespace Go.Proofs.YtepgfcjfdnakbaaDoor
open Go.RowKit Go.Joins Go.Maps

/-- a result of four fields in a block of its own: ahead of the store -/
theorem res4J_pre {w w2 : World} {x y z u : Value} {t : TypeId} (h : Below (w.alloc (.cells #[x, y, z, u] t)).heap.size (w.alloc (.cells #[x, y, z, u] t)) w2) :
    (w2.cell? ⟨w.heap.size, 0, none⟩ = some x ∧ w2.cell? ⟨w.heap.size, 1, none⟩ = some y ∧ w2.cell? ⟨w.heap.size, 2, none⟩ = some z ∧ w2.cell? ⟨w.heap.size, 3, none⟩ = some u) ∧
    (w2.frozen? ⟨w.heap.size, 0, none⟩ = false ∧ w2.frozen? ⟨w.heap.size, 1, none⟩ = false ∧ w2.frozen? ⟨w.heap.size, 2, none⟩ = false ∧ w2.frozen? ⟨w.heap.size, 3, none⟩ = false) :=
  blk4p ((h.block w.heap.size (by simp)).trans (heap_alloc_new w _))
theorem res4J_post {w w2 : World} {x y z u : Value} {t : TypeId} (h : Below (w.alloc (.cells #[x, y, z, u] t)).heap.size (w.alloc (.cells #[x, y, z, u] t)) w2) (a b c d : Value) :
    ((put4P w2 w.heap.size a b c d).cell? ⟨w.heap.size, 0, none⟩ = some a ∧ (put4P w2 w.heap.size a b c d).cell? ⟨w.heap.size, 1, none⟩ = some b ∧ (put4P w2 w.heap.size a b c d).cell? ⟨w.heap.size, 2, none⟩ = some c ∧ (put4P w2 w.heap.size a b c d).cell? ⟨w.heap.size, 3, none⟩ = some d) ∧
    Below w.heap.size w (put4P w2 w.heap.size a b c d) := by
  have g := heap_setCell_same _ w.heap.size 3 _ _ d (heap_setCell_same _ w.heap.size 2 _ _ c (heap_setCell_same _ w.heap.size 1 _ _ b (heap_setCell_same w2 w.heap.size 0 _ _ a ((h.block w.heap.size (by simp)).trans (heap_alloc_new w _)))))
  refine ⟨(blk4p g).1, ?_⟩
  have h0 : Below w.heap.size w w2 := ((Below.refl w.heap.size w).alloc (Nat.le_refl _) _).trans (h.mono (by simp))
  exact (((h0.setCell (p := ⟨w.heap.size, 0, none⟩) (Nat.le_refl _) a).setCell (p := ⟨w.heap.size, 1, none⟩) (Nat.le_refl _) b).setCell (p := ⟨w.heap.size, 2, none⟩) (Nat.le_refl _) c).setCell (p := ⟨w.heap.size, 3, none⟩) (Nat.le_refl _) d
theorem own_put4 {w : World} {base n sz g : Nat} {e : TypeId} {v : Value} {cs : List Value} (h : w.ownsRow base e sz v n cs) (hg : g < base) (a b c d : Value) : (put4P w g a b c d).ownsRow base e sz v n cs :=
  ownsRow_setCell_below (ownsRow_setCell_below (ownsRow_setCell_below (ownsRow_setCell_below h (a := ⟨g, 0, none⟩) hg a) (a := ⟨g, 1, none⟩) hg b) (a := ⟨g, 2, none⟩) hg c) (a := ⟨g, 3, none⟩) hg d
/-- a job and whether the line is one -/
def RetWl (w : World) (xs : List Jb) (r : Option Wj) (e : Ending) (w' : World) : Prop :=
  ∃ (x : ByteArray) (f t : Int) (d : Value) (l : List Int), e = .returned (.tuple #[.agg #[.string x, .int .i64 f, .int .i64 t, d], .bool r.isSome]) ∧ (∀ y, r = some y → x = y.nm ∧ f = y.days ∧ t = y.cost ∧ l = y.ws.map fun s => lastJ xs s xs.length) ∧ w'.ownsRow w.heap.size 2 1 d l.length (intV l) ∧ Below w.heap.size w w'
theorem RetWl.none {w w' : World} {xs : List Jb} {r : Option Wj} (h : r = none) (hb : Below w.heap.size w w') : RetWl w xs r (.returned (.tuple #[.agg #[.string ⟨#[]⟩, .int .i64 0, .int .i64 0, .slice none 0 0], .bool false])) w' := by
  subst h; exact ⟨_, _, _, _, [], rfl, (fun y h => by cases h), ⟨by simp [intV], .inl ⟨rfl, rfl⟩⟩, hb⟩
set_option maxRecDepth 100000 in
set_option maxHeartbeats 12800000 in
theorem l22Line_any (B : Nat) (v : Value) (xs : List Jb) (s : ByteArray) (w : World) (h : RdJ w B v xs) (hB : B ≤ w.heap.size) (hn : xs.length ≤ 100000) (hz : szJ xs) (hs : s.size ≤ 100000) : Calls Tryd.prog 87 #[v, .string s] w (RetWl w xs (rdWJ s)) := by
  have HPt := Lib.hid (fun wx => l01Split_any s 32 wx (by omega))
  unfold RetPs at HPt
  have H := Lib.hid h
  have HZ := Lib.hid hz
  obtain ⟨A, c, rfl⟩ := h.slice
  have hplen := splitB_len 32 s.size s (Nat.le_refl _)
  have HB0 := Lib.hid (Below.refl (w.alloc (.cells #[.string ⟨#[]⟩, .int .i64 0, .int .i64 0, .slice none 0 0] 62)).heap.size (w.alloc (.cells #[.string ⟨#[]⟩, .int .i64 0, .int .i64 0, .slice none 0 0] 62)))
  clear h hz
  by_cases h3 : (splitB 32 s).length < 3
  · have h3' : ((splitB 32 s).length : Int) < 3 := by omega
    have Hr := Lib.hid (rdWJ_few h3)
    clear h3
    go_enter Tryd.func87, Tryd.ntmps87
    go_wp2_with fail
    refine (HPt.out _).mono ?_; rintro e w5 ⟨v5, rfl, ho5, hb5⟩
    have HB5 := Lib.hid (HB0.out.trans (hb5.mono HB0.out.size))
    obtain ⟨A5, c5, rfl⟩ := sl_of_own ho5
    obtain ⟨⟨d0, d1, d2, d3⟩, e0, e1, e2, e3⟩ := res4J_pre HB5.out
    have HD := Lib.hid (res4J_post HB5.out (.string ⟨#[]⟩) (.int .i64 0) (.int .i64 0) (.slice none 0 0))
    generalize (splitB 32 s).length = n at *
    clear ho5 hb5 HPt HB0
    go_wp2_with fail
    obtain ⟨⟨k0, k1, k2, k3⟩, hbz⟩ := HD.out
    refine bodyPost_ret (v := .tuple #[.agg #[.string ⟨#[]⟩, .int .i64 0, .int .i64 0, .slice none 0 0], .bool false]) (by simp [results, Tryd.results87, go_sem, k0, k1, k2, k3]) rfl ?_
    exact RetWl.none Hr.out hbz
  · have h3' : ¬ (((splitB 32 s).length : Int) < 3) := by omega
    obtain ⟨x, a, b, ws, he⟩ := three_ofJ h3
    have hmem := splitB_mem 32 s.size s (Nat.le_refl _)
    have hrd := rdWJ_more he
    rw [he] at HPt hmem h3' hplen
    have ha := hmem a (by simp)
    have hbz := hmem b (by simp)
    have HD1 := Lib.hid (fun wx => l01Number_any a wx (by omega))
    have HD2 := Lib.hid (fun wx => l01Number_any b wx (by omega))
    unfold RetN1 at HD1 HD2
    have hfin := mkWj_fin (x := x) (ws := ws) (a := readN a) (b := readN b)
    rw [← hrd] at hfin
    have Hfin := Lib.hid (show (rdWJ s).isSome = ((readN a).isSome && (readN b).isSome) ∧ ∀ y, rdWJ s = some y → x = y.nm ∧ (readN a).getD 0 = y.days ∧ (readN b).getD 0 = y.cost ∧ ndsI xs ws ws.length = y.ws.map fun s => lastJ xs s xs.length from ⟨hfin.1, fun y hy => by
      have := hfin.2 y hy
      subst this
      exact ⟨rfl, rfl, rfl, ndsI_all xs ws⟩⟩)
    have hL := show (x :: a :: b :: ws).length = ws.length + 3 from rfl
    clear he h3 hmem hrd hfin ha hbz
    generalize (readN a).getD 0 = f at *
    generalize (readN b).getD 0 = t at *
    generalize (readN a).isSome = o1 at *
    generalize (readN b).isSome = o2 at *
    go_enter Tryd.func87, Tryd.ntmps87
    go_wp2_with fail
    obtain ⟨w0, hw0⟩ : ∃ z, w.alloc (.cells #[.string ⟨#[]⟩, .int .i64 0, .int .i64 0, .slice none 0 0] 62) = z := ⟨_, rfl⟩
    have hws0 : w0.heap.size = w.heap.size + 1 := by rw [← hw0]; simp
    have HWw := Lib.hid (show Below w.heap.size w w0 by rw [← hw0]; exact (Below.refl w.heap.size w).alloc (Nat.le_refl _) _)
    rw [hw0] at HB0
    (try rw [hw0])
    have HW0 := Lib.hid hw0
    clear hw0
    refine (HPt.out _).mono ?_; rintro e w6 ⟨v6, rfl, ho6, hb6⟩
    obtain ⟨g6, c6', rfl, hcap, _, hl6, hcs⟩ := own_strs ho6 (by simp)
    rw [hL] at hcap h3' hplen ⊢
    have q0 := hcs 0 (by simp)
    have q1 := hcs 1 (by simp)
    have q2 := hcs 2 (by simp)
    have HWs := Lib.hid (show ∀ i (hi : i < ws.length), w6.cell? ⟨g6, i + 3, none⟩ = some (.string ws[i]) from fun i hi => hcs (i + 3) (by rw [hL]; omega))
    have HB6 := Lib.hid (HB0.out.trans (hb6.mono HB0.out.size))
    clear ho6 hb6 HPt hcs hL HB0
    have hws : ws.length ≤ 100000 := by omega
    have hm1 : (1 : Int) < ((ws.length + 3 : Nat) : Int) := by omega
    have hm2 : (2 : Int) < ((ws.length + 3 : Nat) : Int) := by omega
    have hm0 : (0 : Int) < ((ws.length + 3 : Nat) : Int) := by omega
    obtain ⟨m6, hm6⟩ : ∃ z, ws.length + 3 = z := ⟨_, rfl⟩
    rw [hm6] at h3' hm0 hm1 hm2 hcap ⊢
    go_wp2_with fail
    refine (HD1.out _).mono ?_; rintro e w8 ⟨rfl, hb8⟩
    have HB8 := Lib.hid (HB6.out.trans (hb8.mono HB6.out.size))
    have r0 := (hb8.cell (p := ⟨g6, 0, none⟩) hl6).trans q0
    have r2 := (hb8.cell (p := ⟨g6, 2, none⟩) hl6).trans q2
    have HWs8 := Lib.hid (show ∀ i (hi : i < ws.length), w8.cell? ⟨g6, i + 3, none⟩ = some (.string ws[i]) from fun i hi => (hb8.cell (p := ⟨g6, i + 3, none⟩) hl6).trans (HWs.out i hi))
    have hl8 : g6 < w8.heap.size := Nat.lt_of_lt_of_le hl6 hb8.size
    clear hb8 HB6 HD1 q0 q1 q2 HWs hl6
    go_wp2_with fail
    refine (HD2.out _).mono ?_; rintro e w9 ⟨rfl, hb9⟩
    have HB9 := Lib.hid (HB8.out.trans (hb9.mono HB8.out.size))
    have q0 := (hb9.cell (p := ⟨g6, 0, none⟩) hl8).trans r0
    have HWs9 := Lib.hid (show ∀ i (hi : i < ws.length), w9.cell? ⟨g6, i + 3, none⟩ = some (.string ws[i]) from fun i hi => (hb9.cell (p := ⟨g6, i + 3, none⟩) hl8).trans (HWs8.out i hi))
    have hl9 : g6 < w9.heap.size := Nat.lt_of_lt_of_le hl8 hb9.size
    clear hb9 HB8 HD2 r0 r2 HWs8 hl8
    have hba := (Below.refl w9.heap.size w9).alloc (Nat.le_refl _) (.cells #[.string x, .int .i64 f, .int .i64 t, .slice none 0 0] 62)
    have HQa := Lib.hid (OwQ.new (show OwJ w0 w9 (.slice none 0 0) [] from ⟨⟨rfl, .inl ⟨rfl, rfl⟩⟩, fun y hy => (by cases hy), HB9.out⟩) (.string x) (.int .i64 f) (.int .i64 t))
    have HWsa := Lib.hid (show ∀ i (hi : i < ws.length), (w9.alloc (.cells #[.string x, .int .i64 f, .int .i64 t, .slice none 0 0] 62)).cell? ⟨g6, i + 3, none⟩ = some (.string ws[i]) from fun i hi => (hba.cell (p := ⟨g6, i + 3, none⟩) hl9).trans (HWs9.out i hi))
    have hq0 : w.heap.size < w9.heap.size := by have := HB9.out.size; omega
    clear hba HB9 HWs9
    go_upto_region 7 with (fail)
    generalize w9.alloc (.cells #[.string x, .int .i64 f, .int .i64 t, .slice none 0 0] 62) = wa at *
    generalize w9.heap.size = q at *
    clear q0
    have HB1 := Lib.hid (Below.refl q wa)
    go_wp2_with fail
    go_loopw [12] (fun i wy => ∃ (i' : Nat) (d : Value), i' ≤ ws.length ∧ i = .int .i64 ((i' + 3 : Nat) : Int) ∧ OwQ w0 wy (.slice none 0 0) [] q (.string x) (.int .i64 f) (.int .i64 t) d (ndsI xs ws i') ∧ Below q wa wy) (fun i _ => ws.length + 3 - (intOf i).toNat)
    case atStart => exact ⟨0, _, Nat.zero_le _, rfl, HQa.out, HB1.out⟩
    case round =>
      clear HB1 HQa
      obtain ⟨i, d, hi, rfl, hQ, hbq⟩ := hrel
      obtain ⟨Ad, cd, rfl⟩ := own_sl hQ.cur
      have HQ := Lib.hid hQ
      have Hbq := Lib.hid hbq
      have hndl : (ndsI xs ws i).length ≤ 100000 := by rw [ndsI_len xs ws hi]; omega
      by_cases hil : i < ws.length
      · have hil' : ((i + 3 : Nat) : Int) < (m6 : Int) := by omega
        have y0 := (hbq.cell (p := ⟨g6, i + 3, none⟩) hl9).trans (HWsa.out i hil)
        have Hst := Lib.hid (ndsI_step xs hil)
        have HI := Lib.hid (HWw.out.trans (hQ.bel.mono HWw.out.size))
        clear hQ hbq
        generalize ws[i] = z at *
        obtain ⟨wb, rfl⟩ : ∃ z, z = wr := ⟨_, rfl⟩
        go_wp2_with fail
        go_loopw [13, 14] (fun at' k' wz => ∃ m dq : Nat, m ≤ xs.length ∧ k' = .int .i64 (m : Int) ∧ at' = .int .i64 (lastJ xs z m) ∧ wz = wb.drewN dq) (fun _ k' _ => xs.length - (intOf k').toNat)
        case atStart => exact ⟨0, 0, Nat.zero_le _, rfl, rfl, rfl⟩
        case round =>
          obtain ⟨m, dq, hm, rfl, rfl, hwr⟩ := hrel
          have Hwr := Lib.hid hwr
          have y1 : wr.cell? ⟨g6, i + 3, none⟩ = some (.string z) := by rw [hwr]; exact y0
          have hbI : Below B w wr := by rw [hwr]; exact below_drewN (HI.out.mono hB) dq
          clear hwr y0
          by_cases hml : m < xs.length
          · have hml' : (m : Int) < (xs.length : Int) := by omega
            obtain ⟨gb, ob, A4, c4, hA4, hat⟩ := (H.out.below hbI).at m hml
            subst hA4
            have t0 := hat.c0
            clear hat hbI
            by_cases hnm : (jg xs m).nm = z
            · have Hs := Lib.hid (show lastJ xs z (m + 1) = (m : Int) from if_pos hnm)
              rw [hnm] at t0
              clear hnm
              go_wp2_with fail
              go_quiet (fail)
              go_wp2_with fail
              go_roundw
              case rel => exact ⟨m + 1, dq + nq, by omega, by go_num, by rw [Hs.out], by rw [Hwr.out]; exact World.drewN_drewN _ _ _⟩
              case measure => first | (simp [intOf]; done) | (simp [intOf]; omega)
            · have Hs := Lib.hid (show lastJ xs z (m + 1) = lastJ xs z m from if_neg hnm)
              have hnm' : ((jg xs m).nm.toList == z.toList) = false := beq_eq_false_iff_ne.2 fun h => hnm (ba_inj h)
              clear hnm
              generalize (jg xs m).nm = nm at *
              generalize lastJ xs z m = la at *
              go_wp2_with fail
              go_quiet (fail)
              go_wp2_with fail
              go_roundw
              case rel => exact ⟨m + 1, dq + nq, by omega, by go_num, by rw [Hs.out], by rw [Hwr.out]; exact World.drewN_drewN _ _ _⟩
              case measure => first | (simp [intOf]; done) | (simp [intOf]; omega)
          · obtain rfl : m = xs.length := by omega
            have hml' : ¬ ((xs.length : Int) < (xs.length : Int)) := by omega
            have hQ2 : OwQ w0 wr (.slice none 0 0) [] q (.string x) (.int .i64 f) (.int .i64 t) (.slice Ad (ndsI xs ws i).length cd) (ndsI xs ws i) := by rw [Hwr.out]; exact HQ.out.below (below_drewN (Below.refl _ _) dq)
            have Hbq2 := Lib.hid (show Below q wa wr by rw [Hwr.out]; exact below_drewN Hbq.out dq)
            have HQ2 := Lib.hid hQ2
            obtain ⟨⟨_, _, _, e3⟩, _, _, _, f3⟩ := blk4p hQ2.hq
            have Hcur := Lib.hid hQ2.cur
            have Hqb := Lib.hid (show q + 1 ≤ wr.heap.size from hQ2.qlt)
            clear hQ2 HQ Hbq Hwr y1 hbI
            generalize lastJ xs z xs.length = pv at *
            go_wp2_with (at_builtin; refine wpList_apd 29 2 _ 1 8 Tryd.underlying29 infoD rfl (by omega) _ _ rfl rfl (q + 1) _ (ndsI xs ws i).length _ rfl Hcur.out #[.int .i64 pv] 1 1 rfl rfl (by simp [Value.oneCell']) (by simp [maxLen]; omega) (by omega) Hqb.out ?_; intro v7 w7 hown7 hg7; obtain ⟨A7, c7, rfl⟩ := own_sl hown7; obtain ⟨hQ7, hq7, hb7⟩ := HQ2.out.app hg7 hown7; have HQ7 := Lib.hid hQ7; have HB7 := Lib.hid (Hbq2.out.trans hb7); obtain ⟨⟨_, _, _, z3⟩, _, _, _, g3⟩ := blk4p hq7; clear hown7 hg7 hQ7 hq7 hb7 e3 f3)
            go_roundw
            case rel => exact ⟨i + 1, _, by omega, by go_num, by rw [Hst.out]; exact HQ7.out, HB7.out⟩
            case measure => first | (simp [intOf]; done) | (simp [intOf]; omega)
      · obtain rfl : i = ws.length := by omega
        have hil' : ¬ (((ws.length + 3 : Nat) : Int) < (m6 : Int)) := by omega
        obtain ⟨⟨n0, n1, n2, n3⟩, -⟩ := blk4p hQ.hq
        have hbel := hQ.bel
        rw [← HW0.out] at hbel
        obtain ⟨⟨d0, d1, d2, d3⟩, e0, e1, e2, e3⟩ := res4J_pre hbel
        have HD := Lib.hid (res4J_post hbel (.string x) (.int .i64 f) (.int .i64 t) (.slice Ad (ndsI xs ws ws.length).length cd))
        have HOw := Lib.hid (ownsRow_le (own_put4 hQ.cur (show w.heap.size < q + 1 by omega) (.string x) (.int .i64 f) (.int .i64 t) (.slice Ad (ndsI xs ws ws.length).length cd)) (show w.heap.size ≤ q + 1 by omega))
        clear hQ hbq HQ Hbq hbel
        cases o1 with
        | true =>
          go_wp2_with fail
          obtain ⟨⟨k0, k1, k2, k3⟩, hbz⟩ := HD.out
          refine bodyPost_ret (v := .tuple #[.agg #[.string x, .int .i64 f, .int .i64 t, .slice Ad (ndsI xs ws ws.length).length cd], .bool o2]) (by simp [results, Tryd.results87, go_sem, k0, k1, k2, k3]) rfl ?_
          exact ⟨x, f, t, _, _, by rw [Hfin.out.1]; rfl, Hfin.out.2, HOw.out, hbz⟩
        | false =>
          go_wp2_with fail
          obtain ⟨⟨k0, k1, k2, k3⟩, hbz⟩ := HD.out
          refine bodyPost_ret (v := .tuple #[.agg #[.string x, .int .i64 f, .int .i64 t, .slice Ad (ndsI xs ws ws.length).length cd], .bool false]) (by simp [results, Tryd.results87, go_sem, k0, k1, k2, k3]) rfl ?_
          exact ⟨x, f, t, _, _, by rw [Hfin.out.1]; rfl, Hfin.out.2, HOw.out, hbz⟩
end Go.Proofs.YtepgfcjfdnakbaaDoor
/- Inventories, texts, part 8: ReadPieces of the reference (gen_pq8.py). -/
namespace Go.Proofs.YtepgfcjfdnakbaaDoor
open Go.RowKit Go.Joins

/-- a line is being read: the list in front, the words, the piece under way in block q -/
structure StZ (W w : World) (v : Value) (xs : List Pc) (g q : Nat) (x o a b : ByteArray) (p e r : Int) : Prop where
  own : w.ownsRow W.heap.size 46 4 v xs.length (xs.flatMap cellsP)
  bel : Below W.heap.size W w
  w4 : W4 w g x o a b
  blk : w.heap[q]? = some (.cells #[.string x, .int .i64 p, .int .i64 e, .int .i64 r] 46 (0, 0))
  ne : v.ownBlock ≠ some q
  lq : W.heap.size ≤ q
  qg : q ≠ g
theorem StZ.next {W w w' : World} {v : Value} {xs : List Pc} {g q : Nat} {x o a b : ByteArray} {p e r : Int} (h : StZ W w v xs g q x o a b p e r) (hb : Below w.heap.size w w') : StZ W w' v xs g q x o a b p e r :=
  ⟨own_below h.own hb, h.bel.trans (hb.mono h.bel.size), h.w4.next hb, (hb.block q (Array.getElem?_eq_some_iff.1 h.blk).1).trans h.blk, h.ne, h.lq, h.qg⟩
theorem StZ.set {W w : World} {v : Value} {xs : List Pc} {g q : Nat} {x o a b : ByteArray} {p e r : Int} (h : StZ W w v xs g q x o a b p e r) (i : Nat) (u : Int) {cs : Array Value} (hc : (#[.string x, .int .i64 p, .int .i64 e, .int .i64 r] : Array Value).setIfInBounds i (.int .i64 u) = cs) {p' e' r' : Int} (he : cs = #[.string x, .int .i64 p', .int .i64 e', .int .i64 r']) : StZ W (w.setCell ⟨q, i, none⟩ (.int .i64 u)) v xs g q x o a b p' e' r' := by
  have h1 := heap_setCell_same w q i _ _ (.int .i64 u) h.blk
  rw [hc, he] at h1
  have hg : w.grownBy (w.setCell ⟨q, i, none⟩ (.int .i64 u)) (some q) := grown_setCell (a := w) (p := ⟨q, i, none⟩) ⟨rfl, rfl, rfl, Nat.le_refl _, fun _ _ _ => rfl⟩ (.inl rfl) _
  have k4 := h.w4
  have hk : ∀ j, (w.setCell ⟨q, i, none⟩ (.int .i64 u)).cell? ⟨g, j, none⟩ = w.cell? ⟨g, j, none⟩ := fun j =>
    World.cell?_of_block (a := ⟨g, j, none⟩) (hg.block g k4.lt (fun e => h.qg (by injection e with e; exact e.symm)))
  refine ⟨ownsRow_setCell_other h.own (a := ⟨q, i, none⟩) h.ne _, h.bel.setCell (p := ⟨q, i, none⟩) h.lq _, ⟨Nat.lt_of_lt_of_le k4.lt hg.size, (hk 0).trans k4.c0, (hk 1).trans k4.c1, (hk 2).trans k4.c2, (hk 3).trans k4.c3⟩, h1, h.ne, h.lq, h.qg⟩
theorem nmZ_yes {xs : List Pc} {s : ByteArray} {m : Nat} (h : (pg xs m).name = s) : nmZ xs s (m + 1) = (m : Int) := by unfold nmZ; rw [if_pos h]
theorem nmZ_no {xs : List Pc} {s : ByteArray} {m : Nat} (h : (pg xs m).name ≠ s) : nmZ xs s (m + 1) = nmZ xs s m := by
  show (if (pg xs m).name = s then (m : Int) else nmZ xs s m) = _
  rw [if_neg h]
theorem nmZ_bd (xs : List Pc) (s : ByteArray) : ∀ m, -1 ≤ nmZ xs s m ∧ nmZ xs s m < (m : Int)
  | 0 => by unfold nmZ; omega
  | m + 1 => by
    have := nmZ_bd xs s m
    show -1 ≤ (if (pg xs m).name = s then (m : Int) else nmZ xs s m) ∧ (if (pg xs m).name = s then (m : Int) else nmZ xs s m) < ((m + 1 : Nat) : Int)
    split <;> omega
theorem ckZ_step {l : List ByteArray} {k : Nat} (h : ckZ l k) {r : Rw} (hk : k < l.length) (hr : rdW l[k] = some r) (h1 : k = 0 → r.up = ⟨#[45]⟩) (h2 : 0 < k → 0 ≤ nmZ (mkZ l k) r.up (mkZ l k).length) : ckZ l (k + 1) := fun i hi hik => by
  by_cases e : i = k
  · subst e; exact ⟨r, hr, h1, h2⟩
  · exact h i hi (by omega)
theorem mkZ_sm {l : List ByteArray} {n : Nat} (hl : ∀ z ∈ l, z.size ≤ n) : ∀ k, k ≤ l.length → okWs l k → ∀ x ∈ mkZ l k, x.name.size ≤ n := by
  intro k
  induction k with
  | zero => intro _ _ x hx; cases hx
  | succ k ih =>
    intro hk ho x hx
    obtain ⟨r, hr⟩ := Option.isSome_iff_exists.1 (ho k (by omega) (by omega))
    rw [mkZ_step (by omega) hr] at hx
    rcases List.mem_append.1 hx with hx | hx
    · exact ih (by omega) (fun i hi h2 => ho i hi (by omega)) x hx
    · rw [List.mem_singleton.1 hx]
      exact Nat.le_trans (rdW_size hr).1 (hl _ (List.getElem_mem _))
theorem ne_someP {x : ByteArray} (h : x.size ≠ 0) : (x.toList == []) = false := by
  rw [beq_eq_false_iff_ne]
  intro e
  rw [ByteArray.toList_eq] at e
  have h1 : x.data.toList.length = x.size := by simp
  rw [e] at h1
  exact h h1.symm
theorem ne_noneP {x : ByteArray} (h : x.size = 0) : (x.toList == []) = true := by
  rw [beq_iff_eq, ByteArray.toList_eq]
  exact List.eq_nil_of_length_eq_zero (by simpa using h)
set_option maxRecDepth 100000 in
set_option maxHeartbeats 3200000 in
theorem ReadPS_any (s : ByteArray) (w : World) (hs : s.size ≤ 100000) : Calls Tryd.prog 17 #[.string s] w (RetRx w (rdPcs s)) := by
  have HSp := Lib.hid (fun wx => l01Split_any s 10 wx (by omega))
  unfold RetPs at HSp
  have hlen := splitB_len 10 s.size s (Nat.le_refl _)
  obtain ⟨x, hx, hcs⟩ := lines_last (s := s)
  have hmem := splitB_mem 10 s.size s (Nat.le_refl _)
  have hpos : 0 < (splitB 10 s).length := List.length_pos_iff.2 (splitB_ne 10 s)
  have Hcs := Lib.hid hcs
  generalize hL : splitB 10 s = L at *
  have hxl : L[L.length - 1]'(by omega) = x := by
    rw [List.getLast?_eq_getElem?, List.getElem?_eq_getElem (by omega)] at hx
    exact Option.some.inj hx
  clear hL hx hcs
  obtain ⟨n, hn⟩ : ∃ n, L.length = n + 1 := ⟨L.length - 1, by omega⟩
  have Hn := Lib.hid hn
  go_enter Tryd.func17, Tryd.ntmps17
  go_wp2_with fail
  refine (HSp.out _).mono ?_; rintro e w5 ⟨v5, rfl, ho5, hb5⟩
  obtain ⟨g5, c5, rfl, _, _, hlt5, hc5⟩ := own_strs ho5 hpos
  have hlast := hc5 (L.length - 1) (by omega)
  rw [hxl] at hlast
  have HC5 := Lib.hid hc5
  have Hmem := Lib.hid hmem
  simp only [hn, Nat.add_sub_cancel] at hlast
  rw [hn]
  have Hlt5 := Lib.hid hlt5
  have HB5 := Lib.hid hb5
  have hb0 := Lib.hid ((Below.refl w5.heap.size w5).alloc (Nat.le_refl _) (.cells #[] 46))
  have ho0 := Lib.hid (World.ownsRow_made (base := w5.heap.size) (e := 46) (size := 4) w5 #[] 0 (Nat.le_refl _) (by simp [maxLen]) rfl)
  have hlast2 := (hb0.out.cell (p := ⟨g5, n, none⟩) hlt5).trans hlast
  have hn6 : n ≤ 100000 := by omega
  clear ho5 hb5 HSp hxl hlast hc5 hmem hlt5 hn hpos hlen
  rcases Hcs.out with ⟨hx0, hl⟩ | ⟨hx0, hl⟩
  · have Hr := Lib.hid (rdPcs_none hl)
    have hne := ne_someP hx0
    clear Hcs hl
    go_wp2_with fail
    go_ret2
    exact RetRx.none Hr.out (HB5.out.trans (hb0.out.mono HB5.out.size))
  · have hne := ne_noneP hx0
    by_cases h41 : 40 < n
    · have Hr := Lib.hid (rdPcs_long hl (by rw [List.length_dropLast, Hn.out]; omega))
      have h41' : (41 : Int) < (n : Int) + 1 := by omega
      clear Hcs hl
      go_wp2_with fail
      go_ret2
      exact RetRx.none Hr.out (HB5.out.trans (hb0.out.mono HB5.out.size))
    · have h41' : ¬ (41 : Int) < (n : Int) + 1 := by omega
      have Hl := Lib.hid hl
      have hdl : L.dropLast.length = n := by rw [List.length_dropLast, Hn.out]; omega
      have Hget := Lib.hid (fun k (h : k < L.dropLast.length) => drop_get h)
      have HM := Lib.hid (show ∀ z ∈ L.dropLast, z.size ≤ 1048576 from fun z hz => Nat.le_trans (Hmem.out z (List.dropLast_subset _ hz)) (by omega))
      have HC := Lib.hid (show ∀ (k : Nat) (h : k < L.dropLast.length), w5.cell? ⟨g5, k, none⟩ = some (.string L.dropLast[k]) from fun k h => by rw [Hget.out k h]; exact HC5.out k _)
      clear Hcs hl HC5 Hmem Hget Hn
      generalize L.dropLast = l at *
      have Hdl := Lib.hid hdl; clear hdl
      go_wp2_with fail
      go_loopw [5, 6] (fun o i wr => ∃ k : Nat, k ≤ n ∧ i = .int .i64 (k : Int) ∧ ckZ l k ∧ wr.ownsRow w5.heap.size 46 4 o k ((mkZ l k).flatMap cellsP) ∧ Below w5.heap.size w5 wr) (fun _ i _ => n - (intOf i).toNat)
      case atStart => exact ⟨0, Nat.zero_le _, rfl, fun i hi h => by omega, ho0.out, hb0.out⟩
      case round =>
        obtain ⟨k, hk, rfl, hall, hown, hbl⟩ := hrel
        have Hown := Lib.hid hown
        have Hbl := Lib.hid hbl
        have Hall := Lib.hid hall
        obtain ⟨A6, c6, rfl⟩ := sl_of_own hown
        have Hml := Lib.hid (mkZ_len k (by rw [Hdl.out]; exact hk) (ckZ_ok hall))
        clear hown hall hb0 ho0
        by_cases hlt : k < n
        · have hlt' : (k : Int) < (n : Int) := by omega
          have hkl : k < l.length := by rw [Hdl.out]; exact hlt
          have hce := (hbl.cell (p := ⟨g5, k, none⟩) Hlt5.out).trans (HC.out k hkl)
          have hline := HM.out _ (List.getElem_mem hkl)
          have HP := Lib.hid (l01Split_any l[k] 32 wr (by omega))
          have Hbad := Lib.hid (fun h => rdPcs_bad Hl.out k hkl h)
          have Href := Lib.hid (fun (r : Rw) (hr : rdW l[k] = some r) (hno : ¬ ((k = 0 → r.up = ⟨#[45]⟩) ∧ (0 < k → 0 ≤ nmZ (mkZ l k) r.up (mkZ l k).length))) => (show rdPcs s = none from by
            cases hq : rdPcs s with
            | none => rfl
            | some xs => exact absurd (rdPcs_ref hq Hl.out hkl hr) hno))
          have Hgood := Lib.hid (fun (r : Rw) h h1 h2 => (⟨ckZ_step Hall.out hkl h h1 h2, mkZ_step hkl h⟩ : ckZ l (k + 1) ∧ mkZ l (k + 1) = mkZ l k ++ [⟨r.nm, nmZ (mkZ l k) r.up (mkZ l k).length, r.ea, r.pr⟩]))
          unfold RetPs at HP
          generalize l[k] = line at *
          have hplen := splitB_len 32 line.size line (Nat.le_refl _)
          clear hbl
          by_cases h4 : (splitB 32 line).length = 4
          · obtain ⟨x, o, a, b, he⟩ := four_ofP h4
            have hmem := splitB_mem 32 line.size line (Nat.le_refl _)
            have hrd := rdW_four he
            rw [he] at HP hmem
            have ha := hmem a (by simp)
            have hbz := hmem b (by simp)
            have HD1 := Lib.hid (fun wx => l01Number_any a wx (by omega))
            have HD2 := Lib.hid (fun wx => l01Number_any b wx (by omega))
            unfold RetN1 at HD1 HD2
            have hfin := bothW_fin (x := x) (o := o) (a := readN a) (b := readN b)
            rw [← hrd] at hfin
            have Hfin := Lib.hid hfin
            clear he h4 hmem hplen hrd hfin ha hbz
            generalize (readN a).getD 0 = f at *
            generalize (readN b).getD 0 = t at *
            generalize (readN a).isSome = o1 at *
            generalize (readN b).isSome = o2 at *
            go_wp2_with fail
            refine HP.out.mono ?_; rintro e w6 ⟨v6, rfl, ho6, hb6⟩
            obtain ⟨g6, c6', rfl, hw6⟩ := own_w4 ho6
            have hb6t := Hbl.out.trans (hb6.mono Hbl.out.size)
            have hz6 := hw6.lt
            have ho6t := own_below Hown.out hb6
            have hna := heap_alloc_new w6 (.cells #[.string x, .int .i64 (-1), .int .i64 0, .int .i64 0] 46)
            have hba := (Below.refl w6.heap.size w6).alloc (Nat.le_refl _) (.cells #[.string x, .int .i64 (-1), .int .i64 0, .int .i64 0] 46)
            have HZ := Lib.hid (show StZ w5 (w6.alloc (.cells #[.string x, .int .i64 (-1), .int .i64 0, .int .i64 0] 46)) (.slice A6 k c6) (mkZ l k) g6 w6.heap.size x o a b (nmZ (mkZ l k) o 0) 0 0 from
              ⟨own_below (by rw [Hml.out]; exact ho6t) hba, hb6t.trans (hba.mono hb6t.size), hw6.next hba, hna, fun e => Nat.lt_irrefl _ (ho6t.lt _ e).2, hb6t.size, by omega⟩)
            obtain ⟨_, q0, q1, q2, q3⟩ := hw6
            clear ho6 hb6 HP Hown Hbl hce hb6t ho6t hna hba hz6
            go_upto_region 12 with (fail)
            generalize w6.alloc (.cells #[.string x, .int .i64 (-1), .int .i64 0, .int .i64 0] 46) = wa at *
            generalize w6.heap.size = q at *
            clear q0 q1 q2 q3
            go_wp2_with fail
            go_loopw [9] (fun i wy => ∃ m : Nat, m ≤ k ∧ i = .int .i64 (m : Int) ∧ StZ w5 wy (.slice A6 k c6) (mkZ l k) g6 q x o a b (nmZ (mkZ l k) o m) 0 0) (fun i _ => k - (intOf i).toNat)
            case atStart => exact ⟨0, Nat.zero_le _, rfl, HZ.out⟩
            case round =>
              obtain ⟨m, hm, rfl, hz⟩ := hrel
              have HZm := Lib.hid hz
              clear HZ
              by_cases hmk : m < k
              · have hmk' : (m : Int) < (k : Int) := by omega
                obtain ⟨gb, ob, hA, hat⟩ := RdP.at (xs := mkZ l k) (by have h := Rd.of_own hz.own; unfold RdP; rw [Hml.out] at h ⊢; exact h) m (by rw [Hml.out]; exact hmk)
                subst hA
                have y0 := hat.c0
                have y1 := hz.w4.c1
                obtain ⟨⟨_, z1, _, _⟩, _, f1, _, _⟩ := blk4p hz.blk
                obtain ⟨wq, rfl⟩ : ∃ z, z = wr := ⟨_, rfl⟩
                by_cases hnm : (pg (mkZ l k) m).name = o
                · have hz2 := (hz.next ((Below.refl wq.heap.size wq).drew)).set 1 (m : Int) rfl rfl
                  rw [← nmZ_yes hnm] at hz2
                  have Hst := Lib.hid (fun nq => (show StZ w5 ((wq.drewN nq).setCell ⟨q, 1, none⟩ (.int .i64 (m : Int))) (.slice (some ⟨gb, ob, none⟩) k c6) (mkZ l k) g6 q x o a b (nmZ (mkZ l k) o (m + 1)) 0 0 from by rw [nmZ_yes hnm]; exact (HZm.out.next (below_drewN (Below.refl _ _) nq)).set 1 (m : Int) rfl rfl))
                  rw [hnm] at y0
                  clear hat hz hz2 hnm
                  go_wp2_with fail
                  go_quiet (fail)
                  have hst := Hst.out nq
                  go_wp2_with fail
                  go_roundw
                  case rel => exact ⟨m + 1, by omega, by go_num, hst⟩
                  case measure => first | (simp [intOf]; done) | (simp [intOf]; omega)
                · have Hst := Lib.hid (fun nq => (show StZ w5 (wq.drewN nq) (.slice (some ⟨gb, ob, none⟩) k c6) (mkZ l k) g6 q x o a b (nmZ (mkZ l k) o (m + 1)) 0 0 from by rw [nmZ_no hnm]; exact HZm.out.next (below_drewN (Below.refl _ _) nq)))
                  have hnm' : ((pg (mkZ l k) m).name.toList == o.toList) = false := beq_eq_false_iff_ne.2 fun h => hnm (ba_inj h)
                  clear hat hz hnm
                  generalize (pg (mkZ l k) m).name = nm at *
                  go_wp2_with fail
                  go_quiet (fail)
                  have hst := Hst.out nq
                  go_wp2_with fail
                  go_roundw
                  case rel => exact ⟨m + 1, by omega, by go_num, hst⟩
                  case measure => first | (simp [intOf]; done) | (simp [intOf]; omega)
              · have hmk0 : m = k := by omega
                subst hmk0
                have hmk' : ¬ (m : Int) < (m : Int) := by omega
                have y2 := hz.w4.c2
                clear hz
                go_wp2_with fail
                refine (HD1.out _).mono ?_; rintro e w8 ⟨rfl, hb8⟩
                have HZ8 := Lib.hid (HZm.out.next hb8)
                have y3 := HZ8.out.w4.c3
                clear hb8 HZm y2 HD1
                go_wp2_with fail
                refine (HD2.out _).mono ?_; rintro e w9 ⟨rfl, hb9⟩
                have HZ9 := Lib.hid (HZ8.out.next hb9)
                clear hb9 HZ8 y3 HD2
                have y1 := HZ9.out.w4.c1
                obtain ⟨⟨z0, z1, z2, z3⟩, _, f1, f2, f3⟩ := blk4p HZ9.out.blk
                have hbel := Lib.hid (HB5.out.trans (HZ9.out.bel.mono HB5.out.size))
                have hnb := nmZ_bd (mkZ l m) o m
                cases hr : rdW line with
                | none =>
                  have Hr := Lib.hid (Hbad.out hr)
                  have ho12 := Hfin.out.1
                  rw [hr] at ho12
                  clear hr Hbad Hgood Hfin Href
                  generalize nmZ (mkZ l m) o m = pz at *
                  cases o1 with
                  | false =>
                    clear ho12
                    go_wp2_with fail
                    go_ret2
                    exact RetRx.none Hr.out hbel.out
                  | true =>
                    cases o2 with
                    | true => cases ho12
                    | false =>
                      clear ho12
                      go_wp2_with fail
                      go_ret2
                      exact RetRx.none Hr.out hbel.out
                | some y =>
                  have ho12 := Hfin.out.1
                  rw [hr] at ho12
                  have hy := Hfin.out.2 y hr
                  have Hrf := Lib.hid (Href.out y hr)
                  have Hgd := Lib.hid (Hgood.out y hr)
                  rw [hy, Hml.out] at Hrf Hgd
                  dsimp only at Hrf Hgd
                  clear hr Hbad Hgood Hfin Href hy
                  cases o1 with
                  | false => cases ho12
                  | true =>
                    cases o2 with
                    | false => cases ho12
                    | true =>
                      clear ho12
                      by_cases hm0 : m = 0
                      · by_cases ho : o = ⟨#[45]⟩
                        · obtain ⟨hck, hmz⟩ := Hgd.out (fun _ => ho) (fun h => absurd hm0 (by omega))
                          have hk0 : ((m : Int) == 0) = true := by rw [beq_iff_eq]; omega
                          have hk1 : ¬ ((0 : Int) < (m : Int)) := by omega
                          have Hm0 := Lib.hid hm0
                          have Hmz := Lib.hid hmz
                          have Hck := Lib.hid hck
                          have hod : (o.toList == [45]) = true := by rw [ho, ByteArray.toList_eq]; rfl
                          clear Hrf Hgd ho hm0 hmz hck
                          generalize nmZ (mkZ l m) o m = pz at *
                          have HZa := Lib.hid (HZ9.out.set 2 f rfl rfl)
                          have HZb := Lib.hid (HZa.out.set 3 t rfl rfl)
                          obtain ⟨wb, hwb⟩ : ∃ z, w9.setCell ⟨q, 2, none⟩ (.int .i64 f) = z := ⟨_, rfl⟩
                          rw [hwb] at HZa HZb
                          obtain ⟨wc, hwc⟩ : ∃ z, wb.setCell ⟨q, 3, none⟩ (.int .i64 t) = z := ⟨_, rfl⟩
                          rw [hwc] at HZb
                          obtain ⟨⟨a0, a1, a2, a3⟩, _, _, _, g3⟩ := blk4p HZa.out.blk
                          obtain ⟨⟨b0, b1, b2, b3⟩, -⟩ := blk4p HZb.out.blk
                          have Hoc := Lib.hid (show wc.ownsRow w5.heap.size 46 4 (.slice A6 m c6) m ((mkZ l m).flatMap cellsP) from by have h := HZb.out.own; rw [Hml.out] at h; exact h)
                          have Hbc := Lib.hid HZb.out.bel
                          have hzc := HZb.out.bel.size
                          have Hon := Lib.hid (ones4 x pz f t)
                          clear HZ9 HZa HZb hnb
                          go_wp2_with (at_builtin; refine wpList_apd 24 46 _ 4 40 Tryd.underlying24 infoP rfl (by omega) _ _ rfl rfl w5.heap.size _ m _ rfl Hoc.out #[.string x, .int .i64 pz, .int .i64 f, .int .i64 t] 1 1 rfl rfl Hon.out (by simp [maxLen]; omega) (by omega) hzc ?_; intro v10 w10 hown10 hg10; have Hb10 := Lib.hid (below_apd Hbc.out Hoc.out hg10 (Nat.le_refl _) hzc); have Ho10 := Lib.hid hown10; clear hown10 hg10)
                          go_roundw
                          case rel => exact ⟨m + 1, by omega, by go_num, Hck.out, by rw [Hmz.out, ← pc_snoc]; exact Ho10.out, Hb10.out⟩
                          case measure => simp [intOf]; omega
                        · have Hr := Lib.hid (Hrf.out (fun h => ho (h.1 hm0)))
                          have hk0 : ((m : Int) == 0) = true := by rw [beq_iff_eq]; omega
                          have hod : (o.toList == [45]) = false := by
                            rw [beq_eq_false_iff_ne]
                            intro e
                            exact ho (ba_inj (by rw [e, ByteArray.toList_eq]))
                          generalize nmZ (mkZ l m) o m = pz at *
                          clear Hrf Hgd ho hm0
                          go_wp2_with fail
                          go_ret2
                          exact RetRx.none Hr.out hbel.out
                      · have hk0 : ((m : Int) == 0) = false := by rw [beq_eq_false_iff_ne]; omega
                        have hk1 : (0 : Int) < (m : Int) := by omega
                        by_cases hpz : nmZ (mkZ l m) o m < 0
                        · have Hr := Lib.hid (Hrf.out (fun h => by have := h.2 (by omega); omega))
                          generalize nmZ (mkZ l m) o m = pz at *
                          clear Hrf Hgd
                          go_wp2_with fail
                          go_ret2
                          exact RetRx.none Hr.out hbel.out
                        · obtain ⟨hck, hmz⟩ := Hgd.out (fun h => absurd h hm0) (fun _ => by omega)
                          have hpz' : ¬ (nmZ (mkZ l m) o m < 0) := hpz
                          have Hmz := Lib.hid hmz
                          have Hck := Lib.hid hck
                          clear Hrf Hgd hmz hck hpz
                          generalize nmZ (mkZ l m) o m = pz at *
                          have HZa := Lib.hid (HZ9.out.set 2 f rfl rfl)
                          have HZb := Lib.hid (HZa.out.set 3 t rfl rfl)
                          obtain ⟨wb, hwb⟩ : ∃ z, w9.setCell ⟨q, 2, none⟩ (.int .i64 f) = z := ⟨_, rfl⟩
                          rw [hwb] at HZa HZb
                          obtain ⟨wc, hwc⟩ : ∃ z, wb.setCell ⟨q, 3, none⟩ (.int .i64 t) = z := ⟨_, rfl⟩
                          rw [hwc] at HZb
                          obtain ⟨⟨a0, a1, a2, a3⟩, _, _, _, g3⟩ := blk4p HZa.out.blk
                          obtain ⟨⟨b0, b1, b2, b3⟩, -⟩ := blk4p HZb.out.blk
                          have Hoc := Lib.hid (show wc.ownsRow w5.heap.size 46 4 (.slice A6 m c6) m ((mkZ l m).flatMap cellsP) from by have h := HZb.out.own; rw [Hml.out] at h; exact h)
                          have Hbc := Lib.hid HZb.out.bel
                          have hzc := HZb.out.bel.size
                          have Hon := Lib.hid (ones4 x pz f t)
                          clear HZ9 HZa HZb hnb
                          go_wp2_with (at_builtin; refine wpList_apd 24 46 _ 4 40 Tryd.underlying24 infoP rfl (by omega) _ _ rfl rfl w5.heap.size _ m _ rfl Hoc.out #[.string x, .int .i64 pz, .int .i64 f, .int .i64 t] 1 1 rfl rfl Hon.out (by simp [maxLen]; omega) (by omega) hzc ?_; intro v10 w10 hown10 hg10; have Hb10 := Lib.hid (below_apd Hbc.out Hoc.out hg10 (Nat.le_refl _) hzc); have Ho10 := Lib.hid hown10; clear hown10 hg10)
                          go_roundw
                          case rel => exact ⟨m + 1, by omega, by go_num, Hck.out, by rw [Hmz.out, ← pc_snoc]; exact Ho10.out, Hb10.out⟩
                          case measure => simp [intOf]; omega
          · have hnq : (((splitB 32 line).length : Int) == 4) = false := by rw [beq_eq_false_iff_ne]; omega
            have hnq2 : (((splitB 32 line).length : Int) != 4) = true := by simp [bne, hnq]
            have Hr := Lib.hid (Hbad.out (rdW_not h4))
            clear Hbad Hgood Href h4
            go_wp2_with fail
            refine HP.out.mono ?_; rintro e w6 ⟨v6, rfl, ho6, hb6⟩
            obtain ⟨A6', c6', rfl⟩ := sl_of_own ho6
            have Hb6 := Lib.hid (Hbl.out.trans (hb6.mono Hbl.out.size))
            generalize (splitB 32 line).length = m at *
            clear ho6 hb6 HP Hown Hbl hce
            go_wp2_with fail
            go_ret2
            exact RetRx.none Hr.out (HB5.out.trans (Hb6.out.mono HB5.out.size))
        · have hkn : k = n := by omega
          subst hkn
          have hlt' : ¬ (k : Int) < (k : Int) := by omega
          have hr := rdPcs_refl Hl.out (by rw [Hdl.out]; exact Hall.out)
          rw [Hdl.out] at hr
          have hO : OwP wr w5.heap.size (.slice A6 k c6) (mkZ l k) := by unfold OwP; rw [Hml.out]; exact Hown.out
          have HO := Lib.hid hO
          have hsm := sm_szP (mkZ_sm HM.out k (by rw [Hdl.out]; exact Nat.le_refl _) (ckZ_ok Hall.out))
          have HK := Lib.hid (ValidPS_any wr.heap.size (.slice A6 k c6) (mkZ l k) wr hO.rd (Nat.le_refl _) (by rw [Hml.out]; omega) hsm)
          clear hO Hown Hall hsm
          cases hok : okP (mkZ l k) with
          | true =>
            have Hr := Lib.hid (hr.trans (if_pos hok))
            rw [hok] at HK
            clear hok hr
            go_wp2_with fail
            refine HK.out.mono ?_; rintro e w9 ⟨rfl, hb9⟩
            have Hb9 := Lib.hid (hbl.trans (hb9.mono hbl.size))
            have HO9 := Lib.hid (show OwP w9 w5.heap.size (.slice A6 k c6) (mkZ l k) from own_below HO.out hb9)
            clear hb9
            go_wp2_with fail
            go_ret2
            exact RetRx.some Hr.out (ownsRow_le HO9.out HB5.out.size) (HB5.out.trans (Hb9.out.mono HB5.out.size))
          | false =>
            have Hr := Lib.hid (hr.trans (if_neg (by rw [hok]; simp)))
            rw [hok] at HK
            clear hok hr
            go_wp2_with fail
            refine HK.out.mono ?_; rintro e w9 ⟨rfl, hb9⟩
            have Hb9 := Lib.hid (hbl.trans (hb9.mono hbl.size))
            clear hb9
            go_wp2_with fail
            go_ret2
            exact RetRx.none Hr.out (HB5.out.trans (Hb9.out.mono HB5.out.size))
end Go.Proofs.YtepgfcjfdnakbaaDoor
