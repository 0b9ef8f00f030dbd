/- Chains, part 8: the draw. -/
import Derived.Test.YtdljlemgaefbpaaCh7
import Derived.Test.YtdljlemgaefbpaaLib7
import Derived.Test.YtdljlemgaefbpaaFew9
import Derived.Deep.DrawnRows
namespace Go.Proofs.Ytdljlemgaefbpaa
open Go.RowKit Go.Joins
attribute [local go_sem ↓] Go.wp_at_zero Go.wp_at_succ

theorem wpList_apd_at {P : Program} {w : World} {ops : Array Oper} {rest : List Oper} {o : Oper} {a : Act} {Q : Exit → Act → World → Prop} (t e : TypeId) (z : Value) (size bytes : Nat)
    (ht : P.underlying t = some (.slice e)) (hinfo : (P.info? e).map (fun i => (i.zero, i.size, i.bytes)) = some (some z, size, bytes)) (hzs : z.cells.size = size) (hsz : 0 < size)
    (s x : Operand) (hgd : o.guard = none) (ho : o.op = .call { callee := .builtin .append, args := #[s, x], argTypes := #[t, t] })
    (base : Nat) (v : Value) (n : Nat) (xs : List Value) (hs : a.eval s = v) (hown : w.ownsRow base e size v n xs)
    (cs : Array Value) (m c : Nat) (hx : a.eval x = .slice (some ⟨w.heap.size, 0, none⟩) m c) (hl : cs.toList.length = m * size) (h1 : ∀ u ∈ cs.toList, u.oneCell' = true)
    (h63 : n + m ≤ maxLen) (hbytes : (n + m) * bytes ≤ 140737488355328) (hbase : base ≤ w.heap.size)
    (h : ∀ v' w', w'.ownsRow base e size v' (n + m) (xs ++ cs.toList) → w.grownBy w' v.ownBlock → w.heap.size + 1 ≤ w'.heap.size → (v'.ownBlock = v.ownBlock ∨ v'.ownBlock = some (w.heap.size + 1)) → wpList P ops Q rest (a.put o.dst v') w') :
    wpList P ops Q (o :: rest) a (w.alloc (.cells cs e)) :=
  wpList_plain hgd fun _ hK => wp_apd_at t e z size bytes ht hinfo hzs hsz s x ho base v n xs hs hown cs m c hx hl h1 h63 hbytes hbase fun v' w' h2 h3 h4 h5 => hK _ _ (h v' w' h2 h3 h4 h5)

theorem nm_cell {w : World} {B L g c : Nat} {l : List Int} (h : w.ownsRow B 2 1 (.slice (some ⟨g, 0, none⟩) l.length c) l.length (nmV l)) (hl : l.length = L + 1) : w.cell? ⟨g, L, none⟩ = some (.int .i64 (at0 l L)) := by
  rw [nmV_tab] at h
  exact (own_cellD h L (by omega)).1
def DrF (ps qs : List Int) : Prop := (∀ k, k < ps.length → 0 ≤ at0 ps k ∧ at0 ps k ≤ 100 ∧ at0 qs (k + 1) - at0 qs k ≤ at0 ps k ∧ at0 qs k - at0 qs (k + 1) ≤ at0 ps k) ∧ qs.length = ps.length + 1 ∧ (∀ k, k ≤ ps.length → -(10 + 4 * (k : Int)) ≤ at0 qs k ∧ at0 qs k ≤ 10 + 4 * (k : Int))
theorem DrF.app {ps qs : List Int} {p x : Int} (h : DrF ps qs) (h0 : 0 ≤ p) (h1 : p ≤ 4) (hx : x - at0 qs ps.length ≤ p ∧ at0 qs ps.length - x ≤ p) : DrF (ps ++ [p]) (qs ++ [x]) := by
  obtain ⟨ha, hl, hb⟩ := h
  refine ⟨chn_app ha hl h0 (by omega) hx, by simp [hl], fun k hk => ?_⟩
  rw [List.length_append, List.length_singleton] at hk
  have hbl := hb ps.length (Nat.le_refl _)
  by_cases e : k = ps.length + 1
  · subst e
    unfold at0 at *
    simp only [List.getD_eq_getElem?_getD] at *
    rw [List.getElem?_append_right (by omega), show ps.length + 1 - qs.length = 0 by omega]
    simp only [List.getElem?_cons_zero, Option.getD_some]
    omega
  · have := hb k (by omega)
    unfold at0 at *
    simp only [List.getD_eq_getElem?_getD] at *
    rw [List.getElem?_append_left (by omega)]
    exact this
theorem DrF.chn {ps qs : List Int} (h : DrF ps qs) (h1 : 1 ≤ ps.length) (h5 : ps.length ≤ 5) : Chn ps.length (at0 ps) (at0 qs) ∧ Small 1000 (ps.length + 1) (at0 qs) := by
  obtain ⟨ha, hl, hb⟩ := h
  refine ⟨⟨h1, by omega, fun k hk => ?_, fun k hk => (ha k hk).2.1, fun k hk => ?_⟩, fun k hk => ?_⟩
  · have := ha k hk; exact ⟨this.1, this.2.2.1, this.2.2.2⟩
  · have := hb k (by omega); omega
  · have := hb k (by omega); omega
def RetDC (gs : Nat) (w : World) (e : Ending) (w' : World) : Prop :=
  ∃ vp vq ps qs, e = .returned (.agg #[vp, vq]) ∧ DrF ps qs ∧ 1 ≤ ps.length ∧ ps.length ≤ 5 ∧ w'.ownsRow w.heap.size 2 1 vp ps.length (nmV ps) ∧ w'.ownsRow w.heap.size 2 1 vq qs.length (nmV qs) ∧ Below gs w w'
theorem nilOwn_sl {w : World} {B n sz : Nat} {e : TypeId} {v : Value} {xs : List Value} (h : w.ownsRow B e sz v n xs) : ∃ A c, v = .slice A n c := own_sl h
theorem dp1 {x : Int} (h0 : 0 ≤ x) (h1 : x < 20) : IntKind.i64.wrap (x - 10) = x - 10 := IntWalk.i64_in _ (by omega)
theorem dp2 {x : Int} (h0 : 0 ≤ x) (h1 : x < 5) : IntKind.i64.wrap (1 + x) = 1 + x := IntWalk.i64_in _ (by omega)
theorem dp3 {x : Int} (h0 : 0 ≤ x) (h1 : x < 5) : IntKind.i64.wrap (2 * x) = 2 * x ∧ IntKind.i64.wrap (2 * x + 1) = 2 * x + 1 := ⟨IntWalk.i64_in _ (by omega), IntWalk.i64_in _ (by omega)⟩
theorem dp4 {a p y : Int} (h0 : -1000 ≤ a ∧ a ≤ 1000) (h1 : 0 ≤ p ∧ p < 5) (hy : 0 ≤ y ∧ y < 11) : IntKind.i64.wrap (a + y) = a + y ∧ IntKind.i64.wrap (a + y - p) = a + y - p := ⟨IntWalk.i64_in _ (by omega), IntWalk.i64_in _ (by omega)⟩
theorem dp5 {a p y : Int} (hp : 0 ≤ p) (h0 : 0 ≤ y) (h1 : 2 ≤ 2 * p + 1 → y < 2 * p + 1) (h2 : 2 * p + 1 ≤ 1 → y = 0) : (a + y - p) - a ≤ p ∧ a - (a + y - p) ≤ p := by omega

theorem dp6 {p y : Int} (hp : 0 ≤ p) (h5 : p < 5) (h : 0 ≤ y ∧ (2 ≤ 2 * p + 1 → y < 2 * p + 1) ∧ (2 * p + 1 ≤ 1 → y = 0)) : 0 ≤ y ∧ y < 11 := by omega
theorem DrAt.rowQ {B0 L : Nat} {w wr : World} {r g : Nat} {vp vq : Value} {ps qs : List Int} (h : DrAt B0 w wr r g vp vq ps qs) (hl : qs.length = L + 1) : wr.ownsRow w.heap.size 2 1 vq (L + 1) (nmV qs) := hl ▸ h.rq
theorem nm_cellL {w : World} {B L g c : Nat} {l : List Int} {a : Int} (h : w.ownsRow B 2 1 (.slice (some ⟨g, 0, none⟩) (L + 1) c) (L + 1) (nmV l)) (hl : l.length = L + 1) (ha : at0 l L = a) : w.cell? ⟨g, L, none⟩ = some (.int .i64 a) := by
  rw [← hl] at h
  rw [nm_cell h hl, ha]
theorem DrAt.appQL {B0 L : Nat} {w wr w' : World} {r g : Nat} {vp vq v' : Value} {ps qs : List Int} {x : Int} (h : DrAt B0 w wr r g vp vq ps qs) (hl : qs.length = L + 1) (hB : B0 ≤ w.heap.size) (hg : w.heap.size ≤ g) (hrg : r ≠ g)
    (h2 : w'.ownsRow w.heap.size 2 1 v' (L + 1 + 1) (nmV qs ++ [.int .i64 x])) (h3 : wr.grownBy w' vq.ownBlock) (h4 : v'.ownBlock = vq.ownBlock ∨ v'.ownBlock = some (wr.heap.size + 1)) :
    w'.cell? ⟨g, 1, none⟩ = some vq ∧ w'.frozen? ⟨g, 1, none⟩ = false ∧ DrAt B0 w (w'.setCell ⟨g, 1, none⟩ v') r g vp v' ps (qs ++ [x]) :=
  h.appQ hB hg hrg (Nat.le_succ _) (hl ▸ h2) h3 h4
theorem srcStepC {B gs K g i n sz BB : Nat} {bs : List UInt8} {w2 w' : World} {e : TypeId} {v v' : Value} {xs : List Value} (hs : SrcAt w2 B gs K bs) (ho : w2.ownsRow BB e sz v n xs) (hgl : gs < BB) (hg : gs < g) (h3 : w2.grownBy w' v.ownBlock) : SrcAt (w'.setCell ⟨g, i, none⟩ v') B gs K bs :=
  SrcAt.setC (SrcAt.grown (w' := w') hs h3 (fun z hz => Nat.lt_of_lt_of_le hgl (ho.lt z hz).1)) hg v'

set_option maxRecDepth 20000 in
set_option maxRecDepth 100000 in
set_option maxHeartbeats 3200000 in
theorem l04DrawChain_any (B gs : Nat) (bs : List UInt8) (w : World) (h : SrcAt w B gs 0 bs) : Calls Try.prog 83 #[.pointer (some ⟨gs, 0, none⟩)] w (RetDC gs w) := by
  have hgl := h.lt
  have hb1 := (Below.refl w.heap.size w).alloc (Nat.le_refl _) (.cells #[.slice none 0 0, .slice none 0 0] 26)
  have Hs1 := Lib.hid (h.below hb1)
  have Hb1 := Lib.hid (hb1.mono (Nat.le_of_lt hgl))
  have Hr1 := Lib.hid (heap_alloc_new w (.cells #[.slice none 0 0, .slice none 0 0] 26))
  have hz1 : w.heap.size < (w.alloc (.cells #[.slice none 0 0, .slice none 0 0] 26)).heap.size := by simp
  have Hsz1 := Lib.hid (show (w.alloc (.cells #[.slice none 0 0, .slice none 0 0] 26)).heap.size = w.heap.size + 1 by simp)
  clear h hb1
  go_enter Try.func83, Try.ntmps83
  go_wp2_with fail
  generalize w.alloc (.cells #[.slice none 0 0, .slice none 0 0] 26) = w1 at *
  refine (pick_any B gs 0 bs 20 _ Hs1.out (by omega)).mono ?_; rintro e w2 ⟨q0, rfl, ⟨a0, a1, _⟩, hs2, hg2⟩
  have a2 := a1 (by omega)
  have aw := dp1 a0 a2
  have hr2 := (hg2.block w.heap.size hz1 (fun e => by injection e; omega)).trans Hr1.out
  have hb2 := Hb1.out.grown hg2 (Nat.le_trans (Nat.le_of_lt hgl) Hb1.out.size) (fun k hk => by cases hk; exact Nat.le_refl _)
  have hz2 : w.heap.size < w2.heap.size := Nat.lt_of_lt_of_le hz1 hg2.size
  have Htn := Lib.hid (dr_new (q0 - 10) hr2 hb2 (Nat.le_of_lt hgl) (Nat.le_of_lt hz2))
  have Hsn := Lib.hid ((hs2.below ((Below.refl w2.heap.size w2).alloc (Nat.le_refl _) (.cells #[.int .i64 (q0 - 10)] 2))).below ((Below.refl _ _).alloc (Nat.le_refl _) (.cells #[.slice none 0 0, .slice (some ⟨w2.heap.size, 0, none⟩) 1 1] 26)))
  have hF0 : DrF [] [q0 - 10] := ⟨fun k hk => by simp at hk, rfl, fun k hk => by
    have : k = 0 := by simpa using hk
    subst this
    simp [at0]
    omega⟩
  have HF0 := Lib.hid hF0
  have hG : w.heap.size ≤ w2.heap.size + 1 := by omega
  have hGr : w.heap.size ≠ w2.heap.size + 1 := by omega
  have hGg : gs < w2.heap.size + 1 := by omega
  clear hs2 hg2 hr2 hb2 a1 hF0 Hs1 Hb1 Hr1 hz1
  go_wp2_with fail
  generalize hw4 : (w2.alloc (.cells #[.int .i64 (q0 - 10)] 2)).alloc (.cells #[.slice none 0 0, .slice (some ⟨w2.heap.size, 0, none⟩) 1 1] 26) = w4 at *
  refine (pick_any B gs 2 bs 5 _ Hsn.out (by omega)).mono ?_; rintro e w5 ⟨y, rfl, ⟨hy0, hy1, _⟩, hs5, hg5⟩
  have hy2 := hy1 (by omega)
  have yw := dp2 hy0 hy2
  obtain ⟨m, rfl⟩ : ∃ m : Nat, y = (m : Int) := ⟨y.toNat, by omega⟩
  have Ht5 := Lib.hid (Htn.out.pick (Nat.le_of_lt hgl) (Nat.le_refl _) hgl (Nat.le_refl _) hG hg5)
  have Hs5 := Lib.hid hs5
  clear hs5 hg5 Htn Hsn hw4 hy1
  go_wp2_with fail
  go_loopw [4] (fun i wr => ∃ (ps qs : List Int) (q : Nat) (vp vq : Value), ps.length + q = m + 1 ∧ i = .int .i64 (q : Int) ∧ DrF ps qs ∧ DrAt gs w wr w.heap.size (w2.heap.size + 1) vp vq ps qs ∧ SrcAt wr B gs (4 + 4 * ps.length) bs) (fun i _ => (intOf i).toNat)
  case atStart => exact ⟨[], [q0 - 10], m + 1, _, _, by simp, by congr 1; omega, HF0.out, Ht5.out, Hs5.out⟩
  case round =>
    obtain ⟨ps, qs, q, vp, vq, hlq, rfl, hF, hd, hs⟩ := hrel
    by_cases hq : q = 0
    · subst hq
      have hp1 : 1 ≤ ps.length ∧ ps.length ≤ 5 := by omega
      obtain ⟨A, cp, rfl⟩ := own_sl hd.rp
      obtain ⟨A', cq, rfl⟩ := own_sl hd.rq
      obtain ⟨r0, r1, r2, r3⟩ := blk2 hd.res
      obtain ⟨d0, d1, _, _⟩ := blk2 hd.own
      obtain ⟨e0, e1, ho1, ho2, hbe⟩ := hd.done (Nat.le_of_lt hgl) (.slice A ps.length cp) (.slice A' qs.length cq)
      have He0 := Lib.hid e0
      have He1 := Lib.hid e1
      have Hfin := Lib.hid (show RetDC gs w (.returned (.agg #[.slice A ps.length cp, .slice A' qs.length cq])) _ from ⟨_, _, ps, qs, rfl, hF, hp1.1, hp1.2, ho1, ho2, hbe⟩)
      clear e0 e1 ho1 ho2 hbe hd hF hs
      go_wp2_with fail
      exact bodyPost_ret (v := .agg #[.slice A ps.length cp, .slice A' qs.length cq]) (by simp [results, Try.results83, go_sem, He0.out, He1.out]) rfl Hfin.out
    · have hq' : (0 : Int) < (q : Int) := by omega
      have HF := Lib.hid hF
      have Hlq := Lib.hid hlq
      have Hd := Lib.hid hd
      obtain ⟨K, hK⟩ : ∃ K, K = 4 + 4 * ps.length := ⟨_, rfl⟩
      rw [← hK] at hs
      have Hs := Lib.hid hs
      have HK := Lib.hid hK
      have hK3 : K < 4611686018427387900 := by omega
      have hL5 : ps.length ≤ 4 := by omega
      have hq6 : (q : Int) ≤ 6 := by omega
      clear hF hlq hd hs hK
      go_wp2_with fail
      refine (pick_any B gs K bs 5 _ Hs.out hK3).mono ?_; rintro e w6 ⟨pl, rfl, ⟨p0, p1, _⟩, hs6, hg6⟩
      have p2 := p1 (by omega)
      have hql := HF.out.2.1
      obtain ⟨a, ha⟩ : ∃ a, at0 qs ps.length = a := ⟨_, rfl⟩
      have hab : -1000 ≤ a ∧ a ≤ 1000 := by
        have := HF.out.2.2 ps.length (Nat.le_refl _)
        rw [ha] at this
        omega
      have hd6 := Hd.out.pick (Nat.le_of_lt hgl) (Nat.le_refl _) hgl (Nat.le_refl _) hG hg6
      obtain ⟨A, cp, rfl⟩ := own_sl hd6.rp
      obtain ⟨gq, cq, hvq, _, _⟩ := own_posC hd6.rq (show 0 < qs.length by omega)
      rw [hql] at hvq
      subst hvq
      obtain ⟨c0, c1, z0, z1⟩ := blk2 hd6.own
      have Hd6 := Lib.hid hd6
      have Hs6 := Lib.hid hs6
      have Hsz6 := Lib.hid hd6.bel.size
      have hmx : ps.length + 1 ≤ maxLen := by simp [maxLen]; omega
      have hby : (ps.length + 1) * 8 ≤ 140737488355328 := by omega
      have hmx2 : ps.length + 1 + 1 ≤ maxLen := by simp [maxLen]; omega
      have hby2 : (ps.length + 1 + 1) * 8 ≤ 140737488355328 := by omega
      have Hql := Lib.hid hql
      have Ha := Lib.hid ha
      obtain ⟨pw1, pw2⟩ := dp3 p0 p2
      have hwl1 : IntKind.i64.wrap (ps.length : Int) = (ps.length : Int) := IntWalk.i64_in _ (by omega)
      have hwl3 : ps.length < ps.length + 1 := Nat.lt_succ_self _
      have hwl4 : (ps.length : Int) < (ps.length : Int) + 1 := by omega
      have hK3b : K + 2 < 4611686018427387900 := by have := HK.out; omega
      clear hs6 hg6 hd6 p1 Hd Hs hql ha
      go_wp2_with (at_builtin; refine wpList_apd_at 24 2 _ 1 8 Try.underlying24 infoD rfl (by omega) _ _ rfl rfl w.heap.size _ ps.length _ rfl Hd6.out.rp #[.int .i64 pl] 1 1 rfl rfl (by simp [Value.oneCell']) hmx hby Hsz6.out ?_; intro v7 w7 hown7 hg7 hz7 hat7; obtain ⟨k1, k2, k3⟩ := Hd6.out.appP (x := pl) (Nat.le_of_lt hgl) hG hGr (Nat.le_succ _) hown7 hg7 hat7; have Hs7 := Lib.hid (srcStepC (v' := v7) (i := 0) Hs6.out Hd6.out.rp hgl hGg hg7); obtain ⟨A7, c7, rfl⟩ := own_sl hown7; have Hd7 := Lib.hid k3; clear hown7 hg7 hat7 k3 hz7)
      generalize hw8 : w7.setCell ⟨w2.heap.size + 1, 0, none⟩ (.slice A7 (ps.length + 1) c7) = w8 at *
      have hd7 := Hd7.out
      obtain ⟨_, l1, _, m1⟩ := blk2 hd7.own
      have x7 := nm_cellL (hd7.rowQ Hql.out) Hql.out Ha.out
      clear hd7 hw8 c0 c1 z0 z1 k1 k2
      go_upto_region 7 with (fail)
      refine wp_region_noPanic ?_
      refine wp_region_L [21,20,19] (fun w' => w'.cell? ⟨w2.heap.size + 1, 1, none⟩ = some (.slice (some ⟨gq, 0, none⟩) (ps.length + 1) cq) ∧ w'.cell? ⟨gq, ps.length, none⟩ = some (.int .i64 a)) (by kernel_rfl) (⟨l1, x7⟩) (fun hHeld => ?_)
      refine take_F (i := 0) (d := some 26) (v := ?_) (by kernel_rfl) (by kernel_rfl) rfl rfl (by kernel_rfl) (by kernel_rfl) (by kernel_rfl) (fun _ _ _ h => h) (Or.inl ⟨by rfl, ?_⟩) (by assumption) ?_
      rotate_left
      · (intro w hSw; (try dsimp only at hSw); go_simp; (try (with_reducible rfl)))
      simp only [Act.put, List.setIfInBounds_toArray, List.set_cons_zero, List.set_cons_succ]
      refine take_L [1] (i := 1) (d := some 27) (v := ?_) (by kernel_rfl) (by kernel_rfl) (by kernel_rfl) (by kernel_rfl) rfl rfl (by kernel_rfl) (by kernel_rfl) (by kernel_rfl) (fun _ _ _ h => h) (Or.inl ⟨by rfl, ?_⟩) (by assumption) ?_
      rotate_left
      · (intro w hSw; (try dsimp only at hSw); go_simp; (try (with_reducible rfl)))
      simp only [Act.put, List.setIfInBounds_toArray, List.set_cons_zero, List.set_cons_succ]
      refine take_F (i := 2) (d := some 28) (v := ?_) (by kernel_rfl) (by kernel_rfl) rfl rfl (by kernel_rfl) (by kernel_rfl) (by kernel_rfl) (fun _ _ _ h => h) (Or.inl ⟨by rfl, ?_⟩) (by assumption) ?_
      rotate_left
      · (intro w hSw; (try dsimp only at hSw); go_simp; (try (with_reducible rfl)))
      simp only [Act.put, List.setIfInBounds_toArray, List.set_cons_zero, List.set_cons_succ]
      refine take_L [18,17,15,9,8,3] (i := 3) (d := some 29) (v := ?_) (by kernel_rfl) (by kernel_rfl) (by kernel_rfl) (by kernel_rfl) rfl rfl (by kernel_rfl) (by kernel_rfl) (by kernel_rfl) (fun _ _ _ h => h) (Or.inl ⟨by rfl, ?_⟩) (by assumption) ?_
      rotate_left
      · (intro w hSw; (try dsimp only at hSw); go_simp; (try (with_reducible rfl)))
      simp only [Act.put, List.setIfInBounds_toArray, List.set_cons_zero, List.set_cons_succ]
      refine take_F (i := 4) (d := some 30) (v := ?_) (by kernel_rfl) (by kernel_rfl) rfl rfl (by kernel_rfl) (by kernel_rfl) (by kernel_rfl) (fun _ _ _ h => h) (Or.inl ⟨by rfl, ?_⟩) (by assumption) ?_
      rotate_left
      · (intro w hSw; (try dsimp only at hSw); go_simp; (try (with_reducible rfl)))
      simp only [Act.put, List.setIfInBounds_toArray, List.set_cons_zero, List.set_cons_succ]
      refine take_L [18,17,15,9,8,7,6,5] (i := 5) (d := some 31) (v := ?_) (by kernel_rfl) (by kernel_rfl) (by kernel_rfl) (by kernel_rfl) rfl rfl (by kernel_rfl) (by kernel_rfl) (by kernel_rfl) (fun _ _ _ h => h) (Or.inl ⟨by rfl, ?_⟩) (by assumption) ?_
      rotate_left
      · (intro w hSw; (try dsimp only at hSw); go_simp; (try (with_reducible rfl)))
      simp only [Act.put, List.setIfInBounds_toArray, List.set_cons_zero, List.set_cons_succ]
      refine take_F (i := 6) (d := some 32) (v := ?_) (by kernel_rfl) (by kernel_rfl) rfl rfl (by kernel_rfl) (by kernel_rfl) (by kernel_rfl) (fun _ _ _ h => h) (Or.inl ⟨by rfl, ?_⟩) (by assumption) ?_
      rotate_left
      · (intro w hSw; (try dsimp only at hSw); go_simp; (try (with_reducible rfl)))
      simp only [Act.put, List.setIfInBounds_toArray, List.set_cons_zero, List.set_cons_succ]
      refine take_F (i := 7) (d := some 33) (v := ?_) (by kernel_rfl) (by kernel_rfl) rfl rfl (by kernel_rfl) (by kernel_rfl) (by kernel_rfl) (fun _ _ _ h => h) (Or.inl ⟨by rfl, ?_⟩) (by assumption) ?_
      rotate_left
      · (intro w hSw; (try dsimp only at hSw); go_simp; (try (with_reducible rfl)))
      simp only [Act.put, List.setIfInBounds_toArray, List.set_cons_zero, List.set_cons_succ]
      refine take_F (i := 8) (d := some 34) (v := ?_) (by kernel_rfl) (by kernel_rfl) rfl rfl (by kernel_rfl) (by kernel_rfl) (by kernel_rfl) (fun _ _ _ h => h) (Or.inl ⟨by rfl, ?_⟩) (by assumption) ?_
      rotate_left
      · (intro w hSw; (try dsimp only at hSw); go_simp; (try (with_reducible rfl)))
      simp only [Act.put, List.setIfInBounds_toArray, List.set_cons_zero, List.set_cons_succ]
      refine take_L [18,17,15,9] (i := 9) (d := some 35) (v := ?_) (by kernel_rfl) (by kernel_rfl) (by kernel_rfl) (by kernel_rfl) rfl rfl (by kernel_rfl) (by kernel_rfl) (by kernel_rfl) (fun _ _ _ h => h) (Or.inl ⟨by rfl, ?_⟩) (by assumption) ?_
      rotate_left
      · (intro w hSw; (try dsimp only at hSw); go_simp; (try (with_reducible rfl)))
      simp only [Act.put, List.setIfInBounds_toArray, List.set_cons_zero, List.set_cons_succ]
      refine take_F (i := 10) (d := some 36) (v := ?_) (by kernel_rfl) (by kernel_rfl) rfl rfl (by kernel_rfl) (by kernel_rfl) (by kernel_rfl) (fun _ _ _ h => h) (Or.inl ⟨by rfl, ?_⟩) (by assumption) ?_
      rotate_left
      · (intro w hSw; (try dsimp only at hSw); go_simp; (try (with_reducible rfl)))
      simp only [Act.put, List.setIfInBounds_toArray, List.set_cons_zero, List.set_cons_succ]
      refine take_F (i := 11) (d := some 37) (v := ?_) (by kernel_rfl) (by kernel_rfl) rfl rfl (by kernel_rfl) (by kernel_rfl) (by kernel_rfl) (fun _ _ _ h => h) (Or.inl ⟨by rfl, ?_⟩) (by assumption) ?_
      rotate_left
      · (intro w hSw; (try dsimp only at hSw); go_simp; (try (with_reducible rfl)))
      simp only [Act.put, List.setIfInBounds_toArray, List.set_cons_zero, List.set_cons_succ]
      refine take_F (i := 12) (d := some 38) (v := ?_) (by kernel_rfl) (by kernel_rfl) rfl rfl (by kernel_rfl) (by kernel_rfl) (by kernel_rfl) (fun _ _ _ h => h) (Or.inl ⟨by rfl, ?_⟩) (by assumption) ?_
      rotate_left
      · (intro w hSw; (try dsimp only at hSw); go_simp; (try (with_reducible rfl)))
      simp only [Act.put, List.setIfInBounds_toArray, List.set_cons_zero, List.set_cons_succ]
      refine take_F (i := 13) (d := some 39) (v := ?_) (by kernel_rfl) (by kernel_rfl) rfl rfl (by kernel_rfl) (by kernel_rfl) (by kernel_rfl) (fun _ _ _ h => h) (Or.inl ⟨by rfl, ?_⟩) (by assumption) ?_
      rotate_left
      · (intro w hSw; (try dsimp only at hSw); go_simp; (try (with_reducible rfl)))
      simp only [Act.put, List.setIfInBounds_toArray, List.set_cons_zero, List.set_cons_succ]
      refine take_F (i := 16) (d := some 42) (v := ?_) (by kernel_rfl) (by kernel_rfl) rfl rfl (by kernel_rfl) (by kernel_rfl) (by kernel_rfl) (fun _ _ _ h => h) (Or.inl ⟨by rfl, ?_⟩) (by assumption) ?_
      rotate_left
      · (intro w hSw; (try dsimp only at hSw); go_simp; (try (with_reducible rfl)))
      simp only [Act.put, List.setIfInBounds_toArray, List.set_cons_zero, List.set_cons_succ]
      refine call_L (i := 14) (d := (some 40)) rfl rfl (by kernel_rfl) (fun Kq hKq => ?_)
      go_simp
      go_at_call 94
      refine (pick_any B gs (K + 2) bs (2 * pl + 1) _ Hs7.out.drew hK3b).mono ?_; rintro e w9 ⟨y, rfl, hy, hs9, hg9⟩
      have y11 := dp6 p0 p2 hy
      obtain ⟨yw1, yw2⟩ := dp4 hab ⟨p0, p2⟩ y11
      have hd9 := Hd7.out.pick (Nat.le_of_lt hgl) (Nat.le_refl _) hgl (Nat.le_refl _) hG (grown_undrew hg9)
      obtain ⟨_, l1', _, m1'⟩ := blk2 hd9.own
      have x9 := nm_cellL (hd9.rowQ Hql.out) Hql.out Ha.out
      have Hown9 := Lib.hid (hd9.rowQ Hql.out)
      have Hsz9 := Lib.hid hd9.bel.size
      have Happ := Lib.hid (fun v' w' h2 h3 h4 => DrAt.appQL (v' := v') (w' := w') (x := a + y - pl) hd9 Hql.out (Nat.le_of_lt hgl) hG hGr h2 h3 h4)
      have Hs9f := Lib.hid (fun w' v' h3 => srcStepC (v' := v') (w' := w') (g := w2.heap.size + 1) (i := 1) hs9 hd9.rq hgl hGg h3)
      have Hy := Lib.hid (dp5 (a := a) p0 hy.1 hy.2.1 hy.2.2)
      have l1A := cell_alloc l1' (.cells #[.int .i64 (a + y - pl)] 2)
      have x9A := cell_alloc x9 (.cells #[.int .i64 (a + y - pl)] 2)
      clear hs9 hg9 hd9 hy
      (try go_wp2_with fail)
      refine hKq.out _ _ (⟨l1', x9⟩) (fun hHeld => ?_)
      clear hKq Kq
      (try simp only [Act.put, List.setIfInBounds_toArray, List.set_cons_zero, List.set_cons_succ])
      refine take_F (i := 15) (d := some 41) (v := ?_) (by kernel_rfl) (by kernel_rfl) rfl rfl (by kernel_rfl) (by kernel_rfl) (by kernel_rfl) (fun _ _ _ h => h) (Or.inl ⟨by rfl, ?_⟩) (by assumption) ?_
      rotate_left
      · (intro w hSw; (try dsimp only at hSw); go_simp; (try (with_reducible rfl)))
      simp only [Act.put, List.setIfInBounds_toArray, List.set_cons_zero, List.set_cons_succ]
      refine take_F (i := 17) (d := some 43) (v := ?_) (by kernel_rfl) (by kernel_rfl) rfl rfl (by kernel_rfl) (by kernel_rfl) (by kernel_rfl) (fun _ _ _ h => h) (Or.inl ⟨by rfl, ?_⟩) (by assumption) ?_
      rotate_left
      · (intro w hSw; (try dsimp only at hSw); go_simp; (try (with_reducible rfl)))
      simp only [Act.put, List.setIfInBounds_toArray, List.set_cons_zero, List.set_cons_succ]
      refine call_L (i := 18) (d := (some 44)) rfl rfl (by kernel_rfl) (fun Kq hKq => ?_)
      go_simp
      refine hKq.out _ _ (⟨l1A, x9A⟩) (fun hHeld => ?_)
      clear hKq Kq
      (try simp only [Act.put, List.setIfInBounds_toArray, List.set_cons_zero, List.set_cons_succ])
      refine late_L (i := 19) (d := (some 45)) (by kernel_rfl) rfl rfl (by kernel_rfl) (fun Kq hKq => ?_)
      refine step_apd0_at 24 2 _ 1 8 Try.underlying24 infoD rfl (by omega) _ _ (by rfl) (by rfl) w.heap.size _ (ps.length + 1) _ (by rfl) Hown9.out #[.int .i64 (a + y - pl)] 1 1 (by rfl) (by rfl) (by simp [Value.oneCell']) hmx2 hby2 Hsz9.out ?_; intro v10 w10 hown10 hg10 _ hat10
      obtain ⟨k1, k2, k3⟩ := Happ.out v10 w10 hown10 hg10 hat10
      have Hs10 := Lib.hid (Hs9f.out w10 v10 hg10)
      obtain ⟨A10, c10, rfl⟩ := own_sl hown10
      have Hk3 := Lib.hid k3
      clear hown10 hg10 hat10 k3
      refine hKq.out _ _ ?_
      clear hKq Kq
      simp only [Act.put, List.setIfInBounds_toArray]
      refine late_L (i := 20) (d := (some 46)) (by kernel_rfl) rfl rfl (by kernel_rfl) (fun Kq hKq => ?_)
      go_simp
      refine hKq.out _ _ ?_
      clear hKq Kq
      refine late_L (i := 21) (d := none) (by kernel_rfl) rfl rfl (by kernel_rfl) (fun Kq hKq => ?_)
      go_simp
      refine hKq.out _ _ ?_
      clear hKq Kq
      refine done_L (by kernel_rfl) ?_ _
      refine NoPanic.normal ?_
      all_goals
        (try go_wp2_with fail)
        go_roundw
        case rel =>
          have hq1 : 1 ≤ q := by omega
          have hlq := Hlq.out
          have hy := Hy.out
          rw [← Ha.out] at hy
          have hF := HF.out.app (p := pl) (x := a + y - pl) p0 (by omega) (by rw [← Ha.out]; exact hy)
          have g0 : (ps ++ [pl]).length = ps.length + 1 := by simp
          have hk4 : 4 + 4 * (ps.length + 1) = K + 2 + 2 := by have := HK.out; omega
          refine ⟨ps ++ [pl], qs ++ [a + y - pl], q - 1, _, _, by rw [g0]; omega, by congr 1; omega, hF, Hk3.out, by rw [g0, hk4]; exact Hs10.out⟩
        case measure =>
          first | (simp [intOf]; done) | (simp [intOf]; omega)
end Go.Proofs.Ytdljlemgaefbpaa
