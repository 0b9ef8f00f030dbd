/- Merged texts: Ab11, Ab12, Ab13, Ab14, Ab15, Ab22, Ab23. -/
import Derived.Test.YthemffbkkhaaoaaGLawAbaci4
import Derived.Test.YthemffbkkhaaoaaGLawAbaci2
import Derived.Test.YthemffbkkhaaoaaGLawAbaci3
import Derived.Deep.DeepCutAuto
import Derived.Deep.CutRange
import Derived.Deep.CutBlock
/- Abaci: the plain setting, impl. -/
namespace Go.Proofs.Ythemffbkkhaaoaa
open Go.RowKit Go.Joins

theorem leftV_succ : ∀ (n : Nat) (v : Int), leftV (n + 1) v = leftV n v / 10
  | 0, _ => rfl
  | n + 1, v => leftV_succ n (v / 10)
theorem plainRs_succ (u w : Int) : ∀ (n : Nat) (v : Int), plainRs u w (n + 1) v = plainRs u w n v ++ [plainRodA u w (leftV n v % 10)]
  | 0, _ => rfl
  | n + 1, v => by
    show plainRodA u w (v % 10) :: plainRs u w (n + 1) (v / 10) = plainRodA u w (v % 10) :: (plainRs u w n (v / 10) ++ _)
    rw [plainRs_succ u w n (v / 10)]; rfl
theorem leftV_bd : ∀ (n : Nat) (v : Int), 0 ≤ v → 0 ≤ leftV n v ∧ leftV n v ≤ v
  | 0, _, h => ⟨h, Int.le_refl _⟩
  | n + 1, v, h => by
    have := leftV_bd n (v / 10) (by omega)
    show 0 ≤ leftV n (v / 10) ∧ leftV n (v / 10) ≤ v
    omega
theorem rodsC_set : ∀ (rs : List (Int × Int)) (k : Nat) (a b : Int), ((rodsC rs).set (k * 2) (.int .i64 a)).set (k * 2 + 1) (.int .i64 b) = rodsC (rs.set k (a, b))
  | [], k, a, b => rfl
  | r :: rs, 0, a, b => rfl
  | r :: rs, k + 1, a, b => by
    have e : rodsC (r :: rs) = .int .i64 r.1 :: .int .i64 r.2 :: rodsC rs := rfl
    rw [e, show (k + 1) * 2 = k * 2 + 1 + 1 by omega]
    show .int .i64 r.1 :: .int .i64 r.2 :: ((rodsC rs).set (k * 2) (.int .i64 a)).set (k * 2 + 1) (.int .i64 b) = _
    rw [rodsC_set rs k a b]; rfl
theorem set_mid {α : Type} (l m : List α) (k : Nat) (hk : k = l.length) (hm : 0 < m.length) (x : α) : (l ++ m).set k x = l ++ [x] ++ m.drop 1 := by
  subst hk
  cases m with
  | nil => simp at hm
  | cons y m => simp
/-- while rods are set -/
structure PlAt (W wr : World) (p r q g cap n : Nat) (u l w : Int) (v : Value) (cur : List (Int × Int)) : Prop where
  a : AbAt wr p u l w v
  res : wr.heap[r]? = some (.cells #[.int .i64 0, .int .i64 0, .int .i64 0, .slice none 0 0] 52 (0, 0))
  out : wr.heap[q]? = some (.cells #[.int .i64 u, .int .i64 l, .int .i64 w, .slice (some ⟨g, 0, none⟩) n cap] 52 (0, 0))
  row : wr.ownsRow W.heap.size 143 2 (.slice (some ⟨g, 0, none⟩) n cap) n (rodsC cur)
  bel : Below W.heap.size W wr
  len : cur.length = n
  pg : p ≠ g
  rg : r ≠ g
  qg : q ≠ g
  rq : r ≠ q
  lr : W.heap.size ≤ r
section
variable {W wr wx : World} {p r q g cap n : Nat} {u l w : Int} {v : Value} {cur : List (Int × Int)}
theorem PlAt.below (h : PlAt W wr p r q g cap n u l w v cur) (hb : Below wr.heap.size wr wx) : PlAt W wx p r q g cap n u l w v cur :=
  ⟨h.a.below (World.block_lt_of_cell? wr _ h.a.c0) hb, (hb.block _ (blk_ltN h.res)).trans h.res, (hb.block _ (blk_ltN h.out)).trans h.out, own_below h.row hb, h.bel.trans (hb.mono h.bel.size), h.len, h.pg, h.rg, h.qg, h.rq, h.lr⟩
theorem AbAt.setOther {w0 : World} {q : Nat} {u l w : Int} {v : Value} (h : AbAt w0 q u l w v) {g i : Nat} (hg : q ≠ g) (x : Value) : AbAt (w0.setCell ⟨g, i, none⟩ x) q u l w v := by
  have hb : (w0.setCell ⟨g, i, none⟩ x).heap[q]? = w0.heap[q]? := by
    show (w0.heap.modify g _)[q]? = _
    rw [Array.getElem?_modify, if_neg (fun e => hg e.symm)]
  have hc : ∀ j, (w0.setCell ⟨g, i, none⟩ x).cell? ⟨q, j, none⟩ = w0.cell? ⟨q, j, none⟩ := fun j => World.cell?_of_block hb
  exact ⟨(hc 0).trans h.c0, (hc 1).trans h.c1, (hc 2).trans h.c2, (hc 3).trans h.c3⟩
theorem blk_setOther {w0 : World} {q g i : Nat} {o : Obj} (h : w0.heap[q]? = some o) (hg : q ≠ g) (x : Value) : (w0.setCell ⟨g, i, none⟩ x).heap[q]? = some o := by
  show (w0.heap.modify g _)[q]? = _
  rw [Array.getElem?_modify, if_neg (fun e => hg e.symm)]; exact h
/-- ahead of a store to a rod -/
theorem PlAt.pre (h : PlAt W wr p r q g cap n u l w v cur) {k : Nat} (hk : k < n) : (∃ x y, wr.cell? ⟨g, k * 2, none⟩ = some x ∧ wr.cell? ⟨g, k * 2 + 1, none⟩ = some y) ∧ wr.frozen? ⟨g, k * 2, none⟩ = false ∧ wr.frozen? ⟨g, k * 2 + 1, none⟩ = false := by
  have hl := rodsC_len cur
  have hcl := h.len
  obtain ⟨_, a1, a2⟩ := own_put h.row (k * 2) (by omega) undef
  obtain ⟨_, b1, b2⟩ := own_put h.row (k * 2 + 1) (by omega) undef
  exact ⟨⟨_, _, a1, b1⟩, a2, b2⟩
/-- a rod is set -/
theorem PlAt.set (h : PlAt W wr p r q g cap n u l w v cur) {k : Nat} (hk : k < n) (a b : Int) : PlAt W ((wr.setCell ⟨g, k * 2, none⟩ (.int .i64 a)).setCell ⟨g, k * 2 + 1, none⟩ (.int .i64 b)) p r q g cap n u l w v (cur.set k (a, b)) := by
  have hl := rodsC_len cur
  have hcl := h.len
  have h1 := (own_put h.row (k * 2) (by omega) (.int .i64 a)).1
  have h2 := (own_put h1 (k * 2 + 1) (by rw [List.length_set]; omega) (.int .i64 b)).1
  rw [rodsC_set] at h2
  have hgl := (h.row.lt g rfl).1
  exact ⟨(h.a.setOther h.pg _).setOther h.pg _, blk_setOther (blk_setOther h.res h.rg _) h.rg _, blk_setOther (blk_setOther h.out h.qg _) h.qg _, h2, (h.bel.setCell (p := ⟨g, k * 2, none⟩) hgl _).setCell (p := ⟨g, k * 2 + 1, none⟩) hgl _, by rw [List.length_set]; exact h.len, h.pg, h.rg, h.qg, h.rq, h.lr⟩
/-- the result is written -/
theorem PlAt.done (h : PlAt W wr p r q g cap n u l w v cur) (a' b' c' d' : Value) :
    ((put4 wr r a' b' c' d').cell? ⟨r, 0, none⟩ = some a' ∧ (put4 wr r a' b' c' d').cell? ⟨r, 1, none⟩ = some b' ∧ (put4 wr r a' b' c' d').cell? ⟨r, 2, none⟩ = some c' ∧ (put4 wr r a' b' c' d').cell? ⟨r, 3, none⟩ = some d') ∧
    Below W.heap.size W (put4 wr r a' b' c' d') ∧ (put4 wr r a' b' c' d').ownsRow W.heap.size 143 2 (.slice (some ⟨g, 0, none⟩) n cap) n (rodsC cur) := by
  have hg := heap_setCell_same _ r 3 _ _ d' (heap_setCell_same _ r 2 _ _ c' (heap_setCell_same _ r 1 _ _ b' (heap_setCell_same wr r 0 _ _ a' h.res)))
  have hne : (Value.slice (some ⟨g, 0, none⟩) n cap).ownBlock ≠ some r := by intro e; injection e with e; exact h.rg e.symm
  refine ⟨(blk4 hg).1, ?_, ?_⟩
  · exact (((h.bel.setCell (p := ⟨r, 0, none⟩) h.lr a').setCell (p := ⟨r, 1, none⟩) h.lr b').setCell (p := ⟨r, 2, none⟩) h.lr c').setCell (p := ⟨r, 3, none⟩) h.lr d'
  · exact ownsRow_setCell_other (ownsRow_setCell_other (ownsRow_setCell_other (ownsRow_setCell_other h.row (a := ⟨r, 0, none⟩) hne a') (a := ⟨r, 1, none⟩) hne b') (a := ⟨r, 2, none⟩) hne c') (a := ⟨r, 3, none⟩) hne d'
end
/-- a result: an abacus and a code -/
def RetAb (W : World) (x : Ab × Int) (e : Ending) (w' : World) : Prop := ∃ v', e = .returned (.tuple #[aggAb x.1.u x.1.l x.1.w v', .int .i64 x.2]) ∧ w'.ownsRow W.heap.size 143 2 v' x.1.rods.length (rodsC x.1.rods) ∧ Below W.heap.size W w'
theorem own_nilAb (w : World) (B : Nat) : w.ownsRow B 143 2 (.slice none 0 0) 0 (rodsC []) := ⟨rfl, .inl ⟨rfl, rfl⟩⟩
set_option maxRecDepth 100000 in
set_option maxHeartbeats 3200000 in
theorem plainI_any (B : Nat) (u l w val : Int) (v : Value) (rs : List (Int × Int)) (W : World) (h : Rd W B v rs.length 2 (rodsC rs)) (hB : B ≤ W.heap.size) (hok : okAb ⟨u, l, w, rs⟩ = true) (h0 : 0 ≤ val) (hv : val ≤ 1000000000000) : Calls Try.prog 126 #[aggAb u l w v, .int .i64 val] W (RetAb W (plainA ⟨u, l, w, rs⟩ val)) := by
  obtain ⟨hk1, _, hk3, hk4⟩ := okAb_and hok
  dsimp only at hk3 hk4
  have H := Lib.hid h
  obtain ⟨_, A, c, rfl, _⟩ := h
  have HX := Lib.hid (Bx2.made W (.int .i64 u) (.int .i64 l) (.int .i64 w) (.slice A rs.length c))
  have HW := Lib.hid (fun wx hx hB => withRods_any B rs.length u l w (.slice A rs.length c) (.slice A rs.length c) (rodsC rs) wx hx hB hk3 (by omega) (rodsC_one rs))
  go_enter Try.func126, Try.ntmps126
  go_upto_region 1 with (fail)
  generalize (W.alloc (.cells #[.int .i64 u, .int .i64 l, .int .i64 w, .slice A rs.length c] 52)).alloc objZ = w2 at *
  obtain ⟨q0, q1, q2, q3⟩ := (blk4 HX.out.box).1
  have HC := Lib.hid (HW.out w2 (H.out.below (HX.out.bel.mono hB)) (Nat.le_trans hB HX.out.bel.size))
  go_wp2_with fail
  refine HC.out.mono ?_; rintro e w3 ⟨g, cap, rfl, ho, hb⟩
  have hlg := ho.lt g rfl
  have hl2 := blk_ltN HX.out.res
  have hbm := (Below.refl w3.heap.size w3).alloc (Nat.le_refl _) (.cells #[.int .i64 u, .int .i64 l, .int .i64 w, .slice (some ⟨g, 0, none⟩) rs.length cap] 52)
  have HX4 := (HX.out.below hb).below hbm
  have HP := Lib.hid (show PlAt W (w3.alloc (.cells #[.int .i64 u, .int .i64 l, .int .i64 w, .slice (some ⟨g, 0, none⟩) rs.length cap] 52)) W.heap.size (W.heap.size + 1) w3.heap.size g cap rs.length u l w (.slice A rs.length c) rs from
    ⟨AbAt.of HX4.box, HX4.res, heap_alloc_new w3 _, own_below (ownsRow_le ho (by omega)) hbm, HX4.bel, rfl, by omega, by omega, by omega, by omega, by omega⟩)
  go_upto_region 2 with (fail)
  generalize w3.heap.size = q at *
  generalize w3.alloc (.cells #[.int .i64 u, .int .i64 l, .int .i64 w, .slice (some ⟨g, 0, none⟩) rs.length cap] 52) = w4 at *
  clear HX HC HX4 ho hb hlg hl2 hbm q0 q1 q2 q3 hB
  obtain ⟨⟨q0, q1, q2, q3⟩, _⟩ := blk4 HP.out.out
  have HPR := Lib.hid (fun d wx (d0 : 0 ≤ d) (d9 : d ≤ 9) => plainRodI_any u l w d (.slice A rs.length c) rs wx hk1 d0 d9)
  have hln : (rs.length : Int) ≤ 10 := by omega
  clear hk1 hok
  go_wp2_with fail
  clear q0 q1 q2 q3
  go_loopw [1, 15] (fun s i wr => ∃ k : Nat, k ≤ rs.length ∧ i = .int .i64 (k : Int) ∧ s = .int .i64 (leftV k val) ∧ PlAt W wr W.heap.size (W.heap.size + 1) q g cap rs.length u l w (.slice A rs.length c) (plainRs u w k val ++ rs.drop k)) (fun _ i _ => rs.length - (intOf i).toNat)
  case atStart => exact ⟨0, Nat.zero_le _, rfl, rfl, HP.out⟩
  case round =>
    obtain ⟨k, hk, rfl, rfl, hp⟩ := hrel
    have HP2 := Lib.hid hp
    clear hp HP
    obtain ⟨v0, v1⟩ := leftV_bd k val h0
    by_cases hlt : k < rs.length
    · have hlt' : (k : Int) < (rs.length : Int) := by omega
      obtain ⟨⟨q0, q1, q2, q3⟩, _⟩ := blk4 HP2.out.out
      obtain ⟨a0, a1, a2, a3⟩ := HP2.out.a
      have Hpl := Lib.hid (show (plainRs u w k val ++ rs.drop k).set k (plainRodA u w (leftV k val % 10)) = plainRs u w (k + 1) val ++ rs.drop (k + 1) by
        rw [set_mid _ _ k (plainRs_len u w k val).symm (by rw [List.length_drop]; omega), plainRs_succ, List.drop_drop])
      have Hlv := Lib.hid (leftV_succ k val)
      generalize plainRs u w k val ++ rs.drop k = cur at *
      generalize leftV k val = y at *
      have hm0 : 0 ≤ y % 10 := by omega
      have hm9 : y % 10 ≤ 9 := by omega
      have hmd : y.tmod 10 = y % 10 := Int.tmod_eq_emod_of_nonneg v0
      have hdv : y.tdiv 10 = y / 10 := Int.tdiv_eq_ediv_of_nonneg v0
      have hw1 : IntKind.i64.wrap (y % 10) = y % 10 := IntWalk.i64_in _ (by omega)
      have hw2 : IntKind.i64.wrap (y / 10) = y / 10 := IntWalk.i64_in _ (by omega)
      have HC := Lib.hid (HPR.out (y % 10) wr.drew hm0 hm9)
      generalize plainRodA u w (y % 10) = x at *
      obtain ⟨x0, x1⟩ := x
      go_wp2_with fail
      refine wp_region_noPanic ?_
      refine wp_region_L [8] (fun w' => w'.cell? ⟨q, 3, none⟩ = some (.slice (some ⟨g, 0, none⟩) rs.length cap) ∧ w'.cell? ⟨W.heap.size, 0, none⟩ = some (.int .i64 u) ∧ w'.cell? ⟨W.heap.size, 1, none⟩ = some (.int .i64 l) ∧ w'.cell? ⟨W.heap.size, 2, none⟩ = some (.int .i64 w) ∧ w'.cell? ⟨W.heap.size, 3, none⟩ = some (.slice A rs.length c)) (by kernel_rfl) (⟨q3, a0, a1, a2, a3⟩) (fun hHeld => ?_)
      refine take_F (i := 0) (d := some 18) (v := ?_) (by kernel_rfl) (by kernel_rfl) rfl rfl (by kernel_rfl) (by kernel_rfl) (by kernel_rfl) (fun _ _ _ h => h) (Or.inl ⟨by rfl, ?_⟩) (by assumption) ?_
      rotate_left
      · (intro w hSw; (try dsimp only at hSw); go_simp; (try rw [if_neg (by omega)]); (try (with_reducible rfl)))
      simp only [Act.put, List.setIfInBounds_toArray, List.set_cons_zero, List.set_cons_succ]
      refine take_L [1] (i := 1) (d := some 19) (v := ?_) (by kernel_rfl) (by kernel_rfl) (by kernel_rfl) (by kernel_rfl) rfl rfl (by kernel_rfl) (by kernel_rfl) (by kernel_rfl) (fun _ _ _ h => h) (Or.inl ⟨by rfl, ?_⟩) (by assumption) ?_
      rotate_left
      · (intro w hSw; (try dsimp only at hSw); go_simp; (try rw [if_neg (by omega)]); (try (with_reducible rfl)))
      simp only [Act.put, List.setIfInBounds_toArray, List.set_cons_zero, List.set_cons_succ]
      refine take_F (i := 2) (d := some 20) (v := ?_) (by kernel_rfl) (by kernel_rfl) rfl rfl (by kernel_rfl) (by kernel_rfl) (by kernel_rfl) (fun _ _ _ h => h) (Or.inl ⟨by rfl, ?_⟩) (by assumption) ?_
      rotate_left
      · (intro w hSw; (try dsimp only at hSw); go_simp; (try rw [if_neg (by omega)]); (try (with_reducible rfl)))
      simp only [Act.put, List.setIfInBounds_toArray, List.set_cons_zero, List.set_cons_succ]
      refine take_L [6,3] (i := 3) (d := some 21) (v := ?_) (by kernel_rfl) (by kernel_rfl) (by kernel_rfl) (by kernel_rfl) rfl rfl (by kernel_rfl) (by kernel_rfl) (by kernel_rfl) (fun _ _ _ h => h) (Or.inl ⟨by rfl, ?_⟩) (by assumption) ?_
      rotate_left
      · (intro w hSw; (try dsimp only at hSw); go_simp; (try rw [if_neg (by omega)]); (try (with_reducible rfl)))
      simp only [Act.put, List.setIfInBounds_toArray, List.set_cons_zero, List.set_cons_succ]
      refine take_F (i := 4) (d := some 22) (v := ?_) (by kernel_rfl) (by kernel_rfl) rfl rfl (by kernel_rfl) (by kernel_rfl) (by kernel_rfl) (fun _ _ _ h => h) (Or.inl ⟨by rfl, ?_⟩) (by assumption) ?_
      rotate_left
      · (intro w hSw; (try dsimp only at hSw); go_simp; (try rw [if_neg (by omega)]); (try (with_reducible rfl)))
      simp only [Act.put, List.setIfInBounds_toArray, List.set_cons_zero, List.set_cons_succ]
      refine take_F (i := 5) (d := some 23) (v := ?_) (by kernel_rfl) (by kernel_rfl) rfl rfl (by kernel_rfl) (by kernel_rfl) (by kernel_rfl) (fun _ _ _ h => h) (Or.inl ⟨by rfl, ?_⟩) (by assumption) ?_
      rotate_left
      · (intro w hSw; (try dsimp only at hSw); go_simp; (try rw [if_neg (by omega)]); (try (with_reducible rfl)))
      simp only [Act.put, List.setIfInBounds_toArray, List.set_cons_zero, List.set_cons_succ]
      refine call_L (i := 6) (d := (some 24)) rfl rfl (by kernel_rfl) (fun Kq hKq => ?_)
      go_simp
      go_at_call 140
      refine HC.out.mono ?_; rintro e w5 ⟨rfl, hb5⟩
      have HP5 := Lib.hid (HP2.out.below (below_undrew hb5))
      clear hb5 q0 q1 q2 q3 a0 a1 a2 a3
      obtain ⟨⟨q0, q1, q2, q3⟩, _⟩ := blk4 HP5.out.out
      obtain ⟨a0, a1, a2, a3⟩ := HP5.out.a
      obtain ⟨⟨o0, o1, d0, d1⟩, f0, f1⟩ := HP5.out.pre hlt
      have HP6 := Lib.hid (HP5.out.set hlt x0 x1)
      (try go_wp2_with fail)
      refine hKq.out _ _ (⟨q3, a0, a1, a2, a3⟩) (fun hHeld => ?_)
      clear hKq Kq
      (try simp only [Act.put, List.setIfInBounds_toArray, List.set_cons_zero, List.set_cons_succ])
      refine take_F (i := 7) (d := some 25) (v := ?_) (by kernel_rfl) (by kernel_rfl) rfl rfl (by kernel_rfl) (by kernel_rfl) (by kernel_rfl) (fun _ _ _ h => h) (Or.inl ⟨by rfl, ?_⟩) (by assumption) ?_
      rotate_left
      · (intro w hSw; (try dsimp only at hSw); go_simp; (try rw [if_neg (by omega)]); (try (with_reducible rfl)))
      simp only [Act.put, List.setIfInBounds_toArray, List.set_cons_zero, List.set_cons_succ]
      refine late_L (i := 8) (d := none) (by kernel_rfl) rfl rfl (by kernel_rfl) (fun Kq hKq => ?_)
      go_simp
      refine hKq.out _ _ ?_
      clear hKq Kq
      refine done_L (by kernel_rfl) ?_ _
      refine NoPanic.normal ?_
      clear q0 q1 q2 q3 a0 a1 a2 a3 d0 d1 f0 f1 HP5 HP2
      go_wp2_with fail
      go_roundw
      case rel => exact ⟨k + 1, by omega, by go_num, by rw [Hlv.out], by rw [← Hpl.out]; exact HP6.out⟩
      case measure => first | (simp [intOf]; done) | (simp [intOf]; omega)
    · have hkn : k = rs.length := by omega
      subst hkn
      have hlt' : ¬ (rs.length : Int) < (rs.length : Int) := by omega
      rw [List.drop_length, List.append_nil] at HP2
      have hpl := plainRs_len u w rs.length val
      obtain ⟨⟨q0, q1, q2, q3⟩, _⟩ := blk4 HP2.out.out
      obtain ⟨⟨p0, p1, p2, p3⟩, f0, f1, f2, f3⟩ := blk4 HP2.out.res
      by_cases hz : leftV rs.length val = 0
      · have HR := Lib.hid (show plainA ⟨u, l, w, rs⟩ val = (⟨u, l, w, plainRs u w rs.length val⟩, 0) by unfold plainA; exact if_pos hz)
        have HD := Lib.hid (HP2.out.done (.int .i64 u) (.int .i64 l) (.int .i64 w) (.slice (some ⟨g, 0, none⟩) rs.length cap))
        rw [hz] at v0 v1 ⊢
        clear hz
        go_wp2_with fail
        obtain ⟨⟨k0, k1, k2, k3⟩, hbz, hoz⟩ := HD.out
        refine bodyPost_ret (v := .tuple #[aggAb u l w (.slice (some ⟨g, 0, none⟩) rs.length cap), .int .i64 0]) (by simp [results, Try.results126, go_sem, k0, k1, k2, k3]) rfl ?_
        rw [HR.out]
        exact ⟨_, rfl, by show World.ownsRow _ _ _ _ _ (plainRs u w rs.length val).length _; rw [hpl]; exact hoz, hbz⟩
      · have HR := Lib.hid (show plainA ⟨u, l, w, rs⟩ val = (zeroAb, 5) by unfold plainA; exact if_neg hz)
        have HD := Lib.hid (HP2.out.done (.int .i64 0) (.int .i64 0) (.int .i64 0) (.slice none 0 0))
        have hpos : 0 < leftV rs.length val := by omega
        generalize leftV rs.length val = y at *
        go_wp2_with fail
        obtain ⟨⟨k0, k1, k2, k3⟩, hbz, hoz⟩ := HD.out
        refine bodyPost_ret (v := .tuple #[aggAb 0 0 0 (.slice none 0 0), .int .i64 5]) (by simp [results, Try.results126, go_sem, k0, k1, k2, k3]) rfl ?_
        rw [HR.out]
        exact ⟨_, rfl, own_nilAb _ _, hbz⟩
end Go.Proofs.Ythemffbkkhaaoaa
/- Abaci: the plain setting, spec. -/
namespace Go.Proofs.Ythemffbkkhaaoaa
open Go.RowKit Go.Joins

/-- a result: the plain setting and whether it is the value's -/
def RetSet (W : World) (u l w : Int) (n : Nat) (val : Int) (e : Ending) (w' : World) : Prop := ∃ v', e = .returned (.tuple #[aggAb u l w v', .bool (decide (leftV n val = 0))]) ∧ w'.ownsRow W.heap.size 143 2 v' n (rodsC (plainRs u w n val)) ∧ Below W.heap.size W w'
theorem ret_b {a : Value} {b c : Bool} (h : b = c) : Value.tuple #[a, .bool b] = Value.tuple #[a, .bool c] := by rw [h]
set_option maxRecDepth 100000 in
set_option maxHeartbeats 3200000 in
theorem l03Set_any (B qp : Nat) (u l w val : Int) (v : Value) (rs : List (Int × Int)) (W : World) (ha : AbAt W qp u l w v) (h : Rd W B v rs.length 2 (rodsC rs)) (hB : B ≤ W.heap.size) (hok : okAb ⟨u, l, w, rs⟩ = true) (h0 : 0 ≤ val) (hv : val ≤ 1000000000000) : Calls Try.prog 128 #[.pointer (some ⟨qp, 0, none⟩), .int .i64 val] W (RetSet W u l w rs.length val) := by
  obtain ⟨hk1, _, hk3, hk4⟩ := okAb_and hok
  dsimp only at hk3 hk4
  have H := Lib.hid h
  have hqp := World.block_lt_of_cell? W _ ha.c0
  change qp < W.heap.size at hqp
  obtain ⟨_, A, c, rfl, _⟩ := h
  have hbm1 := (Below.refl W.heap.size W).alloc (Nat.le_refl _) objZ
  have hrs1 := heap_alloc_new W (.cells #[.int .i64 0, .int .i64 0, .int .i64 0, .slice none 0 0] 52)
  have ha1 := ha.below hqp hbm1
  have HC := Lib.hid (l03Own_any B qp rs.length u l w (.slice A rs.length c) (rodsC rs) (W.alloc objZ) ha1 (H.out.below (hbm1.mono hB)) (Nat.le_trans hB hbm1.size) hk3 (by omega) (rodsC_one rs))
  have hz1 := size_alloc1 W objZ
  go_enter Try.func128, Try.ntmps128
  go_upto_region 1 with (fail)
  generalize W.alloc objZ = w2 at *
  go_wp2_with fail
  refine HC.out.mono ?_; rintro e w3 ⟨g, cap, rfl, ho, hb⟩
  have hlg := ho.lt g rfl
  have hbs := hb.size
  have hbm := (Below.refl w3.heap.size w3).alloc (Nat.le_refl _) (.cells #[.int .i64 u, .int .i64 l, .int .i64 w, .slice (some ⟨g, 0, none⟩) rs.length cap] 52)
  have HP := Lib.hid (show PlAt W (w3.alloc (.cells #[.int .i64 u, .int .i64 l, .int .i64 w, .slice (some ⟨g, 0, none⟩) rs.length cap] 52)) qp W.heap.size w3.heap.size g cap rs.length u l w (.slice A rs.length c) rs from
    ⟨(ha1.below (by omega) hb).below (by omega) hbm, (hbm.block _ (by omega)).trans ((hb.block _ (by omega)).trans hrs1), heap_alloc_new w3 _, own_below (ownsRow_le ho (by omega)) hbm, (hbm1.trans (hb.mono (by omega))).trans (hbm.mono (by omega)), rfl, by omega, by omega, by omega, by omega, by omega⟩)
  go_upto_region 2 with (fail)
  generalize w3.heap.size = q at *
  generalize w3.alloc (.cells #[.int .i64 u, .int .i64 l, .int .i64 w, .slice (some ⟨g, 0, none⟩) rs.length cap] 52) = w4 at *
  clear HC ho hb hlg hbs hbm hbm1 ha1 hrs1 hz1 hB ha H
  have HPR := Lib.hid (fun d wx hx (d0 : 0 ≤ d) (d9 : d ≤ 9) => l03Digit_any qp u l w d (.slice A rs.length c) rs wx hx hk1 d0 d9)
  have hln : (rs.length : Int) ≤ 10 := by omega
  clear hk1 hok
  go_wp2_with fail
  go_loopw [1, 7] (fun s i wr => ∃ k : Nat, k ≤ rs.length ∧ i = .int .i64 (k : Int) ∧ s = .int .i64 (leftV k val) ∧ PlAt W wr qp W.heap.size q g cap rs.length u l w (.slice A rs.length c) (plainRs u w k val ++ rs.drop k)) (fun _ i _ => rs.length - (intOf i).toNat)
  case atStart => exact ⟨0, Nat.zero_le _, rfl, rfl, HP.out⟩
  case round =>
    obtain ⟨k, hk, rfl, rfl, hp⟩ := hrel
    have HP2 := Lib.hid hp
    clear hp HP
    obtain ⟨v0, v1⟩ := leftV_bd k val h0
    obtain ⟨⟨q0, q1, q2, q3⟩, _⟩ := blk4 HP2.out.out
    by_cases hlt : k < rs.length
    · have hlt' : (k : Int) < (rs.length : Int) := by omega
      obtain ⟨a0, a1, a2, a3⟩ := HP2.out.a
      have Hpl := Lib.hid (show (plainRs u w k val ++ rs.drop k).set k (plainRodA u w (leftV k val % 10)) = plainRs u w (k + 1) val ++ rs.drop (k + 1) by
        rw [set_mid _ _ k (plainRs_len u w k val).symm (by rw [List.length_drop]; omega), plainRs_succ, List.drop_drop])
      have Hlv := Lib.hid (leftV_succ k val)
      generalize plainRs u w k val ++ rs.drop k = cur at *
      generalize leftV k val = y at *
      have hm0 : 0 ≤ y % 10 := by omega
      have hm9 : y % 10 ≤ 9 := by omega
      have hmd : y.tmod 10 = y % 10 := Int.tmod_eq_emod_of_nonneg v0
      have hdv : y.tdiv 10 = y / 10 := Int.tdiv_eq_ediv_of_nonneg v0
      have hw1 : IntKind.i64.wrap (y % 10) = y % 10 := IntWalk.i64_in _ (by omega)
      have hw2 : IntKind.i64.wrap (y / 10) = y / 10 := IntWalk.i64_in _ (by omega)
      have HC := Lib.hid (HPR.out (y % 10) wr.drew (HP2.out.a.drewN 1) hm0 hm9)
      generalize plainRodA u w (y % 10) = x at *
      obtain ⟨x0, x1⟩ := x
      go_wp2_with fail
      refine wp_region_noPanic ?_
      refine wp_region_L [8] (fun w' => w'.cell? ⟨q, 3, none⟩ = some (.slice (some ⟨g, 0, none⟩) rs.length cap)) (by kernel_rfl) (q3) (fun hHeld => ?_)
      refine take_F (i := 0) (d := some 17) (v := ?_) (by kernel_rfl) (by kernel_rfl) rfl rfl (by kernel_rfl) (by kernel_rfl) (by kernel_rfl) (fun _ _ _ h => h) (Or.inl ⟨by rfl, ?_⟩) (by assumption) ?_
      rotate_left
      · (intro w hSw; (try dsimp only at hSw); go_simp; (try rw [if_neg (by omega)]); (try (with_reducible rfl)))
      simp only [Act.put, List.setIfInBounds_toArray, List.set_cons_zero, List.set_cons_succ]
      refine take_L [1] (i := 1) (d := some 18) (v := ?_) (by kernel_rfl) (by kernel_rfl) (by kernel_rfl) (by kernel_rfl) rfl rfl (by kernel_rfl) (by kernel_rfl) (by kernel_rfl) (fun _ _ _ h => h) (Or.inl ⟨by rfl, ?_⟩) (by assumption) ?_
      rotate_left
      · (intro w hSw; (try dsimp only at hSw); go_simp; (try rw [if_neg (by omega)]); (try (with_reducible rfl)))
      simp only [Act.put, List.setIfInBounds_toArray, List.set_cons_zero, List.set_cons_succ]
      refine take_F (i := 2) (d := some 19) (v := ?_) (by kernel_rfl) (by kernel_rfl) rfl rfl (by kernel_rfl) (by kernel_rfl) (by kernel_rfl) (fun _ _ _ h => h) (Or.inl ⟨by rfl, ?_⟩) (by assumption) ?_
      rotate_left
      · (intro w hSw; (try dsimp only at hSw); go_simp; (try rw [if_neg (by omega)]); (try (with_reducible rfl)))
      simp only [Act.put, List.setIfInBounds_toArray, List.set_cons_zero, List.set_cons_succ]
      refine take_F (i := 3) (d := some 20) (v := ?_) (by kernel_rfl) (by kernel_rfl) rfl rfl (by kernel_rfl) (by kernel_rfl) (by kernel_rfl) (fun _ _ _ h => h) (Or.inl ⟨by rfl, ?_⟩) (by assumption) ?_
      rotate_left
      · (intro w hSw; (try dsimp only at hSw); go_simp; (try rw [if_neg (by omega)]); (try (with_reducible rfl)))
      simp only [Act.put, List.setIfInBounds_toArray, List.set_cons_zero, List.set_cons_succ]
      refine take_F (i := 4) (d := some 21) (v := ?_) (by kernel_rfl) (by kernel_rfl) rfl rfl (by kernel_rfl) (by kernel_rfl) (by kernel_rfl) (fun _ _ _ h => h) (Or.inl ⟨by rfl, ?_⟩) (by assumption) ?_
      rotate_left
      · (intro w hSw; (try dsimp only at hSw); go_simp; (try rw [if_neg (by omega)]); (try (with_reducible rfl)))
      simp only [Act.put, List.setIfInBounds_toArray, List.set_cons_zero, List.set_cons_succ]
      refine take_F (i := 5) (d := some 22) (v := ?_) (by kernel_rfl) (by kernel_rfl) rfl rfl (by kernel_rfl) (by kernel_rfl) (by kernel_rfl) (fun _ _ _ h => h) (Or.inl ⟨by rfl, ?_⟩) (by assumption) ?_
      rotate_left
      · (intro w hSw; (try dsimp only at hSw); go_simp; (try rw [if_neg (by omega)]); (try (with_reducible rfl)))
      simp only [Act.put, List.setIfInBounds_toArray, List.set_cons_zero, List.set_cons_succ]
      refine call_L (i := 6) (d := (some 23)) rfl rfl (by kernel_rfl) (fun Kq hKq => ?_)
      go_simp
      go_at_call 201
      refine HC.out.mono ?_; rintro e w5 ⟨rfl, hb5⟩
      have HP5 := Lib.hid (HP2.out.below (below_undrew hb5))
      clear hb5 q0 q1 q2 q3 a0 a1 a2 a3
      obtain ⟨⟨q0, q1, q2, q3⟩, _⟩ := blk4 HP5.out.out
      obtain ⟨⟨o0, o1, d0, d1⟩, f0, f1⟩ := HP5.out.pre hlt
      have HP6 := Lib.hid (HP5.out.set hlt x0 x1)
      (try go_wp2_with fail)
      refine hKq.out _ _ (q3) (fun hHeld => ?_)
      clear hKq Kq
      (try simp only [Act.put, List.setIfInBounds_toArray, List.set_cons_zero, List.set_cons_succ])
      refine take_F (i := 7) (d := some 24) (v := ?_) (by kernel_rfl) (by kernel_rfl) rfl rfl (by kernel_rfl) (by kernel_rfl) (by kernel_rfl) (fun _ _ _ h => h) (Or.inl ⟨by rfl, ?_⟩) (by assumption) ?_
      rotate_left
      · (intro w hSw; (try dsimp only at hSw); go_simp; (try rw [if_neg (by omega)]); (try (with_reducible rfl)))
      simp only [Act.put, List.setIfInBounds_toArray, List.set_cons_zero, List.set_cons_succ]
      refine late_L (i := 8) (d := none) (by kernel_rfl) rfl rfl (by kernel_rfl) (fun Kq hKq => ?_)
      go_simp
      refine hKq.out _ _ ?_
      clear hKq Kq
      refine done_L (by kernel_rfl) ?_ _
      refine NoPanic.normal ?_
      clear q0 q1 q2 q3 d0 d1 f0 f1 HP5 HP2
      go_wp2_with fail
      go_roundw
      case rel => exact ⟨k + 1, by omega, by go_num, by rw [Hlv.out], by rw [← Hpl.out]; exact HP6.out⟩
      case measure => first | (simp [intOf]; done) | (simp [intOf]; omega)
    · have hkn : k = rs.length := by omega
      subst hkn
      have hlt' : ¬ (rs.length : Int) < (rs.length : Int) := by omega
      rw [List.drop_length, List.append_nil] at HP2
      obtain ⟨⟨p0, p1, p2, p3⟩, f0, f1, f2, f3⟩ := blk4 HP2.out.res
      have HD := Lib.hid (HP2.out.done (.int .i64 u) (.int .i64 l) (.int .i64 w) (.slice (some ⟨g, 0, none⟩) rs.length cap))
      have HE := Lib.hid (show (leftV rs.length val == 0) = decide (leftV rs.length val = 0) from rfl)
      have HY := Lib.hid (Eq.refl (leftV rs.length val))
      generalize hy : leftV rs.length val = y at HE v0 v1 ⊢
      have Hy := Lib.hid hy
      clear hy
      go_wp2_with fail
      obtain ⟨⟨k0, k1, k2, k3⟩, hbz, hoz⟩ := HD.out
      refine bodyPost_ret (v := .tuple #[aggAb u l w (.slice (some ⟨g, 0, none⟩) rs.length cap), .bool (y == 0)]) (by simp [results, Try.results128, go_sem, k0, k1, k2, k3]) rfl ?_
      exact ⟨_, congrArg Ending.returned (ret_b (by rw [Hy.out]; exact HE.out)), hoz, hbz⟩
end Go.Proofs.Ythemffbkkhaaoaa
/- Abaci: AbacusValue, SetAbacus, PlainAbacus, impl. -/
namespace Go.Proofs.Ythemffbkkhaaoaa
open Go.RowKit Go.Joins

theorem ret2i {a b c d : Int} (h : a = c) (k : b = d) : Ending.returned (.tuple #[.int .i64 a, .int .i64 b]) = Ending.returned (.tuple #[.int .i64 c, .int .i64 d]) := by rw [h, k]
theorem AbValueI_any (B : Nat) (u l w : Int) (v : Value) (rs : List (Int × Int)) (W : World) (h : Rd W B v rs.length 2 (rodsC rs)) (hB : B ≤ W.heap.size) (hm : rs.length ≤ 1048576) : Calls Try.prog 39 #[aggAb u l w v] W fun e w' => e = .returned (.tuple #[.int .i64 (vlV ⟨u, l, w, rs⟩), .int .i64 (vlC ⟨u, l, w, rs⟩)]) ∧ Below W.heap.size W w' := by
  have H := Lib.hid h
  obtain ⟨_, A, c, rfl, _⟩ := h
  have hb1 := (Below.refl W.heap.size W).alloc (Nat.le_refl _) (.cells #[.int .i64 u, .int .i64 l, .int .i64 w, .slice A rs.length c] 52)
  have HQ := Lib.hid (heap_alloc_new W (.cells #[.int .i64 u, .int .i64 l, .int .i64 w, .slice A rs.length c] 52))
  have hlt1 : W.heap.size < (W.alloc (.cells #[.int .i64 u, .int .i64 l, .int .i64 w, .slice A rs.length c] 52)).heap.size := by simp
  have HV := Lib.hid (ValidAbI_any B u l w (.slice A rs.length c) rs _ (H.out.below (hb1.mono hB)) (Nat.le_trans hB hb1.size) hm)
  have HB := Lib.hid hb1
  have HVL := Lib.hid (fun hok wx hx hz => valueI_any B u l w (.slice A rs.length c) rs wx hx hz hok)
  obtain ⟨c0, c1, c2, c3⟩ := four_at HQ.out
  clear hb1
  cases hok : okAb ⟨u, l, w, rs⟩
  · rw [hok] at HV
    have e1 : vlV ⟨u, l, w, rs⟩ = 0 := by unfold vlV; rw [hok]; rfl
    have e2 : vlC ⟨u, l, w, rs⟩ = 1 := by unfold vlC; rw [hok]; rfl
    rw [e1, e2]
    clear hok HVL e1 e2
    go_enter Try.func39, Try.ntmps39
    go_wp2_with fail
    refine HV.out.mono ?_; rintro e w2 ⟨rfl, hb2⟩
    have HB2 := Lib.hid (HB.out.trans (hb2.mono HB.out.size))
    clear hb2
    go_wp2_with fail
    go_ret2
    exact ⟨rfl, HB2.out⟩
  · rw [hok] at HV
    have e1 : vlV ⟨u, l, w, rs⟩ = valR w rs := by unfold vlV; rw [hok]; rfl
    have e2 : vlC ⟨u, l, w, rs⟩ = 0 := by unfold vlC; rw [hok]; rfl
    rw [e1, e2]
    have HVL2 := Lib.hid (HVL.out hok)
    generalize valR w rs = R at *
    clear hok HVL e1 e2
    go_enter Try.func39, Try.ntmps39
    go_wp2_with fail
    refine HV.out.mono ?_; rintro e w2 ⟨rfl, hb2⟩
    have HB2 := Lib.hid (HB.out.trans (hb2.mono HB.out.size))
    obtain ⟨d0, d1, d2, d3⟩ := four_at ((hb2.block _ hlt1).trans HQ.out)
    have HC := Lib.hid (HVL2.out w2 (H.out.below (HB2.out.mono hB)) (Nat.le_trans hB HB2.out.size))
    clear hb2 c0 c1 c2 c3
    go_wp2_with fail
    refine HC.out.mono ?_; rintro e w3 ⟨rfl, hb3⟩
    have HB3 := Lib.hid (HB2.out.trans (hb3.mono HB2.out.size))
    clear hb3
    go_wp2_with fail
    go_ret2
    exact ⟨rfl, HB3.out⟩
/-- a result that is refused -/
theorem RetAb.bad {W w' : World} {c : Int} (hb : Below W.heap.size W w') {a : Ab} {f : Ab → Int → Ab × Int} {x : Int} (h : f a x = (zeroAb, c)) : RetAb W (f a x) (.returned (.tuple #[aggAb 0 0 0 (.slice none 0 0), .int .i64 c])) w' := by
  rw [h]; exact ⟨_, rfl, own_nilAb _ _, hb⟩
set_option maxRecDepth 100000 in
set_option maxHeartbeats 1600000 in
theorem SetAbI_any (B : Nat) (u l w val : Int) (v : Value) (rs : List (Int × Int)) (W : World) (h : Rd W B v rs.length 2 (rodsC rs)) (hB : B ≤ W.heap.size) (hm : rs.length ≤ 1048576) : Calls Try.prog 33 #[aggAb u l w v, .int .i64 val] W (RetAb W (setA ⟨u, l, w, rs⟩ val)) := by
  have H := Lib.hid h
  obtain ⟨_, A, c, rfl, _⟩ := h
  have hx := Bx2.made W (.int .i64 u) (.int .i64 l) (.int .i64 w) (.slice A rs.length c)
  have HV := Lib.hid (ValidAbI_any B u l w (.slice A rs.length c) rs _ (H.out.below (hx.bel.mono hB)) (Nat.le_trans hB hx.bel.size) hm)
  have HX := Lib.hid hx
  have HPL := Lib.hid (fun hok h0 h1 wx hx hz => plainI_any B u l w val (.slice A rs.length c) rs wx hx hz hok h0 h1)
  have HI := Lib.hid (fun wx => between_any val 0 1000000000000 wx)
  obtain ⟨c0, c1, c2, c3⟩ := (blk4 HX.out.box).1
  clear hx
  cases hok : okAb ⟨u, l, w, rs⟩
  · rw [hok] at HV
    have HR := Lib.hid (show setA ⟨u, l, w, rs⟩ val = (zeroAb, 1) by unfold setA; rw [hok]; rfl)
    clear hok HPL HI
    go_enter Try.func33, Try.ntmps33
    go_wp2_with fail
    refine HV.out.mono ?_; rintro e w2 ⟨rfl, hb2⟩
    have HX2 := HX.out.below hb2
    obtain ⟨⟨p0, p1, p2, p3⟩, f0, f1, f2, f3⟩ := blk4 HX2.res
    have HD := Lib.hid (HX2.done (.int .i64 0) (.int .i64 0) (.int .i64 0) (.slice none 0 0))
    clear hb2 HX2 c0 c1 c2 c3
    go_wp2_with fail
    obtain ⟨⟨k0, k1, k2, k3⟩, hbz⟩ := HD.out
    refine bodyPost_ret (v := .tuple #[aggAb 0 0 0 (.slice none 0 0), .int .i64 1]) (by simp [results, Try.results33, go_sem, k0, k1, k2, k3]) rfl ?_
    exact RetAb.bad hbz HR.out
  rw [hok] at HV
  cases hi : inB val 0 1000000000000
  · rw [hi] at HI
    have HR := Lib.hid (show setA ⟨u, l, w, rs⟩ val = (zeroAb, 2) by unfold setA; rw [hok, hi]; rfl)
    clear hok hi HPL
    go_enter Try.func33, Try.ntmps33
    go_wp2_with fail
    refine HV.out.mono ?_; rintro e w2 ⟨rfl, hb2⟩
    have HX2 := HX.out.below hb2
    obtain ⟨⟨p0, p1, p2, p3⟩, f0, f1, f2, f3⟩ := blk4 HX2.res
    have HD := Lib.hid (HX2.done (.int .i64 0) (.int .i64 0) (.int .i64 0) (.slice none 0 0))
    clear hb2 HX2 c0 c1 c2 c3
    go_wp2_with fail
    refine (HI.out _).mono ?_; rintro e w3 ⟨rfl, rfl⟩
    go_wp2_with fail
    obtain ⟨⟨k0, k1, k2, k3⟩, hbz⟩ := HD.out
    refine bodyPost_ret (v := .tuple #[aggAb 0 0 0 (.slice none 0 0), .int .i64 2]) (by simp [results, Try.results33, go_sem, k0, k1, k2, k3]) rfl ?_
    exact RetAb.bad hbz HR.out
  rw [hi] at HI
  have HR := Lib.hid (show setA ⟨u, l, w, rs⟩ val = plainA ⟨u, l, w, rs⟩ val by unfold setA; rw [hok, hi]; rfl)
  obtain ⟨i0, i1⟩ := inB_bd hi
  have HPL2 := Lib.hid (HPL.out hok i0 i1)
  clear hok hi HPL
  go_enter Try.func33, Try.ntmps33
  go_wp2_with fail
  refine HV.out.mono ?_; rintro e w2 ⟨rfl, hb2⟩
  have HX2 := Lib.hid (HX.out.below hb2)
  have HC := Lib.hid (HPL2.out w2 (H.out.below (HX2.out.bel.mono hB)) (Nat.le_trans hB HX2.out.bel.size))
  clear hb2 c0 c1 c2 c3
  obtain ⟨c0, c1, c2, c3⟩ := (blk4 HX2.out.box).1
  go_wp2_with fail
  refine (HI.out _).mono ?_; rintro e w3 ⟨rfl, rfl⟩
  go_wp2_with fail
  refine HC.out.mono ?_; rintro e w3 ⟨v3, rfl, ho3, hb3⟩
  have HX3 := HX2.out.below hb3
  obtain ⟨⟨p0, p1, p2, p3⟩, f0, f1, f2, f3⟩ := blk4 HX3.res
  generalize plainA ⟨u, l, w, rs⟩ val = x at *
  obtain ⟨⟨u', l', w', rs'⟩, cd⟩ := x
  have HD := Lib.hid (HX3.done (.int .i64 u') (.int .i64 l') (.int .i64 w') v3)
  have HO := Lib.hid (put4_own ho3 (show W.heap.size + 1 < w2.heap.size from blk_ltN HX2.out.res) (.int .i64 u') (.int .i64 l') (.int .i64 w') v3)
  have hbs := HX2.out.bel.size
  obtain ⟨A3, c3', rfl⟩ := own_sl ho3
  clear hb3 HX3 ho3 c0 c1 c2 c3
  go_wp2_with fail
  obtain ⟨⟨k0, k1, k2, k3⟩, hbz⟩ := HD.out
  refine bodyPost_ret (v := .tuple #[aggAb u' l' w' (.slice A3 rs'.length c3'), .int .i64 cd]) (by simp [results, Try.results33, go_sem, k0, k1, k2, k3]) rfl ?_
  rw [HR.out]
  exact ⟨_, rfl, ownsRow_le HO.out hbs, hbz⟩
end Go.Proofs.Ythemffbkkhaaoaa
/- Abaci: PlainAbacus, impl; AbacusValue, spec. -/
namespace Go.Proofs.Ythemffbkkhaaoaa
open Go.RowKit Go.Joins

set_option maxRecDepth 100000 in
set_option maxHeartbeats 3200000 in
theorem PlainAbI_any (B : Nat) (u l w : Int) (v : Value) (rs : List (Int × Int)) (W : World) (h : Rd W B v rs.length 2 (rodsC rs)) (hB : B ≤ W.heap.size) (hm : rs.length ≤ 1048576) : Calls Try.prog 36 #[aggAb u l w v] W (RetAb W (plA ⟨u, l, w, rs⟩)) := by
  have H := Lib.hid h
  obtain ⟨_, A, c, rfl, _⟩ := h
  have hx := Bx2.made W (.int .i64 u) (.int .i64 l) (.int .i64 w) (.slice A rs.length c)
  have HV := Lib.hid (ValidAbI_any B u l w (.slice A rs.length c) rs _ (H.out.below (hx.bel.mono hB)) (Nat.le_trans hB hx.bel.size) hm)
  have HX := Lib.hid hx
  have HVL := Lib.hid (fun hok wx hx hz => valueI_any B u l w (.slice A rs.length c) rs wx hx hz hok)
  have HPL := Lib.hid (fun val hok h0 h1 wx hx hz => plainI_any B u l w val (.slice A rs.length c) rs wx hx hz hok h0 h1)
  obtain ⟨c0, c1, c2, c3⟩ := (blk4 HX.out.box).1
  clear hx
  cases hok : okAb ⟨u, l, w, rs⟩
  · rw [hok] at HV
    have HR := Lib.hid (show plA ⟨u, l, w, rs⟩ = (zeroAb, 1) by unfold plA; rw [hok]; rfl)
    clear hok HPL HVL
    go_enter Try.func36, Try.ntmps36
    go_wp2_with fail
    refine HV.out.mono ?_; rintro e w2 ⟨rfl, hb2⟩
    have HX2 := HX.out.below hb2
    obtain ⟨⟨p0, p1, p2, p3⟩, f0, f1, f2, f3⟩ := blk4 HX2.res
    have HD := Lib.hid (HX2.done (.int .i64 0) (.int .i64 0) (.int .i64 0) (.slice none 0 0))
    clear hb2 HX2 c0 c1 c2 c3
    go_wp2_with fail
    obtain ⟨⟨k0, k1, k2, k3⟩, hbz⟩ := HD.out
    refine bodyPost_ret (v := .tuple #[aggAb 0 0 0 (.slice none 0 0), .int .i64 1]) (by simp [results, Try.results36, go_sem, k0, k1, k2, k3]) rfl ?_
    rw [HR.out]; exact ⟨_, rfl, own_nilAb _ _, hbz⟩
  rw [hok] at HV
  have HR := Lib.hid (show plA ⟨u, l, w, rs⟩ = plainA ⟨u, l, w, rs⟩ (valR w rs) by unfold plA; rw [hok]; rfl)
  have hvb := val_bd10 hok 0
  rw [List.drop_zero] at hvb
  obtain ⟨i0, i1⟩ := hvb
  have HPL2 := Lib.hid (HPL.out (valR w rs) hok i0 (by dsimp only at i1; omega))
  have HVL2 := Lib.hid (HVL.out hok)
  generalize plainA ⟨u, l, w, rs⟩ (valR w rs) = x at *
  generalize valR w rs = val at *
  obtain ⟨⟨u', l', w', rs'⟩, cd⟩ := x
  clear hok HPL HVL i0 i1
  go_enter Try.func36, Try.ntmps36
  go_wp2_with fail
  refine HV.out.mono ?_; rintro e w2 ⟨rfl, hb2⟩
  have HX2 := Lib.hid (HX.out.below hb2)
  clear hb2 c0 c1 c2 c3
  obtain ⟨c0, c1, c2, c3⟩ := (blk4 HX2.out.box).1
  have HC := Lib.hid (HVL2.out w2.drew (H.out.below (HX2.out.bel.mono hB).drew) (Nat.le_trans hB HX2.out.bel.size))
  go_wp2_with fail
  refine wp_region_noPanic ?_
  refine wp_region_L [7,6] (fun w' => w'.cell? ⟨W.heap.size, 0, none⟩ = some (.int .i64 u) ∧ w'.cell? ⟨W.heap.size, 1, none⟩ = some (.int .i64 l) ∧ w'.cell? ⟨W.heap.size, 2, none⟩ = some (.int .i64 w) ∧ w'.cell? ⟨W.heap.size, 3, none⟩ = some (.slice A rs.length c)) (by kernel_rfl) (⟨c0, c1, c2, c3⟩) (fun hHeld => ?_)
  refine take_L [0] (i := 0) (d := some 8) (v := ?_) (by kernel_rfl) (by kernel_rfl) (by kernel_rfl) (by kernel_rfl) rfl rfl (by kernel_rfl) (by kernel_rfl) (by kernel_rfl) (fun _ _ _ h => h) (Or.inl ⟨by rfl, ?_⟩) (by assumption) ?_
  rotate_left
  · (intro w hSw; (try dsimp only at hSw); go_simp; (try rw [if_neg (by omega)]); (try (with_reducible rfl)))
  simp only [Act.put, List.setIfInBounds_toArray, List.set_cons_zero, List.set_cons_succ]
  refine take_L [1] (i := 1) (d := some 9) (v := ?_) (by kernel_rfl) (by kernel_rfl) (by kernel_rfl) (by kernel_rfl) rfl rfl (by kernel_rfl) (by kernel_rfl) (by kernel_rfl) (fun _ _ _ h => h) (Or.inl ⟨by rfl, ?_⟩) (by assumption) ?_
  rotate_left
  · (intro w hSw; (try dsimp only at hSw); go_simp; (try rw [if_neg (by omega)]); (try (with_reducible rfl)))
  simp only [Act.put, List.setIfInBounds_toArray, List.set_cons_zero, List.set_cons_succ]
  refine call_L (i := 2) (d := (some 10)) rfl rfl (by kernel_rfl) (fun Kq hKq => ?_)
  go_simp
  go_at_call 129
  refine HC.out.mono ?_; rintro e w3 ⟨rfl, hb3⟩
  have HX3 := Lib.hid (HX2.out.below (below_undrew hb3))
  have HC3 := Lib.hid (HPL2.out w3 (H.out.below (HX3.out.bel.mono hB)) (Nat.le_trans hB HX3.out.bel.size))
  clear hb3 c0 c1 c2 c3
  obtain ⟨c0, c1, c2, c3⟩ := (blk4 HX3.out.box).1
  (try go_wp2_with fail)
  refine hKq.out _ _ (⟨c0, c1, c2, c3⟩) (fun hHeld => ?_)
  clear hKq Kq
  (try simp only [Act.put, List.setIfInBounds_toArray, List.set_cons_zero, List.set_cons_succ])
  refine call_L (i := 3) (d := (some 11)) rfl rfl (by kernel_rfl) (fun Kq hKq => ?_)
  go_simp
  go_at_call 126
  refine HC3.out.mono ?_; rintro e w4 ⟨v4, rfl, ho4, hb4⟩
  have HX4 := HX3.out.below hb4
  clear c0 c1 c2 c3
  obtain ⟨c0, c1, c2, c3⟩ := (blk4 HX4.box).1
  obtain ⟨⟨p0, p1, p2, p3⟩, f0, f1, f2, f3⟩ := blk4 HX4.res
  have HD := Lib.hid (HX4.done (.int .i64 u') (.int .i64 l') (.int .i64 w') v4)
  have HO := Lib.hid (put4_own ho4 (show W.heap.size + 1 < w3.heap.size from blk_ltN HX3.out.res) (.int .i64 u') (.int .i64 l') (.int .i64 w') v4)
  have hbs := HX3.out.bel.size
  obtain ⟨A4, c4', rfl⟩ := own_sl ho4
  clear hb4 HX4 ho4
  (try go_wp2_with fail)
  refine hKq.out _ _ (⟨c0, c1, c2, c3⟩) (fun hHeld => ?_)
  clear hKq Kq
  (try simp only [Act.put, List.setIfInBounds_toArray, List.set_cons_zero, List.set_cons_succ])
  refine take_F (i := 4) (d := some 12) (v := ?_) (by kernel_rfl) (by kernel_rfl) rfl rfl (by kernel_rfl) (by kernel_rfl) (by kernel_rfl) (fun _ _ _ h => h) (Or.inl ⟨by rfl, ?_⟩) (by assumption) ?_
  rotate_left
  · (intro w hSw; (try dsimp only at hSw); go_simp; (try rw [if_neg (by omega)]); (try (with_reducible rfl)))
  simp only [Act.put, List.setIfInBounds_toArray, List.set_cons_zero, List.set_cons_succ]
  refine take_F (i := 5) (d := some 13) (v := ?_) (by kernel_rfl) (by kernel_rfl) rfl rfl (by kernel_rfl) (by kernel_rfl) (by kernel_rfl) (fun _ _ _ h => h) (Or.inl ⟨by rfl, ?_⟩) (by assumption) ?_
  rotate_left
  · (intro w hSw; (try dsimp only at hSw); go_simp; (try rw [if_neg (by omega)]); (try (with_reducible rfl)))
  simp only [Act.put, List.setIfInBounds_toArray, List.set_cons_zero, List.set_cons_succ]
  refine late_L (i := 6) (d := none) (by kernel_rfl) rfl rfl (by kernel_rfl) (fun Kq hKq => ?_)
  go_simp
  refine hKq.out _ _ ?_
  clear hKq Kq
  refine late_L (i := 7) (d := (some 3)) (by kernel_rfl) rfl rfl (by kernel_rfl) (fun Kq hKq => ?_)
  go_simp
  refine hKq.out _ _ ?_
  clear hKq Kq
  refine done_L (by kernel_rfl) ?_ _
  refine NoPanic.normal ?_
  go_wp2_with fail
  obtain ⟨⟨k0, k1, k2, k3⟩, hbz⟩ := HD.out
  refine bodyPost_ret (v := .tuple #[aggAb u' l' w' (.slice A4 rs'.length c4'), .int .i64 cd]) (by simp [results, Try.results36, go_sem, k0, k1, k2, k3]) rfl ?_
  rw [HR.out]
  exact ⟨_, rfl, ownsRow_le HO.out hbs, hbz⟩
theorem AbValueS_any (B : Nat) (u l w : Int) (v : Value) (rs : List (Int × Int)) (W : World) (h : Rd W B v rs.length 2 (rodsC rs)) (hB : B ≤ W.heap.size) (hm : rs.length ≤ 1048576) : Calls Try.prog 40 #[aggAb u l w v] W fun e w' => e = .returned (.tuple #[.int .i64 (vlV ⟨u, l, w, rs⟩), .int .i64 (vlC ⟨u, l, w, rs⟩)]) ∧ Below W.heap.size W w' := by
  have H := Lib.hid h
  obtain ⟨_, A, c, rfl, _⟩ := h
  have hb1 := (Below.refl W.heap.size W).alloc (Nat.le_refl _) (.cells #[.int .i64 u, .int .i64 l, .int .i64 w, .slice A rs.length c] 52)
  have HA := Lib.hid (AbAt.of (heap_alloc_new W (.cells #[.int .i64 u, .int .i64 l, .int .i64 w, .slice A rs.length c] 52)))
  have HR := Lib.hid (H.out.below (hb1.mono hB))
  have HV := Lib.hid (l03Ok_any W.heap.size B u l w (.slice A rs.length c) rs _ HA.out HR.out hm)
  have HB := Lib.hid hb1
  have HVL := Lib.hid (fun hok n => l03Value_any B W.heap.size u l w (.slice A rs.length c) rs _ (HA.out.drewN n) (HR.out.drewN n) hok)
  clear hb1
  cases hok : okAb ⟨u, l, w, rs⟩
  · rw [hok] at HV
    have e1 : vlV ⟨u, l, w, rs⟩ = 0 := by unfold vlV; rw [hok]; rfl
    have e2 : vlC ⟨u, l, w, rs⟩ = 1 := by unfold vlC; rw [hok]; rfl
    rw [e1, e2]
    clear hok HVL e1 e2
    go_enter Try.func40, Try.ntmps40
    go_wp2_with fail
    refine HV.out.mono ?_; rintro e w2 ⟨rfl, n2, rfl⟩
    go_wp2_with fail
    go_ret2
    exact ⟨rfl, below_drewN HB.out n2⟩
  · rw [hok] at HV
    have e1 : vlV ⟨u, l, w, rs⟩ = valR w rs := by unfold vlV; rw [hok]; rfl
    have e2 : vlC ⟨u, l, w, rs⟩ = 0 := by unfold vlC; rw [hok]; rfl
    rw [e1, e2]
    have HVL2 := Lib.hid (HVL.out hok)
    generalize valR w rs = R at *
    clear hok HVL e1 e2
    go_enter Try.func40, Try.ntmps40
    go_wp2_with fail
    refine HV.out.mono ?_; rintro e w2 ⟨rfl, n2, rfl⟩
    go_wp2_with fail
    refine (HVL2.out n2).mono ?_; rintro e w3 ⟨rfl, n3, rfl⟩
    go_wp2_with fail
    go_ret2
    exact ⟨rfl, below_drewN HB.out _⟩
end Go.Proofs.Ythemffbkkhaaoaa
/- Abaci: SetAbacus, PlainAbacus, spec. -/
namespace Go.Proofs.Ythemffbkkhaaoaa
open Go.RowKit Go.Joins

theorem below_eqA {w w' : World} {n : Nat} (h : w' = w.drewN n) : Below w.heap.size w w' := by rw [h]; exact below_drewN (Below.refl _ _) n

set_option maxRecDepth 100000 in
set_option maxHeartbeats 3200000 in
theorem SetAbS_any (B : Nat) (u l w val : Int) (v : Value) (rs : List (Int × Int)) (W : World) (h : Rd W B v rs.length 2 (rodsC rs)) (hB : B ≤ W.heap.size) (hm : rs.length ≤ 1048576) : Calls Try.prog 34 #[aggAb u l w v, .int .i64 val] W (RetAb W (setA ⟨u, l, w, rs⟩ val)) := by
  have H := Lib.hid h
  obtain ⟨_, A, c, rfl, _⟩ := h
  have hx := Bx2.made W (.int .i64 u) (.int .i64 l) (.int .i64 w) (.slice A rs.length c)
  have HV := Lib.hid (l03Ok_any W.heap.size B u l w (.slice A rs.length c) rs _ hx.at (H.out.below (hx.bel.mono hB)) hm)
  have HX := Lib.hid hx
  have HS := Lib.hid (fun hok h0 h1 wx ha hx hz => l03Set_any B W.heap.size u l w val (.slice A rs.length c) rs wx ha hx hz hok h0 h1)
  have HI := Lib.hid (fun wx => flipC (l00In_any val 0 1000000000000 wx))
  clear hx
  cases hok : okAb ⟨u, l, w, rs⟩
  · rw [hok] at HV
    have HR := Lib.hid (show setA ⟨u, l, w, rs⟩ val = (zeroAb, 1) by unfold setA; rw [hok]; rfl)
    clear hok HS HI
    go_enter Try.func34, Try.ntmps34
    go_wp2_with fail
    refine HV.out.mono ?_; rintro e w2 ⟨rfl, n2, hw2⟩
    have HX2 := HX.out.below (below_eqA hw2)
    obtain ⟨⟨p0, p1, p2, p3⟩, f0, f1, f2, f3⟩ := blk4 HX2.res
    have HD := Lib.hid (HX2.done (.int .i64 0) (.int .i64 0) (.int .i64 0) (.slice none 0 0))
    clear hw2 HX2
    go_wp2_with fail
    obtain ⟨⟨k0, k1, k2, k3⟩, hbz⟩ := HD.out
    refine bodyPost_ret (v := .tuple #[aggAb 0 0 0 (.slice none 0 0), .int .i64 1]) (by simp [results, Try.results34, go_sem, k0, k1, k2, k3]) rfl ?_
    exact RetAb.bad hbz HR.out
  rw [hok] at HV
  cases hi : inB val 0 1000000000000
  · rw [hi] at HI
    have HR := Lib.hid (show setA ⟨u, l, w, rs⟩ val = (zeroAb, 2) by unfold setA; rw [hok, hi]; rfl)
    clear hok hi HS
    go_enter Try.func34, Try.ntmps34
    go_wp2_with fail
    refine HV.out.mono ?_; rintro e w2 ⟨rfl, n2, hw2⟩
    have HX2 := HX.out.below (below_eqA hw2)
    obtain ⟨⟨p0, p1, p2, p3⟩, f0, f1, f2, f3⟩ := blk4 HX2.res
    have HD := Lib.hid (HX2.done (.int .i64 0) (.int .i64 0) (.int .i64 0) (.slice none 0 0))
    clear hw2 HX2
    go_wp2_with fail
    refine (HI.out _).mono ?_; rintro e w3 ⟨rfl, rfl⟩
    go_wp2_with fail
    obtain ⟨⟨k0, k1, k2, k3⟩, hbz⟩ := HD.out
    refine bodyPost_ret (v := .tuple #[aggAb 0 0 0 (.slice none 0 0), .int .i64 2]) (by simp [results, Try.results34, go_sem, k0, k1, k2, k3]) rfl ?_
    exact RetAb.bad hbz HR.out
  rw [hi] at HI
  have HR := Lib.hid (show setA ⟨u, l, w, rs⟩ val = plainA ⟨u, l, w, rs⟩ val by unfold setA; rw [hok, hi]; rfl)
  obtain ⟨i0, i1⟩ := inB_bd hi
  have HS2 := Lib.hid (HS.out hok i0 i1)
  clear hok hi HS
  go_enter Try.func34, Try.ntmps34
  go_wp2_with fail
  refine HV.out.mono ?_; rintro e w2 ⟨rfl, n2, hw2⟩
  have HX2 := Lib.hid (HX.out.below (below_eqA hw2))
  have HC := Lib.hid (HS2.out w2 HX2.out.at (H.out.below (HX2.out.bel.mono hB)) (Nat.le_trans hB HX2.out.bel.size))
  clear hw2
  go_wp2_with fail
  refine (HI.out _).mono ?_; rintro e w3 ⟨rfl, rfl⟩
  go_wp2_with fail
  refine HC.out.mono ?_; rintro e w3 ⟨v3, rfl, ho3, hb3⟩
  have hbm := (Below.refl w3.heap.size w3).alloc (Nat.le_refl _) (.cells #[.int .i64 u, .int .i64 l, .int .i64 w, v3] 52)
  have HX3 := Lib.hid ((HX2.out.below hb3).below hbm)
  have HN := Lib.hid (heap_alloc_new w3 (.cells #[.int .i64 u, .int .i64 l, .int .i64 w, v3] 52))
  have HO3 := Lib.hid (own_below ho3 hbm)
  obtain ⟨A3, c3', rfl⟩ := own_sl ho3
  have hlw := blk_ltN HX2.out.res
  have hbs := HX2.out.bel.size
  go_upto_region 6 with (fail)
  generalize w3.alloc (.cells #[.int .i64 u, .int .i64 l, .int .i64 w, .slice A3 rs.length c3'] 52) = w4 at *
  generalize w3.heap.size = q at *
  clear hbm ho3 hb3
  have hpl := plainRs_len u w rs.length val
  obtain ⟨⟨q0, q1, q2, q3⟩, _⟩ := blk4 HN.out
  obtain ⟨⟨p0, p1, p2, p3⟩, f0, f1, f2, f3⟩ := blk4 HX3.out.res
  by_cases hz : leftV rs.length val = 0
  · have HPA := Lib.hid (show plainA ⟨u, l, w, rs⟩ val = (⟨u, l, w, plainRs u w rs.length val⟩, 0) by unfold plainA; exact if_pos hz)
    have HD := Lib.hid (HX3.out.done (.int .i64 u) (.int .i64 l) (.int .i64 w) (.slice A3 rs.length c3'))
    have HO := Lib.hid (put4_own HO3.out hlw (.int .i64 u) (.int .i64 l) (.int .i64 w) (.slice A3 rs.length c3'))
    rw [decide_eq_true hz]
    clear hz
    go_wp2_with fail
    obtain ⟨⟨k0, k1, k2, k3⟩, hbz⟩ := HD.out
    refine bodyPost_ret (v := .tuple #[aggAb u l w (.slice A3 rs.length c3'), .int .i64 0]) (by simp [results, Try.results34, go_sem, k0, k1, k2, k3]) rfl ?_
    rw [HR.out, HPA.out]
    exact ⟨_, rfl, by show World.ownsRow _ _ _ _ _ (plainRs u w rs.length val).length _; rw [hpl]; exact ownsRow_le HO.out hbs, hbz⟩
  · have HPA := Lib.hid (show plainA ⟨u, l, w, rs⟩ val = (zeroAb, 5) by unfold plainA; exact if_neg hz)
    have HD := Lib.hid (HX3.out.done (.int .i64 0) (.int .i64 0) (.int .i64 0) (.slice none 0 0))
    rw [decide_eq_false hz]
    clear hz
    go_wp2_with fail
    obtain ⟨⟨k0, k1, k2, k3⟩, hbz⟩ := HD.out
    refine bodyPost_ret (v := .tuple #[aggAb 0 0 0 (.slice none 0 0), .int .i64 5]) (by simp [results, Try.results34, go_sem, k0, k1, k2, k3]) rfl ?_
    rw [HR.out, HPA.out]
    exact ⟨_, rfl, own_nilAb _ _, hbz⟩
set_option maxRecDepth 100000 in
set_option maxHeartbeats 3200000 in
theorem PlainAbS_any (B : Nat) (u l w : Int) (v : Value) (rs : List (Int × Int)) (W : World) (h : Rd W B v rs.length 2 (rodsC rs)) (hB : B ≤ W.heap.size) (hm : rs.length ≤ 1048576) : Calls Try.prog 37 #[aggAb u l w v] W (RetAb W (plA ⟨u, l, w, rs⟩)) := by
  have H := Lib.hid h
  obtain ⟨_, A, c, rfl, _⟩ := h
  have hx := Bx2.made W (.int .i64 u) (.int .i64 l) (.int .i64 w) (.slice A rs.length c)
  have HV := Lib.hid (l03Ok_any W.heap.size B u l w (.slice A rs.length c) rs _ hx.at (H.out.below (hx.bel.mono hB)) hm)
  have HX := Lib.hid hx
  have HS := Lib.hid (fun val hok h0 h1 wx ha hx hz => l03Set_any B W.heap.size u l w val (.slice A rs.length c) rs wx ha hx hz hok h0 h1)
  have HVL := Lib.hid (fun hok wx ha hx => l03Value_any B W.heap.size u l w (.slice A rs.length c) rs wx ha hx hok)
  clear hx
  cases hok : okAb ⟨u, l, w, rs⟩
  · rw [hok] at HV
    have HR := Lib.hid (show plA ⟨u, l, w, rs⟩ = (zeroAb, 1) by unfold plA; rw [hok]; rfl)
    clear hok HS HVL
    go_enter Try.func37, Try.ntmps37
    go_wp2_with fail
    refine HV.out.mono ?_; rintro e w2 ⟨rfl, n2, hw2⟩
    have HX2 := HX.out.below (below_eqA hw2)
    obtain ⟨⟨p0, p1, p2, p3⟩, f0, f1, f2, f3⟩ := blk4 HX2.res
    have HD := Lib.hid (HX2.done (.int .i64 0) (.int .i64 0) (.int .i64 0) (.slice none 0 0))
    clear hw2 HX2
    go_wp2_with fail
    obtain ⟨⟨k0, k1, k2, k3⟩, hbz⟩ := HD.out
    refine bodyPost_ret (v := .tuple #[aggAb 0 0 0 (.slice none 0 0), .int .i64 1]) (by simp [results, Try.results37, go_sem, k0, k1, k2, k3]) rfl ?_
    rw [HR.out]; exact ⟨_, rfl, own_nilAb _ _, hbz⟩
  rw [hok] at HV
  have HR := Lib.hid (show plA ⟨u, l, w, rs⟩ = plainA ⟨u, l, w, rs⟩ (valR w rs) by unfold plA; rw [hok]; rfl)
  have hvb := val_bd10 hok 0
  rw [List.drop_zero] at hvb
  obtain ⟨i0, i1⟩ := hvb
  have HS2 := Lib.hid (HS.out (valR w rs) hok i0 (by dsimp only at i1; omega))
  have HVL2 := Lib.hid (HVL.out hok)
  generalize valR w rs = val at *
  clear hok HS HVL i0 i1
  go_enter Try.func37, Try.ntmps37
  go_wp2_with fail
  refine HV.out.mono ?_; rintro e w2 ⟨rfl, n2, hw2⟩
  have HX2 := Lib.hid (HX.out.below (below_eqA hw2))
  have HC1 := Lib.hid (HVL2.out w2 HX2.out.at (H.out.below (HX2.out.bel.mono hB)))
  clear hw2
  go_wp2_with fail
  refine HC1.out.mono ?_; rintro e wv ⟨rfl, n3, hw3⟩
  have HXv := Lib.hid (HX2.out.below (below_eqA hw3))
  have HC := Lib.hid (HS2.out wv HXv.out.at (H.out.below (HXv.out.bel.mono hB)) (Nat.le_trans hB HXv.out.bel.size))
  clear hw3 HC1
  go_wp2_with fail
  refine HC.out.mono ?_; rintro e w3 ⟨v3, rfl, ho3, hb3⟩
  have hbm := (Below.refl w3.heap.size w3).alloc (Nat.le_refl _) (.cells #[.int .i64 u, .int .i64 l, .int .i64 w, v3] 52)
  have HX3 := Lib.hid ((HXv.out.below hb3).below hbm)
  have HN := Lib.hid (heap_alloc_new w3 (.cells #[.int .i64 u, .int .i64 l, .int .i64 w, v3] 52))
  have HO3 := Lib.hid (own_below ho3 hbm)
  obtain ⟨A3, c3', rfl⟩ := own_sl ho3
  have hlw := blk_ltN HXv.out.res
  have hbs := HXv.out.bel.size
  go_upto_region 4 with (fail)
  generalize w3.alloc (.cells #[.int .i64 u, .int .i64 l, .int .i64 w, .slice A3 rs.length c3'] 52) = w4 at *
  generalize w3.heap.size = q at *
  clear hbm ho3 hb3
  have hpl := plainRs_len u w rs.length val
  obtain ⟨⟨q0, q1, q2, q3⟩, _⟩ := blk4 HN.out
  obtain ⟨⟨p0, p1, p2, p3⟩, f0, f1, f2, f3⟩ := blk4 HX3.out.res
  by_cases hz : leftV rs.length val = 0
  · have HPA := Lib.hid (show plainA ⟨u, l, w, rs⟩ val = (⟨u, l, w, plainRs u w rs.length val⟩, 0) by unfold plainA; exact if_pos hz)
    have HD := Lib.hid (HX3.out.done (.int .i64 u) (.int .i64 l) (.int .i64 w) (.slice A3 rs.length c3'))
    have HO := Lib.hid (put4_own HO3.out hlw (.int .i64 u) (.int .i64 l) (.int .i64 w) (.slice A3 rs.length c3'))
    rw [decide_eq_true hz]
    clear hz
    go_wp2_with fail
    obtain ⟨⟨k0, k1, k2, k3⟩, hbz⟩ := HD.out
    refine bodyPost_ret (v := .tuple #[aggAb u l w (.slice A3 rs.length c3'), .int .i64 0]) (by simp [results, Try.results37, go_sem, k0, k1, k2, k3]) rfl ?_
    rw [HR.out, HPA.out]
    exact ⟨_, rfl, by show World.ownsRow _ _ _ _ _ (plainRs u w rs.length val).length _; rw [hpl]; exact ownsRow_le HO.out hbs, hbz⟩
  · have HPA := Lib.hid (show plainA ⟨u, l, w, rs⟩ val = (zeroAb, 5) by unfold plainA; exact if_neg hz)
    have HD := Lib.hid (HX3.out.done (.int .i64 0) (.int .i64 0) (.int .i64 0) (.slice none 0 0))
    rw [decide_eq_false hz]
    clear hz
    go_wp2_with fail
    obtain ⟨⟨k0, k1, k2, k3⟩, hbz⟩ := HD.out
    refine bodyPost_ret (v := .tuple #[aggAb 0 0 0 (.slice none 0 0), .int .i64 5]) (by simp [results, Try.results37, go_sem, k0, k1, k2, k3]) rfl ?_
    rw [HR.out, HPA.out]
    exact ⟨_, rfl, own_nilAb _ _, hbz⟩
end Go.Proofs.Ythemffbkkhaaoaa
/- Abaci that are drawn: l03Draw. -/
namespace Go.Proofs.Ythemffbkkhaaoaa
open Go.RowKit Go.Joins

/-- an abacus under way: the result's block r is fresh, the abacus lies in block q, its rods in a row of the call's own -/
structure NwA (W w : World) (B g k : Nat) (bs : List UInt8) (r q : Nat) (a b c v : Value) (n : Nat) (cs : List Value) : Prop where
  lt : g < W.heap.size
  src : SrcAt w B g k bs
  gr : W.grownBy w (some g)
  hr : w.heap[r]? = some (.cells #[.int .i64 0, .int .i64 0, .int .i64 0, .slice none 0 0] 52 (0, 0))
  hq : w.heap[q]? = some (.cells #[a, b, c, v] 52 (0, 0))
  row : w.ownsRow W.heap.size 143 2 v n cs
  lr : W.heap.size ≤ r
  rq : r < q
section
variable {W w w' : World} {B g k k' r q : Nat} {bs : List UInt8} {a b c v : Value} {n : Nat} {cs : List Value}
theorem rod_ne {w : World} {base n : Nat} {v : Value} {cs : List Value} {q : Nat} {x : Array Value} {fr : Nat × Nat} (h : w.ownsRow base 143 2 v n cs) (hq : w.heap[q]? = some (.cells x 52 fr)) : v.ownBlock ≠ some q := by
  intro e
  rcases h.2 with ⟨rfl, _⟩ | ⟨g, cap, cur, rfl, _, hg, _⟩
  · cases e
  · injection e with e
    have e2 : g = q := e
    subst e2
    rw [hq] at hg
    injection hg with hg
    injection hg with _ h2 _
    exact absurd h2 (by decide)
theorem NwA.row_lt (h : NwA W w B g k bs r q a b c v n cs) : ∀ x, v.ownBlock = some x → W.heap.size ≤ x ∧ x ≠ r ∧ x ≠ q := fun x hx =>
  ⟨(h.row.lt x hx).1, fun e => rod_ne h.row h.hr (by rw [hx, e]), fun e => rod_ne h.row h.hq (by rw [hx, e])⟩
theorem NwA.draw (h : NwA W w B g k bs r q a b c v n cs) (hs : SrcAt w' B g k' bs) (hg : w.grownBy w' (some g)) : NwA W w' B g k' bs r q a b c v n cs :=
  ⟨h.lt, hs, grown_trans h.gr hg, (hg.block _ (blk_ltN h.hr) (fun e => by have := h.lt; have := h.lr; injection e; omega)).trans h.hr, (hg.block q (blk_ltN h.hq) (fun e => by have := h.lt; have := h.lr; have := h.rq; injection e; omega)).trans h.hq,
   h.row.kept hg (by
    cases hv : v.ownBlock with
    | none => exact .inl rfl
    | some x => exact .inr fun e => by have := (h.row.lt x hv).1; have := h.lt; injection e; omega), h.lr, h.rq⟩
theorem NwA.below (h : NwA W w B g k bs r q a b c v n cs) (hb : Below w.heap.size w w') : NwA W w' B g k bs r q a b c v n cs :=
  ⟨h.lt, h.src.below hb, grown_below h.gr hb, (hb.block _ (blk_ltN h.hr)).trans h.hr, (hb.block _ (blk_ltN h.hq)).trans h.hq, own_below h.row hb, h.lr, h.rq⟩
/-- a field of the abacus is written (no slice) -/
theorem NwA.set (h : NwA W w B g k bs r q a b c v n cs) (i : Nat) (x a' b' c' v' : Value) (hc : (#[a, b, c, v] : Array Value).setIfInBounds i x = #[a', b', c', v']) {n' : Nat} {cs' : List Value} (hrow : w.ownsRow W.heap.size 143 2 v' n' cs') : NwA W (w.setCell ⟨q, i, none⟩ x) B g k bs r q a' b' c' v' n' cs' := by
  have h1 := heap_setCell_same w q i _ _ x h.hq
  rw [hc] at h1
  have hg : w.grownBy (w.setCell ⟨q, i, none⟩ x) (some q) := grown_setCell (a := w) (p := ⟨q, i, none⟩) ⟨rfl, rfl, rfl, Nat.le_refl _, fun _ _ _ => rfl⟩ (.inl rfl) x
  have hqW : W.heap.size ≤ q := by have := h.lr; have := h.rq; omega
  refine ⟨h.lt, h.src.grown hg (fun y hy => by cases hy; exact Nat.lt_of_lt_of_le h.lt hqW), grownBy_row h.gr hg (fun y hy => by cases hy; exact hqW), (Below.heap_setCell _ _ _ _ (Nat.ne_of_lt h.rq)).trans h.hr, h1, ?_, h.lr, h.rq⟩
  exact ownsRow_setCell_other hrow (a := ⟨q, i, none⟩) (fun e => rod_ne hrow h.hq e) x
/-- the row has grown -/
theorem NwA.app {v' : Value} {n' : Nat} {cs' : List Value} (h : NwA W w B g k bs r q a b c v n cs) (hrow : w'.ownsRow W.heap.size 143 2 v' n' cs') (hg : w.grownBy w' v.ownBlock) : NwA W (w'.setCell ⟨q, 3, none⟩ v') B g k bs r q a b c v' n' cs' := by
  have hne := h.row_lt
  have h1 : NwA W w' B g k bs r q a b c v' n' cs' → NwA W (w'.setCell ⟨q, 3, none⟩ v') B g k bs r q a b c v' n' cs' := fun h0 => h0.set 3 v' a b c v' rfl h0.row
  have hq' := (hg.block q (blk_ltN h.hq) (fun e => (hne q e.symm).2.2 rfl)).trans h.hq
  have hr' := (hg.block r (blk_ltN h.hr) (fun e => (hne r e.symm).2.1 rfl)).trans h.hr
  have h2 := heap_setCell_same w' q 3 _ _ v' hq'
  have hgq : w'.grownBy (w'.setCell ⟨q, 3, none⟩ v') (some q) := grown_setCell (a := w') (p := ⟨q, 3, none⟩) ⟨rfl, rfl, rfl, Nat.le_refl _, fun _ _ _ => rfl⟩ (.inl rfl) v'
  have hqW : W.heap.size ≤ q := by have := h.lr; have := h.rq; omega
  exact ⟨h.lt, (h.src.grown hg (fun x hx => Nat.lt_of_lt_of_le h.lt (hne x hx).1)).grown hgq (fun y hy => by cases hy; exact Nat.lt_of_lt_of_le h.lt hqW), grownBy_row (grownBy_row h.gr hg (fun x hx => (hne x hx).1)) hgq (fun y hy => by cases hy; exact hqW), (Below.heap_setCell _ _ _ _ (Nat.ne_of_lt h.rq)).trans hr', h2, ownsRow_setCell_other hrow (a := ⟨q, 3, none⟩) (fun e => rod_ne hrow hq' e) v', h.lr, h.rq⟩
theorem NwA.more (h : NwA W w B g k bs r q a b c v n cs) (hk : k ≤ k') : NwA W w B g k' bs r q a b c v n cs := ⟨h.lt, h.src.more hk, h.gr, h.hr, h.hq, h.row, h.lr, h.rq⟩
/-- the abacus is written anew, with no rods -/
theorem NwA.anew (h : NwA W w B g k bs r q a b c v n cs) (a' b' c' : Value) : NwA W (put4 w q a' b' c' (.slice none 0 0)) B g k bs r q a' b' c' (.slice none 0 0) 0 (rodsC []) :=
  (((h.set 0 a' a' b c v rfl h.row).set 1 b' a' b' c v rfl (h.set 0 a' a' b c v rfl h.row).row).set 2 c' a' b' c' v rfl ((h.set 0 a' a' b c v rfl h.row).set 1 b' a' b' c v rfl (h.set 0 a' a' b c v rfl h.row).row).row).set 3 (.slice none 0 0) a' b' c' (.slice none 0 0) rfl (own_nilAb _ _)
/-- a cell of the row is written -/
theorem NwA.put {gg cap : Nat} (h : NwA W w B g k bs r q a b c (.slice (some ⟨gg, 0, none⟩) n cap) n cs) (j : Nat) (hj : j < cs.length) (x : Value) : NwA W (w.setCell ⟨gg, j, none⟩ x) B g k bs r q a b c (.slice (some ⟨gg, 0, none⟩) n cap) n (cs.set j x) := by
  obtain ⟨h1, h2, h3⟩ := h.row_lt gg rfl
  have hg : w.grownBy (w.setCell ⟨gg, j, none⟩ x) (some gg) := grown_setCell (a := w) (p := ⟨gg, j, none⟩) ⟨rfl, rfl, rfl, Nat.le_refl _, fun _ _ _ => rfl⟩ (.inl rfl) x
  exact ⟨h.lt, h.src.grown hg (fun y hy => by cases hy; exact Nat.lt_of_lt_of_le h.lt h1), grownBy_row h.gr hg (fun y hy => by cases hy; exact h1), (Below.heap_setCell _ _ _ _ (Ne.symm h2)).trans h.hr, (Below.heap_setCell _ _ _ _ (Ne.symm h3)).trans h.hq, (own_put h.row j hj x).1, h.lr, h.rq⟩
/-- the result is stored -/
theorem NwA.done (h : NwA W w B g k bs r q a b c v n cs) :
    ((put4 w r a b c v).cell? ⟨r, 0, none⟩ = some a ∧ (put4 w r a b c v).cell? ⟨r, 1, none⟩ = some b ∧ (put4 w r a b c v).cell? ⟨r, 2, none⟩ = some c ∧ (put4 w r a b c v).cell? ⟨r, 3, none⟩ = some v) ∧
    SrcAt (put4 w r a b c v) B g k bs ∧ W.grownBy (put4 w r a b c v) (some g) ∧ (put4 w r a b c v).ownsRow W.heap.size 143 2 v n cs := by
  have g4 := heap_setCell_same _ r 3 _ _ v (heap_setCell_same _ r 2 _ _ c (heap_setCell_same _ r 1 _ _ b (heap_setCell_same w r 0 _ _ a h.hr)))
  have g0 : w.grownBy w (some r) := ⟨rfl, rfl, rfl, Nat.le_refl _, fun _ _ _ => rfl⟩
  have hg : w.grownBy (put4 w r a b c v) (some r) := grown_setCell (grown_setCell (grown_setCell (grown_setCell g0 (p := ⟨r, 0, none⟩) (.inl rfl) _) (p := ⟨r, 1, none⟩) (.inl rfl) _) (p := ⟨r, 2, none⟩) (.inl rfl) _) (p := ⟨r, 3, none⟩) (.inl rfl) _
  have hne : v.ownBlock ≠ some r := rod_ne h.row h.hr
  exact ⟨(blk4 g4).1, h.src.grown hg (fun x hx => by cases hx; exact Nat.lt_of_lt_of_le h.lt h.lr), grownBy_row h.gr hg (fun x hx => by cases hx; exact h.lr),
    ownsRow_setCell_other (ownsRow_setCell_other (ownsRow_setCell_other (ownsRow_setCell_other h.row (a := ⟨r, 0, none⟩) hne a) (a := ⟨r, 1, none⟩) hne b) (a := ⟨r, 2, none⟩) hne c) (a := ⟨r, 3, none⟩) hne v⟩
end
theorem rodsC_snoc (rs : List (Int × Int)) (a b : Int) : rodsC (rs ++ [(a, b)]) = rodsC rs ++ [.int .i64 a, .int .i64 b] := by
  show (rs ++ [(a, b)]).flatMap cellsRd = _
  rw [List.flatMap_append]; rfl
/-- a drawn abacus -/
def RetDa (W : World) (B g k : Nat) (bs : List UInt8) (P : Ab → Prop) (e : Ending) (w' : World) : Prop :=
  ∃ (a : Ab) (v : Value), e = .returned (aggAb a.u a.l a.w v) ∧ P a ∧ a.rods.length ≤ 11 ∧ w'.ownsRow W.heap.size 143 2 v a.rods.length (rodsC a.rods) ∧ SrcAt w' B g k bs ∧ W.grownBy w' (some g)
set_option maxRecDepth 100000 in
set_option maxHeartbeats 6400000 in
theorem l03Draw_any (B g k : Nat) (bs : List UInt8) (W : World) (hs : SrcAt W B g k bs) (hk : k < 4611686018427380000) : Calls Try.prog 135 #[.pointer (some ⟨g, 0, none⟩)] W (RetDa W B g (k + 60) bs (fun a => kindAb a = true ∧ 0 < a.rods.length)) := by
  have hlt := hs.lt
  obtain ⟨h1, h2, h3⟩ := two_blocks W #[.int .i64 0, .int .i64 0, .int .i64 0, .slice none 0 0] #[.int .i64 1, .int .i64 4, .int .i64 5, .slice none 0 0] 52 52
  have HN := Lib.hid (show NwA W ((W.alloc objZ).alloc (.cells #[.int .i64 1, .int .i64 4, .int .i64 5, .slice none 0 0] 52)) B g k bs W.heap.size (W.heap.size + 1) (.int .i64 1) (.int .i64 4) (.int .i64 5) (.slice none 0 0) 0 (rodsC []) from
    ⟨hlt, hs.below h3, grown_of_below h3 _, h1, h2, own_nilAb _ _, Nat.le_refl _, Nat.lt_succ_self _⟩)
  clear h1 h2 h3 hs
  go_enter Try.func135, Try.ntmps135
  go_upto_region 2 with (fail)
  generalize (W.alloc objZ).alloc (.cells #[.int .i64 1, .int .i64 4, .int .i64 5, .slice none 0 0] 52) = w1 at *
  go_wp2_with fail
  refine (pick_any B g _ bs 4 _ HN.out.src (by omega)).mono ?_; rintro e w2 ⟨x, rfl, ⟨hx0, hx1, _⟩, hs2, hg2⟩
  have HN2 := Lib.hid (HN.out.draw hs2 hg2)
  clear hs2 hg2 hx1 HN
  go_upto_block 0 with (fail)
  go_cut [] (fun wx => ∃ (u l w : Int), kindAb ⟨u, l, w, []⟩ = true ∧ NwA W wx B g (k + 6) bs W.heap.size (W.heap.size + 1) (.int .i64 u) (.int .i64 l) (.int .i64 w) (.slice none 0 0) 0 (rodsC []))
  case first =>
    obtain ⟨⟨q0, q1, q2, q3⟩, f0, f1, f2, f3⟩ := blk4 HN2.out.hq
    by_cases e0 : x = 0
    · subst e0
      have HN3 := Lib.hid (HN2.out.anew (.int .i64 2) (.int .i64 5) (.int .i64 5))
      go_wp2_with fail
      go_meet
      exact ⟨2, 5, 5, by decide, HN3.out.more (by omega)⟩
    have b0 : (x == 0) = false := by simpa using e0
    by_cases e1 : x = 1
    · subst e1
      go_wp2_with fail
      refine (pick_any B g _ bs 2 _ HN2.out.src (by omega)).mono ?_; rintro e w3 ⟨y, rfl, ⟨hy0, hy1, _⟩, hs3, hg3⟩
      have HN3 := Lib.hid (HN2.out.draw hs3 hg3)
      have hy2 := hy1 (by omega)
      have hwy : IntKind.i64.wrap (9 + y) = 9 + y := IntWalk.i64_in _ (by omega)
      clear hs3 hg3 HN2 hy1 q0 q1 q2 q3 f0 f1 f2 f3
      go_wp2_with fail
      refine (pick_any B g _ bs 9 _ HN3.out.src (by omega)).mono ?_; rintro e w4 ⟨z, rfl, ⟨hz0, hz1, _⟩, hs4, hg4⟩
      have HN4 := Lib.hid (HN3.out.draw hs4 hg4)
      have hz2 := hz1 (by omega)
      have hwz : IntKind.i64.wrap (1 + z) = 1 + z := IntWalk.i64_in _ (by omega)
      clear hs4 hg4 HN3 hz1
      obtain ⟨⟨q0, q1, q2, q3⟩, f0, f1, f2, f3⟩ := blk4 HN4.out.hq
      have HN5 := Lib.hid (HN4.out.anew (.int .i64 0) (.int .i64 (9 + y)) (.int .i64 (1 + z)))
      go_wp2_with fail
      go_meet
      exact ⟨0, 9 + y, 1 + z, by unfold kindAb inB; simp; omega, HN5.out.more (by omega)⟩
    · have b1 : (x == 1) = false := by simpa using e1
      go_wp2_with fail
      go_meet
      exact ⟨1, 4, 5, by decide, HN2.out.more (by omega)⟩
  case rest =>
    obtain ⟨u, l, w, hkd, hnw⟩ := hcut
    have HK := Lib.hid hkd
    have HN3 := Lib.hid hnw
    clear hnw hkd HN2
    go_wp2_with fail
    refine (pick_any B g _ bs 6 _ HN3.out.src (by omega)).mono ?_; rintro e w4 ⟨y, rfl, ⟨hy0, hy1, _⟩, hs4, hg4⟩
    have HN4 := Lib.hid (HN3.out.draw hs4 hg4)
    have hy2 := hy1 (by omega)
    obtain ⟨K0, hK0⟩ : ∃ K0 : Nat, 1 + y = (K0 : Int) := ⟨(1 + y).toNat, by omega⟩
    have hwy : IntKind.i64.wrap (1 + y) = (K0 : Int) := (IntWalk.i64_in _ (by omega)).trans hK0
    have hK1 : 1 ≤ K0 ∧ K0 ≤ 6 := by omega
    clear hs4 hg4 HN3 hy1 hK0
    go_wp2_with fail
    clear hwy
    go_loopw [4] (fun i wr => ∃ (j : Nat) (rs : List (Int × Int)) (v : Value), rs.length + j = K0 ∧ i = .int .i64 (j : Int) ∧ NwA W wr B g (k + 8 + 4 * rs.length) bs W.heap.size (W.heap.size + 1) (.int .i64 u) (.int .i64 l) (.int .i64 w) v rs.length (rodsC rs)) (fun i _ => (intOf i).toNat)
    case atStart => exact ⟨K0, [], _, by simp, rfl, HN4.out⟩
    case round =>
      obtain ⟨j, rs, v, hj, rfl, hn⟩ := hrel
      have HN5 := Lib.hid hn
      clear hn HN4
      by_cases hj0 : j = 0
      · subst hj0
        have h1 : ¬ (0 : Int) < ((0 : Nat) : Int) := by omega
        have hjn : 1 ≤ rs.length ∧ rs.length ≤ 6 := by omega
        obtain ⟨gg, cc, rfl⟩ := ownsRow_form HN5.out.row (by omega)
        obtain ⟨u0, u4, l1, l12, w1', w10, _, _⟩ := kind_bd HK.out
        dsimp only at u0 u4 l1 l12 w1' w10
        have HND := Lib.hid (fun wx (hx : NwA W wx B g (k + 8 + 4 * rs.length + 2) bs W.heap.size (W.heap.size + 1) (.int .i64 u) (.int .i64 l) (.int .i64 w) (.slice (some ⟨gg, 0, none⟩) rs.length cc) rs.length (rodsC rs)) => hx.done)
        go_wp2_with fail
        refine (one_any B g _ bs 4 _ HN5.out.src (by omega)).mono ?_; rintro e w6 ⟨y4, rfl, hs6, hg6⟩
        have HN6 := Lib.hid (HN5.out.draw hs6 hg6)
        clear hs6 hg6 HN5 HND
        cases y4 with
        | false =>
          obtain ⟨⟨q0, q1, q2, q3⟩, _⟩ := blk4 HN6.out.hq
          obtain ⟨⟨r0, r1, r2, r3⟩, s0, s1, s2, s3⟩ := blk4 HN6.out.hr
          have HD := Lib.hid HN6.out.done
          go_wp2_with fail
          obtain ⟨⟨k0, k1, k2, k3⟩, hsz, hgz, hoz⟩ := HD.out
          refine bodyPost_ret (v := aggAb u l w (.slice (some ⟨gg, 0, none⟩) rs.length cc)) (by simp [results, Try.results135, go_sem, k0, k1, k2, k3]) rfl ?_
          exact ⟨⟨u, l, w, rs⟩, _, rfl, ⟨HK.out, by (try rw [List.length_set]); show 0 < rs.length; omega⟩, by show rs.length ≤ 11; (try rw [List.length_set]); omega, hoz, hsz.more (by omega), hgz⟩
        | true =>
          obtain ⟨⟨q0, q1, q2, q3⟩, _⟩ := blk4 HN6.out.hq
          go_wp2_with fail
          refine (pick_any B g _ bs (rs.length : Int) _ HN6.out.src (by omega)).mono ?_; rintro e w7 ⟨at', rfl, ⟨ha0, ha1, ha2⟩, hs7, hg7⟩
          have HN7 := Lib.hid (HN6.out.draw hs7 hg7)
          obtain ⟨m, rfl⟩ : ∃ m : Nat, at' = (m : Int) := ⟨at'.toNat, by omega⟩
          have hml : m < rs.length := by
            by_cases e : 1 < (rs.length : Int)
            · have := ha1 e; omega
            · have := ha2 (by omega); omega
          have hml2 : (m : Int) < (rs.length : Int) := by omega
          clear hs7 hg7 ha1 ha2 HN6 q0 q1 q2 q3
          obtain ⟨⟨q0, q1, q2, q3⟩, _⟩ := blk4 HN7.out.hq
          have hwu : IntKind.i64.wrap (u + 1) = u + 1 := IntWalk.i64_in _ (by omega)
          have hwl : IntKind.i64.wrap (l + 1) = l + 1 := IntWalk.i64_in _ (by omega)
          go_wp2_with fail
          refine wp_region_noPanic ?_
          refine wp_region_L [15] (fun w' => w'.cell? ⟨W.heap.size + 1, 0, none⟩ = some (.int .i64 u) ∧ w'.cell? ⟨W.heap.size + 1, 1, none⟩ = some (.int .i64 l) ∧ w'.cell? ⟨W.heap.size + 1, 3, none⟩ = some (.slice (some ⟨gg, 0, none⟩) rs.length cc)) (by kernel_rfl) (⟨q0, q1, q3⟩) (fun hHeld => ?_)
          refine take_F (i := 0) (d := some 47) (v := ?_) (by kernel_rfl) (by kernel_rfl) rfl rfl (by kernel_rfl) (by kernel_rfl) (by kernel_rfl) (fun _ _ _ h => h) (Or.inl ⟨by rfl, ?_⟩) (by assumption) ?_
          rotate_left
          · (intro w hSw; (try dsimp only at hSw); go_simp; (try rw [if_neg (by omega)]); (try (with_reducible rfl)))
          simp only [Act.put, List.setIfInBounds_toArray, List.set_cons_zero, List.set_cons_succ]
          refine take_L [1] (i := 1) (d := some 48) (v := ?_) (by kernel_rfl) (by kernel_rfl) (by kernel_rfl) (by kernel_rfl) rfl rfl (by kernel_rfl) (by kernel_rfl) (by kernel_rfl) (fun _ _ _ h => h) (Or.inl ⟨by rfl, ?_⟩) (by assumption) ?_
          rotate_left
          · (intro w hSw; (try dsimp only at hSw); go_simp; (try rw [if_neg (by omega)]); (try (with_reducible rfl)))
          simp only [Act.put, List.setIfInBounds_toArray, List.set_cons_zero, List.set_cons_succ]
          refine take_F (i := 2) (d := some 49) (v := ?_) (by kernel_rfl) (by kernel_rfl) rfl rfl (by kernel_rfl) (by kernel_rfl) (by kernel_rfl) (fun _ _ _ h => h) (Or.inl ⟨by rfl, ?_⟩) (by assumption) ?_
          rotate_left
          · (intro w hSw; (try dsimp only at hSw); go_simp; (try rw [if_neg (by omega)]); (try (with_reducible rfl)))
          simp only [Act.put, List.setIfInBounds_toArray, List.set_cons_zero, List.set_cons_succ]
          refine take_F (i := 3) (d := some 50) (v := ?_) (by kernel_rfl) (by kernel_rfl) rfl rfl (by kernel_rfl) (by kernel_rfl) (by kernel_rfl) (fun _ _ _ h => h) (Or.inl ⟨by rfl, ?_⟩) (by assumption) ?_
          rotate_left
          · (intro w hSw; (try dsimp only at hSw); go_simp; (try rw [if_neg (by omega)]); (try (with_reducible rfl)))
          simp only [Act.put, List.setIfInBounds_toArray, List.set_cons_zero, List.set_cons_succ]
          refine take_F (i := 4) (d := some 51) (v := ?_) (by kernel_rfl) (by kernel_rfl) rfl rfl (by kernel_rfl) (by kernel_rfl) (by kernel_rfl) (fun _ _ _ h => h) (Or.inl ⟨by rfl, ?_⟩) (by assumption) ?_
          rotate_left
          · (intro w hSw; (try dsimp only at hSw); go_simp; (try rw [if_neg (by omega)]); (try (with_reducible rfl)))
          simp only [Act.put, List.setIfInBounds_toArray, List.set_cons_zero, List.set_cons_succ]
          refine take_L [5] (i := 5) (d := some 52) (v := ?_) (by kernel_rfl) (by kernel_rfl) (by kernel_rfl) (by kernel_rfl) rfl rfl (by kernel_rfl) (by kernel_rfl) (by kernel_rfl) (fun _ _ _ h => h) (Or.inl ⟨by rfl, ?_⟩) (by assumption) ?_
          rotate_left
          · (intro w hSw; (try dsimp only at hSw); go_simp; (try rw [if_neg (by omega)]); (try (with_reducible rfl)))
          simp only [Act.put, List.setIfInBounds_toArray, List.set_cons_zero, List.set_cons_succ]
          refine take_F (i := 6) (d := some 53) (v := ?_) (by kernel_rfl) (by kernel_rfl) rfl rfl (by kernel_rfl) (by kernel_rfl) (by kernel_rfl) (fun _ _ _ h => h) (Or.inl ⟨by rfl, ?_⟩) (by assumption) ?_
          rotate_left
          · (intro w hSw; (try dsimp only at hSw); go_simp; (try rw [if_neg (by omega)]); (try (with_reducible rfl)))
          simp only [Act.put, List.setIfInBounds_toArray, List.set_cons_zero, List.set_cons_succ]
          refine take_F (i := 8) (d := some 55) (v := ?_) (by kernel_rfl) (by kernel_rfl) rfl rfl (by kernel_rfl) (by kernel_rfl) (by kernel_rfl) (fun _ _ _ h => h) (Or.inl ⟨by rfl, ?_⟩) (by assumption) ?_
          rotate_left
          · (intro w hSw; (try dsimp only at hSw); go_simp; (try rw [if_neg (by omega)]); (try (with_reducible rfl)))
          simp only [Act.put, List.setIfInBounds_toArray, List.set_cons_zero, List.set_cons_succ]
          refine take_F (i := 9) (d := some 56) (v := ?_) (by kernel_rfl) (by kernel_rfl) rfl rfl (by kernel_rfl) (by kernel_rfl) (by kernel_rfl) (fun _ _ _ h => h) (Or.inl ⟨by rfl, ?_⟩) (by assumption) ?_
          rotate_left
          · (intro w hSw; (try dsimp only at hSw); go_simp; (try rw [if_neg (by omega)]); (try (with_reducible rfl)))
          simp only [Act.put, List.setIfInBounds_toArray, List.set_cons_zero, List.set_cons_succ]
          refine take_L [10] (i := 10) (d := some 57) (v := ?_) (by kernel_rfl) (by kernel_rfl) (by kernel_rfl) (by kernel_rfl) rfl rfl (by kernel_rfl) (by kernel_rfl) (by kernel_rfl) (fun _ _ _ h => h) (Or.inl ⟨by rfl, ?_⟩) (by assumption) ?_
          rotate_left
          · (intro w hSw; (try dsimp only at hSw); go_simp; (try rw [if_neg (by omega)]); (try (with_reducible rfl)))
          simp only [Act.put, List.setIfInBounds_toArray, List.set_cons_zero, List.set_cons_succ]
          refine take_F (i := 11) (d := some 58) (v := ?_) (by kernel_rfl) (by kernel_rfl) rfl rfl (by kernel_rfl) (by kernel_rfl) (by kernel_rfl) (fun _ _ _ h => h) (Or.inl ⟨by rfl, ?_⟩) (by assumption) ?_
          rotate_left
          · (intro w hSw; (try dsimp only at hSw); go_simp; (try rw [if_neg (by omega)]); (try (with_reducible rfl)))
          simp only [Act.put, List.setIfInBounds_toArray, List.set_cons_zero, List.set_cons_succ]
          refine call_L (i := 7) (d := (some 54)) rfl rfl (by kernel_rfl) (fun Kq hKq => ?_)
          go_simp
          go_at_call 108
          refine (pick_any B g _ bs (u + 1) _ (SrcAt.drew HN7.out.src) (by omega)).mono ?_; rintro e w8 ⟨x0, rfl, ⟨x00, _, _⟩, hs8, hg8⟩
          have HN8 := Lib.hid (HN7.out.draw hs8 (grown_undrew hg8))
          clear hs8 hg8 q0 q1 q2 q3
          obtain ⟨⟨q0, q1, q2, q3⟩, _⟩ := blk4 HN8.out.hq
          (try go_wp2_with fail)
          refine hKq.out _ _ (⟨q0, q1, q3⟩) (fun hHeld => ?_)
          clear hKq Kq
          (try simp only [Act.put, List.setIfInBounds_toArray, List.set_cons_zero, List.set_cons_succ])
          refine call_L (i := 12) (d := (some 59)) rfl rfl (by kernel_rfl) (fun Kq hKq => ?_)
          go_simp
          go_at_call 108
          refine (pick_any B g _ bs (l + 1) _ HN8.out.src (by omega)).mono ?_; rintro e w9 ⟨x1, rfl, ⟨x10, _, _⟩, hs9, hg9⟩
          have HN9 := Lib.hid (HN8.out.draw hs9 hg9)
          clear hs9 hg9 q0 q1 q2 q3
          obtain ⟨⟨q0, q1, q2, q3⟩, _⟩ := blk4 HN9.out.hq
          have hlc := rodsC_len rs
          obtain ⟨_, o0, f0⟩ := own_put HN9.out.row (m * 2) (by omega) undef
          obtain ⟨_, o1, f1⟩ := own_put HN9.out.row (m * 2 + 1) (by omega) undef
          have HNp := Lib.hid ((HN9.out.put (m * 2) (by omega) (.int .i64 x0)).put (m * 2 + 1) (by rw [List.length_set]; omega) (.int .i64 x1))
          rw [rodsC_set] at HNp
          (try go_wp2_with fail)
          refine hKq.out _ _ (⟨q0, q1, q3⟩) (fun hHeld => ?_)
          clear hKq Kq
          (try simp only [Act.put, List.setIfInBounds_toArray, List.set_cons_zero, List.set_cons_succ])
          refine take_F (i := 13) (d := some 60) (v := ?_) (by kernel_rfl) (by kernel_rfl) rfl rfl (by kernel_rfl) (by kernel_rfl) (by kernel_rfl) (fun _ _ _ h => h) (Or.inl ⟨by rfl, ?_⟩) (by assumption) ?_
          rotate_left
          · (intro w hSw; (try dsimp only at hSw); go_simp; (try rw [if_neg (by omega)]); (try (with_reducible rfl)))
          simp only [Act.put, List.setIfInBounds_toArray, List.set_cons_zero, List.set_cons_succ]
          refine take_F (i := 14) (d := some 61) (v := ?_) (by kernel_rfl) (by kernel_rfl) rfl rfl (by kernel_rfl) (by kernel_rfl) (by kernel_rfl) (fun _ _ _ h => h) (Or.inl ⟨by rfl, ?_⟩) (by assumption) ?_
          rotate_left
          · (intro w hSw; (try dsimp only at hSw); go_simp; (try rw [if_neg (by omega)]); (try (with_reducible rfl)))
          simp only [Act.put, List.setIfInBounds_toArray, List.set_cons_zero, List.set_cons_succ]
          refine late_L (i := 15) (d := none) (by kernel_rfl) rfl rfl (by kernel_rfl) (fun Kq hKq => ?_)
          go_simp
          refine hKq.out _ _ ?_
          clear hKq Kq
          refine done_L (by kernel_rfl) ?_ _
          refine NoPanic.normal ?_
          clear q0 q1 q2 q3 o0 o1 f0 f1 HN7 HN8 HN9
          obtain ⟨⟨q0, q1, q2, q3⟩, _⟩ := blk4 HNp.out.hq
          obtain ⟨⟨r0, r1, r2, r3⟩, s0, s1, s2, s3⟩ := blk4 HNp.out.hr
          have HD := Lib.hid HNp.out.done
          go_wp2_with fail
          obtain ⟨⟨k0, k1, k2, k3⟩, hsz, hgz, hoz⟩ := HD.out
          refine bodyPost_ret (v := aggAb u l w (.slice (some ⟨gg, 0, none⟩) rs.length cc)) (by simp [results, Try.results135, go_sem, k0, k1, k2, k3]) rfl ?_
          exact ⟨⟨u, l, w, (rs.set m (x0, x1))⟩, _, rfl, ⟨HK.out, by (try rw [List.length_set]); show 0 < rs.length; omega⟩, by show (rs.set m (x0, x1)).length ≤ 11; (try rw [List.length_set]); omega, by show World.ownsRow _ _ _ _ _ (rs.set m (x0, x1)).length _; rw [List.length_set]; exact hoz, hsz.more (by omega), hgz⟩
      · obtain ⟨i, rfl⟩ : ∃ i : Nat, j = i + 1 := ⟨j - 1, by omega⟩
        have h1 : (0 : Int) < ((i + 1 : Nat) : Int) := by omega
        have hwi : IntKind.i64.wrap (((i + 1 : Nat) : Int) - 1) = (i : Int) := (IntWalk.i64_in _ (by omega)).trans (by omega)
        go_wp2_with fail
        refine (pick_any B g _ bs 10 _ HN5.out.src (by omega)).mono ?_; rintro e w6 ⟨d, rfl, ⟨d0, d1, _⟩, hs6, hg6⟩
        have HN6 := Lib.hid (HN5.out.draw hs6 hg6)
        have d9 := d1 (by omega)
        clear hs6 hg6 HN5 d1
        go_wp2_with fail
        refine (one_any B g _ bs 3 _ HN6.out.src (by omega)).mono ?_; rintro e w7 ⟨y3, rfl, hs7, hg7⟩
        have HN7 := Lib.hid ((HN6.out.draw hs7 hg7).more (k' := k + 8 + 4 * rs.length + 4) (by omega))
        clear hs7 hg7 HN6
        go_upto_if 32 with (fail)
        go_cut [5] (fun s5 wx => ∃ d' : Int, s5 = .int .i64 d' ∧ (0 ≤ d' ∧ d' ≤ 9) ∧ NwA W wx B g (k + 8 + 4 * rs.length + 4) bs W.heap.size (W.heap.size + 1) (.int .i64 u) (.int .i64 l) (.int .i64 w) v rs.length (rodsC rs))
        case first =>
          cases y3 with
          | true =>
            go_wp2_with fail
            go_meet
            exact ⟨9, rfl, by omega, HN7.out⟩
          | false =>
            go_wp2_with fail
            go_meet
            exact ⟨d, rfl, by omega, HN7.out⟩
        case rest =>
          obtain ⟨d', rfl, ⟨e0, e9⟩, hn7⟩ := hcut
          clear HN7
          have HN7 := Lib.hid hn7
          clear hn7
          obtain ⟨A, c, rfl⟩ := own_sl HN7.out.row
          obtain ⟨⟨q0, q1, q2, q3⟩, _⟩ := blk4 HN7.out.hq
          rename World => w7
          have HC := Lib.hid (l03Digit_any (W.heap.size + 1) u l w d' (.slice A rs.length c) [] w7.drew ⟨q0, q1, q2, q3⟩ HK.out e0 e9)
          have hlr : rs.length < 6 := by omega
          have hmx : rs.length + 1 ≤ maxLen := by simp [maxLen]; omega
          have hby : (rs.length + 1) * 16 ≤ 140737488355328 := by omega
          generalize plainRodA u w d' = x at *
          obtain ⟨x0, x1⟩ := x
          go_wp2_with fail
          refine wp_region_noPanic ?_
          refine wp_region_L [7,6,5] (fun w' => w'.cell? ⟨W.heap.size + 1, 3, none⟩ = some (.slice A rs.length c)) (by kernel_rfl) (q3) (fun hHeld => ?_)
          refine take_F (i := 0) (d := some 33) (v := ?_) (by kernel_rfl) (by kernel_rfl) rfl rfl (by kernel_rfl) (by kernel_rfl) (by kernel_rfl) (fun _ _ _ h => h) (Or.inl ⟨by rfl, ?_⟩) (by assumption) ?_
          rotate_left
          · (intro w hSw; (try dsimp only at hSw); go_simp; (try rw [if_neg (by omega)]); (try (with_reducible rfl)))
          simp only [Act.put, List.setIfInBounds_toArray, List.set_cons_zero, List.set_cons_succ]
          refine take_L [1] (i := 1) (d := some 34) (v := ?_) (by kernel_rfl) (by kernel_rfl) (by kernel_rfl) (by kernel_rfl) rfl rfl (by kernel_rfl) (by kernel_rfl) (by kernel_rfl) (fun _ _ _ h => h) (Or.inl ⟨by rfl, ?_⟩) (by assumption) ?_
          rotate_left
          · (intro w hSw; (try dsimp only at hSw); go_simp; (try rw [if_neg (by omega)]); (try (with_reducible rfl)))
          simp only [Act.put, List.setIfInBounds_toArray, List.set_cons_zero, List.set_cons_succ]
          refine take_F (i := 2) (d := some 35) (v := ?_) (by kernel_rfl) (by kernel_rfl) rfl rfl (by kernel_rfl) (by kernel_rfl) (by kernel_rfl) (fun _ _ _ h => h) (Or.inl ⟨by rfl, ?_⟩) (by assumption) ?_
          rotate_left
          · (intro w hSw; (try dsimp only at hSw); go_simp; (try rw [if_neg (by omega)]); (try (with_reducible rfl)))
          simp only [Act.put, List.setIfInBounds_toArray, List.set_cons_zero, List.set_cons_succ]
          refine call_L (i := 3) (d := (some 36)) rfl rfl (by kernel_rfl) (fun Kq hKq => ?_)
          go_simp
          go_at_call 201
          refine HC.out.mono ?_; rintro e w8 ⟨rfl, hb8⟩
          have HN8 := Lib.hid (HN7.out.below (below_undrew hb8))
          clear hb8 q0 q1 q2 q3
          obtain ⟨⟨q0, q1, q2, q3⟩, _⟩ := blk4 HN8.out.hq
          have hbm := (Below.refl w8.heap.size w8).alloc (Nat.le_refl _) (.cells #[.int .i64 x0, .int .i64 x1] 143)
          have HN9 := Lib.hid (HN8.out.below hbm)
          have q9 := (blk4 HN9.out.hq).1.2.2.2
          have hsz9 := HN8.out.gr.size
          have Hrow := Lib.hid HN8.out.row
          have Hgl := Lib.hid (fun (v' : Value) (w' : World) (ho : w'.ownsRow W.heap.size 143 2 v' (rs.length + 1) (rodsC rs ++ #[Value.int .i64 x0, .int .i64 x1].toList)) hg => HN8.out.app ho hg)
          clear hbm
          (try go_wp2_with fail)
          refine hKq.out _ _ (q3) (fun hHeld => ?_)
          clear hKq Kq
          (try simp only [Act.put, List.setIfInBounds_toArray, List.set_cons_zero, List.set_cons_succ])
          refine call_L (i := 4) (d := (some 37)) rfl rfl (by kernel_rfl) (fun Kq hKq => ?_)
          go_simp
          refine hKq.out _ _ (q9) (fun hHeld => ?_)
          clear hKq Kq
          (try simp only [Act.put, List.setIfInBounds_toArray, List.set_cons_zero, List.set_cons_succ])
          refine late_L (i := 5) (d := (some 38)) (by kernel_rfl) rfl rfl (by kernel_rfl) (fun Kq hKq => ?_)
          refine step_apd0 50 143 _ 2 16 Try.underlying50 infoRod rfl (by omega) _ _ (by rfl) (by rfl) W.heap.size _ rs.length _ (by rfl) Hrow.out #[.int .i64 x0, .int .i64 x1] 1 1 (by rfl) (by rfl) (by simp [Value.oneCell']) hmx hby hsz9 ?_; intro v10 w10 hown10 hg10
          have HN10 := Lib.hid (Hgl.out v10 w10 hown10 hg10)
          have hq10 := (hg10.block _ (blk_ltN HN8.out.hq) (fun e => (HN8.out.row_lt _ e.symm).2.2 rfl)).trans HN8.out.hq
          obtain ⟨A10, c10, rfl⟩ := own_sl hown10
          clear q0 q1 q2 q3 q9 hown10 hg10 HN9 HN8 HN7 Hrow Hgl
          obtain ⟨⟨q0, q1, q2, q3⟩, f0, f1, f2, f3⟩ := blk4 hq10
          clear hq10
          refine hKq.out _ _ ?_
          clear hKq Kq
          simp only [Act.put, List.setIfInBounds_toArray]
          refine late_L (i := 6) (d := (some 39)) (by kernel_rfl) rfl rfl (by kernel_rfl) (fun Kq hKq => ?_)
          go_simp
          refine hKq.out _ _ ?_
          clear hKq Kq
          refine late_L (i := 7) (d := none) (by kernel_rfl) rfl rfl (by kernel_rfl) (fun Kq hKq => ?_)
          go_simp
          refine hKq.out _ _ ?_
          clear hKq Kq
          refine done_L (by kernel_rfl) ?_ _
          refine NoPanic.normal ?_
          (try go_wp2_with fail)
          go_roundw
          case rel => exact ⟨i, rs ++ [(x0, x1)], _, by rw [List.length_append]; show rs.length + 1 + i = K0; omega, rfl, by rw [List.length_append, rodsC_snoc]; exact HN10.out.more (by show _ ≤ k + 8 + 4 * (rs.length + 1); omega)⟩
          case measure => first | (simp [intOf]; done) | (simp [intOf]; omega)
end Go.Proofs.Ythemffbkkhaaoaa
/- Abaci that are drawn: l03Bent, values. -/
namespace Go.Proofs.Ythemffbkkhaaoaa
open Go.RowKit Go.Joins

theorem NwA.of {W w : World} {B g k r : Nat} {bs : List UInt8} {a b c v : Value} {n : Nat} {cs : List Value} (hlt : g < W.heap.size) (hs : SrcAt w B g k bs) (hg : W.grownBy w (some g)) (hr : w.heap[r]? = some (.cells #[.int .i64 0, .int .i64 0, .int .i64 0, .slice none 0 0] 52 (0, 0))) (lr : W.heap.size ≤ r) (ho : w.ownsRow W.heap.size 143 2 v n cs) :
    NwA W (w.alloc (.cells #[a, b, c, v] 52)) B g k bs r w.heap.size a b c v n cs := by
  have hb := (Below.refl w.heap.size w).alloc (Nat.le_refl _) (.cells #[a, b, c, v] 52)
  exact ⟨hlt, hs.below hb, grown_below hg hb, (hb.block _ (blk_ltN hr)).trans hr, heap_alloc_new w _, own_below ho hb, lr, blk_ltN hr⟩
theorem made10 : (madeCells (Value.agg #[.int .i64 0, .int .i64 0]).cells (10 * 2)).toList = rodsC (List.replicate 10 (0, 0)) := by kernel_rfl
theorem made11 : (madeCells (Value.agg #[.int .i64 0, .int .i64 0]).cells (11 * 2)).toList = rodsC (List.replicate 11 (0, 0)) := by kernel_rfl
/-- the row is a new one -/
theorem NwA.anewRow {W w w' : World} {B g k r q : Nat} {bs : List UInt8} {a b c v : Value} {n : Nat} {cs : List Value} (h : NwA W w B g k bs r q a b c v n cs) {v' : Value} {n' : Nat} {cs' : List Value} (hrow : w'.ownsRow W.heap.size 143 2 v' n' cs') (hg : w.grownBy w' none) : NwA W (w'.setCell ⟨q, 3, none⟩ v') B g k bs r q a b c v' n' cs' := by
  have hb : Below w.heap.size w w' := below_of_grown hg (Nat.le_refl _) (fun x hx => by cases hx)
  exact (h.below hb).set 3 v' a b c v' rfl hrow
theorem among_ind (B g k m : Nat) (l : List Int) (bs : List UInt8) (w : World) (h : SrcAt w B g k bs) (hk : k < 4611686018427387800) (hm : l.length = m) (hm2 : 2 ≤ m) (hm3 : m ≤ 200) :
    Calls Try.prog 149 #[.pointer (some ⟨g, 0, none⟩), .slice (some ⟨w.heap.size, 0, none⟩) m m] (w.alloc (.cells (l.map (Value.int .i64)).toArray 2)).drew fun e w' => ∃ x : Int, x ∈ l ∧ e = .returned (.int .i64 x) ∧ SrcAt w' B g (k + 2) bs ∧ w.grownBy w' (some g) := by
  have := among_in B g k m l bs w.drew (SrcAt.drew h) hk hm hm2 hm3
  refine Calls.mono ?_ (fun e w' (h : ∃ x : Int, x ∈ l ∧ e = .returned (.int .i64 x) ∧ SrcAt w' B g (k + 2) bs ∧ w.drew.grownBy w' (some g)) => by obtain ⟨x, h1, h2, h3, h4⟩ := h; exact ⟨x, h1, h2, h3, grown_undrew h4⟩)
  exact this
set_option maxRecDepth 100000 in
set_option maxHeartbeats 6400000 in
theorem l03Bent_any (B g k : Nat) (bs : List UInt8) (W : World) (hs : SrcAt W B g k bs) (hk : k < 4611686018427370000) : Calls Try.prog 124 #[.pointer (some ⟨g, 0, none⟩)] W (RetDa W B g (k + 70) bs (fun _ => True)) := by
  have hlt := hs.lt
  have hb0 := (Below.refl W.heap.size W).alloc (Nat.le_refl _) objZ
  have H0 := Lib.hid (hs.below hb0)
  have Hr0 := Lib.hid (heap_alloc_new W (.cells #[.int .i64 0, .int .i64 0, .int .i64 0, .slice none 0 0] 52))
  have Hg0 := Lib.hid (grown_of_below hb0 (some g))
  have hz0 := size_alloc1 W objZ
  clear hb0 hs
  go_enter Try.func124, Try.ntmps124
  go_wp2_with fail
  generalize W.alloc objZ = w1 at *
  refine (l03Draw_any B g _ bs w1 H0.out (by omega)).mono ?_; rintro e w2 ⟨⟨u, l, w, rs⟩, v, rfl, ⟨hkd, hln⟩, hl11, ho2, hs2, hg2⟩
  have HN2 := Lib.hid (NwA.of (a := .int .i64 u) (b := .int .i64 l) (c := .int .i64 w) hlt hs2 (grown_trans Hg0.out hg2) ((hg2.block W.heap.size (by omega) (fun e => by injection e; omega)).trans Hr0.out) (Nat.le_refl _) (ownsRow_le ho2 (by omega)))
  obtain ⟨u0, u4, l1, l12, w1', w10, _, _⟩ := kind_bd hkd
  dsimp only at u0 u4 l1 l12 w1' w10 hln hl11
  obtain ⟨gg, cc, rfl⟩ := ownsRow_form ho2 hln
  clear ho2 hs2 hg2 H0 Hr0 Hg0 hkd
  go_upto_region 2 with (fail)
  have hqN := HN2.out.rq
  generalize w2.heap.size = q at *
  generalize w2.alloc (.cells #[.int .i64 u, .int .i64 l, .int .i64 w, .slice (some ⟨gg, 0, none⟩) rs.length cc] 52) = w3 at *
  go_wp2_with fail
  refine (pick_any B g _ bs 24 w3 HN2.out.src (by omega)).mono ?_; rintro e w4 ⟨x, rfl, ⟨hx0, hx1, _⟩, hs4, hg4⟩
  have HN4 := Lib.hid (HN2.out.draw hs4 hg4)
  clear hs4 hg4 hx1 HN2
  go_upto_block 0 with (fail)
  go_cut [] (fun wx => ∃ (u l w : Int) (v : Value) (rs : List (Int × Int)), rs.length ≤ 11 ∧ NwA W wx B g (k + 70) bs W.heap.size q (.int .i64 u) (.int .i64 l) (.int .i64 w) v rs.length (rodsC rs))
  case first =>
    by_cases e0 : x = 0
    · subst e0
      go_wp2_with fail
      refine (among_in B g _ 5 [-1, 0, 4, 5, 9223372036854775807] bs w4 HN4.out.src (by omega) rfl (by omega) (by omega)).mono ?_; rintro e w5 ⟨z, _, rfl, hs5, hg5⟩
      have HN5 := Lib.hid (HN4.out.draw hs5 hg5)
      obtain ⟨⟨q0, q1, q2, q3⟩, f0, f1, f2, f3⟩ := blk4 HN5.out.hq
      have HN6 := Lib.hid (HN5.out.set 0 (.int .i64 z) (.int .i64 z) _ _ _ rfl HN5.out.row)
      clear hs5 hg5 HN4
      go_wp2_with fail
      go_meet
      exact ⟨z, l, w, _, rs, hl11, HN6.out.more (by omega)⟩
    have b0 : (x == 0) = false := by simpa using e0
    by_cases e1 : x = 1
    · subst e1
      go_wp2_with fail
      refine (among_in B g _ 5 [0, 1, 12, 13, -9223372036854775808] bs w4 HN4.out.src (by omega) rfl (by omega) (by omega)).mono ?_; rintro e w5 ⟨z, _, rfl, hs5, hg5⟩
      have HN5 := Lib.hid (HN4.out.draw hs5 hg5)
      obtain ⟨⟨q0, q1, q2, q3⟩, f0, f1, f2, f3⟩ := blk4 HN5.out.hq
      have HN6 := Lib.hid (HN5.out.set 1 (.int .i64 z) _ (.int .i64 z) _ _ rfl HN5.out.row)
      clear hs5 hg5 HN4
      go_wp2_with fail
      go_meet
      exact ⟨u, z, w, _, rs, hl11, HN6.out.more (by omega)⟩
    have b1 : (x == 1) = false := by simpa using e1
    by_cases e2 : x = 2
    · subst e2
      go_wp2_with fail
      refine (among_in B g _ 5 [0, 1, 10, 11, -9223372036854775808] bs w4 HN4.out.src (by omega) rfl (by omega) (by omega)).mono ?_; rintro e w5 ⟨z, _, rfl, hs5, hg5⟩
      have HN5 := Lib.hid (HN4.out.draw hs5 hg5)
      obtain ⟨⟨q0, q1, q2, q3⟩, f0, f1, f2, f3⟩ := blk4 HN5.out.hq
      have HN6 := Lib.hid (HN5.out.set 2 (.int .i64 z) _ _ (.int .i64 z) _ rfl HN5.out.row)
      clear hs5 hg5 HN4
      go_wp2_with fail
      go_meet
      exact ⟨u, l, z, _, rs, hl11, HN6.out.more (by omega)⟩
    have b2 : (x == 2) = false := by simpa using e2
    by_cases e3 : x = 3
    · subst e3
      obtain ⟨⟨q0, q1, q2, q3⟩, _⟩ := blk4 HN4.out.hq
      have hwl : IntKind.i64.wrap (l + 1) = l + 1 := IntWalk.i64_in _ (by omega)
      have hln' : (0 : Int) < (rs.length : Int) := by omega
      go_wp2_with fail
      refine wp_region_noPanic ?_
      refine wp_region_L [12] (fun w' => w'.cell? ⟨q, 1, none⟩ = some (.int .i64 l) ∧ w'.cell? ⟨q, 3, none⟩ = some (.slice (some ⟨gg, 0, none⟩) rs.length cc)) (by kernel_rfl) (⟨q1, q3⟩) (fun hHeld => ?_)
      refine take_F (i := 0) (d := some 28) (v := ?_) (by kernel_rfl) (by kernel_rfl) rfl rfl (by kernel_rfl) (by kernel_rfl) (by kernel_rfl) (fun _ _ _ h => h) (Or.inl ⟨by rfl, ?_⟩) (by assumption) ?_
      rotate_left
      · (intro w hSw; (try dsimp only at hSw); go_simp; (try rw [if_neg (by omega)]); (try (with_reducible rfl)))
      simp only [Act.put, List.setIfInBounds_toArray, List.set_cons_zero, List.set_cons_succ]
      refine take_L [1] (i := 1) (d := some 29) (v := ?_) (by kernel_rfl) (by kernel_rfl) (by kernel_rfl) (by kernel_rfl) rfl rfl (by kernel_rfl) (by kernel_rfl) (by kernel_rfl) (fun _ _ _ h => h) (Or.inl ⟨by rfl, ?_⟩) (by assumption) ?_
      rotate_left
      · (intro w hSw; (try dsimp only at hSw); go_simp; (try rw [if_neg (by omega)]); (try (with_reducible rfl)))
      simp only [Act.put, List.setIfInBounds_toArray, List.set_cons_zero, List.set_cons_succ]
      refine take_F (i := 2) (d := some 30) (v := ?_) (by kernel_rfl) (by kernel_rfl) rfl rfl (by kernel_rfl) (by kernel_rfl) (by kernel_rfl) (fun _ _ _ h => h) (Or.inl ⟨by rfl, ?_⟩) (by assumption) ?_
      rotate_left
      · (intro w hSw; (try dsimp only at hSw); go_simp; (try rw [if_neg (by omega)]); (try (with_reducible rfl)))
      simp only [Act.put, List.setIfInBounds_toArray, List.set_cons_zero, List.set_cons_succ]
      refine take_F (i := 3) (d := some 31) (v := ?_) (by kernel_rfl) (by kernel_rfl) rfl rfl (by kernel_rfl) (by kernel_rfl) (by kernel_rfl) (fun _ _ _ h => h) (Or.inl ⟨by rfl, ?_⟩) (by assumption) ?_
      rotate_left
      · (intro w hSw; (try dsimp only at hSw); go_simp; (try rw [if_neg (by omega)]); (try (with_reducible rfl)))
      simp only [Act.put, List.setIfInBounds_toArray, List.set_cons_zero, List.set_cons_succ]
      refine take_L [4] (i := 4) (d := some 32) (v := ?_) (by kernel_rfl) (by kernel_rfl) (by kernel_rfl) (by kernel_rfl) rfl rfl (by kernel_rfl) (by kernel_rfl) (by kernel_rfl) (fun _ _ _ h => h) (Or.inl ⟨by rfl, ?_⟩) (by assumption) ?_
      rotate_left
      · (intro w hSw; (try dsimp only at hSw); go_simp; (try rw [if_neg (by omega)]); (try (with_reducible rfl)))
      simp only [Act.put, List.setIfInBounds_toArray, List.set_cons_zero, List.set_cons_succ]
      refine take_F (i := 5) (d := some 33) (v := ?_) (by kernel_rfl) (by kernel_rfl) rfl rfl (by kernel_rfl) (by kernel_rfl) (by kernel_rfl) (fun _ _ _ h => h) (Or.inl ⟨by rfl, ?_⟩) (by assumption) ?_
      rotate_left
      · (intro w hSw; (try dsimp only at hSw); go_simp; (try rw [if_neg (by omega)]); (try (with_reducible rfl)))
      simp only [Act.put, List.setIfInBounds_toArray, List.set_cons_zero, List.set_cons_succ]
      refine take_L [6] (i := 6) (d := some 34) (v := ?_) (by kernel_rfl) (by kernel_rfl) (by kernel_rfl) (by kernel_rfl) rfl rfl (by kernel_rfl) (by kernel_rfl) (by kernel_rfl) (fun _ _ _ h => h) (Or.inl ⟨by rfl, ?_⟩) (by assumption) ?_
      rotate_left
      · (intro w hSw; (try dsimp only at hSw); go_simp; (try rw [if_neg (by omega)]); (try (with_reducible rfl)))
      simp only [Act.put, List.setIfInBounds_toArray, List.set_cons_zero, List.set_cons_succ]
      refine take_F (i := 7) (d := some 35) (v := ?_) (by kernel_rfl) (by kernel_rfl) rfl rfl (by kernel_rfl) (by kernel_rfl) (by kernel_rfl) (fun _ _ _ h => h) (Or.inl ⟨by rfl, ?_⟩) (by assumption) ?_
      rotate_left
      · (intro w hSw; (try dsimp only at hSw); go_simp; (try rw [if_neg (by omega)]); (try (with_reducible rfl)))
      simp only [Act.put, List.setIfInBounds_toArray, List.set_cons_zero, List.set_cons_succ]
      have hbm := (Below.refl w4.heap.size w4).alloc (Nat.le_refl _) (.cells #[.int .i64 (-1), .int .i64 l, .int .i64 (l + 1)] 2)
      have HNa := Lib.hid (HN4.out.below hbm)
      have qa := (blk4 HNa.out.hq).1
      have HAm := Lib.hid (among_ind B g _ 3 [-1, l, l + 1] bs w4 HN4.out.src (by omega) rfl (by omega) (by omega))
      clear hbm
      refine call_L (i := 8) (d := (some 36)) rfl rfl (by kernel_rfl) (fun Kq hKq => ?_)
      go_simp
      refine hKq.out _ _ (⟨qa.2.1, qa.2.2.2⟩) (fun hHeld => ?_)
      clear hKq Kq
      (try simp only [Act.put, List.setIfInBounds_toArray, List.set_cons_zero, List.set_cons_succ])
      refine call_L (i := 9) (d := (some 37)) rfl rfl (by kernel_rfl) (fun Kq hKq => ?_)
      go_simp
      go_at_call 149
      refine HAm.out.mono ?_; rintro e w5 ⟨z, _, rfl, hs5, hg5⟩
      have HN5 := Lib.hid (HN4.out.draw hs5 hg5)
      have q5 := (blk4 HN5.out.hq).1
      have hlc := rodsC_len rs
      obtain ⟨_, o1, f1⟩ := own_put HN5.out.row 1 (by omega) undef
      have HNp := Lib.hid (HN5.out.put 1 (by omega) (.int .i64 z))
      clear hs5 hg5 qa q0 q1 q2 q3
      (try go_wp2_with fail)
      refine hKq.out _ _ (⟨q5.2.1, q5.2.2.2⟩) (fun hHeld => ?_)
      clear hKq Kq
      (try simp only [Act.put, List.setIfInBounds_toArray, List.set_cons_zero, List.set_cons_succ])
      refine take_F (i := 10) (d := some 38) (v := ?_) (by kernel_rfl) (by kernel_rfl) rfl rfl (by kernel_rfl) (by kernel_rfl) (by kernel_rfl) (fun _ _ _ h => h) (Or.inl ⟨by rfl, ?_⟩) (by assumption) ?_
      rotate_left
      · (intro w hSw; (try dsimp only at hSw); go_simp; (try rw [if_neg (by omega)]); (try (with_reducible rfl)))
      simp only [Act.put, List.setIfInBounds_toArray, List.set_cons_zero, List.set_cons_succ]
      refine take_F (i := 11) (d := some 39) (v := ?_) (by kernel_rfl) (by kernel_rfl) rfl rfl (by kernel_rfl) (by kernel_rfl) (by kernel_rfl) (fun _ _ _ h => h) (Or.inl ⟨by rfl, ?_⟩) (by assumption) ?_
      rotate_left
      · (intro w hSw; (try dsimp only at hSw); go_simp; (try rw [if_neg (by omega)]); (try (with_reducible rfl)))
      simp only [Act.put, List.setIfInBounds_toArray, List.set_cons_zero, List.set_cons_succ]
      refine late_L (i := 12) (d := none) (by kernel_rfl) rfl rfl (by kernel_rfl) (fun Kq hKq => ?_)
      go_simp
      refine hKq.out _ _ ?_
      clear hKq Kq
      refine done_L (by kernel_rfl) ?_ _
      refine NoPanic.normal ?_
      (try go_wp2_with fail)
      go_meet
      cases rs with
      | nil => exact absurd hln (by simp)
      | cons r0 rs =>
        exact ⟨u, l, w, _, (r0.1, z) :: rs, hl11, by have := HNp.out.more (k' := k + 70) (by omega); exact this⟩
    have b3 : (x == 3) = false := by simpa using e3
    by_cases e4 : x = 4
    · subst e4
      go_wp2_with fail
      refine (pick_any B g _ bs 2 w4 HN4.out.src (by omega)).mono ?_; rintro e w5 ⟨y, rfl, ⟨hy0, hy1, _⟩, hs5, hg5⟩
      have HN5 := Lib.hid (HN4.out.draw hs5 hg5)
      have hy2 := hy1 (by omega)
      obtain ⟨⟨q0, q1, q2, q3⟩, f0, f1, f2, f3⟩ := blk4 HN5.out.hq
      obtain ⟨iB, hiB, hzB, hsB, hyB⟩ := info_parts infoRod
      have hsz5 := HN5.out.gr.size
      clear hs5 hg5 HN4 hy1
      rcases (show y = 0 ∨ y = 1 by omega) with rfl | rfl
      · go_wp2_with (at_make; refine wpList_make_full _ rfl _ _ 50 rfl W.heap.size 143 iB (.agg #[.int .i64 0, .int .i64 0]) 2 Try.underlying50 hiB hzB hsB .i64 .i64 _ _ 10 rfl rfl rfl rfl (by rw [hyB]; omega) (by simp [maxLen]) hsz5 ?_; intro w6 ho6 hg6; rw [made10] at ho6; have HN6 := Lib.hid (HN5.out.anewRow ho6 hg6); have hq6 := (hg6.block _ (blk_ltN HN5.out.hq) (by simp)).trans HN5.out.hq; clear q0 q1 q2 q3 f0 f1 f2 f3 ho6 hg6; obtain ⟨⟨q0, q1, q2, q3⟩, f0, f1, f2, f3⟩ := blk4 hq6; clear hq6)
        go_meet
        exact ⟨u, l, w, _, List.replicate 10 (0, 0), by simp, HN6.out.more (by omega)⟩
      · go_wp2_with (at_make; refine wpList_make_full _ rfl _ _ 50 rfl W.heap.size 143 iB (.agg #[.int .i64 0, .int .i64 0]) 2 Try.underlying50 hiB hzB hsB .i64 .i64 _ _ 11 rfl rfl rfl rfl (by rw [hyB]; omega) (by simp [maxLen]) hsz5 ?_; intro w6 ho6 hg6; rw [made11] at ho6; have HN6 := Lib.hid (HN5.out.anewRow ho6 hg6); have hq6 := (hg6.block _ (blk_ltN HN5.out.hq) (by simp)).trans HN5.out.hq; clear q0 q1 q2 q3 f0 f1 f2 f3 ho6 hg6; obtain ⟨⟨q0, q1, q2, q3⟩, f0, f1, f2, f3⟩ := blk4 hq6; clear hq6)
        go_meet
        exact ⟨u, l, w, _, List.replicate 11 (0, 0), by simp, HN6.out.more (by omega)⟩
    have b4 : (x == 4) = false := by simpa using e4
    by_cases e5 : x = 5
    · subst e5
      have hbm := (Below.refl w4.heap.size w4).alloc (Nat.le_refl _) (.cells #[] 143)
      have ho0 := World.ownsRow_made (base := W.heap.size) (e := 143) (size := 2) w4 #[] 0 HN4.out.gr.size (by simp [maxLen]) rfl
      have HNa := Lib.hid (HN4.out.below hbm)
      have HNr := Lib.hid (HN4.out.anewRow ho0 (grown_of_below hbm none))
      obtain ⟨⟨q0, q1, q2, q3⟩, f0, f1, f2, f3⟩ := blk4 HNa.out.hq
      clear hbm ho0 HN4
      go_wp2_with fail
      go_meet
      exact ⟨u, l, w, _, [], by simp, HNr.out.more (by omega)⟩
    · have b5 : (x == 5) = false := by simpa using e5
      go_wp2_with fail
      go_meet
      exact ⟨u, l, w, _, rs, hl11, HN4.out.more (by omega)⟩
  case rest =>
    obtain ⟨u, l, w, v, rs, hl, hn⟩ := hcut
    have HN5 := Lib.hid hn
    obtain ⟨A, c, rfl⟩ := own_sl hn.row
    clear hn HN4
    obtain ⟨⟨q0, q1, q2, q3⟩, _⟩ := blk4 HN5.out.hq
    obtain ⟨⟨r0, r1, r2, r3⟩, s0, s1, s2, s3⟩ := blk4 HN5.out.hr
    have HD := Lib.hid HN5.out.done
    go_wp2_with fail
    obtain ⟨⟨k0, k1, k2, k3⟩, hsz, hgz, hoz⟩ := HD.out
    refine bodyPost_ret (v := aggAb u l w (.slice A rs.length c)) (by simp [results, Try.results124, go_sem, k0, k1, k2, k3]) rfl ?_
    exact ⟨⟨u, l, w, rs⟩, _, rfl, trivial, hl, hoz, hsz, hgz⟩
end Go.Proofs.Ythemffbkkhaaoaa
