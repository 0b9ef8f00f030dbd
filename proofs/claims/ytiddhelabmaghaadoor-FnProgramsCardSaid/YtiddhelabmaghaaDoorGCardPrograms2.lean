/- Merged texts: Dp1, Dp2, Dp3, Ok1, Dec, Note, Jr1, Jr2, Mark, Pl1, Pl2. -/
import Derived.Test.YtiddhelabmaghaaDoorGCardPrograms1
import Derived.Deep.DeepCutAuto
import Derived.Deep.CutRange
import Derived.Test.YtiddhelabmaghaaDoorShelf
import Derived.Lib.SmallJoins
import Derived.Lib.ItoaMem
import Derived.Lib.LaidTab
/- Programs that are drawn: l11Nest, l11Some, l11Draw. -/
namespace Go.Proofs.YtiddhelabmaghaaDoor
open Go.RowKit Go.Joins

def okL (l : List (Int × Int)) : Prop := ∀ x ∈ l, okIns x.1 x.2 = true
theorem okL_snoc {l : List (Int × Int)} {op a : Int} (h : okL l) (ho : okIns op a = true) : okL (l ++ [(op, a)]) := by
  intro x hx
  rcases List.mem_append.1 hx with hx | hx
  · exact h x hx
  · rw [List.mem_singleton.1 hx]; exact ho
theorem okL_app {l r : List (Int × Int)} (h : okL l) (hr : okL r) : okL (l ++ r) := by
  intro x hx
  rcases List.mem_append.1 hx with hx | hx
  · exact h x hx
  · exact hr x hx
theorem ok_set (a : Int) (h0 : 0 ≤ a) (h1 : a ≤ 1000) : okIns 1 a = true := by unfold okIns argF inB; simp; omega
theorem ok_mid (op a : Int) (h2 : 2 ≤ op) (h5 : op ≤ 5) (h0 : 1 ≤ a) (h1 : a ≤ 100) : okIns op a = true := by
  unfold okIns argF inB
  rw [if_neg (by omega), if_pos (by omega)]
  simp; omega
theorem ok_times (a : Int) (h0 : 1 ≤ a) (h1 : a ≤ 100) : okIns 8 a = true := by unfold okIns argF inB; simp; omega
theorem ok_zero (op : Int) (h : op = 6 ∨ op = 7 ∨ op = 9 ∨ op = 10) : okIns op 0 = true := by rcases h with rfl | rfl | rfl | rfl <;> rfl
/-- a drawn list of instructions -/
structure DrP (W w : World) (B g k : Nat) (bs : List UInt8) (v : Value) (l : List (Int × Int)) (L : Nat) : Prop where
  dr : DrR W w B g k bs 91 2 v l.length (progs l)
  ok : okL l
  len : l.length ≤ L
  nn : ∃ b c, v = .slice (some ⟨b, 0, none⟩) l.length c
theorem DrP.draw {W w w' : World} {B g k k' L : Nat} {bs : List UInt8} {v : Value} {l : List (Int × Int)} (h : DrP W w B g k bs v l L) (hs : SrcAt w' B g k' bs) (hg : w.grownBy w' (some g)) : DrP W w' B g k' bs v l L := ⟨h.dr.draw hs hg, h.ok, h.len, h.nn⟩
theorem DrP.below {W w w' : World} {B g k L : Nat} {bs : List UInt8} {v : Value} {l : List (Int × Int)} (h : DrP W w B g k bs v l L) (hb : Below w.heap.size w w') : DrP W w' B g k bs v l L := ⟨h.dr.below hb, h.ok, h.len, h.nn⟩
theorem DrP.more {W w : World} {B g k k' L L' : Nat} {bs : List UInt8} {v : Value} {l : List (Int × Int)} (h : DrP W w B g k bs v l L) (hk : k ≤ k') (hL : L ≤ L') : DrP W w B g k' bs v l L' := ⟨h.dr.more hk, h.ok, Nat.le_trans h.len hL, h.nn⟩
theorem DrP.snoc {W w w' : World} {B g k L : Nat} {bs : List UInt8} {v v' : Value} {l : List (Int × Int)} {op a : Int} (h : DrP W w B g k bs v l L) (ho : okIns op a = true) (hr : w'.ownsRow W.heap.size 91 2 v' (l.length + 1) (progs l ++ (#[Value.int .i64 op, .int .i64 a] : Array Value).toList)) (hg : w.grownBy w' v.ownBlock) :
    DrP W w' B g k bs v' (l ++ [(op, a)]) (L + 1) := by
  rw [progs_snoc] at hr
  refine ⟨h.dr.app (by rw [List.length_append]; exact hr) hg, okL_snoc h.ok ho, by rw [List.length_append]; have := h.len; simp; omega, ?_⟩
  obtain ⟨b, c, hv, _⟩ := own_posC hr (by omega)
  exact ⟨b, c, by rw [hv, List.length_append]; rfl⟩
theorem DrP.join {W w w' : World} {B g k L M : Nat} {bs : List UInt8} {v v' : Value} {l r : List (Int × Int)} (h : DrP W w B g k bs v l L) (ho : okL r) (hM : r.length ≤ M) (hr : w'.ownsRow W.heap.size 91 2 v' (l.length + r.length) (progs l ++ progs r)) (hg : w.grownBy w' v.ownBlock)
    (hp : 0 < l.length) : DrP W w' B g k bs v' (l ++ r) (L + M) := by
  have e : progs l ++ progs r = progs (l ++ r) := by unfold progs; rw [List.flatMap_append]
  rw [e] at hr
  refine ⟨h.dr.app (by rw [List.length_append]; exact hr) hg, okL_app h.ok ho, by rw [List.length_append]; have := h.len; omega, ?_⟩
  obtain ⟨b, c, hv, _⟩ := own_posC hr (by omega)
  exact ⟨b, c, by rw [hv, List.length_append]⟩
theorem DrP.snocE {W w w' : World} {B g k L : Nat} {bs : List UInt8} {v v' : Value} {l : List (Int × Int)} {op a : Int} (h : DrP W w B g k bs v l L) (ho : okIns op a = true) (hr : w'.ownsRow W.heap.size 91 2 v' (l.length + 1) (progs l ++ (#[Value.int .i64 op, .int .i64 a] : Array Value).toList)) (hg : w.grownBy w' v.ownBlock) :
    ∃ l', DrP W w' B g k bs v' l' (L + 1) ∧ 0 < l'.length := ⟨_, h.snoc ho hr hg, by simp⟩
theorem DrP.joinE {W w w' : World} {B g k L M : Nat} {bs : List UInt8} {v v' : Value} {l r : List (Int × Int)} (h : DrP W w B g k bs v l L) (ho : okL r) (hM : r.length ≤ M) (hr : w'.ownsRow W.heap.size 91 2 v' (l.length + r.length) (progs l ++ progs r)) (hg : w.grownBy w' v.ownBlock)
    (hp : 0 < l.length) : ∃ l', DrP W w' B g k bs v' l' (L + M) := ⟨_, h.join ho hM hr hg hp⟩
theorem DrP.other {W w w' : World} {B g k L b : Nat} {bs : List UInt8} {v : Value} {l : List (Int × Int)} (h : DrP W w B g k bs v l L) (hg : w.grownBy w' (some b)) (hb : W.heap.size ≤ b) (hne : ∀ x, v.ownBlock = some x → x ≠ b) : DrP W w' B g k bs v l L :=
  ⟨⟨h.dr.lt, h.dr.src.grown hg (fun x hx => by cases hx; exact Nat.lt_of_lt_of_le h.dr.lt hb), h.dr.row.kept hg (by
    cases hv : v.ownBlock with
    | none => exact .inl rfl
    | some x => exact .inr fun e => hne x hv (by injection e)), grownBy_row h.dr.gr hg (fun x hx => by cases hx; exact hb)⟩, h.ok, h.len, h.nn⟩
theorem own_cells0 {w : World} {base b n c sz : Nat} {e : TypeId} {cs : List Value} (h : w.ownsRow base e sz (.slice (some ⟨b, 0, none⟩) n c) n cs) : ∀ (i : Nat) (u : Value), cs[i]? = some u → w.cell? ⟨b, 0 + i, none⟩ = some u := fun i u hu => by
  have hc := h.cells (g := b) rfl i u hu
  have e0 : (⟨b, 0, none⟩ : Addr).add i = ⟨b, 0 + i, none⟩ := by unfold Addr.add; split <;> simp_all
  rwa [e0] at hc
theorem ones2p (a b : Int) : ∀ u ∈ (#[Value.int .i64 a, Value.int .i64 b] : Array Value).toList, u.oneCell' = true := by
  simp [Value.oneCell']
theorem progs_ones (l : List (Int × Int)) : ∀ u ∈ progs l, u.oneCell' = true := by
  intro u hu
  unfold progs at hu
  obtain ⟨x, _, hx⟩ := List.mem_flatMap.1 hu
  simp [cellsP] at hx
  rcases hx with rfl | rfl <;> rfl
/-- the contract of l11Some at a depth: at most L instructions, at most K draws -/
def SomeC (n L K : Nat) : Prop := ∀ (B g k : Nat) (bs : List UInt8) (w : World), SrcAt w B g k bs → k + K ≤ 4611686018427380000 →
  Calls Tryd.prog 116 #[.pointer (some ⟨g, 0, none⟩), .int .i64 n] w fun e w' => ∃ v l, e = .returned v ∧ DrP w w' B g (k + K) bs v l L
theorem SomeC.use {n L K : Nat} (h : SomeC n L K) (B g k : Nat) (bs : List UInt8) (w : World) (hs : SrcAt w B g k bs) (hk : k + K ≤ 4611686018427380000) :
  Calls Tryd.prog 116 #[.pointer (some ⟨g, 0, none⟩), .int .i64 n] w fun e w' => ∃ v l, e = .returned v ∧ DrP w w' B g (k + K) bs v l L := h B g k bs w hs hk
theorem op_kind {op : Int} (h : op ∈ ([2, 2, 3, 4, 5, 1, 8, 9, 6, 7] : List Int)) : op = 8 ∨ op = 9 ∨ op = 1 ∨ (2 ≤ op ∧ op ≤ 5) ∨ (6 ≤ op ∧ op ≤ 7) := by
  simp at h; omega

set_option maxRecDepth 100000 in
set_option maxHeartbeats 6400000 in
theorem some_any (n L K : Nat) (hn : n ≤ 10) (hL : L ≤ 1000) (hrec : n = 0 ∨ ∃ m, n = m + 1 ∧ SomeC m L K) : SomeC n (4 * (L + 2)) (4 * (K + 20) + 2) := by
  intro B g k bs w hs hk
  have H := Lib.hid hs
  have HD0 := Lib.hid (show DrP w (w.alloc (.cells #[] 91)) B g k bs (.slice (some ⟨w.heap.size, 0, none⟩) 0 0) [] 0 from ⟨DrR.made hs _ _, fun x hx => (by cases hx), Nat.le_refl _, _, _, rfl⟩)
  have Hrec := Lib.hid hrec
  clear hs hrec
  go_enter Tryd.func116, Tryd.ntmps116
  go_wp2_with fail
  refine (pick_any B g k bs 4 _ HD0.out.dr.src (by omega)).mono ?_; rintro e w1 ⟨x, rfl, ⟨hx0, hx1, _⟩, hs1, hg1⟩
  obtain ⟨c, hc, hc4⟩ : ∃ c : Nat, 1 + x = (c : Int) ∧ c ≤ 4 := ⟨(1 + x).toNat, by omega, by have := hx1 (by omega); omega⟩
  have HD1 := Lib.hid (HD0.out.draw hs1 hg1)
  have hx4 := hx1 (by omega)
  clear hx1 hs1 hg1 H
  go_wp2_with fail
  (try rw [hc])
  clear hc
  go_loopw [5, 6] (fun o i wr => ∃ (j : Nat) (l : List (Int × Int)), j ≤ c ∧ i = .int .i64 (j : Int) ∧ DrP w wr B g (k + 2 + (4 - j) * (K + 20)) bs o l ((4 - j) * (L + 2))) (fun _ i _ => (intOf i).toNat)
  case atStart => exact ⟨c, [], Nat.le_refl _, rfl, HD1.out.more (by omega) (by omega)⟩
  case round =>
    obtain ⟨j, l, hjc, rfl, hd⟩ := hrel
    obtain ⟨b0, cp0, rfl⟩ := hd.nn
    have HD := Lib.hid hd
    have hll := hd.len
    clear hd HD0 HD1
    by_cases hj : 0 < j
    · obtain ⟨q, hq⟩ : ∃ q, 4 - j = q := ⟨_, rfl⟩
      have hq1 : 4 - (j - 1) = q + 1 := by omega
      rw [hq] at HD hll
      have Hq1 := Lib.hid hq1
      have hqq : q ≤ 3 := by omega
      clear hq hq1
      have hA : (q + 1) * (L + 2) = q * (L + 2) + (L + 2) := Nat.succ_mul _ _
      have hB : (q + 1) * (K + 20) = q * (K + 20) + (K + 20) := Nat.succ_mul _ _
      have hAm : q * (L + 2) ≤ 3 * (L + 2) := Nat.mul_le_mul_right _ hqq
      have hBm : q * (K + 20) ≤ 3 * (K + 20) := Nat.mul_le_mul_right _ hqq
      have HA := Lib.hid hA
      have HB := Lib.hid hB
      clear hA hB
      generalize q * (L + 2) = a1 at *
      generalize q * (K + 20) = a2 at *
      have hj' : (0 : Int) < (j : Int) := by omega
      have hjj : (j : Int) - 1 = ((j - 1 : Nat) : Int) := by omega
      have Hjj := Lib.hid hjj; clear hjj
      go_wp2_with fail
      refine (among_in B g _ 10 [2, 2, 3, 4, 5, 1, 8, 9, 6, 7] bs wr HD.out.dr.src (by omega) rfl (by omega) (by omega)).mono ?_; rintro e w2 ⟨op, hop, rfl, hs2, hg2⟩
      have HD2 := Lib.hid (HD.out.draw hs2 hg2)
      have HO := Lib.hid (fun wx => l11Opens_any op wx)
      have hz2 := HD2.out.dr.size
      clear hs2 hg2 HD
      go_wp2_with fail
      refine (HO.out _).mono ?_; rintro e w3 ⟨rfl, rfl⟩
      rcases op_kind hop with rfl | rfl | rfl | ⟨h2, h5⟩ | ⟨h6, h7⟩
      · rw [show opens 8 = true from rfl]
        rcases Hrec.out with hn0 | ⟨m, hm, HS⟩
        · have hne : ((n : Int) == 0) = true := by rw [beq_iff_eq]; omega
          clear hn0
          go_wp2_with fail
          go_roundw
          case rel => exact ⟨j - 1, _, by omega, by rw [Hjj.out], by rw [Hq1.out, HA.out, HB.out]; exact HD2.out.more (by omega) (by omega)⟩
          case measure => simp [intOf]; omega
        · have hne : ((n : Int) == 0) = false := by rw [beq_eq_false_iff_ne]; omega
          have hnm : (n : Int) - 1 = (m : Int) := by omega
          have HSS := Lib.hid (fun k wx h hk => HS.use B g k bs wx h hk)
          have HDa := Lib.hid (HD2.out.below ((Below.refl w2.heap.size w2).alloc (Nat.le_refl _) (.cells #[.int .i64 8, .int .i64 0] 91)))
          have Hlt := Lib.hid (fun x hx => (HD2.out.dr.row.lt x hx).2)
          have Hnm := Lib.hid hnm
          clear hm HS hnm
          go_wp2_with fail
          refine (pick_any B g _ bs 4 _ HDa.out.dr.src (by omega)).mono ?_; rintro e w4 ⟨y, rfl, ⟨hy0, hy1, _⟩, hs4, hg4⟩
          have hy4 := hy1 (by omega)
          have Hnw := Lib.hid ((hg4.block w2.heap.size (by simp) (fun e => by have := HD2.out.dr.lt; injection e; omega)).trans (heap_alloc_new w2 (.cells #[.int .i64 8, .int .i64 0] 91)))
          obtain ⟨_, c1, _, f1⟩ := blk2 Hnw.out
          obtain ⟨d0, d1, _, _⟩ := blk2 (heap_setCell_same w4 w2.heap.size 1 _ _ (.int .i64 (1 + y)) Hnw.out)
          have HD4 := Lib.hid (HDa.out.draw hs4 hg4)
          have HD5 := Lib.hid (HD4.out.other (grown_setCell (a := w4) (p := ⟨w2.heap.size, 1, none⟩) ⟨rfl, rfl, rfl, Nat.le_refl _, fun _ _ _ => rfl⟩ (.inl rfl) (.int .i64 (1 + y))) hz2 (fun x hx => Nat.ne_of_lt (Hlt.out x hx)))
          clear hs4 hg4 hy1 HDa HD4 HD2
          go_upto_region 13 with (fail)
          generalize w4.setCell ⟨w2.heap.size, 1, none⟩ (.int .i64 (1 + y)) = w5 at *
          go_wp2_with (at_builtin; refine wpList_apd 35 91 _ 2 16 Tryd.underlying35 infoP rfl (by omega) _ _ rfl rfl w.heap.size _ _ _ rfl HD5.out.dr.row #[.int .i64 (8), .int .i64 (1 + y)] 1 1 rfl rfl (ones2p _ _) (by simp [maxLen]; omega) (by omega) HD5.out.dr.size ?_; intro v6 w6 hown6 hg6; obtain ⟨l6, hd6, hp6⟩ := HD5.out.snocE (ok_times _ (by omega) (by omega)) hown6 hg6; have HD6 := Lib.hid hd6; obtain ⟨b6, cp6, rfl⟩ := hd6.nn; have hll6 := hd6.len; clear hown6 hg6 hd6)
          have hz6 := HD6.out.dr.size
          clear d0 d1
          rw [Hnm.out]
          refine (HSS.out _ _ HD6.out.dr.src (by omega)).mono ?_; rintro e w7 ⟨v7, r, rfl, hr⟩
          obtain ⟨b7, cp7, rfl⟩ := hr.nn
          have hrl := hr.len
          have HD7 := Lib.hid (HD6.out.draw hr.dr.src hr.dr.gr)
          have Hrc := Lib.hid (own_cells0 hr.dr.row)
          have Hro := Lib.hid hr.ok
          clear hr HD6
          go_wp2_with (first | (at_builtin; refine wpList_apr 35 91 _ 2 16 Tryd.underlying35 infoP rfl (by omega) _ _ rfl rfl w.heap.size _ _ _ rfl HD7.out.dr.row b7 0 r.length cp7 (progs r) rfl (progs_len r) Hrc.out (progs_ones r) (by simp [maxLen]; omega) (by omega) HD7.out.dr.size ?_; intro v8 w8 hown8 hg8; obtain ⟨l8, hd8⟩ := HD7.out.joinE Hro.out hrl hown8 hg8 hp6; have HD8 := Lib.hid hd8; obtain ⟨b8, cp8, rfl⟩ := hd8.nn; have hll8 := hd8.len; clear hown8 hg8 hd8) | (at_builtin; refine wpList_apd 35 91 _ 2 16 Tryd.underlying35 infoP rfl (by omega) _ _ rfl rfl w.heap.size _ _ _ rfl HD8.out.dr.row #[.int .i64 (10), .int .i64 (0)] 1 1 rfl rfl (ones2p _ _) (by simp [maxLen]; omega) (by omega) HD8.out.dr.size ?_; intro v9 w9 hown9 hg9; obtain ⟨l9, hd9, hp9⟩ := HD8.out.snocE (ok_zero 10 (by simp)) hown9 hg9; have HD9 := Lib.hid hd9; obtain ⟨b9, cp9, rfl⟩ := hd9.nn; have hll9 := hd9.len; clear hown9 hg9 hd9))
          go_roundw
          case rel => exact ⟨j - 1, _, by omega, by rw [Hjj.out], by rw [Hq1.out, HA.out, HB.out]; exact HD9.out.more (by omega) (by omega)⟩
          case measure => simp [intOf]; omega
      · rw [show opens 9 = true from rfl]
        rcases Hrec.out with hn0 | ⟨m, hm, HS⟩
        · have hne : ((n : Int) == 0) = true := by rw [beq_iff_eq]; omega
          clear hn0
          go_wp2_with fail
          go_roundw
          case rel => exact ⟨j - 1, _, by omega, by rw [Hjj.out], by rw [Hq1.out, HA.out, HB.out]; exact HD2.out.more (by omega) (by omega)⟩
          case measure => simp [intOf]; omega
        · have hne : ((n : Int) == 0) = false := by rw [beq_eq_false_iff_ne]; omega
          have hnm : (n : Int) - 1 = (m : Int) := by omega
          have HSS := Lib.hid (fun k wx h hk => HS.use B g k bs wx h hk)
          have HDa := Lib.hid (HD2.out.below ((Below.refl w2.heap.size w2).alloc (Nat.le_refl _) (.cells #[.int .i64 9, .int .i64 0] 91)))
          have Hlt := Lib.hid (fun x hx => (HD2.out.dr.row.lt x hx).2)
          have Hnm := Lib.hid hnm
          clear hm HS hnm
          obtain ⟨d0, d1⟩ := box2 (w := w2) (x := .int .i64 9) (y := .int .i64 0) (t := 91)
          go_upto_region 13 with (fail)
          generalize w2.alloc (.cells #[.int .i64 9, .int .i64 0] 91) = w5 at *
          go_wp2_with (at_builtin; refine wpList_apd 35 91 _ 2 16 Tryd.underlying35 infoP rfl (by omega) _ _ rfl rfl w.heap.size _ _ _ rfl HDa.out.dr.row #[.int .i64 (9), .int .i64 (0)] 1 1 rfl rfl (ones2p _ _) (by simp [maxLen]; omega) (by omega) HDa.out.dr.size ?_; intro v6 w6 hown6 hg6; obtain ⟨l6, hd6, hp6⟩ := HDa.out.snocE (ok_zero 9 (by simp)) hown6 hg6; have HD6 := Lib.hid hd6; obtain ⟨b6, cp6, rfl⟩ := hd6.nn; have hll6 := hd6.len; clear hown6 hg6 hd6)
          have hz6 := HD6.out.dr.size
          clear d0 d1
          rw [Hnm.out]
          refine (HSS.out _ _ HD6.out.dr.src (by omega)).mono ?_; rintro e w7 ⟨v7, r, rfl, hr⟩
          obtain ⟨b7, cp7, rfl⟩ := hr.nn
          have hrl := hr.len
          have HD7 := Lib.hid (HD6.out.draw hr.dr.src hr.dr.gr)
          have Hrc := Lib.hid (own_cells0 hr.dr.row)
          have Hro := Lib.hid hr.ok
          clear hr HD6
          go_wp2_with (first | (at_builtin; refine wpList_apr 35 91 _ 2 16 Tryd.underlying35 infoP rfl (by omega) _ _ rfl rfl w.heap.size _ _ _ rfl HD7.out.dr.row b7 0 r.length cp7 (progs r) rfl (progs_len r) Hrc.out (progs_ones r) (by simp [maxLen]; omega) (by omega) HD7.out.dr.size ?_; intro v8 w8 hown8 hg8; obtain ⟨l8, hd8⟩ := HD7.out.joinE Hro.out hrl hown8 hg8 hp6; have HD8 := Lib.hid hd8; obtain ⟨b8, cp8, rfl⟩ := hd8.nn; have hll8 := hd8.len; clear hown8 hg8 hd8) | (at_builtin; refine wpList_apd 35 91 _ 2 16 Tryd.underlying35 infoP rfl (by omega) _ _ rfl rfl w.heap.size _ _ _ rfl HD8.out.dr.row #[.int .i64 (10), .int .i64 (0)] 1 1 rfl rfl (ones2p _ _) (by simp [maxLen]; omega) (by omega) HD8.out.dr.size ?_; intro v9 w9 hown9 hg9; obtain ⟨l9, hd9, hp9⟩ := HD8.out.snocE (ok_zero 10 (by simp)) hown9 hg9; have HD9 := Lib.hid hd9; obtain ⟨b9, cp9, rfl⟩ := hd9.nn; have hll9 := hd9.len; clear hown9 hg9 hd9))
          go_roundw
          case rel => exact ⟨j - 1, _, by omega, by rw [Hjj.out], by rw [Hq1.out, HA.out, HB.out]; exact HD9.out.more (by omega) (by omega)⟩
          case measure => simp [intOf]; omega
      · rw [show opens 1 = false from rfl]
        go_wp2_with fail
        refine (pick_any B g _ bs 30 _ HD2.out.dr.src (by omega)).mono ?_; rintro e w4 ⟨y, rfl, ⟨hy0, hy1, _⟩, hs4, hg4⟩
        have hy4 := hy1 (by omega)
        have HD4 := Lib.hid (HD2.out.draw hs4 hg4)
        clear hs4 hg4 hy1 HD2
        go_wp2_with (at_builtin; refine wpList_apd 35 91 _ 2 16 Tryd.underlying35 infoP rfl (by omega) _ _ rfl rfl w.heap.size _ _ _ rfl HD4.out.dr.row #[.int .i64 (1), .int .i64 (y)] 1 1 rfl rfl (ones2p _ _) (by simp [maxLen]; omega) (by omega) HD4.out.dr.size ?_; intro v6 w6 hown6 hg6; obtain ⟨l6, hd6, hp6⟩ := HD4.out.snocE (ok_set _ (by omega) (by omega)) hown6 hg6; have HD6 := Lib.hid hd6; obtain ⟨b6, cp6, rfl⟩ := hd6.nn; have hll6 := hd6.len; clear hown6 hg6 hd6)
        go_roundw
        case rel => exact ⟨j - 1, _, by omega, by rw [Hjj.out], by rw [Hq1.out, HA.out, HB.out]; exact HD6.out.more (by omega) (by omega)⟩
        case measure => simp [intOf]; omega
      · rw [show opens op = false by unfold opens; simp; omega]
        have h1 : (op == 1) = false := by rw [beq_eq_false_iff_ne]; omega
        have h6 : op < 6 := by omega
        go_wp2_with fail
        refine (pick_any B g _ bs 4 _ HD2.out.dr.src (by omega)).mono ?_; rintro e w4 ⟨y, rfl, ⟨hy0, hy1, _⟩, hs4, hg4⟩
        have hy4 := hy1 (by omega)
        have HD4 := Lib.hid (HD2.out.draw hs4 hg4)
        clear hs4 hg4 hy1 HD2
        go_wp2_with fail
        refine (pick_any B g _ bs 2 _ HD4.out.dr.src (by omega)).mono ?_; rintro e w5 ⟨z, rfl, ⟨hz0, hz1, _⟩, hs5, hg5⟩
        have hz4 := hz1 (by omega)
        have HD5 := Lib.hid (HD4.out.draw hs5 hg5)
        obtain ⟨P, hP, hP0, hP3⟩ : ∃ P : Int, y * z = P ∧ 0 ≤ P ∧ P ≤ 3 := by
          rcases (show z = 0 ∨ z = 1 by omega) with rfl | rfl
          · exact ⟨0, by simp, by omega, by omega⟩
          · exact ⟨y, by simp, by omega, by omega⟩
        clear hs5 hg5 hz1 HD4
        go_wp2_with (at_builtin; refine wpList_apd 35 91 _ 2 16 Tryd.underlying35 infoP rfl (by omega) _ _ rfl rfl w.heap.size _ _ _ rfl HD5.out.dr.row #[.int .i64 (op), .int .i64 (1 + P)] 1 1 rfl rfl (ones2p _ _) (by simp [maxLen]; omega) (by omega) HD5.out.dr.size ?_; intro v6 w6 hown6 hg6; obtain ⟨l6, hd6, hp6⟩ := HD5.out.snocE (ok_mid _ _ h2 h5 (by omega) (by omega)) hown6 hg6; have HD6 := Lib.hid hd6; obtain ⟨b6, cp6, rfl⟩ := hd6.nn; have hll6 := hd6.len; clear hown6 hg6 hd6)
        go_roundw
        case rel => exact ⟨j - 1, _, by omega, by rw [Hjj.out], by rw [Hq1.out, HA.out, HB.out]; exact HD6.out.more (by omega) (by omega)⟩
        case measure => simp [intOf]; omega
      · rw [show opens op = false by unfold opens; simp; omega]
        have h1 : (op == 1) = false := by rw [beq_eq_false_iff_ne]; omega
        have h6' : ¬ op < 6 := by omega
        go_wp2_with fail
        refine (one_any B g _ bs 3 _ HD2.out.dr.src (by omega)).mono ?_; rintro e w4 ⟨y, rfl, hs4, hg4⟩
        have HD4 := Lib.hid (HD2.out.draw hs4 hg4)
        clear hs4 hg4 HD2
        cases y with
        | false =>
          go_wp2_with fail
          go_roundw
          case rel => exact ⟨j - 1, _, by omega, by rw [Hjj.out], by rw [Hq1.out, HA.out, HB.out]; exact HD4.out.more (by omega) (by omega)⟩
          case measure => simp [intOf]; omega
        | true =>
          go_wp2_with (at_builtin; refine wpList_apd 35 91 _ 2 16 Tryd.underlying35 infoP rfl (by omega) _ _ rfl rfl w.heap.size _ _ _ rfl HD4.out.dr.row #[.int .i64 (op), .int .i64 (0)] 1 1 rfl rfl (ones2p _ _) (by simp [maxLen]; omega) (by omega) HD4.out.dr.size ?_; intro v6 w6 hown6 hg6; obtain ⟨l6, hd6, hp6⟩ := HD4.out.snocE (ok_zero _ (by omega)) hown6 hg6; have HD6 := Lib.hid hd6; obtain ⟨b6, cp6, rfl⟩ := hd6.nn; have hll6 := hd6.len; clear hown6 hg6 hd6)
          go_roundw
          case rel => exact ⟨j - 1, _, by omega, by rw [Hjj.out], by rw [Hq1.out, HA.out, HB.out]; exact HD6.out.more (by omega) (by omega)⟩
          case measure => simp [intOf]; omega
    · have hj0 : j = 0 := by omega
      subst hj0
      go_wp2_with fail
      go_ret
      exact ⟨_, l, rfl, HD.out.more (by omega) (by omega)⟩
end Go.Proofs.YtiddhelabmaghaaDoor
/- Programs that are drawn, part 2: l11Nest, l11Draw, l11Bent. -/
namespace Go.Proofs.YtiddhelabmaghaaDoor
open Go.RowKit Go.Joins

/-- a list made by a function that draws nothing -/
structure NsP (W w : World) (v : Value) (l : List (Int × Int)) (L : Nat) : Prop where
  row : w.ownsRow W.heap.size 91 2 v l.length (progs l)
  ok : okL l
  len : l.length ≤ L
  nn : ∃ b c, v = .slice (some ⟨b, 0, none⟩) l.length c
  bel : Below W.heap.size W w
theorem NsP.snocE {W w w' : World} {L : Nat} {v v' : Value} {l : List (Int × Int)} {op a : Int} (h : NsP W w v l L) (ho : okIns op a = true) (hr : w'.ownsRow W.heap.size 91 2 v' (l.length + 1) (progs l ++ (#[Value.int .i64 op, .int .i64 a] : Array Value).toList)) (hg : w.grownBy w' v.ownBlock) :
    ∃ l', NsP W w' v' l' (L + 1) ∧ 0 < l'.length := by
  rw [progs_snoc] at hr
  refine ⟨l ++ [(op, a)], ⟨by rw [List.length_append]; exact hr, okL_snoc h.ok ho, by rw [List.length_append]; have := h.len; simp; omega, ?_, h.bel.grown hg h.bel.size (fun x hx => (h.row.lt x hx).1)⟩, by simp⟩
  obtain ⟨b, c, hv, _⟩ := own_posC hr (by omega)
  exact ⟨b, c, by rw [hv, List.length_append]; rfl⟩
theorem NsP.more {W w : World} {L L' : Nat} {v : Value} {l : List (Int × Int)} (h : NsP W w v l L) (hL : L ≤ L') : NsP W w v l L' := ⟨h.row, h.ok, Nat.le_trans h.len hL, h.nn, h.bel⟩
theorem NsP.dr {W W1 w : World} {B g k L : Nat} {bs : List UInt8} {v : Value} {l : List (Int × Int)} (h : NsP W1 w v l L) (hs : SrcAt W1 B g k bs) (hg : W.grownBy W1 (some g)) (hl : g < W.heap.size) : DrP W w B g k bs v l L :=
  ⟨⟨hl, hs.below h.bel, ownsRow_le h.row hg.size, grown_below hg h.bel⟩, h.ok, h.len, h.nn⟩
theorem DrP.from {W W' w : World} {B g k L : Nat} {bs : List UInt8} {v : Value} {l : List (Int × Int)} (h : DrP W' w B g k bs v l L) (hg : W.grownBy W' (some g)) (hl : g < W.heap.size) : DrP W w B g k bs v l L :=
  ⟨h.dr.from hg hl, h.ok, h.len, h.nn⟩

set_option maxRecDepth 100000 in
set_option maxHeartbeats 1600000 in
theorem nest_any (d : Nat) (t : Int) (w : World) (hd : d ≤ 5) (h1 : 1 ≤ t) (h2 : t ≤ 100) : Calls Tryd.prog 108 #[.int .i64 (d : Int), .int .i64 t] w fun e w' => ∃ v l, e = .returned v ∧ NsP w w' v l 11 := by
  have H0 := Lib.hid (show NsP w (w.alloc (.cells #[] 91)) (.slice (some ⟨w.heap.size, 0, none⟩) 0 0) [] 0 from ⟨World.ownsRow_made (base := w.heap.size) (e := 91) (size := 2) w #[] 0 (Nat.le_refl _) (by simp [maxLen]) rfl, fun x hx => (by cases hx), Nat.le_refl _, ⟨_, _, rfl⟩, (Below.refl w.heap.size w).alloc (Nat.le_refl _) _⟩)
  go_enter Tryd.func108, Tryd.ntmps108
  go_wp2_with fail
  go_loopw [5, 6] (fun o i wr => ∃ (j : Nat) (l : List (Int × Int)), j ≤ d ∧ i = .int .i64 (j : Int) ∧ NsP w wr o l (5 - j)) (fun _ i _ => (intOf i).toNat)
  case atStart => exact ⟨d, [], Nat.le_refl _, rfl, H0.out.more (by omega)⟩
  case round =>
    obtain ⟨j, l, hjd, rfl, hp⟩ := hrel
    obtain ⟨b0, cp0, rfl⟩ := hp.nn
    have HP := Lib.hid hp
    have hll := hp.len
    clear hp
    by_cases hj : 0 < j
    · have hj' : (0 : Int) < (j : Int) := by omega
      have hjj : (j : Int) - 1 = ((j - 1 : Nat) : Int) := by omega
      have Hjj := Lib.hid hjj; clear hjj
      go_wp2_with (at_builtin; refine wpList_apd 35 91 _ 2 16 Tryd.underlying35 infoP rfl (by omega) _ _ rfl rfl w.heap.size _ _ _ rfl HP.out.row #[.int .i64 8, .int .i64 t] 1 1 rfl rfl (ones2p _ _) (by simp [maxLen]; omega) (by omega) HP.out.bel.size ?_; intro v6 w6 hown6 hg6; obtain ⟨l6, hd6, hp6⟩ := HP.out.snocE (ok_times t h1 h2) hown6 hg6; have HD6 := Lib.hid hd6; obtain ⟨b6, cp6, rfl⟩ := hd6.nn; clear hown6 hg6 hd6)
      go_roundw
      case rel => exact ⟨j - 1, l6, by omega, by rw [Hjj.out], HD6.out.more (by omega)⟩
      case measure => simp [intOf]; omega
    · have hj0 : j = 0 := by omega
      subst hj0
      have hj' : ¬ (0 : Int) < 0 := by omega
      go_wp2_with (at_builtin; refine wpList_apd 35 91 _ 2 16 Tryd.underlying35 infoP rfl (by omega) _ _ rfl rfl w.heap.size _ _ _ rfl HP.out.row #[.int .i64 2, .int .i64 1] 1 1 rfl rfl (ones2p _ _) (by simp [maxLen]; omega) (by omega) HP.out.bel.size ?_; intro v6 w6 hown6 hg6; obtain ⟨l6, hd6, hp6⟩ := HP.out.snocE (ok_mid 2 1 (by omega) (by omega) (by omega) (by omega)) hown6 hg6; have HD6 := Lib.hid hd6; obtain ⟨b6, cp6, rfl⟩ := hd6.nn; clear hown6 hg6 hd6)
      clear HP hjd hll H0
      go_loopw [5, 7] (fun o i wr => ∃ (j : Nat) (l : List (Int × Int)), j ≤ d ∧ i = .int .i64 (j : Int) ∧ NsP w wr o l (6 + (5 - j))) (fun _ i _ => (intOf i).toNat)
      case atStart => exact ⟨d, l6, Nat.le_refl _, rfl, HD6.out.more (by omega)⟩
      case round =>
        obtain ⟨j, l, hjd, rfl, hp⟩ := hrel
        obtain ⟨b0, cp0, rfl⟩ := hp.nn
        have HP := Lib.hid hp
        have hll := hp.len
        clear hp HD6
        by_cases hj : 0 < j
        · have hj' : (0 : Int) < (j : Int) := by omega
          have hjj : (j : Int) - 1 = ((j - 1 : Nat) : Int) := by omega
          have Hjj := Lib.hid hjj; clear hjj
          go_wp2_with (at_builtin; refine wpList_apd 35 91 _ 2 16 Tryd.underlying35 infoP rfl (by omega) _ _ rfl rfl w.heap.size _ _ _ rfl HP.out.row #[.int .i64 10, .int .i64 0] 1 1 rfl rfl (ones2p _ _) (by simp [maxLen]; omega) (by omega) HP.out.bel.size ?_; intro v7 w7 hown7 hg7; obtain ⟨l7, hd7, hp7⟩ := HP.out.snocE (ok_zero 10 (by simp)) hown7 hg7; have HD7 := Lib.hid hd7; obtain ⟨b7, cp7, rfl⟩ := hd7.nn; clear hown7 hg7 hd7)
          go_roundw
          case rel => exact ⟨j - 1, l7, by omega, by rw [Hjj.out], HD7.out.more (by omega)⟩
          case measure => simp [intOf]; omega
        · have hj0 : j = 0 := by omega
          subst hj0
          go_wp2_with fail
          go_ret
          exact ⟨_, l, rfl, HP.out.more (by omega)⟩

theorem some0 : SomeC 0 8 82 := some_any 0 0 0 (by omega) (by omega) (.inl rfl)
theorem some1 : SomeC 1 40 410 := some_any 1 8 82 (by omega) (by omega) (.inr ⟨0, rfl, some0⟩)
theorem some2 : SomeC 2 168 1722 := some_any 2 40 410 (by omega) (by omega) (.inr ⟨1, rfl, some1⟩)

set_option maxRecDepth 100000 in
set_option maxHeartbeats 800000 in
theorem draw11_any (B g k : Nat) (bs : List UInt8) (w : World) (hs : SrcAt w B g k bs) (hk : k + 2000 ≤ 4611686018427380000) :
    Calls Tryd.prog 79 #[.pointer (some ⟨g, 0, none⟩)] w fun e w' => ∃ v l, e = .returned v ∧ DrP w w' B g (k + 2000) bs v l 168 := by
  have H := Lib.hid hs
  have hlt := hs.lt
  clear hs
  go_enter Tryd.func79, Tryd.ntmps79
  go_wp2_with fail
  refine (one_any B g k bs 20 _ H.out (by omega)).mono ?_; rintro e w1 ⟨y, rfl, hs1, hg1⟩
  have Hs1 := Lib.hid hs1
  have Hg1 := Lib.hid hg1
  clear hs1 hg1 H
  cases y with
  | true =>
    go_wp2_with fail
    refine (pick_any B g _ bs 9 _ Hs1.out (by omega)).mono ?_; rintro e w2 ⟨y, rfl, ⟨hy0, hy1, _⟩, hs2, hg2⟩
    have hy9 := hy1 (by omega)
    have Hs2 := Lib.hid hs2
    have Hg2 := Lib.hid (grown_trans Hg1.out hg2)
    clear hs2 hg2 hy1 Hs1 Hg1
    go_wp2_with fail
    refine (nest_any 4 (1 + y) _ (by omega) (by omega) (by omega)).mono ?_; rintro e w3 ⟨v3, l3, rfl, hn3⟩
    obtain ⟨b3, c3, rfl⟩ := hn3.nn
    have HD := Lib.hid ((hn3.dr Hs2.out Hg2.out hlt).more (k' := k + 2000) (L' := 168) (by omega) (by omega))
    clear hn3
    go_wp2_with fail
    go_ret
    exact ⟨_, l3, rfl, HD.out⟩
  | false =>
    go_wp2_with fail
    refine (some2.use B g _ bs _ Hs1.out (by omega)).mono ?_; rintro e w3 ⟨v3, l3, rfl, hn3⟩
    obtain ⟨b3, c3, rfl⟩ := hn3.nn
    have HD := Lib.hid ((hn3.from Hg1.out hlt).more (k' := k + 2000) (L' := 168) (by omega) (by omega))
    clear hn3
    go_wp2_with fail
    go_ret
    exact ⟨_, l3, rfl, HD.out⟩
end Go.Proofs.YtiddhelabmaghaaDoor
/- Programs that are drawn, part 3: l11Bent. -/
namespace Go.Proofs.YtiddhelabmaghaaDoor
open Go.RowKit Go.Joins

/-- a list of instructions that may be none of a program -/
structure DrQ (W w : World) (B g k : Nat) (bs : List UInt8) (v : Value) (l : List (Int × Int)) (L : Nat) : Prop where
  dr : DrR W w B g k bs 91 2 v l.length (progs l)
  len : l.length ≤ L
theorem DrP.q {W w : World} {B g k L : Nat} {bs : List UInt8} {v : Value} {l : List (Int × Int)} (h : DrP W w B g k bs v l L) : DrQ W w B g k bs v l L := ⟨h.dr, h.len⟩
theorem DrQ.more {W w : World} {B g k k' L L' : Nat} {bs : List UInt8} {v : Value} {l : List (Int × Int)} (h : DrQ W w B g k bs v l L) (hk : k ≤ k') (hL : L ≤ L') : DrQ W w B g k' bs v l L' := ⟨h.dr.more hk, Nat.le_trans h.len hL⟩
theorem progs_at2 (l : List (Int × Int)) (k : Nat) (hk : k < l.length) : (progs l)[k * 2]? = some (.int .i64 l[k].1) ∧ (progs l)[k * 2 + 1]? = some (.int .i64 l[k].2) := by
  have h0 := flat_at cellsP 2 (fun _ => rfl) l k 0 hk (by omega)
  have h1 := flat_at cellsP 2 (fun _ => rfl) l k 1 hk (by omega)
  exact ⟨by unfold progs; rw [Nat.add_zero] at h0; rw [h0]; rfl, by unfold progs; rw [h1]; rfl⟩
theorem progs_split (l : List (Int × Int)) (k : Nat) (hk : k < l.length) : progs l = progs (l.take k) ++ (cellsP l[k] ++ progs (l.drop (k + 1))) := by
  unfold progs
  conv => lhs; rw [← List.take_append_drop k l, List.drop_eq_getElem_cons hk]
  rw [List.flatMap_append, List.flatMap_cons]
theorem progs_set0 (l : List (Int × Int)) (k : Nat) (hk : k < l.length) (z : Int) : (progs l).set (k * 2) (.int .i64 z) = progs (l.set k (z, l[k].2)) := by
  have hl : (progs (l.take k)).length = k * 2 := by rw [progs_len, List.length_take]; omega
  have e2 : l.set k (z, l[k].2) = l.take k ++ (z, l[k].2) :: l.drop (k + 1) := by rw [List.set_eq_take_append_cons_drop, if_pos hk]
  rw [progs_split l k hk, e2]
  unfold progs at *
  rw [List.flatMap_append, List.flatMap_cons, ← hl, List.set_append_right _ _ (Nat.le_refl _)]
  simp [cellsP]
theorem progs_set1 (l : List (Int × Int)) (k : Nat) (hk : k < l.length) (z : Int) : (progs l).set (k * 2 + 1) (.int .i64 z) = progs (l.set k (l[k].1, z)) := by
  have hl : (progs (l.take k)).length = k * 2 := by rw [progs_len, List.length_take]; omega
  have e2 : l.set k (l[k].1, z) = l.take k ++ (l[k].1, z) :: l.drop (k + 1) := by rw [List.set_eq_take_append_cons_drop, if_pos hk]
  rw [progs_split l k hk, e2]
  unfold progs at *
  rw [List.flatMap_append, List.flatMap_cons, ← hl, List.set_append_right _ _ (by omega)]
  simp [cellsP]
theorem own_take {w : World} {base n b c sz i : Nat} {e : TypeId} {xs : List Value} (h : w.ownsRow base e sz (.slice (some ⟨b, 0, none⟩) n c) n xs) (hi : i ≤ n) : w.ownsRow base e sz (.slice (some ⟨b, 0, none⟩) i c) i (xs.take (i * sz)) := by
  have hl := h.1
  rcases h.2 with ⟨h', _⟩ | ⟨g', cap', cur, h', hb, hg, hnc, hcm, hcs, htake⟩
  · simp at h'
  · simp only [Value.slice.injEq, Option.some.injEq, Addr.mk.injEq, and_true, true_and] at h'
    obtain ⟨rfl, rfl⟩ := h'
    have hm : i * sz ≤ n * sz := Nat.mul_le_mul_right _ hi
    refine ⟨by rw [List.length_take, hl]; omega, .inr ⟨b, c, cur, rfl, hb, hg, Nat.le_trans hi hnc, hcm, hcs, ?_⟩⟩
    rw [← htake, List.take_take, Nat.min_eq_left hm]
theorem progs_take (l : List (Int × Int)) (i : Nat) (h : i ≤ l.length) : (progs l).take (i * 2) = progs (l.take i) := by
  have e : progs l = progs (l.take i) ++ progs (l.drop i) := by unfold progs; rw [← List.flatMap_append, List.take_append_drop]
  rw [e, List.take_left' (by rw [progs_len, List.length_take]; omega)]
theorem DrP.cellsAt {W w : World} {B g k L b c : Nat} {bs : List UInt8} {l : List (Int × Int)} (h : DrP W w B g k bs (.slice (some ⟨b, 0, none⟩) l.length c) l L) (i : Nat) (hi : i < l.length) :
    w.cell? ⟨b, i * 2, none⟩ = some (.int .i64 l[i].1) ∧ w.cell? ⟨b, i * 2 + 1, none⟩ = some (.int .i64 l[i].2) ∧ w.frozen? ⟨b, i * 2, none⟩ = false ∧ w.frozen? ⟨b, i * 2 + 1, none⟩ = false := by
  obtain ⟨p0, p1⟩ := progs_at2 l i hi
  exact ⟨(h.dr.row.cellAt (i * 2) (by omega)).trans p0, (h.dr.row.cellAt (i * 2 + 1) (by omega)).trans p1, h.dr.row.frozenAt _, h.dr.row.frozenAt _⟩
theorem DrP.put0 {W w : World} {B g k L b c : Nat} {bs : List UInt8} {l : List (Int × Int)} (h : DrP W w B g k bs (.slice (some ⟨b, 0, none⟩) l.length c) l L) (i : Nat) (hi : i < l.length) (z : Int) :
    ∃ l', l'.length = l.length ∧ DrQ W (w.setCell ⟨b, i * 2, none⟩ (.int .i64 z)) B g k bs (.slice (some ⟨b, 0, none⟩) l.length c) l' L := by
  obtain ⟨h1, h2⟩ := h.dr.row.stored (i * 2) (.int .i64 z)
  rw [progs_set0 l i hi] at h1
  exact ⟨_, List.length_set, ⟨h.dr.app (by rw [List.length_set]; exact h1) h2, by rw [List.length_set]; exact h.len⟩⟩
theorem DrP.put1 {W w : World} {B g k L b c : Nat} {bs : List UInt8} {l : List (Int × Int)} (h : DrP W w B g k bs (.slice (some ⟨b, 0, none⟩) l.length c) l L) (i : Nat) (hi : i < l.length) (z : Int) :
    ∃ l', l'.length = l.length ∧ DrQ W (w.setCell ⟨b, i * 2 + 1, none⟩ (.int .i64 z)) B g k bs (.slice (some ⟨b, 0, none⟩) l.length c) l' L := by
  obtain ⟨h1, h2⟩ := h.dr.row.stored (i * 2 + 1) (.int .i64 z)
  rw [progs_set1 l i hi] at h1
  exact ⟨_, List.length_set, ⟨h.dr.app (by rw [List.length_set]; exact h1) h2, by rw [List.length_set]; exact h.len⟩⟩
theorem DrP.cut {W w : World} {B g k L b c : Nat} {bs : List UInt8} {l : List (Int × Int)} (h : DrP W w B g k bs (.slice (some ⟨b, 0, none⟩) l.length c) l L) (i : Nat) (hi : i ≤ l.length) :
    DrQ W w B g k bs (.slice (some ⟨b, 0, none⟩) i c) (l.take i) L := by
  have h1 := own_take h.dr.row hi
  rw [progs_take l i hi] at h1
  have hm : (l.take i).length = i := by rw [List.length_take]; omega
  exact ⟨⟨h.dr.lt, h.dr.src, by rw [hm]; exact h1, h.dr.gr⟩, by rw [hm]; have := h.len; omega⟩
theorem own_cap2 {w : World} {base n m c size : Nat} {e : TypeId} {A : Option Addr} {cs : List Value} (h : w.ownsRow base e size (.slice A m c) n cs) : m ≤ c ∧ c ≤ maxLen := by
  rcases h.2 with ⟨h0, _⟩ | ⟨g, cap, _, hv, _, _, h1, h2, _⟩
  · injection h0 with _ h1 h2
    subst h1 h2
    exact ⟨Nat.le_refl _, Nat.zero_le _⟩
  · injection hv with _ h3 h4
    subst h3 h4
    exact ⟨h1, h2⟩
def RetQ (w : World) (B g k : Nat) (bs : List UInt8) (L : Nat) (e : Ending) (w' : World) : Prop := ∃ v l, e = .returned v ∧ DrQ w w' B g k bs v l L
theorem RetQ.of {w w' : World} {B g k L n : Nat} {bs : List UInt8} {v : Value} {l : List (Int × Int)} (h : DrQ w w' B g k bs v l L) (hk : k ≤ n) (hL : L ≤ 200) : RetQ w B g n bs 200 (.returned v) w' := ⟨v, l, rfl, h.more hk hL⟩

set_option maxRecDepth 100000 in
set_option maxHeartbeats 3200000 in
theorem bent11_any (B g k : Nat) (bs : List UInt8) (w : World) (hs : SrcAt w B g k bs) (hk : k + 2100 ≤ 4611686018427380000) :
    Calls Tryd.prog 71 #[.pointer (some ⟨g, 0, none⟩)] w (RetQ w B g (k + 2100) bs 200) := by
  have H := Lib.hid hs
  have hlt := hs.lt
  clear hs
  go_enter Tryd.func71, Tryd.ntmps71
  go_wp2_with fail
  refine (draw11_any B g k bs _ H.out (by omega)).mono ?_; rintro e w1 ⟨v, l, rfl, hd1⟩
  obtain ⟨b1, c1, rfl⟩ := hd1.nn
  have HD1 := Lib.hid hd1
  have hll := hd1.len
  clear hd1 H
  by_cases hl0 : l.length = 0
  · have h00 : ((l.length : Int) == 0) = true := by rw [beq_iff_eq]; omega
    have Hl0 := Lib.hid hl0; clear hl0
    go_wp2_with fail
    go_ret
    exact RetQ.of HD1.out.q (by omega) (by omega)
  · have h00 : ((l.length : Int) == 0) = false := by rw [beq_eq_false_iff_ne]; omega
    go_wp2_with fail
    refine (pick_any B g _ bs _ _ HD1.out.dr.src (by omega)).mono ?_; rintro e w2 ⟨x, rfl, ⟨hx0, hx1, hx2⟩, hs2, hg2⟩
    obtain ⟨i, rfl⟩ : ∃ i : Nat, x = i := ⟨x.toNat, by omega⟩
    have hi : i < l.length := by
      by_cases h1 : l.length = 1
      · have := hx2 (by omega); omega
      · have := hx1 (by omega); omega
    have hi' : (i : Int) < (l.length : Int) := by omega
    have HD2 := Lib.hid (HD1.out.draw hs2 hg2)
    clear hs2 hg2 hx1 hx2 HD1
    go_wp2_with fail
    refine (pick_any B g _ bs 24 _ HD2.out.dr.src (by omega)).mono ?_; rintro e w3 ⟨x, rfl, ⟨hx0, hx1, hx2⟩, hs3, hg3⟩
    have HD3 := Lib.hid (HD2.out.draw hs3 hg3)
    clear hs3 hg3 hx1 hx2 HD2
    by_cases e0 : x = 0
    · subst e0
      go_wp2_with fail
      refine (among_in B g _ 6 [0, 1, 9, 10, 11, -9223372036854775808] bs w3 HD3.out.dr.src (by omega) rfl (by omega) (by omega)).mono ?_; rintro e w4 ⟨z, _, rfl, hs4, hg4⟩
      have HD4 := Lib.hid (HD3.out.draw hs4 hg4)
      obtain ⟨p0, p1, q0, q1⟩ := HD4.out.cellsAt i hi
      obtain ⟨l', hl', hd5⟩ := HD4.out.put0 i hi z
      have HD5 := Lib.hid hd5
      have Hl' := Lib.hid hl'
      clear hs4 hg4 HD3 hl' hd5
      go_wp2_with fail
      go_ret
      exact RetQ.of HD5.out (by omega) (by omega)
    have b0 : (x == 0) = false := by simpa using e0
    by_cases e1 : x = 1
    · subst e1
      go_wp2_with fail
      refine (among_in B g _ 7 [-1, 0, 1, 100, 101, 1000000000000, 1000000000001] bs w3 HD3.out.dr.src (by omega) rfl (by omega) (by omega)).mono ?_; rintro e w4 ⟨z, _, rfl, hs4, hg4⟩
      have HD4 := Lib.hid (HD3.out.draw hs4 hg4)
      obtain ⟨p0, p1, q0, q1⟩ := HD4.out.cellsAt i hi
      obtain ⟨l', hl', hd5⟩ := HD4.out.put1 i hi z
      have HD5 := Lib.hid hd5
      have Hl' := Lib.hid hl'
      clear hs4 hg4 HD3 hl' hd5
      go_wp2_with fail
      go_ret
      exact RetQ.of HD5.out (by omega) (by omega)
    have b1 : (x == 1) = false := by simpa using e1
    by_cases e2 : x = 2
    · subst e2
      have HD5 := Lib.hid (HD3.out.cut i (by omega))
      obtain ⟨hcap, _⟩ := own_cap2 HD3.out.dr.row
      have hci : (i : Int) ≤ (c1 : Int) := by omega
      clear HD3
      go_wp2_with fail
      go_ret
      exact RetQ.of HD5.out (by omega) (by omega)
    have b2 : (x == 2) = false := by simpa using e2
    by_cases e3 : x = 3
    · subst e3
      go_wp2_with fail
      refine (nest_any 5 2 _ (by omega) (by omega) (by omega)).mono ?_; rintro e w4 ⟨v4, l4, rfl, hn4⟩
      have HD5 := Lib.hid ((hn4.dr HD3.out.dr.src HD3.out.dr.gr hlt).q.more (L' := 200) (Nat.le_refl _) (by omega))
      clear HD3 hn4
      go_wp2_with fail
      go_ret
      exact RetQ.of HD5.out (by omega) (by omega)
    have b3 : (x == 3) = false := by simpa using e3
    by_cases e4 : x = 4
    · subst e4
      have HM := Lib.hid (show DrP w (w3.alloc (.cells #[] 91)) B g (k + 2000 + 2 + 2) bs (.slice (some ⟨w3.heap.size, 0, none⟩) 0 0) [] 0 from DrP.from (W' := w3) ⟨DrR.made HD3.out.dr.src _ _, fun x hx => (by cases hx), Nat.le_refl _, _, _, rfl⟩ HD3.out.dr.gr hlt)
      clear HD3
      go_wp2_with fail
      refine (pick_any B g _ bs 2 _ HM.out.dr.src (by omega)).mono ?_; rintro e w4 ⟨y, rfl, ⟨hy0, hy1, _⟩, hs4, hg4⟩
      obtain ⟨c, hc, hc4⟩ : ∃ c : Nat, 120 + y = (c : Int) ∧ c ≤ 121 := ⟨(120 + y).toNat, by omega, by have := hy1 (by omega); omega⟩
      have HD4 := Lib.hid (HM.out.draw hs4 hg4)
      have hy2 := hy1 (by omega)
      clear hs4 hg4 hy1 HM
      go_wp2_with fail
      (try rw [hc])
      clear hc
      go_loopw [3, 5] (fun o i wr => ∃ (j : Nat) (l : List (Int × Int)), j ≤ c ∧ i = .int .i64 (j : Int) ∧ DrP w wr B g (k + 2000 + 2 + 2 + 2) bs o l (121 - j)) (fun _ i _ => (intOf i).toNat)
      case atStart => exact ⟨c, [], Nat.le_refl _, rfl, HD4.out.more (by omega) (by omega)⟩
      case round =>
        obtain ⟨j, l2, hjd, rfl, hp⟩ := hrel
        obtain ⟨b0, cp0, rfl⟩ := hp.nn
        have HP := Lib.hid hp
        have hll2 := hp.len
        clear hp HD4
        by_cases hj : 0 < j
        · have hj' : (0 : Int) < (j : Int) := by omega
          have hjj : (j : Int) - 1 = ((j - 1 : Nat) : Int) := by omega
          have Hjj := Lib.hid hjj; clear hjj
          go_wp2_with (at_builtin; refine wpList_apd 35 91 _ 2 16 Tryd.underlying35 infoP rfl (by omega) _ _ rfl rfl w.heap.size _ _ _ rfl HP.out.dr.row #[.int .i64 6, .int .i64 0] 1 1 rfl rfl (ones2p _ _) (by simp [maxLen]; omega) (by omega) HP.out.dr.size ?_; intro v7 w7 hown7 hg7; obtain ⟨l7, hd7, hp7⟩ := HP.out.snocE (ok_zero 6 (by simp)) hown7 hg7; have HD7 := Lib.hid hd7; obtain ⟨b7, cp7, rfl⟩ := hd7.nn; clear hown7 hg7 hd7)
          go_roundw
          case rel => exact ⟨j - 1, l7, by omega, by rw [Hjj.out], HD7.out.more (by omega) (by omega)⟩
          case measure => simp [intOf]; omega
        · have hj0 : j = 0 := by omega
          subst hj0
          go_wp2_with fail
          go_ret
          exact RetQ.of HP.out.q (by omega) (by omega)
    have b4 : (x == 4) = false := by simpa using e4
    go_wp2_with fail
    go_ret
    exact RetQ.of HD3.out.q (by omega) (by omega)
end Go.Proofs.YtiddhelabmaghaaDoor
/- Programs of hand movements: the bounds of instructions. -/
namespace Go.Proofs.YtiddhelabmaghaaDoor
open Go.RowKit Go.Joins

theorem okIns_bd {op a : Int} (h : okIns op a = true) : 1 ≤ op ∧ op ≤ 10 ∧ 0 ≤ a ∧ a ≤ 1000000000000 := by
  unfold okIns argF inB at h
  simp only [Bool.and_eq_true, decide_eq_true_eq] at h
  obtain ⟨⟨h1, h2⟩, h3⟩ := h
  refine ⟨h1, h2, ?_⟩
  split at h3
  · simpa using h3
  · split at h3
    · simp at h3; omega
    · simp at h3; omega
theorem goD_ok : ∀ (l : List (Int × Int)) (d e : Int), goD d l = some e → ∀ x ∈ l, okIns x.1 x.2 = true := by
  intro l
  induction l with
  | nil => intro d e _ x hx; simp at hx
  | cons y l ih =>
    intro d e h x hx
    unfold goD at h
    split at h
    · next hy =>
      simp only [Bool.and_eq_true] at hy
      rcases List.mem_cons.1 hx with rfl | hx
      · exact hy.1
      · exact ih _ _ h x hx
    · simp at h
theorem okProg_all {l : List (Int × Int)} (h : okProg l = true) : (∀ x ∈ l, okIns x.1 x.2 = true) ∧ l.length ≤ 120 := by
  unfold okProg at h
  simp only [Bool.and_eq_true, beq_iff_eq, decide_eq_true_eq] at h
  exact ⟨goD_ok l 0 0 h.1, h.2⟩
end Go.Proofs.YtiddhelabmaghaaDoor
/- Decimal on both sides (strconv.FormatInt by the shelf's contract; l01Dec by its walk). -/
namespace Go.Proofs.YtiddhelabmaghaaDoor
open Go.RowKit Go.Joins

theorem infoB' : (Tryd.prog.info? 5).map (fun i => (i.zero, i.size, i.bytes)) = some (some (.int .u8 0), 1, 1) := by kernel_rfl

/-- the table of powers lies as its initialiser lays it -/
def Tab (w : World) : Prop := Lib.TabIs Tryd.prog w "internal/strconv.uint64pow10" .u64 Lib.pow10Tab
theorem gPow : Tryd.prog.globalNamed "internal/strconv.uint64pow10" = some 0 := by kernel_rfl
theorem Tab.keep {w w' : World} {B : Nat} (h : Tab w) (hb : Below B w w') (hB : w.heap.size ≤ B) : Tab w' := by
  unfold Tab Lib.TabIs World.var? at *
  rw [gPow] at *
  simp only [Option.bind_some] at *
  have hg : 0 < w.heap.size := by
    cases hh : w.heap[0]? with
    | none => rw [hh] at h; cases h
    | some o => exact (Array.getElem?_eq_some_iff.1 hh).1
  rw [hb.block _ (by omega)]
  exact h
theorem Tab.below {w w' : World} (h : Tab w) (hb : Below w.heap.size w w') : Tab w' := h.keep hb (Nat.le_refl _)

/-- decimals -/
def decS (n : Int) : ByteArray := ⟨(Lib.itoa n).toArray⟩

theorem below_app {w w' : World} (os : Array Obj) (h1 : w'.os = w.os) (h2 : w'.tape = w.tape) (h3 : w'.output = w.output) (h4 : w'.heap = w.heap ++ os) : Below w.heap.size w w' :=
  ⟨h1, h2, h3, by rw [h4]; simp, fun i hi => by rw [h4]; exact Array.getElem?_append_left hi⟩

set_option maxHeartbeats 400000 in
theorem Decimal_any (n : Int) (w : World) (h0 : -9223372036854775808 ≤ n) (h1 : n ≤ 9223372036854775807) (ht : Tab w) :
    Calls Tryd.prog 97 #[.int .i64 n] w fun e w' => e = .returned (.string (decS n)) ∧ Below w.heap.size w w' := by
  have HF := Lib.hid (Tryd.strconv_FormatInt_10 n h0 h1 w ht)
  clear h0 h1 ht
  go_enter Tryd.func97, Tryd.ntmps97
  go_wp2_with fail
  refine HF.out.mono ?_; rintro e w1 ⟨rfl, k, os, rfl⟩
  go_wp2_with fail
  go_ret
  exact ⟨rfl, below_app os rfl rfl rfl rfl⟩

/-- the digits in front of what is there -/
def ddL (u : Nat) (acc : List UInt8) : List UInt8 := if u = 0 then acc else Lib.decDigits u ++ acc
theorem ddL_step (u : Nat) (acc : List UInt8) (h : 0 < u) : ddL u acc = ddL (u / 10) (UInt8.ofNat (48 + u % 10) :: acc) := by
  unfold ddL
  rw [if_neg (by omega), Lib.decDigits]
  by_cases h10 : u < 10
  · rw [dif_pos h10, if_pos (by omega), show u % 10 = u by omega]
    rfl
  · rw [dif_neg h10, if_neg (by omega)]
    simp
theorem len19 (k L : Nat) (hk : 0 < k) (h : k * 10 ^ L ≤ 9223372036854775808) : L ≤ 18 := by
  by_cases hL : L ≤ 18
  · exact hL
  · exfalso
    have h1 : 10 ^ 19 ≤ 10 ^ L := Nat.pow_le_pow_right (by omega) (by omega)
    have h2 : 10 ^ L ≤ k * 10 ^ L := Nat.le_mul_of_pos_left _ hk
    have h3 : (10 : Nat) ^ 19 = 10000000000000000000 := by decide
    omega
theorem pow_step (k L N : Nat) (h : k * 10 ^ L ≤ N) : k / 10 * 10 ^ (L + 1) ≤ N := by
  have h1 : k / 10 * 10 ≤ k := by omega
  calc k / 10 * 10 ^ (L + 1) = k / 10 * 10 * 10 ^ L := by rw [Nat.pow_succ, Nat.mul_assoc, Nat.mul_comm 10]
    _ ≤ k * 10 ^ L := Nat.mul_le_mul_right _ h1
    _ ≤ N := h
theorem decDigits_ne (u : Nat) : (Lib.decDigits u).length ≠ 0 := by
  rw [Lib.decDigits]
  split <;> simp

theorem digB' (m : Nat) : IntKind.u8.wrap (48 + (m : Int) % 10) = ((UInt8.ofNat (48 + m % 10)).toNat : Int) := by
  rw [IntKind.wrap_u8]
  simp only [UInt8.toNat_ofNat']
  omega

/-- an owned row appended to a row that has just been made -/
theorem wpList_app_own {P : Program} {w : World} {ops : Array Oper} {rest : List Oper} {o : Oper} {a : Act} {Q : Exit → Act → World → Prop} (t e : TypeId) (z : Value) (size bytes : Nat)
    (ht : P.underlying t = some (.slice e)) (hinfo : (P.info? e).map (fun i => (i.zero, i.size, i.bytes)) = some (some z, size, bytes)) (hzs : z.cells.size = size) (hsz : 0 < size)
    (s x : Operand) (hgd : o.guard = none) (ho : o.op = .call { callee := .builtin .append, args := #[s, x], argTypes := #[t, t] })
    (base : Nat) (v : Value) (n : Nat) (xs : List Value) (hs : a.eval s = v) (hown : w.ownsRow base e size v n xs) (hv : v ≠ .slice none 0 0)
    (g m c : Nat) (news : List Value) (hx : a.eval x = .slice (some ⟨g, 0, none⟩) m c) (hr : ∀ j u, news[j]? = some u → w.cell? ⟨g, j, none⟩ = some u) (hl : news.length = m * size) (h1 : ∀ u ∈ news, u.oneCell' = true)
    (h63 : n + m ≤ maxLen) (hbytes : (n + m) * bytes ≤ 140737488355328) (hbase : base ≤ w.heap.size)
    (h : ∀ g' c' w', w'.ownsRow base e size (.slice (some ⟨g', 0, none⟩) (n + m) c') (n + m) (xs ++ news) → w.grownBy w' v.ownBlock → wpList P ops Q rest (a.put o.dst (.slice (some ⟨g', 0, none⟩) (n + m) c')) w') :
    wpList P ops Q (o :: rest) a w := by
  obtain ⟨i, hi, hz, h2, h3⟩ := info_parts hinfo
  refine wpList_append_own _ hgd s x t ho base e i z size bytes ht hi hz h2 h3 hzs hsz v n xs hs hown ⟨g, 0, none⟩ m c news hx hl (fun j u hu => ?_) h1 h63 hbytes hbase ?_
  · rw [show (⟨g, 0, none⟩ : Addr).add j = ⟨g, j, none⟩ by unfold Addr.add; split <;> simp_all]
    exact hr j u hu
  · intro v' w' ho' hg' hnil
    rcases ownsRow_forms ho' with ⟨rfl, _⟩ | ⟨g', c', rfl⟩
    · exact absurd (hnil.1 rfl).1 hv
    · exact h g' c' w' ho' hg'

set_option maxHeartbeats 1000000 in
theorem l01Dec_nonneg (n : Nat) (w : World) (hn : n ≤ 9223372036854775807) :
    Calls Tryd.prog 103 #[.int .i64 n] w fun e w' => e = .returned (.string (decS n)) ∧ Below w.heap.size w w' := by
  have Hn := Lib.hid hn; clear hn
  go_enter Tryd.func103, Tryd.ntmps103
  go_wp2_with fail
  go_loopw [3, 4] (fun v i wr => ∃ (k : Nat) (acc : List UInt8) (g c : Nat), i = .int .i64 k ∧ v = .slice (some ⟨g, 0, none⟩) acc.length c ∧ wr.ownsRow w.heap.size 5 1 v acc.length (acc.map byV) ∧
      ddL n [] = ddL k acc ∧ Hid (k * 10 ^ acc.length ≤ 9223372036854775808) ∧ Hid (k ≤ n) ∧ Below w.heap.size w wr) (fun _ i _ => (intOf i).toNat)
  case atStart => exact ⟨n, [], w.heap.size, 0, rfl, rfl, World.ownsRow_made w #[] 0 (Nat.le_refl _) (by simp [maxLen]) rfl, rfl, Lib.hid (by have := Hn.out; simp; omega), Lib.hid (Nat.le_refl _), (Below.refl _ _).alloc (Nat.le_refl _) _⟩
  case round =>
    obtain ⟨k, acc, g, c, rfl, rfl, hown, hdd, hp, hkn, hbl⟩ := hrel
    have Hdd := Lib.hid hdd; clear hdd
    by_cases hlt : 0 < k
    · have hne : ((k : Int) != 0) = true := by rw [bne_iff_ne]; omega
      have hL : acc.length ≤ 18 := len19 k acc.length hlt hp.out
      have hd := digB' k
      have Hst := Lib.hid (ddL_step k acc hlt)
      have hk8 : k ≤ 9223372036854775807 := by have := hkn.out; have := Hn.out; omega
      generalize UInt8.ofNat (48 + k % 10) = d at *
      have hnew := World.ownsRow_lit (base := w.heap.size) (e := 5) (size := 1) wr #[.int .u8 (d.toNat : Int)] 1 hbl.size (by simp [maxLen]) rfl
      have hcells := (hown.alloc (.cells #[.int .u8 (d.toNat : Int)] 5)).cells (g := g) rfl
      have hcells' : ∀ j u, (acc.map byV)[j]? = some u → (wr.alloc (.cells #[.int .u8 (d.toNat : Int)] 5)).cell? ⟨g, j, none⟩ = some u := fun j u hu => by
        have := hcells j u hu
        rwa [show (⟨g, 0, none⟩ : Addr).add j = ⟨g, j, none⟩ by unfold Addr.add; split <;> simp_all] at this
      have Hc := Lib.hid hcells'; clear hcells hcells'
      go_wp2_with (at_builtin; refine wpList_app_own 33 5 _ 1 1 Tryd.underlying33 infoB' rfl (by omega) _ _ rfl rfl w.heap.size (.slice (some ⟨wr.heap.size, 0, none⟩) 1 1) 1 _ rfl hnew (by simp) g acc.length c (acc.map byV) rfl Hc.out (by simp) (by simp [byV, Value.oneCell']) (by simp [maxLen]; omega) (by omega) (by simp; have := hbl.size; omega) ?_; intro g' c' w1 hown1 hg1)
      have hb1 : Below w.heap.size w w1 := (hbl.alloc hbl.size _).grown hg1 (by simp; have := hbl.size; omega) (fun x hx => by injection hx with hx; rw [← hx]; exact hbl.size)
      clear Hc hnew
      go_wp2_with fail
      go_roundw
      case rel => exact ⟨k / 10, d :: acc, g', c', by go_num, by simp [Nat.add_comm], by simpa [byV, Nat.add_comm] using hown1, by rw [Hdd.out, Hst.out], Lib.hid (pow_step _ _ _ hp.out), Lib.hid (by have := hkn.out; omega), hb1⟩
      case measure => simp [intOf]; omega
    · have hk0 : k = 0 := by omega
      have hz : ((k : Int) != 0) = false := by rw [hk0]; rfl
      by_cases hn0 : n = 0
      · have hacc : acc = [] := by
          have := Hdd.out
          rw [hk0, hn0] at this
          simpa [ddL] using this.symm
        have hl : ((acc.length : Int) == 0) = true := by rw [hacc]; rfl
        have he := Lib.hid (show decS (n : Int) = ⟨#[48]⟩ by unfold decS; rw [Lib.itoa_nonneg, hn0, Lib.decDigits_one (by omega)]; rfl)
        clear hn0 hacc
        go_wp2_with fail
        go_ret
        rw [he.out]; exact ⟨rfl, hbl⟩
      · have hacc : Lib.decDigits n = acc := by
          have := Hdd.out
          rw [hk0] at this
          simpa [ddL, hn0] using this
        have hl : ((acc.length : Int) == 0) = false := by
          have := decDigits_ne n
          rw [hacc] at this
          rw [beq_eq_false_iff_ne]; omega
        have hpos : ¬ (n : Int) < 0 := by omega
        have he := Lib.hid (show decS (n : Int) = ⟨acc.toArray⟩ by unfold decS; rw [Lib.itoa_nonneg, hacc])
        have hconv := run_conv_own (P := Tryd.prog) 33 9 5 Tryd.underlying33 Tryd.underlying5 Tryd.underlying9 _ _ _ _ hown
        clear hn0 hacc
        go_wp2_with fail
        go_ret
        rw [he.out]; exact ⟨rfl, hbl⟩
end Go.Proofs.YtiddhelabmaghaaDoor
/- NoteSum: the walks of both sides. -/
namespace Go.Proofs.YtiddhelabmaghaaDoor
open Go.RowKit

theorem take_snoc (s : ByteArray) (k : Nat) (h : k < s.size) : s.data.toList.take (k + 1) = s.data.toList.take k ++ [s[k]] := by
  rw [List.take_succ_eq_append_getElem (by simpa using h)]; rfl

/-- the checksum's fold -/
def sumF (s0 : Int) (l : List UInt8) : Int := l.foldl (fun s c => (31 * s + (c.toNat : Int)) % 65521) s0
theorem sumF_snoc (s0 : Int) (l : List UInt8) (c : UInt8) : sumF s0 (l ++ [c]) = (31 * sumF s0 l + (c.toNat : Int)) % 65521 := by simp [sumF]
theorem sumF_bd (s0 : Int) (h0 : 0 ≤ s0) (h1 : s0 < 65521) (l : List UInt8) : 0 ≤ sumF s0 l ∧ sumF s0 l < 65521 := by
  unfold sumF
  induction l generalizing s0 with
  | nil => exact ⟨h0, h1⟩
  | cons c l ih => exact ih _ (by simp only []; omega) (by simp only []; omega)

def noteSum (before number : Int) (l : List UInt8) : Int :=
  if inB before 0 65520 && inB number 0 1000000 then sumF ((before + 7 * number) % 65521) l else 0

end Go.Proofs.YtiddhelabmaghaaDoor
/- Journals, part 1: what a note and a line is; isNote, l26Note, l26Head, l26Line, next. -/
namespace Go.Proofs.YtiddhelabmaghaaDoor
open Go.RowKit Go.Joins

/-- every byte can be printed -/
def okByte (c : UInt8) : Bool := decide (32 ≤ (c.toNat : Int)) && decide ((c.toNat : Int) ≤ 126)
def noteOk (l : List UInt8) : Bool := l.all okByte && decide (l.length ≤ 60)

theorem ba_mem (s : ByteArray) (k : Nat) (h : k < s.size) : s[k] ∈ s.data.toList := List.getElem_mem (l := s.data.toList) (n := k) (by simpa using h)
theorem noteOk_no (s : ByteArray) (c : UInt8) (hc : c ∈ s.data.toList) (h : okByte c = false) : noteOk s.data.toList = false := by
  unfold noteOk
  rw [Bool.and_eq_false_iff]; left
  rw [List.all_eq_false]
  exact ⟨c, hc, by simp [h]⟩
theorem noteOk_end (s : ByteArray) (k : Nat) (hk : s.size ≤ k) (h : (s.data.toList.take k).all okByte = true) : noteOk s.data.toList = decide ((s.size : Int) ≤ 60) := by
  unfold noteOk
  rw [List.take_of_length_le (by simpa using hk)] at h
  rw [h, Bool.true_and, show s.data.toList.length = s.size from rfl, Bool.eq_iff_iff]
  simp; omega
theorem all_snoc (s : ByteArray) (k : Nat) (hlt : k < s.size) (h : (s.data.toList.take k).all okByte = true) (hc : okByte s[k] = true) : (s.data.toList.take (k + 1)).all okByte = true := by
  rw [take_snoc s k hlt, List.all_append, h]; simpa using hc

end Go.Proofs.YtiddhelabmaghaaDoor
/- Journals, part 2: lines. -/
namespace Go.Proofs.YtiddhelabmaghaaDoor
open Go.RowKit Go.Joins

theorem nDig_le (u : Nat) (h : u ≤ 9223372036854775808) : Lib.nDigits u ≤ 19 := by
  have key : ∀ (k u : Nat), u < 10 ^ (k + 1) → Lib.nDigits u ≤ k + 1 := by
    intro k
    induction k with
    | zero => intro u hu; rw [Lib.nDigits_small (by simpa using hu)]; omega
    | succ k ih =>
      intro u hu
      by_cases h10 : u < 10
      · rw [Lib.nDigits_small h10]; omega
      · rw [Lib.nDigits_big h10]
        have := ih (u / 10) (by rw [Nat.pow_succ] at hu; omega)
        omega
  refine key 18 u ?_
  have : (10 : Nat) ^ (18 + 1) = 10000000000000000000 := by decide
  omega
theorem decS_size (n : Int) (h0 : -9223372036854775808 ≤ n) (h1 : n ≤ 9223372036854775807) : (decS n).size ≤ 20 := by
  show (Lib.itoa n).toArray.size ≤ 20
  unfold Lib.itoa
  split
  · have := nDig_le n.natAbs (by omega)
    simp only [List.size_toArray, List.length_cons, Lib.decDigits_length]; omega
  · have := nDig_le n.toNat (by omega)
    simp only [List.size_toArray, Lib.decDigits_length]; omega

/-- the beginning of a line, and a line -/
def headS (number sum : Int) : ByteArray := decS number ++ ⟨#[32]⟩ ++ decS sum ++ ⟨#[32]⟩
def lineS (number sum : Int) (note : ByteArray) : ByteArray := headS number sum ++ note ++ ⟨#[10]⟩
theorem headS_size (number sum : Int) (h0 : 0 ≤ number) (h1 : number ≤ 1000001) (h2 : 0 ≤ sum) (h3 : sum ≤ 1000001) : (headS number sum).size ≤ 42 := by
  have := decS_size number (by omega) (by omega)
  have := decS_size sum (by omega) (by omega)
  unfold headS
  simp only [ByteArray.size_append]
  show _ + 1 + _ + 1 ≤ _
  omega
theorem lineS_size (number sum : Int) (note : ByteArray) (h0 : 0 ≤ number) (h1 : number ≤ 1000001) (h2 : 0 ≤ sum) (h3 : sum ≤ 1000001) : (lineS number sum note).size ≤ note.size + 43 := by
  have := headS_size number sum h0 h1 h2 h3
  unfold lineS
  simp only [ByteArray.size_append]
  show _ + _ + 1 ≤ _
  omega

theorem noteSum_bd (before number : Int) (l : List UInt8) : 0 ≤ noteSum before number l ∧ noteSum before number l < 65521 := by
  unfold noteSum
  split
  · exact sumF_bd _ (by omega) (by omega) l
  · omega

end Go.Proofs.YtiddhelabmaghaaDoor
/- The exact laws' helpers for strings: markText, eqStringS, markStringS, heldStringS. -/
namespace Go.Proofs.YtiddhelabmaghaaDoor
open Go.RowKit Go.Joins

/-- the digits in front of what is there already -/
def mkD : Nat → Nat → List UInt8 → List UInt8
  | 0, _, out => out
  | f + 1, k, out => if k = 0 then out else mkD f (k / 10) (UInt8.ofNat (48 + k % 10) :: out)
theorem mkD_zero (f : Nat) (out : List UInt8) : mkD f 0 out = out := by cases f <;> simp [mkD]
theorem mkD_step (f m : Nat) (out : List UInt8) (h : 0 < m) (hf : m ≤ f) : ∃ f', mkD f m out = mkD f' (m / 10) (UInt8.ofNat (48 + m % 10) :: out) ∧ m / 10 ≤ f' := by
  cases f with
  | zero => omega
  | succ f => exact ⟨f, by simp [mkD, show m ≠ 0 by omega], by omega⟩
/-- the text of a mark -/
def markT (k : Int) : ByteArray := if k ≤ 0 then ⟨#[109, 48]⟩ else ⟨(109 :: mkD k.toNat k.toNat []).toArray⟩
theorem digMk (m : Nat) : IntKind.u8.wrap (48 + (m : Int) % 10) = ((UInt8.ofNat (48 + m % 10)).toNat : Int) := by
  rw [IntKind.wrap_u8]
  simp only [UInt8.toNat_ofNat']
  omega

set_option maxHeartbeats 400000 in
theorem markText_any (k : Int) (w : World) (hk : k ≤ 4611686018427387904) :
    Calls Tryd.prog 63 #[.int .i64 k] w fun e w' => e = .returned (.string (markT k)) ∧ Below w.heap.size w w' := by
  by_cases h : k ≤ 0
  · have e1 := Lib.hid (show markT k = ⟨#[109, 48]⟩ by simp [markT, h])
    have hb0 := Below.refl w.heap.size w
    go_enter Tryd.func63, Tryd.ntmps63
    go_wp2_with fail
    go_ret
    rw [e1.out]; exact ⟨rfl, hb0⟩
  · obtain ⟨n, rfl⟩ : ∃ n : Nat, k = n := ⟨k.toNat, by omega⟩
    have e1 := Lib.hid (show markT (n : Int) = ⟨(109 :: mkD n n []).toArray⟩ by simp only [markT, if_neg h, Int.toNat_natCast])
    have hn : 0 < n := by omega
    have hb : decide ((n : Int) ≤ 0) = false := by simp; omega
    clear h
    go_enter Tryd.func63, Tryd.ntmps63
    go_wp2_with fail
    go_loopw [0, 3] (fun a v wr => ∃ (f m : Nat) (out : List UInt8), a = .int .i64 m ∧ m ≤ f ∧ out.length + m ≤ n ∧ v = .string ⟨out.toArray⟩ ∧ mkD n n [] = mkD f m out ∧ Below w.heap.size w wr) (fun a _ _ => (intOf a).toNat)
    case atStart => exact ⟨n, n, [], rfl, Nat.le_refl _, by simp, rfl, rfl, Below.refl _ _⟩
    case round =>
      obtain ⟨f, m, out, rfl, hmf, hmn, rfl, heq, hbl⟩ := hrel
      have Heq := Lib.hid heq; clear heq
      have hl1 : 1 + out.length ≤ 4611686018427387905 := by omega
      by_cases hlt : 0 < m
      · have hd := digMk m
        have Hst := Lib.hid (mkD_step f m out hlt hmf)
        have hcv := run_conv_one (P := Tryd.prog) (w := wr) 33 9 5 Tryd.underlying33 Tryd.underlying5 Tryd.underlying9 (UInt8.ofNat (48 + m % 10))
        have hb2 := hbl.alloc hbl.size (.cells #[.int .u8 ((UInt8.ofNat (48 + m % 10)).toNat : Int)] 5)
        generalize UInt8.ofNat (48 + m % 10) = d at *
        go_wp2_with fail
        go_roundw
        case rel =>
          obtain ⟨f', h1, h2⟩ := Hst.out
          exact ⟨f', m / 10, d :: out, by go_num, h2, by simp; omega, by rw [ba_app]; simp, by rw [Heq.out, h1], hb2⟩
        case measure => simp [intOf]; omega
      · have hm0 : (m : Int) ≤ 0 := by omega
        go_wp2_with fail
        go_ret
        have he := Heq.out
        rw [show m = 0 by omega, mkD_zero] at he
        rw [e1.out, he]
        exact ⟨by rw [ba_app]; simp, hbl⟩

/-- equality of lists of texts, as the laws test it -/
def strs (l : List ByteArray) : List Value := l.map Value.string

theorem strs_at (l : List ByteArray) (k : Nat) (h : k < l.length) : (strs l)[k]? = some (.string l[k]) := by simp [strs, h]

set_option maxHeartbeats 400000 in
theorem eqStringS_any (B1 B2 : Nat) (v1 v2 : Value) (xs ys : List ByteArray) (w : World) (h1 : Rd w B1 v1 xs.length 1 (strs xs)) (h2 : Rd w B2 v2 ys.length 1 (strs ys)) (hx : xs.length ≤ 4611686018427387904) :
    Calls Tryd.prog 106 #[v1, v2] w fun e w' => e = .returned (.bool (decide (xs = ys))) ∧ ∃ n, w' = w.drewN n := by
  obtain ⟨_, A1, c1, rfl, h1⟩ := h1
  obtain ⟨_, A2, c2, rfl, h2⟩ := h2
  by_cases hlen : xs.length = ys.length
  · rw [← hlen] at h2
    have hb : ((xs.length : Int) != (xs.length : Int)) = false := by simp
    have Hlen := Lib.hid hlen
    rw [← hlen]
    clear hlen
    generalize hn : xs.length = n at *
    have Hn := Lib.hid hn; clear hn
    have H1 := Lib.hid h1; clear h1
    have H2 := Lib.hid h2; clear h2
    go_enter Tryd.func106, Tryd.ntmps106
    go_wp2_with fail
    go_loopw [5] (fun i wr => ∃ k m : Nat, k ≤ n ∧ i = .int .i64 k ∧ wr = w.drewN m ∧ xs.take k = ys.take k) (fun i _ => n - (intOf i).toNat)
    case atStart => exact ⟨0, 0, Nat.zero_le _, rfl, rfl, rfl⟩
    case round =>
      obtain ⟨k, m, hk, rfl, rfl, heq⟩ := hrel
      have Heq := Lib.hid heq; clear heq
      by_cases hlt : k < n
      · obtain ⟨b1, o1, rfl, _, hc1⟩ := H1.out (by omega)
        obtain ⟨b2, o2, rfl, _, hc2⟩ := H2.out (by omega)
        have hkx : k < xs.length := by have := Hn.out; omega
        have hky : k < ys.length := by have := Hn.out; have := Hlen.out; omega
        have hx := hc1 k _ (strs_at xs k hkx)
        have hy := hc2 k _ (strs_at ys k hky)
        have hlt' : (k : Int) < (n : Int) := by omega
        clear hc1 hc2
        generalize hX : xs[k] = X at *
        generalize hY : ys[k] = Y at *
        have HX := Lib.hid hX; clear hX
        have HY := Lib.hid hY; clear hY
        by_cases he : X = Y
        · subst he
          go_wp2_with fail
          go_quiet (fail)
          go_wp2_with fail
          go_roundw
          case rel => exact ⟨k + 1, _, by omega, by go_num, rfl, by rw [List.take_succ_eq_append_getElem hkx, List.take_succ_eq_append_getElem hky, Heq.out, HX.out, HY.out]⟩
          case measure => simp [intOf]; omega
        · have he' : (X.toList == Y.toList) = false := by rw [beq_eq_false_iff_ne]; exact fun h => he (ba_inj h)
          have hne := Lib.hid (show ¬ xs = ys from fun h => he (by subst h; rw [← HX.out, ← HY.out]))
          clear he
          go_wp2_with fail
          go_quiet (fail)
          go_wp2_with fail
          go_ret
          exact ⟨by simp [hne.out], m + nq, World.drewN_drewN ..⟩
      · have hfin := Lib.hid (show xs = ys by
          have := Heq.out
          rwa [List.take_of_length_le (by have := Hn.out; omega), List.take_of_length_le (by have := Hn.out; have := Hlen.out; omega)] at this)
        go_wp2_with fail
        go_ret
        exact ⟨by simp [hfin.out], _, rfl⟩
  · have hb : ((xs.length : Int) != (ys.length : Int)) = true := by simp; omega
    have hne := Lib.hid (show ¬ xs = ys from fun h => hlen (by rw [h]))
    clear hlen
    go_enter Tryd.func106, Tryd.ntmps106
    go_wp2_with fail
    go_ret
    exact ⟨by simp [hne.out], 0, rfl⟩

theorem eqStringS_same (B1 B2 : Nat) (v1 v2 : Value) (xs : List ByteArray) (n : Nat) (w : World) (hn : xs.length = n) (h1 : Rd w B1 v1 n 1 (strs xs)) (h2 : Rd w B2 v2 n 1 (strs xs)) (hx : n ≤ 4611686018427387904) :
    Calls Tryd.prog 106 #[v1, v2] w fun e w' => e = .returned (.bool true) ∧ ∃ n, w' = w.drewN n := by
  subst hn
  refine (eqStringS_any B1 B2 v1 v2 xs xs w h1 h2 hx).mono ?_
  rintro e w' ⟨rfl, h⟩
  exact ⟨by simp, h⟩

/-- the marks from k on -/
def marks (k : Int) (n : Nat) : List ByteArray := (List.range n).map fun (i : Nat) => markT (k + (i : Int))
theorem marks_at (k : Int) (n i : Nat) (h : i < n) : (strs (marks k n))[i]? = some (.string (markT (k + (i : Int)))) := by simp [strs, marks, h]
theorem marks_len (k : Int) (n : Nat) : (marks k n).length = n := by simp [marks]

set_option maxHeartbeats 400000 in
theorem heldStringS_any (B1 : Nat) (v1 : Value) (k0 : Int) (n : Nat) (w : World) (h1 : Rd w B1 v1 n 1 (strs (marks k0 n))) (hB : B1 ≤ w.heap.size) (hk0 : 0 ≤ k0) (hk : k0 + n ≤ 4611686018427387904) :
    Calls Tryd.prog 70 #[v1, .int .i64 k0] w fun e w' => e = .returned (.int .i64 (k0 + n)) ∧ Below w.heap.size w w' := by
  obtain ⟨_, A1, c1, rfl, h1⟩ := h1
  have H1 := Lib.hid h1; clear h1
  go_enter Tryd.func70, Tryd.ntmps70
  go_wp2_with fail
  go_loopw [1, 5] (fun a i wr => ∃ k : Nat, k ≤ n ∧ i = .int .i64 k ∧ a = .int .i64 (k0 + k) ∧ Below w.heap.size w wr) (fun _ i _ => n - (intOf i).toNat)
  case atStart => exact ⟨0, Nat.zero_le _, rfl, by simp, Below.refl _ _⟩
  case round =>
    obtain ⟨k, hk, rfl, rfl, hbl⟩ := hrel
    by_cases hlt : k < n
    · obtain ⟨b1, o1, rfl, hb1, hc1⟩ := H1.out (by omega)
      have hx := hc1 k _ (marks_at k0 n k hlt)
      have hxr := (hbl.cell (p := ⟨b1, o1 + k, none⟩) (by show b1 < _; omega)).trans hx
      have hlt' : (k : Int) < (n : Int) := by omega
      have hbb : b1 < wr.heap.size := by have := hbl.size; omega
      clear hc1 hx
      have Hmk := Lib.hid (markText_any (k0 + k))
      generalize markT (k0 + (k : Int)) = M at *
      go_wp2_with fail
      go_region_held3 (fun w' => w'.cell? ⟨b1, o1 + k, none⟩ = some (.string M))
        (first | go_keep | (rw [hbq.cell (p := ⟨b1, o1 + k, none⟩) (by show b1 < _; simp; omega)]; first | assumption | (simp; assumption)))
        ((go_at_call 63; refine (Hmk.out _ (by omega)).mono ?_; rintro e wq ⟨rfl, hbq⟩))
      go_wp2_with fail
      have hb2 := hbl.trans ((below_undrew hbq).mono hbl.size)
      go_roundw
      case rel => exact ⟨k + 1, by omega, by go_num, by go_num, hb2⟩
      case measure => simp [intOf]; omega
    · go_wp2_with fail
      go_ret
      obtain rfl : k = n := by omega
      exact ⟨rfl, hbl⟩

set_option maxHeartbeats 400000 in
theorem markStringS_any (base : Nat) (v1 : Value) (k0 : Int) (n : Nat) (xs : List Value) (w : World) (h1 : w.ownsRow base 9 1 v1 n xs) (hk0 : 0 ≤ k0) (hk : k0 + n ≤ 4611686018427387904) :
    Calls Tryd.prog 69 #[v1, .int .i64 k0] w fun e w' => e = .returned (.int .i64 (k0 + n)) ∧ w.grownBy w' v1.ownBlock ∧ w'.ownsRow base 9 1 v1 n (strs (marks k0 n)) := by
  have hl : xs.length = n := by simpa using h1.1
  have Hl := Lib.hid hl; clear hl
  rcases ownsRow_forms h1 with ⟨rfl, rfl⟩ | ⟨g, cap, rfl⟩
  · have hg0 : w.grownBy w (Value.slice none 0 0).ownBlock := ⟨rfl, rfl, rfl, Nat.le_refl _, fun _ _ _ => rfl⟩
    have Ho := Lib.hid (World.ownsRow_nil w base 9 1)
    clear h1
    go_enter Tryd.func69, Tryd.ntmps69
    go_wp2_with fail
    go_loop [1, 5] (fun a i => i = .int .i64 0 ∧ a = .int .i64 k0) (fun _ _ => 0)
    case atStart => exact ⟨rfl, rfl⟩
    case round =>
      obtain ⟨rfl, rfl⟩ := hrel
      go_wp2_with fail
      go_ret
      exact ⟨by simp, hg0, by simpa [marks, strs] using Ho.out⟩
  · have hg0 : w.grownBy w (some g) := ⟨rfl, rfl, rfl, Nat.le_refl _, fun _ _ _ => rfl⟩
    have Hsh := Lib.hid h1
    clear h1
    go_enter Tryd.func69, Tryd.ntmps69
    go_wp2_with fail
    go_loopw [1, 5] (fun a i wr => ∃ k : Nat, k ≤ n ∧ i = .int .i64 k ∧ a = .int .i64 (k0 + k) ∧ wr.ownsRow base 9 1 (.slice (some ⟨g, 0, none⟩) n cap) n (strs (marks k0 k) ++ xs.drop k) ∧ w.grownBy wr (some g)) (fun _ i _ => n - (intOf i).toNat)
    case atStart => exact ⟨0, Nat.zero_le _, rfl, by simp, by simpa [marks, strs] using Hsh.out, hg0⟩
    case round =>
      obtain ⟨k, hk, rfl, rfl, hown, hgr⟩ := hrel
      by_cases hlt : k < n
      · have hlt' : (k : Int) < (n : Int) := by omega
        have Hmk := Lib.hid (markText_any (k0 + k))
        have hlen : (strs (marks k0 k)).length = k := by simp [strs, marks]
        have hset : (strs (marks k0 k) ++ xs.drop k).set k (.string (markT (k0 + k))) = strs (marks k0 (k + 1)) ++ xs.drop (k + 1) := by
          rw [List.set_append_right _ _ (by omega), hlen, Nat.sub_self, List.drop_eq_getElem_cons (by rw [Hl.out]; exact hlt), List.set_cons_zero]
          simp [strs, marks, List.range_succ]
        have Hset := Lib.hid hset; clear hset hlen
        generalize markT (k0 + (k : Int)) = M at *
        have Hown := Lib.hid hown; clear hown
        go_wp2_with fail
        refine (Hmk.out _ (by omega)).mono ?_; rintro e wq ⟨rfl, hbq⟩
        have hown := own_below Hown.out hbq
        obtain ⟨u, hu⟩ : ∃ u, (strs (marks k0 k) ++ xs.drop k)[k]? = some u := ⟨_, List.getElem?_eq_getElem (by have := hown.1; omega)⟩
        have hc : wq.cell? ⟨g, k, none⟩ = some u := (hown.cellAt k (by omega)).trans hu
        have hf : wq.frozen? ⟨g, k, none⟩ = false := hown.frozenAt k
        obtain ⟨ho2, hg2⟩ := hown.stored k (.string M)
        rw [Hset.out] at ho2
        have hg3 := grown_trans (grown_trans hgr (grown_of_below hbq _)) hg2
        clear hu hown
        go_wp2_with fail
        go_roundw
        case rel => exact ⟨k + 1, by omega, by go_num, by go_num, ho2, hg3⟩
        case measure => simp [intOf]; omega
      · obtain rfl : k = n := by omega
        rw [List.drop_of_length_le (by rw [Hl.out]; exact Nat.le_refl _), List.append_nil] at hown
        go_wp2_with fail
        go_ret
        exact ⟨rfl, hgr, hown⟩
end Go.Proofs.YtiddhelabmaghaaDoor
/- Programs' lines: one line, both sides. -/
namespace Go.Proofs.YtiddhelabmaghaaDoor
open Go.RowKit Go.Joins

def opsW : List ByteArray := [⟨#[]⟩, ⟨#[115, 101, 116]⟩, ⟨#[97, 100, 100]⟩, ⟨#[115, 117, 98]⟩, ⟨#[114, 105, 103, 104, 116]⟩, ⟨#[108, 101, 102, 116]⟩, ⟨#[99, 108, 101, 97, 114]⟩, ⟨#[122, 101, 114, 111]⟩, ⟨#[116, 105, 109, 101, 115]⟩, ⟨#[98, 101, 108, 108]⟩, ⟨#[101, 110, 100]⟩]
def wordP (n : Nat) : ByteArray := opsW.getD n ⟨#[]⟩
theorem wordP_size (n : Nat) (hn : n < 11) : (wordP n).size ≤ 5 := by
  have h : ∀ m : Fin 11, (opsW.getD m.1 ⟨#[]⟩).size ≤ 5 := by decide
  exact h ⟨n, hn⟩
theorem wordP_at (n : Nat) (hn : n < 11) : (strs opsW)[n]? = some (.string (wordP n)) := by
  rw [strs_at opsW n hn]
  unfold wordP
  rw [List.getD_eq_getElem?_getD, List.getElem?_eq_getElem (show n < opsW.length from hn)]
  rfl
/-- the line of an instruction -/
def lineP (n : Nat) (a : Int) : ByteArray := if n = 1 ∨ n = 8 ∨ 1 < a then wordP n ++ ⟨#[32]⟩ ++ decS a else wordP n
theorem lineP_a {n : Nat} {a : Int} (h : n = 1 ∨ n = 8 ∨ 1 < a) : lineP n a = wordP n ++ ⟨#[32]⟩ ++ decS a := by unfold lineP; rw [if_pos h]
theorem lineP_b {n : Nat} {a : Int} (h : ¬(n = 1 ∨ n = 8 ∨ 1 < a)) : lineP n a = wordP n := by unfold lineP; rw [if_neg h]
theorem add0 (g n : Nat) : (⟨g, 0, none⟩ : Addr).add n = ⟨g, n, none⟩ := by unfold Addr.add; split <;> simp_all
theorem okIns_op {n : Nat} {a : Int} (h : okIns n a = true) : n = 1 ∨ n = 8 ∨ ((n = 2 ∨ n = 3 ∨ n = 4 ∨ n = 5) ∧ 1 ≤ a) ∨ ((n = 6 ∨ n = 7 ∨ n = 9 ∨ n = 10) ∧ a = 0) := by
  have hb := okIns_bd h
  unfold okIns argF inB at h
  simp only [Bool.and_eq_true, decide_eq_true_eq] at h
  obtain ⟨_, h3⟩ := h
  by_cases h1 : n = 1
  · exact .inl h1
  · by_cases h8 : n = 8
    · exact .inr (.inl h8)
    · rw [if_neg (by omega)] at h3
      split at h3
      · simp at h3; omega
      · simp at h3; omega

theorem opWords_any (w : World) (n : Nat) (hn : n < 11) : Calls Tryd.prog 109 #[] w fun e w' => e = .returned (.slice (some ⟨w.heap.size, 0, none⟩) 11 11) ∧ w'.cell? ⟨w.heap.size, n, none⟩ = some (.string (wordP n)) ∧ Below w.heap.size w w' := by
  have hb := (Below.refl w.heap.size w).alloc (Nat.le_refl _)
  have hc := fun (cs : Array Value) (h : cs.toList[n]? = some (.string (wordP n))) => (add0 w.heap.size n) ▸ new_cells w cs 9 n _ h
  have hw := wordP_at n hn
  go_enter Tryd.func109, Tryd.ntmps109
  go_wp2_with fail
  go_ret
  exact ⟨rfl, hc _ hw, hb _⟩
theorem l11Words_any (w : World) (m : Nat) (hm : m + 1 < 11) : Calls Tryd.prog 112 #[] w fun e w' => e = .returned (.slice (some ⟨w.heap.size, 0, none⟩) 10 10) ∧ w'.cell? ⟨w.heap.size, m, none⟩ = some (.string (wordP (m + 1))) ∧ Below w.heap.size w w' := by
  have hb := (Below.refl w.heap.size w).alloc (Nat.le_refl _)
  have hc := fun (cs : Array Value) (h : cs.toList[m]? = some (.string (wordP (m + 1)))) => (add0 w.heap.size m) ▸ new_cells w cs 9 m _ h
  have hw := wordP_at (m + 1) hm
  go_enter Tryd.func112, Tryd.ntmps112
  go_wp2_with fail
  go_ret
  exact ⟨rfl, hc _ hw, hb _⟩

set_option maxRecDepth 100000 in
set_option maxHeartbeats 1600000 in
theorem lineIns_any (n : Nat) (a : Int) (w : World) (h : okIns n a = true) (ht : Tab w) :
    Calls Tryd.prog 73 #[.agg #[.int .i64 n, .int .i64 a]] w fun e w' => e = .returned (.string (lineP n a)) ∧ Below w.heap.size w w' := by
  obtain ⟨h1, h10, ha0, ha1⟩ := okIns_bd h
  have hcs := okIns_op h
  have hws := wordP_size n (by omega)
  have s1 := decS_size a (by omega) (by omega)
  have HO := Lib.hid (fun wx => opWords_any wx n (by omega))
  have HD := Lib.hid (fun wx hx => Decimal_any a wx (by omega) (by omega) hx)
  have Ha := Lib.hid (fun q => lineP_a (n := n) (a := a) q)
  have Hb := Lib.hid (fun q => lineP_b (n := n) (a := a) q)
  have Hba := Lib.hid ((Below.refl w.heap.size w).alloc (Nat.le_refl _) (.cells #[.int .i64 n, .int .i64 a] 91))
  have Hnw := Lib.hid (heap_alloc_new w (.cells #[.int .i64 n, .int .i64 a] 91))
  have hlw : w.heap.size < (w.alloc (.cells #[.int .i64 n, .int .i64 a] 91)).heap.size := by simp
  have Ht := Lib.hid ht
  have e1 : (wordP n ++ ⟨#[32]⟩ : ByteArray).size = (wordP n).size + 1 := ByteArray.size_append
  have hi1 : (0 : Int) ≤ (n : Int) := by omega
  have hi2 : (n : Int) < 11 := by omega
  generalize lineP n a = R at *
  generalize wordP n = W at *
  generalize decS a = D at *
  clear h ht
  go_enter Tryd.func73, Tryd.ntmps73
  go_wp2_with fail
  obtain ⟨f0, f1⟩ := blkp Hnw.out
  generalize w.alloc (.cells #[.int .i64 n, .int .i64 a] 91) = wn at *
  have hacc := Hba.out.drew
  refine wp_region_noPanic ?_
  refine wp_region_L [5,4] (fun w' => w'.cell? ⟨w.heap.size, 0, none⟩ = some (.int .i64 n) ∧ w'.cell? ⟨w.heap.size, 1, none⟩ = some (.int .i64 a)) (by kernel_rfl) (⟨f0, f1⟩) (fun hHeld => ?_)
  refine take_F (i := 1) (d := some 5) (v := ?_) (by kernel_rfl) (by kernel_rfl) rfl rfl (by kernel_rfl) (by kernel_rfl) (by kernel_rfl) (fun _ _ _ h => h) (Or.inl ⟨by rfl, ?_⟩) (by assumption) ?_
  rotate_left
  · (intro w hSw; (try dsimp only at hSw); go_simp; (try rw [if_neg (by omega)]); (try (with_reducible rfl)))
  simp only [Act.put, List.setIfInBounds_toArray, List.set_cons_zero, List.set_cons_succ]
  refine take_L [3,2] (i := 2) (d := some 6) (v := ?_) (by kernel_rfl) (by kernel_rfl) (by kernel_rfl) (by kernel_rfl) rfl rfl (by kernel_rfl) (by kernel_rfl) (by kernel_rfl) (fun _ _ _ h => h) (Or.inl ⟨by rfl, ?_⟩) (by assumption) ?_
  rotate_left
  · (intro w hSw; (try dsimp only at hSw); go_simp; (try rw [if_neg (by omega)]); (try (with_reducible rfl)))
  simp only [Act.put, List.setIfInBounds_toArray, List.set_cons_zero, List.set_cons_succ]
  refine call_L (i := 0) (d := (some 4)) rfl rfl (by kernel_rfl) (fun Kq hKq => ?_)
  go_simp
  go_at_call 109
  refine (HO.out _).mono ?_; rintro e w5 ⟨rfl, hc5, hb5⟩
  have hc6 : w5.cell? ⟨wn.heap.size, n, none⟩ = some (.string W) := hc5
  obtain ⟨g0, g1⟩ := blkp ((hb5.block _ hlw).trans Hnw.out)
  have hacc5 := hacc.trans (hb5.mono hacc.size)
  have Ht5 := Lib.hid (Ht.out.below hacc5)
  clear hacc hb5
  (try go_wp2_with fail)
  refine hKq.out _ _ (⟨g0, g1⟩) (fun hHeld => ?_)
  clear hKq Kq
  (try simp only [Act.put, List.setIfInBounds_toArray, List.set_cons_zero, List.set_cons_succ])
  refine take_F (i := 3) (d := some 7) (v := ?_) (by kernel_rfl) (by kernel_rfl) rfl rfl (by kernel_rfl) (by kernel_rfl) (by kernel_rfl) (fun _ _ _ h => h) (Or.inl ⟨by rfl, ?_⟩) (by assumption) ?_
  rotate_left
  · (intro w hSw; (try dsimp only at hSw); go_simp; (try rw [if_neg (by omega)]); (try (with_reducible rfl)))
  simp only [Act.put, List.setIfInBounds_toArray, List.set_cons_zero, List.set_cons_succ]
  refine late_L (i := 4) (d := (some 8)) (by kernel_rfl) rfl rfl (by kernel_rfl) (fun Kq hKq => ?_)
  go_simp
  refine hKq.out _ _ ?_
  clear hKq Kq
  refine late_L (i := 5) (d := (some 3)) (by kernel_rfl) rfl rfl (by kernel_rfl) (fun Kq hKq => ?_)
  go_simp
  refine hKq.out _ _ ?_
  clear hKq Kq
  refine done_L (by kernel_rfl) ?_ _
  refine NoPanic.normal ?_
  clear hc5 hc6 f0 f1
  have fin : ∀ (w6 : World), Below w5.heap.size w5 w6 → Below w.heap.size w w6 := fun w6 hb6 => hacc5.trans (hb6.mono hacc5.size)
  have Hf := Lib.hid fin; clear fin
  have Hz := Lib.hid hacc5; clear hacc5
  rcases hcs with rfl | rfl | ⟨(rfl | rfl | rfl | rfl), h1a⟩ | ⟨(rfl | rfl | rfl | rfl), rfl⟩
  iterate 2
    · go_wp2_with fail
      refine (HD.out _ Ht5.out).mono ?_; rintro e w6 ⟨rfl, hb6⟩
      have hz := Hf.out _ hb6
      clear hb6
      go_wp2_with fail
      go_ret
      rw [Ha.out (by simp)]; exact ⟨rfl, hz⟩
  iterate 4
    · by_cases ha : a = 1
      · have hn : (a != 1) = false := by simp [ha]
        have hr := Hb.out (by omega)
        clear ha h1a
        go_wp2_with fail
        go_ret
        rw [hr]; exact ⟨rfl, Hz.out⟩
      · have hn : (a != 1) = true := by simp [ha]
        have hr := Ha.out (by omega)
        clear ha h1a
        go_wp2_with fail
        refine (HD.out _ Ht5.out).mono ?_; rintro e w6 ⟨rfl, hb6⟩
        have hz := Hf.out _ hb6
        clear hb6
        go_wp2_with fail
        go_ret
        rw [hr]; exact ⟨rfl, hz⟩
  iterate 4
    · have hr := Hb.out (by omega)
      go_wp2_with fail
      go_ret
      rw [hr]; exact ⟨rfl, Hz.out⟩
end Go.Proofs.YtiddhelabmaghaaDoor
/- Programs' lines, part 2: the reference's line; ProgramLines on both sides. -/
namespace Go.Proofs.YtiddhelabmaghaaDoor
open Go.RowKit Go.Joins

theorem l01Dec_int (a : Int) (w : World) (h0 : 0 ≤ a) (h1 : a ≤ 9223372036854775807) : Calls Tryd.prog 103 #[.int .i64 a] w fun e w' => e = .returned (.string (decS a)) ∧ Below w.heap.size w w' := by
  obtain ⟨b, rfl⟩ : ∃ b : Nat, a = b := ⟨a.toNat, by omega⟩
  exact l01Dec_nonneg b w (by omega)
theorem two_kept {W w1 : World} {a b : Addr} {x y : Value} (hb : Below W.heap.size W w1) (h : W.cell? a = some x ∧ W.cell? b = some y) : w1.cell? a = some x ∧ w1.cell? b = some y :=
  have k {p : Addr} {v : Value} (h : W.cell? p = some v) : w1.cell? p = some v := (hb.cell (World.block_lt_of_cell? W _ h)).trans h
  ⟨k h.1, k h.2⟩

set_option maxRecDepth 100000 in
set_option maxHeartbeats 1600000 in
theorem l11Text_any (b o n : Nat) (a : Int) (w : World) (h : okIns n a = true) (c0 : w.cell? ⟨b, o, none⟩ = some (.int .i64 n)) (c1 : w.cell? ⟨b, o + 1, none⟩ = some (.int .i64 a)) :
    Calls Tryd.prog 75 #[.pointer (some ⟨b, o, none⟩)] w fun e w' => e = .returned (.string (lineP n a)) ∧ Below w.heap.size w w' := by
  obtain ⟨h1, h10, ha0, ha1⟩ := okIns_bd h
  have hcs := okIns_op h
  have hws := wordP_size n (by omega)
  have s1 := decS_size a (by omega) (by omega)
  obtain ⟨m, hm⟩ : ∃ m : Nat, n = m + 1 := ⟨n - 1, by omega⟩
  have hsub : IntKind.i64.wrap ((n : Int) - 1) = (m : Int) := (IntWalk.i64_in _ (by omega)).trans (by omega)
  have HO := Lib.hid (fun wx => l11Words_any wx m (by omega))
  rw [← hm] at HO
  have HD := Lib.hid (fun wx => l01Dec_int a wx (by omega) (by omega))
  have Ha := Lib.hid (fun q => (lineP_a (n := n) (a := a) q).trans (ByteArray.append_assoc))
  have Hb := Lib.hid (fun q => lineP_b (n := n) (a := a) q)
  have e1 : (⟨#[32]⟩ ++ decS a : ByteArray).size = 1 + (decS a).size := ByteArray.size_append
  have hi1 : (0 : Int) ≤ (m : Int) := by omega
  have hi2 : (m : Int) < 10 := by omega
  generalize lineP n a = R at *
  generalize wordP n = W at *
  generalize decS a = D at *
  have hacc : Below w.heap.size w w.drew := (Below.refl _ _).drew
  have hlb := World.block_lt_of_cell? w _ c0
  clear h hm
  go_enter Tryd.func75, Tryd.ntmps75
  go_wp2_with fail
  refine wp_region_noPanic ?_
  refine wp_region_L [8,7] (fun w' => w'.cell? ⟨b, o, none⟩ = some (.int .i64 n) ∧ w'.cell? ⟨b, o + 1, none⟩ = some (.int .i64 a)) (by kernel_rfl) (⟨c0, c1⟩) (fun hHeld => ?_)
  refine take_F (i := 1) (d := some 5) (v := ?_) (by kernel_rfl) (by kernel_rfl) rfl rfl (by kernel_rfl) (by kernel_rfl) (by kernel_rfl) (fun _ _ _ h => h) (Or.inl ⟨by rfl, ?_⟩) (by assumption) ?_
  rotate_left
  · (intro w hSw; (try dsimp only at hSw); go_simp; (try rw [if_neg (by omega)]); (try (with_reducible rfl)))
  simp only [Act.put, List.setIfInBounds_toArray, List.set_cons_zero, List.set_cons_succ]
  refine take_F (i := 2) (d := some 6) (v := ?_) (by kernel_rfl) (by kernel_rfl) rfl rfl (by kernel_rfl) (by kernel_rfl) (by kernel_rfl) (fun _ _ _ h => h) (Or.inl ⟨by rfl, ?_⟩) (by assumption) ?_
  rotate_left
  · (intro w hSw; (try dsimp only at hSw); go_simp; (try rw [if_neg (by omega)]); (try (with_reducible rfl)))
  simp only [Act.put, List.setIfInBounds_toArray, List.set_cons_zero, List.set_cons_succ]
  refine take_F (i := 3) (d := some 7) (v := ?_) (by kernel_rfl) (by kernel_rfl) rfl rfl (by kernel_rfl) (by kernel_rfl) (by kernel_rfl) (fun _ _ _ h => h) (Or.inl ⟨by rfl, ?_⟩) (by assumption) ?_
  rotate_left
  · (intro w hSw; (try dsimp only at hSw); go_simp; (try rw [if_neg (by omega)]); (try (with_reducible rfl)))
  simp only [Act.put, List.setIfInBounds_toArray, List.set_cons_zero, List.set_cons_succ]
  refine take_L [6,5,4] (i := 4) (d := some 8) (v := ?_) (by kernel_rfl) (by kernel_rfl) (by kernel_rfl) (by kernel_rfl) rfl rfl (by kernel_rfl) (by kernel_rfl) (by kernel_rfl) (fun _ _ _ h => h) (Or.inl ⟨by rfl, ?_⟩) (by assumption) ?_
  rotate_left
  · (intro w hSw; (try dsimp only at hSw); go_simp; (try rw [if_neg (by omega)]); (try (with_reducible rfl)))
  simp only [Act.put, List.setIfInBounds_toArray, List.set_cons_zero, List.set_cons_succ]
  refine take_F (i := 5) (d := some 9) (v := ?_) (by kernel_rfl) (by kernel_rfl) rfl rfl (by kernel_rfl) (by kernel_rfl) (by kernel_rfl) (fun _ _ _ h => h) (Or.inl ⟨by rfl, ?_⟩) (by assumption) ?_
  rotate_left
  · (intro w hSw; (try dsimp only at hSw); go_simp; (try rw [if_neg (by omega)]); (try (with_reducible rfl)))
  simp only [Act.put, List.setIfInBounds_toArray, List.set_cons_zero, List.set_cons_succ]
  refine call_L (i := 0) (d := (some 4)) rfl rfl (by kernel_rfl) (fun Kq hKq => ?_)
  go_simp
  go_at_call 112
  refine (HO.out _).mono ?_; rintro e w5 ⟨rfl, hc5, hb5⟩
  have hc6 : w5.cell? ⟨w.heap.size, m, none⟩ = some (.string W) := hc5
  obtain ⟨g0, g1⟩ := two_kept hb5 ⟨c0, c1⟩
  have hacc5 := hacc.trans (hb5.mono hacc.size)
  clear hacc hb5
  (try go_wp2_with fail)
  refine hKq.out _ _ (⟨g0, g1⟩) (fun hHeld => ?_)
  clear hKq Kq
  (try simp only [Act.put, List.setIfInBounds_toArray, List.set_cons_zero, List.set_cons_succ])
  refine take_F (i := 6) (d := some 10) (v := ?_) (by kernel_rfl) (by kernel_rfl) rfl rfl (by kernel_rfl) (by kernel_rfl) (by kernel_rfl) (fun _ _ _ h => h) (Or.inl ⟨by rfl, ?_⟩) (by assumption) ?_
  rotate_left
  · (intro w hSw; (try dsimp only at hSw); go_simp; (try rw [if_neg (by omega)]); (try (with_reducible rfl)))
  simp only [Act.put, List.setIfInBounds_toArray, List.set_cons_zero, List.set_cons_succ]
  refine late_L (i := 7) (d := (some 11)) (by kernel_rfl) rfl rfl (by kernel_rfl) (fun Kq hKq => ?_)
  go_simp
  refine hKq.out _ _ ?_
  clear hKq Kq
  refine late_L (i := 8) (d := (some 3)) (by kernel_rfl) rfl rfl (by kernel_rfl) (fun Kq hKq => ?_)
  go_simp
  refine hKq.out _ _ ?_
  clear hKq Kq
  refine done_L (by kernel_rfl) ?_ _
  refine NoPanic.normal ?_
  clear hc5 hc6 c0 c1
  have fin : ∀ (w6 : World), Below w5.heap.size w5 w6 → Below w.heap.size w w6 := fun w6 hb6 => hacc5.trans (hb6.mono hacc5.size)
  have Hf := Lib.hid fin; clear fin
  have Hz := Lib.hid hacc5; clear hacc5
  rcases hcs with rfl | rfl | ⟨(rfl | rfl | rfl | rfl), h1a⟩ | ⟨(rfl | rfl | rfl | rfl), rfl⟩
  iterate 2
    · go_wp2_with fail
      refine (HD.out _).mono ?_; rintro e w6 ⟨rfl, hb6⟩
      have hz := Hf.out _ hb6
      clear hb6
      go_wp2_with fail
      go_ret
      rw [Ha.out (by simp)]; exact ⟨rfl, hz⟩
  iterate 4
    · by_cases ha : 1 < a
      · have hr := Ha.out (by omega)
        clear h1a
        go_wp2_with fail
        refine (HD.out _).mono ?_; rintro e w6 ⟨rfl, hb6⟩
        have hz := Hf.out _ hb6
        clear hb6
        go_wp2_with fail
        go_ret
        (try rw [hr]); exact ⟨rfl, hz⟩
      · obtain rfl : a = 1 := by omega
        have hr := Hb.out (by omega)
        go_wp2_with fail
        go_ret
        (try rw [hr]); exact ⟨rfl, Hz.out⟩
  iterate 4
    · have hr := Hb.out (by omega)
      go_wp2_with fail
      go_ret
      (try rw [hr]); exact ⟨rfl, Hz.out⟩

def lineZ (x : Int × Int) : ByteArray := lineP x.1.toNat x.2
def linesP (zs : List (Int × Int)) : List ByteArray := if okProg zs then zs.map lineZ else []
def codeP (zs : List (Int × Int)) : Int := if okProg zs then 0 else 1
theorem linesP_len (zs : List (Int × Int)) : (linesP zs).length ≤ zs.length := by unfold linesP; split <;> simp
/-- a new list of lines and a code -/
def RetP (w : World) (zs : List (Int × Int)) (e : Ending) (w' : World) : Prop := ∃ v, e = .returned (.tuple #[v, .int .i64 (codeP zs)]) ∧ w'.ownsRow w.heap.size 9 1 v (linesP zs).length (strs (linesP zs)) ∧ Below w.heap.size w w'
theorem infoW : (Tryd.prog.info? 9).map (fun i => (i.zero, i.size, i.bytes)) = some (some (.string ⟨#[]⟩), 1, 16) := by kernel_rfl
theorem strsZ_step (zs : List (Int × Int)) (k : Nat) (hk : k < zs.length) : strs ((zs.take (k + 1)).map lineZ) = strs ((zs.take k).map lineZ) ++ [.string (lineZ zs[k])] := by
  rw [List.take_succ_eq_append_getElem hk, List.map_append]
  simp [strs]

set_option maxRecDepth 100000 in
set_option maxHeartbeats 1600000 in
theorem LinesI_any (B : Nat) (v : Value) (zs : List (Int × Int)) (w : World) (h : Rd w B v zs.length 2 (progs zs)) (hB : B ≤ w.heap.size) (hl : zs.length ≤ 1048576) (ht : Tab w) :
    Calls Tryd.prog 19 #[v] w (RetP w zs) := by
  have HV := Lib.hid (ValidProgram_any B v zs w h hB hl)
  have H := Lib.hid h
  have Ht := Lib.hid ht
  obtain ⟨_, A, c, rfl, _⟩ := h
  clear ht
  cases hok : okProg zs with
  | false =>
    have e0 := Lib.hid (show linesP zs = [] ∧ codeP zs = 1 by unfold linesP codeP; rw [hok]; exact ⟨rfl, rfl⟩)
    rw [hok] at HV
    clear hok
    go_enter Tryd.func19, Tryd.ntmps19
    go_wp2_with fail
    refine HV.out.mono ?_; rintro e w1 ⟨rfl, hb1⟩
    go_wp2_with fail
    go_ret2
    unfold RetP; rw [e0.out.1, e0.out.2]; exact ⟨_, rfl, ⟨rfl, .inl ⟨rfl, rfl⟩⟩, hb1⟩
  | true =>
    have e0 := Lib.hid (show linesP zs = zs.map lineZ ∧ codeP zs = 0 by unfold linesP codeP; rw [hok]; exact ⟨rfl, rfl⟩)
    have HG := Lib.hid (okProg_all hok).1
    have h120 := (okProg_all hok).2
    rw [hok] at HV
    clear hok
    go_enter Tryd.func19, Tryd.ntmps19
    go_wp2_with fail
    refine HV.out.mono ?_; rintro e w1 ⟨rfl, hb1⟩
    have hb2 := Lib.hid (hb1.alloc hb1.size (.cells #[] 9))
    have ho2 := Lib.hid (World.ownsRow_made (base := w.heap.size) (e := 9) (size := 1) w1 #[] 0 hb1.size (by simp [maxLen]) rfl)
    go_wp2_with fail
    go_loopw [4, 13] (fun o i wr => ∃ (k : Nat), k ≤ zs.length ∧ i = .int .i64 k ∧ wr.ownsRow w.heap.size 9 1 o k (strs ((zs.take k).map lineZ)) ∧ Below w.heap.size w wr) (fun _ i _ => zs.length - (intOf i).toNat)
    case atStart => exact ⟨0, Nat.zero_le _, rfl, ho2.out, hb2.out⟩
    case round =>
      obtain ⟨k, hk, rfl, hown, hbl⟩ := hrel
      by_cases hlt : k < zs.length
      · obtain ⟨b1, o1, hA, hbB, e1, e2⟩ := progs_rd (H.out.below (hbl.mono hB)) k hlt
        subst hA
        have hlt' : (k : Int) < (zs.length : Int) := by omega
        have hg := HG.out zs[k] (List.getElem_mem hlt)
        have Hst := Lib.hid (strsZ_step zs k hlt)
        have hz1 : b1 < wr.heap.size := Nat.lt_of_lt_of_le hbB (Nat.le_trans hB hbl.size)
        generalize zs[k] = x at *
        obtain ⟨op, a⟩ := x
        dsimp only at hg e1 e2
        obtain ⟨n, rfl⟩ : ∃ n : Nat, op = n := ⟨op.toNat, by have := (okIns_bd hg).1; omega⟩
        have HLn := Lib.hid (fun wx hx => lineIns_any n a wx hg hx)
        have hLz : lineZ ((n : Int), a) = lineP n a := rfl
        rw [hLz] at Hst
        generalize lineP n a = L at *
        have Hba := Lib.hid ((Below.refl wr.heap.size wr).alloc (Nat.le_refl _) (.cells #[.int .i64 n, .int .i64 a] 91))
        have Hnw := Lib.hid (heap_alloc_new wr (.cells #[.int .i64 n, .int .i64 a] 91))
        have Hbl := Lib.hid (hbl.trans (Hba.out.mono hbl.size))
        have Hown := Lib.hid (own_below hown Hba.out)
        clear hown hbl hg hLz
        go_wp2_with fail
        obtain ⟨f0, f1⟩ := blkp Hnw.out
        generalize wr.alloc (.cells #[.int .i64 n, .int .i64 a] 91) = wn at *
        clear e1 e2
        go_wp2_with fail
        refine (HLn.out _ (Ht.out.below Hbl.out)).mono ?_; rintro e w6 ⟨rfl, hb6⟩
        have Hb6 := Lib.hid (Hbl.out.trans (hb6.mono Hbl.out.size))
        have Ho6 := Lib.hid (own_below Hown.out hb6)
        have hz6 := Hb6.out.size
        clear hb6 f0 f1
        go_wp2_with (at_builtin; refine wpList_apd 37 9 _ 1 16 Tryd.underlying37 infoW rfl (by omega) _ _ rfl rfl w.heap.size _ k _ rfl Ho6.out #[.string L] 1 1 rfl rfl (by simp [Value.oneCell']) (by simp [maxLen]; omega) (by omega) hz6 ?_; intro v7 w7 hown7 hg7; have Hb7 := Lib.hid (below_apd Hb6.out Ho6.out hg7 (Nat.le_refl _) hz6); have Ho7 := Lib.hid hown7; clear hown7 hg7)
        go_roundw
        case rel => exact ⟨k + 1, by omega, by go_num, by rw [Hst.out]; exact Ho7.out, Hb7.out⟩
        case measure => simp [intOf]; omega
      · have hd : zs.take k = zs := List.take_of_length_le (by omega)
        rw [hd] at hown
        clear hd
        have hkk : k = zs.length := by omega
        have Hown := Lib.hid hown; clear hown
        have hlt' : (zs.length : Int) ≤ (k : Int) := by omega
        go_wp2_with fail
        go_ret2
        unfold RetP; rw [e0.out.1, e0.out.2]; exact ⟨_, rfl, by rw [List.length_map, ← hkk]; exact Hown.out, hbl⟩

set_option maxRecDepth 100000 in
set_option maxHeartbeats 1600000 in
theorem LinesS_any (B : Nat) (v : Value) (zs : List (Int × Int)) (w : World) (h : Rd w B v zs.length 2 (progs zs)) (hB : B ≤ w.heap.size) (hl : zs.length ≤ 1048576) :
    Calls Tryd.prog 20 #[v] w (RetP w zs) := by
  have HV := Lib.hid (l11Ok_any B v zs w h hl)
  have H := Lib.hid h
  obtain ⟨_, A, c, rfl, _⟩ := h
  have hb0 := Lib.hid (fun m => below_drewN (Below.refl w.heap.size w) m)
  cases hok : okProg zs with
  | false =>
    have e0 := Lib.hid (show linesP zs = [] ∧ codeP zs = 1 by unfold linesP codeP; rw [hok]; exact ⟨rfl, rfl⟩)
    rw [hok] at HV
    clear hok
    go_enter Tryd.func20, Tryd.ntmps20
    go_wp2_with fail
    refine HV.out.mono ?_; rintro e w1 ⟨rfl, m, rfl⟩
    go_wp2_with fail
    go_ret2
    unfold RetP; rw [e0.out.1, e0.out.2]; exact ⟨_, rfl, ⟨rfl, .inl ⟨rfl, rfl⟩⟩, hb0.out m⟩
  | true =>
    have e0 := Lib.hid (show linesP zs = zs.map lineZ ∧ codeP zs = 0 by unfold linesP codeP; rw [hok]; exact ⟨rfl, rfl⟩)
    have HG := Lib.hid (okProg_all hok).1
    have h120 := (okProg_all hok).2
    rw [hok] at HV
    clear hok
    go_enter Tryd.func20, Tryd.ntmps20
    go_wp2_with fail
    refine HV.out.mono ?_; rintro e w0 ⟨rfl, m, hw0⟩
    have hb1 : Below w.heap.size w w0 := by rw [hw0]; exact hb0.out m
    clear hw0
    have hb2 := Lib.hid (hb1.alloc hb1.size (.cells #[] 9))
    have ho2 := Lib.hid (World.ownsRow_made (base := w.heap.size) (e := 9) (size := 1) w0 #[] 0 hb1.size (by simp [maxLen]) rfl)
    go_wp2_with fail
    go_loopw [4, 5] (fun o i wr => ∃ (k : Nat), k ≤ zs.length ∧ i = .int .i64 k ∧ wr.ownsRow w.heap.size 9 1 o k (strs ((zs.take k).map lineZ)) ∧ Below w.heap.size w wr) (fun _ i _ => zs.length - (intOf i).toNat)
    case atStart => exact ⟨0, Nat.zero_le _, rfl, ho2.out, hb2.out⟩
    case round =>
      obtain ⟨k, hk, rfl, hown, hbl⟩ := hrel
      by_cases hlt : k < zs.length
      · obtain ⟨b1, o1, hA, hbB, e1, e2⟩ := progs_rd (H.out.below (hbl.mono hB)) k hlt
        subst hA
        have hlt' : (k : Int) < (zs.length : Int) := by omega
        have hg := HG.out zs[k] (List.getElem_mem hlt)
        have Hst := Lib.hid (strsZ_step zs k hlt)
        have hz1 : b1 < wr.heap.size := Nat.lt_of_lt_of_le hbB (Nat.le_trans hB hbl.size)
        generalize zs[k] = x at *
        obtain ⟨op, a⟩ := x
        dsimp only at hg e1 e2
        obtain ⟨n, rfl⟩ : ∃ n : Nat, op = n := ⟨op.toNat, by have := (okIns_bd hg).1; omega⟩
        have HLn := Lib.hid (l11Text_any b1 (o1 + k * 2) n a wr hg e1 e2)
        have hLz : lineZ ((n : Int), a) = lineP n a := rfl
        rw [hLz] at Hst
        generalize lineP n a = L at *
        have Hbl := Lib.hid hbl
        have Hown := Lib.hid hown
        clear hown hbl hg hLz
        go_wp2_with fail
        refine HLn.out.mono ?_; rintro e w6 ⟨rfl, hb6⟩
        have Hb6 := Lib.hid (Hbl.out.trans (hb6.mono Hbl.out.size))
        have Ho6 := Lib.hid (own_below Hown.out hb6)
        have hz6 := Hb6.out.size
        clear hb6 e1 e2
        go_wp2_with (at_builtin; refine wpList_apd 37 9 _ 1 16 Tryd.underlying37 infoW rfl (by omega) _ _ rfl rfl w.heap.size _ k _ rfl Ho6.out #[.string L] 1 1 rfl rfl (by simp [Value.oneCell']) (by simp [maxLen]; omega) (by omega) hz6 ?_; intro v7 w7 hown7 hg7; have Hb7 := Lib.hid (below_apd Hb6.out Ho6.out hg7 (Nat.le_refl _) hz6); have Ho7 := Lib.hid hown7; clear hown7 hg7)
        go_roundw
        case rel => exact ⟨k + 1, by omega, by go_num, by rw [Hst.out]; exact Ho7.out, Hb7.out⟩
        case measure => simp [intOf]; omega
      · have hd : zs.take k = zs := List.take_of_length_le (by omega)
        rw [hd] at hown
        clear hd
        have hkk : k = zs.length := by omega
        have Hown := Lib.hid hown; clear hown
        have hlt' : (zs.length : Int) ≤ (k : Int) := by omega
        go_wp2_with fail
        go_ret2
        unfold RetP; rw [e0.out.1, e0.out.2]; exact ⟨_, rfl, by rw [List.length_map, ← hkk]; exact Hown.out, hbl⟩
end Go.Proofs.YtiddhelabmaghaaDoor
