/- Merged texts: Ld5, Lib4, Lo12, Ld6, Ld7, Ld8. -/
import Derived.Test.YtiddhelabmaghaaDoorGCardReadLoans4
import Derived.Test.YtiddhelabmaghaaDoorGCardReadLoans2
import Derived.Deep.DeepCutAuto
import Derived.Deep.CutRange
import Derived.Test.YtiddhelabmaghaaDoorGCardReadLoans3
/- A loan's line, read by the reference: l23Line. -/
namespace Go.Proofs.YtiddhelabmaghaaDoor
open Go.RowKit Go.Joins

theorem blk4 {w : World} {g : Nat} {a b c d : Value} {t : TypeId} (h : w.heap[g]? = some (.cells #[a, b, c, d] t (0, 0))) :
    (w.cell? ⟨g, 0, none⟩ = some a ∧ w.cell? ⟨g, 1, none⟩ = some b ∧ w.cell? ⟨g, 2, none⟩ = some c ∧ w.cell? ⟨g, 3, none⟩ = some d) ∧
    (w.frozen? ⟨g, 0, none⟩ = false ∧ w.frozen? ⟨g, 1, none⟩ = false ∧ w.frozen? ⟨g, 2, none⟩ = false ∧ w.frozen? ⟨g, 3, none⟩ = false) :=
  ⟨four_at h, frozen_of_row w g 0 _ _ h, frozen_of_row w g 1 _ _ h, frozen_of_row w g 2 _ _ h, frozen_of_row w g 3 _ _ h⟩
/-- a result of four fields in a block of its own: ahead of the store -/
theorem res4_pre {w w2 : World} {x y z u : Value} {t : TypeId} (h : Below (w.alloc (.cells #[x, y, z, u] t)).heap.size (w.alloc (.cells #[x, y, z, u] t)) w2) :
    (w2.cell? ⟨w.heap.size, 0, none⟩ = some x ∧ w2.cell? ⟨w.heap.size, 1, none⟩ = some y ∧ w2.cell? ⟨w.heap.size, 2, none⟩ = some z ∧ w2.cell? ⟨w.heap.size, 3, none⟩ = some u) ∧
    (w2.frozen? ⟨w.heap.size, 0, none⟩ = false ∧ w2.frozen? ⟨w.heap.size, 1, none⟩ = false ∧ w2.frozen? ⟨w.heap.size, 2, none⟩ = false ∧ w2.frozen? ⟨w.heap.size, 3, none⟩ = false) :=
  blk4 ((h.block w.heap.size (by simp)).trans (heap_alloc_new w _))
abbrev put4 (w : World) (g : Nat) (a b c d : Value) : World := (((w.setCell ⟨g, 0, none⟩ a).setCell ⟨g, 1, none⟩ b).setCell ⟨g, 2, none⟩ c).setCell ⟨g, 3, none⟩ d
/-- .. and behind it -/
theorem res4_post {w w2 : World} {x y z u : Value} {t : TypeId} (h : Below (w.alloc (.cells #[x, y, z, u] t)).heap.size (w.alloc (.cells #[x, y, z, u] t)) w2) (a b c d : Value) :
    ((put4 w2 w.heap.size a b c d).cell? ⟨w.heap.size, 0, none⟩ = some a ∧ (put4 w2 w.heap.size a b c d).cell? ⟨w.heap.size, 1, none⟩ = some b ∧ (put4 w2 w.heap.size a b c d).cell? ⟨w.heap.size, 2, none⟩ = some c ∧ (put4 w2 w.heap.size a b c d).cell? ⟨w.heap.size, 3, none⟩ = some d) ∧
    Below w.heap.size w (put4 w2 w.heap.size a b c d) := by
  have g := heap_setCell_same _ w.heap.size 3 _ _ d (heap_setCell_same _ w.heap.size 2 _ _ c (heap_setCell_same _ w.heap.size 1 _ _ b (heap_setCell_same w2 w.heap.size 0 _ _ a ((h.block w.heap.size (by simp)).trans (heap_alloc_new w _)))))
  refine ⟨(blk4 g).1, ?_⟩
  have h0 : Below w.heap.size w w2 := ((Below.refl w.heap.size w).alloc (Nat.le_refl _) _).trans (h.mono (by simp))
  exact (((h0.setCell (p := ⟨w.heap.size, 0, none⟩) (Nat.le_refl _) a).setCell (p := ⟨w.heap.size, 1, none⟩) (Nat.le_refl _) b).setCell (p := ⟨w.heap.size, 2, none⟩) (Nat.le_refl _) c).setCell (p := ⟨w.heap.size, 3, none⟩) (Nat.le_refl _) d
theorem sl_of_own {w : World} {base n size : Nat} {e : TypeId} {v : Value} {cs : List Value} (h : w.ownsRow base e size v n cs) : ∃ A c, v = .slice A n c := by
  obtain ⟨_, A, c, hv, _⟩ := Rd.of_own h
  exact ⟨A, c, hv⟩
/-- a row of texts of the call's own -/
theorem own_strs {w : World} {base : Nat} {v : Value} {L : List ByteArray} (h : w.ownsRow base 9 1 v L.length (L.map Value.string)) (hn : 0 < L.length) :
    ∃ g c, v = .slice (some ⟨g, 0, none⟩) L.length c ∧ L.length ≤ c ∧ c ≤ maxLen ∧ g < w.heap.size ∧ ∀ i (hi : i < L.length), w.cell? ⟨g, i, none⟩ = some (.string L[i]) := by
  rcases h.2 with ⟨_, h0⟩ | ⟨g, cap, _, hv, _, _, h1, h2, _⟩
  · omega
  · have hlt := (h.lt g (by rw [hv]; rfl)).2
    subst hv
    refine ⟨g, cap, rfl, h1, h2, hlt, fun i hi => ?_⟩
    have hc := h.cells (g := g) rfl i (.string L[i]) (by rw [List.getElem?_map, List.getElem?_eq_getElem hi]; rfl)
    have e0 : (⟨g, 0, none⟩ : Addr).add i = ⟨g, i, none⟩ := by unfold Addr.add; split <;> simp_all
    rwa [e0] at hc
/-- three texts in a block -/
structure W3 (w : World) (g : Nat) (x a b : ByteArray) : Prop where
  lt : g < w.heap.size
  c0 : w.cell? ⟨g, 0, none⟩ = some (.string x)
  c1 : w.cell? ⟨g, 1, none⟩ = some (.string a)
  c2 : w.cell? ⟨g, 2, none⟩ = some (.string b)
theorem W3.next {w w' : World} {g : Nat} {x a b : ByteArray} (h : W3 w g x a b) (hb : Below w.heap.size w w') : W3 w' g x a b :=
  ⟨Nat.lt_of_lt_of_le h.lt hb.size, (hb.cell (p := ⟨g, 0, none⟩) h.lt).trans h.c0, (hb.cell (p := ⟨g, 1, none⟩) h.lt).trans h.c1, (hb.cell (p := ⟨g, 2, none⟩) h.lt).trans h.c2⟩
theorem own_w3 {w : World} {base : Nat} {v : Value} {x a b : ByteArray} (h : w.ownsRow base 9 1 v [x, a, b].length ([x, a, b].map Value.string)) :
    ∃ g c, v = .slice (some ⟨g, 0, none⟩) 3 c ∧ W3 w g x a b := by
  obtain ⟨g, c, hv, _, _, hlt, hc⟩ := own_strs h (by simp)
  exact ⟨g, c, hv, hlt, hc 0 (by simp), hc 1 (by simp), hc 2 (by simp)⟩
theorem three_of {L : List ByteArray} (h : L.length = 3) : ∃ x a b, L = [x, a, b] := by
  match L, h with
  | [x, a, b], _ => exact ⟨x, a, b, rfl⟩
theorem ll_fin {s x a b p q : ByteArray} (h1 : splitB 32 s = [x, a, b]) (h2 : two2 x = both (readN p) (readN q)) :
    (rdLn s).isSome = ((readN p).isSome && (readN q).isSome) ∧ ∀ y, rdLn s = some y → (⟨a, b, (readN p).getD 0, (readN q).getD 0⟩ : Ln) = y := by
  rw [rdLn_three h1, h2]
  cases readN p <;> cases readN q <;> simp [both]
/-- a loan and whether the line is one -/
def RetLl (w : World) (r : Option Ln) (e : Ending) (w' : World) : Prop :=
  ∃ x : Ln, e = .returned (.tuple #[aggL x, .bool r.isSome]) ∧ (∀ y, r = some y → x = y) ∧ Below w.heap.size w w'
theorem RetLl.none {w w' : World} {r : Option Ln} {a b : ByteArray} {f t : Int} (h : r = none) (hb : Below w.heap.size w w') : RetLl w r (.returned (.tuple #[.agg #[.string a, .string b, .int .i64 f, .int .i64 t], .bool false])) w' := by
  subst h; exact ⟨⟨a, b, f, t⟩, rfl, (fun y h => by cases h), hb⟩
theorem RetLl.of {w w' : World} {r : Option Ln} {a b : ByteArray} {f t : Int} {o : Bool} (h : r.isSome = o ∧ ∀ y, r = some y → (⟨a, b, f, t⟩ : Ln) = y) (hb : Below w.heap.size w w') : RetLl w r (.returned (.tuple #[.agg #[.string a, .string b, .int .i64 f, .int .i64 t], .bool o])) w' := by
  obtain ⟨h1, h2⟩ := h
  subst h1; exact ⟨⟨a, b, f, t⟩, rfl, h2, hb⟩

set_option maxRecDepth 100000 in
set_option maxHeartbeats 3200000 in
theorem l23Line_any (s : ByteArray) (w : World) (hs : s.size ≤ 1073741824) : Calls Tryd.prog 56 #[.string s] w (RetLl w (rdLn s)) := by
  have HSp := Lib.hid (fun wx => l01Split_any s 32 wx hs)
  unfold RetPs at HSp
  have HB0 := Lib.hid (Below.refl (w.alloc (.cells #[.string ⟨#[]⟩, .string ⟨#[]⟩, .int .i64 0, .int .i64 0] 53)).heap.size (w.alloc (.cells #[.string ⟨#[]⟩, .string ⟨#[]⟩, .int .i64 0, .int .i64 0] 53)))
  have hlen := splitB_len 32 s.size s (Nat.le_refl _)
  by_cases h3 : (splitB 32 s).length = 3
  · obtain ⟨x, a, b, he⟩ := three_of h3
    have hmem := splitB_mem 32 s.size s (Nat.le_refl _)
    rw [he] at HSp hmem
    have hx : x.size ≤ 1073741824 := Nat.le_trans (hmem x (by simp)) hs
    have HS2 := Lib.hid (fun wx => l01Split_any x 46 wx hx)
    unfold RetPs at HS2
    have HC := Lib.hid (two2_cases x)
    have hmem2 := splitB_mem 46 x.size x (Nat.le_refl _)
    have hlen2 := splitB_len 46 x.size x (Nat.le_refl _)
    have He := Lib.hid he
    clear he h3 hmem
    go_enter Tryd.func56, Tryd.ntmps56
    go_wp2_with fail
    refine (HSp.out _).mono ?_; rintro e w5 ⟨v5, rfl, ho5, hb5⟩
    have HB5 := Lib.hid (HB0.out.trans (hb5.mono HB0.out.size))
    obtain ⟨g5, c5, rfl, hw5⟩ := own_w3 ho5
    have W5 := Lib.hid hw5
    obtain ⟨l5, p0, p1, p2⟩ := hw5
    clear ho5 hb5 HSp HB0
    go_wp2_with fail
    rcases HC.out with ⟨p, q, hs2, ht2⟩ | ⟨ht2, hne | ⟨p, e2, q, hs2, hne⟩⟩
    · rw [hs2] at HS2 hmem2
      have hp : p.size ≤ 1073741824 := Nat.le_trans (hmem2 p (by simp)) hx
      have hq : q.size ≤ 1073741824 := Nat.le_trans (hmem2 q (by simp)) hx
      have HP := Lib.hid (fun wx => l01Number_any p wx hp)
      have HQ := Lib.hid (fun wx => l01Number_any q wx hq)
      unfold RetN1 at HP HQ
      have Hfin := Lib.hid (ll_fin He.out ht2)
      generalize (readN p).getD 0 = f at *
      generalize (readN q).getD 0 = t at *
      generalize (readN p).isSome = o1 at *
      generalize (readN q).isSome = o2 at *
      clear HC hs2 ht2 hmem2
      refine (HS2.out _).mono ?_; rintro e w6 ⟨v6, rfl, ho6, hb6⟩
      have HB6 := Lib.hid (HB5.out.trans (hb6.mono HB5.out.size))
      obtain ⟨g6, c6, rfl, hw6⟩ := own_w3 ho6
      have W6 := Lib.hid hw6
      obtain ⟨l6, q0, q1, q2⟩ := hw6
      have V6 := Lib.hid (W5.out.next hb6)
      clear ho6 hb6 HS2 HB5 W5 p0 p1 p2 l5 l6
      go_wp2_with fail
      refine (HP.out _).mono ?_; rintro e w7 ⟨rfl, hb7⟩
      have HB7 := Lib.hid (HB6.out.trans (hb7.mono HB6.out.size))
      have W7 := Lib.hid (W6.out.next hb7)
      have V7 := Lib.hid (V6.out.next hb7)
      obtain ⟨l6, q0, q1, q2⟩ := W7.out
      clear hb7 HB6 W6 V6 HP l6
      go_wp2_with fail
      refine (HQ.out _).mono ?_; rintro e w8 ⟨rfl, hb8⟩
      have HB8 := Lib.hid (HB7.out.trans (hb8.mono HB7.out.size))
      have V8 := Lib.hid (V7.out.next hb8)
      obtain ⟨l6, p0, p1, p2⟩ := V8.out
      obtain ⟨⟨d0, d1, d2, d3⟩, e0, e1, e2, e3⟩ := res4_pre HB8.out
      have HD := Lib.hid (res4_post HB8.out (.string a) (.string b) (.int .i64 f) (.int .i64 t))
      clear hb8 HB7 W7 V7 HQ l6 q0 q1 q2
      cases o1 with
      | true =>
        go_wp2_with fail
        refine wp_region_noPanic ?_
        refine wp_region_L [14,13] (fun w' => w'.cell? ⟨g5, 1, none⟩ = some (.string a) ∧ w'.cell? ⟨g5, 2, none⟩ = some (.string b)) (by kernel_rfl) (⟨p1, p2⟩) (fun hHeld => ?_)
        refine take_F (i := 0) (d := some 44) (v := ?_) (by kernel_rfl) (by kernel_rfl) rfl rfl (by kernel_rfl) (by kernel_rfl) (by kernel_rfl) (fun _ _ _ h => h) (Or.inl ⟨by rfl, ?_⟩) (by assumption) ?_
        rotate_left
        · (intro w hSw; (try dsimp only at hSw); go_simp; (try rw [if_neg (by omega)]); (try (with_reducible rfl)))
        simp only [Act.put, List.setIfInBounds_toArray, List.set_cons_zero, List.set_cons_succ]
        refine take_F (i := 1) (d := some 45) (v := ?_) (by kernel_rfl) (by kernel_rfl) rfl rfl (by kernel_rfl) (by kernel_rfl) (by kernel_rfl) (fun _ _ _ h => h) (Or.inl ⟨by rfl, ?_⟩) (by assumption) ?_
        rotate_left
        · (intro w hSw; (try dsimp only at hSw); go_simp; (try rw [if_neg (by omega)]); (try (with_reducible rfl)))
        simp only [Act.put, List.setIfInBounds_toArray, List.set_cons_zero, List.set_cons_succ]
        refine take_L [8,2] (i := 2) (d := some 46) (v := ?_) (by kernel_rfl) (by kernel_rfl) (by kernel_rfl) (by kernel_rfl) rfl rfl (by kernel_rfl) (by kernel_rfl) (by kernel_rfl) (fun _ _ _ h => h) (Or.inl ⟨by rfl, ?_⟩) (by assumption) ?_
        rotate_left
        · (intro w hSw; (try dsimp only at hSw); go_simp; (try rw [if_neg (by omega)]); (try (with_reducible rfl)))
        simp only [Act.put, List.setIfInBounds_toArray, List.set_cons_zero, List.set_cons_succ]
        refine take_F (i := 3) (d := some 47) (v := ?_) (by kernel_rfl) (by kernel_rfl) rfl rfl (by kernel_rfl) (by kernel_rfl) (by kernel_rfl) (fun _ _ _ h => h) (Or.inl ⟨by rfl, ?_⟩) (by assumption) ?_
        rotate_left
        · (intro w hSw; (try dsimp only at hSw); go_simp; (try rw [if_neg (by omega)]); (try (with_reducible rfl)))
        simp only [Act.put, List.setIfInBounds_toArray, List.set_cons_zero, List.set_cons_succ]
        refine take_F (i := 4) (d := some 48) (v := ?_) (by kernel_rfl) (by kernel_rfl) rfl rfl (by kernel_rfl) (by kernel_rfl) (by kernel_rfl) (fun _ _ _ h => h) (Or.inl ⟨by rfl, ?_⟩) (by assumption) ?_
        rotate_left
        · (intro w hSw; (try dsimp only at hSw); go_simp; (try rw [if_neg (by omega)]); (try (with_reducible rfl)))
        simp only [Act.put, List.setIfInBounds_toArray, List.set_cons_zero, List.set_cons_succ]
        refine take_L [8,5] (i := 5) (d := some 49) (v := ?_) (by kernel_rfl) (by kernel_rfl) (by kernel_rfl) (by kernel_rfl) rfl rfl (by kernel_rfl) (by kernel_rfl) (by kernel_rfl) (fun _ _ _ h => h) (Or.inl ⟨by rfl, ?_⟩) (by assumption) ?_
        rotate_left
        · (intro w hSw; (try dsimp only at hSw); go_simp; (try rw [if_neg (by omega)]); (try (with_reducible rfl)))
        simp only [Act.put, List.setIfInBounds_toArray, List.set_cons_zero, List.set_cons_succ]
        refine take_F (i := 6) (d := some 50) (v := ?_) (by kernel_rfl) (by kernel_rfl) rfl rfl (by kernel_rfl) (by kernel_rfl) (by kernel_rfl) (fun _ _ _ h => h) (Or.inl ⟨by rfl, ?_⟩) (by assumption) ?_
        rotate_left
        · (intro w hSw; (try dsimp only at hSw); go_simp; (try rw [if_neg (by omega)]); (try (with_reducible rfl)))
        simp only [Act.put, List.setIfInBounds_toArray, List.set_cons_zero, List.set_cons_succ]
        refine take_F (i := 7) (d := some 51) (v := ?_) (by kernel_rfl) (by kernel_rfl) rfl rfl (by kernel_rfl) (by kernel_rfl) (by kernel_rfl) (fun _ _ _ h => h) (Or.inl ⟨by rfl, ?_⟩) (by assumption) ?_
        rotate_left
        · (intro w hSw; (try dsimp only at hSw); go_simp; (try rw [if_neg (by omega)]); (try (with_reducible rfl)))
        simp only [Act.put, List.setIfInBounds_toArray, List.set_cons_zero, List.set_cons_succ]
        refine take_F (i := 8) (d := some 52) (v := ?_) (by kernel_rfl) (by kernel_rfl) rfl rfl (by kernel_rfl) (by kernel_rfl) (by kernel_rfl) (fun _ _ _ h => h) (Or.inl ⟨by rfl, ?_⟩) (by assumption) ?_
        rotate_left
        · (intro w hSw; (try dsimp only at hSw); go_simp; (try rw [if_neg (by omega)]); (try (with_reducible rfl)))
        simp only [Act.put, List.setIfInBounds_toArray, List.set_cons_zero, List.set_cons_succ]
        refine take_F (i := 9) (d := some 53) (v := ?_) (by kernel_rfl) (by kernel_rfl) rfl rfl (by kernel_rfl) (by kernel_rfl) (by kernel_rfl) (fun _ _ _ h => h) (Or.inl ⟨by rfl, ?_⟩) (by assumption) ?_
        rotate_left
        · (intro w hSw; (try dsimp only at hSw); go_simp; (try rw [if_neg (by omega)]); (try (with_reducible rfl)))
        simp only [Act.put, List.setIfInBounds_toArray, List.set_cons_zero, List.set_cons_succ]
        refine take_F (i := 10) (d := some 54) (v := ?_) (by kernel_rfl) (by kernel_rfl) rfl rfl (by kernel_rfl) (by kernel_rfl) (by kernel_rfl) (fun _ _ _ h => h) (Or.inl ⟨by rfl, ?_⟩) (by assumption) ?_
        rotate_left
        · (intro w hSw; (try dsimp only at hSw); go_simp; (try rw [if_neg (by omega)]); (try (with_reducible rfl)))
        simp only [Act.put, List.setIfInBounds_toArray, List.set_cons_zero, List.set_cons_succ]
        refine take_F (i := 11) (d := some 55) (v := ?_) (by kernel_rfl) (by kernel_rfl) rfl rfl (by kernel_rfl) (by kernel_rfl) (by kernel_rfl) (fun _ _ _ h => h) (Or.inl ⟨by rfl, ?_⟩) (by assumption) ?_
        rotate_left
        · (intro w hSw; (try dsimp only at hSw); go_simp; (try rw [if_neg (by omega)]); (try (with_reducible rfl)))
        simp only [Act.put, List.setIfInBounds_toArray, List.set_cons_zero, List.set_cons_succ]
        refine take_F (i := 12) (d := some 56) (v := ?_) (by kernel_rfl) (by kernel_rfl) rfl rfl (by kernel_rfl) (by kernel_rfl) (by kernel_rfl) (fun _ _ _ h => h) (Or.inl ⟨by rfl, ?_⟩) (by assumption) ?_
        rotate_left
        · (intro w hSw; (try dsimp only at hSw); go_simp; (try rw [if_neg (by omega)]); (try (with_reducible rfl)))
        simp only [Act.put, List.setIfInBounds_toArray, List.set_cons_zero, List.set_cons_succ]
        refine late_L (i := 13) (d := none) (by kernel_rfl) rfl rfl (by kernel_rfl) (fun Kq hKq => ?_)
        go_simp
        refine hKq.out _ _ ?_
        clear hKq Kq
        refine late_L (i := 14) (d := (some 3)) (by kernel_rfl) rfl rfl (by kernel_rfl) (fun Kq hKq => ?_)
        go_simp
        refine hKq.out _ _ ?_
        clear hKq Kq
        refine done_L (by kernel_rfl) ?_ _
        refine NoPanic.normal ?_
        go_wp2_with fail
        obtain ⟨⟨k0, k1, k2, k3⟩, hbz⟩ := HD.out
        refine bodyPost_ret (v := .tuple #[.agg #[.string a, .string b, .int .i64 f, .int .i64 t], .bool o2]) (by simp [results, Tryd.results56, go_sem, k0, k1, k2, k3]) rfl ?_
        exact RetLl.of Hfin.out hbz.drew
      | false =>
        go_wp2_with fail
        refine wp_region_noPanic ?_
        refine wp_region_L [14,13] (fun w' => w'.cell? ⟨g5, 1, none⟩ = some (.string a) ∧ w'.cell? ⟨g5, 2, none⟩ = some (.string b)) (by kernel_rfl) (⟨p1, p2⟩) (fun hHeld => ?_)
        refine take_F (i := 0) (d := some 44) (v := ?_) (by kernel_rfl) (by kernel_rfl) rfl rfl (by kernel_rfl) (by kernel_rfl) (by kernel_rfl) (fun _ _ _ h => h) (Or.inl ⟨by rfl, ?_⟩) (by assumption) ?_
        rotate_left
        · (intro w hSw; (try dsimp only at hSw); go_simp; (try rw [if_neg (by omega)]); (try (with_reducible rfl)))
        simp only [Act.put, List.setIfInBounds_toArray, List.set_cons_zero, List.set_cons_succ]
        refine take_F (i := 1) (d := some 45) (v := ?_) (by kernel_rfl) (by kernel_rfl) rfl rfl (by kernel_rfl) (by kernel_rfl) (by kernel_rfl) (fun _ _ _ h => h) (Or.inl ⟨by rfl, ?_⟩) (by assumption) ?_
        rotate_left
        · (intro w hSw; (try dsimp only at hSw); go_simp; (try rw [if_neg (by omega)]); (try (with_reducible rfl)))
        simp only [Act.put, List.setIfInBounds_toArray, List.set_cons_zero, List.set_cons_succ]
        refine take_L [8,2] (i := 2) (d := some 46) (v := ?_) (by kernel_rfl) (by kernel_rfl) (by kernel_rfl) (by kernel_rfl) rfl rfl (by kernel_rfl) (by kernel_rfl) (by kernel_rfl) (fun _ _ _ h => h) (Or.inl ⟨by rfl, ?_⟩) (by assumption) ?_
        rotate_left
        · (intro w hSw; (try dsimp only at hSw); go_simp; (try rw [if_neg (by omega)]); (try (with_reducible rfl)))
        simp only [Act.put, List.setIfInBounds_toArray, List.set_cons_zero, List.set_cons_succ]
        refine take_F (i := 3) (d := some 47) (v := ?_) (by kernel_rfl) (by kernel_rfl) rfl rfl (by kernel_rfl) (by kernel_rfl) (by kernel_rfl) (fun _ _ _ h => h) (Or.inl ⟨by rfl, ?_⟩) (by assumption) ?_
        rotate_left
        · (intro w hSw; (try dsimp only at hSw); go_simp; (try rw [if_neg (by omega)]); (try (with_reducible rfl)))
        simp only [Act.put, List.setIfInBounds_toArray, List.set_cons_zero, List.set_cons_succ]
        refine take_F (i := 4) (d := some 48) (v := ?_) (by kernel_rfl) (by kernel_rfl) rfl rfl (by kernel_rfl) (by kernel_rfl) (by kernel_rfl) (fun _ _ _ h => h) (Or.inl ⟨by rfl, ?_⟩) (by assumption) ?_
        rotate_left
        · (intro w hSw; (try dsimp only at hSw); go_simp; (try rw [if_neg (by omega)]); (try (with_reducible rfl)))
        simp only [Act.put, List.setIfInBounds_toArray, List.set_cons_zero, List.set_cons_succ]
        refine take_L [8,5] (i := 5) (d := some 49) (v := ?_) (by kernel_rfl) (by kernel_rfl) (by kernel_rfl) (by kernel_rfl) rfl rfl (by kernel_rfl) (by kernel_rfl) (by kernel_rfl) (fun _ _ _ h => h) (Or.inl ⟨by rfl, ?_⟩) (by assumption) ?_
        rotate_left
        · (intro w hSw; (try dsimp only at hSw); go_simp; (try rw [if_neg (by omega)]); (try (with_reducible rfl)))
        simp only [Act.put, List.setIfInBounds_toArray, List.set_cons_zero, List.set_cons_succ]
        refine take_F (i := 6) (d := some 50) (v := ?_) (by kernel_rfl) (by kernel_rfl) rfl rfl (by kernel_rfl) (by kernel_rfl) (by kernel_rfl) (fun _ _ _ h => h) (Or.inl ⟨by rfl, ?_⟩) (by assumption) ?_
        rotate_left
        · (intro w hSw; (try dsimp only at hSw); go_simp; (try rw [if_neg (by omega)]); (try (with_reducible rfl)))
        simp only [Act.put, List.setIfInBounds_toArray, List.set_cons_zero, List.set_cons_succ]
        refine take_F (i := 7) (d := some 51) (v := ?_) (by kernel_rfl) (by kernel_rfl) rfl rfl (by kernel_rfl) (by kernel_rfl) (by kernel_rfl) (fun _ _ _ h => h) (Or.inl ⟨by rfl, ?_⟩) (by assumption) ?_
        rotate_left
        · (intro w hSw; (try dsimp only at hSw); go_simp; (try rw [if_neg (by omega)]); (try (with_reducible rfl)))
        simp only [Act.put, List.setIfInBounds_toArray, List.set_cons_zero, List.set_cons_succ]
        refine take_F (i := 8) (d := some 52) (v := ?_) (by kernel_rfl) (by kernel_rfl) rfl rfl (by kernel_rfl) (by kernel_rfl) (by kernel_rfl) (fun _ _ _ h => h) (Or.inl ⟨by rfl, ?_⟩) (by assumption) ?_
        rotate_left
        · (intro w hSw; (try dsimp only at hSw); go_simp; (try rw [if_neg (by omega)]); (try (with_reducible rfl)))
        simp only [Act.put, List.setIfInBounds_toArray, List.set_cons_zero, List.set_cons_succ]
        refine take_F (i := 9) (d := some 53) (v := ?_) (by kernel_rfl) (by kernel_rfl) rfl rfl (by kernel_rfl) (by kernel_rfl) (by kernel_rfl) (fun _ _ _ h => h) (Or.inl ⟨by rfl, ?_⟩) (by assumption) ?_
        rotate_left
        · (intro w hSw; (try dsimp only at hSw); go_simp; (try rw [if_neg (by omega)]); (try (with_reducible rfl)))
        simp only [Act.put, List.setIfInBounds_toArray, List.set_cons_zero, List.set_cons_succ]
        refine take_F (i := 10) (d := some 54) (v := ?_) (by kernel_rfl) (by kernel_rfl) rfl rfl (by kernel_rfl) (by kernel_rfl) (by kernel_rfl) (fun _ _ _ h => h) (Or.inl ⟨by rfl, ?_⟩) (by assumption) ?_
        rotate_left
        · (intro w hSw; (try dsimp only at hSw); go_simp; (try rw [if_neg (by omega)]); (try (with_reducible rfl)))
        simp only [Act.put, List.setIfInBounds_toArray, List.set_cons_zero, List.set_cons_succ]
        refine take_F (i := 11) (d := some 55) (v := undef) (by kernel_rfl) (by kernel_rfl) rfl rfl (by kernel_rfl) (by kernel_rfl) (by kernel_rfl) (fun _ _ _ h => h) (Or.inr ⟨by rfl, rfl⟩) (by assumption) ?_
        simp only [Act.put, List.setIfInBounds_toArray, List.set_cons_zero, List.set_cons_succ]
        refine take_F (i := 12) (d := some 56) (v := ?_) (by kernel_rfl) (by kernel_rfl) rfl rfl (by kernel_rfl) (by kernel_rfl) (by kernel_rfl) (fun _ _ _ h => h) (Or.inl ⟨by rfl, ?_⟩) (by assumption) ?_
        rotate_left
        · (intro w hSw; (try dsimp only at hSw); go_simp; (try rw [if_neg (by omega)]); (try (with_reducible rfl)))
        simp only [Act.put, List.setIfInBounds_toArray, List.set_cons_zero, List.set_cons_succ]
        refine late_L (i := 13) (d := none) (by kernel_rfl) rfl rfl (by kernel_rfl) (fun Kq hKq => ?_)
        go_simp
        refine hKq.out _ _ ?_
        clear hKq Kq
        refine late_L (i := 14) (d := (some 3)) (by kernel_rfl) rfl rfl (by kernel_rfl) (fun Kq hKq => ?_)
        go_simp
        refine hKq.out _ _ ?_
        clear hKq Kq
        refine done_L (by kernel_rfl) ?_ _
        refine NoPanic.normal ?_
        go_wp2_with fail
        obtain ⟨⟨k0, k1, k2, k3⟩, hbz⟩ := HD.out
        refine bodyPost_ret (v := .tuple #[.agg #[.string a, .string b, .int .i64 f, .int .i64 t], .bool false]) (by simp [results, Tryd.results56, go_sem, k0, k1, k2, k3]) rfl ?_
        exact RetLl.of Hfin.out hbz.drew
    · have hlen2' : ((splitB 46 x).length : Int) ≤ 1073741825 := by omega
      have Hr := Lib.hid (show rdLn s = none by rw [rdLn_three He.out, ht2]; rfl)
      clear HC ht2 hmem2
      refine (HS2.out _).mono ?_; rintro e w6 ⟨v6, rfl, ho6, hb6⟩
      have HB6 := Lib.hid (HB5.out.trans (hb6.mono HB5.out.size))
      obtain ⟨A6, c6, rfl⟩ := sl_of_own ho6
      have hnq : (((splitB 46 x).length : Int) == 3) = false := by rw [beq_eq_false_iff_ne]; omega
      have hnq2 : (((splitB 46 x).length : Int) != 3) = true := by simp [bne, hnq]
      obtain ⟨⟨d0, d1, d2, d3⟩, e0, e1, e2, e3⟩ := res4_pre HB6.out
      have HD := Lib.hid (res4_post HB6.out (.string ⟨#[]⟩) (.string ⟨#[]⟩) (.int .i64 0) (.int .i64 0))
      generalize (splitB 46 x).length = n at *
      clear ho6 hb6 HS2 HB5 W5 p0 p1 p2 l5 hne
      go_wp2_with fail
      obtain ⟨⟨k0, k1, k2, k3⟩, hbz⟩ := HD.out
      refine bodyPost_ret (v := .tuple #[.agg #[.string ⟨#[]⟩, .string ⟨#[]⟩, .int .i64 0, .int .i64 0], .bool false]) (by simp [results, Tryd.results56, go_sem, k0, k1, k2, k3]) rfl ?_
      exact RetLl.none Hr.out hbz
    · have Hr := Lib.hid (show rdLn s = none by rw [rdLn_three He.out, ht2]; rfl)
      rw [hs2] at HS2
      clear HC ht2 hs2 hmem2
      refine (HS2.out _).mono ?_; rintro e w6 ⟨v6, rfl, ho6, hb6⟩
      have HB6 := Lib.hid (HB5.out.trans (hb6.mono HB5.out.size))
      obtain ⟨g6, c6, rfl, hw6⟩ := own_w3 ho6
      obtain ⟨l6, q0, q1, q2⟩ := hw6
      have hn := ne_some (s := e2) (by omega)
      obtain ⟨⟨d0, d1, d2, d3⟩, e0, e1, e2', e3⟩ := res4_pre HB6.out
      have HD := Lib.hid (res4_post HB6.out (.string ⟨#[]⟩) (.string ⟨#[]⟩) (.int .i64 0) (.int .i64 0))
      clear ho6 hb6 HS2 HB5 W5 p0 p1 p2 l5 l6 hne
      go_wp2_with fail
      obtain ⟨⟨k0, k1, k2, k3⟩, hbz⟩ := HD.out
      refine bodyPost_ret (v := .tuple #[.agg #[.string ⟨#[]⟩, .string ⟨#[]⟩, .int .i64 0, .int .i64 0], .bool false]) (by simp [results, Tryd.results56, go_sem, k0, k1, k2, k3]) rfl ?_
      exact RetLl.none Hr.out hbz
  · have Hr := Lib.hid (rdLn_not h3)
    have hnq : (((splitB 32 s).length : Int) == 3) = false := by rw [beq_eq_false_iff_ne]; omega
    have hnq2 : (((splitB 32 s).length : Int) != 3) = true := by simp [bne, hnq]
    have hlen' : ((splitB 32 s).length : Int) ≤ 1073741825 := by omega
    go_enter Tryd.func56, Tryd.ntmps56
    go_wp2_with fail
    refine (HSp.out _).mono ?_; rintro e w5 ⟨v5, rfl, ho5, hb5⟩
    have HB5 := Lib.hid (HB0.out.trans (hb5.mono HB0.out.size))
    obtain ⟨A5, c5, rfl⟩ := sl_of_own ho5
    obtain ⟨⟨d0, d1, d2, d3⟩, e0, e1, e2, e3⟩ := res4_pre HB5.out
    have HD := Lib.hid (res4_post HB5.out (.string ⟨#[]⟩) (.string ⟨#[]⟩) (.int .i64 0) (.int .i64 0))
    generalize (splitB 32 s).length = n at *
    clear ho5 hb5 HSp HB0 h3
    go_wp2_with fail
    obtain ⟨⟨k0, k1, k2, k3⟩, hbz⟩ := HD.out
    refine bodyPost_ret (v := .tuple #[.agg #[.string ⟨#[]⟩, .string ⟨#[]⟩, .int .i64 0, .int .i64 0], .bool false]) (by simp [results, Tryd.results56, go_sem, k0, k1, k2, k3]) rfl ?_
    exact RetLl.none Hr.out hbz
end Go.Proofs.YtiddhelabmaghaaDoor
/- Append of a row that is read, at a step of a region that draws its order. No program is named here. -/
namespace Go.Proofs.YtiddhelabmaghaaDoor
open Go.RowKit

section
variable {P : Program}
theorem wp_apr {w : World} {o : Oper} {a : Act} {K : Act → World → Prop} {Q : Exit → Act → World → Prop} (t e : TypeId) (z : Value) (size bytes : Nat)
    (ht : P.underlying t = some (.slice e)) (hinfo : (P.info? e).map (fun i => (i.zero, i.size, i.bytes)) = some (some z, size, bytes)) (hzs : z.cells.size = size) (hsz : 0 < size)
    (s x : Operand) (ho : o.op = .call { callee := .builtin .append, args := #[s, x], argTypes := #[t, t] })
    (base : Nat) (v : Value) (n : Nat) (xs : List Value) (hs : a.eval s = v) (hown : w.ownsRow base e size v n xs)
    (b off m c : Nat) (cs : List Value) (hx : a.eval x = .slice (some ⟨b, off, none⟩) m c) (hl : cs.length = m * size) (hc : ∀ (i : Nat) (u : Value), cs[i]? = some u → w.cell? ⟨b, off + i, none⟩ = some u) (h1 : ∀ u ∈ cs, u.oneCell' = true)
    (h63 : n + m ≤ maxLen) (hbytes : (n + m) * bytes ≤ 140737488355328) (hbase : base ≤ w.heap.size)
    (h : ∀ v' w', w'.ownsRow base e size v' (n + m) (xs ++ cs) → w.grownBy w' v.ownBlock → K (a.put o.dst v') w') :
    o.wp P a w K Q := by
  obtain ⟨i, hi, hz, h2, h3⟩ := info_parts hinfo
  refine wp_append_own _ s x t ho base e i z size bytes ht hi hz h2 h3 hzs hsz v n xs hs hown ⟨b, off, none⟩ m c cs hx hl (fun j u hu => ?_) h1 h63 hbytes hbase ?_
  · have hadd : (⟨b, off, none⟩ : Addr).add j = ⟨b, off + j, none⟩ := by unfold Addr.add; split <;> simp_all
    rw [hadd]; exact hc j u hu
  · intro v' w' ho' hg' _
    exact h v' w' ho' hg'
theorem step_apr {w : World} {ops : Array Oper} {o : Oper} {a : Act} {K : Act → World → Prop} {Q : Exit → Act → World → Prop} {E : Prop} (t e : TypeId) (z : Value) (size bytes : Nat)
    (ht : P.underlying t = some (.slice e)) (hinfo : (P.info? e).map (fun i => (i.zero, i.size, i.bytes)) = some (some z, size, bytes)) (hzs : z.cells.size = size) (hsz : 0 < size)
    (s x : Operand) (hgd : o.guard = none) (ho : o.op = .call { callee := .builtin .append, args := #[s, x], argTypes := #[t, t] })
    (base : Nat) (v : Value) (n : Nat) (xs : List Value) (hs : a.eval s = v) (hown : w.ownsRow base e size v n xs)
    (b off m c : Nat) (cs : List Value) (hx : a.eval x = .slice (some ⟨b, off, none⟩) m c) (hl : cs.length = m * size) (hc : ∀ (i : Nat) (u : Value), cs[i]? = some u → w.cell? ⟨b, off + i, none⟩ = some u) (h1 : ∀ u ∈ cs, u.oneCell' = true)
    (h63 : n + m ≤ maxLen) (hbytes : (n + m) * bytes ≤ 140737488355328) (hbase : base ≤ w.heap.size)
    (h : ∀ v' w', w'.ownsRow base e size v' (n + m) (xs ++ cs) → w.grownBy w' v.ownBlock → K (a.put o.dst v') w') :
    if Region.wanted o (yielded ops a.tmps) = true then Oper.wp P o a w K Q else E := by
  have hw : Region.wanted o (yielded ops a.tmps) = true := by simp [Region.wanted, hgd]
  rw [if_pos hw]
  exact wp_apr t e z size bytes ht hinfo hzs hsz s x ho base v n xs hs hown b off m c cs hx hl hc h1 h63 hbytes hbase h
end
end Go.Proofs.YtiddhelabmaghaaDoor
/- Loans, part 12: a loan is added, in plain words; rows of loans. -/
namespace Go.Proofs.YtiddhelabmaghaaDoor
open Go.RowKit Go.Joins

theorem flat_part {xs : List Ln} (k : Nat) : xs.flatMap cellsL = (xs.take k).flatMap cellsL ++ (xs.drop k).flatMap cellsL := by
  rw [← List.flatMap_append, List.take_append_drop]
theorem RdL.cells {w : World} {B b o n c : Nat} {xs : List Ln} (h : RdL w B (.slice (some ⟨b, o, none⟩) n c) xs) (i : Nat) (u : Value) (hu : (xs.flatMap cellsL)[i]? = some u) : w.cell? ⟨b, o + i, none⟩ = some u := by
  obtain ⟨hl, A, c', hv, hc⟩ := h
  injection hv with e1 e2 e3
  have hi := (List.getElem?_eq_some_iff.1 hu).1
  obtain ⟨b', o', hA, _, hcc⟩ := hc (by omega)
  rw [hA] at e1
  obtain ⟨rfl, rfl⟩ : b = b' ∧ o = o' := by simpa using e1
  exact hcc i u hu
theorem RdL.head {w : World} {B b o n c : Nat} {xs : List Ln} (h : RdL w B (.slice (some ⟨b, o, none⟩) n c) xs) (k i : Nat) (u : Value) (hu : ((xs.take k).flatMap cellsL)[i]? = some u) : w.cell? ⟨b, o + i, none⟩ = some u := by
  refine h.cells i u ?_
  rw [flat_part k, List.getElem?_append_left (List.getElem?_eq_some_iff.1 hu).1]
  exact hu
theorem RdL.tail {w : World} {B b o n c : Nat} {xs : List Ln} (h : RdL w B (.slice (some ⟨b, o, none⟩) n c) xs) (k : Nat) (hk : k ≤ xs.length) (i : Nat) (u : Value) (hu : ((xs.drop k).flatMap cellsL)[i]? = some u) : w.cell? ⟨b, o + k * 4 + i, none⟩ = some u := by
  have : (xs.flatMap cellsL)[k * 4 + i]? = some u := by
    rw [flat_part k, List.getElem?_append_right (by rw [flat_len cellsL 4 (fun _ => rfl), List.length_take]; omega), flat_len cellsL 4 (fun _ => rfl), List.length_take, ← hu]
    congr 1; omega
  have := h.cells _ u this
  rwa [← Nat.add_assoc] at this
theorem cellsL_one (l : List Ln) : ∀ u ∈ l.flatMap cellsL, u.oneCell' = true := by
  intro u hu
  obtain ⟨x, _, hx⟩ := List.mem_flatMap.1 hu
  simp [cellsL] at hx
  rcases hx with rfl | rfl | rfl | rfl <;> rfl
/-- a row of loans of the call's own -/
def OwnL (w : World) (base : Nat) (v : Value) (zs : List Ln) : Prop := w.ownsRow base 53 4 v zs.length (zs.flatMap cellsL)
theorem OwnL.app {w : World} {base n m : Nat} {v : Value} {zs ys : List Ln} (h : w.ownsRow base 53 4 v (n + m) (zs.flatMap cellsL ++ ys.flatMap cellsL)) (hn : n = zs.length) (hm : m = ys.length) : OwnL w base v (zs ++ ys) := by
  subst hn hm
  unfold OwnL
  rw [List.length_append, List.flatMap_append]; exact h
theorem OwnL.mid {w : World} {base base' a m : Nat} {v : Value} {xs ys : List Ln} {x : Ln} (h : w.ownsRow base' 53 4 v (a + 1 + m) ((xs.flatMap cellsL ++ (#[Value.string x.what, .string x.who, .int .i64 x.from_, .int .i64 x.till] : Array Value).toList) ++ ys.flatMap cellsL)) (ha : xs.length = a) (hm : ys.length = m) (hb : base ≤ base') : OwnL w base v ((xs ++ [x]) ++ ys) := by
  subst ha hm
  have e1 : ((xs ++ [x]) ++ ys).length = xs.length + 1 + ys.length := by simp; omega
  have e2 : ((xs ++ [x]) ++ ys).flatMap cellsL = (xs.flatMap cellsL ++ (#[Value.string x.what, .string x.who, .int .i64 x.from_, .int .i64 x.till] : Array Value).toList) ++ ys.flatMap cellsL := by
    rw [List.flatMap_append, List.flatMap_append]; simp [cellsL]
  unfold OwnL
  rw [e1, e2]
  exact ownsRow_le h hb
theorem OwnL.rd {w : World} {base : Nat} {v : Value} {zs : List Ln} (h : OwnL w base v zs) : RdL w w.heap.size v zs := Rd.of_own h
theorem OwnL.slice {w : World} {base : Nat} {v : Value} {zs : List Ln} (h : OwnL w base v zs) : ∃ A c, v = .slice A zs.length c := h.rd.slice

/-- the last place behind which the new loan stands, from the front -/
def upI (q : Ln → Bool) : List Ln → Nat → Nat → Nat
  | [], _, a => a
  | y :: l, k, a => upI q l (k + 1) (if q y = true then k + 1 else a)
/-- the same, from the end -/
def dnS (p : Nat → Bool) : Nat → Nat
  | 0 => 0
  | k + 1 => if p k = true then dnS p k else k + 1
theorem upI_at (q : Ln → Bool) (xs : List Ln) (k a : Nat) (hk : k < xs.length) : upI q (xs.drop k) k a = upI q (xs.drop (k + 1)) (k + 1) (if q xs[k] = true then k + 1 else a) := by
  rw [List.drop_eq_getElem_cons hk]; rfl
theorem upI_app (q : Ln → Bool) : ∀ (l r : List Ln) (k a : Nat), upI q (l ++ r) k a = upI q r (k + l.length) (upI q l k a)
  | [], r, k, a => rfl
  | y :: l, r, k, a => by
    show upI q (l ++ r) (k + 1) (if q y = true then k + 1 else a) = upI q r (k + (y :: l).length) (upI q l (k + 1) (if q y = true then k + 1 else a))
    rw [upI_app q l r, List.length_cons, show k + (l.length + 1) = k + 1 + l.length by omega]
theorem upI_dn (q : Ln → Bool) (p : Nat → Bool) (xs : List Ln) : ∀ n, n ≤ xs.length → (∀ j, j < n → p j = !q (atL xs j)) → upI q (xs.take n) 0 0 = dnS p n
  | 0, _, _ => rfl
  | n + 1, hn, hp => by
    rw [List.take_succ_eq_append_getElem (by omega), upI_app, upI_dn q p xs n (by omega) (fun j hj => hp j (by omega))]
    have h1 := hp n (by omega)
    rw [atL_at xs n (by omega)] at h1
    show (if q xs[n] = true then 0 + (xs.take n).length + 1 else dnS p n) = (if p n = true then dnS p n else n + 1)
    rw [h1, List.length_take, Nat.min_eq_left (by omega), Nat.zero_add]
    cases q xs[n] <;> rfl
theorem dnS_le (p : Nat → Bool) : ∀ n, dnS p n ≤ n
  | 0 => Nat.le_refl _
  | n + 1 => by
    unfold dnS
    split
    · exact Nat.le_succ_of_le (dnS_le p n)
    · exact Nat.le_refl _
def hitI (xs : List Ln) (x : Ln) (k : Nat) : Bool := !clash x (atL xs k)
def addC (xs : List Ln) (x : Ln) : Int := if loansOk xs = false then 1 else if loanOk x = false then 2 else if chk xs.length (hitI xs x) = false then 9 else if 60 ≤ xs.length then 5 else 0
def addAt (xs : List Ln) (x : Ln) : Nat := dnS (fun k => before x (atL xs k)) xs.length
def addR (xs : List Ln) (x : Ln) : List Ln := if addC xs x = 0 then xs.take (addAt xs x) ++ x :: xs.drop (addAt xs x) else []
theorem addAt_le (xs : List Ln) (x : Ln) : addAt xs x ≤ xs.length := dnS_le _ _
theorem addAt_up {xs : List Ln} {x : Ln} (h1 : loansOk xs = true) (h2 : loanOk x = true) (h3 : chk xs.length (hitI xs x) = true) : upI (fun y => before y x) xs 0 0 = addAt xs x := by
  have := upI_dn (fun y => before y x) (fun k => before x (atL xs k)) xs xs.length (Nat.le_refl _) (fun j hj => by
    have h4 := chk_get h3 hj
    unfold hitI at h4
    unfold loansOk at h1
    simp only [Bool.and_eq_true] at h1
    have h5 := chk_get h1.1 hj
    unfold placeS at h5
    simp only [Bool.and_eq_true] at h5
    exact before_flip h2 h5.1.1 (by simpa using h4))
  rwa [List.take_length] at this
theorem add_1 {xs : List Ln} {x : Ln} (h : loansOk xs = false) : addC xs x = 1 ∧ addR xs x = [] := by
  have : addC xs x = 1 := by unfold addC; rw [if_pos h]
  exact ⟨this, by unfold addR; rw [this]; rfl⟩
theorem add_2 {xs : List Ln} {x : Ln} (h : loansOk xs = true) (h2 : loanOk x = false) : addC xs x = 2 ∧ addR xs x = [] := by
  have : addC xs x = 2 := by unfold addC; rw [h, h2]; rfl
  exact ⟨this, by unfold addR; rw [this]; rfl⟩
theorem add_9 {xs : List Ln} {x : Ln} (h : loansOk xs = true) (h2 : loanOk x = true) (k : Nat) (hk : k < xs.length) (h3 : clash x xs[k] = true) : addC xs x = 9 ∧ addR xs x = [] := by
  have hc : chk xs.length (hitI xs x) = false := chk_bad k hk (by unfold hitI; rw [atL_at xs k hk, h3]; rfl)
  have : addC xs x = 9 := by unfold addC; rw [h, h2, hc]; rfl
  exact ⟨this, by unfold addR; rw [this]; rfl⟩
theorem add_5 {xs : List Ln} {x : Ln} (h : loansOk xs = true) (h2 : loanOk x = true) (h3 : chk xs.length (hitI xs x) = true) (h4 : 60 ≤ xs.length) : addC xs x = 5 ∧ addR xs x = [] := by
  have : addC xs x = 5 := by unfold addC; rw [h, h2, h3, if_pos h4]; rfl
  exact ⟨this, by unfold addR; rw [this]; rfl⟩
theorem add_0 {xs : List Ln} {x : Ln} (h : loansOk xs = true) (h2 : loanOk x = true) (h3 : chk xs.length (hitI xs x) = true) (h4 : xs.length < 60) : addC xs x = 0 ∧ addR xs x = (xs.take (addAt xs x) ++ [x]) ++ xs.drop (addAt xs x) := by
  have : addC xs x = 0 := by unfold addC; rw [h, h2, h3]; simp; omega
  exact ⟨this, by unfold addR; rw [if_pos this]; simp⟩
theorem loansOk_len {xs : List Ln} (h : loansOk xs = true) : xs.length ≤ 60 := by
  unfold loansOk at h
  simp only [Bool.and_eq_true, decide_eq_true_eq] at h
  exact h.2
theorem hit_step {xs : List Ln} {x : Ln} {k : Nat} (hk : k < xs.length) (h0 : chk k (hitI xs x) = true) (h : clash x xs[k] = false) : chk (k + 1) (hitI xs x) = true :=
  chk_step h0 (by unfold hitI; rw [atL_at xs k hk, h]; rfl)

/-- a new list of loans and a code -/
def RetLn (code : Int) (zs : List Ln) (w : World) (e : Ending) (w' : World) : Prop :=
  ∃ v, e = .returned (.tuple #[v, .int .i64 code]) ∧ OwnL w' w.heap.size v zs ∧ Below w.heap.size w w'
theorem RetLn_no {code c2 : Int} {zs : List Ln} {w w' : World} (h : code = c2 ∧ zs = []) (hb : Below w.heap.size w w') : RetLn code zs w (.returned (.tuple #[.slice none 0 0, .int .i64 c2])) w' := by
  obtain ⟨rfl, rfl⟩ := h
  exact ⟨_, rfl, World.ownsRow_nil _ _ _ _, hb⟩
theorem RetLn_yes {code c2 : Int} {zs l : List Ln} {v : Value} {w w' : World} (h : code = c2 ∧ zs = l) (ho : OwnL w' w.heap.size v l) (hb : Below w.heap.size w w') : RetLn code zs w (.returned (.tuple #[v, .int .i64 c2])) w' := by
  obtain ⟨rfl, rfl⟩ := h
  exact ⟨_, rfl, ho, hb⟩
end Go.Proofs.YtiddhelabmaghaaDoor
/- Loans' texts, read by the reference: ReadLoans. -/
namespace Go.Proofs.YtiddhelabmaghaaDoor
open Go.RowKit Go.Joins

def RetRn (w : World) (r : Option (List Ln)) (e : Ending) (w' : World) : Prop :=
  ∃ v, e = .returned (.tuple #[v, .bool r.isSome]) ∧ OwnL w' w.heap.size v (r.getD []) ∧ Below w.heap.size w w'
theorem RetRn.none {w w' : World} {r : Option (List Ln)} (h : r = none) (hb : Below w.heap.size w w') : RetRn w r (.returned (.tuple #[.slice none 0 0, .bool false])) w' := by
  subst h; exact ⟨_, rfl, ⟨rfl, .inl ⟨rfl, rfl⟩⟩, hb⟩
theorem RetRn.some {w w' : World} {r : Option (List Ln)} {xs : List Ln} {v : Value} (h : r = some xs) (ho : OwnL w' w.heap.size v xs) (hb : Below w.heap.size w w') : RetRn w r (.returned (.tuple #[v, .bool true])) w' := by
  subst h; exact ⟨_, rfl, ho, hb⟩
theorem lines_last {s : ByteArray} : ∃ x, (splitB 10 s).getLast? = some x ∧ ((x.size ≠ 0 ∧ linesB 10 s = none) ∨ (x.size = 0 ∧ linesB 10 s = some (splitB 10 s).dropLast)) := by
  have hne := splitB_ne 10 s
  unfold linesB
  generalize splitB 10 s = L at *
  refine ⟨L.getLast hne, List.getLast?_eq_some_getLast hne, ?_⟩
  rw [List.getLast?_eq_some_getLast hne]
  generalize L.getLast hne = x
  by_cases h : x.size = 0
  · refine .inr ⟨h, ?_⟩
    have : x = ⟨#[]⟩ := by
      obtain ⟨⟨l⟩⟩ := x
      have : l = [] := List.eq_nil_of_length_eq_zero h
      rw [this]
    rw [this, if_pos rfl]
  · refine .inl ⟨h, ?_⟩
    rw [if_neg]
    intro e
    have := Option.some.inj e
    rw [this] at h
    exact h rfl
theorem drop_get {L : List ByteArray} {k : Nat} (h : k < L.dropLast.length) : L.dropLast[k] = L[k]'(by rw [List.length_dropLast] at h; omega) := by
  rw [List.getElem_dropLast]
theorem ones4 (a b : ByteArray) (f t : Int) : ∀ u ∈ (#[Value.string a, Value.string b, .int .i64 f, .int .i64 t] : Array Value).toList, u.oneCell' = true := by
  simp [Value.oneCell']
theorem ln_snoc {xs : List Ln} {a b : ByteArray} {f t : Int} : xs.flatMap cellsL ++ (#[Value.string a, Value.string b, .int .i64 f, .int .i64 t] : Array Value).toList = (xs ++ [(⟨a, b, f, t⟩ : Ln)]).flatMap cellsL := by
  rw [List.flatMap_append]; simp [cellsL]

set_option maxRecDepth 100000 in
set_option maxHeartbeats 3200000 in
theorem ReadLoansS_any (s : ByteArray) (w : World) (hs : s.size ≤ 1048576) : Calls Tryd.prog 7 #[.string s] w (RetRn w (rdLoans s)) := by
  have HSp := Lib.hid (fun wx => l01Split_any s 10 wx (by omega))
  unfold RetPs at HSp
  have hlen := splitB_len 10 s.size s (Nat.le_refl _)
  obtain ⟨x, hx, hcs⟩ := lines_last (s := s)
  have hmem := splitB_mem 10 s.size s (Nat.le_refl _)
  have hpos : 0 < (splitB 10 s).length := List.length_pos_iff.2 (splitB_ne 10 s)
  have Hcs := Lib.hid hcs
  generalize hL : splitB 10 s = L at *
  have hxl : L[L.length - 1]'(by omega) = x := by
    rw [List.getLast?_eq_getElem?, List.getElem?_eq_getElem (by omega)] at hx
    exact Option.some.inj hx
  clear hL hx hcs
  obtain ⟨n, hn⟩ : ∃ n, L.length = n + 1 := ⟨L.length - 1, by omega⟩
  have Hn := Lib.hid hn
  have HB0 := Lib.hid (Below.refl w.heap.size w)
  go_enter Tryd.func7, Tryd.ntmps7
  go_wp2_with fail
  refine (HSp.out _).mono ?_; rintro e w5 ⟨v5, rfl, ho5, hb5⟩
  obtain ⟨g5, c5, rfl, _, _, hlt5, hc5⟩ := own_strs ho5 hpos
  have hlast := hc5 (L.length - 1) (by omega)
  rw [hxl] at hlast
  have HC5 := Lib.hid hc5
  have Hmem := Lib.hid hmem
  simp only [hn, Nat.add_sub_cancel] at hlast
  rw [hn]
  have Hlt5 := Lib.hid hlt5
  have HB5 := Lib.hid hb5
  have hb0 := Lib.hid ((Below.refl w5.heap.size w5).alloc (Nat.le_refl _) (.cells #[] 53))
  have ho0 := Lib.hid (World.ownsRow_made (base := w5.heap.size) (e := 53) (size := 4) w5 #[] 0 (Nat.le_refl _) (by simp [maxLen]) rfl)
  have hlast2 := (hb0.out.cell (p := ⟨g5, n, none⟩) hlt5).trans hlast
  have hn6 : n ≤ 1048576 := by omega
  clear ho5 hb5 HSp hxl hlast hc5 hmem hlt5 hn hpos hlen
  rcases Hcs.out with ⟨hx0, hl⟩ | ⟨hx0, hl⟩
  · have Hr := Lib.hid (rdLoans_none hl)
    have hne := ne_some (s := x) (by omega)
    clear Hcs hl
    go_wp2_with fail
    go_ret2
    exact RetRn.none Hr.out (HB5.out.trans (hb0.out.mono HB5.out.size))
  · have hne := ne_none hx0
    by_cases h61 : 60 < n
    · have Hr := Lib.hid (rdLoans_long hl (by rw [List.length_dropLast, Hn.out]; omega))
      have h61' : (61 : Int) < (n : Int) + 1 := by omega
      clear Hcs hl
      go_wp2_with fail
      go_ret2
      exact RetRn.none Hr.out (HB5.out.trans (hb0.out.mono HB5.out.size))
    · have h61' : ¬ (61 : Int) < (n : Int) + 1 := by omega
      have Hl := Lib.hid hl
      have hdl : L.dropLast.length = n := by rw [List.length_dropLast, Hn.out]; omega
      have Hget := Lib.hid (fun k (h : k < L.dropLast.length) => drop_get h)
      have HM := Lib.hid (show ∀ z ∈ L.dropLast, z.size ≤ 1048576 from fun z hz => Nat.le_trans (Hmem.out z (List.dropLast_subset _ hz)) hs)
      have HC := Lib.hid (show ∀ (k : Nat) (h : k < L.dropLast.length), w5.cell? ⟨g5, k, none⟩ = some (.string L.dropLast[k]) from fun k h => by rw [Hget.out k h]; exact HC5.out k _)
      clear Hcs hl HC5 Hmem Hget Hn hne
      generalize L.dropLast = l at *
      have hne := ne_none hx0
      have Hdl := Lib.hid hdl; clear hdl
      go_wp2_with fail
      go_loopw [5, 6] (fun o i wr => ∃ k : Nat, k ≤ n ∧ i = .int .i64 (k : Int) ∧ (l.take k).all okLn = true ∧ wr.ownsRow w5.heap.size 53 4 o k (((l.take k).filterMap rdLn).flatMap cellsL) ∧ Below w5.heap.size w5 wr) (fun _ i _ => n - (intOf i).toNat)
      case atStart => exact ⟨0, Nat.zero_le _, rfl, rfl, ho0.out, hb0.out⟩
      case round =>
        obtain ⟨k, hk, rfl, hall, hown, hbl⟩ := hrel
        have Hown := Lib.hid hown
        have Hbl := Lib.hid hbl
        have Hall := Lib.hid hall
        obtain ⟨A6, c6, rfl⟩ := sl_of_own hown
        clear hown hall
        by_cases hlt : k < n
        · have hlt' : (k : Int) < (n : Int) := by omega
          have hkl : k < l.length := by rw [Hdl.out]; exact hlt
          have hce := (hbl.cell (p := ⟨g5, k, none⟩) Hlt5.out).trans (HC.out k hkl)
          have HL := Lib.hid (l23Line_any l[k] wr (Nat.le_trans (HM.out _ (List.getElem_mem hkl)) (by omega)))
          have Hbad := Lib.hid (fun h => rdLoans_bad Hl.out k hkl (okLn_none h))
          have Hgood := Lib.hid (fun x h => okLn_step (x := x) hkl Hall.out h)
          unfold RetLl at HL
          generalize l[k] = line at *
          clear hbl
          go_wp2_with fail
          refine HL.out.mono ?_; rintro e w6 ⟨⟨a, b, f, t⟩, rfl, hx, hb6⟩
          have HX := Lib.hid hx
          have Hb6 := Lib.hid (Hbl.out.trans (hb6.mono Hbl.out.size))
          have Ho6 := Lib.hid (own_below Hown.out hb6)
          have Hb7 := Lib.hid (Hb6.out.alloc Hb6.out.size (.cells #[.string a, .string b, .int .i64 f, .int .i64 t] 53))
          have Ho7 := Lib.hid (own_below Ho6.out ((Below.refl w6.heap.size w6).alloc (Nat.le_refl _) (.cells #[.string a, .string b, .int .i64 f, .int .i64 t] 53)))
          obtain ⟨c0, c1, c2, c3⟩ := four_at (heap_alloc_new w6 (.cells #[.string a, .string b, .int .i64 f, .int .i64 t] 53))
          have hz7 := Hb7.out.size
          clear hx hb6 HL hce Hown Hbl Hb6 Ho6
          cases hr : rdLn line with
          | none =>
            have Hr := Lib.hid (Hbad.out hr)
            clear hr Hbad Hgood HX
            go_wp2_with fail
            go_ret2
            exact RetRn.none Hr.out (HB5.out.trans (Hb7.out.mono HB5.out.size))
          | some y =>
            have hy := HX.out y hr
            subst hy
            obtain ⟨hall2, hfl⟩ := Hgood.out _ hr
            have Hall2 := Lib.hid hall2
            have Hfl := Lib.hid hfl
            have Hon := Lib.hid (ones4 a b f t)
            clear hr Hbad Hgood HX hall2 hfl
            go_upto_region 11 with (fail)
            generalize w6.alloc (.cells #[.string a, .string b, .int .i64 f, .int .i64 t] 53) = w8 at *
            go_wp2_with (at_builtin; refine wpList_apd 22 53 _ 4 48 Tryd.underlying22 infoL rfl (by omega) _ _ rfl rfl w5.heap.size _ k _ rfl Ho7.out #[.string a, .string b, .int .i64 f, .int .i64 t] 1 1 rfl rfl Hon.out (by simp [maxLen]; omega) (by omega) hz7 ?_; intro v9 w9 hown9 hg9; have Hb9 := Lib.hid (below_apd Hb7.out Ho7.out hg9 (Nat.le_refl _) hz7); have Ho9 := Lib.hid hown9; clear hown9 hg9)
            go_roundw
            case rel => exact ⟨k + 1, by omega, by go_num, Hall2.out, by rw [Hfl.out, ← ln_snoc]; exact Ho9.out, Hb9.out⟩
            case measure => simp [intOf]; omega
        · have hkn : k = n := by omega
          subst hkn
          have hlt' : ¬ (k : Int) < (k : Int) := by omega
          have htk : l.take k = l := List.take_of_length_le (by rw [Hdl.out]; exact Nat.le_refl _)
          have hal := Hall.out
          have hown2 := Hown.out
          rw [htk] at hal hown2
          have hr := rdLoans_at Hl.out hal
          have hfl : (l.filterMap rdLn).length = k := (filter_len hal).trans Hdl.out
          have hO : OwnL wr w5.heap.size (.slice A6 k c6) (l.filterMap rdLn) := by unfold OwnL; rw [hfl]; exact hown2
          have HO := Lib.hid hO
          have HK := Lib.hid (l23Ok_any wr.heap.size _ (l.filterMap rdLn) wr hO.rd (by rw [hfl]; exact hn6) (filter_sm (Nat.le_refl _) HM.out))
          clear hal hown2 htk hfl hO Hown Hall
          cases hok : loansOk (l.filterMap rdLn) with
          | true =>
            have Hr := Lib.hid (hr.trans (if_pos hok))
            rw [hok] at HK
            clear hok hr
            go_wp2_with fail
            refine HK.out.mono ?_; rintro e w9 ⟨rfl, q9, rfl⟩
            go_wp2_with fail
            go_ret2
            exact RetRn.some Hr.out (ownsRow_le (HO.out.drewN q9) HB5.out.size) (HB5.out.trans ((below_drewN hbl q9).mono HB5.out.size))
          | false =>
            have Hr := Lib.hid (hr.trans (if_neg (by rw [hok]; simp)))
            rw [hok] at HK
            clear hok hr
            go_wp2_with fail
            refine HK.out.mono ?_; rintro e w9 ⟨rfl, q9, rfl⟩
            go_wp2_with fail
            go_ret2
            exact RetRn.none Hr.out (HB5.out.trans ((below_drewN hbl q9).mono HB5.out.size))
end Go.Proofs.YtiddhelabmaghaaDoor
/- Loans' texts, read by the program: ReadLoans. -/
namespace Go.Proofs.YtiddhelabmaghaaDoor
open Go.RowKit Go.Joins

theorem W3.drewN {w : World} {g : Nat} {x a b : ByteArray} (h : W3 w g x a b) (n : Nat) : W3 (w.drewN n) g x a b := ⟨h.1, h.2, h.3, h.4⟩
theorem own_cap {w : World} {base n size m c : Nat} {e : TypeId} {A : Option Addr} {cs : List Value} (h : w.ownsRow base e size (.slice A m c) n cs) : m ≤ c ∧ c ≤ maxLen := by
  rcases h.2 with ⟨h0, _⟩ | ⟨g, cap, _, hv, _, _, h1, h2, _⟩
  · injection h0 with _ h1 h2
    subst h1 h2
    exact ⟨Nat.le_refl _, Nat.zero_le _⟩
  · injection hv with _ h3 h4
    subst h3 h4
    exact ⟨h1, h2⟩
/-- a row of texts of the call's own, empty perhaps -/
theorem own_strs0 {w : World} {base : Nat} {v : Value} {L : List ByteArray} (h : w.ownsRow base 9 1 v L.length (L.map Value.string)) :
    ∃ A c g, v = .slice A L.length c ∧ (0 < L.length → A = some ⟨g, 0, none⟩ ∧ g < w.heap.size) ∧ ∀ i (hi : i < L.length), w.cell? ⟨g, i, none⟩ = some (.string L[i]) := by
  by_cases h0 : 0 < L.length
  · obtain ⟨g, c, hv, _, _, hlt, hc⟩ := own_strs h h0
    exact ⟨_, c, g, hv, (fun _ => ⟨rfl, hlt⟩), hc⟩
  · obtain ⟨A, c, hv⟩ := sl_of_own h
    exact ⟨A, c, 0, hv, (fun h => absurd h h0), fun i hi => absurd hi (by omega)⟩
theorem two2_no {x : ByteArray} (h : ¬ fnd2 46 x < x.size) : two2 x = none := by unfold two2; rw [if_neg h]
theorem two2_yes {x : ByteArray} (h : fnd2 46 x < x.size) : two2 x = both (readN (x.extract 0 (fnd2 46 x))) (readN (x.extract (fnd2 46 x + 2) x.size)) := by unfold two2; rw [if_pos h]
theorem cut2_yes (s : ByteArray) (c : UInt8) (w : World) (hs : s.size ≤ 1073741824) (h : fnd2 c s < s.size) : Calls Tryd.prog 60 #[.string s, .string ⟨#[c, c]⟩] w fun e w' => e = .returned (.tuple #[.string (s.extract 0 (fnd2 c s)), .string (s.extract (fnd2 c s + 2) s.size), .bool true]) ∧ ∃ n, w' = w.drewN n :=
  (cut2_any s c w hs).mono fun e w' ⟨h1, h2⟩ => ⟨by rwa [if_pos h] at h1, h2⟩
theorem cut2_no (s : ByteArray) (c : UInt8) (w : World) (hs : s.size ≤ 1073741824) (h : ¬ fnd2 c s < s.size) : Calls Tryd.prog 60 #[.string s, .string ⟨#[c, c]⟩] w fun e w' => e = .returned (.tuple #[.string s, .string ⟨#[]⟩, .bool false]) ∧ ∃ n, w' = w.drewN n :=
  (cut2_any s c w hs).mono fun e w' ⟨h1, h2⟩ => ⟨by rwa [if_neg h] at h1, h2⟩
theorem txL_of {s : ByteArray} {l : List ByteArray} (hl : linesB 10 s = some l) (ha : l.all okLn = true) (hk : loansOk (l.filterMap rdLn) = true) : txL (l.filterMap rdLn) = s := by
  unfold txL
  rw [if_pos hk, readLn_text l ha, linesB_text 10 s.size s (Nat.le_refl _) l hl]

set_option maxRecDepth 100000 in
set_option maxHeartbeats 3200000 in
theorem ReadLoansI_any (s : ByteArray) (w : World) (hs : s.size ≤ 1048576) (ht : Tab w) : Calls Tryd.prog 8 #[.string s] w (RetRn w (rdLoans s)) := by
  have HT := Lib.hid (textLines_any s w (by omega))
  have Ht := Lib.hid ht; clear ht
  cases hl : linesB 10 s with
  | none =>
    have Hr := Lib.hid (rdLoans_none hl)
    rw [hl] at HT
    clear hl
    go_enter Tryd.func8, Tryd.ntmps8
    go_wp2_with fail
    refine HT.out.mono ?_; rintro e w5 ⟨v5, rfl, _, hb5⟩
    have HB5 := Lib.hid hb5; clear hb5
    go_wp2_with fail
    go_ret2
    exact RetRn.none Hr.out HB5.out
  | some l =>
    have Hl := Lib.hid hl
    have hn6 := linesB_le hl
    have HM := Lib.hid (show ∀ z ∈ l, z.size ≤ 1048576 from fun z hz => Nat.le_trans (linesB_mem hl z hz) hs)
    rw [hl] at HT
    clear hl
    generalize hdl : l.length = n at *
    have Hdl := Lib.hid hdl; clear hdl
    go_enter Tryd.func8, Tryd.ntmps8
    go_wp2_with fail
    refine HT.out.mono ?_; rintro e w5 ⟨v5, rfl, ho5, hb5⟩
    obtain ⟨A5, c5, g5, rfl, hA5, hc5⟩ := own_strs0 (ho5 l rfl)
    rw [Hdl.out] at hA5 ⊢
    have HA5 := Lib.hid hA5
    have HC := Lib.hid hc5
    have HB5 := Lib.hid hb5
    have hb0 := Lib.hid ((Below.refl w5.heap.size w5).alloc (Nat.le_refl _) (.cells #[] 53))
    have ho0 := Lib.hid (World.ownsRow_made (base := w5.heap.size) (e := 53) (size := 4) w5 #[] 0 (Nat.le_refl _) (by simp [maxLen]) rfl)
    clear ho5 hb5 HT hA5 hc5
    go_wp2_with fail
    go_loopw [6, 27] (fun o i wr => ∃ k : Nat, k ≤ n ∧ i = .int .i64 (k : Int) ∧ (l.take k).all okLn = true ∧ wr.ownsRow w5.heap.size 53 4 o k (((l.take k).filterMap rdLn).flatMap cellsL) ∧ Below w5.heap.size w5 wr) (fun _ i _ => n - (intOf i).toNat)
    case atStart => exact ⟨0, Nat.zero_le _, rfl, rfl, ho0.out, hb0.out⟩
    case round =>
      obtain ⟨k, hk, rfl, hall, hown, hbl⟩ := hrel
      have Hown := Lib.hid hown
      have Hbl := Lib.hid hbl
      have Hall := Lib.hid hall
      obtain ⟨A6, c6, rfl⟩ := sl_of_own hown
      clear hown hall
      by_cases hlt : k < n
      · have hlt' : (k : Int) < (n : Int) := by omega
        have hkl : k < l.length := by rw [Hdl.out]; exact hlt
        obtain ⟨rfl, hlt5⟩ := HA5.out (by omega)
        have hce := (hbl.cell (p := ⟨g5, k, none⟩) hlt5).trans (HC.out k hkl)
        have hline := HM.out _ (List.getElem_mem hkl)
        have HP := Lib.hid (parts_any l[k] wr (by omega))
        have Hbad := Lib.hid (fun h => rdLoans_bad Hl.out k hkl (okLn_none h))
        have Hgood := Lib.hid (fun x h => okLn_step (x := x) hkl Hall.out h)
        unfold RetPs at HP
        generalize l[k] = line at *
        have hplen := splitB_len 32 line.size line (Nat.le_refl _)
        clear hbl
        by_cases h3 : (splitB 32 line).length = 3
        · obtain ⟨x, a, b, he⟩ := three_of h3
          have hmem := splitB_mem 32 line.size line (Nat.le_refl _)
          rw [he] at HP hmem
          have hx : x.size ≤ 1073741824 := Nat.le_trans (hmem x (by simp)) (by omega)
          have He := Lib.hid he
          clear he h3 hmem hplen
          go_wp2_with fail
          refine HP.out.mono ?_; rintro e w6 ⟨v6, rfl, ho6, hb6⟩
          obtain ⟨g6, c6', rfl, hw6⟩ := own_w3 ho6
          have W6 := Lib.hid hw6
          obtain ⟨l6, q0, q1, q2⟩ := hw6
          have Hb6 := Lib.hid (Hbl.out.trans (hb6.mono Hbl.out.size))
          have Ho6 := Lib.hid (own_below Hown.out hb6)
          clear ho6 hb6 HP Hown Hbl l6 hce
          go_wp2_with fail
          by_cases hf : fnd2 46 x < x.size
          · have HC2 := Lib.hid (fun wx => cut2_yes x 46 wx hx hf)
            have ht2 := two2_yes hf
            have HD1 := Lib.hid (fun wx hq => ReadDecimal_any (x.extract 0 (fnd2 46 x)) wx (by rw [ByteArray.size_extract]; omega) hq)
            have HD2 := Lib.hid (fun wx hq => ReadDecimal_any (x.extract (fnd2 46 x + 2) x.size) wx (by rw [ByteArray.size_extract]; omega) hq)
            unfold RetN1 at HD1 HD2
            have Hfin := Lib.hid (ll_fin He.out ht2)
            generalize x.extract 0 (fnd2 46 x) = p at *
            generalize x.extract (fnd2 46 x + 2) x.size = q at *
            generalize (readN p).getD 0 = f at *
            generalize (readN q).getD 0 = t at *
            generalize (readN p).isSome = o1 at *
            generalize (readN q).isSome = o2 at *
            clear ht2 hf
            refine (HC2.out _).mono ?_; rintro e w7 ⟨rfl, n7, hw7⟩
            have Hb7 := Lib.hid (show Below w5.heap.size w5 w7 from hw7 ▸ below_drewN Hb6.out n7)
            have Ho7 := Lib.hid (show w7.ownsRow w5.heap.size 53 4 (.slice A6 k c6) k (((l.take k).filterMap rdLn).flatMap cellsL) from hw7 ▸ Ho6.out.drewN n7)
            have W7 := Lib.hid (show W3 w7 g6 x a b from hw7 ▸ W6.out.drewN n7)
            clear hw7 Hb6 Ho6 W6 HC2 q0 q1 q2
            go_wp2_with fail
            refine (HD1.out _ (Ht.out.below (HB5.out.trans (Hb7.out.mono HB5.out.size)))).mono ?_; rintro e w8 ⟨rfl, hb8⟩
            have Hb8 := Lib.hid (Hb7.out.trans (hb8.mono Hb7.out.size))
            have Ho8 := Lib.hid (own_below Ho7.out hb8)
            have W8 := Lib.hid (W7.out.next hb8)
            clear hb8 Hb7 Ho7 W7 HD1
            go_wp2_with fail
            refine (HD2.out _ (Ht.out.below (HB5.out.trans (Hb8.out.mono HB5.out.size)))).mono ?_; rintro e w9 ⟨rfl, hb9⟩
            have Hb9 := Lib.hid (Hb8.out.trans (hb9.mono Hb8.out.size))
            have Ho9 := Lib.hid (own_below Ho8.out hb9)
            have W9 := Lib.hid (W8.out.next hb9)
            clear hb9 Hb8 Ho8 W8 HD2
            cases hr : rdLn line with
            | none =>
              have Hr := Lib.hid (Hbad.out hr)
              have ho12 := Hfin.out.1
              rw [hr] at ho12
              clear hr Hbad Hgood Hfin
              cases o1 with
              | false =>
                clear ho12
                go_wp2_with fail
                go_ret2
                exact RetRn.none Hr.out (HB5.out.trans (Hb9.out.mono HB5.out.size))
              | true =>
                cases o2 with
                | true => cases ho12
                | false =>
                  clear ho12
                  go_wp2_with fail
                  go_ret2
                  exact RetRn.none Hr.out (HB5.out.trans (Hb9.out.mono HB5.out.size))
            | some y =>
              have ho12 := Hfin.out.1
              rw [hr] at ho12
              have hy := Hfin.out.2 y hr
              subst hy
              obtain ⟨hall2, hfl⟩ := Hgood.out _ hr
              have Hall2 := Lib.hid hall2
              have Hfl := Lib.hid hfl
              have Hon := Lib.hid (ones4 a b f t)
              have hz9 := Hb9.out.size
              obtain ⟨l9, _, q1, q2⟩ := W9.out
              have Hmx := Lib.hid (show k + 1 ≤ maxLen by simp only [maxLen]; omega)
              have Hby := Lib.hid (show (k + 1) * 48 ≤ 140737488355328 by omega)
              clear hr Hbad Hgood Hfin hall2 hfl
              cases o1 with
              | false => cases ho12
              | true =>
                cases o2 with
                | false => cases ho12
                | true =>
                  clear ho12
                  go_wp2_with fail
                  refine wp_region_noPanic ?_
                  refine wp_region_L [12,11] (fun w' => w'.cell? ⟨g6, 1, none⟩ = some (.string a) ∧ w'.cell? ⟨g6, 2, none⟩ = some (.string b)) (by kernel_rfl) (⟨q1, q2⟩) (fun hHeld => ?_)
                  refine take_F (i := 0) (d := some 64) (v := ?_) (by kernel_rfl) (by kernel_rfl) rfl rfl (by kernel_rfl) (by kernel_rfl) (by kernel_rfl) (fun _ _ _ h => h) (Or.inl ⟨by rfl, ?_⟩) (by assumption) ?_
                  rotate_left
                  · (intro w hSw; (try dsimp only at hSw); go_simp; (try rw [if_neg (by omega)]); (try (with_reducible rfl)))
                  simp only [Act.put, List.setIfInBounds_toArray, List.set_cons_zero, List.set_cons_succ]
                  refine take_F (i := 1) (d := some 65) (v := ?_) (by kernel_rfl) (by kernel_rfl) rfl rfl (by kernel_rfl) (by kernel_rfl) (by kernel_rfl) (fun _ _ _ h => h) (Or.inl ⟨by rfl, ?_⟩) (by assumption) ?_
                  rotate_left
                  · (intro w hSw; (try dsimp only at hSw); go_simp; (try rw [if_neg (by omega)]); (try (with_reducible rfl)))
                  simp only [Act.put, List.setIfInBounds_toArray, List.set_cons_zero, List.set_cons_succ]
                  refine take_F (i := 2) (d := some 66) (v := ?_) (by kernel_rfl) (by kernel_rfl) rfl rfl (by kernel_rfl) (by kernel_rfl) (by kernel_rfl) (fun _ _ _ h => h) (Or.inl ⟨by rfl, ?_⟩) (by assumption) ?_
                  rotate_left
                  · (intro w hSw; (try dsimp only at hSw); go_simp; (try rw [if_neg (by omega)]); (try (with_reducible rfl)))
                  simp only [Act.put, List.setIfInBounds_toArray, List.set_cons_zero, List.set_cons_succ]
                  refine take_L [10,9,3] (i := 3) (d := some 67) (v := ?_) (by kernel_rfl) (by kernel_rfl) (by kernel_rfl) (by kernel_rfl) rfl rfl (by kernel_rfl) (by kernel_rfl) (by kernel_rfl) (fun _ _ _ h => h) (Or.inl ⟨by rfl, ?_⟩) (by assumption) ?_
                  rotate_left
                  · (intro w hSw; (try dsimp only at hSw); go_simp; (try rw [if_neg (by omega)]); (try (with_reducible rfl)))
                  simp only [Act.put, List.setIfInBounds_toArray, List.set_cons_zero, List.set_cons_succ]
                  refine take_F (i := 4) (d := some 68) (v := ?_) (by kernel_rfl) (by kernel_rfl) rfl rfl (by kernel_rfl) (by kernel_rfl) (by kernel_rfl) (fun _ _ _ h => h) (Or.inl ⟨by rfl, ?_⟩) (by assumption) ?_
                  rotate_left
                  · (intro w hSw; (try dsimp only at hSw); go_simp; (try rw [if_neg (by omega)]); (try (with_reducible rfl)))
                  simp only [Act.put, List.setIfInBounds_toArray, List.set_cons_zero, List.set_cons_succ]
                  refine take_F (i := 5) (d := some 69) (v := ?_) (by kernel_rfl) (by kernel_rfl) rfl rfl (by kernel_rfl) (by kernel_rfl) (by kernel_rfl) (fun _ _ _ h => h) (Or.inl ⟨by rfl, ?_⟩) (by assumption) ?_
                  rotate_left
                  · (intro w hSw; (try dsimp only at hSw); go_simp; (try rw [if_neg (by omega)]); (try (with_reducible rfl)))
                  simp only [Act.put, List.setIfInBounds_toArray, List.set_cons_zero, List.set_cons_succ]
                  refine take_L [10,9,6] (i := 6) (d := some 70) (v := ?_) (by kernel_rfl) (by kernel_rfl) (by kernel_rfl) (by kernel_rfl) rfl rfl (by kernel_rfl) (by kernel_rfl) (by kernel_rfl) (fun _ _ _ h => h) (Or.inl ⟨by rfl, ?_⟩) (by assumption) ?_
                  rotate_left
                  · (intro w hSw; (try dsimp only at hSw); go_simp; (try rw [if_neg (by omega)]); (try (with_reducible rfl)))
                  simp only [Act.put, List.setIfInBounds_toArray, List.set_cons_zero, List.set_cons_succ]
                  refine take_F (i := 7) (d := some 71) (v := ?_) (by kernel_rfl) (by kernel_rfl) rfl rfl (by kernel_rfl) (by kernel_rfl) (by kernel_rfl) (fun _ _ _ h => h) (Or.inl ⟨by rfl, ?_⟩) (by assumption) ?_
                  rotate_left
                  · (intro w hSw; (try dsimp only at hSw); go_simp; (try rw [if_neg (by omega)]); (try (with_reducible rfl)))
                  simp only [Act.put, List.setIfInBounds_toArray, List.set_cons_zero, List.set_cons_succ]
                  refine take_F (i := 8) (d := some 72) (v := ?_) (by kernel_rfl) (by kernel_rfl) rfl rfl (by kernel_rfl) (by kernel_rfl) (by kernel_rfl) (fun _ _ _ h => h) (Or.inl ⟨by rfl, ?_⟩) (by assumption) ?_
                  rotate_left
                  · (intro w hSw; (try dsimp only at hSw); go_simp; (try rw [if_neg (by omega)]); (try (with_reducible rfl)))
                  simp only [Act.put, List.setIfInBounds_toArray, List.set_cons_zero, List.set_cons_succ]
                  refine take_F (i := 9) (d := some 73) (v := ?_) (by kernel_rfl) (by kernel_rfl) rfl rfl (by kernel_rfl) (by kernel_rfl) (by kernel_rfl) (fun _ _ _ h => h) (Or.inl ⟨by rfl, ?_⟩) (by assumption) ?_
                  rotate_left
                  · (intro w hSw; (try dsimp only at hSw); go_simp; (try rw [if_neg (by omega)]); (try (with_reducible rfl)))
                  simp only [Act.put, List.setIfInBounds_toArray, List.set_cons_zero, List.set_cons_succ]
                  refine call_L (i := 10) (d := (some 74)) rfl rfl (by kernel_rfl) (fun Kq hKq => ?_)
                  go_simp
                  refine hKq.out _ _ (⟨cell_alloc (w := w9.drew) q1 _, cell_alloc (w := w9.drew) q2 _⟩) (fun hHeld => ?_)
                  clear hKq Kq
                  (try simp only [Act.put, List.setIfInBounds_toArray, List.set_cons_zero, List.set_cons_succ])
                  refine late_L (i := 11) (d := (some 75)) (by kernel_rfl) rfl rfl (by kernel_rfl) (fun Kq hKq => ?_)
                  refine step_apd 22 53 _ 4 48 Tryd.underlying22 infoL rfl (by omega) _ _ (by rfl) (by rfl) w5.heap.size _ k _ (by rfl) Ho9.out #[.string a, .string b, .int .i64 f, .int .i64 t] 1 1 (by rfl) (by rfl) Hon.out Hmx.out Hby.out hz9 ?_; intro v10 w10 hown10 hg10
                  have Hb10 := Lib.hid (below_apd Hb9.out Ho9.out hg10 (Nat.le_refl _) hz9)
                  have Ho10 := Lib.hid hown10
                  clear hown10 hg10
                  refine hKq.out _ _ ?_
                  clear hKq Kq
                  simp only [Act.put, List.setIfInBounds_toArray]
                  refine late_L (i := 12) (d := (some 6)) (by kernel_rfl) rfl rfl (by kernel_rfl) (fun Kq hKq => ?_)
                  go_simp
                  refine hKq.out _ _ ?_
                  clear hKq Kq
                  refine done_L (by kernel_rfl) ?_ _
                  refine NoPanic.normal ?_
                  (try go_wp2_with fail)
                  go_roundw
                  case rel => exact ⟨k + 1, by omega, by go_num, Hall2.out, by rw [Hfl.out, ← ln_snoc]; exact Ho10.out, Hb10.out⟩
                  case measure => simp [intOf]; omega
          · have HC2 := Lib.hid (fun wx => cut2_no x 46 wx hx hf)
            have HD1 := Lib.hid (fun wx hq => ReadDecimal_any x wx hx hq)
            have HD2 := Lib.hid (fun wx hq => ReadDecimal_any ⟨#[]⟩ wx (Nat.zero_le _) hq)
            unfold RetN1 at HD1 HD2
            have Hr := Lib.hid (Hbad.out (by rw [rdLn_three He.out, two2_no hf]; rfl))
            generalize (readN x).getD 0 = f at *
            generalize (readN ⟨#[]⟩).getD 0 = t at *
            generalize (readN x).isSome = o1 at *
            generalize (readN ⟨#[]⟩).isSome = o2 at *
            clear hf Hbad Hgood
            refine (HC2.out _).mono ?_; rintro e w7 ⟨rfl, n7, hw7⟩
            have Hb7 := Lib.hid (show Below w5.heap.size w5 w7 from hw7 ▸ below_drewN Hb6.out n7)
            clear hw7 Hb6 Ho6 W6 HC2 q0 q1 q2
            go_wp2_with fail
            refine (HD1.out _ (Ht.out.below (HB5.out.trans (Hb7.out.mono HB5.out.size)))).mono ?_; rintro e w8 ⟨rfl, hb8⟩
            have Hb8 := Lib.hid (Hb7.out.trans (hb8.mono Hb7.out.size))
            clear hb8 Hb7 HD1
            go_wp2_with fail
            refine (HD2.out _ (Ht.out.below (HB5.out.trans (Hb8.out.mono HB5.out.size)))).mono ?_; rintro e w9 ⟨rfl, hb9⟩
            have Hb9 := Lib.hid (Hb8.out.trans (hb9.mono Hb8.out.size))
            clear hb9 Hb8 HD2
            go_wp2_with fail
            go_ret2
            exact RetRn.none Hr.out (HB5.out.trans (Hb9.out.mono HB5.out.size))
        · have hnq : (((splitB 32 line).length : Int) == 3) = false := by rw [beq_eq_false_iff_ne]; omega
          have hnq2 : (((splitB 32 line).length : Int) != 3) = true := by simp [bne, hnq]
          have Hr := Lib.hid (Hbad.out (rdLn_not h3))
          clear Hbad Hgood h3
          go_wp2_with fail
          refine HP.out.mono ?_; rintro e w6 ⟨v6, rfl, ho6, hb6⟩
          obtain ⟨A6', c6', rfl⟩ := sl_of_own ho6
          have Hb6 := Lib.hid (Hbl.out.trans (hb6.mono Hbl.out.size))
          generalize (splitB 32 line).length = m at *
          clear ho6 hb6 HP Hown Hbl hce
          go_wp2_with fail
          go_ret2
          exact RetRn.none Hr.out (HB5.out.trans (Hb6.out.mono HB5.out.size))
      · have hkn : k = n := by omega
        subst hkn
        have hlt' : ¬ (k : Int) < (k : Int) := by omega
        have htk : l.take k = l := List.take_of_length_le (by rw [Hdl.out]; exact Nat.le_refl _)
        have hal := Hall.out
        have hown2 := Hown.out
        rw [htk] at hal hown2
        have hr := rdLoans_at Hl.out hal
        have hfl : (l.filterMap rdLn).length = k := (filter_len hal).trans Hdl.out
        have hO : OwnL wr w5.heap.size (.slice A6 k c6) (l.filterMap rdLn) := by unfold OwnL; rw [hfl]; exact hown2
        have hcap : ∀ A n c, Value.slice A6 k c6 = .slice A n c → n ≤ c ∧ c ≤ maxLen := fun A n c h => by
          injection h with _ h1 h2
          subst h1 h2
          exact own_cap hown2
        have HO := Lib.hid hO
        have hsm := filter_sm (l := l) (Nat.le_refl _) HM.out
        have HK := Lib.hid (ValidLoansI_any wr.heap.size _ (l.filterMap rdLn) wr hO.rd (Nat.le_refl _) (by rw [hfl]; omega) hsm hcap)
        have HX := Lib.hid (fun wx (hx : RdL wx wx.heap.size (.slice A6 k c6) (l.filterMap rdLn)) hq => LoansTextI_any wx.heap.size _ (l.filterMap rdLn) wx hx (Nat.le_refl _) (by rw [hfl]; omega) hsm hcap hq)
        have Htx := Lib.hid (fun h => txL_of Hl.out hal h)
        have Hbl2 := Lib.hid hbl
        clear hal hown2 htk hfl hO Hown Hall hcap hsm hbl
        cases hok : loansOk (l.filterMap rdLn) with
        | true =>
          have Hr := Lib.hid (hr.trans (if_pos hok))
          have htx := Htx.out hok
          rw [htx] at HX
          rw [hok] at HK
          clear hok hr htx Htx
          go_wp2_with fail
          refine HK.out.mono ?_; rintro e w9 ⟨rfl, hb9⟩
          have Hb9 := Lib.hid (Hbl.out.trans (hb9.mono Hbl.out.size))
          have HO9 := Lib.hid (own_below HO.out hb9)
          clear hb9
          go_wp2_with fail
          refine (HX.out _ (OwnL.rd HO9.out) (Ht.out.below (HB5.out.trans (Hb9.out.mono HB5.out.size)))).mono ?_; rintro e w10 ⟨rfl, hb10⟩
          have Hb10 := Lib.hid (Hb9.out.trans (hb10.mono Hb9.out.size))
          have HO10 := Lib.hid (own_below HO9.out hb10)
          clear hb10
          go_wp2_with fail
          go_ret2
          exact RetRn.some Hr.out (ownsRow_le HO10.out HB5.out.size) (HB5.out.trans (Hb10.out.mono HB5.out.size))
        | false =>
          have Hr := Lib.hid (hr.trans (if_neg (by rw [hok]; simp)))
          rw [hok] at HK
          clear hok hr Htx HX
          go_wp2_with fail
          refine HK.out.mono ?_; rintro e w9 ⟨rfl, hb9⟩
          have Hb9 := Lib.hid (Hbl.out.trans (hb9.mono Hbl.out.size))
          clear hb9
          go_wp2_with fail
          go_ret2
          exact RetRn.none Hr.out (HB5.out.trans (Hb9.out.mono HB5.out.size))
end Go.Proofs.YtiddhelabmaghaaDoor
/- The law FnExactReadLoans: the walk. -/
namespace Go.Proofs.YtiddhelabmaghaaDoor
open Go.RowKit Go.Joins

/-- what stays true of the reference's loans on the way -/
structure StL (W : World) (s3 : Nat) (v1 : Value) (L : List Ln) (w : World) : Prop where
  acc : Below W.heap.size W w
  z0 : W.heap.size ≤ s3
  z3 : s3 ≤ w.heap.size
  R : RdL w s3 v1 L
theorem StL.next {W w w' : World} {s3 : Nat} {v1 : Value} {L : List Ln} (h : StL W s3 v1 L w) (hb : Below w.heap.size w w') : StL W s3 v1 L w' :=
  ⟨h.acc.trans (hb.mono h.acc.size), h.z0, Nat.le_trans h.z3 hb.size, h.R.below (hb.mono h.z3)⟩
theorem StL.grown {W w w' : World} {s3 : Nat} {v1 : Value} {L : List Ln} {r : Option Nat} (h : StL W s3 v1 L w) (hg : w.grownBy w' r) (hr : ∀ k, r = some k → s3 ≤ k) : StL W s3 v1 L w' :=
  ⟨h.acc.grown hg h.acc.size (fun k hk => Nat.le_trans h.z0 (hr k hk)), h.z0, Nat.le_trans h.z3 hg.size,
    Rd.keep h.R fun p hp => World.cell?_of_block (hg.block p.block (Nat.lt_of_lt_of_le hp h.z3) (fun e => by have := hr _ e.symm; omega))⟩
theorem rdLoans_60 (s : ByteArray) : ((rdLoans s).getD []).length ≤ 60 := by
  unfold rdLoans
  split
  · simp
  · split
    · split
      · rename_i h; exact loans_60 h
      · simp
    · simp

set_option maxRecDepth 100000 in
set_option maxHeartbeats 3200000 in
theorem walkFnExactReadLoans (s : ByteArray) (hs : s.size ≤ maxLen) (W : World) (ht : Tab W) :
    Calls Tryd.prog 3 #[.string s] W fun e W' => e = .returned (.bool true) ∧ Below W.heap.size W W' := by
  have hb0 := Below.refl W.heap.size W
  have Ht := Lib.hid ht; clear ht
  unfold maxLen at hs
  by_cases hbig : 1048576 < s.size
  · have hbig' : (1048576 : Int) < (s.size : Int) := by omega
    go_enter Tryd.func3, Tryd.ntmps3
    go_wp2_with fail
    go_ret
    exact ⟨rfl, hb0⟩
  · have hbig' : ¬ (1048576 : Int) < (s.size : Int) := by omega
    have HCS := Lib.hid (fun wx => ReadLoansS_any s wx (by omega))
    have HCI := Lib.hid (fun wx hq => ReadLoansI_any s wx (by omega) hq)
    unfold RetRn at HCS HCI
    have hlen := rdLoans_60 s
    generalize (rdLoans s).getD [] = L at *
    generalize (rdLoans s).isSome = O at *
    have hn : L.length ≤ 1048576 := by omega
    have hk1 : ¬ (1 : Int) + 4 * (L.length : Int) < 0 := by omega
    go_enter Tryd.func3, Tryd.ntmps3
    go_wp2_with fail
    refine (HCS.out W).mono ?_; rintro e w3 ⟨v1, rfl, ho3, hb3⟩
    have S3 := Lib.hid (show StL W w3.heap.size v1 L w3 from ⟨hb3, hb3.size, Nat.le_refl _, OwnL.rd ho3⟩)
    clear ho3 hb3 HCS hb0
    go_wp2_with fail
    refine (HCI.out w3 (Ht.out.below S3.out.acc)).mono ?_; rintro e w5 ⟨g0, rfl, ho5, hb5⟩
    have S5 := Lib.hid (S3.out.next hb5)
    have G5 := Lib.hid ho5
    have HE := Lib.hid (eqLoanS_same _ _ g0 v1 L w5 (OwnL.rd ho5) S5.out.R (Nat.le_refl _) S5.out.z3 (by omega))
    clear S3 ho5 hb5
    go_wp2_with fail
    refine HE.out.mono ?_; rintro e w6 ⟨rfl, hb6⟩
    have S9 := Lib.hid (S5.out.next hb6)
    have G9 := Lib.hid (show OwnL w6 w3.heap.size g0 L from own_below G5.out hb6)
    have HM := Lib.hid (markLoanS_any _ g0 1 L.length _ w6 G9.out (by omega) (by omega))
    clear S5 G5 HE hb6
    go_wp2_with fail
    refine HM.out.mono ?_; rintro e w11 ⟨rfl, hg11, ho11⟩
    have S11 := Lib.hid (S9.out.grown hg11 (fun k hk => by have := (G9.out.lt k hk).1; omega))
    have G11 := Lib.hid ho11
    have HH := Lib.hid (heldLoanS_any _ g0 1 L.length w11 (by unfold RdL; rw [marksL_len]; exact Rd.of_own G11.out) (Nat.le_refl _) (by omega) (by omega))
    clear S9 G9 hg11 ho11 HM
    go_wp2_with fail
    refine HH.out.mono ?_; rintro e w12 ⟨rfl, hb12⟩
    have S13 := Lib.hid (S11.out.next hb12)
    have G13 := Lib.hid (own_below G11.out hb12)
    clear S11 G11 HH hb12
    go_wp2_with fail
    refine (HCI.out w12 (Ht.out.below S13.out.acc)).mono ?_; rintro e w14 ⟨v14, rfl, ho14, hb14⟩
    have S14 := Lib.hid (S13.out.next hb14)
    have G14 := Lib.hid (own_below G13.out hb14)
    have HE := Lib.hid (eqLoanS_same _ _ v14 v1 L w14 (OwnL.rd ho14) S14.out.R (Nat.le_refl _) S14.out.z3 (by omega))
    clear S13 G13 ho14 hb14
    go_wp2_with fail
    refine HE.out.mono ?_; rintro e w15 ⟨rfl, hb15⟩
    have S15 := Lib.hid (S14.out.next hb15)
    have G15 := Lib.hid (own_below G14.out hb15)
    have HH := Lib.hid (heldLoanS_any _ g0 1 L.length w15 (by unfold RdL; rw [marksL_len]; exact Rd.of_own G15.out) (Nat.le_refl _) (by omega) (by omega))
    clear S14 G14 HE hb15
    go_wp2_with fail
    refine HH.out.mono ?_; rintro e w16 ⟨rfl, hb16⟩
    have S16 := Lib.hid (S15.out.next hb16)
    clear S15 G15 HH hb16
    go_wp2_with fail
    go_ret
    exact ⟨rfl, S16.out.acc⟩
end Go.Proofs.YtiddhelabmaghaaDoor
