/- Merged texts: M6, Pa3, Pa4, U7, M7. -/
import Derived.Test.YtnhngccfbnnpoaaDoorGCardPages3
import Derived.Test.YtnhngccfbnnpoaaDoorGCardPages2
/- Mended rows, part 6: a mended page. -/
namespace Go.Proofs.YtnhngccfbnnpoaaDoor
open Go.RowKit Go.Joins

set_option maxRecDepth 100000 in
set_option maxHeartbeats 1600000 in
theorem l00Same_p (B1 B2 : Nat) (v1 v2 : Value) (n : Nat) (f g : Nat → Int) (w : World) (h : Rd w B1 v1 n 1 (tab n f)) (h' : Rd w B2 v2 n 1 (tab n g)) (hn : n ≤ 1000) (he : ∀ i, i < n → f i = g i) :
    Calls Tryd.prog 55 #[v1, v2] w fun e w' => e = .returned (.bool true) ∧ ∃ k, w' = w.drewN k := by
  have H := Lib.hid h
  have H' := Lib.hid h'
  have HE := Lib.hid he
  obtain ⟨A, c, rfl⟩ := rd_sl h
  obtain ⟨A', c', rfl⟩ := rd_sl h'
  clear h h' he
  go_enter Tryd.func55, Tryd.ntmps55
  go_wp2_with fail
  go_loopw [5] (fun i wr => ∃ (k d : Nat), k ≤ n ∧ i = .int .i64 (k : Int) ∧ wr = w.drewN d) (fun i _ => n - (intOf i).toNat)
  case atStart => exact ⟨0, 0, Nat.zero_le _, rfl, rfl⟩
  case round =>
    obtain ⟨k, d, hk, rfl, rfl⟩ := hrel
    by_cases hlt : k < n
    · obtain ⟨b1, o1, hA, _, hcc⟩ := rdF_all H.out (by omega)
      obtain ⟨b2, o2, hA', _, hcc'⟩ := rdF_all H'.out (by omega)
      subst hA hA'
      have q0 := hcc k hlt
      have q1 := hcc' k hlt
      rw [← HE.out k hlt] at q1
      have hlt' : (k : Int) < (n : Int) := by omega
      generalize f k = x at *
      clear hcc hcc'
      go_wp2_with fail
      go_quiet (fail)
      go_wp2_with fail
      go_roundw
      case rel => exact ⟨k + 1, d + _, by omega, by go_num, rfl⟩
      case measure => first | (simp [intOf]; done) | (simp [intOf]; omega)
    · have hlt' : (n : Int) ≤ (k : Int) := by omega
      go_wp2_with fail
      go_ret
      exact ⟨rfl, d, rfl⟩
theorem set4 {w : World} {g : Nat} {p q r s : Value} {t : TypeId} (h : w.heap[g]? = some (.cells #[p, q, r, s] t (0, 0))) (a b c d : Value) :
    ((((w.setCell ⟨g, 0, none⟩ a).setCell ⟨g, 1, none⟩ b).setCell ⟨g, 2, none⟩ c).setCell ⟨g, 3, none⟩ d).heap[g]? = some (.cells #[a, b, c, d] t (0, 0)) :=
  heap_setCell_same _ g 3 _ _ d (heap_setCell_same _ g 2 _ _ c (heap_setCell_same _ g 1 _ _ b (heap_setCell_same w g 0 _ _ a h)))
theorem set4_below {B : Nat} {W w : World} {g : Nat} (h : Below B W w) (hg : B ≤ g) (a b c d : Value) : Below B W ((((w.setCell ⟨g, 0, none⟩ a).setCell ⟨g, 1, none⟩ b).setCell ⟨g, 2, none⟩ c).setCell ⟨g, 3, none⟩ d) :=
  (((h.setCell (p := ⟨g, 0, none⟩) hg a).setCell (p := ⟨g, 1, none⟩) hg b).setCell (p := ⟨g, 2, none⟩) hg c).setCell (p := ⟨g, 3, none⟩) hg d
theorem set4_own {w : World} {g B n sz : Nat} {e : TypeId} {v : Value} {xs : List Value} (h : w.ownsRow B e sz v n xs) (hg : g < B) (a b c d : Value) : ((((w.setCell ⟨g, 0, none⟩ a).setCell ⟨g, 1, none⟩ b).setCell ⟨g, 2, none⟩ c).setCell ⟨g, 3, none⟩ d).ownsRow B e sz v n xs :=
  own_gs (own_gs (own_gs (own_gs h (grown_set w g 0 a) hg) (grown_set _ g 1 b) hg) (grown_set _ g 2 c) hg) (grown_set _ g 3 d) hg
/-- a page, or none and a code -/
def RetPg (w : World) (code : Int) (s : ByteArray) (a b : Int) (m : Nat) (g : Nat → Int) (e : Ending) (w' : World) : Prop :=
  ∃ s' a' b' v k g', e = .returned (.tuple #[.agg #[.string s', .int .i64 a', .int .i64 b', v], .int .i64 code]) ∧ (code = 0 → s' = s ∧ a' = a ∧ b' = b ∧ k = m ∧ g' = g) ∧ (code ≠ 0 → s' = ⟨#[]⟩ ∧ a' = 0 ∧ b' = 0 ∧ k = 0) ∧ w'.ownsRow w.heap.size 2 1 v k (tab k g') ∧ Below w.heap.size w w'
theorem RetPg.no {w w' : World} {code c : Int} {s : ByteArray} {a b : Int} {m : Nat} {g : Nat → Int} (he : code = c) (h : c ≠ 0) (hb : Below w.heap.size w w') : RetPg w code s a b m g (.returned (.tuple #[.agg #[.string ⟨#[]⟩, .int .i64 0, .int .i64 0, .slice none 0 0], .int .i64 c])) w' := by
  subst he
  exact ⟨_, _, _, _, 0, fun _ => 0, rfl, fun e => absurd e h, fun _ => ⟨rfl, rfl, rfl, rfl⟩, World.ownsRow_nil _ _ _ _, hb⟩
theorem RetPg.yes {w w' : World} {code : Int} {s : ByteArray} {a b : Int} {m : Nat} {g : Nat → Int} {v : Value} (he : code = 0) (h : w'.ownsRow w.heap.size 2 1 v m (tab m g)) (hb : Below w.heap.size w w') : RetPg w code s a b m g (.returned (.tuple #[.agg #[.string s, .int .i64 a, .int .i64 b, v], .int .i64 0])) w' := by
  subst he
  exact ⟨_, _, _, _, m, g, rfl, fun _ => ⟨rfl, rfl, rfl, rfl, rfl⟩, fun e => absurd rfl e, h, hb⟩
theorem heap_sec (w : World) (o o' : Obj) : ((w.alloc o).alloc o').heap[w.heap.size + 1]? = (w.alloc o |>.alloc o').heap[w.heap.size + 1]? := rfl
theorem heap_second4 (w : World) (o : Obj) (cs : Array Value) (t : TypeId) : ((w.alloc o).alloc (.cells cs t)).heap[w.heap.size + 1]? = some (.cells cs t (0, 0)) := by
  show ((w.heap.push _).push _)[w.heap.size + 1]? = _
  simp only [Array.getElem?_push, Array.size_push]
  rw [if_pos trivial]
theorem heap_first4 (w : World) (o : Obj) (cs : Array Value) (t : TypeId) : ((w.alloc (.cells cs t)).alloc o).heap[w.heap.size]? = some (.cells cs t (0, 0)) := by
  show ((w.heap.push _).push _)[w.heap.size]? = _
  simp only [Array.getElem?_push, Array.size_push]
  rw [if_neg (by omega), if_pos trivial]

set_option maxRecDepth 100000 in
set_option maxHeartbeats 1600000 in
theorem SamePage_c (s : ByteArray) (a b : Int) (v v' : Value) (k : Nat) (g : Nat → Int) (w : World) (h : Rd w w.heap.size v k 1 (tab k g)) (h' : Rd w w.heap.size v' k 1 (tab k g)) (hk : k ≤ 999) :
    Calls Tryd.prog 25 #[.agg #[.string s, .int .i64 a, .int .i64 b, v], .agg #[.string s, .int .i64 a, .int .i64 b, v']] w fun e w' => e = .returned (.bool true) ∧ Below w.heap.size w w' := by
  obtain ⟨A, c, rfl⟩ := rd_sl h
  obtain ⟨A', c', rfl⟩ := rd_sl h'
  have hb1 := ((Below.refl w.heap.size w).alloc (Nat.le_refl _) (.cells #[.string s, .int .i64 a, .int .i64 b, .slice A k c] 26)).alloc (by simp) (.cells #[.string s, .int .i64 a, .int .i64 b, .slice A' k c'] 26)
  obtain ⟨f0, f1, f2, f3, _⟩ := blk4 (heap_first4 w (.cells #[.string s, .int .i64 a, .int .i64 b, .slice A' k c'] 26) #[.string s, .int .i64 a, .int .i64 b, .slice A k c] 26)
  obtain ⟨k0, k1, k2, k3, _⟩ := blk4 (heap_second4 w (.cells #[.string s, .int .i64 a, .int .i64 b, .slice A k c] 26) #[.string s, .int .i64 a, .int .i64 b, .slice A' k c'] 26)
  have HL := Lib.hid (l00Same_p _ _ _ _ k g g _ (h.below hb1) (h'.below hb1) (by omega) (fun _ _ => rfl))
  have Hb1 := Lib.hid hb1
  clear hb1 h h'
  go_enter Tryd.func25, Tryd.ntmps25
  go_wp2_with fail
  generalize (w.alloc (.cells #[.string s, .int .i64 a, .int .i64 b, .slice A k c] 26)).alloc (.cells #[.string s, .int .i64 a, .int .i64 b, .slice A' k c'] 26) = w1 at *
  go_wp2_with fail
  refine (HL.out).mono ?_; rintro e w2 ⟨rfl, d, hd⟩
  have Hb2 := Lib.hid (show Below w.heap.size w w2 by rw [hd]; exact below_drewN Hb1.out d)
  clear hd
  go_wp2_with fail
  go_ret
  exact ⟨rfl, Hb2.out⟩
end Go.Proofs.YtnhngccfbnnpoaaDoor
/- Printed pages, part 3: the lines of a page, both sides (gen_pa3.py). -/
namespace Go.Proofs.YtnhngccfbnnpoaaDoor
open Go.RowKit Go.Joins

theorem fourP {w w' : World} {g : Nat} {x0 x1 x2 x3 : Value} (hg : g < w.heap.size) (h : Below w.heap.size w w') (H : w.cell? ⟨g, 0, none⟩ = some x0 ∧ w.cell? ⟨g, 1, none⟩ = some x1 ∧ w.cell? ⟨g, 2, none⟩ = some x2 ∧ w.cell? ⟨g, 3, none⟩ = some x3) :
    w'.cell? ⟨g, 0, none⟩ = some x0 ∧ w'.cell? ⟨g, 1, none⟩ = some x1 ∧ w'.cell? ⟨g, 2, none⟩ = some x2 ∧ w'.cell? ⟨g, 3, none⟩ = some x3 :=
  ⟨(h.cell (p := ⟨g, 0, none⟩) hg).trans H.1, (h.cell (p := ⟨g, 1, none⟩) hg).trans H.2.1, (h.cell (p := ⟨g, 2, none⟩) hg).trans H.2.2.1, (h.cell (p := ⟨g, 3, none⟩) hg).trans H.2.2.2⟩
theorem fiveP {w w' : World} {g b o : Nat} {x0 x1 x2 x3 x4 : Value} (hg : g < w.heap.size) (hb : b < w.heap.size) (h : Below w.heap.size w w') (H : w.cell? ⟨g, 0, none⟩ = some x0 ∧ w.cell? ⟨g, 1, none⟩ = some x1 ∧ w.cell? ⟨g, 2, none⟩ = some x2 ∧ w.cell? ⟨g, 3, none⟩ = some x3 ∧ w.cell? ⟨b, o, none⟩ = some x4) :
    w'.cell? ⟨g, 0, none⟩ = some x0 ∧ w'.cell? ⟨g, 1, none⟩ = some x1 ∧ w'.cell? ⟨g, 2, none⟩ = some x2 ∧ w'.cell? ⟨g, 3, none⟩ = some x3 ∧ w'.cell? ⟨b, o, none⟩ = some x4 :=
  ⟨(h.cell (p := ⟨g, 0, none⟩) hg).trans H.1, (h.cell (p := ⟨g, 1, none⟩) hg).trans H.2.1, (h.cell (p := ⟨g, 2, none⟩) hg).trans H.2.2.1, (h.cell (p := ⟨g, 3, none⟩) hg).trans H.2.2.2.1, (h.cell (p := ⟨b, o, none⟩) hb).trans H.2.2.2.2⟩
theorem row_sizes {a d e : ByteArray} : (a ++ ⟨#[32]⟩ : ByteArray).size = a.size + 1 ∧ (a ++ ⟨#[32]⟩ ++ d : ByteArray).size = a.size + 1 + d.size ∧ (a ++ ⟨#[32]⟩ ++ d ++ ⟨#[32]⟩ : ByteArray).size = a.size + 1 + d.size + 1 ∧ (a ++ ⟨#[32]⟩ ++ d ++ ⟨#[32]⟩ ++ e : ByteArray).size = a.size + 1 + d.size + 1 + e.size := by
  have p1 : (a ++ ⟨#[32]⟩ : ByteArray).size = a.size + 1 := ByteArray.size_append
  have p2 : (a ++ ⟨#[32]⟩ ++ d : ByteArray).size = a.size + 1 + d.size := by rw [ByteArray.size_append, p1]
  have p3 : (a ++ ⟨#[32]⟩ ++ d ++ ⟨#[32]⟩ : ByteArray).size = a.size + 1 + d.size + 1 := by rw [ByteArray.size_append, p2]; rfl
  exact ⟨p1, p2, p3, by rw [ByteArray.size_append, p3]⟩
theorem row_sizes2 {a d e f : ByteArray} : (a ++ ⟨#[32]⟩ ++ d ++ ⟨#[32]⟩ ++ e ++ ⟨#[32]⟩ : ByteArray).size = a.size + 1 + d.size + 1 + e.size + 1 ∧ (a ++ ⟨#[32]⟩ ++ d ++ ⟨#[32]⟩ ++ e ++ ⟨#[32]⟩ ++ f : ByteArray).size = a.size + 1 + d.size + 1 + e.size + 1 + f.size := by
  have p4 := (row_sizes (a := a) (d := d) (e := e)).2.2.2
  have p5 : (a ++ ⟨#[32]⟩ ++ d ++ ⟨#[32]⟩ ++ e ++ ⟨#[32]⟩ : ByteArray).size = a.size + 1 + d.size + 1 + e.size + 1 := by rw [ByteArray.size_append, p4]; rfl
  exact ⟨p5, by rw [ByteArray.size_append, p5]⟩
theorem rowB_size {arg v : Int} (ha : -10000000 ≤ arg ∧ arg ≤ 10000000) (hv : isV v = true) : (rowB arg v).size ≤ 70 := by
  have hb := isV_bd hv
  have s1 := decS_size arg (by omega) (by omega)
  have s2 := decS_size v (by omega) (by omega)
  have s3 := cht_size v
  unfold rowB
  rw [row_sizes.2.2.2]
  omega
theorem headB_size {s : ByteArray} {a b : Int} {n : Nat} (h0 : -9223372036854775808 ≤ a ∧ a ≤ 9223372036854775807) (h1 : -9223372036854775808 ≤ b ∧ b ≤ 9223372036854775807) (h2 : n ≤ 1000) : (headB s a b n).size ≤ s.size + 70 := by
  have s1 := decS_size a h0.1 h0.2
  have s2 := decS_size b h1.1 h1.2
  have s3 := decS_size (n : Int) (by omega) (by omega)
  unfold headB
  rw [row_sizes2.2]
  omega
set_option maxRecDepth 100000 in
set_option maxHeartbeats 1600000 in
theorem rowLine_c (B : Nat) (s : ByteArray) (a b : Int) (A : Option Addr) (n c : Nat) (f : Nat → Int) (i : Nat) (w : World) (hR : Rd w B (.slice A n c) n 1 (tab n f)) (hB : B ≤ w.heap.size) (hi : i < n) (hn : n ≤ 1000) (hv : isV (f i) = true) (ha : -1000000 ≤ a ∧ a ≤ 1000000) (hP : 0 ≤ (i : Int) * b ∧ (i : Int) * b ≤ 59000) (ht : Tab w) :
    Calls Tryd.prog 34 #[.agg #[.string s, .int .i64 a, .int .i64 b, .slice A n c], .int .i64 (i : Int)] w fun e w' => e = .returned (.string (rowB (argA a b i) (f i))) ∧ Below w.heap.size w w' := by
  obtain ⟨b1, o1, hA, hbB, hcc⟩ := rdF_all hR (by omega)
  subst hA
  have hb1 := (Below.refl w.heap.size w).alloc (Nat.le_refl _) (.cells #[.string s, .int .i64 a, .int .i64 b, .slice (some ⟨b1, o1, none⟩) n c] 26)
  obtain ⟨f0, f1, f2, f3, _⟩ := blk4 (heap_alloc_new w (.cells #[.string s, .int .i64 a, .int .i64 b, .slice (some ⟨b1, o1, none⟩) n c] 26))
  have hcell := (hb1.cell (p := ⟨b1, o1 + i, none⟩) (Nat.lt_of_lt_of_le hbB hB)).trans (hcc i hi)
  have hbd := isV_bd hv
  have hgl : w.heap.size < (w.alloc (.cells #[.string s, .int .i64 a, .int .i64 b, .slice (some ⟨b1, o1, none⟩) n c] 26)).heap.size := by simp
  have hbl : b1 < (w.alloc (.cells #[.string s, .int .i64 a, .int .i64 b, .slice (some ⟨b1, o1, none⟩) n c] 26)).heap.size := by omega
  have HAr := Lib.hid (fun wx => argument_c s a b (i : Int) (some ⟨b1, o1, none⟩) n c wx ha hP)
  have HE := Lib.hid (show rowB (argA a b i) (f i) = decS (a + (i : Int) * b) ++ ⟨#[32]⟩ ++ decS (f i) ++ ⟨#[32]⟩ ++ cht (f i) from rfl)
  have HK := Lib.hid (fun wx hx => checkText_c (f i) wx hv hx)
  have HD1 := Lib.hid (fun wx hx => Decimal_any (a + (i : Int) * b) wx (by omega) (by omega) hx)
  have HD2 := Lib.hid (fun wx hx => Decimal_any (f i) wx (by omega) (by omega) hx)
  have s1 := decS_size (a + (i : Int) * b) (by omega) (by omega)
  have s2 := decS_size (f i) (by omega) (by omega)
  have s3 := cht_size (f i)
  have hin : (i : Int) < (n : Int) := by omega
  obtain ⟨p1, p2, p3, p4⟩ := row_sizes (a := decS (a + (i : Int) * b)) (d := decS (f i)) (e := cht (f i))
  have Ht := Lib.hid ht
  clear hcc hR hv ha hP ht
  generalize rowB (argA a b i) (f i) = L at *
  generalize hX : a + (i : Int) * b = X at *
  generalize cht (f i) = Z at *
  generalize hV : f i = V at *
  generalize decS X = dX at *
  generalize decS V = dV at *
  clear hX hV
  go_enter Tryd.func34, Tryd.ntmps34
  go_wp2_with fail
  have ha0 := hb1.drew
  generalize w.alloc (.cells #[.string s, .int .i64 a, .int .i64 b, .slice (some ⟨b1, o1, none⟩) n c] 26) = w0 at *
  have hS0 : w0.drew.cell? ⟨w.heap.size, 0, none⟩ = some (.string s) ∧ w0.drew.cell? ⟨w.heap.size, 1, none⟩ = some (.int .i64 a) ∧ w0.drew.cell? ⟨w.heap.size, 2, none⟩ = some (.int .i64 b) ∧ w0.drew.cell? ⟨w.heap.size, 3, none⟩ = some (.slice (some ⟨b1, o1, none⟩) n c) ∧ w0.drew.cell? ⟨b1, o1 + i, none⟩ = some (.int .i64 V) := ⟨f0, f1, f2, f3, hcell⟩
  have hz0 : w0.heap.size ≤ w0.drew.heap.size := Nat.le_refl _
  clear f0 f1 f2 f3 hcell hb1
  refine wp_region_noPanic ?_
  refine wp_region_L [] (fun w' => w'.cell? ⟨w.heap.size, 0, none⟩ = some (.string s) ∧ w'.cell? ⟨w.heap.size, 1, none⟩ = some (.int .i64 a) ∧ w'.cell? ⟨w.heap.size, 2, none⟩ = some (.int .i64 b) ∧ w'.cell? ⟨w.heap.size, 3, none⟩ = some (.slice (some ⟨b1, o1, none⟩) n c) ∧ w'.cell? ⟨b1, o1 + i, none⟩ = some (.int .i64 V)) (by kernel_rfl) (hS0) (fun hHeld => ?_)
  refine take_L [0] (i := 0) (d := some 5) (v := ?_) (by kernel_rfl) (by kernel_rfl) (by kernel_rfl) (by kernel_rfl) rfl rfl (by kernel_rfl) (by kernel_rfl) (by kernel_rfl) (fun _ _ _ h => h) (Or.inl ⟨by rfl, ?_⟩) (by assumption) ?_
  rotate_left
  · (intro w hSw; (try dsimp only at hSw); go_simp; (try rw [if_neg (by omega)]); (try (with_reducible rfl)))
  simp only [Act.put, List.setIfInBounds_toArray, List.set_cons_zero, List.set_cons_succ]
  refine take_F (i := 1) (d := some 6) (v := ?_) (by kernel_rfl) (by kernel_rfl) rfl rfl (by kernel_rfl) (by kernel_rfl) (by kernel_rfl) (fun _ _ _ h => h) (Or.inl ⟨by rfl, ?_⟩) (by assumption) ?_
  rotate_left
  · (intro w hSw; (try dsimp only at hSw); go_simp; (try rw [if_neg (by omega)]); (try (with_reducible rfl)))
  simp only [Act.put, List.setIfInBounds_toArray, List.set_cons_zero, List.set_cons_succ]
  refine take_F (i := 5) (d := some 10) (v := ?_) (by kernel_rfl) (by kernel_rfl) rfl rfl (by kernel_rfl) (by kernel_rfl) (by kernel_rfl) (fun _ _ _ h => h) (Or.inl ⟨by rfl, ?_⟩) (by assumption) ?_
  rotate_left
  · (intro w hSw; (try dsimp only at hSw); go_simp; (try rw [if_neg (by omega)]); (try (with_reducible rfl)))
  simp only [Act.put, List.setIfInBounds_toArray, List.set_cons_zero, List.set_cons_succ]
  refine take_L [6] (i := 6) (d := some 11) (v := ?_) (by kernel_rfl) (by kernel_rfl) (by kernel_rfl) (by kernel_rfl) rfl rfl (by kernel_rfl) (by kernel_rfl) (by kernel_rfl) (fun _ _ _ h => h) (Or.inl ⟨by rfl, ?_⟩) (by assumption) ?_
  rotate_left
  · (intro w hSw; (try dsimp only at hSw); go_simp; (try rw [if_neg (by omega)]); (try (with_reducible rfl)))
  simp only [Act.put, List.setIfInBounds_toArray, List.set_cons_zero, List.set_cons_succ]
  refine take_F (i := 7) (d := some 12) (v := ?_) (by kernel_rfl) (by kernel_rfl) rfl rfl (by kernel_rfl) (by kernel_rfl) (by kernel_rfl) (fun _ _ _ h => h) (Or.inl ⟨by rfl, ?_⟩) (by assumption) ?_
  rotate_left
  · (intro w hSw; (try dsimp only at hSw); go_simp; (try rw [if_neg (by omega)]); (try (with_reducible rfl)))
  simp only [Act.put, List.setIfInBounds_toArray, List.set_cons_zero, List.set_cons_succ]
  refine take_F (i := 8) (d := some 13) (v := ?_) (by kernel_rfl) (by kernel_rfl) rfl rfl (by kernel_rfl) (by kernel_rfl) (by kernel_rfl) (fun _ _ _ h => h) (Or.inl ⟨by rfl, ?_⟩) (by assumption) ?_
  rotate_left
  · (intro w hSw; (try dsimp only at hSw); go_simp; (try rw [if_neg (by omega)]); (try (with_reducible rfl)))
  simp only [Act.put, List.setIfInBounds_toArray, List.set_cons_zero, List.set_cons_succ]
  refine take_L [9] (i := 9) (d := some 14) (v := ?_) (by kernel_rfl) (by kernel_rfl) (by kernel_rfl) (by kernel_rfl) rfl rfl (by kernel_rfl) (by kernel_rfl) (by kernel_rfl) (fun _ _ _ h => h) (Or.inl ⟨by rfl, ?_⟩) (by assumption) ?_
  rotate_left
  · (intro w hSw; (try dsimp only at hSw); go_simp; (try rw [if_neg (by omega)]); (try (with_reducible rfl)))
  simp only [Act.put, List.setIfInBounds_toArray, List.set_cons_zero, List.set_cons_succ]
  refine take_F (i := 13) (d := some 18) (v := ?_) (by kernel_rfl) (by kernel_rfl) rfl rfl (by kernel_rfl) (by kernel_rfl) (by kernel_rfl) (fun _ _ _ h => h) (Or.inl ⟨by rfl, ?_⟩) (by assumption) ?_
  rotate_left
  · (intro w hSw; (try dsimp only at hSw); go_simp; (try rw [if_neg (by omega)]); (try (with_reducible rfl)))
  simp only [Act.put, List.setIfInBounds_toArray, List.set_cons_zero, List.set_cons_succ]
  refine take_L [14] (i := 14) (d := some 19) (v := ?_) (by kernel_rfl) (by kernel_rfl) (by kernel_rfl) (by kernel_rfl) rfl rfl (by kernel_rfl) (by kernel_rfl) (by kernel_rfl) (fun _ _ _ h => h) (Or.inl ⟨by rfl, ?_⟩) (by assumption) ?_
  rotate_left
  · (intro w hSw; (try dsimp only at hSw); go_simp; (try rw [if_neg (by omega)]); (try (with_reducible rfl)))
  simp only [Act.put, List.setIfInBounds_toArray, List.set_cons_zero, List.set_cons_succ]
  refine take_F (i := 15) (d := some 20) (v := ?_) (by kernel_rfl) (by kernel_rfl) rfl rfl (by kernel_rfl) (by kernel_rfl) (by kernel_rfl) (fun _ _ _ h => h) (Or.inl ⟨by rfl, ?_⟩) (by assumption) ?_
  rotate_left
  · (intro w hSw; (try dsimp only at hSw); go_simp; (try rw [if_neg (by omega)]); (try (with_reducible rfl)))
  simp only [Act.put, List.setIfInBounds_toArray, List.set_cons_zero, List.set_cons_succ]
  refine take_F (i := 16) (d := some 21) (v := ?_) (by kernel_rfl) (by kernel_rfl) rfl rfl (by kernel_rfl) (by kernel_rfl) (by kernel_rfl) (fun _ _ _ h => h) (Or.inl ⟨by rfl, ?_⟩) (by assumption) ?_
  rotate_left
  · (intro w hSw; (try dsimp only at hSw); go_simp; (try rw [if_neg (by omega)]); (try (with_reducible rfl)))
  simp only [Act.put, List.setIfInBounds_toArray, List.set_cons_zero, List.set_cons_succ]
  refine take_L [17] (i := 17) (d := some 22) (v := ?_) (by kernel_rfl) (by kernel_rfl) (by kernel_rfl) (by kernel_rfl) rfl rfl (by kernel_rfl) (by kernel_rfl) (by kernel_rfl) (fun _ _ _ h => h) (Or.inl ⟨by rfl, ?_⟩) (by assumption) ?_
  rotate_left
  · (intro w hSw; (try dsimp only at hSw); go_simp; (try rw [if_neg (by omega)]); (try (with_reducible rfl)))
  simp only [Act.put, List.setIfInBounds_toArray, List.set_cons_zero, List.set_cons_succ]
  refine call_L (i := 2) (d := (some 7)) rfl rfl (by kernel_rfl) (fun Kq hKq => ?_)
  go_simp
  go_at_call 45
  refine (HAr.out _).mono ?_; rintro e w1 ⟨rfl, hb1⟩
  have hS1 := fiveP (Nat.lt_of_lt_of_le hgl hz0) (Nat.lt_of_lt_of_le hbl hz0) hb1 hS0
  have ha1 := ha0.trans (hb1.mono ha0.size)
  have hz1 := Nat.le_trans hz0 hb1.size
  clear hb1
  (try go_wp2_with fail)
  refine hKq.out _ _ (hS1) (fun hHeld => ?_)
  clear hKq Kq
  (try simp only [Act.put, List.setIfInBounds_toArray, List.set_cons_zero, List.set_cons_succ])
  refine call_L (i := 3) (d := (some 8)) rfl rfl (by kernel_rfl) (fun Kq hKq => ?_)
  go_simp
  go_at_call 59
  refine (HD1.out _ (Ht.out.below ha1)).mono ?_; rintro e w2 ⟨rfl, hb2⟩
  have hS2 := fiveP (Nat.lt_of_lt_of_le hgl hz1) (Nat.lt_of_lt_of_le hbl hz1) hb2 hS1
  have ha2 := ha1.trans (hb2.mono ha1.size)
  have hz2 := Nat.le_trans hz1 hb2.size
  clear hb2
  (try go_wp2_with fail)
  refine hKq.out _ _ (hS2) (fun hHeld => ?_)
  clear hKq Kq
  (try simp only [Act.put, List.setIfInBounds_toArray, List.set_cons_zero, List.set_cons_succ])
  refine take_F (i := 4) (d := some 9) (v := ?_) (by kernel_rfl) (by kernel_rfl) rfl rfl (by kernel_rfl) (by kernel_rfl) (by kernel_rfl) (fun _ _ _ h => h) (Or.inl ⟨by rfl, ?_⟩) (by assumption) ?_
  rotate_left
  · (intro w hSw; (try dsimp only at hSw); go_simp; (try rw [if_neg (by omega)]); (try (with_reducible rfl)))
  simp only [Act.put, List.setIfInBounds_toArray, List.set_cons_zero, List.set_cons_succ]
  refine call_L (i := 10) (d := (some 15)) rfl rfl (by kernel_rfl) (fun Kq hKq => ?_)
  go_simp
  go_at_call 59
  refine (HD2.out _ (Ht.out.below ha2)).mono ?_; rintro e w3 ⟨rfl, hb3⟩
  have hS3 := fiveP (Nat.lt_of_lt_of_le hgl hz2) (Nat.lt_of_lt_of_le hbl hz2) hb3 hS2
  have ha3 := ha2.trans (hb3.mono ha2.size)
  have hz3 := Nat.le_trans hz2 hb3.size
  clear hb3
  (try go_wp2_with fail)
  refine hKq.out _ _ (hS3) (fun hHeld => ?_)
  clear hKq Kq
  (try simp only [Act.put, List.setIfInBounds_toArray, List.set_cons_zero, List.set_cons_succ])
  refine take_F (i := 11) (d := some 16) (v := ?_) (by kernel_rfl) (by kernel_rfl) rfl rfl (by kernel_rfl) (by kernel_rfl) (by kernel_rfl) (fun _ _ _ h => h) (Or.inl ⟨by rfl, ?_⟩) (by assumption) ?_
  rotate_left
  · (intro w hSw; (try dsimp only at hSw); go_simp; (try rw [if_neg (by omega)]); (try (with_reducible rfl)))
  simp only [Act.put, List.setIfInBounds_toArray, List.set_cons_zero, List.set_cons_succ]
  refine take_F (i := 12) (d := some 17) (v := ?_) (by kernel_rfl) (by kernel_rfl) rfl rfl (by kernel_rfl) (by kernel_rfl) (by kernel_rfl) (fun _ _ _ h => h) (Or.inl ⟨by rfl, ?_⟩) (by assumption) ?_
  rotate_left
  · (intro w hSw; (try dsimp only at hSw); go_simp; (try rw [if_neg (by omega)]); (try (with_reducible rfl)))
  simp only [Act.put, List.setIfInBounds_toArray, List.set_cons_zero, List.set_cons_succ]
  refine call_L (i := 18) (d := (some 23)) rfl rfl (by kernel_rfl) (fun Kq hKq => ?_)
  go_simp
  go_at_call 60
  refine (HK.out _ (Ht.out.below ha3)).mono ?_; rintro e w4 ⟨rfl, hb4⟩
  have hS4 := fiveP (Nat.lt_of_lt_of_le hgl hz3) (Nat.lt_of_lt_of_le hbl hz3) hb4 hS3
  have ha4 := ha3.trans (hb4.mono ha3.size)
  have hz4 := Nat.le_trans hz3 hb4.size
  clear hb4
  (try go_wp2_with fail)
  refine hKq.out _ _ (hS4) (fun hHeld => ?_)
  clear hKq Kq
  (try simp only [Act.put, List.setIfInBounds_toArray, List.set_cons_zero, List.set_cons_succ])
  refine take_F (i := 19) (d := some 24) (v := ?_) (by kernel_rfl) (by kernel_rfl) rfl rfl (by kernel_rfl) (by kernel_rfl) (by kernel_rfl) (fun _ _ _ h => h) (Or.inl ⟨by rfl, ?_⟩) (by assumption) ?_
  rotate_left
  · (intro w hSw; (try dsimp only at hSw); go_simp; (try rw [if_neg (by omega)]); (try (with_reducible rfl)))
  simp only [Act.put, List.setIfInBounds_toArray, List.set_cons_zero, List.set_cons_succ]
  refine take_F (i := 20) (d := some 4) (v := ?_) (by kernel_rfl) (by kernel_rfl) rfl rfl (by kernel_rfl) (by kernel_rfl) (by kernel_rfl) (fun _ _ _ h => h) (Or.inl ⟨by rfl, ?_⟩) (by assumption) ?_
  rotate_left
  · (intro w hSw; (try dsimp only at hSw); go_simp; (try rw [if_neg (by omega)]); (try (with_reducible rfl)))
  simp only [Act.put, List.setIfInBounds_toArray, List.set_cons_zero, List.set_cons_succ]
  refine done_L (by kernel_rfl) ?_ _
  refine NoPanic.normal ?_
  go_wp2_with fail
  go_ret
  exact ⟨by rw [HE.out]; rfl, ha4⟩
set_option maxRecDepth 100000 in
set_option maxHeartbeats 1600000 in
theorem headLine_c (s : ByteArray) (a b : Int) (v : Value) (n : Nat) (w : World) (hs : s.size ≤ 1048576) (ha : -1000000 ≤ a ∧ a ≤ 1000000) (hbb : -1000000 ≤ b ∧ b ≤ 1000000) (hn : n ≤ 1000) (ht : Tab w) :
    Calls Tryd.prog 33 #[.agg #[.string s, .int .i64 a, .int .i64 b, v], .int .i64 (n : Int)] w fun e w' => e = .returned (.string (headB s a b n)) ∧ Below w.heap.size w w' := by
  have hb1 := (Below.refl w.heap.size w).alloc (Nat.le_refl _) (.cells #[.string s, .int .i64 a, .int .i64 b, v] 26)
  obtain ⟨f0, f1, f2, f3, _⟩ := blk4 (heap_alloc_new w (.cells #[.string s, .int .i64 a, .int .i64 b, v] 26))
  have hgl : w.heap.size < (w.alloc (.cells #[.string s, .int .i64 a, .int .i64 b, v] 26)).heap.size := by simp
  have HE := Lib.hid (show headB s a b n = s ++ ⟨#[32]⟩ ++ decS a ++ ⟨#[32]⟩ ++ decS b ++ ⟨#[32]⟩ ++ decS (n : Int) from rfl)
  have HD1 := Lib.hid (fun wx hx => Decimal_any a wx (by omega) (by omega) hx)
  have HD2 := Lib.hid (fun wx hx => Decimal_any b wx (by omega) (by omega) hx)
  have HD3 := Lib.hid (fun wx hx => Decimal_any (n : Int) wx (by omega) (by omega) hx)
  have s1 := decS_size a (by omega) (by omega)
  have s2 := decS_size b (by omega) (by omega)
  have s3 := decS_size (n : Int) (by omega) (by omega)
  obtain ⟨p1, p2, p3, p4⟩ := row_sizes (a := s) (d := decS a) (e := decS b)
  obtain ⟨p5, p6⟩ := row_sizes2 (a := s) (d := decS a) (e := decS b) (f := decS (n : Int))
  have Ht := Lib.hid ht
  clear ht ha hbb
  generalize headB s a b n = L at *
  generalize decS a = dA at *
  generalize decS b = dB at *
  generalize decS (n : Int) = dN at *
  go_enter Tryd.func33, Tryd.ntmps33
  go_wp2_with fail
  have ha0 := hb1.drew
  generalize w.alloc (.cells #[.string s, .int .i64 a, .int .i64 b, v] 26) = w0 at *
  have hS0 : w0.drew.cell? ⟨w.heap.size, 0, none⟩ = some (.string s) ∧ w0.drew.cell? ⟨w.heap.size, 1, none⟩ = some (.int .i64 a) ∧ w0.drew.cell? ⟨w.heap.size, 2, none⟩ = some (.int .i64 b) ∧ w0.drew.cell? ⟨w.heap.size, 3, none⟩ = some v := ⟨f0, f1, f2, f3⟩
  have hz0 : w0.heap.size ≤ w0.drew.heap.size := Nat.le_refl _
  clear f0 f1 f2 f3 hb1
  refine wp_region_noPanic ?_
  refine wp_region_L [] (fun w' => w'.cell? ⟨w.heap.size, 0, none⟩ = some (.string s) ∧ w'.cell? ⟨w.heap.size, 1, none⟩ = some (.int .i64 a) ∧ w'.cell? ⟨w.heap.size, 2, none⟩ = some (.int .i64 b) ∧ w'.cell? ⟨w.heap.size, 3, none⟩ = some v) (by kernel_rfl) (hS0) (fun hHeld => ?_)
  refine take_F (i := 0) (d := some 5) (v := ?_) (by kernel_rfl) (by kernel_rfl) rfl rfl (by kernel_rfl) (by kernel_rfl) (by kernel_rfl) (fun _ _ _ h => h) (Or.inl ⟨by rfl, ?_⟩) (by assumption) ?_
  rotate_left
  · (intro w hSw; (try dsimp only at hSw); go_simp; (try rw [if_neg (by omega)]); (try (with_reducible rfl)))
  simp only [Act.put, List.setIfInBounds_toArray, List.set_cons_zero, List.set_cons_succ]
  refine take_L [1] (i := 1) (d := some 6) (v := ?_) (by kernel_rfl) (by kernel_rfl) (by kernel_rfl) (by kernel_rfl) rfl rfl (by kernel_rfl) (by kernel_rfl) (by kernel_rfl) (fun _ _ _ h => h) (Or.inl ⟨by rfl, ?_⟩) (by assumption) ?_
  rotate_left
  · (intro w hSw; (try dsimp only at hSw); go_simp; (try rw [if_neg (by omega)]); (try (with_reducible rfl)))
  simp only [Act.put, List.setIfInBounds_toArray, List.set_cons_zero, List.set_cons_succ]
  refine take_F (i := 2) (d := some 7) (v := ?_) (by kernel_rfl) (by kernel_rfl) rfl rfl (by kernel_rfl) (by kernel_rfl) (by kernel_rfl) (fun _ _ _ h => h) (Or.inl ⟨by rfl, ?_⟩) (by assumption) ?_
  rotate_left
  · (intro w hSw; (try dsimp only at hSw); go_simp; (try rw [if_neg (by omega)]); (try (with_reducible rfl)))
  simp only [Act.put, List.setIfInBounds_toArray, List.set_cons_zero, List.set_cons_succ]
  refine take_F (i := 3) (d := some 8) (v := ?_) (by kernel_rfl) (by kernel_rfl) rfl rfl (by kernel_rfl) (by kernel_rfl) (by kernel_rfl) (fun _ _ _ h => h) (Or.inl ⟨by rfl, ?_⟩) (by assumption) ?_
  rotate_left
  · (intro w hSw; (try dsimp only at hSw); go_simp; (try rw [if_neg (by omega)]); (try (with_reducible rfl)))
  simp only [Act.put, List.setIfInBounds_toArray, List.set_cons_zero, List.set_cons_succ]
  refine take_L [4] (i := 4) (d := some 9) (v := ?_) (by kernel_rfl) (by kernel_rfl) (by kernel_rfl) (by kernel_rfl) rfl rfl (by kernel_rfl) (by kernel_rfl) (by kernel_rfl) (fun _ _ _ h => h) (Or.inl ⟨by rfl, ?_⟩) (by assumption) ?_
  rotate_left
  · (intro w hSw; (try dsimp only at hSw); go_simp; (try rw [if_neg (by omega)]); (try (with_reducible rfl)))
  simp only [Act.put, List.setIfInBounds_toArray, List.set_cons_zero, List.set_cons_succ]
  refine take_F (i := 8) (d := some 13) (v := ?_) (by kernel_rfl) (by kernel_rfl) rfl rfl (by kernel_rfl) (by kernel_rfl) (by kernel_rfl) (fun _ _ _ h => h) (Or.inl ⟨by rfl, ?_⟩) (by assumption) ?_
  rotate_left
  · (intro w hSw; (try dsimp only at hSw); go_simp; (try rw [if_neg (by omega)]); (try (with_reducible rfl)))
  simp only [Act.put, List.setIfInBounds_toArray, List.set_cons_zero, List.set_cons_succ]
  refine take_L [9] (i := 9) (d := some 14) (v := ?_) (by kernel_rfl) (by kernel_rfl) (by kernel_rfl) (by kernel_rfl) rfl rfl (by kernel_rfl) (by kernel_rfl) (by kernel_rfl) (fun _ _ _ h => h) (Or.inl ⟨by rfl, ?_⟩) (by assumption) ?_
  rotate_left
  · (intro w hSw; (try dsimp only at hSw); go_simp; (try rw [if_neg (by omega)]); (try (with_reducible rfl)))
  simp only [Act.put, List.setIfInBounds_toArray, List.set_cons_zero, List.set_cons_succ]
  refine take_F (i := 13) (d := some 18) (v := ?_) (by kernel_rfl) (by kernel_rfl) rfl rfl (by kernel_rfl) (by kernel_rfl) (by kernel_rfl) (fun _ _ _ h => h) (Or.inl ⟨by rfl, ?_⟩) (by assumption) ?_
  rotate_left
  · (intro w hSw; (try dsimp only at hSw); go_simp; (try rw [if_neg (by omega)]); (try (with_reducible rfl)))
  simp only [Act.put, List.setIfInBounds_toArray, List.set_cons_zero, List.set_cons_succ]
  refine call_L (i := 5) (d := (some 10)) rfl rfl (by kernel_rfl) (fun Kq hKq => ?_)
  go_simp
  go_at_call 59
  refine (HD1.out _ (Ht.out.below ha0)).mono ?_; rintro e w1 ⟨rfl, hb1⟩
  have hS1 := fourP (Nat.lt_of_lt_of_le hgl hz0) hb1 hS0
  have ha1 := ha0.trans (hb1.mono ha0.size)
  have hz1 := Nat.le_trans hz0 hb1.size
  clear hb1
  (try go_wp2_with fail)
  refine hKq.out _ _ (hS1) (fun hHeld => ?_)
  clear hKq Kq
  (try simp only [Act.put, List.setIfInBounds_toArray, List.set_cons_zero, List.set_cons_succ])
  refine take_F (i := 6) (d := some 11) (v := ?_) (by kernel_rfl) (by kernel_rfl) rfl rfl (by kernel_rfl) (by kernel_rfl) (by kernel_rfl) (fun _ _ _ h => h) (Or.inl ⟨by rfl, ?_⟩) (by assumption) ?_
  rotate_left
  · (intro w hSw; (try dsimp only at hSw); go_simp; (try rw [if_neg (by omega)]); (try (with_reducible rfl)))
  simp only [Act.put, List.setIfInBounds_toArray, List.set_cons_zero, List.set_cons_succ]
  refine take_F (i := 7) (d := some 12) (v := ?_) (by kernel_rfl) (by kernel_rfl) rfl rfl (by kernel_rfl) (by kernel_rfl) (by kernel_rfl) (fun _ _ _ h => h) (Or.inl ⟨by rfl, ?_⟩) (by assumption) ?_
  rotate_left
  · (intro w hSw; (try dsimp only at hSw); go_simp; (try rw [if_neg (by omega)]); (try (with_reducible rfl)))
  simp only [Act.put, List.setIfInBounds_toArray, List.set_cons_zero, List.set_cons_succ]
  refine call_L (i := 10) (d := (some 15)) rfl rfl (by kernel_rfl) (fun Kq hKq => ?_)
  go_simp
  go_at_call 59
  refine (HD2.out _ (Ht.out.below ha1)).mono ?_; rintro e w2 ⟨rfl, hb2⟩
  have hS2 := fourP (Nat.lt_of_lt_of_le hgl hz1) hb2 hS1
  have ha2 := ha1.trans (hb2.mono ha1.size)
  have hz2 := Nat.le_trans hz1 hb2.size
  clear hb2
  (try go_wp2_with fail)
  refine hKq.out _ _ (hS2) (fun hHeld => ?_)
  clear hKq Kq
  (try simp only [Act.put, List.setIfInBounds_toArray, List.set_cons_zero, List.set_cons_succ])
  refine take_F (i := 11) (d := some 16) (v := ?_) (by kernel_rfl) (by kernel_rfl) rfl rfl (by kernel_rfl) (by kernel_rfl) (by kernel_rfl) (fun _ _ _ h => h) (Or.inl ⟨by rfl, ?_⟩) (by assumption) ?_
  rotate_left
  · (intro w hSw; (try dsimp only at hSw); go_simp; (try rw [if_neg (by omega)]); (try (with_reducible rfl)))
  simp only [Act.put, List.setIfInBounds_toArray, List.set_cons_zero, List.set_cons_succ]
  refine take_F (i := 12) (d := some 17) (v := ?_) (by kernel_rfl) (by kernel_rfl) rfl rfl (by kernel_rfl) (by kernel_rfl) (by kernel_rfl) (fun _ _ _ h => h) (Or.inl ⟨by rfl, ?_⟩) (by assumption) ?_
  rotate_left
  · (intro w hSw; (try dsimp only at hSw); go_simp; (try rw [if_neg (by omega)]); (try (with_reducible rfl)))
  simp only [Act.put, List.setIfInBounds_toArray, List.set_cons_zero, List.set_cons_succ]
  refine call_L (i := 14) (d := (some 19)) rfl rfl (by kernel_rfl) (fun Kq hKq => ?_)
  go_simp
  go_at_call 59
  refine (HD3.out _ (Ht.out.below ha2)).mono ?_; rintro e w3 ⟨rfl, hb3⟩
  have hS3 := fourP (Nat.lt_of_lt_of_le hgl hz2) hb3 hS2
  have ha3 := ha2.trans (hb3.mono ha2.size)
  have hz3 := Nat.le_trans hz2 hb3.size
  clear hb3
  (try go_wp2_with fail)
  refine hKq.out _ _ (hS3) (fun hHeld => ?_)
  clear hKq Kq
  (try simp only [Act.put, List.setIfInBounds_toArray, List.set_cons_zero, List.set_cons_succ])
  refine take_F (i := 15) (d := some 20) (v := ?_) (by kernel_rfl) (by kernel_rfl) rfl rfl (by kernel_rfl) (by kernel_rfl) (by kernel_rfl) (fun _ _ _ h => h) (Or.inl ⟨by rfl, ?_⟩) (by assumption) ?_
  rotate_left
  · (intro w hSw; (try dsimp only at hSw); go_simp; (try rw [if_neg (by omega)]); (try (with_reducible rfl)))
  simp only [Act.put, List.setIfInBounds_toArray, List.set_cons_zero, List.set_cons_succ]
  refine take_F (i := 16) (d := some 4) (v := ?_) (by kernel_rfl) (by kernel_rfl) rfl rfl (by kernel_rfl) (by kernel_rfl) (by kernel_rfl) (fun _ _ _ h => h) (Or.inl ⟨by rfl, ?_⟩) (by assumption) ?_
  rotate_left
  · (intro w hSw; (try dsimp only at hSw); go_simp; (try rw [if_neg (by omega)]); (try (with_reducible rfl)))
  simp only [Act.put, List.setIfInBounds_toArray, List.set_cons_zero, List.set_cons_succ]
  refine done_L (by kernel_rfl) ?_ _
  refine NoPanic.normal ?_
  go_wp2_with fail
  go_ret
  exact ⟨by rw [HE.out]; rfl, ha3⟩
theorem footB_size (f : Nat → Int) {n : Nat} (h : n ≤ 60) : (footB f n).size ≤ 24 := by
  have s1 := decS_size (ftS f n % 97) (by omega) (by omega)
  unfold footB
  rw [ByteArray.size_append]
  have : (⟨#[115, 117, 109, 32]⟩ : ByteArray).size = 4 := rfl
  omega
set_option maxRecDepth 100000 in
set_option maxHeartbeats 1600000 in
theorem footLine_c (B : Nat) (s : ByteArray) (a b : Int) (A : Option Addr) (n c : Nat) (f : Nat → Int) (w : World) (hR : Rd w B (.slice A n c) n 1 (tab n f)) (hB : B ≤ w.heap.size) (hn : n ≤ 60) (h0 : 0 < n) (hv : ∀ i, i < n → isV (f i) = true) (ht : Tab w) :
    Calls Tryd.prog 35 #[.agg #[.string s, .int .i64 a, .int .i64 b, .slice A n c]] w fun e w' => e = .returned (.string (footB f n)) ∧ Below w.heap.size w w' := by
  have hb1 := (Below.refl w.heap.size w).alloc (Nat.le_refl _) (.cells #[.string s, .int .i64 a, .int .i64 b, .slice A n c] 26)
  obtain ⟨f0, f1, f2, f3, _⟩ := blk4 (heap_alloc_new w (.cells #[.string s, .int .i64 a, .int .i64 b, .slice A n c] 26))
  obtain ⟨b1, o1, hA, hbB, hcc⟩ := rdF_all (hR.below (hb1.mono hB)) h0
  subst hA
  have Hcc := Lib.hid hcc
  have Hv := Lib.hid hv
  have Ht := Lib.hid ht
  have Hb1 := Lib.hid hb1
  have HE := Lib.hid (show footB f n = ⟨#[115, 117, 109, 32]⟩ ++ decS (ftS f n % 97) from rfl)
  clear hb1 hcc hv ht hR
  go_enter Tryd.func35, Tryd.ntmps35
  go_wp2_with fail
  generalize w.alloc (.cells #[.string s, .int .i64 a, .int .i64 b, .slice (some ⟨b1, o1, none⟩) n c] 26) = w0 at *
  go_loop [3, 9] (fun o i => ∃ k : Nat, k ≤ n ∧ i = .int .i64 (k : Int) ∧ o = .int .i64 (ftS f k)) (fun _ i => n - (intOf i).toNat)
  case atStart => exact ⟨0, Nat.zero_le _, rfl, rfl⟩
  case round =>
    obtain ⟨k, hk, rfl, rfl⟩ := hrel
    have hfb := ftS_bd f k (by omega)
    by_cases hkn : k < n
    · have hkn' : (k : Int) < (n : Int) := by omega
      have q0 := Hcc.out k hkn
      have HC := Lib.hid (fun wx => checkDigit_c (f k) wx (Hv.out k hkn))
      have hck := ck_bd (f k)
      have hst : ftS f (k + 1) = ftS f k + ((k : Int) + 1) * ck (f k) := rfl
      have hfb2 := ftS_bd f (k + 1) (by omega)
      rw [hst] at hfb2
      have Hst := Lib.hid hst
      generalize ck (f k) = C0 at *
      generalize ftS f k = F0 at *
      generalize hP : ((k : Int) + 1) * C0 = P at *
      have hPb : 0 ≤ P := by rw [← hP]; exact Int.mul_nonneg (by omega) (by omega)
      have hw1 : IntKind.i64.wrap (((k : Int) + 1) * C0) = P := by rw [hP]; exact IntWalk.i64_in _ (by omega)
      have hw2 : IntKind.i64.wrap (F0 + P) = F0 + P := IntWalk.i64_in _ (by omega)
      clear hst
      go_wp2_with fail
      refine (HC.out _).mono ?_; rintro e w1 ⟨rfl, rfl⟩
      go_wp2_with fail
      go_round
      case rel => exact ⟨k + 1, by omega, by go_num, by rw [Hst.out]⟩
      case measure => simp [intOf]; omega
    · obtain rfl : k = n := by omega
      have hkn' : ¬ ((k : Int) < (k : Int)) := by omega
      have hm : Int.tmod (ftS f k) 97 = ftS f k % 97 := Int.tmod_eq_emod_of_nonneg hfb.1
      have s1 := decS_size (ftS f k % 97) (by omega) (by omega)
      have HD := Lib.hid (fun wx hx => Decimal_any (ftS f k % 97) wx (by omega) (by omega) hx)
      have s4 : (⟨#[115, 117, 109, 32]⟩ : ByteArray).size = 4 := rfl
      generalize ftS f k = F0 at *
      go_wp2_with fail
      refine (HD.out _ (Ht.out.below Hb1.out)).mono ?_; rintro e w1 ⟨rfl, hb2⟩
      have Hb2 := Lib.hid (Hb1.out.trans (hb2.mono Hb1.out.size))
      clear hb2
      go_wp2_with fail
      go_ret
      exact ⟨by rw [HE.out]; rfl, Hb2.out⟩
set_option maxRecDepth 100000 in
set_option maxHeartbeats 1600000 in
theorem l18Row_c (arg v : Int) (w : World) (ha : -10000000 ≤ arg ∧ arg ≤ 10000000) (hv : isV v = true) : Calls Tryd.prog 64 #[.int .i64 arg, .int .i64 v] w fun e w' => e = .returned (.string (rowB arg v)) ∧ Below w.heap.size w w' := by
  have hbd := isV_bd hv
  have hck := ck_bd v
  have HE := Lib.hid (show rowB arg v = decS arg ++ ⟨#[32]⟩ ++ decS v ++ ⟨#[32]⟩ ++ chS (ck v) from rfl)
  have HK := Lib.hid (fun wx => l18Check_c v wx hv)
  have HS := Lib.hid (fun wx => l18Sign_c (ck v) wx hck.1 hck.2)
  have HD1 := Lib.hid (fun wx => l01Dec_any arg wx (by omega) (by omega))
  have HD2 := Lib.hid (fun wx => l01Dec_any v wx (by omega) (by omega))
  have s1 := decS_size arg (by omega) (by omega)
  have s2 := decS_size v (by omega) (by omega)
  have s3 : (chS (ck v)).size ≤ 20 := cht_size v
  obtain ⟨p1, p2, p3, p4⟩ := row_sizes (a := decS arg) (d := decS v) (e := chS (ck v))
  clear hv ha hbd
  generalize ck v = d at *
  generalize chS d = Z at *
  generalize rowB arg v = L at *
  generalize decS arg = dX at *
  generalize decS v = dV at *
  go_enter Tryd.func64, Tryd.ntmps64
  go_wp2_with fail
  refine (HD1.out _).mono ?_; rintro e w1 ⟨rfl, hb1⟩
  go_wp2_with fail
  refine (HD2.out _).mono ?_; rintro e w2 ⟨rfl, hb2⟩
  have hb3 := hb1.trans (hb2.mono hb1.size)
  clear hb1 hb2
  go_wp2_with fail
  refine (HK.out _).mono ?_; rintro e w3 ⟨rfl, rfl⟩
  go_wp2_with fail
  refine (HS.out _).mono ?_; rintro e w4 ⟨rfl, hb4⟩
  have hb5 := hb3.trans (hb4.mono hb3.size)
  clear hb3 hb4
  go_wp2_with fail
  go_ret
  exact ⟨by rw [HE.out]; rfl, hb5⟩
set_option maxRecDepth 100000 in
set_option maxHeartbeats 1600000 in
theorem l18Foot_c (g B : Nat) (A : Option Addr) (n c : Nat) (f : Nat → Int) (w : World) (f3 : w.cell? ⟨g, 3, none⟩ = some (.slice A n c)) (hR : Rd w B (.slice A n c) n 1 (tab n f)) (hn : n ≤ 60) (h0 : 0 < n) (hv : ∀ i, i < n → isV (f i) = true) :
    Calls Tryd.prog 65 #[.pointer (some ⟨g, 0, none⟩)] w fun e w' => e = .returned (.int .i64 (ftS f n % 97)) ∧ w = w' := by
  obtain ⟨b1, o1, hA, hbB, hcc⟩ := rdF_all hR h0
  subst hA
  have Hcc := Lib.hid hcc
  have Hv := Lib.hid hv
  clear hcc hv hR
  go_enter Tryd.func65, Tryd.ntmps65
  go_wp2_with fail
  go_loop [3, 4] (fun o i => ∃ k : Nat, k ≤ n ∧ i = .int .i64 (k : Int) ∧ o = .int .i64 (ftS f k)) (fun _ i => n - (intOf i).toNat)
  case atStart => exact ⟨0, Nat.zero_le _, rfl, rfl⟩
  case round =>
    obtain ⟨k, hk, rfl, rfl⟩ := hrel
    have hfb := ftS_bd f k (by omega)
    by_cases hkn : k < n
    · have hkn' : (k : Int) < (n : Int) := by omega
      have q0 := Hcc.out k hkn
      have HC := Lib.hid (fun wx => l18Check_c (f k) wx (Hv.out k hkn))
      have hck := ck_bd (f k)
      have hst : ftS f (k + 1) = ftS f k + ((k : Int) + 1) * ck (f k) := rfl
      have hfb2 := ftS_bd f (k + 1) (by omega)
      rw [hst] at hfb2
      have Hst := Lib.hid hst
      generalize ck (f k) = C0 at *
      generalize ftS f k = F0 at *
      generalize hP : ((k : Int) + 1) * C0 = P at *
      have hPb : 0 ≤ P := by rw [← hP]; exact Int.mul_nonneg (by omega) (by omega)
      have hw1 : IntKind.i64.wrap (((k : Int) + 1) * C0) = P := by rw [hP]; exact IntWalk.i64_in _ (by omega)
      have hw2 : IntKind.i64.wrap (F0 + P) = F0 + P := IntWalk.i64_in _ (by omega)
      clear hst
      go_wp2_with fail
      refine (HC.out _).mono ?_; rintro e w1 ⟨rfl, rfl⟩
      go_wp2_with fail
      go_round
      case rel => exact ⟨k + 1, by omega, by go_num, by rw [Hst.out]⟩
      case measure => simp [intOf]; omega
    · obtain rfl : k = n := by omega
      have hkn' : ¬ ((k : Int) < (k : Int)) := by omega
      have hm : Int.tmod (ftS f k) 97 = ftS f k % 97 := Int.tmod_eq_emod_of_nonneg hfb.1
      obtain ⟨F0, hF⟩ : ∃ F0, ftS f k = F0 := ⟨_, rfl⟩
      have HF := Lib.hid hF
      rw [hF] at hm hfb ⊢
      clear hF
      go_wp2_with fail
      go_ret
      exact ⟨by rw [HF.out]; rfl, rfl⟩
end Go.Proofs.YtnhngccfbnnpoaaDoor
/- Printed pages, part 4: PrintPage of both sides (gen_pa4.py). -/
namespace Go.Proofs.YtnhngccfbnnpoaaDoor
open Go.RowKit Go.Joins

/-- the lines but the last -/
def pgl (s : ByteArray) (a b : Int) (n : Nat) (f : Nat → Int) (k : Nat) : List ByteArray := headB s a b n :: rowsB a b f k
theorem pgl_len (s : ByteArray) (a b : Int) (n : Nat) (f : Nat → Int) (k : Nat) : (pgl s a b n f k).length = k + 1 := by unfold pgl; simp [rowsB_len]
theorem pgl_zero (s : ByteArray) (a b : Int) (n : Nat) (f : Nat → Int) : pgl s a b n f 0 = [headB s a b n] := rfl
theorem pgl_snoc (s : ByteArray) (a b : Int) (n : Nat) (f : Nat → Int) (k : Nat) : pgl s a b n f (k + 1) = pgl s a b n f k ++ [rowB (argA a b k) (f k)] := by
  unfold pgl
  rw [rowsB_snoc]; rfl
theorem pgl_all (s : ByteArray) (a b : Int) (n : Nat) (f : Nat → Int) : pageL s a b n f = pgl s a b n f n ++ [footB f n] := rfl
theorem map_snocV (l : List ByteArray) (x : ByteArray) : (l ++ [x]).map Value.string = l.map Value.string ++ (#[Value.string x] : Array Value).toList := by simp
theorem arg_bd {i n : Nat} {b : Int} (hi : i < n) (hn : n ≤ 60) (hb : 1 ≤ b ∧ b ≤ 1000) : 0 ≤ (i : Int) * b ∧ (i : Int) * b ≤ 59000 := by
  have := prod_bd (n := i + 1) (b := b) (by omega) hb
  rwa [show ((i + 1 : Nat) : Int) - 1 = (i : Int) by omega] at this
structure PgF (s : ByteArray) (a b : Int) (n : Nat) (f : Nat → Int) : Prop where
  n1 : 1 ≤ n
  n60 : n ≤ 60
  a0 : -1000000 ≤ a ∧ a ≤ 1000000
  b0 : 1 ≤ b ∧ b ≤ 1000
  vs : ∀ i, i < n → isV (f i) = true
  nm : isNm s.data.toList = true
  hd : hdOk s a b n = true
theorem pgF {s : ByteArray} {a b : Int} {n : Nat} {f : Nat → Int} (h : pgOk s.data.toList a b n f = true) : PgF s a b n f := by
  rw [pgOk_hd, Bool.and_eq_true] at h
  obtain ⟨h1, h2⟩ := h
  obtain ⟨k1, k2, k3, k4, _⟩ := hdOk_n h2
  exact ⟨k3.1, k3.2, k4, k2, fun i hi => allN_get h1 hi, k1, h2⟩
def ppC (s : ByteArray) (a b : Int) (n : Nat) (f : Nat → Int) : Int := if pgOk s.data.toList a b n f = true then 0 else 1
def ppL (s : ByteArray) (a b : Int) (n : Nat) (f : Nat → Int) : List ByteArray := if pgOk s.data.toList a b n f = true then pageL s a b n f else []
theorem ppL_len (s : ByteArray) (a b : Int) (n : Nat) (f : Nat → Int) : (ppL s a b n f).length ≤ 62 := by
  unfold ppL
  split
  · rename_i h
    have := (pgF h).n60
    rw [pageL_len]; omega
  · exact Nat.zero_le _
/-- lines of the call's own, and a code -/
def RetPp (c : Int) (L : List ByteArray) (w : World) (e : Ending) (w' : World) : Prop := ∃ v, e = .returned (.tuple #[v, .int .i64 c]) ∧ w'.ownsRow w.heap.size 9 1 v L.length (L.map Value.string) ∧ Below w.heap.size w w'
theorem RetPp.bad {s : ByteArray} {a b : Int} {n : Nat} {f : Nat → Int} {w w' : World} (h : pgOk s.data.toList a b n f = false) (hb : Below w.heap.size w w') : RetPp (ppC s a b n f) (ppL s a b n f) w (.returned (.tuple #[.slice none 0 0, .int .i64 1])) w' := by
  unfold ppC ppL
  rw [h, if_neg (by simp), if_neg (by simp)]
  exact ⟨_, rfl, ⟨rfl, .inl ⟨rfl, rfl⟩⟩, hb⟩
theorem own_slP {w : World} {base n size : Nat} {e : TypeId} {v : Value} {cs : List Value} (h : w.ownsRow base e size v n cs) : ∃ A c, v = .slice A n c := by
  obtain ⟨_, A, c, hv, _⟩ := Rd.of_own h
  exact ⟨A, c, hv⟩
/-- the row of one line -/
theorem own_lit1 {w : World} {base : Nat} (hb : base ≤ w.heap.size) (x : ByteArray) : (w.alloc (.cells #[.string x] 9)).ownsRow base 9 1 (.slice (some ⟨w.heap.size, 0, none⟩) 1 1) 1 [.string x] :=
  World.ownsRow_lit (base := base) (e := 9) (size := 1) w #[.string x] 1 hb (by simp [maxLen]) rfl
set_option maxRecDepth 100000 in
set_option maxHeartbeats 1600000 in
theorem PrintPageI_c (B : Nat) (s : ByteArray) (a b : Int) (A : Option Addr) (n c : Nat) (f : Nat → Int) (w : World) (hs : s.size ≤ 1048576) (h : Rd w B (.slice A n c) n 1 (tab n f)) (hB : B ≤ w.heap.size) (hn : n ≤ 1000) (ht : Tab w) :
    Calls Tryd.prog 6 #[.agg #[.string s, .int .i64 a, .int .i64 b, .slice A n c]] w (RetPp (ppC s a b n f) (ppL s a b n f) w) := by
  have hb1 := (Below.refl w.heap.size w).alloc (Nat.le_refl _) (.cells #[.string s, .int .i64 a, .int .i64 b, .slice A n c] 26)
  have hgl : w.heap.size < (w.alloc (.cells #[.string s, .int .i64 a, .int .i64 b, .slice A n c] 26)).heap.size := by simp
  obtain ⟨f0, f1, f2, f3, _⟩ := blk4 (heap_alloc_new w (.cells #[.string s, .int .i64 a, .int .i64 b, .slice A n c] 26))
  have HF := Lib.hid (fun wq hq => fourP (w' := wq) hgl hq ⟨f0, f1, f2, f3⟩)
  have H := Lib.hid (h.below (hb1.mono hB))
  have HV := Lib.hid (ValidPageI_c B s a b A n c f _ hs (h.below (hb1.mono hB)) (Nat.le_trans hB hb1.size) hn)
  have Hb1 := Lib.hid hb1
  have Ht := Lib.hid ht
  clear h ht hb1
  cases hok : pgOk s.data.toList a b n f with
  | false =>
    have Hz := Lib.hid (fun w' (hb : Below w.heap.size w w') => RetPp.bad hok hb)
    rw [hok] at HV
    clear hok
    go_enter Tryd.func6, Tryd.ntmps6
    go_wp2_with fail
    generalize w.alloc (.cells #[.string s, .int .i64 a, .int .i64 b, .slice A n c] 26) = w0 at *
    refine HV.out.mono ?_; rintro e w1 ⟨rfl, hb2⟩
    have Hy := Lib.hid (Hz.out w1 (Hb1.out.trans (hb2.mono Hb1.out.size)))
    clear hb2
    go_wp2_with fail
    go_ret2
    exact Hy.out
  | true =>
    have HG := Lib.hid (pgF hok)
    have eL := Lib.hid (show ppL s a b n f = pageL s a b n f by unfold ppL; rw [if_pos hok])
    have eC := Lib.hid (show ppC s a b n f = 0 by unfold ppC; rw [if_pos hok])
    have hn1 := HG.out.n1
    have hn60 := HG.out.n60
    have HH := Lib.hid (fun wx hx => headLine_c s a b (.slice A n c) n wx hs HG.out.a0 (by have := HG.out.b0; omega) (by omega) hx)
    have HFt := Lib.hid (fun wx hR hx hz => footLine_c B s a b A n c f wx hR hz hn60 (by omega) HG.out.vs hx)
    rw [hok] at HV
    clear hok
    go_enter Tryd.func6, Tryd.ntmps6
    go_wp2_with fail
    generalize w.alloc (.cells #[.string s, .int .i64 a, .int .i64 b, .slice A n c] 26) = w0 at *
    refine HV.out.mono ?_; rintro e w1 ⟨rfl, hb2⟩
    obtain ⟨y0, y1, y2, y3⟩ := HF.out w1 hb2
    have HB2 := Lib.hid (Hb1.out.trans (hb2.mono Hb1.out.size))
    have HB02 := Lib.hid hb2
    clear f0 f1 f2 f3 hb2 HV
    go_wp2_with fail
    refine (HH.out _ (Ht.out.below HB2.out)).mono ?_; rintro e w3 ⟨rfl, hb3⟩
    have hB03 := HB02.out.trans (hb3.mono HB02.out.size)
    have Ho := Lib.hid (own_lit1 (w := w3) hB03.size (headB s a b n))
    have hba := (Below.refl w3.heap.size w3).alloc (Nat.le_refl _) (.cells #[.string (headB s a b n)] 9)
    have hB0a := hB03.trans (hba.mono hB03.size)
    have HB0a := Lib.hid hB0a
    obtain ⟨z0, z1, z2, z3⟩ := HF.out _ hB0a
    have Hz := Lib.hid (pgl_zero s a b n f)
    clear y0 y1 y2 y3 hb3 hba hB0a hB03 HB2 HB02
    generalize headB s a b n = X at *
    go_wp2_with fail
    clear z0 z1 z2 z3
    go_loopw [4, 18] (fun o i wr => ∃ k : Nat, k ≤ n ∧ i = .int .i64 (k : Int) ∧ wr.ownsRow w0.heap.size 9 1 o (k + 1) ((pgl s a b n f k).map Value.string) ∧ Below w0.heap.size w0 wr) (fun _ i _ => n - (intOf i).toNat)
    case atStart => exact ⟨0, Nat.zero_le _, rfl, by rw [Hz.out]; exact Ho.out, HB0a.out⟩
    case round =>
      clear Ho HB0a Hz
      obtain ⟨k, hk, rfl, hown, hbl0⟩ := hrel
      obtain ⟨A4, c4, rfl⟩ := own_slP hown
      obtain ⟨z0, z1, z2, z3⟩ := HF.out _ hbl0
      have Hown := Lib.hid hown
      have Hbl := Lib.hid (Hb1.out.trans (hbl0.mono Hb1.out.size))
      have Hbl0 := Lib.hid hbl0
      clear hown hbl0
      by_cases hkn : k < n
      · have hkn' : (k : Int) < (n : Int) := by omega
        have HR := Lib.hid (rowLine_c B s a b A n c f k wr (H.out.below (Hbl0.out.mono (Nat.le_trans hB Hb1.out.size))) (Nat.le_trans hB Hbl.out.size) hkn hn (HG.out.vs k hkn) HG.out.a0 (arg_bd hkn hn60 HG.out.b0) (Ht.out.below Hbl.out))
        have Hst := Lib.hid (pgl_snoc s a b n f k)
        generalize rowB (argA a b k) (f k) = x at *
        go_wp2_with fail
        refine HR.out.mono ?_; rintro e w5 ⟨rfl, hb5⟩
        have hz5 := Nat.le_trans Hbl0.out.size hb5.size
        have HB5 := Lib.hid (Hbl0.out.trans (hb5.mono Hbl0.out.size))
        have Ho5 := Lib.hid (own_below Hown.out hb5)
        clear hb5
        go_wp2_with (at_builtin; refine wpList_apd 28 9 _ 1 16 Tryd.underlying28 infoStr rfl (by omega) _ _ rfl rfl w0.heap.size _ (k + 1) _ rfl Ho5.out #[.string x] 1 1 rfl rfl (by simp [Value.oneCell']) (by simp [maxLen]; omega) (by omega) hz5 ?_; intro v8 w8 hown8 hg8; have Hb8 := Lib.hid (below_apd HB5.out Ho5.out hg8 (Nat.le_refl _) hz5); have Ho8 := Lib.hid hown8; clear hown8 hg8)
        go_roundw
        case rel => exact ⟨k + 1, by omega, by go_num, by rw [Hst.out, map_snocV]; exact Ho8.out, Hb8.out⟩
        case measure => first | (simp [intOf]; done) | (simp [intOf]; omega)
      · obtain rfl : k = n := by omega
        have hkn' : ¬ ((k : Int) < (k : Int)) := by omega
        have HFx := Lib.hid (HFt.out wr (H.out.below (Hbl0.out.mono (Nat.le_trans hB Hb1.out.size))) (Ht.out.below Hbl.out) (Nat.le_trans hB Hbl.out.size))
        have Hst := Lib.hid (pgl_all s a b k f)
        generalize footB f k = x at *
        go_wp2_with fail
        refine HFx.out.mono ?_; rintro e w5 ⟨rfl, hb5⟩
        have hz5 := Nat.le_trans Hbl0.out.size hb5.size
        have HB5 := Lib.hid (Hbl0.out.trans (hb5.mono Hbl0.out.size))
        have Ho5 := Lib.hid (own_below Hown.out hb5)
        clear hb5
        go_wp2_with (at_builtin; refine wpList_apd 28 9 _ 1 16 Tryd.underlying28 infoStr rfl (by omega) _ _ rfl rfl w0.heap.size _ (k + 1) _ rfl Ho5.out #[.string x] 1 1 rfl rfl (by simp [Value.oneCell']) (by simp [maxLen]; omega) (by omega) hz5 ?_; intro v8 w8 hown8 hg8; have Hb8 := Lib.hid (below_apd HB5.out Ho5.out hg8 (Nat.le_refl _) hz5); have Ho8 := Lib.hid hown8; clear hown8 hg8)
        have Hz := Lib.hid (show RetPp (ppC s a b k f) (ppL s a b k f) w (.returned (.tuple #[v8, .int .i64 0])) w8 from by
          rw [eC.out, eL.out]
          refine ⟨_, rfl, ?_, Hb1.out.trans (Hb8.out.mono Hb1.out.size)⟩
          rw [Hst.out, map_snocV, List.length_append, pgl_len]
          exact ownsRow_le Ho8.out Hb1.out.size)
        go_ret2
        exact Hz.out
theorem one_str (x : ByteArray) : ∀ u ∈ (#[Value.string x] : Array Value).toList, u.oneCell' = true := fun u hu => by
  rw [List.mem_singleton.1 hu]; rfl
theorem fourQ {w w' : World} {g b o : Nat} {x1 x2 x3 x4 : Value} (hg : g < w.heap.size) (hb : b < w.heap.size) (h : Below w.heap.size w w') (H : w.cell? ⟨g, 1, none⟩ = some x1 ∧ w.cell? ⟨g, 2, none⟩ = some x2 ∧ w.cell? ⟨g, 3, none⟩ = some x3 ∧ w.cell? ⟨b, o, none⟩ = some x4) :
    w'.cell? ⟨g, 1, none⟩ = some x1 ∧ w'.cell? ⟨g, 2, none⟩ = some x2 ∧ w'.cell? ⟨g, 3, none⟩ = some x3 ∧ w'.cell? ⟨b, o, none⟩ = some x4 :=
  ⟨(h.cell (p := ⟨g, 1, none⟩) hg).trans H.1, (h.cell (p := ⟨g, 2, none⟩) hg).trans H.2.1, (h.cell (p := ⟨g, 3, none⟩) hg).trans H.2.2.1, (h.cell (p := ⟨b, o, none⟩) hb).trans H.2.2.2⟩
set_option maxRecDepth 100000 in
set_option maxHeartbeats 1600000 in
theorem l18Lines_c (g B : Nat) (s : ByteArray) (a b : Int) (A : Option Addr) (n c : Nat) (f : Nat → Int) (w : World) (hs : s.size ≤ 1048576) (hgl : g < w.heap.size)
    (f0 : w.cell? ⟨g, 0, none⟩ = some (.string s)) (f1 : w.cell? ⟨g, 1, none⟩ = some (.int .i64 a)) (f2 : w.cell? ⟨g, 2, none⟩ = some (.int .i64 b)) (f3 : w.cell? ⟨g, 3, none⟩ = some (.slice A n c)) (h : Rd w B (.slice A n c) n 1 (tab n f)) (hB : B ≤ w.heap.size) (hok : pgOk s.data.toList a b n f = true) :
    Calls Tryd.prog 37 #[.pointer (some ⟨g, 0, none⟩)] w fun e w' => ∃ v, e = .returned v ∧ w'.ownsRow w.heap.size 9 1 v (n + 2) ((pageL s a b n f).map Value.string) ∧ Below w.heap.size w w' := by
  have HG := Lib.hid (pgF hok)
  have hn1 := HG.out.n1
  have hn60 := HG.out.n60
  have ha := HG.out.a0
  have hbb := HG.out.b0
  have HF := Lib.hid (fun (wq : World) (hq : Below w.heap.size w wq) => fourP (w' := wq) hgl hq ⟨f0, f1, f2, f3⟩)
  have H := Lib.hid h
  clear hok h
  have HE := Lib.hid (show headB s a b n = s ++ ⟨#[32]⟩ ++ decS a ++ ⟨#[32]⟩ ++ decS b ++ ⟨#[32]⟩ ++ decS (n : Int) from rfl)
  have HD1 := Lib.hid (fun wx => l01Dec_any a wx (by omega) (by omega))
  have HD2 := Lib.hid (fun wx => l01Dec_any b wx (by omega) (by omega))
  have HD3 := Lib.hid (fun wx => l01Dec_any (n : Int) wx (by omega) (by omega))
  have s1 := decS_size a (by omega) (by omega)
  have s2 := decS_size b (by omega) (by omega)
  have s3 := decS_size (n : Int) (by omega) (by omega)
  obtain ⟨p1, p2, p3, p4⟩ := row_sizes (a := s) (d := decS a) (e := decS b)
  obtain ⟨p5, p6⟩ := row_sizes2 (a := s) (d := decS a) (e := decS b) (f := decS (n : Int))
  generalize decS a = dA at *
  generalize decS b = dB at *
  generalize decS (n : Int) = dN at *
  go_enter Tryd.func37, Tryd.ntmps37
  go_wp2_with fail
  have hS0 : w.drew.cell? ⟨g, 0, none⟩ = some (.string s) ∧ w.drew.cell? ⟨g, 1, none⟩ = some (.int .i64 a) ∧ w.drew.cell? ⟨g, 2, none⟩ = some (.int .i64 b) ∧ w.drew.cell? ⟨g, 3, none⟩ = some (.slice A n c) := ⟨f0, f1, f2, f3⟩
  have ha0 := (Below.refl w.heap.size w).drew
  have hz0 : w.heap.size ≤ w.drew.heap.size := Nat.le_refl _
  clear f0 f1 f2 f3
  refine wp_region_noPanic ?_
  refine wp_region_L [27,26] (fun w' => w'.cell? ⟨g, 0, none⟩ = some (.string s) ∧ w'.cell? ⟨g, 1, none⟩ = some (.int .i64 a) ∧ w'.cell? ⟨g, 2, none⟩ = some (.int .i64 b) ∧ w'.cell? ⟨g, 3, none⟩ = some (.slice A n c)) (by kernel_rfl) (hS0) (fun hHeld => ?_)
  refine take_F (i := 0) (d := some 5) (v := ?_) (by kernel_rfl) (by kernel_rfl) rfl rfl (by kernel_rfl) (by kernel_rfl) (by kernel_rfl) (fun _ _ _ h => h) (Or.inl ⟨by rfl, ?_⟩) (by assumption) ?_
  rotate_left
  · (intro w hSw; (try dsimp only at hSw); go_simp; (try rw [if_neg (by omega)]); (try (with_reducible rfl)))
  simp only [Act.put, List.setIfInBounds_toArray, List.set_cons_zero, List.set_cons_succ]
  refine take_F (i := 1) (d := some 6) (v := ?_) (by kernel_rfl) (by kernel_rfl) rfl rfl (by kernel_rfl) (by kernel_rfl) (by kernel_rfl) (fun _ _ _ h => h) (Or.inl ⟨by rfl, ?_⟩) (by assumption) ?_
  rotate_left
  · (intro w hSw; (try dsimp only at hSw); go_simp; (try rw [if_neg (by omega)]); (try (with_reducible rfl)))
  simp only [Act.put, List.setIfInBounds_toArray, List.set_cons_zero, List.set_cons_succ]
  refine take_F (i := 2) (d := some 7) (v := ?_) (by kernel_rfl) (by kernel_rfl) rfl rfl (by kernel_rfl) (by kernel_rfl) (by kernel_rfl) (fun _ _ _ h => h) (Or.inl ⟨by rfl, ?_⟩) (by assumption) ?_
  rotate_left
  · (intro w hSw; (try dsimp only at hSw); go_simp; (try rw [if_neg (by omega)]); (try (with_reducible rfl)))
  simp only [Act.put, List.setIfInBounds_toArray, List.set_cons_zero, List.set_cons_succ]
  refine take_L [25,18,17,11,10,4,3] (i := 3) (d := some 8) (v := ?_) (by kernel_rfl) (by kernel_rfl) (by kernel_rfl) (by kernel_rfl) rfl rfl (by kernel_rfl) (by kernel_rfl) (by kernel_rfl) (fun _ _ _ h => h) (Or.inl ⟨by rfl, ?_⟩) (by assumption) ?_
  rotate_left
  · (intro w hSw; (try dsimp only at hSw); go_simp; (try rw [if_neg (by omega)]); (try (with_reducible rfl)))
  simp only [Act.put, List.setIfInBounds_toArray, List.set_cons_zero, List.set_cons_succ]
  refine take_F (i := 4) (d := some 9) (v := ?_) (by kernel_rfl) (by kernel_rfl) rfl rfl (by kernel_rfl) (by kernel_rfl) (by kernel_rfl) (fun _ _ _ h => h) (Or.inl ⟨by rfl, ?_⟩) (by assumption) ?_
  rotate_left
  · (intro w hSw; (try dsimp only at hSw); go_simp; (try rw [if_neg (by omega)]); (try (with_reducible rfl)))
  simp only [Act.put, List.setIfInBounds_toArray, List.set_cons_zero, List.set_cons_succ]
  refine take_F (i := 5) (d := some 10) (v := ?_) (by kernel_rfl) (by kernel_rfl) rfl rfl (by kernel_rfl) (by kernel_rfl) (by kernel_rfl) (fun _ _ _ h => h) (Or.inl ⟨by rfl, ?_⟩) (by assumption) ?_
  rotate_left
  · (intro w hSw; (try dsimp only at hSw); go_simp; (try rw [if_neg (by omega)]); (try (with_reducible rfl)))
  simp only [Act.put, List.setIfInBounds_toArray, List.set_cons_zero, List.set_cons_succ]
  refine take_F (i := 6) (d := some 11) (v := ?_) (by kernel_rfl) (by kernel_rfl) rfl rfl (by kernel_rfl) (by kernel_rfl) (by kernel_rfl) (fun _ _ _ h => h) (Or.inl ⟨by rfl, ?_⟩) (by assumption) ?_
  rotate_left
  · (intro w hSw; (try dsimp only at hSw); go_simp; (try rw [if_neg (by omega)]); (try (with_reducible rfl)))
  simp only [Act.put, List.setIfInBounds_toArray, List.set_cons_zero, List.set_cons_succ]
  refine take_F (i := 7) (d := some 12) (v := ?_) (by kernel_rfl) (by kernel_rfl) rfl rfl (by kernel_rfl) (by kernel_rfl) (by kernel_rfl) (fun _ _ _ h => h) (Or.inl ⟨by rfl, ?_⟩) (by assumption) ?_
  rotate_left
  · (intro w hSw; (try dsimp only at hSw); go_simp; (try rw [if_neg (by omega)]); (try (with_reducible rfl)))
  simp only [Act.put, List.setIfInBounds_toArray, List.set_cons_zero, List.set_cons_succ]
  refine take_L [25,24,16,9,8] (i := 8) (d := some 13) (v := ?_) (by kernel_rfl) (by kernel_rfl) (by kernel_rfl) (by kernel_rfl) rfl rfl (by kernel_rfl) (by kernel_rfl) (by kernel_rfl) (fun _ _ _ h => h) (Or.inl ⟨by rfl, ?_⟩) (by assumption) ?_
  rotate_left
  · (intro w hSw; (try dsimp only at hSw); go_simp; (try rw [if_neg (by omega)]); (try (with_reducible rfl)))
  simp only [Act.put, List.setIfInBounds_toArray, List.set_cons_zero, List.set_cons_succ]
  refine take_F (i := 12) (d := some 17) (v := ?_) (by kernel_rfl) (by kernel_rfl) rfl rfl (by kernel_rfl) (by kernel_rfl) (by kernel_rfl) (fun _ _ _ h => h) (Or.inl ⟨by rfl, ?_⟩) (by assumption) ?_
  rotate_left
  · (intro w hSw; (try dsimp only at hSw); go_simp; (try rw [if_neg (by omega)]); (try (with_reducible rfl)))
  simp only [Act.put, List.setIfInBounds_toArray, List.set_cons_zero, List.set_cons_succ]
  refine take_F (i := 13) (d := some 18) (v := ?_) (by kernel_rfl) (by kernel_rfl) rfl rfl (by kernel_rfl) (by kernel_rfl) (by kernel_rfl) (fun _ _ _ h => h) (Or.inl ⟨by rfl, ?_⟩) (by assumption) ?_
  rotate_left
  · (intro w hSw; (try dsimp only at hSw); go_simp; (try rw [if_neg (by omega)]); (try (with_reducible rfl)))
  simp only [Act.put, List.setIfInBounds_toArray, List.set_cons_zero, List.set_cons_succ]
  refine take_F (i := 14) (d := some 19) (v := ?_) (by kernel_rfl) (by kernel_rfl) rfl rfl (by kernel_rfl) (by kernel_rfl) (by kernel_rfl) (fun _ _ _ h => h) (Or.inl ⟨by rfl, ?_⟩) (by assumption) ?_
  rotate_left
  · (intro w hSw; (try dsimp only at hSw); go_simp; (try rw [if_neg (by omega)]); (try (with_reducible rfl)))
  simp only [Act.put, List.setIfInBounds_toArray, List.set_cons_zero, List.set_cons_succ]
  refine take_L [25,24,16,15] (i := 15) (d := some 20) (v := ?_) (by kernel_rfl) (by kernel_rfl) (by kernel_rfl) (by kernel_rfl) rfl rfl (by kernel_rfl) (by kernel_rfl) (by kernel_rfl) (fun _ _ _ h => h) (Or.inl ⟨by rfl, ?_⟩) (by assumption) ?_
  rotate_left
  · (intro w hSw; (try dsimp only at hSw); go_simp; (try rw [if_neg (by omega)]); (try (with_reducible rfl)))
  simp only [Act.put, List.setIfInBounds_toArray, List.set_cons_zero, List.set_cons_succ]
  refine take_F (i := 19) (d := some 24) (v := ?_) (by kernel_rfl) (by kernel_rfl) rfl rfl (by kernel_rfl) (by kernel_rfl) (by kernel_rfl) (fun _ _ _ h => h) (Or.inl ⟨by rfl, ?_⟩) (by assumption) ?_
  rotate_left
  · (intro w hSw; (try dsimp only at hSw); go_simp; (try rw [if_neg (by omega)]); (try (with_reducible rfl)))
  simp only [Act.put, List.setIfInBounds_toArray, List.set_cons_zero, List.set_cons_succ]
  refine take_F (i := 20) (d := some 25) (v := ?_) (by kernel_rfl) (by kernel_rfl) rfl rfl (by kernel_rfl) (by kernel_rfl) (by kernel_rfl) (fun _ _ _ h => h) (Or.inl ⟨by rfl, ?_⟩) (by assumption) ?_
  rotate_left
  · (intro w hSw; (try dsimp only at hSw); go_simp; (try rw [if_neg (by omega)]); (try (with_reducible rfl)))
  simp only [Act.put, List.setIfInBounds_toArray, List.set_cons_zero, List.set_cons_succ]
  refine take_F (i := 21) (d := some 26) (v := ?_) (by kernel_rfl) (by kernel_rfl) rfl rfl (by kernel_rfl) (by kernel_rfl) (by kernel_rfl) (fun _ _ _ h => h) (Or.inl ⟨by rfl, ?_⟩) (by assumption) ?_
  rotate_left
  · (intro w hSw; (try dsimp only at hSw); go_simp; (try rw [if_neg (by omega)]); (try (with_reducible rfl)))
  simp only [Act.put, List.setIfInBounds_toArray, List.set_cons_zero, List.set_cons_succ]
  refine take_L [25,24,23,22] (i := 22) (d := some 27) (v := ?_) (by kernel_rfl) (by kernel_rfl) (by kernel_rfl) (by kernel_rfl) rfl rfl (by kernel_rfl) (by kernel_rfl) (by kernel_rfl) (fun _ _ _ h => h) (Or.inl ⟨by rfl, ?_⟩) (by assumption) ?_
  rotate_left
  · (intro w hSw; (try dsimp only at hSw); go_simp; (try rw [if_neg (by omega)]); (try (with_reducible rfl)))
  simp only [Act.put, List.setIfInBounds_toArray, List.set_cons_zero, List.set_cons_succ]
  refine take_F (i := 23) (d := some 28) (v := ?_) (by kernel_rfl) (by kernel_rfl) rfl rfl (by kernel_rfl) (by kernel_rfl) (by kernel_rfl) (fun _ _ _ h => h) (Or.inl ⟨by rfl, ?_⟩) (by assumption) ?_
  rotate_left
  · (intro w hSw; (try dsimp only at hSw); go_simp; (try rw [if_neg (by omega)]); (try (with_reducible rfl)))
  simp only [Act.put, List.setIfInBounds_toArray, List.set_cons_zero, List.set_cons_succ]
  refine call_L (i := 9) (d := (some 14)) rfl rfl (by kernel_rfl) (fun Kq hKq => ?_)
  go_simp
  go_at_call 63
  refine (HD1.out _).mono ?_; rintro e w1 ⟨rfl, hb1⟩
  have hS1 := fourP (Nat.lt_of_lt_of_le hgl hz0) hb1 hS0
  have ha1 := ha0.trans (hb1.mono ha0.size)
  have hz1 := Nat.le_trans hz0 hb1.size
  clear hb1
  (try go_wp2_with fail)
  refine hKq.out _ _ (hS1) (fun hHeld => ?_)
  clear hKq Kq
  (try simp only [Act.put, List.setIfInBounds_toArray, List.set_cons_zero, List.set_cons_succ])
  refine take_F (i := 10) (d := some 15) (v := ?_) (by kernel_rfl) (by kernel_rfl) rfl rfl (by kernel_rfl) (by kernel_rfl) (by kernel_rfl) (fun _ _ _ h => h) (Or.inl ⟨by rfl, ?_⟩) (by assumption) ?_
  rotate_left
  · (intro w hSw; (try dsimp only at hSw); go_simp; (try rw [if_neg (by omega)]); (try (with_reducible rfl)))
  simp only [Act.put, List.setIfInBounds_toArray, List.set_cons_zero, List.set_cons_succ]
  refine take_F (i := 11) (d := some 16) (v := ?_) (by kernel_rfl) (by kernel_rfl) rfl rfl (by kernel_rfl) (by kernel_rfl) (by kernel_rfl) (fun _ _ _ h => h) (Or.inl ⟨by rfl, ?_⟩) (by assumption) ?_
  rotate_left
  · (intro w hSw; (try dsimp only at hSw); go_simp; (try rw [if_neg (by omega)]); (try (with_reducible rfl)))
  simp only [Act.put, List.setIfInBounds_toArray, List.set_cons_zero, List.set_cons_succ]
  refine call_L (i := 16) (d := (some 21)) rfl rfl (by kernel_rfl) (fun Kq hKq => ?_)
  go_simp
  go_at_call 63
  refine (HD2.out _).mono ?_; rintro e w2 ⟨rfl, hb2⟩
  have hS2 := fourP (Nat.lt_of_lt_of_le hgl hz1) hb2 hS1
  have ha2 := ha1.trans (hb2.mono ha1.size)
  have hz2 := Nat.le_trans hz1 hb2.size
  clear hb2
  (try go_wp2_with fail)
  refine hKq.out _ _ (hS2) (fun hHeld => ?_)
  clear hKq Kq
  (try simp only [Act.put, List.setIfInBounds_toArray, List.set_cons_zero, List.set_cons_succ])
  refine take_F (i := 17) (d := some 22) (v := ?_) (by kernel_rfl) (by kernel_rfl) rfl rfl (by kernel_rfl) (by kernel_rfl) (by kernel_rfl) (fun _ _ _ h => h) (Or.inl ⟨by rfl, ?_⟩) (by assumption) ?_
  rotate_left
  · (intro w hSw; (try dsimp only at hSw); go_simp; (try rw [if_neg (by omega)]); (try (with_reducible rfl)))
  simp only [Act.put, List.setIfInBounds_toArray, List.set_cons_zero, List.set_cons_succ]
  refine take_F (i := 18) (d := some 23) (v := ?_) (by kernel_rfl) (by kernel_rfl) rfl rfl (by kernel_rfl) (by kernel_rfl) (by kernel_rfl) (fun _ _ _ h => h) (Or.inl ⟨by rfl, ?_⟩) (by assumption) ?_
  rotate_left
  · (intro w hSw; (try dsimp only at hSw); go_simp; (try rw [if_neg (by omega)]); (try (with_reducible rfl)))
  simp only [Act.put, List.setIfInBounds_toArray, List.set_cons_zero, List.set_cons_succ]
  refine call_L (i := 24) (d := (some 29)) rfl rfl (by kernel_rfl) (fun Kq hKq => ?_)
  go_simp
  go_at_call 63
  refine (HD3.out _).mono ?_; rintro e w3 ⟨rfl, hb3⟩
  have hS3 := fourP (Nat.lt_of_lt_of_le hgl hz2) hb3 hS2
  have ha3 := ha2.trans (hb3.mono ha2.size)
  have hz3 := Nat.le_trans hz2 hb3.size
  clear hb3
  (try go_wp2_with fail)
  refine hKq.out _ _ (hS3) (fun hHeld => ?_)
  clear hKq Kq
  (try simp only [Act.put, List.setIfInBounds_toArray, List.set_cons_zero, List.set_cons_succ])
  refine take_F (i := 25) (d := some 30) (v := ?_) (by kernel_rfl) (by kernel_rfl) rfl rfl (by kernel_rfl) (by kernel_rfl) (by kernel_rfl) (fun _ _ _ h => h) (Or.inl ⟨by rfl, ?_⟩) (by assumption) ?_
  rotate_left
  · (intro w hSw; (try dsimp only at hSw); go_simp; (try rw [if_neg (by omega)]); (try (with_reducible rfl)))
  simp only [Act.put, List.setIfInBounds_toArray, List.set_cons_zero, List.set_cons_succ]
  refine late_L (i := 26) (d := (some 31)) (by kernel_rfl) rfl rfl (by kernel_rfl) (fun Kq hKq => ?_)
  go_simp
  refine hKq.out _ _ ?_
  clear hKq Kq
  refine late_L (i := 27) (d := (some 3)) (by kernel_rfl) rfl rfl (by kernel_rfl) (fun Kq hKq => ?_)
  go_simp
  refine hKq.out _ _ ?_
  clear hKq Kq
  refine done_L (by kernel_rfl) ?_ _
  refine NoPanic.normal ?_
  have Ho := Lib.hid (own_lit1 (w := w3) ha3.size (headB s a b n))
  have hba := (Below.refl w3.heap.size w3).alloc (Nat.le_refl _) (.cells #[.string (headB s a b n)] 9)
  have HB := Lib.hid (ha3.trans (hba.mono ha3.size))
  have Hz := Lib.hid (pgl_zero s a b n f)
  clear hS0 hS1 hS2 hS3 ha0 ha1 ha2 ha3 hz0 hz1 hz2 hz3 p1 p2 p3 p4 p5 p6 s1 s2 s3 HD1 HD2 HD3 hba
  rw [← HE.out]
  generalize headB s a b n = X at *
  go_wp2_with fail
  go_loopw [3, 4] (fun o i wr => ∃ k : Nat, k ≤ n ∧ i = .int .i64 (k : Int) ∧ wr.ownsRow w.heap.size 9 1 o (k + 1) ((pgl s a b n f k).map Value.string) ∧ Below w.heap.size w wr) (fun _ i _ => n - (intOf i).toNat)
  case atStart => exact ⟨0, Nat.zero_le _, rfl, by rw [Hz.out]; exact Ho.out, HB.out⟩
  case round =>
    clear Ho HB Hz
    obtain ⟨k, hk, rfl, hown, hbl⟩ := hrel
    obtain ⟨A4, c4, rfl⟩ := own_slP hown
    obtain ⟨z0, z1, z2, z3⟩ := HF.out _ hbl
    have Hown := Lib.hid hown
    have Hbl := Lib.hid hbl
    by_cases hkn : k < n
    · have hkn' : (k : Int) < (n : Int) := by omega
      obtain ⟨b1, o1, hA, hbB, hcc⟩ := rdF_all (H.out.below (hbl.mono hB)) (by omega)
      subst hA
      have q0 := hcc k hkn
      have hbw : b1 < wr.heap.size := Nat.lt_of_lt_of_le hbB (Nat.le_trans hB hbl.size)
      have hP := arg_bd hkn hn60 hbb
      have HR := Lib.hid (fun wx => l18Row_c (argA a b k) (f k) wx (by unfold argA; omega) (HG.out.vs k hkn))
      have Hst := Lib.hid (pgl_snoc s a b n f k)
      have hArg : argA a b k = a + (k : Int) * b := rfl
      rw [hArg] at HR Hst
      have Hmx := Lib.hid (show k + 1 + 1 ≤ maxLen by simp only [maxLen]; omega)
      have Hby := Lib.hid (show (k + 1 + 1) * 16 ≤ 140737488355328 by omega)
      generalize hrw : rowB (a + (k : Int) * b) (f k) = x at *
      generalize f k = V at *
      obtain ⟨P, hPe⟩ : ∃ P, (k : Int) * b = P := ⟨_, rfl⟩
      rw [hPe] at hP HR
      obtain ⟨hP0, hP1⟩ := hP
      have hw1 : IntKind.i64.wrap ((k : Int) * b) = P := by rw [hPe]; exact IntWalk.i64_in _ (by omega)
      have hw2 : IntKind.i64.wrap (a + P) = a + P := IntWalk.i64_in _ (by omega)
      have Hon := Lib.hid (one_str x)
      clear hown hbl hcc hArg hrw hPe
      go_upto_region 5 with (fail)
      refine wp_region_noPanic ?_
      refine wp_region_L [22,21,20] (fun w' => w'.cell? ⟨g, 1, none⟩ = some (.int .i64 a) ∧ w'.cell? ⟨g, 2, none⟩ = some (.int .i64 b) ∧ w'.cell? ⟨g, 3, none⟩ = some (.slice (some ⟨b1, o1, none⟩) n c) ∧ w'.cell? ⟨b1, o1 + k, none⟩ = some (.int .i64 (V))) (by kernel_rfl) (⟨z1, z2, z3, q0⟩) (fun hHeld => ?_)
      refine take_F (i := 0) (d := some 41) (v := ?_) (by kernel_rfl) (by kernel_rfl) rfl rfl (by kernel_rfl) (by kernel_rfl) (by kernel_rfl) (fun _ _ _ h => h) (Or.inl ⟨by rfl, ?_⟩) (by assumption) ?_
      rotate_left
      · (intro w hSw; (try dsimp only at hSw); go_simp; (try rw [if_neg (by omega)]); (try (with_reducible rfl)))
      simp only [Act.put, List.setIfInBounds_toArray, List.set_cons_zero, List.set_cons_succ]
      refine take_F (i := 1) (d := some 42) (v := ?_) (by kernel_rfl) (by kernel_rfl) rfl rfl (by kernel_rfl) (by kernel_rfl) (by kernel_rfl) (fun _ _ _ h => h) (Or.inl ⟨by rfl, ?_⟩) (by assumption) ?_
      rotate_left
      · (intro w hSw; (try dsimp only at hSw); go_simp; (try rw [if_neg (by omega)]); (try (with_reducible rfl)))
      simp only [Act.put, List.setIfInBounds_toArray, List.set_cons_zero, List.set_cons_succ]
      refine take_F (i := 2) (d := some 43) (v := ?_) (by kernel_rfl) (by kernel_rfl) rfl rfl (by kernel_rfl) (by kernel_rfl) (by kernel_rfl) (fun _ _ _ h => h) (Or.inl ⟨by rfl, ?_⟩) (by assumption) ?_
      rotate_left
      · (intro w hSw; (try dsimp only at hSw); go_simp; (try rw [if_neg (by omega)]); (try (with_reducible rfl)))
      simp only [Act.put, List.setIfInBounds_toArray, List.set_cons_zero, List.set_cons_succ]
      refine take_F (i := 3) (d := some 44) (v := ?_) (by kernel_rfl) (by kernel_rfl) rfl rfl (by kernel_rfl) (by kernel_rfl) (by kernel_rfl) (fun _ _ _ h => h) (Or.inl ⟨by rfl, ?_⟩) (by assumption) ?_
      rotate_left
      · (intro w hSw; (try dsimp only at hSw); go_simp; (try rw [if_neg (by omega)]); (try (with_reducible rfl)))
      simp only [Act.put, List.setIfInBounds_toArray, List.set_cons_zero, List.set_cons_succ]
      refine take_L [19,11,4] (i := 4) (d := some 45) (v := ?_) (by kernel_rfl) (by kernel_rfl) (by kernel_rfl) (by kernel_rfl) rfl rfl (by kernel_rfl) (by kernel_rfl) (by kernel_rfl) (fun _ _ _ h => h) (Or.inl ⟨by rfl, ?_⟩) (by assumption) ?_
      rotate_left
      · (intro w hSw; (try dsimp only at hSw); go_simp; (try rw [if_neg (by omega)]); (try (with_reducible rfl)))
      simp only [Act.put, List.setIfInBounds_toArray, List.set_cons_zero, List.set_cons_succ]
      refine take_F (i := 5) (d := some 46) (v := ?_) (by kernel_rfl) (by kernel_rfl) rfl rfl (by kernel_rfl) (by kernel_rfl) (by kernel_rfl) (fun _ _ _ h => h) (Or.inl ⟨by rfl, ?_⟩) (by assumption) ?_
      rotate_left
      · (intro w hSw; (try dsimp only at hSw); go_simp; (try rw [if_neg (by omega)]); (try (with_reducible rfl)))
      simp only [Act.put, List.setIfInBounds_toArray, List.set_cons_zero, List.set_cons_succ]
      refine take_F (i := 6) (d := some 47) (v := ?_) (by kernel_rfl) (by kernel_rfl) rfl rfl (by kernel_rfl) (by kernel_rfl) (by kernel_rfl) (fun _ _ _ h => h) (Or.inl ⟨by rfl, ?_⟩) (by assumption) ?_
      rotate_left
      · (intro w hSw; (try dsimp only at hSw); go_simp; (try rw [if_neg (by omega)]); (try (with_reducible rfl)))
      simp only [Act.put, List.setIfInBounds_toArray, List.set_cons_zero, List.set_cons_succ]
      refine take_F (i := 7) (d := some 48) (v := ?_) (by kernel_rfl) (by kernel_rfl) rfl rfl (by kernel_rfl) (by kernel_rfl) (by kernel_rfl) (fun _ _ _ h => h) (Or.inl ⟨by rfl, ?_⟩) (by assumption) ?_
      rotate_left
      · (intro w hSw; (try dsimp only at hSw); go_simp; (try rw [if_neg (by omega)]); (try (with_reducible rfl)))
      simp only [Act.put, List.setIfInBounds_toArray, List.set_cons_zero, List.set_cons_succ]
      refine take_F (i := 8) (d := some 49) (v := ?_) (by kernel_rfl) (by kernel_rfl) rfl rfl (by kernel_rfl) (by kernel_rfl) (by kernel_rfl) (fun _ _ _ h => h) (Or.inl ⟨by rfl, ?_⟩) (by assumption) ?_
      rotate_left
      · (intro w hSw; (try dsimp only at hSw); go_simp; (try rw [if_neg (by omega)]); (try (with_reducible rfl)))
      simp only [Act.put, List.setIfInBounds_toArray, List.set_cons_zero, List.set_cons_succ]
      refine take_L [19,11,10,9] (i := 9) (d := some 50) (v := ?_) (by kernel_rfl) (by kernel_rfl) (by kernel_rfl) (by kernel_rfl) rfl rfl (by kernel_rfl) (by kernel_rfl) (by kernel_rfl) (fun _ _ _ h => h) (Or.inl ⟨by rfl, ?_⟩) (by assumption) ?_
      rotate_left
      · (intro w hSw; (try dsimp only at hSw); go_simp; (try rw [if_neg (by omega)]); (try (with_reducible rfl)))
      simp only [Act.put, List.setIfInBounds_toArray, List.set_cons_zero, List.set_cons_succ]
      refine take_F (i := 10) (d := some 51) (v := ?_) (by kernel_rfl) (by kernel_rfl) rfl rfl (by kernel_rfl) (by kernel_rfl) (by kernel_rfl) (fun _ _ _ h => h) (Or.inl ⟨by rfl, ?_⟩) (by assumption) ?_
      rotate_left
      · (intro w hSw; (try dsimp only at hSw); go_simp; (try rw [if_neg (by omega)]); (try (with_reducible rfl)))
      simp only [Act.put, List.setIfInBounds_toArray, List.set_cons_zero, List.set_cons_succ]
      refine take_F (i := 11) (d := some 52) (v := ?_) (by kernel_rfl) (by kernel_rfl) rfl rfl (by kernel_rfl) (by kernel_rfl) (by kernel_rfl) (fun _ _ _ h => h) (Or.inl ⟨by rfl, ?_⟩) (by assumption) ?_
      rotate_left
      · (intro w hSw; (try dsimp only at hSw); go_simp; (try rw [if_neg (by omega)]); (try (with_reducible rfl)))
      simp only [Act.put, List.setIfInBounds_toArray, List.set_cons_zero, List.set_cons_succ]
      refine take_F (i := 12) (d := some 53) (v := ?_) (by kernel_rfl) (by kernel_rfl) rfl rfl (by kernel_rfl) (by kernel_rfl) (by kernel_rfl) (fun _ _ _ h => h) (Or.inl ⟨by rfl, ?_⟩) (by assumption) ?_
      rotate_left
      · (intro w hSw; (try dsimp only at hSw); go_simp; (try rw [if_neg (by omega)]); (try (with_reducible rfl)))
      simp only [Act.put, List.setIfInBounds_toArray, List.set_cons_zero, List.set_cons_succ]
      refine take_F (i := 13) (d := some 54) (v := ?_) (by kernel_rfl) (by kernel_rfl) rfl rfl (by kernel_rfl) (by kernel_rfl) (by kernel_rfl) (fun _ _ _ h => h) (Or.inl ⟨by rfl, ?_⟩) (by assumption) ?_
      rotate_left
      · (intro w hSw; (try dsimp only at hSw); go_simp; (try rw [if_neg (by omega)]); (try (with_reducible rfl)))
      simp only [Act.put, List.setIfInBounds_toArray, List.set_cons_zero, List.set_cons_succ]
      refine take_F (i := 14) (d := some 55) (v := ?_) (by kernel_rfl) (by kernel_rfl) rfl rfl (by kernel_rfl) (by kernel_rfl) (by kernel_rfl) (fun _ _ _ h => h) (Or.inl ⟨by rfl, ?_⟩) (by assumption) ?_
      rotate_left
      · (intro w hSw; (try dsimp only at hSw); go_simp; (try rw [if_neg (by omega)]); (try (with_reducible rfl)))
      simp only [Act.put, List.setIfInBounds_toArray, List.set_cons_zero, List.set_cons_succ]
      refine take_L [19,18,17,15] (i := 15) (d := some 56) (v := ?_) (by kernel_rfl) (by kernel_rfl) (by kernel_rfl) (by kernel_rfl) rfl rfl (by kernel_rfl) (by kernel_rfl) (by kernel_rfl) (fun _ _ _ h => h) (Or.inl ⟨by rfl, ?_⟩) (by assumption) ?_
      rotate_left
      · (intro w hSw; (try dsimp only at hSw); go_simp; (try rw [if_neg (by omega)]); (try (with_reducible rfl)))
      simp only [Act.put, List.setIfInBounds_toArray, List.set_cons_zero, List.set_cons_succ]
      refine take_F (i := 16) (d := some 57) (v := ?_) (by kernel_rfl) (by kernel_rfl) rfl rfl (by kernel_rfl) (by kernel_rfl) (by kernel_rfl) (fun _ _ _ h => h) (Or.inl ⟨by rfl, ?_⟩) (by assumption) ?_
      rotate_left
      · (intro w hSw; (try dsimp only at hSw); go_simp; (try rw [if_neg (by omega)]); (try (with_reducible rfl)))
      simp only [Act.put, List.setIfInBounds_toArray, List.set_cons_zero, List.set_cons_succ]
      refine take_F (i := 17) (d := some 58) (v := ?_) (by kernel_rfl) (by kernel_rfl) rfl rfl (by kernel_rfl) (by kernel_rfl) (by kernel_rfl) (fun _ _ _ h => h) (Or.inl ⟨by rfl, ?_⟩) (by assumption) ?_
      rotate_left
      · (intro w hSw; (try dsimp only at hSw); go_simp; (try rw [if_neg (by omega)]); (try (with_reducible rfl)))
      simp only [Act.put, List.setIfInBounds_toArray, List.set_cons_zero, List.set_cons_succ]
      refine take_L [19,18] (i := 18) (d := some 59) (v := ?_) (by kernel_rfl) (by kernel_rfl) (by kernel_rfl) (by kernel_rfl) rfl rfl (by kernel_rfl) (by kernel_rfl) (by kernel_rfl) (fun _ _ _ h => h) (Or.inl ⟨by rfl, ?_⟩) (by assumption) ?_
      rotate_left
      · (intro w hSw; (try dsimp only at hSw); go_simp; (try rw [if_neg (by omega)]); (try (with_reducible rfl)))
      simp only [Act.put, List.setIfInBounds_toArray, List.set_cons_zero, List.set_cons_succ]
      refine call_L (i := 19) (d := (some 60)) rfl rfl (by kernel_rfl) (fun Kq hKq => ?_)
      go_simp
      go_at_call 64
      refine (HR.out _).mono ?_; rintro e w5 ⟨rfl, hb5⟩
      have hz5 := Nat.le_trans Hbl.out.size hb5.size
      have HB5 := Lib.hid (Hbl.out.trans ((below_undrew hb5).mono Hbl.out.size))
      have Ho5 := Lib.hid (own_below Hown.out (below_undrew hb5))
      have hS5 := fourQ (Nat.lt_of_lt_of_le hgl Hbl.out.size) hbw (below_undrew hb5) ⟨z1, z2, z3, q0⟩
      clear hb5
      (try go_wp2_with fail)
      refine hKq.out _ _ (hS5) (fun hHeld => ?_)
      clear hKq Kq
      (try simp only [Act.put, List.setIfInBounds_toArray, List.set_cons_zero, List.set_cons_succ])
      refine late_L (i := 20) (d := (some 61)) (by kernel_rfl) rfl rfl (by kernel_rfl) (fun Kq hKq => ?_)
      go_simp
      refine hKq.out _ _ ?_
      clear hKq Kq
      refine late_L (i := 21) (d := (some 62)) (by kernel_rfl) rfl rfl (by kernel_rfl) (fun Kq hKq => ?_)
      refine step_apd0 28 9 _ 1 16 Tryd.underlying28 infoStr rfl (by omega) _ _ (by rfl) (by rfl) w.heap.size _ (k + 1) _ (by rfl) Ho5.out #[.string x] 1 1 (by rfl) (by rfl) Hon.out Hmx.out Hby.out hz5 ?_; intro v8 w8 hown8 hg8
      have Hb8 := Lib.hid (below_apd HB5.out Ho5.out hg8 (Nat.le_refl _) hz5)
      have Ho8 := Lib.hid hown8
      clear hown8 hg8
      refine hKq.out _ _ ?_
      clear hKq Kq
      simp only [Act.put, List.setIfInBounds_toArray]
      refine late_L (i := 22) (d := (some 3)) (by kernel_rfl) rfl rfl (by kernel_rfl) (fun Kq hKq => ?_)
      go_simp
      refine hKq.out _ _ ?_
      clear hKq Kq
      refine done_L (by kernel_rfl) ?_ _
      refine NoPanic.normal ?_
      go_wp2_with fail
      go_roundw
      case rel => exact ⟨k + 1, by omega, by go_num, by rw [Hst.out, map_snocV]; exact Ho8.out, Hb8.out⟩
      case measure => first | (simp [intOf]; done) | (simp [intOf]; omega)
    · obtain rfl : k = n := by omega
      have hkn' : ¬ ((k : Int) < (k : Int)) := by omega
      have HFo := Lib.hid (fun wx hx hR => l18Foot_c g B A k c f wx hx hR hn60 (by omega) HG.out.vs)
      have HFx := Lib.hid (HFo.out wr z3 (H.out.below (hbl.mono hB)))
      have Hst := Lib.hid (pgl_all s a b k f)
      have HD := Lib.hid (fun wx => l01Dec_any (ftS f k % 97) wx (by omega) (by omega))
      have HX := Lib.hid (show footB f k = ⟨#[115, 117, 109, 32]⟩ ++ decS (ftS f k % 97) from rfl)
      have sd := decS_size (ftS f k % 97) (by omega) (by omega)
      have s4 : (⟨#[115, 117, 109, 32]⟩ : ByteArray).size = 4 := rfl
      clear hown hbl HFo
      generalize footB f k = x at *
      generalize ftS f k % 97 = F0 at *
      generalize decS F0 = dF at *
      go_wp2_with fail
      refine HFx.out.mono ?_; rintro e w4 ⟨rfl, rfl⟩
      go_wp2_with fail
      refine (HD.out _).mono ?_; rintro e w5 ⟨rfl, hb5⟩
      have hz5 := Nat.le_trans Hbl.out.size hb5.size
      have HB5 := Lib.hid (Hbl.out.trans (hb5.mono Hbl.out.size))
      have Ho5 := Lib.hid (own_below Hown.out hb5)
      clear hb5
      go_wp2_with (at_builtin; refine wpList_apd 28 9 _ 1 16 Tryd.underlying28 infoStr rfl (by omega) _ _ rfl rfl w.heap.size _ (k + 1) _ rfl Ho5.out #[.string _] 1 1 rfl rfl (by simp [Value.oneCell']) (by simp [maxLen]; omega) (by omega) hz5 ?_; intro v8 w8 hown8 hg8; have Hb8 := Lib.hid (below_apd HB5.out Ho5.out hg8 (Nat.le_refl _) hz5); have Ho8 := Lib.hid hown8; clear hown8 hg8)
      go_ret
      refine ⟨_, rfl, ?_, Hb8.out⟩
      rw [Hst.out, map_snocV, HX.out]
      exact Ho8.out
theorem PrintPageS_c (B : Nat) (s : ByteArray) (a b : Int) (A : Option Addr) (n c : Nat) (f : Nat → Int) (w : World) (hs : s.size ≤ 1048576) (h : Rd w B (.slice A n c) n 1 (tab n f)) (hB : B ≤ w.heap.size) (hn : n ≤ 1000) :
    Calls Tryd.prog 7 #[.agg #[.string s, .int .i64 a, .int .i64 b, .slice A n c]] w (RetPp (ppC s a b n f) (ppL s a b n f) w) := by
  have hb1 := (Below.refl w.heap.size w).alloc (Nat.le_refl _) (.cells #[.string s, .int .i64 a, .int .i64 b, .slice A n c] 26)
  have hgl : w.heap.size < (w.alloc (.cells #[.string s, .int .i64 a, .int .i64 b, .slice A n c] 26)).heap.size := by simp
  obtain ⟨f0, f1, f2, f3, _⟩ := blk4 (heap_alloc_new w (.cells #[.string s, .int .i64 a, .int .i64 b, .slice A n c] 26))
  have HV := Lib.hid (l18Ok_c w.heap.size B s a b A n c f _ hs f0 f1 f2 f3 (h.below (hb1.mono hB)) hn)
  have HL := Lib.hid (fun d hok => l18Lines_c w.heap.size B s a b A n c f ((w.alloc (.cells #[.string s, .int .i64 a, .int .i64 b, .slice A n c] 26)).drewN d) hs hgl f0 f1 f2 f3 ((h.below (hb1.mono hB)).drewN d) (Nat.le_trans hB hb1.size) hok)
  have Hb1 := Lib.hid hb1
  clear h hb1 f0 f1 f2 f3
  cases hok : pgOk s.data.toList a b n f with
  | false =>
    have Hz := Lib.hid (fun w' (hb : Below w.heap.size w w') => RetPp.bad hok hb)
    rw [hok] at HV
    clear hok
    go_enter Tryd.func7, Tryd.ntmps7
    go_wp2_with fail
    generalize w.alloc (.cells #[.string s, .int .i64 a, .int .i64 b, .slice A n c] 26) = w0 at *
    refine HV.out.mono ?_; rintro e w1 ⟨rfl, d, rfl⟩
    have Hy := Lib.hid (Hz.out _ (below_drewN Hb1.out d))
    go_wp2_with fail
    go_ret2
    exact Hy.out
  | true =>
    have HL2 := Lib.hid (fun d => HL.out d hok)
    have eL := Lib.hid (show ppL s a b n f = pageL s a b n f by unfold ppL; rw [if_pos hok])
    have eC := Lib.hid (show ppC s a b n f = 0 by unfold ppC; rw [if_pos hok])
    have HLn := Lib.hid (pageL_len s a b n f)
    rw [hok] at HV
    clear hok HL
    go_enter Tryd.func7, Tryd.ntmps7
    go_wp2_with fail
    generalize w.alloc (.cells #[.string s, .int .i64 a, .int .i64 b, .slice A n c] 26) = w0 at *
    refine HV.out.mono ?_; rintro e w1 ⟨rfl, d, rfl⟩
    go_wp2_with fail
    refine (HL2.out d).mono ?_; rintro e w3 ⟨v, rfl, ho, hb3⟩
    have Hz := Lib.hid (show RetPp (ppC s a b n f) (ppL s a b n f) w (.returned (.tuple #[v, .int .i64 0])) w3 from by
      rw [eC.out, eL.out]
      refine ⟨_, rfl, ?_, (below_drewN Hb1.out d).trans (hb3.mono Hb1.out.size)⟩
      rw [HLn.out]
      exact ownsRow_le ho Hb1.out.size)
    clear ho hb3
    go_wp2_with fail
    go_ret2
    exact Hz.out
end Go.Proofs.YtnhngccfbnnpoaaDoor
/- Errors of tables, part 7: what the laws draw. -/
namespace Go.Proofs.YtnhngccfbnnpoaaDoor
open Go.RowKit Go.Joins

theorem below_src {w w2 w3 : World} (hb : Below w.heap.size w w2) (hg : w2.grownBy w3 (some w.heap.size)) : Below w.heap.size w w3 := hb.grown hg hb.size (fun k hk => by cases hk; exact Nat.le_refl _)
/-- a list and a number are drawn -/
def RetDL (M : Nat) (w : World) (e : Ending) (w' : World) : Prop :=
  ∃ v n f x, e = .returned (.tuple #[v, .int .i64 x]) ∧ n ≤ M ∧ w'.ownsRow w.heap.size 2 1 v n (tab n f) ∧ Below w.heap.size w w'
def RetD2 (w : World) (e : Ending) (w' : World) : Prop :=
  ∃ x y, e = .returned (.tuple #[.int .i64 x, .int .i64 y]) ∧ Below w.heap.size w w'
def RetD3 (w : World) (e : Ending) (w' : World) : Prop :=
  ∃ x y z, e = .returned (.tuple #[.int .i64 x, .int .i64 y, .int .i64 z]) ∧ Below w.heap.size w w'

end Go.Proofs.YtnhngccfbnnpoaaDoor
/- Mended rows, part 7: pages are drawn. -/
namespace Go.Proofs.YtnhngccfbnnpoaaDoor
open Go.RowKit Go.Joins
attribute [local go_sem ↓] Go.wp_at_zero Go.wp_at_succ

set_option maxHeartbeats 400000 in
theorem text_c (B g k m : Nat) (l : List ByteArray) (bs : List UInt8) (w : World) (h : SrcAt w B g k bs) (hk : k < 4611686018427387800) (hm : l.length = m) (hm2 : 2 ≤ m) (hm3 : m ≤ 200) :
    Calls Tryd.prog 58 #[.pointer (some ⟨g, 0, none⟩), .slice (some ⟨w.heap.size, 0, none⟩) m m] (w.alloc (.cells (l.map (Value.string)).toArray 9)) fun e w' => ∃ x : ByteArray, x ∈ l ∧ e = .returned (.string x) ∧ SrcAt w' B g (k + 2) bs ∧ w.grownBy w' (some g) := by
  have hlt := h.lt
  have hbk := (Below.refl w.heap.size w).alloc (Nat.le_refl _) (.cells (l.map (Value.string)).toArray 9)
  have hnc : ∀ i (hi : i < l.length), (w.alloc (.cells (l.map (Value.string)).toArray 9)).cell? ⟨w.heap.size, i, none⟩ = some (.string l[i]) := fun i hi => by
    have := new_cells w (l.map (Value.string)).toArray 9 i (.string l[i]) (by simp [hi])
    rwa [show (⟨w.heap.size, 0, none⟩ : Addr).add i = ⟨w.heap.size, i, none⟩ by unfold Addr.add; split <;> simp_all] at this
  have H := Lib.hid (h.below hbk); clear h
  have Hc := Lib.hid hnc; clear hnc
  have Hg := Lib.hid (fun w' (h : (w.alloc (.cells (l.map (Value.string)).toArray 9)).grownBy w' (some g)) => grown_from_alloc h)
  have hsz : w.heap.size < (w.alloc (.cells (l.map (Value.string)).toArray 9)).heap.size := by simp
  have hm4 : (m : Int) ≤ 200 := by omega
  clear hbk
  generalize w.alloc (.cells (l.map (Value.string)).toArray 9) = wl at *
  go_enter Tryd.func58, Tryd.ntmps58
  go_wp2_with fail
  refine (pick_any B g k bs m _ H.out (by omega)).mono ?_; rintro e w1 ⟨x, rfl, ⟨hx0, hx1, _⟩, hs1, hg1⟩
  have Hs1 := Lib.hid hs1; clear hs1
  obtain ⟨i, rfl⟩ : ∃ i : Nat, x = i := ⟨x.toNat, by omega⟩
  have hx2 := hx1 (by omega)
  have hi : i < l.length := by omega
  have hcell := (World.cell?_of_block (a := ⟨w.heap.size, i, none⟩) (hg1.block w.heap.size hsz (fun e => by injection e; omega))).trans (Hc.out i hi)
  have hg2 := Hg.out _ hg1
  have hin := Lib.hid (show l[i] ∈ l from List.getElem_mem hi)
  generalize l[i] = z at *
  clear hx1 hg1
  go_wp2_with fail
  go_ret
  exact ⟨z, hin.out, rfl, Hs1.out, hg2⟩
theorem own_ne {w : World} {base n sz g : Nat} {e t : TypeId} {v : Value} {xs : List Value} {cs : Array Value} {f : Nat × Nat} (h : w.ownsRow base e sz v n xs) (hg : w.heap[g]? = some (.cells cs t f)) (hne : e ≠ t) : v.ownBlock ≠ some g := by
  rcases h.2 with ⟨rfl, _⟩ | ⟨g', cap, cur, rfl, _, h1, _⟩
  · simp [Value.ownBlock]
  · intro h2
    simp [Value.ownBlock] at h2
    subst h2
    rw [h1] at hg
    simp at hg
    exact hne hg.2.1

/-- a page under way, a result's block beside it -/
structure PgAt (gs : Nat) (w wr : World) (gz gp : Nat) (s : ByteArray) (a b : Int) (v : Value) (n : Nat) (f : Nat → Int) : Prop where
  res : wr.heap[gz]? = some (.cells #[.string ⟨#[]⟩, .int .i64 0, .int .i64 0, .slice none 0 0] 26 (0, 0))
  own : wr.heap[gp]? = some (.cells #[.string s, .int .i64 a, .int .i64 b, v] 26 (0, 0))
  row : wr.ownsRow w.heap.size 2 1 v n (tab n f)
  gr : w.grownBy wr (some gs)
theorem PgAt.pick {gs : Nat} {w wr w2 : World} {gz gp : Nat} {s : ByteArray} {a b : Int} {v : Value} {n : Nat} {f : Nat → Int} (h : PgAt gs w wr gz gp s a b v n f) (hgw : gs < w.heap.size) (hz : w.heap.size ≤ gz) (hp : w.heap.size ≤ gp) (h2 : wr.grownBy w2 (some gs)) : PgAt gs w w2 gz gp s a b v n f :=
  ⟨(h2.block gz (Array.getElem?_eq_some_iff.1 h.res).1 (fun e => by injection e; omega)).trans h.res, (h2.block gp (Array.getElem?_eq_some_iff.1 h.own).1 (fun e => by injection e; omega)).trans h.own, own_gs h.row h2 hgw, grown_trans h.gr h2⟩
theorem pg_ne {w wr : World} {v : Value} {n g : Nat} {f : Nat → Int} {cs : Array Value} {t : TypeId} (h : wr.ownsRow w.heap.size 2 1 v n (tab n f)) (hg : wr.heap[g]? = some (.cells cs t (0, 0))) (ht : t ≠ 2) : v.ownBlock ≠ some g := own_ne h hg ht.symm
theorem PgAt.field {gs : Nat} {w wr : World} {gz gp : Nat} {s : ByteArray} {a b : Int} {v : Value} {n : Nat} {f : Nat → Int} (h : PgAt gs w wr gz gp s a b v n f) (hp : w.heap.size ≤ gp) (hzp : gz ≠ gp) (i : Nat) (x : Value) {s' : ByteArray} {a' b' : Int} {v' : Value} {n' : Nat} {f' : Nat → Int}
    (he : (#[Value.string s, .int .i64 a, .int .i64 b, v].setIfInBounds i x) = #[Value.string s', .int .i64 a', .int .i64 b', v']) (hr : wr.ownsRow w.heap.size 2 1 v' n' (tab n' f')) : PgAt gs w (wr.setCell ⟨gp, i, none⟩ x) gz gp s' a' b' v' n' f' :=
  ⟨(Below.heap_setCell wr ⟨gp, i, none⟩ x gz hzp).trans h.res, by have := heap_setCell_same wr gp i _ _ x h.own; rw [he] at this; exact this, hr.kept (grown_set wr gp i x) (.inr (pg_ne hr h.own (by decide))), grown_setCell h.gr (p := ⟨gp, i, none⟩) (.inr hp) x⟩
theorem PgAt.grow {gs : Nat} {w wr w' : World} {gz gp : Nat} {s : ByteArray} {a b : Int} {v v' : Value} {n : Nat} {f f' : Nat → Int} {x : Int} (h : PgAt gs w wr gz gp s a b v n f) (hp : w.heap.size ≤ gp) (hzp : gz ≠ gp)
    (h2 : w'.ownsRow w.heap.size 2 1 v' (n + 1) (tab n f ++ [.int .i64 x])) (h3 : wr.grownBy w' v.ownBlock) (hf : tab (n + 1) f' = tab n f ++ [.int .i64 x]) :
    w'.cell? ⟨gp, 3, none⟩ = some v ∧ w'.frozen? ⟨gp, 3, none⟩ = false ∧ PgAt gs w (w'.setCell ⟨gp, 3, none⟩ v') gz gp s a b v' (n + 1) f' := by
  have hr0 := (h3.block gz (Array.getElem?_eq_some_iff.1 h.res).1 (fun e => pg_ne h.row h.res (by decide) e.symm)).trans h.res
  have hg0 := (h3.block gp (Array.getElem?_eq_some_iff.1 h.own).1 (fun e => pg_ne h.row h.own (by decide) e.symm)).trans h.own
  obtain ⟨_, _, _, q3, qz⟩ := blk4 hg0
  have hrow : w'.ownsRow w.heap.size 2 1 v' (n + 1) (tab (n + 1) f') := by rw [hf]; exact h2
  have hgr : w.grownBy w' (some gs) := grown_own h.gr h.row h3
  exact ⟨q3, qz 3, ⟨(Below.heap_setCell w' ⟨gp, 3, none⟩ v' gz hzp).trans hr0, heap_setCell_same w' gp 3 _ _ v' hg0, hrow.kept (grown_set w' gp 3 v') (.inr (pg_ne hrow hg0 (by decide))), grown_setCell hgr (p := ⟨gp, 3, none⟩) (.inr hp) v'⟩⟩
theorem PgAt.grow' {gs : Nat} {w wr w' : World} {gz gp : Nat} {s : ByteArray} {a b : Int} {v v' : Value} {n : Nat} {f : Nat → Int} {x : Int} (h : PgAt gs w wr gz gp s a b v n f) (hp : w.heap.size ≤ gp) (hzp : gz ≠ gp)
    (h2 : w'.ownsRow w.heap.size 2 1 v' (n + 1) (tab n f ++ [.int .i64 x])) (h3 : wr.grownBy w' v.ownBlock) :
    w'.cell? ⟨gp, 3, none⟩ = some v ∧ w'.frozen? ⟨gp, 3, none⟩ = false ∧ ∃ f', PgAt gs w (w'.setCell ⟨gp, 3, none⟩ v') gz gp s a b v' (n + 1) f' := by
  obtain ⟨f', hf⟩ := tab_more n f x
  obtain ⟨a1, a2, a3⟩ := h.grow hp hzp h2 h3 hf
  exact ⟨a1, a2, f', a3⟩
/-- a page is drawn -/
def DrawnP (L M : Nat) (w : World) (B gs K : Nat) (bs : List UInt8) (e : Ending) (w' : World) : Prop :=
  ∃ s a b v n f, e = .returned (.agg #[.string s, .int .i64 a, .int .i64 b, v]) ∧ s.size ≤ 1000 ∧ L ≤ n ∧ n ≤ M ∧ w'.ownsRow w.heap.size 2 1 v n (tab n f) ∧ SrcAt w' B gs K bs ∧ w.grownBy w' (some gs)
/-- .. the end of it -/
theorem PgAt.done {gs B K : Nat} {bs : List UInt8} {w wr : World} {gz gp : Nat} {s : ByteArray} {a b : Int} {v : Value} {n : Nat} {f : Nat → Int} (h : PgAt gs w wr gz gp s a b v n f) (hs : SrcAt wr B gs K bs) (hgw : gs < w.heap.size) (hz : w.heap.size ≤ gz) :
    ∃ W, W = ((((wr.setCell ⟨gz, 0, none⟩ (.string s)).setCell ⟨gz, 1, none⟩ (.int .i64 a)).setCell ⟨gz, 2, none⟩ (.int .i64 b)).setCell ⟨gz, 3, none⟩ v) ∧ W.cell? ⟨gz, 0, none⟩ = some (.string s) ∧ W.cell? ⟨gz, 1, none⟩ = some (.int .i64 a) ∧ W.cell? ⟨gz, 2, none⟩ = some (.int .i64 b) ∧ W.cell? ⟨gz, 3, none⟩ = some v ∧ W.ownsRow w.heap.size 2 1 v n (tab n f) ∧ SrcAt W B gs K bs ∧ w.grownBy W (some gs) := by
  obtain ⟨e0, e1, e2, e3, _⟩ := blk4 (set4 h.res (.string s) (.int .i64 a) (.int .i64 b) v)
  have hg4 : wr.grownBy ((((wr.setCell ⟨gz, 0, none⟩ (.string s)).setCell ⟨gz, 1, none⟩ (.int .i64 a)).setCell ⟨gz, 2, none⟩ (.int .i64 b)).setCell ⟨gz, 3, none⟩ v) (some gz) :=
    grown_trans (grown_set wr gz 0 (.string s)) (grown_trans (grown_set _ gz 1 (.int .i64 a)) (grown_trans (grown_set _ gz 2 (.int .i64 b)) (grown_set _ gz 3 v)))
  exact ⟨_, rfl, e0, e1, e2, e3, h.row.kept hg4 (.inr (pg_ne h.row h.res (by decide))), hs.grown hg4 (fun z hz' => by cases hz'; omega),
    grown_setCell (grown_setCell (grown_setCell (grown_setCell h.gr (p := ⟨gz, 0, none⟩) (.inr hz) _) (p := ⟨gz, 1, none⟩) (.inr hz) _) (p := ⟨gz, 2, none⟩) (.inr hz) _) (p := ⟨gz, 3, none⟩) (.inr hz) _⟩
set_option maxRecDepth 100000 in
set_option maxHeartbeats 3200000 in
theorem l18Draw_c (B gs k : Nat) (bs : List UInt8) (w : World) (h : SrcAt w B gs k bs) (hk : k < 4611686018427380000) : Calls Tryd.prog 47 #[.pointer (some ⟨gs, 0, none⟩), .int .i64 16] w (DrawnP 1 16 w B gs (k + 80) bs) := by
  have hgl := h.lt
  have hA := (Below.refl w.heap.size w).alloc (Nat.le_refl _) (.cells #[.string ⟨#[]⟩, .int .i64 0, .int .i64 0, .slice none 0 0] 26)
  have HZ1 := Lib.hid (heap_alloc_new w (.cells #[.string ⟨#[]⟩, .int .i64 0, .int .i64 0, .slice none 0 0] 26))
  have Hg1 := Lib.hid (grown_of_below hA (some gs))
  have Hs1 := Lib.hid (h.below hA)
  have hlt1 : w.heap.size < (w.alloc (.cells #[.string ⟨#[]⟩, .int .i64 0, .int .i64 0, .slice none 0 0] 26)).heap.size := by simp
  have Hw1 := Lib.hid (show (w.alloc (.cells #[.string ⟨#[]⟩, .int .i64 0, .int .i64 0, .slice none 0 0] 26)).heap.size = w.heap.size + 1 by simp)
  clear h hA
  go_enter Tryd.func47, Tryd.ntmps47
  go_wp2_with fail
  generalize w.alloc (.cells #[.string ⟨#[]⟩, .int .i64 0, .int .i64 0, .slice none 0 0] 26) = w1 at *
  rw [← Hw1.out]
  refine (text_c B gs k 3 [⟨#[115, 113, 117, 97, 114, 101, 115]⟩, ⟨#[99, 117, 98, 101, 115]⟩, ⟨#[116, 45, 49]⟩] bs w1 Hs1.out (by omega) rfl (by omega) (by omega)).mono ?_; rintro e w2 ⟨s, hsl, rfl, hs2, hg2⟩
  have hss : s.size ≤ 1000 := by
    simp only [List.mem_cons, List.not_mem_nil, or_false] at hsl
    rcases hsl with rfl | rfl | rfl <;> decide
  have Hs2 := Lib.hid hs2
  have Hg2 := Lib.hid (grown_trans Hg1.out hg2)
  have HZ2 := Lib.hid ((hg2.block w.heap.size hlt1 (fun e => by injection e; omega)).trans HZ1.out)
  have hlt2 := Nat.lt_of_lt_of_le hlt1 hg2.size
  clear hs2 hg2 hsl HZ1 Hg1 Hs1
  go_wp2_with fail
  refine (pick_any B gs (k + 2) bs 40 _ Hs2.out (by omega)).mono ?_; rintro e w3 ⟨a0, rfl, ⟨ha0, ha1, _⟩, hs3, hg3⟩
  have ha2 := ha1 (by omega)
  have Hs3 := Lib.hid hs3
  have Hg3 := Lib.hid (grown_trans Hg2.out hg3)
  have HZ3 := Lib.hid ((hg3.block w.heap.size hlt2 (fun e => by injection e; omega)).trans HZ2.out)
  have hlt3 := Nat.lt_of_lt_of_le hlt2 hg3.size
  clear hs3 hg3 ha1 HZ2 Hg2 Hs2
  go_wp2_with fail
  refine (pick_any B gs (k + 2 + 2) bs 4 _ Hs3.out (by omega)).mono ?_; rintro e w4 ⟨b0, rfl, ⟨hb0, hb1, _⟩, hs4, hg4⟩
  have hb2 := hb1 (by omega)
  have HZ4 := (hg4.block w.heap.size hlt3 (fun e => by injection e; omega)).trans HZ3.out
  have hg4' := grown_trans Hg3.out hg4
  have hA := (Below.refl w4.heap.size w4).alloc (Nat.le_refl _) (.cells #[.string s, .int .i64 (a0 - 10), .int .i64 (1 + b0), .slice none 0 0] 26)
  have hlt4 := Nat.lt_of_lt_of_le hlt3 hg4.size
  have Hp := Lib.hid (show PgAt gs w (w4.alloc (.cells #[.string s, .int .i64 (a0 - 10), .int .i64 (1 + b0), .slice none 0 0] 26)) w.heap.size w4.heap.size s (a0 - 10) (1 + b0) (.slice none 0 0) 0 (fun _ => 0) from
    ⟨(hA.block w.heap.size hlt4).trans HZ4, heap_alloc_new w4 _, World.ownsRow_nil _ _ _ _, grown_below hg4' hA⟩)
  have Hs5 := Lib.hid (hs4.below hA)
  clear hs4 hg4 hb1 HZ3 HZ4 Hg3 Hs3 hg4' hA hlt1 hlt2 hlt3
  go_wp2_with fail
  generalize w4.alloc (.cells #[.string s, .int .i64 (a0 - 10), .int .i64 (1 + b0), .slice none 0 0] 26) = w5 at *
  generalize w4.heap.size = gp at *
  have hzp : w.heap.size ≠ gp := by omega
  have hpp : w.heap.size ≤ gp := by omega
  generalize a0 - 10 = a at *
  generalize 1 + b0 = b at *
  refine (pick_any B gs (k + 2 + 2 + 2) bs 5 _ Hs5.out (by omega)).mono ?_; rintro e w6 ⟨c1, rfl, ⟨hc0, hc1, _⟩, hs6, hg6⟩
  have hc2 := hc1 (by omega)
  have Hp6 := Lib.hid (Hp.out.pick hgl (Nat.le_refl _) hpp hg6)
  have Hs6 := Lib.hid hs6
  clear hs6 hg6 hc1 Hp Hs5
  go_wp2_with fail
  refine (pick_any B gs (k + 2 + 2 + 2 + 2) bs 9 _ Hs6.out (by omega)).mono ?_; rintro e w7 ⟨d1, rfl, ⟨hd0, hd1, _⟩, hs7, hg7⟩
  have hd2 := hd1 (by omega)
  have Hp7 := Lib.hid (Hp6.out.pick hgl (Nat.le_refl _) hpp hg7)
  have Hs7 := Lib.hid hs7
  clear hs7 hg7 hd1 Hp6 Hs6
  go_wp2_with fail
  refine (pick_any B gs (k + 2 + 2 + 2 + 2 + 2) bs 3 _ Hs7.out (by omega)).mono ?_; rintro e w8 ⟨e1, rfl, ⟨he0, he1, _⟩, hs8, hg8⟩
  have he2 := he1 (by omega)
  have Hp8 := Lib.hid (Hp7.out.pick hgl (Nat.le_refl _) hpp hg8)
  have Hs8 := Lib.hid hs8
  clear hs8 hg8 he1 Hp7 Hs7
  go_wp2_with fail
  refine (pick_any B gs (k + 2 + 2 + 2 + 2 + 2 + 2) bs 16 _ Hs8.out (by omega)).mono ?_; rintro e w9 ⟨m0, rfl, ⟨hm0, hm1, _⟩, hs9, hg9⟩
  have hm2 := hm1 (by omega)
  obtain ⟨m, rfl⟩ : ∃ m : Nat, m0 = (m : Int) := ⟨m0.toNat, by omega⟩
  have Hp9 := Lib.hid (Hp8.out.pick hgl (Nat.le_refl _) hpp hg9)
  have Hs9 := Lib.hid hs9
  clear hs9 hg9 hm1 Hp8 Hs8
  go_wp2_with fail
  generalize c1 - 1 = c at *
  generalize d1 - 4 = d at *
  go_loopw [9] (fun i wr => ∃ (j q : Nat) (v : Value) (f : Nat → Int), j + q = m + 1 ∧ i = .int .i64 (q : Int) ∧ PgAt gs w wr w.heap.size gp s a b v j f ∧ SrcAt wr B gs (k + 14 + 4 * j) bs) (fun i _ => (intOf i).toNat)
  case atStart => exact ⟨0, m + 1, _, _, by omega, by congr 1; omega, Hp9.out, Hs9.out.more (by omega)⟩
  case round =>
    obtain ⟨j, q, v, f, hjq, rfl, hpg, hsr⟩ := hrel
    obtain ⟨A, cc, rfl⟩ := own_sl hpg.row
    have Hpg := Lib.hid hpg
    have Hsr := Lib.hid hsr
    have hj17 : j ≤ 16 := by omega
    have Hjq := Lib.hid hjq
    obtain ⟨p0, p1, p2, p3, _⟩ := blk4 hpg.own
    obtain ⟨r0, r1, r2, r3, rz⟩ := blk4 hpg.res
    have y0 := rz 0
    have y1 := rz 1
    have y2 := rz 2
    have y3 := rz 3
    clear hsr rz
    by_cases hq : q = 0
    · subst hq
      have hj16 : j ≤ 16 := hj17
      have hj1 : 1 ≤ j := by omega
      obtain ⟨W, hW, e0, e1, e2, e3, hrow, hsw, hgw⟩ := hpg.done Hsr.out hgl (Nat.le_refl _)
      subst hW
      have He0 := Lib.hid e0
      have He1 := Lib.hid e1
      have He2 := Lib.hid e2
      have He3 := Lib.hid e3
      have Hfin := Lib.hid (show DrawnP 1 16 w B gs (k + 80) bs (.returned (.agg #[.string s, .int .i64 a, .int .i64 b, .slice A j cc])) _ from ⟨s, a, b, _, j, f, rfl, hss, hj1, hj16, hrow, hsw.more (by omega), hgw⟩)
      clear e0 e1 e2 e3 hrow hsw hgw hpg hjq
      go_wp2_with fail
      exact bodyPost_ret (v := .agg #[.string s, .int .i64 a, .int .i64 b, .slice A j cc]) (by simp [results, Tryd.results47, go_sem, He0.out, He1.out, He2.out, He3.out]) rfl Hfin.out
    · have hq1 : (0 : Int) < (q : Int) := by omega
      have hq9 : (q : Int) ≤ 17 := by omega
      clear hpg hjq
      go_upto_region 9 with (fail)
      obtain ⟨wo, hwo⟩ : ∃ x, x = wr := ⟨_, rfl⟩
      go_cut [11] (fun s11 wx => ∃ v : Int, s11 = .int .i64 v ∧ wx = wr)
      case first =>
        go_wp2_with fail
        go_meet
        exact ⟨_, rfl, rfl⟩
      case rest =>
        obtain ⟨y, rfl, rfl⟩ := hcut
        clear hwo p0 p1 p2 p3 r0 r1 r2 r3 y0 y1 y2 y3
        have hmx : j + 1 ≤ maxLen := by simp [maxLen]; omega
        have hby : (j + 1) * 8 ≤ 140737488355328 := by omega
        go_wp2_with fail
        refine (one_any B gs (k + 14 + 4 * j) bs 12 _ Hsr.out (by omega)).mono ?_; rintro e w2 ⟨t, rfl, hs2, hg2⟩
        have Hp2 := Lib.hid (Hpg.out.pick hgl (Nat.le_refl _) hpp hg2)
        have Hs2 := Lib.hid hs2
        clear hs2 hg2
        cases t with
        | false =>
          obtain ⟨_, _, _, p3, _⟩ := blk4 Hp2.out.own
          go_wp2_with (at_builtin; refine wpList_apd 24 2 _ 1 8 Tryd.underlying24 infoD rfl (by omega) _ _ rfl rfl w.heap.size _ j _ rfl Hp2.out.row #[.int .i64 y] 1 1 rfl rfl (by simp [Value.oneCell']) hmx hby Hp2.out.gr.size ?_; intro v7 w7 hown7 hg7; obtain ⟨A7, c7, rfl⟩ := own_sl hown7; obtain ⟨k1, k2, f', k3⟩ := Hp2.out.grow' hpp hzp hown7 hg7; have Hk3 := Lib.hid k3; have Hs7 := Lib.hid ((Hs2.out.grown hg7 (fun z hz => by have := (Hp2.out.row.lt z hz).1; omega)).grown (grown_set w7 gp 3 (.slice A7 (j + 1) c7)) (fun z hz => by cases hz; omega)); clear hown7 hg7 k3)
          go_roundw
          case rel => exact ⟨j + 1, q - 1, _, f', by have := Hjq.out; omega, by congr 1; omega, Hk3.out, Hs7.out.more (by omega)⟩
          case measure => simp [intOf]; omega
        | true =>
          go_upto_region 11 with (fail)
          go_cut [11] (fun s11 wx => ∃ v : Int, s11 = .int .i64 v ∧ PgAt gs w wx w.heap.size gp s a b (.slice A j cc) j f ∧ SrcAt wx B gs (k + 14 + 4 * j + 2 + 2) bs)
          case first =>
            go_wp2_with fail
            refine (pick_any B gs (k + 14 + 4 * j + 2) bs 5 _ Hs2.out (by omega)).mono ?_; rintro e w3 ⟨y5, rfl, _, hs3, hg3⟩
            have Hf := Lib.hid (And.intro (Hp2.out.pick hgl (Nat.le_refl _) hpp hg3) hs3)
            clear hs3 hg3
            go_wp2_with fail
            go_meet
            exact ⟨_, rfl, Hf.out.1, Hf.out.2⟩
          case rest =>
            obtain ⟨y, rfl, hp3, hs3⟩ := hcut
            have Hp3 := Lib.hid hp3
            have Hs3 := Lib.hid hs3
            clear hp3 hs3
            obtain ⟨_, _, _, p3, _⟩ := blk4 Hp3.out.own
            go_wp2_with (at_builtin; refine wpList_apd 24 2 _ 1 8 Tryd.underlying24 infoD rfl (by omega) _ _ rfl rfl w.heap.size _ j _ rfl Hp3.out.row #[.int .i64 y] 1 1 rfl rfl (by simp [Value.oneCell']) hmx hby Hp3.out.gr.size ?_; intro v7 w7 hown7 hg7; obtain ⟨A7, c7, rfl⟩ := own_sl hown7; obtain ⟨k1, k2, f', k3⟩ := Hp3.out.grow' hpp hzp hown7 hg7; have Hk3 := Lib.hid k3; have Hs7 := Lib.hid ((Hs3.out.grown hg7 (fun z hz => by have := (Hp3.out.row.lt z hz).1; omega)).grown (grown_set w7 gp 3 (.slice A7 (j + 1) c7)) (fun z hz => by cases hz; omega)); clear hown7 hg7 k3)
            go_roundw
            case rel => exact ⟨j + 1, q - 1, _, f', by have := Hjq.out; omega, by congr 1; omega, Hk3.out, Hs7.out.more (by omega)⟩
            case measure => simp [intOf]; omega
end Go.Proofs.YtnhngccfbnnpoaaDoor
