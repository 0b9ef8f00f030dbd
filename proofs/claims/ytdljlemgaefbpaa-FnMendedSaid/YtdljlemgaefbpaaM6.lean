/- Mended rows, part 6: a mended page. -/
import Derived.Test.YtdljlemgaefbpaaM5
namespace Go.Proofs.Ytdljlemgaefbpaa
open Go.RowKit Go.Joins

set_option maxRecDepth 100000 in
set_option maxHeartbeats 1600000 in
theorem l00Same_p (B1 B2 : Nat) (v1 v2 : Value) (n : Nat) (f g : Nat → Int) (w : World) (h : Rd w B1 v1 n 1 (tab n f)) (h' : Rd w B2 v2 n 1 (tab n g)) (hn : n ≤ 1000) (he : ∀ i, i < n → f i = g i) :
    Calls Try.prog 90 #[v1, v2] w fun e w' => e = .returned (.bool true) ∧ ∃ k, w' = w.drewN k := by
  have H := Lib.hid h
  have H' := Lib.hid h'
  have HE := Lib.hid he
  obtain ⟨A, c, rfl⟩ := rd_sl h
  obtain ⟨A', c', rfl⟩ := rd_sl h'
  clear h h' he
  go_enter Try.func90, Try.ntmps90
  go_wp2_with fail
  go_loopw [5] (fun i wr => ∃ (k d : Nat), k ≤ n ∧ i = .int .i64 (k : Int) ∧ wr = w.drewN d) (fun i _ => n - (intOf i).toNat)
  case atStart => exact ⟨0, 0, Nat.zero_le _, rfl, rfl⟩
  case round =>
    obtain ⟨k, d, hk, rfl, rfl⟩ := hrel
    by_cases hlt : k < n
    · obtain ⟨b1, o1, hA, _, hcc⟩ := rdF_all H.out (by omega)
      obtain ⟨b2, o2, hA', _, hcc'⟩ := rdF_all H'.out (by omega)
      subst hA hA'
      have q0 := hcc k hlt
      have q1 := hcc' k hlt
      rw [← HE.out k hlt] at q1
      have hlt' : (k : Int) < (n : Int) := by omega
      generalize f k = x at *
      clear hcc hcc'
      go_wp2_with fail
      go_quiet (fail)
      go_wp2_with fail
      go_roundw
      case rel => exact ⟨k + 1, d + _, by omega, by go_num, rfl⟩
      case measure => first | (simp [intOf]; done) | (simp [intOf]; omega)
    · have hlt' : (n : Int) ≤ (k : Int) := by omega
      go_wp2_with fail
      go_ret
      exact ⟨rfl, d, rfl⟩
theorem set4 {w : World} {g : Nat} {p q r s : Value} {t : TypeId} (h : w.heap[g]? = some (.cells #[p, q, r, s] t (0, 0))) (a b c d : Value) :
    ((((w.setCell ⟨g, 0, none⟩ a).setCell ⟨g, 1, none⟩ b).setCell ⟨g, 2, none⟩ c).setCell ⟨g, 3, none⟩ d).heap[g]? = some (.cells #[a, b, c, d] t (0, 0)) :=
  heap_setCell_same _ g 3 _ _ d (heap_setCell_same _ g 2 _ _ c (heap_setCell_same _ g 1 _ _ b (heap_setCell_same w g 0 _ _ a h)))
theorem set4_below {B : Nat} {W w : World} {g : Nat} (h : Below B W w) (hg : B ≤ g) (a b c d : Value) : Below B W ((((w.setCell ⟨g, 0, none⟩ a).setCell ⟨g, 1, none⟩ b).setCell ⟨g, 2, none⟩ c).setCell ⟨g, 3, none⟩ d) :=
  (((h.setCell (p := ⟨g, 0, none⟩) hg a).setCell (p := ⟨g, 1, none⟩) hg b).setCell (p := ⟨g, 2, none⟩) hg c).setCell (p := ⟨g, 3, none⟩) hg d
theorem set4_own {w : World} {g B n sz : Nat} {e : TypeId} {v : Value} {xs : List Value} (h : w.ownsRow B e sz v n xs) (hg : g < B) (a b c d : Value) : ((((w.setCell ⟨g, 0, none⟩ a).setCell ⟨g, 1, none⟩ b).setCell ⟨g, 2, none⟩ c).setCell ⟨g, 3, none⟩ d).ownsRow B e sz v n xs :=
  own_gs (own_gs (own_gs (own_gs h (grown_set w g 0 a) hg) (grown_set _ g 1 b) hg) (grown_set _ g 2 c) hg) (grown_set _ g 3 d) hg
/-- a page, or none and a code -/
def RetPg (w : World) (code : Int) (s : ByteArray) (a b : Int) (m : Nat) (g : Nat → Int) (e : Ending) (w' : World) : Prop :=
  ∃ s' a' b' v k g', e = .returned (.tuple #[.agg #[.string s', .int .i64 a', .int .i64 b', v], .int .i64 code]) ∧ (code = 0 → s' = s ∧ a' = a ∧ b' = b ∧ k = m ∧ g' = g) ∧ (code ≠ 0 → s' = ⟨#[]⟩ ∧ a' = 0 ∧ b' = 0 ∧ k = 0) ∧ w'.ownsRow w.heap.size 2 1 v k (tab k g') ∧ Below w.heap.size w w'
theorem RetPg.no {w w' : World} {code c : Int} {s : ByteArray} {a b : Int} {m : Nat} {g : Nat → Int} (he : code = c) (h : c ≠ 0) (hb : Below w.heap.size w w') : RetPg w code s a b m g (.returned (.tuple #[.agg #[.string ⟨#[]⟩, .int .i64 0, .int .i64 0, .slice none 0 0], .int .i64 c])) w' := by
  subst he
  exact ⟨_, _, _, _, 0, fun _ => 0, rfl, fun e => absurd e h, fun _ => ⟨rfl, rfl, rfl, rfl⟩, World.ownsRow_nil _ _ _ _, hb⟩
theorem RetPg.yes {w w' : World} {code : Int} {s : ByteArray} {a b : Int} {m : Nat} {g : Nat → Int} {v : Value} (he : code = 0) (h : w'.ownsRow w.heap.size 2 1 v m (tab m g)) (hb : Below w.heap.size w w') : RetPg w code s a b m g (.returned (.tuple #[.agg #[.string s, .int .i64 a, .int .i64 b, v], .int .i64 0])) w' := by
  subst he
  exact ⟨_, _, _, _, m, g, rfl, fun _ => ⟨rfl, rfl, rfl, rfl, rfl⟩, fun e => absurd rfl e, h, hb⟩
theorem heap_sec (w : World) (o o' : Obj) : ((w.alloc o).alloc o').heap[w.heap.size + 1]? = (w.alloc o |>.alloc o').heap[w.heap.size + 1]? := rfl
theorem heap_second4 (w : World) (o : Obj) (cs : Array Value) (t : TypeId) : ((w.alloc o).alloc (.cells cs t)).heap[w.heap.size + 1]? = some (.cells cs t (0, 0)) := by
  show ((w.heap.push _).push _)[w.heap.size + 1]? = _
  simp only [Array.getElem?_push, Array.size_push]
  rw [if_pos trivial]
theorem heap_first4 (w : World) (o : Obj) (cs : Array Value) (t : TypeId) : ((w.alloc (.cells cs t)).alloc o).heap[w.heap.size]? = some (.cells cs t (0, 0)) := by
  show ((w.heap.push _).push _)[w.heap.size]? = _
  simp only [Array.getElem?_push, Array.size_push]
  rw [if_neg (by omega), if_pos trivial]

set_option maxRecDepth 100000 in
set_option maxHeartbeats 1600000 in
theorem SamePage_c (s : ByteArray) (a b : Int) (v v' : Value) (k : Nat) (g : Nat → Int) (w : World) (h : Rd w w.heap.size v k 1 (tab k g)) (h' : Rd w w.heap.size v' k 1 (tab k g)) (hk : k ≤ 999) :
    Calls Try.prog 53 #[.agg #[.string s, .int .i64 a, .int .i64 b, v], .agg #[.string s, .int .i64 a, .int .i64 b, v']] w fun e w' => e = .returned (.bool true) ∧ Below w.heap.size w w' := by
  obtain ⟨A, c, rfl⟩ := rd_sl h
  obtain ⟨A', c', rfl⟩ := rd_sl h'
  have hb1 := ((Below.refl w.heap.size w).alloc (Nat.le_refl _) (.cells #[.string s, .int .i64 a, .int .i64 b, .slice A k c] 49)).alloc (by simp) (.cells #[.string s, .int .i64 a, .int .i64 b, .slice A' k c'] 49)
  obtain ⟨f0, f1, f2, f3, _⟩ := blk4 (heap_first4 w (.cells #[.string s, .int .i64 a, .int .i64 b, .slice A' k c'] 49) #[.string s, .int .i64 a, .int .i64 b, .slice A k c] 49)
  obtain ⟨k0, k1, k2, k3, _⟩ := blk4 (heap_second4 w (.cells #[.string s, .int .i64 a, .int .i64 b, .slice A k c] 49) #[.string s, .int .i64 a, .int .i64 b, .slice A' k c'] 49)
  have HL := Lib.hid (l00Same_p _ _ _ _ k g g _ (h.below hb1) (h'.below hb1) (by omega) (fun _ _ => rfl))
  have Hb1 := Lib.hid hb1
  clear hb1 h h'
  go_enter Try.func53, Try.ntmps53
  go_wp2_with fail
  generalize (w.alloc (.cells #[.string s, .int .i64 a, .int .i64 b, .slice A k c] 49)).alloc (.cells #[.string s, .int .i64 a, .int .i64 b, .slice A' k c'] 49) = w1 at *
  go_wp2_with fail
  refine (HL.out).mono ?_; rintro e w2 ⟨rfl, d, hd⟩
  have Hb2 := Lib.hid (show Below w.heap.size w w2 by rw [hd]; exact below_drewN Hb1.out d)
  clear hd
  go_wp2_with fail
  go_ret
  exact ⟨rfl, Hb2.out⟩
set_option maxRecDepth 100000 in
set_option maxHeartbeats 3200000 in
theorem MendRowI_c (B : Nat) (s : ByteArray) (a b : Int) (A : Option Addr) (m c : Nat) (f : Nat → Int) (row oi : Int) (w : World) (hs : s.size ≤ 1048576) (h : Rd w B (.slice A m c) m 1 (tab m f)) (hB : B ≤ w.heap.size) (hm : m ≤ 1000) :
    Calls Try.prog 48 #[.agg #[.string s, .int .i64 a, .int .i64 b, .slice A m c], .int .i64 row, .int .i64 oi] w (RetPg w (mC s.data.toList a b m f row oi) s a b m (put f row.toNat (due f oi.toNat row.toNat))) := by
  have hb1 := ((Below.refl w.heap.size w).alloc (Nat.le_refl _) (.cells #[.string s, .int .i64 a, .int .i64 b, .slice A m c] 49)).alloc (by simp) (.cells #[.string ⟨#[]⟩, .int .i64 0, .int .i64 0, .slice none 0 0] 49)
  have hP := heap_first4 w (.cells #[.string ⟨#[]⟩, .int .i64 0, .int .i64 0, .slice none 0 0] 49) #[.string s, .int .i64 a, .int .i64 b, .slice A m c] 49
  have hZ := heap_second4 w (.cells #[.string s, .int .i64 a, .int .i64 b, .slice A m c] 49) #[.string ⟨#[]⟩, .int .i64 0, .int .i64 0, .slice none 0 0] 49
  have hsz : ((w.alloc (.cells #[.string s, .int .i64 a, .int .i64 b, .slice A m c] 49)).alloc (.cells #[.string ⟨#[]⟩, .int .i64 0, .int .i64 0, .slice none 0 0] 49)).heap.size = w.heap.size + 2 := by simp
  have H1 := Lib.hid (h.below (hb1.mono hB))
  have Hb1 := Lib.hid hb1
  obtain ⟨f0, f1, f2, f3, _⟩ := blk4 hP
  have HC := Lib.hid (guessCode_c B s a b A m c f oi _ hs H1.out (Nat.le_trans hB hb1.size) hm)
  have HP := Lib.hid hP
  have HZ := Lib.hid hZ
  have Hsz := Lib.hid hsz
  clear hb1 h hP hZ hsz
  go_enter Try.func48, Try.ntmps48
  go_wp2_with fail
  generalize (w.alloc (.cells #[.string s, .int .i64 a, .int .i64 b, .slice A m c] 49)).alloc (.cells #[.string ⟨#[]⟩, .int .i64 0, .int .i64 0, .slice none 0 0] 49) = w1 at *
  go_wp2_with fail
  refine (HC.out).mono ?_; rintro e w2 ⟨rfl, hb2⟩
  have hP := (hb2.block w.heap.size (by rw [Hsz.out]; omega)).trans HP.out
  have hZ := (hb2.block (w.heap.size + 1) (by rw [Hsz.out]; omega)).trans HZ.out
  have Hb2 := Lib.hid (Hb1.out.trans (hb2.mono Hb1.out.size))
  have H2 := Lib.hid (H1.out.below (hb2.mono (Nat.le_trans hB Hb1.out.size)))
  have hs2 : w.heap.size + 2 ≤ w2.heap.size := by have := hb2.size; rw [Hsz.out] at this; exact this
  clear hb2 HC f0 f1 f2 f3 HP HZ H1 Hb1 Hsz
  obtain ⟨f0, f1, f2, f3, fz⟩ := blk4 hP
  obtain ⟨z0, z1, z2, z3, zz⟩ := blk4 hZ
  have y0 := zz 0
  have y1 := zz 1
  have y2 := zz 2
  have y3 := zz 3
  have x3 := fz 3
  have HP := Lib.hid hP
  have HZ := Lib.hid hZ
  clear hP hZ zz fz
  by_cases hc : gC s.data.toList a b m f oi = 0
  · obtain ⟨hpg, ho, hmo⟩ := gC_ok hc
    obtain ⟨hm1, hm60, hv⟩ := pgOk_out hpg
    have HV := Lib.hid hv
    have HI := Lib.hid (fun wx => between_any row 0 ((m : Int) - 1) wx)
    rw [hc]
    have E0 := Lib.hid hc
    clear hpg hv hc
    cases h1 : inB row 0 ((m : Int) - 1) with
    | false =>
      have E := Lib.hid (show mC s.data.toList a b m f row oi = 2 by unfold mC; rw [E0.out, h1]; rfl)
      rw [h1] at HI
      clear h1
      have hq := set4 HZ.out (.string ⟨#[]⟩) (.int .i64 0) (.int .i64 0) (.slice none 0 0)
      obtain ⟨e0, e1, e2, e3, _⟩ := blk4 hq
      have He0 := Lib.hid e0
      have He1 := Lib.hid e1
      have He2 := Lib.hid e2
      have He3 := Lib.hid e3
      have Hbe := Lib.hid (set4_below Hb2.out (Nat.le_succ _) (.string ⟨#[]⟩) (.int .i64 0) (.int .i64 0) (.slice none 0 0))
      clear hq e0 e1 e2 e3
      go_wp2_with fail
      refine (HI.out _).mono ?_; rintro e w1 ⟨rfl, rfl⟩
      go_wp2_with fail
      exact bodyPost_ret (v := .tuple #[.agg #[.string ⟨#[]⟩, .int .i64 0, .int .i64 0, .slice none 0 0], .int .i64 2]) (by simp [results, Try.results48, go_sem, He0.out, He1.out, He2.out, He3.out]) rfl (RetPg.no E.out (by decide) Hbe.out)
    | true =>
      obtain ⟨hr0, hr1⟩ := inB_iff.1 h1
      rw [h1] at HI
      have E1 := Lib.hid h1
      clear h1
      obtain ⟨o, rfl⟩ : ∃ o : Nat, oi = (o : Int) := ⟨oi.toNat, by omega⟩
      obtain ⟨r, rfl⟩ : ∃ r : Nat, row = (r : Int) := ⟨row.toNat, by omega⟩
      have E2 := Lib.hid (show mC s.data.toList a b m f (r : Int) (o : Int) = if isV (due f o r) then 0 else 5 by unfold mC; rw [E0.out, E1.out]; rfl)
      rw [Int.toNat_natCast, Int.toNat_natCast]
      have hrm : r < m := by omega
      have HG := Lib.hid (guessI_c B (.slice A m c) m f o r w2 H2.out HV.out (by omega) (by omega) (by omega) hm60 hrm)
      have HX := Lib.hid (show ∀ wx, Calls Try.prog 109 #[.int .i64 (due f o r)] wx fun e w' => e = .returned (.bool (isV (due f o r))) ∧ wx = w' from fun wx => isValue_c _ wx)
      have hri : (r : Int) < (m : Int) := by omega
      have hlt2 : w.heap.size < w2.heap.size := by omega
      have hlt3 : w.heap.size + 1 < w2.heap.size := by omega
      generalize hy : due f o r = y at *
      have Hy := Lib.hid hy
      clear hy
      go_wp2_with fail
      refine (HI.out _).mono ?_; rintro e w1 ⟨rfl, rfl⟩
      go_wp2_with fail
      refine (HG.out).mono ?_; rintro e w3 ⟨rfl, d3, hd3⟩
      have hb3 : Below w2.heap.size w2 w3 := by rw [hd3]; exact below_drewN (Below.refl _ _) d3
      have hP := (hb3.block w.heap.size hlt2).trans HP.out
      have hZ := (hb3.block (w.heap.size + 1) hlt3).trans HZ.out
      have Hb3 := Lib.hid (Hb2.out.trans (hb3.mono Hb2.out.size))
      have H3 := Lib.hid (H2.out.below (hb3.mono (Nat.le_trans hB Hb2.out.size)))
      have hs3 : w.heap.size + 2 ≤ w3.heap.size := Nat.le_trans hs2 hb3.size
      clear hd3 hb3 HG f0 f1 f2 f3 z0 z1 z2 z3 y0 y1 y2 y3 x3 HP HZ
      obtain ⟨f0, f1, f2, f3, fz⟩ := blk4 hP
      obtain ⟨z0, z1, z2, z3, zz⟩ := blk4 hZ
      have y0 := zz 0
      have y1 := zz 1
      have y2 := zz 2
      have y3 := zz 3
      have x3 := fz 3
      have HP := Lib.hid hP
      have HZ := Lib.hid hZ
      clear hP hZ zz fz
      cases hiv : isV y with
      | false =>
        have E := Lib.hid (show mC s.data.toList a b m f (r : Int) (o : Int) = 5 by rw [E2.out, hiv]; rfl)
        rw [hiv] at HX
        clear hiv
        have hq := set4 HZ.out (.string ⟨#[]⟩) (.int .i64 0) (.int .i64 0) (.slice none 0 0)
        obtain ⟨e0, e1, e2, e3, _⟩ := blk4 hq
        have He0 := Lib.hid e0
        have He1 := Lib.hid e1
        have He2 := Lib.hid e2
        have He3 := Lib.hid e3
        have Hbe := Lib.hid (set4_below Hb3.out (Nat.le_succ _) (.string ⟨#[]⟩) (.int .i64 0) (.int .i64 0) (.slice none 0 0))
        clear hq e0 e1 e2 e3
        go_wp2_with fail
        refine (HX.out _).mono ?_; rintro e w1 ⟨rfl, rfl⟩
        go_wp2_with fail
        exact bodyPost_ret (v := .tuple #[.agg #[.string ⟨#[]⟩, .int .i64 0, .int .i64 0, .slice none 0 0], .int .i64 5]) (by simp [results, Try.results48, go_sem, He0.out, He1.out, He2.out, He3.out]) rfl (RetPg.no E.out (by decide) Hbe.out)
      | true =>
        have E := Lib.hid (show mC s.data.toList a b m f (r : Int) (o : Int) = 0 by rw [E2.out, hiv]; rfl)
        rw [hiv] at HX
        clear hiv
        have HK := Lib.hid (copyNumbers_any B _ m f w3 H3.out (Nat.le_trans hB Hb3.out.size) (by omega) (by omega))
        unfold RetF at HK
        go_wp2_with fail
        refine (HX.out _).mono ?_; rintro e w1 ⟨rfl, rfl⟩
        go_wp2_with fail
        refine (HK.out).mono ?_; rintro e w4 ⟨v4, rfl, ho4, hb4⟩
        obtain ⟨gv, cv, rfl, _, _⟩ := own_posC ho4 (by omega)
        have hgv := (ho4.lt gv rfl).1
        have hP := (hb4.block w.heap.size (by omega)).trans HP.out
        have hZ := (hb4.block (w.heap.size + 1) (by omega)).trans HZ.out
        have Hb4 := Lib.hid (Hb3.out.trans (hb4.mono Hb3.out.size))
        have Ho4 := Lib.hid ho4
        clear hb4 HK f0 f1 f2 f3 z0 z1 z2 z3 y0 y1 y2 y3 x3 HP HZ ho4
        obtain ⟨f0, f1, f2, f3, fz⟩ := blk4 hP
        have x3 := fz 3
        have HP5 := Lib.hid (heap_setCell_same w4 w.heap.size 3 _ _ (.slice (some ⟨gv, 0, none⟩) m cv) hP)
        have HZ5 := Lib.hid ((Below.heap_setCell w4 ⟨w.heap.size, 3, none⟩ (.slice (some ⟨gv, 0, none⟩) m cv) (w.heap.size + 1) (by simp)).trans hZ)
        have Ho5 := Lib.hid (own_gs Ho4.out (grown_set w4 w.heap.size 3 (.slice (some ⟨gv, 0, none⟩) m cv)) (by omega))
        have Hb5 := Lib.hid (Hb4.out.setCell (p := ⟨w.heap.size, 3, none⟩) (Nat.le_refl _) (.slice (some ⟨gv, 0, none⟩) m cv))
        clear hP hZ fz Hb4 Ho4
        go_upto_region 10 with (fail)
        generalize w4.setCell ⟨w.heap.size, 3, none⟩ (.slice (some ⟨gv, 0, none⟩) m cv) = w5 at *
        have hP := HP5.out
        have hZ := HZ5.out
        clear f0 f1 f2 f3 x3
        obtain ⟨f0, f1, f2, f3, fz⟩ := blk4 hP
        obtain ⟨v0, v1⟩ := own_cellD Ho5.out r hrm
        have ho6 := (Ho5.out.stored r (.int .i64 y)).1
        rw [tab_set] at ho6
        have Ho6 := Lib.hid ho6
        have HP6 := Lib.hid ((Below.heap_setCell w5 ⟨gv, r, none⟩ (.int .i64 y) w.heap.size (by simp; omega)).trans hP)
        have HZ6 := Lib.hid ((Below.heap_setCell w5 ⟨gv, r, none⟩ (.int .i64 y) (w.heap.size + 1) (by simp; omega)).trans hZ)
        have Hb6 := Lib.hid (Hb5.out.setCell (p := ⟨gv, r, none⟩) (show w.heap.size ≤ gv by omega) (.int .i64 y))
        clear hP hZ fz Hb5 Ho5 HP5 HZ5 ho6
        go_upto_region 11 with (fail)
        generalize w5.setCell ⟨gv, r, none⟩ (.int .i64 y) = w6 at *
        clear f0 f1 f2 f3 v0 v1
        obtain ⟨f0, f1, f2, f3, _⟩ := blk4 HP6.out
        obtain ⟨z0, z1, z2, z3, zz⟩ := blk4 HZ6.out
        have y0 := zz 0
        have y1 := zz 1
        have y2 := zz 2
        have y3 := zz 3
        clear zz
        have hq := set4 HZ6.out (.string s) (.int .i64 a) (.int .i64 b) (.slice (some ⟨gv, 0, none⟩) m cv)
        obtain ⟨e0, e1, e2, e3, _⟩ := blk4 hq
        have He0 := Lib.hid e0
        have He1 := Lib.hid e1
        have He2 := Lib.hid e2
        have He3 := Lib.hid e3
        have Hbe := Lib.hid (set4_below Hb6.out (Nat.le_succ _) (.string s) (.int .i64 a) (.int .i64 b) (.slice (some ⟨gv, 0, none⟩) m cv))
        have Hoe := Lib.hid (ownsRow_le (set4_own Ho6.out (show w.heap.size + 1 < w3.heap.size by omega) (.string s) (.int .i64 a) (.int .i64 b) (.slice (some ⟨gv, 0, none⟩) m cv)) (show w.heap.size ≤ w3.heap.size by omega))
        clear hq e0 e1 e2 e3
        go_wp2_with fail
        exact bodyPost_ret (v := .tuple #[.agg #[.string s, .int .i64 a, .int .i64 b, .slice (some ⟨gv, 0, none⟩) m cv], .int .i64 0]) (by simp [results, Try.results48, go_sem, He0.out, He1.out, He2.out, He3.out]) rfl (RetPg.yes E.out (by simp only [Int.toNat_natCast]; rw [Hy.out]; exact Hoe.out) Hbe.out)
  · have E := Lib.hid (show mC s.data.toList a b m f row oi = gC s.data.toList a b m f oi by unfold mC; rw [if_neg hc])
    have Hcn := Lib.hid hc
    have hcb : (gC s.data.toList a b m f oi != 0) = true := by simp [hc]
    have hcb2 : (gC s.data.toList a b m f oi == 0) = false := by simp [hc]
    clear hc
    generalize gC s.data.toList a b m f oi = cc at *
    have hq := set4 HZ.out (.string ⟨#[]⟩) (.int .i64 0) (.int .i64 0) (.slice none 0 0)
    obtain ⟨e0, e1, e2, e3, _⟩ := blk4 hq
    have He0 := Lib.hid e0
    have He1 := Lib.hid e1
    have He2 := Lib.hid e2
    have He3 := Lib.hid e3
    have Hbe := Lib.hid (set4_below Hb2.out (Nat.le_succ _) (.string ⟨#[]⟩) (.int .i64 0) (.int .i64 0) (.slice none 0 0))
    clear hq e0 e1 e2 e3
    go_wp2_with fail
    exact bodyPost_ret (v := .tuple #[.agg #[.string ⟨#[]⟩, .int .i64 0, .int .i64 0, .slice none 0 0], .int .i64 cc]) (by simp [results, Try.results48, go_sem, He0.out, He1.out, He2.out, He3.out]) rfl (RetPg.no E.out Hcn.out Hbe.out)
set_option maxRecDepth 100000 in
set_option maxHeartbeats 3200000 in
theorem MendRowS_c (B : Nat) (s : ByteArray) (a b : Int) (A : Option Addr) (m c : Nat) (f : Nat → Int) (row oi : Int) (w : World) (hs : s.size ≤ 1048576) (h : Rd w B (.slice A m c) m 1 (tab m f)) (hB : B ≤ w.heap.size) (hm : m ≤ 1000) :
    Calls Try.prog 49 #[.agg #[.string s, .int .i64 a, .int .i64 b, .slice A m c], .int .i64 row, .int .i64 oi] w (RetPg w (mC s.data.toList a b m f row oi) s a b m (put f row.toNat (due f oi.toNat row.toNat))) := by
  have hb1 := ((Below.refl w.heap.size w).alloc (Nat.le_refl _) (.cells #[.string s, .int .i64 a, .int .i64 b, .slice A m c] 49)).alloc (by simp) (.cells #[.string ⟨#[]⟩, .int .i64 0, .int .i64 0, .slice none 0 0] 49)
  have hP := heap_first4 w (.cells #[.string ⟨#[]⟩, .int .i64 0, .int .i64 0, .slice none 0 0] 49) #[.string s, .int .i64 a, .int .i64 b, .slice A m c] 49
  have hZ := heap_second4 w (.cells #[.string s, .int .i64 a, .int .i64 b, .slice A m c] 49) #[.string ⟨#[]⟩, .int .i64 0, .int .i64 0, .slice none 0 0] 49
  have hsz : ((w.alloc (.cells #[.string s, .int .i64 a, .int .i64 b, .slice A m c] 49)).alloc (.cells #[.string ⟨#[]⟩, .int .i64 0, .int .i64 0, .slice none 0 0] 49)).heap.size = w.heap.size + 2 := by simp
  have H1 := Lib.hid (h.below (hb1.mono hB))
  have Hb1 := Lib.hid hb1
  obtain ⟨f0, f1, f2, f3, _⟩ := blk4 hP
  have HC := Lib.hid (l18Code_c w.heap.size B s a b A m c f oi _ hs f0 f1 f2 f3 H1.out hm)
  have HP := Lib.hid hP
  have HZ := Lib.hid hZ
  have Hsz := Lib.hid hsz
  clear hb1 h hP hZ hsz
  go_enter Try.func49, Try.ntmps49
  go_wp2_with fail
  generalize (w.alloc (.cells #[.string s, .int .i64 a, .int .i64 b, .slice A m c] 49)).alloc (.cells #[.string ⟨#[]⟩, .int .i64 0, .int .i64 0, .slice none 0 0] 49) = w1 at *
  go_wp2_with fail
  refine (HC.out).mono ?_; rintro e w2 ⟨rfl, d2, hd2⟩
  have hb2 : Below w1.heap.size w1 w2 := by rw [hd2]; exact below_drewN (Below.refl _ _) d2
  clear hd2
  have hP := (hb2.block w.heap.size (by rw [Hsz.out]; omega)).trans HP.out
  have hZ := (hb2.block (w.heap.size + 1) (by rw [Hsz.out]; omega)).trans HZ.out
  have Hb2 := Lib.hid (Hb1.out.trans (hb2.mono Hb1.out.size))
  have H2 := Lib.hid (H1.out.below (hb2.mono (Nat.le_trans hB Hb1.out.size)))
  have hs2 : w.heap.size + 2 ≤ w2.heap.size := by have := hb2.size; rw [Hsz.out] at this; exact this
  clear hb2 HC f0 f1 f2 f3 HP HZ H1 Hb1 Hsz
  obtain ⟨f0, f1, f2, f3, fz⟩ := blk4 hP
  obtain ⟨z0, z1, z2, z3, zz⟩ := blk4 hZ
  have y0 := zz 0
  have y1 := zz 1
  have y2 := zz 2
  have y3 := zz 3
  have x3 := fz 3
  have HP := Lib.hid hP
  have HZ := Lib.hid hZ
  clear hP hZ zz fz
  by_cases hc : gC s.data.toList a b m f oi = 0
  · obtain ⟨hpg, ho, hmo⟩ := gC_ok hc
    obtain ⟨hm1, hm60, hv⟩ := pgOk_out hpg
    have HV := Lib.hid hv
    have HI := Lib.hid (fun wx => l00In_any row 0 ((m : Int) - 1) wx)
    rw [hc]
    have E0 := Lib.hid hc
    clear hpg hv hc
    cases h1 : inB row 0 ((m : Int) - 1) with
    | false =>
      have E := Lib.hid (show mC s.data.toList a b m f row oi = 2 by unfold mC; rw [E0.out, h1]; rfl)
      rw [h1] at HI
      clear h1
      have hq := set4 HZ.out (.string ⟨#[]⟩) (.int .i64 0) (.int .i64 0) (.slice none 0 0)
      obtain ⟨e0, e1, e2, e3, _⟩ := blk4 hq
      have He0 := Lib.hid e0
      have He1 := Lib.hid e1
      have He2 := Lib.hid e2
      have He3 := Lib.hid e3
      have Hbe := Lib.hid (set4_below Hb2.out (Nat.le_succ _) (.string ⟨#[]⟩) (.int .i64 0) (.int .i64 0) (.slice none 0 0))
      clear hq e0 e1 e2 e3
      go_wp2_with fail
      refine (HI.out _).mono ?_; rintro e w1 ⟨rfl, rfl⟩
      go_wp2_with fail
      exact bodyPost_ret (v := .tuple #[.agg #[.string ⟨#[]⟩, .int .i64 0, .int .i64 0, .slice none 0 0], .int .i64 2]) (by simp [results, Try.results49, go_sem, He0.out, He1.out, He2.out, He3.out]) rfl (RetPg.no E.out (by decide) Hbe.out)
    | true =>
      obtain ⟨hr0, hr1⟩ := inB_iff.1 h1
      rw [h1] at HI
      have E1 := Lib.hid h1
      clear h1
      obtain ⟨o, rfl⟩ : ∃ o : Nat, oi = (o : Int) := ⟨oi.toNat, by omega⟩
      obtain ⟨r, rfl⟩ : ∃ r : Nat, row = (r : Int) := ⟨row.toNat, by omega⟩
      have E2 := Lib.hid (show mC s.data.toList a b m f (r : Int) (o : Int) = if isV (due f o r) then 0 else 5 by unfold mC; rw [E0.out, E1.out]; rfl)
      rw [Int.toNat_natCast, Int.toNat_natCast]
      have hrm : r < m := by omega
      have HG := Lib.hid (guessS_c B (.slice A m c) m f o r w2 H2.out HV.out (by omega) (by omega) (by omega) hm60 hrm)
      have HX := Lib.hid (show ∀ wx, Calls Try.prog 112 #[.int .i64 (due f o r)] wx fun e w' => e = .returned (.bool (isV (due f o r))) ∧ wx = w' from fun wx => l17Most_c _ wx)
      have hri : (r : Int) < (m : Int) := by omega
      have hlt2 : w.heap.size < w2.heap.size := by omega
      have hlt3 : w.heap.size + 1 < w2.heap.size := by omega
      generalize hy : due f o r = y at *
      have Hy := Lib.hid hy
      clear hy
      go_wp2_with fail
      refine (HI.out _).mono ?_; rintro e w1 ⟨rfl, rfl⟩
      go_wp2_with fail
      refine (HG.out).mono ?_; rintro e w3 ⟨rfl, d3, hd3⟩
      have hb3 : Below w2.heap.size w2 w3 := by rw [hd3]; exact below_drewN (Below.refl _ _) d3
      have hP := (hb3.block w.heap.size hlt2).trans HP.out
      have hZ := (hb3.block (w.heap.size + 1) hlt3).trans HZ.out
      have Hb3 := Lib.hid (Hb2.out.trans (hb3.mono Hb2.out.size))
      have H3 := Lib.hid (H2.out.below (hb3.mono (Nat.le_trans hB Hb2.out.size)))
      have hs3 : w.heap.size + 2 ≤ w3.heap.size := Nat.le_trans hs2 hb3.size
      clear hd3 hb3 HG f0 f1 f2 f3 z0 z1 z2 z3 y0 y1 y2 y3 x3 HP HZ
      obtain ⟨f0, f1, f2, f3, fz⟩ := blk4 hP
      obtain ⟨z0, z1, z2, z3, zz⟩ := blk4 hZ
      have y0 := zz 0
      have y1 := zz 1
      have y2 := zz 2
      have y3 := zz 3
      have x3 := fz 3
      have HP := Lib.hid hP
      have HZ := Lib.hid hZ
      clear hP hZ zz fz
      cases hiv : isV y with
      | false =>
        have E := Lib.hid (show mC s.data.toList a b m f (r : Int) (o : Int) = 5 by rw [E2.out, hiv]; rfl)
        rw [hiv] at HX
        clear hiv
        have hq := set4 HZ.out (.string ⟨#[]⟩) (.int .i64 0) (.int .i64 0) (.slice none 0 0)
        obtain ⟨e0, e1, e2, e3, _⟩ := blk4 hq
        have He0 := Lib.hid e0
        have He1 := Lib.hid e1
        have He2 := Lib.hid e2
        have He3 := Lib.hid e3
        have Hbe := Lib.hid (set4_below Hb3.out (Nat.le_succ _) (.string ⟨#[]⟩) (.int .i64 0) (.int .i64 0) (.slice none 0 0))
        clear hq e0 e1 e2 e3
        go_wp2_with fail
        refine (HX.out _).mono ?_; rintro e w1 ⟨rfl, rfl⟩
        go_wp2_with fail
        exact bodyPost_ret (v := .tuple #[.agg #[.string ⟨#[]⟩, .int .i64 0, .int .i64 0, .slice none 0 0], .int .i64 5]) (by simp [results, Try.results49, go_sem, He0.out, He1.out, He2.out, He3.out]) rfl (RetPg.no E.out (by decide) Hbe.out)
      | true =>
        have E := Lib.hid (show mC s.data.toList a b m f (r : Int) (o : Int) = 0 by rw [E2.out, hiv]; rfl)
        rw [hiv] at HX
        clear hiv
        have hA := (Below.refl w3.heap.size w3).alloc (Nat.le_refl _) (.cells #[.string s, .int .i64 a, .int .i64 b, .slice A m c] 49)
        have HQ4 := Lib.hid (heap_alloc_new w3 (.cells #[.string s, .int .i64 a, .int .i64 b, .slice A m c] 49))
        have HP4 := Lib.hid ((hA.block w.heap.size (by omega)).trans HP.out)
        have HZ4 := Lib.hid ((hA.block (w.heap.size + 1) (by omega)).trans HZ.out)
        have Hb4 := Lib.hid (Hb3.out.trans (hA.mono Hb3.out.size))
        have H4 := Lib.hid (H3.out.below (hA.mono (Nat.le_trans hB Hb3.out.size)))
        have hs4 : w3.heap.size < (w3.alloc (.cells #[.string s, .int .i64 a, .int .i64 b, .slice A m c] 49)).heap.size := by simp
        clear hA
        go_wp2_with fail
        refine (HX.out _).mono ?_; rintro e w1 ⟨rfl, rfl⟩
        go_upto_region 10 with (fail)
        generalize hgq : w3.heap.size = gq at *
        generalize w3.alloc (.cells #[.string s, .int .i64 a, .int .i64 b, .slice A m c] 49) = w4 at *
        clear hgq f0 f1 f2 f3 z0 z1 z2 z3 y0 y1 y2 y3 x3 HP HZ
        obtain ⟨f0, f1, f2, f3, _⟩ := blk4 HP4.out
        have HK := Lib.hid (l00Own_c B _ m f w4 H4.out (Nat.le_trans hB Hb4.out.size) (by omega) (by omega))
        unfold RetF at HK
        go_wp2_with fail
        refine (HK.out).mono ?_; rintro e w5 ⟨v4, rfl, ho5, hb5⟩
        obtain ⟨gv, cv, rfl, _, _⟩ := own_posC ho5 (by omega)
        have hgv := (ho5.lt gv rfl).1
        have hQ := (hb5.block gq hs4).trans HQ4.out
        have hZ := (hb5.block (w.heap.size + 1) (by omega)).trans HZ4.out
        have Hb5 := Lib.hid (Hb4.out.trans (hb5.mono Hb4.out.size))
        have Ho5 := Lib.hid ho5
        clear hb5 HK f0 f1 f2 f3 HP4 HZ4 HQ4 ho5
        obtain ⟨q0, q1, q2, q3, qz⟩ := blk4 hQ
        have x3 := qz 3
        have HP6 := Lib.hid (heap_setCell_same w5 gq 3 _ _ (.slice (some ⟨gv, 0, none⟩) m cv) hQ)
        have HZ6 := Lib.hid ((Below.heap_setCell w5 ⟨gq, 3, none⟩ (.slice (some ⟨gv, 0, none⟩) m cv) (w.heap.size + 1) (by simp; omega)).trans hZ)
        have Ho6 := Lib.hid (own_gs Ho5.out (grown_set w5 gq 3 (.slice (some ⟨gv, 0, none⟩) m cv)) (by omega))
        have Hb6 := Lib.hid (Hb5.out.setCell (p := ⟨gq, 3, none⟩) (show w.heap.size ≤ gq by omega) (.slice (some ⟨gv, 0, none⟩) m cv))
        clear hQ hZ qz Hb5 Ho5
        go_upto_region 11 with (fail)
        generalize w5.setCell ⟨gq, 3, none⟩ (.slice (some ⟨gv, 0, none⟩) m cv) = w6 at *
        have hP := HP6.out
        have hZ := HZ6.out
        clear q0 q1 q2 q3 x3
        obtain ⟨q0, q1, q2, q3, _⟩ := blk4 hP
        obtain ⟨v0, v1⟩ := own_cellD Ho6.out r hrm
        have ho7 := (Ho6.out.stored r (.int .i64 y)).1
        rw [tab_set] at ho7
        have Ho7 := Lib.hid ho7
        have HP7 := Lib.hid ((Below.heap_setCell w6 ⟨gv, r, none⟩ (.int .i64 y) gq (by simp; omega)).trans hP)
        have HZ7 := Lib.hid ((Below.heap_setCell w6 ⟨gv, r, none⟩ (.int .i64 y) (w.heap.size + 1) (by simp; omega)).trans hZ)
        have Hb7 := Lib.hid (Hb6.out.setCell (p := ⟨gv, r, none⟩) (show w.heap.size ≤ gv by omega) (.int .i64 y))
        clear hP hZ Hb6 Ho6 HP6 HZ6 ho7
        go_upto_region 12 with (fail)
        generalize w6.setCell ⟨gv, r, none⟩ (.int .i64 y) = w7 at *
        clear q0 q1 q2 q3 v0 v1
        obtain ⟨f0, f1, f2, f3, _⟩ := blk4 HP7.out
        obtain ⟨z0, z1, z2, z3, zz⟩ := blk4 HZ7.out
        have y0 := zz 0
        have y1 := zz 1
        have y2 := zz 2
        have y3 := zz 3
        clear zz
        have hq := set4 HZ7.out (.string s) (.int .i64 a) (.int .i64 b) (.slice (some ⟨gv, 0, none⟩) m cv)
        obtain ⟨e0, e1, e2, e3, _⟩ := blk4 hq
        have He0 := Lib.hid e0
        have He1 := Lib.hid e1
        have He2 := Lib.hid e2
        have He3 := Lib.hid e3
        have Hbe := Lib.hid (set4_below Hb7.out (Nat.le_succ _) (.string s) (.int .i64 a) (.int .i64 b) (.slice (some ⟨gv, 0, none⟩) m cv))
        have Hoe := Lib.hid (ownsRow_le (set4_own Ho7.out (show w.heap.size + 1 < w4.heap.size by omega) (.string s) (.int .i64 a) (.int .i64 b) (.slice (some ⟨gv, 0, none⟩) m cv)) (show w.heap.size ≤ w4.heap.size by omega))
        clear hq e0 e1 e2 e3
        go_wp2_with fail
        exact bodyPost_ret (v := .tuple #[.agg #[.string s, .int .i64 a, .int .i64 b, .slice (some ⟨gv, 0, none⟩) m cv], .int .i64 0]) (by simp [results, Try.results49, go_sem, He0.out, He1.out, He2.out, He3.out]) rfl (RetPg.yes E.out (by simp only [Int.toNat_natCast]; rw [Hy.out]; exact Hoe.out) Hbe.out)
  · have E := Lib.hid (show mC s.data.toList a b m f row oi = gC s.data.toList a b m f oi by unfold mC; rw [if_neg hc])
    have Hcn := Lib.hid hc
    have hcb : (gC s.data.toList a b m f oi != 0) = true := by simp [hc]
    have hcb2 : (gC s.data.toList a b m f oi == 0) = false := by simp [hc]
    clear hc
    generalize gC s.data.toList a b m f oi = cc at *
    have hq := set4 HZ.out (.string ⟨#[]⟩) (.int .i64 0) (.int .i64 0) (.slice none 0 0)
    obtain ⟨e0, e1, e2, e3, _⟩ := blk4 hq
    have He0 := Lib.hid e0
    have He1 := Lib.hid e1
    have He2 := Lib.hid e2
    have He3 := Lib.hid e3
    have Hbe := Lib.hid (set4_below Hb2.out (Nat.le_succ _) (.string ⟨#[]⟩) (.int .i64 0) (.int .i64 0) (.slice none 0 0))
    clear hq e0 e1 e2 e3
    go_wp2_with fail
    exact bodyPost_ret (v := .tuple #[.agg #[.string ⟨#[]⟩, .int .i64 0, .int .i64 0, .slice none 0 0], .int .i64 cc]) (by simp [results, Try.results49, go_sem, He0.out, He1.out, He2.out, He3.out]) rfl (RetPg.no E.out Hcn.out Hbe.out)
end Go.Proofs.Ytdljlemgaefbpaa
