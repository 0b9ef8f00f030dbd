/- Mended rows, part 5: odd rows. -/
import Derived.Test.YtdljlemgaefbpaaM4
import Derived.Test.YtdljlemgaefbpaaU6
namespace Go.Proofs.Ytdljlemgaefbpaa
open Go.RowKit Go.Joins

theorem od_same {o k : Nat} {f : Nat → Int} (h : (oF o f k (o + k) == due (oF o f k) o (o + k)) = true) : oF o f (k + 1) = oF o f k ∧ oL o f (k + 1) = oL o f k := by
  have e : oHit o (oF o f k) (o + k) = false := by unfold oHit; rw [h]; rfl
  exact ⟨by show (if _ then _ else _) = _; rw [e, Bool.false_and]; rfl, by show (if _ then _ else _) = _; rw [e]; rfl⟩
theorem od_put {o k : Nat} {f : Nat → Int} (h : (oF o f k (o + k) == due (oF o f k) o (o + k)) = false) (hv : isV (due (oF o f k) o (o + k)) = true) : oF o f (k + 1) = put (oF o f k) (o + k) (due (oF o f k) o (o + k)) ∧ oL o f (k + 1) = oL o f k ++ [((o + k : Nat) : Int)] := by
  have e : oHit o (oF o f k) (o + k) = true := by unfold oHit; rw [h]; rfl
  exact ⟨by show (if _ then _ else _) = _; rw [e, hv]; rfl, by show (if _ then _ else _) = _; rw [e]; rfl⟩
theorem od_bad {o k : Nat} {f : Nat → Int} (h : (oF o f k (o + k) == due (oF o f k) o (o + k)) = false) (hv : isV (due (oF o f k) o (o + k)) = false) : oF o f (k + 1) = oF o f k ∧ oL o f (k + 1) = oL o f k ++ [((o + k : Nat) : Int)] := by
  have e : oHit o (oF o f k) (o + k) = true := by unfold oHit; rw [h]; rfl
  exact ⟨by show (if _ then _ else _) = _; rw [e, hv]; rfl, by show (if _ then _ else _) = _; rw [e]; rfl⟩
/-- a list of numbers, or none and a code -/
def RetOdd (w : World) (code : Int) (l : List Int) (e : Ending) (w' : World) : Prop :=
  ∃ v l', e = .returned (.tuple #[v, .int .i64 code]) ∧ (code = 0 → l' = l) ∧ (code ≠ 0 → l' = []) ∧ w'.ownsRow w.heap.size 2 1 v l'.length (nmV l') ∧ Below w.heap.size w w'
theorem RetOdd.no {w w' : World} {code c : Int} {l : List Int} (he : code = c) (h : c ≠ 0) (hb : Below w.heap.size w w') : RetOdd w code l (.returned (.tuple #[.slice none 0 0, .int .i64 c])) w' := by
  subst he
  exact ⟨_, [], rfl, fun e => absurd e h, fun _ => rfl, World.ownsRow_nil _ _ _ _, hb⟩
theorem RetOdd.yes {w w' : World} {code : Int} {l : List Int} {v : Value} (he : code = 0) (h : w'.ownsRow w.heap.size 2 1 v l.length (nmV l)) (hb : Below w.heap.size w w') : RetOdd w code l (.returned (.tuple #[v, .int .i64 0])) w' := by
  subst he
  exact ⟨_, l, rfl, fun _ => rfl, fun e => absurd rfl e, h, hb⟩
/-- the numbers under way and the odd rows so far -/
structure OdAt (w w2 w3 wr : World) (gv cv m : Nat) (F : Nat → Int) (a : Value) (l : List Int) : Prop where
  vals : wr.ownsRow w2.heap.size 2 1 (.slice (some ⟨gv, 0, none⟩) m cv) m (tab m F)
  out : wr.ownsRow w3.heap.size 2 1 a l.length (nmV l)
  lt : gv < w3.heap.size
  bel : Below w.heap.size w wr
  sz : w3.heap.size ≤ wr.heap.size
theorem OdAt.drewN {w w2 w3 wr : World} {gv cv m : Nat} {F : Nat → Int} {a : Value} {l : List Int} (h : OdAt w w2 w3 wr gv cv m F a l) (d : Nat) : OdAt w w2 w3 (wr.drewN d) gv cv m F a l :=
  ⟨h.vals.drewN d, h.out.drewN d, h.lt, below_drewN h.bel d, h.sz⟩
theorem OdAt.app {w w2 w3 wr w' : World} {gv cv m : Nat} {F : Nat → Int} {a v' : Value} {l : List Int} {x : Int} (h : OdAt w w2 w3 wr gv cv m F a l) (hw : w.heap.size ≤ w3.heap.size) (h2 : w'.ownsRow w3.heap.size 2 1 v' (l.length + 1) (nmV l ++ [.int .i64 x])) (hg : wr.grownBy w' a.ownBlock) : OdAt w w2 w3 w' gv cv m F v' (l ++ [x]) :=
  ⟨h.vals.kept hg (.inr (fun e => by have := (h.out.lt gv e.symm).1; have := h.lt; omega)), by rw [List.length_append, nmV_app]; exact h2, h.lt, h.bel.grown hg (Nat.le_trans hw h.sz) (fun k hk => Nat.le_trans hw (h.out.lt k hk).1), Nat.le_trans h.sz hg.size⟩
theorem OdAt.put {w w2 w3 wr : World} {gv cv m : Nat} {F : Nat → Int} {a : Value} {l : List Int} (h : OdAt w w2 w3 wr gv cv m F a l) (hw : w.heap.size ≤ w2.heap.size) (i : Nat) (x : Int) : OdAt w w2 w3 (wr.setCell ⟨gv, i, none⟩ (.int .i64 x)) gv cv m (put F i x) a l := by
  have h1 := (h.vals.stored i (.int .i64 x)).1
  rw [tab_set] at h1
  exact ⟨h1, own_gs h.out (grown_set wr gv i (.int .i64 x)) h.lt, h.lt, h.bel.setCell (p := ⟨gv, i, none⟩) (Nat.le_trans hw (h.vals.lt gv rfl).1) _, by simpa [World.setCell] using h.sz⟩
set_option maxRecDepth 100000 in
set_option maxHeartbeats 3200000 in
theorem OddRowsI_c (B : Nat) (s : ByteArray) (a b : Int) (A : Option Addr) (m c : Nat) (f : Nat → Int) (oi : Int) (w : World) (hs : s.size ≤ 1048576) (h : Rd w B (.slice A m c) m 1 (tab m f)) (hB : B ≤ w.heap.size) (hm : m ≤ 1000) :
    Calls Try.prog 51 #[.agg #[.string s, .int .i64 a, .int .i64 b, .slice A m c], .int .i64 oi] w (RetOdd w (gC s.data.toList a b m f oi) (oL oi.toNat f (m - oi.toNat))) := by
  have hb1 := (Below.refl w.heap.size w).alloc (Nat.le_refl _) (.cells #[.string s, .int .i64 a, .int .i64 b, .slice A m c] 49)
  have Hb1 := Lib.hid hb1
  obtain ⟨f0, f1, f2, f3, _⟩ := blk4 (heap_alloc_new w (.cells #[.string s, .int .i64 a, .int .i64 b, .slice A m c] 49))
  have hlt1 : w.heap.size < (w.alloc (.cells #[.string s, .int .i64 a, .int .i64 b, .slice A m c] 49)).heap.size := by simp
  have H1 := Lib.hid (h.below (hb1.mono hB))
  have HC := Lib.hid (guessCode_c B s a b A m c f oi _ hs H1.out (Nat.le_trans hB hb1.size) hm)
  clear hb1 h
  rcases gC_cases s.data.toList a b m f oi with hc | hc
  · obtain ⟨hpg, ho, hmo⟩ := gC_ok hc
    obtain ⟨hm1, hm60, hv⟩ := pgOk_out hpg
    have E := Lib.hid hc
    rw [hc] at HC
    have HV := Lib.hid hv
    obtain ⟨o, rfl⟩ : ∃ o : Nat, oi = (o : Int) := ⟨oi.toNat, by omega⟩
    rw [Int.toNat_natCast]
    have hho1 : 1 ≤ o := by omega
    have hho8 : o ≤ 8 := by omega
    have hmo2 : 2 * o + 1 ≤ m := by omega
    clear hc hpg hv
    go_enter Try.func51, Try.ntmps51
    go_wp2_with fail
    generalize w.alloc (.cells #[.string s, .int .i64 a, .int .i64 b, .slice A m c] 49) = w1 at *
    go_wp2_with fail
    refine (HC.out).mono ?_; rintro e w2 ⟨rfl, hb2⟩
    have f3' := (hb2.cell (p := ⟨w.heap.size, 3, none⟩) hlt1).trans f3
    have Hb2 := Lib.hid (Hb1.out.trans (hb2.mono Hb1.out.size))
    have H2 := Lib.hid (H1.out.below (hb2.mono (Nat.le_trans hB Hb1.out.size)))
    have HK := Lib.hid (copyNumbers_any B _ m f w2 H2.out (Nat.le_trans hB Hb2.out.size) (by omega) (by omega))
    unfold RetF at HK
    clear hb2 HC f0 f1 f2 f3 hlt1
    go_wp2_with fail
    refine (HK.out).mono ?_; rintro e w3 ⟨v3, rfl, ho3, hb3⟩
    obtain ⟨gv, cv, rfl, _, _⟩ := own_posC ho3 (by omega)
    have hgv := (ho3.lt gv rfl).2
    have hA3 := (Below.refl w3.heap.size w3).alloc (Nat.le_refl _) (.cells #[] 2)
    have Hb3 := Lib.hid (Hb2.out.trans (hb3.mono Hb2.out.size))
    have HO := Lib.hid (show OdAt w w2 w3 (w3.alloc (.cells #[] 2)) gv cv m (oF o f 0) (.slice (some ⟨w3.heap.size, 0, none⟩) 0 0) (oL o f 0) from
      ⟨ho3.alloc _, World.ownsRow_made (base := w3.heap.size) (e := 2) (size := 1) w3 #[] 0 (Nat.le_refl _) (by simp [maxLen]) rfl, hgv, Hb3.out.trans (hA3.mono Hb3.out.size), hA3.size⟩)
    have hw3 := Lib.hid Hb3.out.size
    clear ho3 hb3 hA3 HK
    go_wp2_with fail
    go_loopw [8, 9] (fun x i wr => ∃ k : Nat, o + k ≤ m ∧ i = .int .i64 ((o + k : Nat) : Int) ∧ OdAt w w2 w3 wr gv cv m (oF o f k) x (oL o f k)) (fun _ i _ => m - (intOf i).toNat)
    case atStart => exact ⟨0, by omega, rfl, HO.out⟩
    case round =>
      obtain ⟨k, hk, rfl, hod⟩ := hrel
      obtain ⟨A5, c5, rfl⟩ := own_sl hod.out
      have Hod := Lib.hid hod
      clear hod
      by_cases hlt : o + k < m
      · have Hs1 := Lib.hid (@od_same o k f)
        have Hs2 := Lib.hid (@od_put o k f)
        have Hs3 := Lib.hid (@od_bad o k f)
        have HVk := oF_vals (o := o) HV.out k
        have hln := oL_len o f k
        have hkb : k ≤ 60 := by omega
        have HG := Lib.hid (fun wx hx => guessI_c wx.heap.size (.slice (some ⟨gv, 0, none⟩) m cv) m (oF o f k) o (o + k) wx hx HVk hho1 hho8 hmo2 hm60 hlt)
        have HG := Lib.hid (HG.out wr (Rd.of_own Hod.out.vals))
        have hi2 : ((o + k : Nat) : Int) < (m : Int) := by omega
        have hrk : o + k < o + k + 1 := by omega
        generalize hx : oF o f k (o + k) = x at *
        generalize hy : due (oF o f k) o (o + k) = y at *
        have Hx := Lib.hid hx
        have HX := Lib.hid (show ∀ wx, Calls Try.prog 109 #[.int .i64 y] wx fun e w' => e = .returned (.bool (isV y)) ∧ wx = w' from fun wx => isValue_c y wx)
        obtain ⟨row, hrow⟩ : ∃ row, o + k = row := ⟨_, rfl⟩
        have Hrow := Lib.hid hrow
        rw [hrow] at hi2 Hs2 Hs3 HG hx hlt ⊢
        have hrm : row < m := hlt
        generalize hll : (oL o f k).length = ln at *
        have Hll := Lib.hid hll
        clear HVk hx hy hk hrow hll
        go_wp2_with fail
        refine (HG.out).mono ?_; rintro e wy ⟨rfl, d, hd⟩
        have hod := Hod.out.drewN d
        rw [← hd] at hod
        obtain ⟨y0, y1⟩ := own_cellD hod.vals row hrm
        have hxe : oF o f k row = x := by have := Hx.out; rwa [Hrow.out] at this
        rw [hxe] at y0
        have Hod := Lib.hid hod
        clear hd hod hxe
        by_cases hxy : (x == y) = true
        · have hs := Hs1.out hxy
          have Hn := Lib.hid hs
          have hxy' : x = y := by simpa using hxy
          clear hs
          subst hxy'
          go_wp2_with fail
          go_roundw
          case rel => exact ⟨k + 1, by have := Hrow.out; omega, by have := Hrow.out; congr 1; omega, by rw [Hn.out.1, Hn.out.2]; exact Hod.out⟩
          case measure => simp [intOf]; omega
        · have hxy : (x == y) = false := by simpa using hxy
          have hxn : (x != y) = true := by simp [bne, hxy]
          have hyx : (y != x) = true := by
            have : ¬ x = y := by simpa using hxy
            simp; exact fun e => this e.symm
          have hmx : ln + 1 ≤ maxLen := by simp [maxLen]; omega
          have hby : (ln + 1) * 8 ≤ 140737488355328 := by omega
          cases hiv : isV y with
          | true =>
            have Hn := Lib.hid (Hs2.out hxy hiv)
            rw [hiv] at HX
            clear hiv
            go_wp2_with (at_builtin; refine wpList_apd 24 2 _ 1 8 Try.underlying24 infoD rfl (by omega) _ _ rfl rfl w3.heap.size _ ln _ rfl (by have := Hod.out.out; rw [Hll.out] at this; exact this) #[.int .i64 ((row : Nat) : Int)] 1 1 rfl rfl (by simp [Value.oneCell']) hmx hby Hod.out.sz ?_; intro v7 w7 hown7 hg7)
            obtain ⟨A7, c7, rfl⟩ := own_sl hown7
            have hod7 := Hod.out.app (x := ((row : Nat) : Int)) hw3.out (by rw [Hll.out]; exact hown7) hg7
            obtain ⟨_, z1⟩ := own_cellD hod7.vals row hrm
            obtain ⟨z0, _⟩ := own_cellD hod7.vals row hrm
            have Hod8 := Lib.hid (hod7.put Hb2.out.size row y)
            clear hown7 hg7 hod7 y0 y1
            go_wp2_with fail
            refine (HX.out _).mono ?_; rintro e w1 ⟨rfl, rfl⟩
            go_wp2_with fail
            go_roundw
            case rel => exact ⟨k + 1, by have := Hrow.out; omega, by have := Hrow.out; congr 1; omega, by rw [Hn.out.1, Hn.out.2]; exact Hod8.out⟩
            case measure => simp [intOf]; omega
          | false =>
            have Hn := Lib.hid (Hs3.out hxy hiv)
            rw [hiv] at HX
            clear hiv
            go_wp2_with (at_builtin; refine wpList_apd 24 2 _ 1 8 Try.underlying24 infoD rfl (by omega) _ _ rfl rfl w3.heap.size _ ln _ rfl (by have := Hod.out.out; rw [Hll.out] at this; exact this) #[.int .i64 ((row : Nat) : Int)] 1 1 rfl rfl (by simp [Value.oneCell']) hmx hby Hod.out.sz ?_; intro v7 w7 hown7 hg7)
            obtain ⟨A7, c7, rfl⟩ := own_sl hown7
            have Hod8 := Lib.hid (Hod.out.app (x := ((row : Nat) : Int)) hw3.out (by rw [Hll.out]; exact hown7) hg7)
            clear hown7 hg7 y0 y1
            go_wp2_with fail
            refine (HX.out _).mono ?_; rintro e w1 ⟨rfl, rfl⟩
            go_wp2_with fail
            go_roundw
            case rel => exact ⟨k + 1, by have := Hrow.out; omega, by have := Hrow.out; congr 1; omega, by rw [Hn.out.1, Hn.out.2]; exact Hod8.out⟩
            case measure => simp [intOf]; omega
      · have hge : (m : Int) ≤ ((o + k : Nat) : Int) := by omega
        obtain rfl : k = m - o := by omega
        have Hfo := Lib.hid (ownsRow_le Hod.out.out hw3.out)
        have Hfb := Lib.hid Hod.out.bel
        go_wp2_with fail
        go_ret2
        exact RetOdd.yes E.out Hfo.out Hfb.out
  · have hcn : gC s.data.toList a b m f oi ≠ 0 := by omega
    have Hcn := Lib.hid hcn
    have hcb : (gC s.data.toList a b m f oi != 0) = true := by simp [hcn]
    clear hc hcn
    generalize gC s.data.toList a b m f oi = cc at *
    go_enter Try.func51, Try.ntmps51
    go_wp2_with fail
    generalize w.alloc (.cells #[.string s, .int .i64 a, .int .i64 b, .slice A m c] 49) = w1 at *
    go_wp2_with fail
    refine (HC.out).mono ?_; rintro e w2 ⟨rfl, hb2⟩
    have Hb2 := Lib.hid (Hb1.out.trans (hb2.mono Hb1.out.size))
    clear hb2
    go_wp2_with fail
    go_ret2
    exact RetOdd.no rfl Hcn.out Hb2.out
set_option maxRecDepth 100000 in
set_option maxHeartbeats 3200000 in
theorem OddRowsS_c (B : Nat) (s : ByteArray) (a b : Int) (A : Option Addr) (m c : Nat) (f : Nat → Int) (oi : Int) (w : World) (hs : s.size ≤ 1048576) (h : Rd w B (.slice A m c) m 1 (tab m f)) (hB : B ≤ w.heap.size) (hm : m ≤ 1000) :
    Calls Try.prog 52 #[.agg #[.string s, .int .i64 a, .int .i64 b, .slice A m c], .int .i64 oi] w (RetOdd w (gC s.data.toList a b m f oi) (oL oi.toNat f (m - oi.toNat))) := by
  have hb1 := (Below.refl w.heap.size w).alloc (Nat.le_refl _) (.cells #[.string s, .int .i64 a, .int .i64 b, .slice A m c] 49)
  have Hb1 := Lib.hid hb1
  obtain ⟨f0, f1, f2, f3, _⟩ := blk4 (heap_alloc_new w (.cells #[.string s, .int .i64 a, .int .i64 b, .slice A m c] 49))
  have hlt1 : w.heap.size < (w.alloc (.cells #[.string s, .int .i64 a, .int .i64 b, .slice A m c] 49)).heap.size := by simp
  have H1 := Lib.hid (h.below (hb1.mono hB))
  have HC := Lib.hid (l18Code_c w.heap.size B s a b A m c f oi _ hs f0 f1 f2 f3 H1.out hm)
  clear hb1 h
  rcases gC_cases s.data.toList a b m f oi with hc | hc
  · obtain ⟨hpg, ho, hmo⟩ := gC_ok hc
    obtain ⟨hm1, hm60, hv⟩ := pgOk_out hpg
    have E := Lib.hid hc
    rw [hc] at HC
    have HV := Lib.hid hv
    obtain ⟨o, rfl⟩ : ∃ o : Nat, oi = (o : Int) := ⟨oi.toNat, by omega⟩
    rw [Int.toNat_natCast]
    have hho1 : 1 ≤ o := by omega
    have hho8 : o ≤ 8 := by omega
    have hmo2 : 2 * o + 1 ≤ m := by omega
    clear hc hpg hv
    go_enter Try.func52, Try.ntmps52
    go_wp2_with fail
    generalize w.alloc (.cells #[.string s, .int .i64 a, .int .i64 b, .slice A m c] 49) = w1 at *
    go_wp2_with fail
    refine (HC.out).mono ?_; rintro e w2 ⟨rfl, d2, hd2⟩
    have hb2 : Below w1.heap.size w1 w2 := by rw [hd2]; exact below_drewN (Below.refl _ _) d2
    have f3' := (hb2.cell (p := ⟨w.heap.size, 3, none⟩) hlt1).trans f3
    have Hb2 := Lib.hid (Hb1.out.trans (hb2.mono Hb1.out.size))
    have H2 := Lib.hid (H1.out.below (hb2.mono (Nat.le_trans hB Hb1.out.size)))
    have HK := Lib.hid (l00Own_c B _ m f w2 H2.out (Nat.le_trans hB Hb2.out.size) (by omega) (by omega))
    clear hd2
    unfold RetF at HK
    clear hb2 HC f0 f1 f2 f3 hlt1
    go_wp2_with fail
    refine (HK.out).mono ?_; rintro e w3 ⟨v3, rfl, ho3, hb3⟩
    obtain ⟨gv, cv, rfl, _, _⟩ := own_posC ho3 (by omega)
    have hgv := (ho3.lt gv rfl).2
    have hA3 := (Below.refl w3.heap.size w3).alloc (Nat.le_refl _) (.cells #[] 2)
    have Hb3 := Lib.hid (Hb2.out.trans (hb3.mono Hb2.out.size))
    have HO := Lib.hid (show OdAt w w2 w3 (w3.alloc (.cells #[] 2)) gv cv m (oF o f 0) (.slice (some ⟨w3.heap.size, 0, none⟩) 0 0) (oL o f 0) from
      ⟨ho3.alloc _, World.ownsRow_made (base := w3.heap.size) (e := 2) (size := 1) w3 #[] 0 (Nat.le_refl _) (by simp [maxLen]) rfl, hgv, Hb3.out.trans (hA3.mono Hb3.out.size), hA3.size⟩)
    have hw3 := Lib.hid Hb3.out.size
    clear ho3 hb3 hA3 HK
    go_wp2_with fail
    go_loopw [8, 9] (fun x i wr => ∃ k : Nat, o + k ≤ m ∧ i = .int .i64 ((o + k : Nat) : Int) ∧ OdAt w w2 w3 wr gv cv m (oF o f k) x (oL o f k)) (fun _ i _ => m - (intOf i).toNat)
    case atStart => exact ⟨0, by omega, rfl, HO.out⟩
    case round =>
      obtain ⟨k, hk, rfl, hod⟩ := hrel
      obtain ⟨A5, c5, rfl⟩ := own_sl hod.out
      have Hod := Lib.hid hod
      clear hod
      by_cases hlt : o + k < m
      · have Hs1 := Lib.hid (@od_same o k f)
        have Hs2 := Lib.hid (@od_put o k f)
        have Hs3 := Lib.hid (@od_bad o k f)
        have HVk := oF_vals (o := o) HV.out k
        have hln := oL_len o f k
        have hkb : k ≤ 60 := by omega
        have HG := Lib.hid (fun wx hx => guessS_c wx.heap.size (.slice (some ⟨gv, 0, none⟩) m cv) m (oF o f k) o (o + k) wx hx HVk hho1 hho8 hmo2 hm60 hlt)
        have HG := Lib.hid (HG.out wr (Rd.of_own Hod.out.vals))
        have hi2 : ((o + k : Nat) : Int) < (m : Int) := by omega
        have hrk : o + k < o + k + 1 := by omega
        generalize hx : oF o f k (o + k) = x at *
        generalize hy : due (oF o f k) o (o + k) = y at *
        have Hx := Lib.hid hx
        have HX := Lib.hid (show ∀ wx, Calls Try.prog 112 #[.int .i64 y] wx fun e w' => e = .returned (.bool (isV y)) ∧ wx = w' from fun wx => l17Most_c y wx)
        obtain ⟨row, hrow⟩ : ∃ row, o + k = row := ⟨_, rfl⟩
        have Hrow := Lib.hid hrow
        rw [hrow] at hi2 Hs2 Hs3 HG hx hlt ⊢
        have hrm : row < m := hlt
        generalize hll : (oL o f k).length = ln at *
        have Hll := Lib.hid hll
        clear HVk hx hy hk hrow hll
        go_wp2_with fail
        refine (HG.out).mono ?_; rintro e wy ⟨rfl, d, hd⟩
        have hod := Hod.out.drewN d
        rw [← hd] at hod
        obtain ⟨y0, y1⟩ := own_cellD hod.vals row hrm
        have hxe : oF o f k row = x := by have := Hx.out; rwa [Hrow.out] at this
        rw [hxe] at y0
        have Hod := Lib.hid hod
        clear hd hod hxe
        by_cases hxy : (x == y) = true
        · have hs := Hs1.out hxy
          have Hn := Lib.hid hs
          have hxy' : x = y := by simpa using hxy
          clear hs
          subst hxy'
          go_wp2_with fail
          go_roundw
          case rel => exact ⟨k + 1, by have := Hrow.out; omega, by have := Hrow.out; congr 1; omega, by rw [Hn.out.1, Hn.out.2]; exact Hod.out⟩
          case measure => simp [intOf]; omega
        · have hxy : (x == y) = false := by simpa using hxy
          have hxn : (x != y) = true := by simp [bne, hxy]
          have hyx : (y != x) = true := by
            have : ¬ x = y := by simpa using hxy
            simp; exact fun e => this e.symm
          have hmx : ln + 1 ≤ maxLen := by simp [maxLen]; omega
          have hby : (ln + 1) * 8 ≤ 140737488355328 := by omega
          cases hiv : isV y with
          | true =>
            have Hn := Lib.hid (Hs2.out hxy hiv)
            rw [hiv] at HX
            clear hiv
            go_wp2_with (at_builtin; refine wpList_apd 24 2 _ 1 8 Try.underlying24 infoD rfl (by omega) _ _ rfl rfl w3.heap.size _ ln _ rfl (by have := Hod.out.out; rw [Hll.out] at this; exact this) #[.int .i64 ((row : Nat) : Int)] 1 1 rfl rfl (by simp [Value.oneCell']) hmx hby Hod.out.sz ?_; intro v7 w7 hown7 hg7)
            obtain ⟨A7, c7, rfl⟩ := own_sl hown7
            have hod7 := Hod.out.app (x := ((row : Nat) : Int)) hw3.out (by rw [Hll.out]; exact hown7) hg7
            obtain ⟨_, z1⟩ := own_cellD hod7.vals row hrm
            obtain ⟨z0, _⟩ := own_cellD hod7.vals row hrm
            have Hod8 := Lib.hid (hod7.put Hb2.out.size row y)
            clear hown7 hg7 hod7 y0 y1
            go_wp2_with fail
            refine (HX.out _).mono ?_; rintro e w1 ⟨rfl, rfl⟩
            go_wp2_with fail
            go_roundw
            case rel => exact ⟨k + 1, by have := Hrow.out; omega, by have := Hrow.out; congr 1; omega, by rw [Hn.out.1, Hn.out.2]; exact Hod8.out⟩
            case measure => simp [intOf]; omega
          | false =>
            have Hn := Lib.hid (Hs3.out hxy hiv)
            rw [hiv] at HX
            clear hiv
            go_wp2_with (at_builtin; refine wpList_apd 24 2 _ 1 8 Try.underlying24 infoD rfl (by omega) _ _ rfl rfl w3.heap.size _ ln _ rfl (by have := Hod.out.out; rw [Hll.out] at this; exact this) #[.int .i64 ((row : Nat) : Int)] 1 1 rfl rfl (by simp [Value.oneCell']) hmx hby Hod.out.sz ?_; intro v7 w7 hown7 hg7)
            obtain ⟨A7, c7, rfl⟩ := own_sl hown7
            have Hod8 := Lib.hid (Hod.out.app (x := ((row : Nat) : Int)) hw3.out (by rw [Hll.out]; exact hown7) hg7)
            clear hown7 hg7 y0 y1
            go_wp2_with fail
            refine (HX.out _).mono ?_; rintro e w1 ⟨rfl, rfl⟩
            go_wp2_with fail
            go_roundw
            case rel => exact ⟨k + 1, by have := Hrow.out; omega, by have := Hrow.out; congr 1; omega, by rw [Hn.out.1, Hn.out.2]; exact Hod8.out⟩
            case measure => simp [intOf]; omega
      · have hge : (m : Int) ≤ ((o + k : Nat) : Int) := by omega
        obtain rfl : k = m - o := by omega
        have Hfo := Lib.hid (ownsRow_le Hod.out.out hw3.out)
        have Hfb := Lib.hid Hod.out.bel
        go_wp2_with fail
        go_ret2
        exact RetOdd.yes E.out Hfo.out Hfb.out
  · have hcn : gC s.data.toList a b m f oi ≠ 0 := by omega
    have Hcn := Lib.hid hcn
    have hcb : (gC s.data.toList a b m f oi != 0) = true := by simp [hcn]
    clear hc hcn
    generalize gC s.data.toList a b m f oi = cc at *
    go_enter Try.func52, Try.ntmps52
    go_wp2_with fail
    generalize w.alloc (.cells #[.string s, .int .i64 a, .int .i64 b, .slice A m c] 49) = w1 at *
    go_wp2_with fail
    refine (HC.out).mono ?_; rintro e w2 ⟨rfl, d2, hd2⟩
    have Hb2 := Lib.hid (show Below w.heap.size w w2 by rw [hd2]; exact below_drewN Hb1.out d2)
    clear hd2
    go_wp2_with fail
    go_ret2
    exact RetOdd.no rfl Hcn.out Hb2.out
end Go.Proofs.Ytdljlemgaefbpaa
