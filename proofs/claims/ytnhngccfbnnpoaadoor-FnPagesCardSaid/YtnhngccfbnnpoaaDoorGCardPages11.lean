/- Merged texts: Pa17. -/
import Derived.Test.YtnhngccfbnnpoaaDoorGCardPages9
import Derived.Test.YtnhngccfbnnpoaaDoorGCardPages10
import Derived.Test.YtnhngccfbnnpoaaDoorGCardPages1
/- The law FnPages: the walk (gen_pa17.py). -/
namespace Go.Proofs.YtnhngccfbnnpoaaDoor
open Go.RowKit Go.Joins

theorem f6texts_sameA (B1 B2 : Nat) (v1 v2 : Value) (xs : List ByteArray) (w : World) (h1 : Rd w B1 v1 xs.length 1 (xs.map Value.string)) (h2 : Rd w B2 v2 xs.length 1 (xs.map Value.string)) (hx : xs.length ≤ 1048576) :
    Calls Tryd.prog 24 #[v1, v2] w fun e w' => e = .returned (.bool true) ∧ ∃ n, w' = w.drewN n := by
  have H1 := Lib.hid h1
  have H2 := Lib.hid h2
  obtain ⟨_, A1, c1, rfl, hc1⟩ := h1
  obtain ⟨_, A2, c2, rfl, hc2⟩ := h2
  have HC1 := Lib.hid hc1
  have HC2 := Lib.hid hc2
  clear hc1 hc2
  go_enter Tryd.func24, Tryd.ntmps24
  go_wp2_with fail
  go_loopw [5] (fun i wr => ∃ k : Nat, k ≤ xs.length ∧ i = .int .i64 (k : Int) ∧ ∃ n, wr = w.drewN n) (fun i _ => xs.length - (intOf i).toNat)
  case atStart => exact ⟨0, Nat.zero_le _, rfl, 0, rfl⟩
  case round =>
    obtain ⟨k, hk, rfl, n0, rfl⟩ := hrel
    by_cases hlt : k < xs.length
    · have hlt' : (k : Int) < (xs.length : Int) := by omega
      obtain ⟨b1, o1, hA1, _, p⟩ := HC1.out (by omega)
      obtain ⟨b2, o2, hA2, _, q⟩ := HC2.out (by omega)
      subst hA1 hA2
      have p0 := p k (.string xs[k]) (by rw [List.getElem?_map, List.getElem?_eq_getElem hlt]; rfl)
      have q0 := q k (.string xs[k]) (by rw [List.getElem?_map, List.getElem?_eq_getElem hlt]; rfl)
      have hkz : (0 : Int) ≤ (k : Int) := by omega
      generalize xs[k] = x at *
      clear p q
      go_wp2_with fail
      go_quiet (fail)
      go_wp2_with fail
      go_roundw
      case rel => exact ⟨k + 1, by omega, by go_num, _, rfl⟩
      case measure => simp [intOf]; omega
    · have hlt' : (xs.length : Int) ≤ (k : Int) := by omega
      go_wp2_with fail
      go_ret
      exact ⟨rfl, n0, rfl⟩
/-- a page in a block of the call's own, its row read -/
structure PgI (w : World) (q : Nat) (s : ByteArray) (a b : Int) (A : Option Addr) (n c : Nat) (f : Nat → Int) : Prop where
  blk : w.heap[q]? = some (.cells #[.string s, .int .i64 a, .int .i64 b, .slice A n c] 26 (0, 0))
  rd : Rd w w.heap.size (.slice A n c) n 1 (tab n f)
theorem PgI.below {w w' : World} {q n c : Nat} {s : ByteArray} {a b : Int} {A : Option Addr} {f : Nat → Int} (h : PgI w q s a b A n c f) (hb : Below w.heap.size w w') : PgI w' q s a b A n c f :=
  ⟨(hb.block _ (Array.getElem?_eq_some_iff.1 h.blk).1).trans h.blk, rdN h.rd hb⟩
theorem PgI.cells {w : World} {q n c : Nat} {s : ByteArray} {a b : Int} {A : Option Addr} {f : Nat → Int} (h : PgI w q s a b A n c f) : w.cell? ⟨q, 0, none⟩ = some (.string s) ∧ w.cell? ⟨q, 1, none⟩ = some (.int .i64 a) ∧ w.cell? ⟨q, 2, none⟩ = some (.int .i64 b) ∧ w.cell? ⟨q, 3, none⟩ = some (.slice A n c) := by
  obtain ⟨h0, h1, h2, h3, _⟩ := blk4 h.blk
  exact ⟨h0, h1, h2, h3⟩
theorem PgI.new {w : World} {n c : Nat} {s : ByteArray} {a b : Int} {A : Option Addr} {f : Nat → Int} (h : Rd w w.heap.size (.slice A n c) n 1 (tab n f)) : PgI (w.alloc (.cells #[.string s, .int .i64 a, .int .i64 b, .slice A n c] 26)) w.heap.size s a b A n c f :=
  ⟨heap_alloc_new w _, rdN h ((Below.refl _ _).alloc (Nat.le_refl _) _)⟩
theorem PgI.new2 {w : World} {n c : Nat} {s : ByteArray} {a b : Int} {A : Option Addr} {f : Nat → Int} (h : Rd w w.heap.size (.slice A n c) n 1 (tab n f)) (o : Obj) : PgI ((w.alloc o).alloc (.cells #[.string s, .int .i64 a, .int .i64 b, .slice A n c] 26)) (w.heap.size + 1) s a b A n c f :=
  ⟨heap_second4 w o _ _, rdN (rdN h ((Below.refl _ _).alloc (Nat.le_refl _) _)) ((Below.refl _ _).alloc (Nat.le_refl _) _)⟩
theorem undef_noA {b : Bool} (h : some undef = some (Value.bool b)) : False := by
  injection h with h
  cases h
theorem rdP_n (L : List ByteArray) : (rdP L).hd.n ≤ 60 := by
  by_cases h : (rdP L).ft = 0
  · exact (pgF (rdP_good h).1).n60
  · rw [rdP_zero h]; exact Nat.zero_le _
theorem zHd_n (c : Int) (h : Hd) : (zHd c h).n ≤ h.n := by
  unfold zHd
  split
  · exact Nat.le_refl _
  · exact Nat.zero_le _
/-- what the law asks of lines -/
theorem lines_law (L : List ByteArray) : (0 ≤ (rdP L).ft ∧ (rdP L).ft ≤ 5) ∧ (((rdP L).ft = 0 ∧ (rdP L).at' = -1 ∧ rdC L = 0 ∧ ppC (rdP L).hd.nm (rdP L).hd.a (rdP L).hd.b (rdP L).hd.n (rwV L (rdP L).hd) = 0 ∧ ppL (rdP L).hd.nm (rdP L).hd.a (rdP L).hd.b (rdP L).hd.n (rwV L (rdP L).hd) = L ∧ (rdP L).hd.nm.size ≤ 12) ∨ ((rdP L).ft ≠ 0 ∧ (rdP L).at' ≠ -1 ∧ rdC L = 8)) := by
  obtain ⟨h0, h5, hat⟩ := rdP_fault L
  refine ⟨⟨h0, h5⟩, ?_⟩
  by_cases h : (rdP L).ft = 0
  · obtain ⟨g1, g2⟩ := rdP_good h
    exact .inl ⟨h, hat.2 h, if_pos h, by unfold ppC; rw [if_pos g1], by unfold ppL; rw [if_pos g1]; exact g2, isNm_size (pgF g1).nm⟩
  · exact .inr ⟨h, fun e => h (hat.1 e), if_neg h⟩
/-- what the law asks of a page -/
theorem page_law (s : ByteArray) (a b : Int) (n : Nat) (f : Nat → Int) : (∀ z ∈ ppL s a b n f, z.size ≤ 100) ∧ ((ppC s a b n f = 1) ∨ (ppC s a b n f = 0 ∧ n ≤ 60 ∧ (-1000000 ≤ a ∧ a ≤ 1000000) ∧ (1 ≤ b ∧ b ≤ 1000) ∧ (rdP (ppL s a b n f)).hd = ⟨s, a, b, n⟩ ∧ rdC (ppL s a b n f) = 0 ∧ (∀ i, i < n → rwV (ppL s a b n f) ⟨s, a, b, n⟩ i = f i) ∧ ∀ i, i < n → vaC s a b n f (a + (i : Int) * b) = 0 ∧ vaV s a b n f (a + (i : Int) * b) = f i)) := by
  cases h : pgOk s.data.toList a b n f with
  | false => exact ⟨fun z hz => (by unfold ppL at hz; rw [h] at hz; cases hz), .inl (by unfold ppC; rw [h]; rfl)⟩
  | true =>
    have e : ppL s a b n f = pageL s a b n f := by unfold ppL; rw [if_pos h]
    obtain ⟨h1, h2⟩ := rdP_back h
    obtain ⟨n1, n60, a0, b0, vs, nm, hd⟩ := pgF h
    rw [e]
    refine ⟨page_sizes h, .inr ⟨by unfold ppC; rw [if_pos h], n60, a0, b0, by rw [h1], by unfold rdC; rw [h1]; rfl, h2, fun i hi => ?_⟩⟩
    obtain ⟨bb, rfl⟩ : ∃ bb : Nat, b = (bb : Int) := ⟨b.toNat, by omega⟩
    have hin : inB (a + (i : Int) * (bb : Int)) a (lastA a (bb : Int) n) = true := by
      have e1 := arg_bd hi n60 b0
      have e2 : (i : Int) * (bb : Int) ≤ ((n : Int) - 1) * (bb : Int) := Int.mul_le_mul_of_nonneg_right (by omega) (by omega)
      refine inB_iff.2 ⟨by omega, ?_⟩
      unfold lastA
      omega
    have hD : (a + (i : Int) * (bb : Int)) - a = ((i * bb : Nat) : Int) := by rw [Int.natCast_mul]; omega
    obtain ⟨k1, k2⟩ := va_in h hin hD
    have e3 : i * bb % bb = 0 := Nat.mul_mod_left i bb
    have e4 : i * bb / bb = i := Nat.mul_div_cancel _ (by omega)
    rw [e3, if_pos rfl] at k1 k2
    rw [e4] at k2
    exact ⟨k1, k2⟩
set_option maxRecDepth 100000 in
set_option maxHeartbeats 25600000 in
theorem walkFnPages {W : World} (v : Value) (bs : List UInt8) (h : Rd W W.heap.size v bs.length 1 (bs.map byV)) (_hl : bs.length ≤ maxLen) (ht : Tab W) :
    Calls Tryd.prog 3 #[v] W fun e w' => e = .returned (.bool true) ∧ Below W.heap.size W w' := by
  have HB := Lib.hid (Below.refl W.heap.size W)
  have HC := Lib.hid h
  have HTb := Lib.hid (fun w2 (hb : Below W.heap.size W w2) => ht.below hb)
  have HG := Lib.hid (f6big_c _ _ v _ W h)
  obtain ⟨_, A0, c0, rfl, _⟩ := h
  clear ht
  by_cases hbig : 4096 < bs.length
  · rw [decide_eq_true hbig] at HG
    clear hbig
    go_enter Tryd.func3, Tryd.ntmps3
    go_wp2_with fail
    refine HG.out.mono ?_; rintro e w1 ⟨rfl, rfl⟩
    go_wp2_with fail
    go_ret
    exact ⟨rfl, HB.out⟩
  rw [decide_eq_false hbig] at HG
  clear hbig
  go_enter Tryd.func3, Tryd.ntmps3
  go_wp2_with fail
  refine HG.out.mono ?_; rintro e w1 ⟨rfl, rfl⟩
  clear HG
  go_wp2_with fail
  refine (DrawPrintPage_c _ _ bs _ (HC.out.below HB.out) HB.out.size).mono ?_; rintro e w3 ⟨s3, a3, b3, v3, n3, f3, rfl, hss3, hn3, ho, hb⟩
  have HB' := Lib.hid (HB.out.trans (hb.mono HB.out.size)); clear HB; have HB := HB'; clear HB'
  obtain ⟨A3, c3, rfl⟩ := own_slP ho
  have R3 := Lib.hid (Rd.of_own ho)
  clear hb ho
  have hal := (Below.refl w3.heap.size w3).alloc (Nat.le_refl _) (.cells #[.string s3, .int .i64 a3, .int .i64 b3, .slice A3 n3 c3] 26)
  have P30 := Lib.hid (PgI.new (s := s3) (a := a3) (b := b3) R3.out)
  clear R3
  have HB' := Lib.hid (HB.out.trans (hal.mono HB.out.size)); clear HB; have HB := HB'; clear HB'
  have P3 := P30; clear P30 hal
  go_upto_region 4 with (fail)
  generalize w3.alloc (.cells #[.string s3, .int .i64 a3, .int .i64 b3, .slice A3 n3 c3] 26) = w4 at *
  generalize w3.heap.size = g3 at *
  have HLW := Lib.hid (page_law s3 a3 b3 n3 f3)
  have hl4 := ppL_len s3 a3 b3 n3 f3
  have HPI := Lib.hid (fun wx hx ht => PrintPageI_c wx.heap.size s3 a3 b3 A3 n3 c3 f3 wx (by omega) hx (Nat.le_refl _) (by omega) ht)
  have HPS := Lib.hid (fun wx hx => PrintPageS_c wx.heap.size s3 a3 b3 A3 n3 c3 f3 wx (by omega) hx (Nat.le_refl _) (by omega))
  unfold RetPp at HPI HPS
  generalize ppL s3 a3 b3 n3 f3 = L4 at *
  generalize ppC s3 a3 b3 n3 f3 = C5 at *
  obtain ⟨p30, p31, p32, p33⟩ := P3.out.cells
  go_wp2_with fail
  refine (HPI.out _ P3.out.rd (HTb.out _ HB.out)).mono ?_; rintro e w5 ⟨v4, rfl, ho, hb⟩
  have P3' := Lib.hid (P3.out.below hb); clear P3; have P3 := P3'; clear P3'
  have HB' := Lib.hid (HB.out.trans (hb.mono HB.out.size)); clear HB; have HB := HB'; clear HB'
  obtain ⟨A4, c4, rfl⟩ := own_slP ho
  have R4 := Lib.hid (Rd.of_own ho)
  clear p30 p31 p32 p33
  clear hb ho HPI
  obtain ⟨p30, p31, p32, p33⟩ := P3.out.cells
  go_wp2_with fail
  refine (HPS.out _ P3.out.rd).mono ?_; rintro e w6 ⟨v6, rfl, ho, hb⟩
  have P3' := Lib.hid (P3.out.below hb); clear P3; have P3 := P3'; clear P3'
  have R4' := Lib.hid (rdN R4.out hb); clear R4; have R4 := R4'; clear R4'
  have HB' := Lib.hid (HB.out.trans (hb.mono HB.out.size)); clear HB; have HB := HB'; clear HB'
  obtain ⟨A6, c6, rfl⟩ := own_slP ho
  have R6 := Lib.hid (Rd.of_own ho)
  clear p30 p31 p32 p33
  clear hb ho HPS
  as_aux_lemma =>
    go_wp2_with fail
    refine (DrawPageFault_any _ _ bs _ (HC.out.below HB.out) HB.out.size).mono ?_; rintro e w7 ⟨v8, L8, rfl, ho, hl8, hz8, hb⟩
    have P3' := Lib.hid (P3.out.below hb); clear P3; have P3 := P3'; clear P3'
    have R4' := Lib.hid (rdN R4.out hb); clear R4; have R4 := R4'; clear R4'
    have R6' := Lib.hid (rdN R6.out hb); clear R6; have R6 := R6'; clear R6'
    have HB' := Lib.hid (HB.out.trans (hb.mono HB.out.size)); clear HB; have HB := HB'; clear HB'
    obtain ⟨A8, c8, rfl⟩ := own_slP ho
    have R8 := Lib.hid (Rd.of_own ho)
    have Hz8 := Lib.hid (show ∀ z ∈ L8, z.size ≤ 1000000 from fun z hz => Nat.le_trans (hz8 z hz) (by omega))
    clear hb ho hz8
    have HLL := Lib.hid (lines_law L8)
    have hn13 := rdP_n L8
    have HFI := Lib.hid (fun wx hx ht => PageFaultI_any wx.heap.size (.slice A8 L8.length c8) L8 wx hx (Nat.le_refl _) Hz8.out (by omega) ht)
    have HFS := Lib.hid (fun wx hx => PageFaultS_any wx.heap.size (.slice A8 L8.length c8) L8 wx hx (Nat.le_refl _) Hz8.out (by omega))
    have HRI := Lib.hid (fun wx hx ht => ReadPageI_any wx.heap.size (.slice A8 L8.length c8) L8 wx hx (Nat.le_refl _) Hz8.out (by omega) ht)
    have HRS := Lib.hid (fun wx hx => ReadPageS_any wx.heap.size (.slice A8 L8.length c8) L8 wx hx (Nat.le_refl _) Hz8.out (by omega))
    unfold RetPf at HFI HFS
    unfold RetRd at HRI HRS
    generalize rwV L8 (rdP L8).hd = f13 at *
    generalize (rdP L8).ft = T10 at *
    generalize (rdP L8).at' = T9 at *
    generalize rdC L8 = C14 at *
    generalize (rdP L8).hd = h13 at *
    obtain ⟨s13, a13, b13, n13⟩ := h13
    dsimp only at HRI HRS HLL hn13
    go_wp2_with fail
    refine (HFI.out _ R8.out (HTb.out _ HB.out)).mono ?_; rintro e w8 ⟨rfl, hb⟩
    have P3' := Lib.hid (P3.out.below hb); clear P3; have P3 := P3'; clear P3'
    have R4' := Lib.hid (rdN R4.out hb); clear R4; have R4 := R4'; clear R4'
    have R6' := Lib.hid (rdN R6.out hb); clear R6; have R6 := R6'; clear R6'
    have R8' := Lib.hid (rdN R8.out hb); clear R8; have R8 := R8'; clear R8'
    have HB' := Lib.hid (HB.out.trans (hb.mono HB.out.size)); clear HB; have HB := HB'; clear HB'
    clear hb HFI
    go_wp2_with fail
    refine (HFS.out _ R8.out).mono ?_; rintro e w9 ⟨rfl, hb⟩
    have P3' := Lib.hid (P3.out.below hb); clear P3; have P3 := P3'; clear P3'
    have R4' := Lib.hid (rdN R4.out hb); clear R4; have R4 := R4'; clear R4'
    have R6' := Lib.hid (rdN R6.out hb); clear R6; have R6 := R6'; clear R6'
    have R8' := Lib.hid (rdN R8.out hb); clear R8; have R8 := R8'; clear R8'
    have HB' := Lib.hid (HB.out.trans (hb.mono HB.out.size)); clear HB; have HB := HB'; clear HB'
    clear hb HFS
    go_wp2_with fail
    refine (HRI.out _ R8.out (HTb.out _ HB.out)).mono ?_; rintro e w10 ⟨v13, rfl, ho, hb⟩
    have P3' := Lib.hid (P3.out.below hb); clear P3; have P3 := P3'; clear P3'
    have R4' := Lib.hid (rdN R4.out hb); clear R4; have R4 := R4'; clear R4'
    have R6' := Lib.hid (rdN R6.out hb); clear R6; have R6 := R6'; clear R6'
    have R8' := Lib.hid (rdN R8.out hb); clear R8; have R8 := R8'; clear R8'
    have HB' := Lib.hid (HB.out.trans (hb.mono HB.out.size)); clear HB; have HB := HB'; clear HB'
    obtain ⟨A13, c13, rfl⟩ := own_slP ho
    have R13 := Lib.hid (Rd.of_own ho)
    clear hb ho HRI
    have hal := (Below.refl w10.heap.size w10).alloc (Nat.le_refl _) (.cells #[.string s13, .int .i64 a13, .int .i64 b13, .slice A13 n13 c13] 26)
    have P130 := Lib.hid (PgI.new (s := s13) (a := a13) (b := b13) R13.out)
    clear R13
    have P3' := Lib.hid (P3.out.below hal); clear P3; have P3 := P3'; clear P3'
    have R4' := Lib.hid (rdN R4.out hal); clear R4; have R4 := R4'; clear R4'
    have R6' := Lib.hid (rdN R6.out hal); clear R6; have R6 := R6'; clear R6'
    have R8' := Lib.hid (rdN R8.out hal); clear R8; have R8 := R8'; clear R8'
    have HB' := Lib.hid (HB.out.trans (hal.mono HB.out.size)); clear HB; have HB := HB'; clear HB'
    have P13 := P130; clear P130 hal
    go_upto_region 10 with (fail)
    generalize w10.alloc (.cells #[.string s13, .int .i64 a13, .int .i64 b13, .slice A13 n13 c13] 26) = w11 at *
    generalize w10.heap.size = g13 at *
    go_wp2_with fail
    refine (HRS.out _ R8.out).mono ?_; rintro e w12 ⟨v15, rfl, ho, hb⟩
    have P3' := Lib.hid (P3.out.below hb); clear P3; have P3 := P3'; clear P3'
    have R4' := Lib.hid (rdN R4.out hb); clear R4; have R4 := R4'; clear R4'
    have R6' := Lib.hid (rdN R6.out hb); clear R6; have R6 := R6'; clear R6'
    have R8' := Lib.hid (rdN R8.out hb); clear R8; have R8 := R8'; clear R8'
    have P13' := Lib.hid (P13.out.below hb); clear P13; have P13 := P13'; clear P13'
    have HB' := Lib.hid (HB.out.trans (hb.mono HB.out.size)); clear HB; have HB := HB'; clear HB'
    obtain ⟨A15, c15, rfl⟩ := own_slP ho
    have R15 := Lib.hid (Rd.of_own ho)
    clear hb ho HRS
    have hal := (Below.refl w12.heap.size w12).alloc (Nat.le_refl _) (.cells #[.string s13, .int .i64 a13, .int .i64 b13, .slice A15 n13 c15] 26)
    have P150 := Lib.hid (PgI.new (s := s13) (a := a13) (b := b13) R15.out)
    clear R15
    have P3' := Lib.hid (P3.out.below hal); clear P3; have P3 := P3'; clear P3'
    have R4' := Lib.hid (rdN R4.out hal); clear R4; have R4 := R4'; clear R4'
    have R6' := Lib.hid (rdN R6.out hal); clear R6; have R6 := R6'; clear R6'
    have R8' := Lib.hid (rdN R8.out hal); clear R8; have R8 := R8'; clear R8'
    have P13' := Lib.hid (P13.out.below hal); clear P13; have P13 := P13'; clear P13'
    have HB' := Lib.hid (HB.out.trans (hal.mono HB.out.size)); clear HB; have HB := HB'; clear HB'
    have P15 := P150; clear P150 hal
    go_upto_region 11 with (fail)
    generalize w12.alloc (.cells #[.string s13, .int .i64 a13, .int .i64 b13, .slice A15 n13 c15] 26) = w13 at *
    generalize w12.heap.size = g15 at *
    as_aux_lemma =>
      go_wp2_with fail
      refine (DrawValueAt_c _ _ bs _ (HC.out.below HB.out) HB.out.size).mono ?_; rintro e w14 ⟨s17, a17, b17, v17, n17, f17, x18, rfl, hss17, hn17, ho, hb⟩
      have P3' := Lib.hid (P3.out.below hb); clear P3; have P3 := P3'; clear P3'
      have R4' := Lib.hid (rdN R4.out hb); clear R4; have R4 := R4'; clear R4'
      have R6' := Lib.hid (rdN R6.out hb); clear R6; have R6 := R6'; clear R6'
      have R8' := Lib.hid (rdN R8.out hb); clear R8; have R8 := R8'; clear R8'
      have P13' := Lib.hid (P13.out.below hb); clear P13; have P13 := P13'; clear P13'
      have P15' := Lib.hid (P15.out.below hb); clear P15; have P15 := P15'; clear P15'
      have HB' := Lib.hid (HB.out.trans (hb.mono HB.out.size)); clear HB; have HB := HB'; clear HB'
      obtain ⟨A17, c17, rfl⟩ := own_slP ho
      have R17 := Lib.hid (Rd.of_own ho)
      clear hb ho
      have hal := (Below.refl w14.heap.size w14).alloc (Nat.le_refl _) (.cells #[.string s17, .int .i64 a17, .int .i64 b17, .slice A17 n17 c17] 26)
      have P170 := Lib.hid (PgI.new (s := s17) (a := a17) (b := b17) R17.out)
      clear R17
      have P3' := Lib.hid (P3.out.below hal); clear P3; have P3 := P3'; clear P3'
      have R4' := Lib.hid (rdN R4.out hal); clear R4; have R4 := R4'; clear R4'
      have R6' := Lib.hid (rdN R6.out hal); clear R6; have R6 := R6'; clear R6'
      have R8' := Lib.hid (rdN R8.out hal); clear R8; have R8 := R8'; clear R8'
      have P13' := Lib.hid (P13.out.below hal); clear P13; have P13 := P13'; clear P13'
      have P15' := Lib.hid (P15.out.below hal); clear P15; have P15 := P15'; clear P15'
      have HB' := Lib.hid (HB.out.trans (hal.mono HB.out.size)); clear HB; have HB := HB'; clear HB'
      have P17 := P170; clear P170 hal
      go_upto_region 12 with (fail)
      generalize w14.alloc (.cells #[.string s17, .int .i64 a17, .int .i64 b17, .slice A17 n17 c17] 26) = w15 at *
      generalize w14.heap.size = g17 at *
      have HVI := Lib.hid (fun wx hx => ValueAtI_any wx.heap.size s17 a17 b17 A17 n17 c17 f17 x18 wx (by omega) hx (Nat.le_refl _) (by omega))
      have HVS := Lib.hid (fun wx hx => ValueAtS_any wx.heap.size s17 a17 b17 A17 n17 c17 f17 x18 wx (by omega) hx (Nat.le_refl _) (by omega))
      unfold RetVa at HVI HVS
      generalize vaV s17 a17 b17 n17 f17 x18 = V19 at *
      generalize vaC s17 a17 b17 n17 f17 x18 = V20 at *
      obtain ⟨p170, p171, p172, p173⟩ := P17.out.cells
      go_wp2_with fail
      refine (HVI.out _ P17.out.rd).mono ?_; rintro e w16 ⟨rfl, hb⟩
      have P3' := Lib.hid (P3.out.below hb); clear P3; have P3 := P3'; clear P3'
      have R4' := Lib.hid (rdN R4.out hb); clear R4; have R4 := R4'; clear R4'
      have R6' := Lib.hid (rdN R6.out hb); clear R6; have R6 := R6'; clear R6'
      have R8' := Lib.hid (rdN R8.out hb); clear R8; have R8 := R8'; clear R8'
      have P13' := Lib.hid (P13.out.below hb); clear P13; have P13 := P13'; clear P13'
      have P15' := Lib.hid (P15.out.below hb); clear P15; have P15 := P15'; clear P15'
      have P17' := Lib.hid (P17.out.below hb); clear P17; have P17 := P17'; clear P17'
      have HB' := Lib.hid (HB.out.trans (hb.mono HB.out.size)); clear HB; have HB := HB'; clear HB'
      clear p170 p171 p172 p173
      clear hb HVI
      obtain ⟨p170, p171, p172, p173⟩ := P17.out.cells
      go_wp2_with fail
      refine (HVS.out _ P17.out.rd).mono ?_; rintro e w17 ⟨rfl, hb⟩
      have P3' := Lib.hid (P3.out.below hb); clear P3; have P3 := P3'; clear P3'
      have R4' := Lib.hid (rdN R4.out hb); clear R4; have R4 := R4'; clear R4'
      have R6' := Lib.hid (rdN R6.out hb); clear R6; have R6 := R6'; clear R6'
      have R8' := Lib.hid (rdN R8.out hb); clear R8; have R8 := R8'; clear R8'
      have P13' := Lib.hid (P13.out.below hb); clear P13; have P13 := P13'; clear P13'
      have P15' := Lib.hid (P15.out.below hb); clear P15; have P15 := P15'; clear P15'
      have P17' := Lib.hid (P17.out.below hb); clear P17; have P17 := P17'; clear P17'
      have HB' := Lib.hid (HB.out.trans (hb.mono HB.out.size)); clear HB; have HB := HB'; clear HB'
      clear p170 p171 p172 p173
      clear hb HVS
      clear P17
      clear hss17 hn17
      as_aux_lemma =>
        go_wp2_with fail
        refine (DrawJoinPages_c _ _ bs _ (HC.out.below HB.out) HB.out.size).mono ?_; rintro e w18 ⟨s23, a23, b23, v23, n23, f23, s24, a24, b24, v24, n24, f24, rfl, hss23, hss24, hn23, hn24, hr1, hr2, hb⟩
        have P3' := Lib.hid (P3.out.below hb); clear P3; have P3 := P3'; clear P3'
        have R4' := Lib.hid (rdN R4.out hb); clear R4; have R4 := R4'; clear R4'
        have R6' := Lib.hid (rdN R6.out hb); clear R6; have R6 := R6'; clear R6'
        have R8' := Lib.hid (rdN R8.out hb); clear R8; have R8 := R8'; clear R8'
        have P13' := Lib.hid (P13.out.below hb); clear P13; have P13 := P13'; clear P13'
        have P15' := Lib.hid (P15.out.below hb); clear P15; have P15 := P15'; clear P15'
        have HB' := Lib.hid (HB.out.trans (hb.mono HB.out.size)); clear HB; have HB := HB'; clear HB'
        obtain ⟨A23, c23, rfl⟩ := rd_sl hr1
        obtain ⟨A24, c24, rfl⟩ := rd_sl hr2
        have P230 := Lib.hid ((PgI.new (s := s23) (a := a23) (b := b23) hr1).below ((Below.refl _ _).alloc (Nat.le_refl _) (.cells #[.string s24, .int .i64 a24, .int .i64 b24, .slice A24 n24 c24] 26)))
        have P240 := Lib.hid (PgI.new2 (s := s24) (a := a24) (b := b24) hr2 (.cells #[.string s23, .int .i64 a23, .int .i64 b23, .slice A23 n23 c23] 26))
        have hal := ((Below.refl w18.heap.size w18).alloc (Nat.le_refl _) (.cells #[.string s23, .int .i64 a23, .int .i64 b23, .slice A23 n23 c23] 26)).alloc (by simp) (.cells #[.string s24, .int .i64 a24, .int .i64 b24, .slice A24 n24 c24] 26)
        have P3' := Lib.hid (P3.out.below hal); clear P3; have P3 := P3'; clear P3'
        have R4' := Lib.hid (rdN R4.out hal); clear R4; have R4 := R4'; clear R4'
        have R6' := Lib.hid (rdN R6.out hal); clear R6; have R6 := R6'; clear R6'
        have R8' := Lib.hid (rdN R8.out hal); clear R8; have R8 := R8'; clear R8'
        have P13' := Lib.hid (P13.out.below hal); clear P13; have P13 := P13'; clear P13'
        have P15' := Lib.hid (P15.out.below hal); clear P15; have P15 := P15'; clear P15'
        have HB' := Lib.hid (HB.out.trans (hal.mono HB.out.size)); clear HB; have HB := HB'; clear HB'
        have P23 := P230; have P24 := P240; clear P230 P240 hal hb hr1 hr2
        go_upto_region 15 with (fail)
        generalize (w18.alloc (.cells #[.string s23, .int .i64 a23, .int .i64 b23, .slice A23 n23 c23] 26)).alloc (.cells #[.string s24, .int .i64 a24, .int .i64 b24, .slice A24 n24 c24] 26) = w19 at *
        generalize w18.heap.size + 1 = g24 at *
        generalize w18.heap.size = g23 at *
        have hz25 := zHd_n (jpC s23 a23 b23 n23 f23 s24 a24 b24 n24 f24) ⟨s23, a23, b23, n23 + n24⟩
        dsimp only at hz25
        have HJI := Lib.hid (fun wx hx hy => JoinI_any wx.heap.size s23 a23 b23 A23 n23 c23 f23 wx.heap.size s24 a24 b24 A24 n24 c24 f24 wx (by omega) hx (Nat.le_refl _) (by omega) (by omega) hy (Nat.le_refl _) (by omega))
        have HJS := Lib.hid (fun wx hx hy => JoinS_any wx.heap.size s23 a23 b23 A23 n23 c23 f23 wx.heap.size s24 a24 b24 A24 n24 c24 f24 wx (by omega) hx (Nat.le_refl _) (by omega) (by omega) hy (Nat.le_refl _) (by omega))
        unfold RetJn at HJI HJS
        generalize jpC s23 a23 b23 n23 f23 s24 a24 b24 n24 f24 = C26 at *
        generalize zHd C26 ⟨s23, a23, b23, n23 + n24⟩ = h25 at *
        generalize catA n23 f23 f24 = f25 at *
        obtain ⟨s25, a25, b25, n25⟩ := h25
        dsimp only at HJI HJS hz25
        obtain ⟨p230, p231, p232, p233⟩ := P23.out.cells
        obtain ⟨p240, p241, p242, p243⟩ := P24.out.cells
        go_wp2_with fail
        refine (HJI.out _ P23.out.rd P24.out.rd).mono ?_; rintro e w20 ⟨v25, rfl, ho, hb⟩
        have P3' := Lib.hid (P3.out.below hb); clear P3; have P3 := P3'; clear P3'
        have R4' := Lib.hid (rdN R4.out hb); clear R4; have R4 := R4'; clear R4'
        have R6' := Lib.hid (rdN R6.out hb); clear R6; have R6 := R6'; clear R6'
        have R8' := Lib.hid (rdN R8.out hb); clear R8; have R8 := R8'; clear R8'
        have P13' := Lib.hid (P13.out.below hb); clear P13; have P13 := P13'; clear P13'
        have P15' := Lib.hid (P15.out.below hb); clear P15; have P15 := P15'; clear P15'
        have P23' := Lib.hid (P23.out.below hb); clear P23; have P23 := P23'; clear P23'
        have P24' := Lib.hid (P24.out.below hb); clear P24; have P24 := P24'; clear P24'
        have HB' := Lib.hid (HB.out.trans (hb.mono HB.out.size)); clear HB; have HB := HB'; clear HB'
        obtain ⟨A25, c25, rfl⟩ := own_slP ho
        have R25 := Lib.hid (Rd.of_own ho)
        clear p230 p231 p232 p233
        clear p240 p241 p242 p243
        clear hb ho HJI
        have hal := (Below.refl w20.heap.size w20).alloc (Nat.le_refl _) (.cells #[.string s25, .int .i64 a25, .int .i64 b25, .slice A25 n25 c25] 26)
        have P250 := Lib.hid (PgI.new (s := s25) (a := a25) (b := b25) R25.out)
        clear R25
        have P3' := Lib.hid (P3.out.below hal); clear P3; have P3 := P3'; clear P3'
        have R4' := Lib.hid (rdN R4.out hal); clear R4; have R4 := R4'; clear R4'
        have R6' := Lib.hid (rdN R6.out hal); clear R6; have R6 := R6'; clear R6'
        have R8' := Lib.hid (rdN R8.out hal); clear R8; have R8 := R8'; clear R8'
        have P13' := Lib.hid (P13.out.below hal); clear P13; have P13 := P13'; clear P13'
        have P15' := Lib.hid (P15.out.below hal); clear P15; have P15 := P15'; clear P15'
        have P23' := Lib.hid (P23.out.below hal); clear P23; have P23 := P23'; clear P23'
        have P24' := Lib.hid (P24.out.below hal); clear P24; have P24 := P24'; clear P24'
        have HB' := Lib.hid (HB.out.trans (hal.mono HB.out.size)); clear HB; have HB := HB'; clear HB'
        have P25 := P250; clear P250 hal
        go_upto_region 16 with (fail)
        generalize w20.alloc (.cells #[.string s25, .int .i64 a25, .int .i64 b25, .slice A25 n25 c25] 26) = w21 at *
        generalize w20.heap.size = g25 at *
        obtain ⟨p230, p231, p232, p233⟩ := P23.out.cells
        obtain ⟨p240, p241, p242, p243⟩ := P24.out.cells
        go_wp2_with fail
        refine (HJS.out _ P23.out.rd P24.out.rd).mono ?_; rintro e w22 ⟨v27, rfl, ho, hb⟩
        have P3' := Lib.hid (P3.out.below hb); clear P3; have P3 := P3'; clear P3'
        have R4' := Lib.hid (rdN R4.out hb); clear R4; have R4 := R4'; clear R4'
        have R6' := Lib.hid (rdN R6.out hb); clear R6; have R6 := R6'; clear R6'
        have R8' := Lib.hid (rdN R8.out hb); clear R8; have R8 := R8'; clear R8'
        have P13' := Lib.hid (P13.out.below hb); clear P13; have P13 := P13'; clear P13'
        have P15' := Lib.hid (P15.out.below hb); clear P15; have P15 := P15'; clear P15'
        have P23' := Lib.hid (P23.out.below hb); clear P23; have P23 := P23'; clear P23'
        have P24' := Lib.hid (P24.out.below hb); clear P24; have P24 := P24'; clear P24'
        have P25' := Lib.hid (P25.out.below hb); clear P25; have P25 := P25'; clear P25'
        have HB' := Lib.hid (HB.out.trans (hb.mono HB.out.size)); clear HB; have HB := HB'; clear HB'
        obtain ⟨A27, c27, rfl⟩ := own_slP ho
        have R27 := Lib.hid (Rd.of_own ho)
        clear p230 p231 p232 p233
        clear p240 p241 p242 p243
        clear hb ho HJS
        have hal := (Below.refl w22.heap.size w22).alloc (Nat.le_refl _) (.cells #[.string s25, .int .i64 a25, .int .i64 b25, .slice A27 n25 c27] 26)
        have P270 := Lib.hid (PgI.new (s := s25) (a := a25) (b := b25) R27.out)
        clear R27
        have P3' := Lib.hid (P3.out.below hal); clear P3; have P3 := P3'; clear P3'
        have R4' := Lib.hid (rdN R4.out hal); clear R4; have R4 := R4'; clear R4'
        have R6' := Lib.hid (rdN R6.out hal); clear R6; have R6 := R6'; clear R6'
        have R8' := Lib.hid (rdN R8.out hal); clear R8; have R8 := R8'; clear R8'
        have P13' := Lib.hid (P13.out.below hal); clear P13; have P13 := P13'; clear P13'
        have P15' := Lib.hid (P15.out.below hal); clear P15; have P15 := P15'; clear P15'
        have P23' := Lib.hid (P23.out.below hal); clear P23; have P23 := P23'; clear P23'
        have P24' := Lib.hid (P24.out.below hal); clear P24; have P24 := P24'; clear P24'
        have P25' := Lib.hid (P25.out.below hal); clear P25; have P25 := P25'; clear P25'
        have HB' := Lib.hid (HB.out.trans (hal.mono HB.out.size)); clear HB; have HB := HB'; clear HB'
        have P27 := P270; clear P270 hal
        go_upto_region 17 with (fail)
        generalize w22.alloc (.cells #[.string s25, .int .i64 a25, .int .i64 b25, .slice A27 n25 c27] 26) = w23 at *
        generalize w22.heap.size = g27 at *
        clear P23
        clear P24
        clear hss23 hss24
        as_aux_lemma =>
          go_wp2_with fail
          refine (DrawCheckDigit_c _ _ bs _ (HC.out.below HB.out) HB.out.size).mono ?_; rintro e w24 ⟨x29, rfl, hb⟩
          have P3' := Lib.hid (P3.out.below hb); clear P3; have P3 := P3'; clear P3'
          have R4' := Lib.hid (rdN R4.out hb); clear R4; have R4 := R4'; clear R4'
          have R6' := Lib.hid (rdN R6.out hb); clear R6; have R6 := R6'; clear R6'
          have R8' := Lib.hid (rdN R8.out hb); clear R8; have R8 := R8'; clear R8'
          have P13' := Lib.hid (P13.out.below hb); clear P13; have P13 := P13'; clear P13'
          have P15' := Lib.hid (P15.out.below hb); clear P15; have P15 := P15'; clear P15'
          have P25' := Lib.hid (P25.out.below hb); clear P25; have P25 := P25'; clear P25'
          have P27' := Lib.hid (P27.out.below hb); clear P27; have P27 := P27'; clear P27'
          have HB' := Lib.hid (HB.out.trans (hb.mono HB.out.size)); clear HB; have HB := HB'; clear HB'
          clear hb
          have HDI := Lib.hid (fun wx => CheckDigitI_c x29 wx)
          have HDS := Lib.hid (fun wx => CheckDigitS_c x29 wx)
          generalize cdV x29 = D30 at *
          generalize cdC x29 = D31 at *
          go_wp2_with fail
          refine (HDI.out _).mono ?_; rintro e w25 ⟨rfl, rfl⟩
          go_wp2_with fail
          refine (HDS.out _).mono ?_; rintro e w25 ⟨rfl, rfl⟩
          clear HDI HDS
          as_aux_lemma =>
            go_wp2_with fail
            refine (DrawSamePage_c _ _ bs _ (HC.out.below HB.out) HB.out.size).mono ?_; rintro e w26 ⟨s34, a34, b34, v34, n34, f34, s35, a35, b35, v35, n35, f35, rfl, hss34, hss35, hn34, hn35, hr1, hr2, hb⟩
            have P3' := Lib.hid (P3.out.below hb); clear P3; have P3 := P3'; clear P3'
            have R4' := Lib.hid (rdN R4.out hb); clear R4; have R4 := R4'; clear R4'
            have R6' := Lib.hid (rdN R6.out hb); clear R6; have R6 := R6'; clear R6'
            have R8' := Lib.hid (rdN R8.out hb); clear R8; have R8 := R8'; clear R8'
            have P13' := Lib.hid (P13.out.below hb); clear P13; have P13 := P13'; clear P13'
            have P15' := Lib.hid (P15.out.below hb); clear P15; have P15 := P15'; clear P15'
            have P25' := Lib.hid (P25.out.below hb); clear P25; have P25 := P25'; clear P25'
            have P27' := Lib.hid (P27.out.below hb); clear P27; have P27 := P27'; clear P27'
            have HB' := Lib.hid (HB.out.trans (hb.mono HB.out.size)); clear HB; have HB := HB'; clear HB'
            obtain ⟨A34, c34, rfl⟩ := rd_sl hr1
            obtain ⟨A35, c35, rfl⟩ := rd_sl hr2
            have P340 := Lib.hid ((PgI.new (s := s34) (a := a34) (b := b34) hr1).below ((Below.refl _ _).alloc (Nat.le_refl _) (.cells #[.string s35, .int .i64 a35, .int .i64 b35, .slice A35 n35 c35] 26)))
            have P350 := Lib.hid (PgI.new2 (s := s35) (a := a35) (b := b35) hr2 (.cells #[.string s34, .int .i64 a34, .int .i64 b34, .slice A34 n34 c34] 26))
            have hal := ((Below.refl w26.heap.size w26).alloc (Nat.le_refl _) (.cells #[.string s34, .int .i64 a34, .int .i64 b34, .slice A34 n34 c34] 26)).alloc (by simp) (.cells #[.string s35, .int .i64 a35, .int .i64 b35, .slice A35 n35 c35] 26)
            have P3' := Lib.hid (P3.out.below hal); clear P3; have P3 := P3'; clear P3'
            have R4' := Lib.hid (rdN R4.out hal); clear R4; have R4 := R4'; clear R4'
            have R6' := Lib.hid (rdN R6.out hal); clear R6; have R6 := R6'; clear R6'
            have R8' := Lib.hid (rdN R8.out hal); clear R8; have R8 := R8'; clear R8'
            have P13' := Lib.hid (P13.out.below hal); clear P13; have P13 := P13'; clear P13'
            have P15' := Lib.hid (P15.out.below hal); clear P15; have P15 := P15'; clear P15'
            have P25' := Lib.hid (P25.out.below hal); clear P25; have P25 := P25'; clear P25'
            have P27' := Lib.hid (P27.out.below hal); clear P27; have P27 := P27'; clear P27'
            have HB' := Lib.hid (HB.out.trans (hal.mono HB.out.size)); clear HB; have HB := HB'; clear HB'
            have P34 := P340; have P35 := P350; clear P340 P350 hal hb hr1 hr2
            go_upto_region 21 with (fail)
            generalize (w26.alloc (.cells #[.string s34, .int .i64 a34, .int .i64 b34, .slice A34 n34 c34] 26)).alloc (.cells #[.string s35, .int .i64 a35, .int .i64 b35, .slice A35 n35 c35] 26) = w27 at *
            generalize w26.heap.size + 1 = g35 at *
            generalize w26.heap.size = g34 at *
            go_wp2_with fail
            refine (DrawPfName_c _ _ bs _ (HC.out.below HB.out) HB.out.size).mono ?_; rintro e w28 ⟨x36, rfl, hb⟩
            have P3' := Lib.hid (P3.out.below hb); clear P3; have P3 := P3'; clear P3'
            have R4' := Lib.hid (rdN R4.out hb); clear R4; have R4 := R4'; clear R4'
            have R6' := Lib.hid (rdN R6.out hb); clear R6; have R6 := R6'; clear R6'
            have R8' := Lib.hid (rdN R8.out hb); clear R8; have R8 := R8'; clear R8'
            have P13' := Lib.hid (P13.out.below hb); clear P13; have P13 := P13'; clear P13'
            have P15' := Lib.hid (P15.out.below hb); clear P15; have P15 := P15'; clear P15'
            have P25' := Lib.hid (P25.out.below hb); clear P25; have P25 := P25'; clear P25'
            have P27' := Lib.hid (P27.out.below hb); clear P27; have P27 := P27'; clear P27'
            have P34' := Lib.hid (P34.out.below hb); clear P34; have P34 := P34'; clear P34'
            have P35' := Lib.hid (P35.out.below hb); clear P35; have P35 := P35'; clear P35'
            have HB' := Lib.hid (HB.out.trans (hb.mono HB.out.size)); clear HB; have HB := HB'; clear HB'
            clear hb
            have HSI := Lib.hid (fun wx hx hy => SamePgI_any wx.heap.size wx.heap.size s34 a34 b34 (.slice A34 n34 c34) n34 f34 s35 a35 b35 (.slice A35 n35 c35) n35 f35 wx hx (Nat.le_refl _) hy (Nat.le_refl _) (by omega))
            have HSS := Lib.hid (fun wx hx hy => SamePgS_any wx.heap.size wx.heap.size s34 a34 b34 (.slice A34 n34 c34) n34 f34 s35 a35 b35 (.slice A35 n35 c35) n35 f35 wx hx (Nat.le_refl _) hy (Nat.le_refl _) (by omega))
            generalize smPg s34 a34 b34 n34 f34 s35 a35 b35 n35 f35 = sm at *
            have HNI := Lib.hid (fun wx => PfNameI_any x36 wx)
            have HNS := Lib.hid (fun wx => PfNameS_any x36 wx)
            generalize pfN x36 = N36 at *
            have HOI := Lib.hid (fun wx hx => ValidPageI_c wx.heap.size s3 a3 b3 A3 n3 c3 f3 wx (by omega) hx (Nat.le_refl _) (by omega))
            have HOS := Lib.hid (fun wx hx => ValidPageS_any wx.heap.size s3 a3 b3 (.slice A3 n3 c3) n3 f3 wx (by omega) hx (Nat.le_refl _) (by omega))
            generalize pgOk s3.data.toList a3 b3 n3 f3 = ok3 at *
            have HS13 := Lib.hid (fun wx hx hy => SamePgS_any wx.heap.size wx.heap.size s13 a13 b13 (.slice A13 n13 c13) n13 f13 s13 a13 b13 (.slice A15 n13 c15) n13 f13 wx hx (Nat.le_refl _) hy (Nat.le_refl _) (by omega))
            rw [smPg_self s13 a13 b13 n13 (fun _ _ => rfl)] at HS13
            have HS25 := Lib.hid (fun wx hx hy => SamePgS_any wx.heap.size wx.heap.size s25 a25 b25 (.slice A25 n25 c25) n25 f25 s25 a25 b25 (.slice A27 n25 c27) n25 f25 wx hx (Nat.le_refl _) hy (Nat.le_refl _) (by omega))
            rw [smPg_self s25 a25 b25 n25 (fun _ _ => rfl)] at HS25
            go_upto_region 22 with (fail)
            have hbd := (Below.refl w28.heap.size w28).drew
            have P3' := Lib.hid (P3.out.below hbd); clear P3; have P3 := P3'; clear P3'
            have R4' := Lib.hid (rdN R4.out hbd); clear R4; have R4 := R4'; clear R4'
            have R6' := Lib.hid (rdN R6.out hbd); clear R6; have R6 := R6'; clear R6'
            have R8' := Lib.hid (rdN R8.out hbd); clear R8; have R8 := R8'; clear R8'
            have P13' := Lib.hid (P13.out.below hbd); clear P13; have P13 := P13'; clear P13'
            have P15' := Lib.hid (P15.out.below hbd); clear P15; have P15 := P15'; clear P15'
            have P25' := Lib.hid (P25.out.below hbd); clear P25; have P25 := P25'; clear P25'
            have P27' := Lib.hid (P27.out.below hbd); clear P27; have P27 := P27'; clear P27'
            have P34' := Lib.hid (P34.out.below hbd); clear P34; have P34 := P34'; clear P34'
            have P35' := Lib.hid (P35.out.below hbd); clear P35; have P35 := P35'; clear P35'
            have HB' := Lib.hid (HB.out.trans (hbd.mono HB.out.size)); clear HB; have HB := HB'; clear HB'
            clear hbd
            as_aux_lemma =>
              refine wp_region_noPanic ?_
              refine wp_region_L [] (fun w' => (w'.cell? ⟨g13, 0, none⟩ = some (.string s13) ∧ w'.cell? ⟨g13, 1, none⟩ = some (.int .i64 a13) ∧ w'.cell? ⟨g13, 2, none⟩ = some (.int .i64 b13) ∧ w'.cell? ⟨g13, 3, none⟩ = some (.slice A13 n13 c13)) ∧ (w'.cell? ⟨g15, 0, none⟩ = some (.string s13) ∧ w'.cell? ⟨g15, 1, none⟩ = some (.int .i64 a13) ∧ w'.cell? ⟨g15, 2, none⟩ = some (.int .i64 b13) ∧ w'.cell? ⟨g15, 3, none⟩ = some (.slice A15 n13 c15)) ∧ (w'.cell? ⟨g25, 0, none⟩ = some (.string s25) ∧ w'.cell? ⟨g25, 1, none⟩ = some (.int .i64 a25) ∧ w'.cell? ⟨g25, 2, none⟩ = some (.int .i64 b25) ∧ w'.cell? ⟨g25, 3, none⟩ = some (.slice A25 n25 c25)) ∧ (w'.cell? ⟨g27, 0, none⟩ = some (.string s25) ∧ w'.cell? ⟨g27, 1, none⟩ = some (.int .i64 a25) ∧ w'.cell? ⟨g27, 2, none⟩ = some (.int .i64 b25) ∧ w'.cell? ⟨g27, 3, none⟩ = some (.slice A27 n25 c27)) ∧ (w'.cell? ⟨g34, 0, none⟩ = some (.string s34) ∧ w'.cell? ⟨g34, 1, none⟩ = some (.int .i64 a34) ∧ w'.cell? ⟨g34, 2, none⟩ = some (.int .i64 b34) ∧ w'.cell? ⟨g34, 3, none⟩ = some (.slice A34 n34 c34)) ∧ (w'.cell? ⟨g35, 0, none⟩ = some (.string s35) ∧ w'.cell? ⟨g35, 1, none⟩ = some (.int .i64 a35) ∧ w'.cell? ⟨g35, 2, none⟩ = some (.int .i64 b35) ∧ w'.cell? ⟨g35, 3, none⟩ = some (.slice A35 n35 c35)) ∧ (w'.cell? ⟨g3, 0, none⟩ = some (.string s3) ∧ w'.cell? ⟨g3, 1, none⟩ = some (.int .i64 a3) ∧ w'.cell? ⟨g3, 2, none⟩ = some (.int .i64 b3) ∧ w'.cell? ⟨g3, 3, none⟩ = some (.slice A3 n3 c3))) (by kernel_rfl) (⟨P13.out.cells, P15.out.cells, P25.out.cells, P27.out.cells, P34.out.cells, P35.out.cells, P3.out.cells⟩) (fun hHeld => ?_)
              generalize w28.drew = w29 at *
              refine take_F (i := 0) (d := some 133) (v := ?_) (by kernel_rfl) (by kernel_rfl) rfl rfl (by kernel_rfl) (by kernel_rfl) (by kernel_rfl) (fun _ _ _ h => h) (Or.inl ⟨by rfl, ?_⟩) (by assumption) ?_
              rotate_left
              · (intro w hSw; (try dsimp only at hSw); go_simp; (try rw [if_neg (by omega)]); (try (with_reducible rfl)))
              simp only [Act.put, List.setIfInBounds_toArray, List.set_cons_zero, List.set_cons_succ]
              refine take_F (i := 1) (d := some 134) (v := ?_) (by kernel_rfl) (by kernel_rfl) rfl rfl (by kernel_rfl) (by kernel_rfl) (by kernel_rfl) (fun _ _ _ h => h) (Or.inl ⟨by rfl, ?_⟩) (by assumption) ?_
              rotate_left
              · (intro w hSw; (try dsimp only at hSw); go_simp; (try rw [if_neg (by omega)]); (try (with_reducible rfl)))
              simp only [Act.put, List.setIfInBounds_toArray, List.set_cons_zero, List.set_cons_succ]
              refine take_F (i := 2) (d := some 135) (v := ?_) (by kernel_rfl) (by kernel_rfl) rfl rfl (by kernel_rfl) (by kernel_rfl) (by kernel_rfl) (fun _ _ _ h => h) (Or.inl ⟨by rfl, ?_⟩) (by assumption) ?_
              rotate_left
              · (intro w hSw; (try dsimp only at hSw); go_simp; (try rw [if_neg (by omega)]); (try (with_reducible rfl)))
              simp only [Act.put, List.setIfInBounds_toArray, List.set_cons_zero, List.set_cons_succ]
              refine take_F (i := 3) (d := some 136) (v := ?_) (by kernel_rfl) (by kernel_rfl) rfl rfl (by kernel_rfl) (by kernel_rfl) (by kernel_rfl) (fun _ _ _ h => h) (Or.inl ⟨by rfl, ?_⟩) (by assumption) ?_
              rotate_left
              · (intro w hSw; (try dsimp only at hSw); go_simp; (try rw [if_neg (by omega)]); (try (with_reducible rfl)))
              simp only [Act.put, List.setIfInBounds_toArray, List.set_cons_zero, List.set_cons_succ]
              refine take_F (i := 4) (d := some 137) (v := ?_) (by kernel_rfl) (by kernel_rfl) rfl rfl (by kernel_rfl) (by kernel_rfl) (by kernel_rfl) (fun _ _ _ h => h) (Or.inl ⟨by rfl, ?_⟩) (by assumption) ?_
              rotate_left
              · (intro w hSw; (try dsimp only at hSw); go_simp; (try rw [if_neg (by omega)]); (try (with_reducible rfl)))
              simp only [Act.put, List.setIfInBounds_toArray, List.set_cons_zero, List.set_cons_succ]
              refine take_F (i := 5) (d := some 138) (v := ?_) (by kernel_rfl) (by kernel_rfl) rfl rfl (by kernel_rfl) (by kernel_rfl) (by kernel_rfl) (fun _ _ _ h => h) (Or.inl ⟨by rfl, ?_⟩) (by assumption) ?_
              rotate_left
              · (intro w hSw; (try dsimp only at hSw); go_simp; (try rw [if_neg (by omega)]); (try (with_reducible rfl)))
              simp only [Act.put, List.setIfInBounds_toArray, List.set_cons_zero, List.set_cons_succ]
              refine call_L (i := 6) (d := (some 139)) rfl rfl (by kernel_rfl) (fun Kq hKq => ?_)
              go_simp
              go_at_call 24
              refine (f6texts_sameA _ _ _ _ L4 _ R4.out R6.out (by omega)).mono ?_; rintro e w30 ⟨rfl, k1, hk⟩
              have hb : Below w29.heap.size w29 w30 := by rw [hk]; exact below_drewN (Below.refl _ _) _
              clear hk
              have P3' := Lib.hid (P3.out.below hb); clear P3; have P3 := P3'; clear P3'
              have R4' := Lib.hid (rdN R4.out hb); clear R4; have R4 := R4'; clear R4'
              have R6' := Lib.hid (rdN R6.out hb); clear R6; have R6 := R6'; clear R6'
              have R8' := Lib.hid (rdN R8.out hb); clear R8; have R8 := R8'; clear R8'
              have P13' := Lib.hid (P13.out.below hb); clear P13; have P13 := P13'; clear P13'
              have P15' := Lib.hid (P15.out.below hb); clear P15; have P15 := P15'; clear P15'
              have P25' := Lib.hid (P25.out.below hb); clear P25; have P25 := P25'; clear P25'
              have P27' := Lib.hid (P27.out.below hb); clear P27; have P27 := P27'; clear P27'
              have P34' := Lib.hid (P34.out.below hb); clear P34; have P34 := P34'; clear P34'
              have P35' := Lib.hid (P35.out.below hb); clear P35; have P35 := P35'; clear P35'
              have HB' := Lib.hid (HB.out.trans (hb.mono HB.out.size)); clear HB; have HB := HB'; clear HB'
              clear hb
              (try go_wp2_with fail)
              refine hKq.out _ _ (⟨P13.out.cells, P15.out.cells, P25.out.cells, P27.out.cells, P34.out.cells, P35.out.cells, P3.out.cells⟩) (fun hHeld => ?_)
              clear hKq Kq
              (try simp only [Act.put, List.setIfInBounds_toArray, List.set_cons_zero, List.set_cons_succ])
              refine take_F (i := 7) (d := some 140) (v := ?_) (by kernel_rfl) (by kernel_rfl) rfl rfl (by kernel_rfl) (by kernel_rfl) (by kernel_rfl) (fun _ _ _ h => h) (Or.inl ⟨by rfl, ?_⟩) (by assumption) ?_
              rotate_left
              · (intro w hSw; (try dsimp only at hSw); go_simp; (try rw [if_neg (by omega)]); (try (with_reducible rfl)))
              simp only [Act.put, List.setIfInBounds_toArray, List.set_cons_zero, List.set_cons_succ]
              refine take_F (i := 8) (d := some 141) (v := ?_) (by kernel_rfl) (by kernel_rfl) rfl rfl (by kernel_rfl) (by kernel_rfl) (by kernel_rfl) (fun _ _ _ h => h) (Or.inl ⟨by rfl, ?_⟩) (by assumption) ?_
              rotate_left
              · (intro w hSw; (try dsimp only at hSw); go_simp; (try rw [if_neg (by omega)]); (try (with_reducible rfl)))
              simp only [Act.put, List.setIfInBounds_toArray, List.set_cons_zero, List.set_cons_succ]
              refine take_F (i := 9) (d := some 142) (v := ?_) (by kernel_rfl) (by kernel_rfl) rfl rfl (by kernel_rfl) (by kernel_rfl) (by kernel_rfl) (fun _ _ _ h => h) (Or.inl ⟨by rfl, ?_⟩) (by assumption) ?_
              rotate_left
              · (intro w hSw; (try dsimp only at hSw); go_simp; (try rw [if_neg (by omega)]); (try (with_reducible rfl)))
              simp only [Act.put, List.setIfInBounds_toArray, List.set_cons_zero, List.set_cons_succ]
              refine take_F (i := 10) (d := some 143) (v := ?_) (by kernel_rfl) (by kernel_rfl) rfl rfl (by kernel_rfl) (by kernel_rfl) (by kernel_rfl) (fun _ _ _ h => h) (Or.inl ⟨by rfl, ?_⟩) (by assumption) ?_
              rotate_left
              · (intro w hSw; (try dsimp only at hSw); go_simp; (try rw [if_neg (by omega)]); (try (with_reducible rfl)))
              simp only [Act.put, List.setIfInBounds_toArray, List.set_cons_zero, List.set_cons_succ]
              refine take_F (i := 11) (d := some 144) (v := ?_) (by kernel_rfl) (by kernel_rfl) rfl rfl (by kernel_rfl) (by kernel_rfl) (by kernel_rfl) (fun _ _ _ h => h) (Or.inl ⟨by rfl, ?_⟩) (by assumption) ?_
              rotate_left
              · (intro w hSw; (try dsimp only at hSw); go_simp; (try rw [if_neg (by omega)]); (try (with_reducible rfl)))
              simp only [Act.put, List.setIfInBounds_toArray, List.set_cons_zero, List.set_cons_succ]
              refine take_F (i := 12) (d := some 145) (v := ?_) (by kernel_rfl) (by kernel_rfl) rfl rfl (by kernel_rfl) (by kernel_rfl) (by kernel_rfl) (fun _ _ _ h => h) (Or.inl ⟨by rfl, ?_⟩) (by assumption) ?_
              rotate_left
              · (intro w hSw; (try dsimp only at hSw); go_simp; (try rw [if_neg (by omega)]); (try (with_reducible rfl)))
              simp only [Act.put, List.setIfInBounds_toArray, List.set_cons_zero, List.set_cons_succ]
              refine take_F (i := 13) (d := some 146) (v := ?_) (by kernel_rfl) (by kernel_rfl) rfl rfl (by kernel_rfl) (by kernel_rfl) (by kernel_rfl) (fun _ _ _ h => h) (Or.inl ⟨by rfl, ?_⟩) (by assumption) ?_
              rotate_left
              · (intro w hSw; (try dsimp only at hSw); go_simp; (try rw [if_neg (by omega)]); (try (with_reducible rfl)))
              simp only [Act.put, List.setIfInBounds_toArray, List.set_cons_zero, List.set_cons_succ]
              refine take_F (i := 14) (d := some 147) (v := ?_) (by kernel_rfl) (by kernel_rfl) rfl rfl (by kernel_rfl) (by kernel_rfl) (by kernel_rfl) (fun _ _ _ h => h) (Or.inl ⟨by rfl, ?_⟩) (by assumption) ?_
              rotate_left
              · (intro w hSw; (try dsimp only at hSw); go_simp; (try rw [if_neg (by omega)]); (try (with_reducible rfl)))
              simp only [Act.put, List.setIfInBounds_toArray, List.set_cons_zero, List.set_cons_succ]
              refine take_F (i := 15) (d := some 148) (v := ?_) (by kernel_rfl) (by kernel_rfl) rfl rfl (by kernel_rfl) (by kernel_rfl) (by kernel_rfl) (fun _ _ _ h => h) (Or.inl ⟨by rfl, ?_⟩) (by assumption) ?_
              rotate_left
              · (intro w hSw; (try dsimp only at hSw); go_simp; (try rw [if_neg (by omega)]); (try (with_reducible rfl)))
              simp only [Act.put, List.setIfInBounds_toArray, List.set_cons_zero, List.set_cons_succ]
              refine take_F (i := 16) (d := some 149) (v := ?_) (by kernel_rfl) (by kernel_rfl) rfl rfl (by kernel_rfl) (by kernel_rfl) (by kernel_rfl) (fun _ _ _ h => h) (Or.inl ⟨by rfl, ?_⟩) (by assumption) ?_
              rotate_left
              · (intro w hSw; (try dsimp only at hSw); go_simp; (try rw [if_neg (by omega)]); (try (with_reducible rfl)))
              simp only [Act.put, List.setIfInBounds_toArray, List.set_cons_zero, List.set_cons_succ]
              refine take_F (i := 17) (d := some 150) (v := ?_) (by kernel_rfl) (by kernel_rfl) rfl rfl (by kernel_rfl) (by kernel_rfl) (by kernel_rfl) (fun _ _ _ h => h) (Or.inl ⟨by rfl, ?_⟩) (by assumption) ?_
              rotate_left
              · (intro w hSw; (try dsimp only at hSw); go_simp; (try rw [if_neg (by omega)]); (try (with_reducible rfl)))
              simp only [Act.put, List.setIfInBounds_toArray, List.set_cons_zero, List.set_cons_succ]
              refine take_F (i := 18) (d := some 151) (v := ?_) (by kernel_rfl) (by kernel_rfl) rfl rfl (by kernel_rfl) (by kernel_rfl) (by kernel_rfl) (fun _ _ _ h => h) (Or.inl ⟨by rfl, ?_⟩) (by assumption) ?_
              rotate_left
              · (intro w hSw; (try dsimp only at hSw); go_simp; (try rw [if_neg (by omega)]); (try (with_reducible rfl)))
              simp only [Act.put, List.setIfInBounds_toArray, List.set_cons_zero, List.set_cons_succ]
              refine take_F (i := 19) (d := some 152) (v := ?_) (by kernel_rfl) (by kernel_rfl) rfl rfl (by kernel_rfl) (by kernel_rfl) (by kernel_rfl) (fun _ _ _ h => h) (Or.inl ⟨by rfl, ?_⟩) (by assumption) ?_
              rotate_left
              · (intro w hSw; (try dsimp only at hSw); go_simp; (try rw [if_neg (by omega)]); (try (with_reducible rfl)))
              simp only [Act.put, List.setIfInBounds_toArray, List.set_cons_zero, List.set_cons_succ]
              refine take_F (i := 20) (d := some 153) (v := ?_) (by kernel_rfl) (by kernel_rfl) rfl rfl (by kernel_rfl) (by kernel_rfl) (by kernel_rfl) (fun _ _ _ h => h) (Or.inl ⟨by rfl, ?_⟩) (by assumption) ?_
              rotate_left
              · (intro w hSw; (try dsimp only at hSw); go_simp; (try rw [if_neg (by omega)]); (try (with_reducible rfl)))
              simp only [Act.put, List.setIfInBounds_toArray, List.set_cons_zero, List.set_cons_succ]
              refine take_F (i := 21) (d := some 154) (v := ?_) (by kernel_rfl) (by kernel_rfl) rfl rfl (by kernel_rfl) (by kernel_rfl) (by kernel_rfl) (fun _ _ _ h => h) (Or.inl ⟨by rfl, ?_⟩) (by assumption) ?_
              rotate_left
              · (intro w hSw; (try dsimp only at hSw); go_simp; (try rw [if_neg (by omega)]); (try (with_reducible rfl)))
              simp only [Act.put, List.setIfInBounds_toArray, List.set_cons_zero, List.set_cons_succ]
              refine take_F (i := 22) (d := some 155) (v := ?_) (by kernel_rfl) (by kernel_rfl) rfl rfl (by kernel_rfl) (by kernel_rfl) (by kernel_rfl) (fun _ _ _ h => h) (Or.inl ⟨by rfl, ?_⟩) (by assumption) ?_
              rotate_left
              · (intro w hSw; (try dsimp only at hSw); go_simp; (try rw [if_neg (by omega)]); (try (with_reducible rfl)))
              simp only [Act.put, List.setIfInBounds_toArray, List.set_cons_zero, List.set_cons_succ]
              refine take_F (i := 23) (d := some 156) (v := ?_) (by kernel_rfl) (by kernel_rfl) rfl rfl (by kernel_rfl) (by kernel_rfl) (by kernel_rfl) (fun _ _ _ h => h) (Or.inl ⟨by rfl, ?_⟩) (by assumption) ?_
              rotate_left
              · (intro w hSw; (try dsimp only at hSw); go_simp; (try rw [if_neg (by omega)]); (try (with_reducible rfl)))
              simp only [Act.put, List.setIfInBounds_toArray, List.set_cons_zero, List.set_cons_succ]
              refine take_F (i := 24) (d := some 157) (v := ?_) (by kernel_rfl) (by kernel_rfl) rfl rfl (by kernel_rfl) (by kernel_rfl) (by kernel_rfl) (fun _ _ _ h => h) (Or.inl ⟨by rfl, ?_⟩) (by assumption) ?_
              rotate_left
              · (intro w hSw; (try dsimp only at hSw); go_simp; (try rw [if_neg (by omega)]); (try (with_reducible rfl)))
              simp only [Act.put, List.setIfInBounds_toArray, List.set_cons_zero, List.set_cons_succ]
              refine take_L [77,76,70,69,61,56,51,50,45,40,35,30,27,25] (i := 25) (d := some 158) (v := ?_) (by kernel_rfl) (by kernel_rfl) (by kernel_rfl) (by kernel_rfl) rfl rfl (by kernel_rfl) (by kernel_rfl) (by kernel_rfl) (fun _ _ _ h => h) (Or.inl ⟨by rfl, ?_⟩) (by assumption) ?_
              rotate_left
              · (intro w hSw; (try dsimp only at hSw); go_simp; (try rw [if_neg (by omega)]); (try (with_reducible rfl)))
              simp only [Act.put, List.setIfInBounds_toArray, List.set_cons_zero, List.set_cons_succ]
              refine take_L [77,76,70,69,61,56,51,50,45,40,35,30,27,26] (i := 26) (d := some 159) (v := ?_) (by kernel_rfl) (by kernel_rfl) (by kernel_rfl) (by kernel_rfl) rfl rfl (by kernel_rfl) (by kernel_rfl) (by kernel_rfl) (fun _ _ _ h => h) (Or.inl ⟨by rfl, ?_⟩) (by assumption) ?_
              rotate_left
              · (intro w hSw; (try dsimp only at hSw); go_simp; (try rw [if_neg (by omega)]); (try (with_reducible rfl)))
              simp only [Act.put, List.setIfInBounds_toArray, List.set_cons_zero, List.set_cons_succ]
              refine call_L (i := 27) (d := (some 160)) rfl rfl (by kernel_rfl) (fun Kq hKq => ?_)
              go_simp
              go_at_call 25
              refine (HS13.out _ P13.out.rd P15.out.rd).mono ?_; rintro e w31 ⟨rfl, hb⟩
              have P3' := Lib.hid (P3.out.below hb); clear P3; have P3 := P3'; clear P3'
              have R4' := Lib.hid (rdN R4.out hb); clear R4; have R4 := R4'; clear R4'
              have R6' := Lib.hid (rdN R6.out hb); clear R6; have R6 := R6'; clear R6'
              have R8' := Lib.hid (rdN R8.out hb); clear R8; have R8 := R8'; clear R8'
              have P13' := Lib.hid (P13.out.below hb); clear P13; have P13 := P13'; clear P13'
              have P15' := Lib.hid (P15.out.below hb); clear P15; have P15 := P15'; clear P15'
              have P25' := Lib.hid (P25.out.below hb); clear P25; have P25 := P25'; clear P25'
              have P27' := Lib.hid (P27.out.below hb); clear P27; have P27 := P27'; clear P27'
              have P34' := Lib.hid (P34.out.below hb); clear P34; have P34 := P34'; clear P34'
              have P35' := Lib.hid (P35.out.below hb); clear P35; have P35 := P35'; clear P35'
              have HB' := Lib.hid (HB.out.trans (hb.mono HB.out.size)); clear HB; have HB := HB'; clear HB'
              clear hb
              (try go_wp2_with fail)
              refine hKq.out _ _ (⟨P13.out.cells, P15.out.cells, P25.out.cells, P27.out.cells, P34.out.cells, P35.out.cells, P3.out.cells⟩) (fun hHeld => ?_)
              clear hKq Kq
              (try simp only [Act.put, List.setIfInBounds_toArray, List.set_cons_zero, List.set_cons_succ])
              refine take_F (i := 28) (d := some 161) (v := ?_) (by kernel_rfl) (by kernel_rfl) rfl rfl (by kernel_rfl) (by kernel_rfl) (by kernel_rfl) (fun _ _ _ h => h) (Or.inl ⟨by rfl, ?_⟩) (by assumption) ?_
              rotate_left
              · (intro w hSw; (try dsimp only at hSw); go_simp; (try rw [if_neg (by omega)]); (try (with_reducible rfl)))
              simp only [Act.put, List.setIfInBounds_toArray, List.set_cons_zero, List.set_cons_succ]
              refine take_F (i := 29) (d := some 162) (v := ?_) (by kernel_rfl) (by kernel_rfl) rfl rfl (by kernel_rfl) (by kernel_rfl) (by kernel_rfl) (fun _ _ _ h => h) (Or.inl ⟨by rfl, ?_⟩) (by assumption) ?_
              rotate_left
              · (intro w hSw; (try dsimp only at hSw); go_simp; (try rw [if_neg (by omega)]); (try (with_reducible rfl)))
              simp only [Act.put, List.setIfInBounds_toArray, List.set_cons_zero, List.set_cons_succ]
              refine take_F (i := 30) (d := some 163) (v := ?_) (by kernel_rfl) (by kernel_rfl) rfl rfl (by kernel_rfl) (by kernel_rfl) (by kernel_rfl) (fun _ _ _ h => h) (Or.inl ⟨by rfl, ?_⟩) (by assumption) ?_
              rotate_left
              · (intro w hSw; (try dsimp only at hSw); go_simp; (try rw [if_neg (by omega)]); (try (with_reducible rfl)))
              simp only [Act.put, List.setIfInBounds_toArray, List.set_cons_zero, List.set_cons_succ]
              refine take_F (i := 31) (d := some 164) (v := ?_) (by kernel_rfl) (by kernel_rfl) rfl rfl (by kernel_rfl) (by kernel_rfl) (by kernel_rfl) (fun _ _ _ h => h) (Or.inl ⟨by rfl, ?_⟩) (by assumption) ?_
              rotate_left
              · (intro w hSw; (try dsimp only at hSw); go_simp; (try rw [if_neg (by omega)]); (try (with_reducible rfl)))
              simp only [Act.put, List.setIfInBounds_toArray, List.set_cons_zero, List.set_cons_succ]
              refine take_F (i := 32) (d := some 165) (v := ?_) (by kernel_rfl) (by kernel_rfl) rfl rfl (by kernel_rfl) (by kernel_rfl) (by kernel_rfl) (fun _ _ _ h => h) (Or.inl ⟨by rfl, ?_⟩) (by assumption) ?_
              rotate_left
              · (intro w hSw; (try dsimp only at hSw); go_simp; (try rw [if_neg (by omega)]); (try (with_reducible rfl)))
              simp only [Act.put, List.setIfInBounds_toArray, List.set_cons_zero, List.set_cons_succ]
              refine take_F (i := 33) (d := some 166) (v := ?_) (by kernel_rfl) (by kernel_rfl) rfl rfl (by kernel_rfl) (by kernel_rfl) (by kernel_rfl) (fun _ _ _ h => h) (Or.inl ⟨by rfl, ?_⟩) (by assumption) ?_
              rotate_left
              · (intro w hSw; (try dsimp only at hSw); go_simp; (try rw [if_neg (by omega)]); (try (with_reducible rfl)))
              simp only [Act.put, List.setIfInBounds_toArray, List.set_cons_zero, List.set_cons_succ]
              refine take_F (i := 34) (d := some 167) (v := ?_) (by kernel_rfl) (by kernel_rfl) rfl rfl (by kernel_rfl) (by kernel_rfl) (by kernel_rfl) (fun _ _ _ h => h) (Or.inl ⟨by rfl, ?_⟩) (by assumption) ?_
              rotate_left
              · (intro w hSw; (try dsimp only at hSw); go_simp; (try rw [if_neg (by omega)]); (try (with_reducible rfl)))
              simp only [Act.put, List.setIfInBounds_toArray, List.set_cons_zero, List.set_cons_succ]
              refine take_F (i := 35) (d := some 168) (v := ?_) (by kernel_rfl) (by kernel_rfl) rfl rfl (by kernel_rfl) (by kernel_rfl) (by kernel_rfl) (fun _ _ _ h => h) (Or.inl ⟨by rfl, ?_⟩) (by assumption) ?_
              rotate_left
              · (intro w hSw; (try dsimp only at hSw); go_simp; (try rw [if_neg (by omega)]); (try (with_reducible rfl)))
              simp only [Act.put, List.setIfInBounds_toArray, List.set_cons_zero, List.set_cons_succ]
              refine take_F (i := 36) (d := some 169) (v := ?_) (by kernel_rfl) (by kernel_rfl) rfl rfl (by kernel_rfl) (by kernel_rfl) (by kernel_rfl) (fun _ _ _ h => h) (Or.inl ⟨by rfl, ?_⟩) (by assumption) ?_
              rotate_left
              · (intro w hSw; (try dsimp only at hSw); go_simp; (try rw [if_neg (by omega)]); (try (with_reducible rfl)))
              simp only [Act.put, List.setIfInBounds_toArray, List.set_cons_zero, List.set_cons_succ]
              refine take_F (i := 37) (d := some 170) (v := ?_) (by kernel_rfl) (by kernel_rfl) rfl rfl (by kernel_rfl) (by kernel_rfl) (by kernel_rfl) (fun _ _ _ h => h) (Or.inl ⟨by rfl, ?_⟩) (by assumption) ?_
              rotate_left
              · (intro w hSw; (try dsimp only at hSw); go_simp; (try rw [if_neg (by omega)]); (try (with_reducible rfl)))
              simp only [Act.put, List.setIfInBounds_toArray, List.set_cons_zero, List.set_cons_succ]
              refine take_F (i := 38) (d := some 171) (v := ?_) (by kernel_rfl) (by kernel_rfl) rfl rfl (by kernel_rfl) (by kernel_rfl) (by kernel_rfl) (fun _ _ _ h => h) (Or.inl ⟨by rfl, ?_⟩) (by assumption) ?_
              rotate_left
              · (intro w hSw; (try dsimp only at hSw); go_simp; (try rw [if_neg (by omega)]); (try (with_reducible rfl)))
              simp only [Act.put, List.setIfInBounds_toArray, List.set_cons_zero, List.set_cons_succ]
              refine take_F (i := 39) (d := some 172) (v := ?_) (by kernel_rfl) (by kernel_rfl) rfl rfl (by kernel_rfl) (by kernel_rfl) (by kernel_rfl) (fun _ _ _ h => h) (Or.inl ⟨by rfl, ?_⟩) (by assumption) ?_
              rotate_left
              · (intro w hSw; (try dsimp only at hSw); go_simp; (try rw [if_neg (by omega)]); (try (with_reducible rfl)))
              simp only [Act.put, List.setIfInBounds_toArray, List.set_cons_zero, List.set_cons_succ]
              refine take_F (i := 40) (d := some 173) (v := ?_) (by kernel_rfl) (by kernel_rfl) rfl rfl (by kernel_rfl) (by kernel_rfl) (by kernel_rfl) (fun _ _ _ h => h) (Or.inl ⟨by rfl, ?_⟩) (by assumption) ?_
              rotate_left
              · (intro w hSw; (try dsimp only at hSw); go_simp; (try rw [if_neg (by omega)]); (try (with_reducible rfl)))
              simp only [Act.put, List.setIfInBounds_toArray, List.set_cons_zero, List.set_cons_succ]
              refine take_F (i := 41) (d := some 174) (v := ?_) (by kernel_rfl) (by kernel_rfl) rfl rfl (by kernel_rfl) (by kernel_rfl) (by kernel_rfl) (fun _ _ _ h => h) (Or.inl ⟨by rfl, ?_⟩) (by assumption) ?_
              rotate_left
              · (intro w hSw; (try dsimp only at hSw); go_simp; (try rw [if_neg (by omega)]); (try (with_reducible rfl)))
              simp only [Act.put, List.setIfInBounds_toArray, List.set_cons_zero, List.set_cons_succ]
              refine take_F (i := 42) (d := some 175) (v := ?_) (by kernel_rfl) (by kernel_rfl) rfl rfl (by kernel_rfl) (by kernel_rfl) (by kernel_rfl) (fun _ _ _ h => h) (Or.inl ⟨by rfl, ?_⟩) (by assumption) ?_
              rotate_left
              · (intro w hSw; (try dsimp only at hSw); go_simp; (try rw [if_neg (by omega)]); (try (with_reducible rfl)))
              simp only [Act.put, List.setIfInBounds_toArray, List.set_cons_zero, List.set_cons_succ]
              refine take_F (i := 43) (d := some 176) (v := ?_) (by kernel_rfl) (by kernel_rfl) rfl rfl (by kernel_rfl) (by kernel_rfl) (by kernel_rfl) (fun _ _ _ h => h) (Or.inl ⟨by rfl, ?_⟩) (by assumption) ?_
              rotate_left
              · (intro w hSw; (try dsimp only at hSw); go_simp; (try rw [if_neg (by omega)]); (try (with_reducible rfl)))
              simp only [Act.put, List.setIfInBounds_toArray, List.set_cons_zero, List.set_cons_succ]
              refine take_F (i := 44) (d := some 177) (v := ?_) (by kernel_rfl) (by kernel_rfl) rfl rfl (by kernel_rfl) (by kernel_rfl) (by kernel_rfl) (fun _ _ _ h => h) (Or.inl ⟨by rfl, ?_⟩) (by assumption) ?_
              rotate_left
              · (intro w hSw; (try dsimp only at hSw); go_simp; (try rw [if_neg (by omega)]); (try (with_reducible rfl)))
              simp only [Act.put, List.setIfInBounds_toArray, List.set_cons_zero, List.set_cons_succ]
              refine take_F (i := 45) (d := some 178) (v := ?_) (by kernel_rfl) (by kernel_rfl) rfl rfl (by kernel_rfl) (by kernel_rfl) (by kernel_rfl) (fun _ _ _ h => h) (Or.inl ⟨by rfl, ?_⟩) (by assumption) ?_
              rotate_left
              · (intro w hSw; (try dsimp only at hSw); go_simp; (try rw [if_neg (by omega)]); (try (with_reducible rfl)))
              simp only [Act.put, List.setIfInBounds_toArray, List.set_cons_zero, List.set_cons_succ]
              as_aux_lemma =>
                refine take_L [77,76,70,69,61,56,51,48,46] (i := 46) (d := some 179) (v := ?_) (by kernel_rfl) (by kernel_rfl) (by kernel_rfl) (by kernel_rfl) rfl rfl (by kernel_rfl) (by kernel_rfl) (by kernel_rfl) (fun _ _ _ h => h) (Or.inl ⟨by rfl, ?_⟩) (by assumption) ?_
                rotate_left
                · (intro w hSw; (try dsimp only at hSw); go_simp; (try rw [if_neg (by omega)]); (try (with_reducible rfl)))
                simp only [Act.put, List.setIfInBounds_toArray, List.set_cons_zero, List.set_cons_succ]
                refine take_L [77,76,70,69,61,56,51,48,47] (i := 47) (d := some 180) (v := ?_) (by kernel_rfl) (by kernel_rfl) (by kernel_rfl) (by kernel_rfl) rfl rfl (by kernel_rfl) (by kernel_rfl) (by kernel_rfl) (fun _ _ _ h => h) (Or.inl ⟨by rfl, ?_⟩) (by assumption) ?_
                rotate_left
                · (intro w hSw; (try dsimp only at hSw); go_simp; (try rw [if_neg (by omega)]); (try (with_reducible rfl)))
                simp only [Act.put, List.setIfInBounds_toArray, List.set_cons_zero, List.set_cons_succ]
                refine call_L (i := 48) (d := (some 181)) rfl rfl (by kernel_rfl) (fun Kq hKq => ?_)
                go_simp
                go_at_call 25
                refine (HS25.out _ P25.out.rd P27.out.rd).mono ?_; rintro e w32 ⟨rfl, hb⟩
                have P3' := Lib.hid (P3.out.below hb); clear P3; have P3 := P3'; clear P3'
                have R4' := Lib.hid (rdN R4.out hb); clear R4; have R4 := R4'; clear R4'
                have R6' := Lib.hid (rdN R6.out hb); clear R6; have R6 := R6'; clear R6'
                have R8' := Lib.hid (rdN R8.out hb); clear R8; have R8 := R8'; clear R8'
                have P13' := Lib.hid (P13.out.below hb); clear P13; have P13 := P13'; clear P13'
                have P15' := Lib.hid (P15.out.below hb); clear P15; have P15 := P15'; clear P15'
                have P25' := Lib.hid (P25.out.below hb); clear P25; have P25 := P25'; clear P25'
                have P27' := Lib.hid (P27.out.below hb); clear P27; have P27 := P27'; clear P27'
                have P34' := Lib.hid (P34.out.below hb); clear P34; have P34 := P34'; clear P34'
                have P35' := Lib.hid (P35.out.below hb); clear P35; have P35 := P35'; clear P35'
                have HB' := Lib.hid (HB.out.trans (hb.mono HB.out.size)); clear HB; have HB := HB'; clear HB'
                clear hb
                (try go_wp2_with fail)
                refine hKq.out _ _ (⟨P13.out.cells, P15.out.cells, P25.out.cells, P27.out.cells, P34.out.cells, P35.out.cells, P3.out.cells⟩) (fun hHeld => ?_)
                clear hKq Kq
                (try simp only [Act.put, List.setIfInBounds_toArray, List.set_cons_zero, List.set_cons_succ])
                refine take_F (i := 49) (d := some 182) (v := ?_) (by kernel_rfl) (by kernel_rfl) rfl rfl (by kernel_rfl) (by kernel_rfl) (by kernel_rfl) (fun _ _ _ h => h) (Or.inl ⟨by rfl, ?_⟩) (by assumption) ?_
                rotate_left
                · (intro w hSw; (try dsimp only at hSw); go_simp; (try rw [if_neg (by omega)]); (try (with_reducible rfl)))
                simp only [Act.put, List.setIfInBounds_toArray, List.set_cons_zero, List.set_cons_succ]
                refine take_F (i := 50) (d := some 183) (v := ?_) (by kernel_rfl) (by kernel_rfl) rfl rfl (by kernel_rfl) (by kernel_rfl) (by kernel_rfl) (fun _ _ _ h => h) (Or.inl ⟨by rfl, ?_⟩) (by assumption) ?_
                rotate_left
                · (intro w hSw; (try dsimp only at hSw); go_simp; (try rw [if_neg (by omega)]); (try (with_reducible rfl)))
                simp only [Act.put, List.setIfInBounds_toArray, List.set_cons_zero, List.set_cons_succ]
                refine take_F (i := 51) (d := some 184) (v := ?_) (by kernel_rfl) (by kernel_rfl) rfl rfl (by kernel_rfl) (by kernel_rfl) (by kernel_rfl) (fun _ _ _ h => h) (Or.inl ⟨by rfl, ?_⟩) (by assumption) ?_
                rotate_left
                · (intro w hSw; (try dsimp only at hSw); go_simp; (try rw [if_neg (by omega)]); (try (with_reducible rfl)))
                simp only [Act.put, List.setIfInBounds_toArray, List.set_cons_zero, List.set_cons_succ]
                refine take_F (i := 52) (d := some 185) (v := ?_) (by kernel_rfl) (by kernel_rfl) rfl rfl (by kernel_rfl) (by kernel_rfl) (by kernel_rfl) (fun _ _ _ h => h) (Or.inl ⟨by rfl, ?_⟩) (by assumption) ?_
                rotate_left
                · (intro w hSw; (try dsimp only at hSw); go_simp; (try rw [if_neg (by omega)]); (try (with_reducible rfl)))
                simp only [Act.put, List.setIfInBounds_toArray, List.set_cons_zero, List.set_cons_succ]
                refine take_F (i := 53) (d := some 186) (v := ?_) (by kernel_rfl) (by kernel_rfl) rfl rfl (by kernel_rfl) (by kernel_rfl) (by kernel_rfl) (fun _ _ _ h => h) (Or.inl ⟨by rfl, ?_⟩) (by assumption) ?_
                rotate_left
                · (intro w hSw; (try dsimp only at hSw); go_simp; (try rw [if_neg (by omega)]); (try (with_reducible rfl)))
                simp only [Act.put, List.setIfInBounds_toArray, List.set_cons_zero, List.set_cons_succ]
                refine take_F (i := 54) (d := some 187) (v := ?_) (by kernel_rfl) (by kernel_rfl) rfl rfl (by kernel_rfl) (by kernel_rfl) (by kernel_rfl) (fun _ _ _ h => h) (Or.inl ⟨by rfl, ?_⟩) (by assumption) ?_
                rotate_left
                · (intro w hSw; (try dsimp only at hSw); go_simp; (try rw [if_neg (by omega)]); (try (with_reducible rfl)))
                simp only [Act.put, List.setIfInBounds_toArray, List.set_cons_zero, List.set_cons_succ]
                refine take_F (i := 55) (d := some 188) (v := ?_) (by kernel_rfl) (by kernel_rfl) rfl rfl (by kernel_rfl) (by kernel_rfl) (by kernel_rfl) (fun _ _ _ h => h) (Or.inl ⟨by rfl, ?_⟩) (by assumption) ?_
                rotate_left
                · (intro w hSw; (try dsimp only at hSw); go_simp; (try rw [if_neg (by omega)]); (try (with_reducible rfl)))
                simp only [Act.put, List.setIfInBounds_toArray, List.set_cons_zero, List.set_cons_succ]
                refine take_F (i := 56) (d := some 189) (v := ?_) (by kernel_rfl) (by kernel_rfl) rfl rfl (by kernel_rfl) (by kernel_rfl) (by kernel_rfl) (fun _ _ _ h => h) (Or.inl ⟨by rfl, ?_⟩) (by assumption) ?_
                rotate_left
                · (intro w hSw; (try dsimp only at hSw); go_simp; (try rw [if_neg (by omega)]); (try (with_reducible rfl)))
                simp only [Act.put, List.setIfInBounds_toArray, List.set_cons_zero, List.set_cons_succ]
                refine take_F (i := 57) (d := some 190) (v := ?_) (by kernel_rfl) (by kernel_rfl) rfl rfl (by kernel_rfl) (by kernel_rfl) (by kernel_rfl) (fun _ _ _ h => h) (Or.inl ⟨by rfl, ?_⟩) (by assumption) ?_
                rotate_left
                · (intro w hSw; (try dsimp only at hSw); go_simp; (try rw [if_neg (by omega)]); (try (with_reducible rfl)))
                simp only [Act.put, List.setIfInBounds_toArray, List.set_cons_zero, List.set_cons_succ]
                refine take_F (i := 58) (d := some 191) (v := ?_) (by kernel_rfl) (by kernel_rfl) rfl rfl (by kernel_rfl) (by kernel_rfl) (by kernel_rfl) (fun _ _ _ h => h) (Or.inl ⟨by rfl, ?_⟩) (by assumption) ?_
                rotate_left
                · (intro w hSw; (try dsimp only at hSw); go_simp; (try rw [if_neg (by omega)]); (try (with_reducible rfl)))
                simp only [Act.put, List.setIfInBounds_toArray, List.set_cons_zero, List.set_cons_succ]
                refine take_F (i := 59) (d := some 192) (v := ?_) (by kernel_rfl) (by kernel_rfl) rfl rfl (by kernel_rfl) (by kernel_rfl) (by kernel_rfl) (fun _ _ _ h => h) (Or.inl ⟨by rfl, ?_⟩) (by assumption) ?_
                rotate_left
                · (intro w hSw; (try dsimp only at hSw); go_simp; (try rw [if_neg (by omega)]); (try (with_reducible rfl)))
                simp only [Act.put, List.setIfInBounds_toArray, List.set_cons_zero, List.set_cons_succ]
                refine take_F (i := 60) (d := some 193) (v := ?_) (by kernel_rfl) (by kernel_rfl) rfl rfl (by kernel_rfl) (by kernel_rfl) (by kernel_rfl) (fun _ _ _ h => h) (Or.inl ⟨by rfl, ?_⟩) (by assumption) ?_
                rotate_left
                · (intro w hSw; (try dsimp only at hSw); go_simp; (try rw [if_neg (by omega)]); (try (with_reducible rfl)))
                simp only [Act.put, List.setIfInBounds_toArray, List.set_cons_zero, List.set_cons_succ]
                refine take_F (i := 61) (d := some 194) (v := ?_) (by kernel_rfl) (by kernel_rfl) rfl rfl (by kernel_rfl) (by kernel_rfl) (by kernel_rfl) (fun _ _ _ h => h) (Or.inl ⟨by rfl, ?_⟩) (by assumption) ?_
                rotate_left
                · (intro w hSw; (try dsimp only at hSw); go_simp; (try rw [if_neg (by omega)]); (try (with_reducible rfl)))
                simp only [Act.put, List.setIfInBounds_toArray, List.set_cons_zero, List.set_cons_succ]
                refine take_L [77,76,70,67,64,62] (i := 62) (d := some 195) (v := ?_) (by kernel_rfl) (by kernel_rfl) (by kernel_rfl) (by kernel_rfl) rfl rfl (by kernel_rfl) (by kernel_rfl) (by kernel_rfl) (fun _ _ _ h => h) (Or.inl ⟨by rfl, ?_⟩) (by assumption) ?_
                rotate_left
                · (intro w hSw; (try dsimp only at hSw); go_simp; (try rw [if_neg (by omega)]); (try (with_reducible rfl)))
                simp only [Act.put, List.setIfInBounds_toArray, List.set_cons_zero, List.set_cons_succ]
                refine take_L [77,76,70,67,64,63] (i := 63) (d := some 196) (v := ?_) (by kernel_rfl) (by kernel_rfl) (by kernel_rfl) (by kernel_rfl) rfl rfl (by kernel_rfl) (by kernel_rfl) (by kernel_rfl) (fun _ _ _ h => h) (Or.inl ⟨by rfl, ?_⟩) (by assumption) ?_
                rotate_left
                · (intro w hSw; (try dsimp only at hSw); go_simp; (try rw [if_neg (by omega)]); (try (with_reducible rfl)))
                simp only [Act.put, List.setIfInBounds_toArray, List.set_cons_zero, List.set_cons_succ]
                refine take_L [77,76,70,67,65] (i := 65) (d := some 198) (v := ?_) (by kernel_rfl) (by kernel_rfl) (by kernel_rfl) (by kernel_rfl) rfl rfl (by kernel_rfl) (by kernel_rfl) (by kernel_rfl) (fun _ _ _ h => h) (Or.inl ⟨by rfl, ?_⟩) (by assumption) ?_
                rotate_left
                · (intro w hSw; (try dsimp only at hSw); go_simp; (try rw [if_neg (by omega)]); (try (with_reducible rfl)))
                simp only [Act.put, List.setIfInBounds_toArray, List.set_cons_zero, List.set_cons_succ]
                refine take_L [77,76,70,67,66] (i := 66) (d := some 199) (v := ?_) (by kernel_rfl) (by kernel_rfl) (by kernel_rfl) (by kernel_rfl) rfl rfl (by kernel_rfl) (by kernel_rfl) (by kernel_rfl) (fun _ _ _ h => h) (Or.inl ⟨by rfl, ?_⟩) (by assumption) ?_
                rotate_left
                · (intro w hSw; (try dsimp only at hSw); go_simp; (try rw [if_neg (by omega)]); (try (with_reducible rfl)))
                simp only [Act.put, List.setIfInBounds_toArray, List.set_cons_zero, List.set_cons_succ]
                refine call_L (i := 64) (d := (some 197)) rfl rfl (by kernel_rfl) (fun Kq hKq => ?_)
                go_simp
                go_at_call 26
                refine (HSI.out _ P34.out.rd P35.out.rd).mono ?_; rintro e w33 ⟨rfl, hb⟩
                have P3' := Lib.hid (P3.out.below hb); clear P3; have P3 := P3'; clear P3'
                have R4' := Lib.hid (rdN R4.out hb); clear R4; have R4 := R4'; clear R4'
                have R6' := Lib.hid (rdN R6.out hb); clear R6; have R6 := R6'; clear R6'
                have R8' := Lib.hid (rdN R8.out hb); clear R8; have R8 := R8'; clear R8'
                have P13' := Lib.hid (P13.out.below hb); clear P13; have P13 := P13'; clear P13'
                have P15' := Lib.hid (P15.out.below hb); clear P15; have P15 := P15'; clear P15'
                have P25' := Lib.hid (P25.out.below hb); clear P25; have P25 := P25'; clear P25'
                have P27' := Lib.hid (P27.out.below hb); clear P27; have P27 := P27'; clear P27'
                have P34' := Lib.hid (P34.out.below hb); clear P34; have P34 := P34'; clear P34'
                have P35' := Lib.hid (P35.out.below hb); clear P35; have P35 := P35'; clear P35'
                have HB' := Lib.hid (HB.out.trans (hb.mono HB.out.size)); clear HB; have HB := HB'; clear HB'
                clear hb
                (try go_wp2_with fail)
                refine hKq.out _ _ (⟨P13.out.cells, P15.out.cells, P25.out.cells, P27.out.cells, P34.out.cells, P35.out.cells, P3.out.cells⟩) (fun hHeld => ?_)
                clear hKq Kq
                (try simp only [Act.put, List.setIfInBounds_toArray, List.set_cons_zero, List.set_cons_succ])
                refine call_L (i := 67) (d := (some 200)) rfl rfl (by kernel_rfl) (fun Kq hKq => ?_)
                go_simp
                go_at_call 25
                refine (HSS.out _ P34.out.rd P35.out.rd).mono ?_; rintro e w34 ⟨rfl, hb⟩
                have P3' := Lib.hid (P3.out.below hb); clear P3; have P3 := P3'; clear P3'
                have R4' := Lib.hid (rdN R4.out hb); clear R4; have R4 := R4'; clear R4'
                have R6' := Lib.hid (rdN R6.out hb); clear R6; have R6 := R6'; clear R6'
                have R8' := Lib.hid (rdN R8.out hb); clear R8; have R8 := R8'; clear R8'
                have P13' := Lib.hid (P13.out.below hb); clear P13; have P13 := P13'; clear P13'
                have P15' := Lib.hid (P15.out.below hb); clear P15; have P15 := P15'; clear P15'
                have P25' := Lib.hid (P25.out.below hb); clear P25; have P25 := P25'; clear P25'
                have P27' := Lib.hid (P27.out.below hb); clear P27; have P27 := P27'; clear P27'
                have P34' := Lib.hid (P34.out.below hb); clear P34; have P34 := P34'; clear P34'
                have P35' := Lib.hid (P35.out.below hb); clear P35; have P35 := P35'; clear P35'
                have HB' := Lib.hid (HB.out.trans (hb.mono HB.out.size)); clear HB; have HB := HB'; clear HB'
                clear hb
                (try go_wp2_with fail)
                refine hKq.out _ _ (⟨P13.out.cells, P15.out.cells, P25.out.cells, P27.out.cells, P34.out.cells, P35.out.cells, P3.out.cells⟩) (fun hHeld => ?_)
                clear hKq Kq
                (try simp only [Act.put, List.setIfInBounds_toArray, List.set_cons_zero, List.set_cons_succ])
                refine take_F (i := 68) (d := some 201) (v := ?_) (by kernel_rfl) (by kernel_rfl) rfl rfl (by kernel_rfl) (by kernel_rfl) (by kernel_rfl) (fun _ _ _ h => h) (Or.inl ⟨by rfl, ?_⟩) (by assumption) ?_
                rotate_left
                · (intro w hSw; (try dsimp only at hSw); go_simp; (try rw [if_neg (by omega)]); (try (with_reducible rfl)))
                simp only [Act.put, List.setIfInBounds_toArray, List.set_cons_zero, List.set_cons_succ]
                refine take_F (i := 69) (d := some 202) (v := ?_) (by kernel_rfl) (by kernel_rfl) rfl rfl (by kernel_rfl) (by kernel_rfl) (by kernel_rfl) (fun _ _ _ h => h) (Or.inl ⟨by rfl, ?_⟩) (by assumption) ?_
                rotate_left
                · (intro w hSw; (try dsimp only at hSw); go_simp; (try rw [if_neg (by omega)]); (try (with_reducible rfl)))
                simp only [Act.put, List.setIfInBounds_toArray, List.set_cons_zero, List.set_cons_succ]
                refine take_F (i := 70) (d := some 203) (v := ?_) (by kernel_rfl) (by kernel_rfl) rfl rfl (by kernel_rfl) (by kernel_rfl) (by kernel_rfl) (fun _ _ _ h => h) (Or.inl ⟨by rfl, ?_⟩) (by assumption) ?_
                rotate_left
                · (intro w hSw; (try dsimp only at hSw); go_simp; (try rw [if_neg (by omega)]); (try (with_reducible rfl)))
                simp only [Act.put, List.setIfInBounds_toArray, List.set_cons_zero, List.set_cons_succ]
                as_aux_lemma =>
                  refine take_F (i := 71) (d := some 204) (v := ?_) (by kernel_rfl) (by kernel_rfl) rfl rfl (by kernel_rfl) (by kernel_rfl) (by kernel_rfl) (fun _ _ _ h => h) (Or.inl ⟨by rfl, ?_⟩) (by assumption) ?_
                  rotate_left
                  · (intro w hSw; (try dsimp only at hSw); go_simp; (try rw [if_neg (by omega)]); (try (with_reducible rfl)))
                  simp only [Act.put, List.setIfInBounds_toArray, List.set_cons_zero, List.set_cons_succ]
                  refine take_F (i := 73) (d := some 206) (v := ?_) (by kernel_rfl) (by kernel_rfl) rfl rfl (by kernel_rfl) (by kernel_rfl) (by kernel_rfl) (fun _ _ _ h => h) (Or.inl ⟨by rfl, ?_⟩) (by assumption) ?_
                  rotate_left
                  · (intro w hSw; (try dsimp only at hSw); go_simp; (try rw [if_neg (by omega)]); (try (with_reducible rfl)))
                  simp only [Act.put, List.setIfInBounds_toArray, List.set_cons_zero, List.set_cons_succ]
                  refine call_L (i := 72) (d := (some 205)) rfl rfl (by kernel_rfl) (fun Kq hKq => ?_)
                  go_simp
                  go_at_call 27
                  refine (HNI.out _).mono ?_; rintro e w35 ⟨rfl, hb⟩
                  have P3' := Lib.hid (P3.out.below hb); clear P3; have P3 := P3'; clear P3'
                  have R4' := Lib.hid (rdN R4.out hb); clear R4; have R4 := R4'; clear R4'
                  have R6' := Lib.hid (rdN R6.out hb); clear R6; have R6 := R6'; clear R6'
                  have R8' := Lib.hid (rdN R8.out hb); clear R8; have R8 := R8'; clear R8'
                  have P13' := Lib.hid (P13.out.below hb); clear P13; have P13 := P13'; clear P13'
                  have P15' := Lib.hid (P15.out.below hb); clear P15; have P15 := P15'; clear P15'
                  have P25' := Lib.hid (P25.out.below hb); clear P25; have P25 := P25'; clear P25'
                  have P27' := Lib.hid (P27.out.below hb); clear P27; have P27 := P27'; clear P27'
                  have P34' := Lib.hid (P34.out.below hb); clear P34; have P34 := P34'; clear P34'
                  have P35' := Lib.hid (P35.out.below hb); clear P35; have P35 := P35'; clear P35'
                  have HB' := Lib.hid (HB.out.trans (hb.mono HB.out.size)); clear HB; have HB := HB'; clear HB'
                  clear hb
                  (try go_wp2_with fail)
                  refine hKq.out _ _ (⟨P13.out.cells, P15.out.cells, P25.out.cells, P27.out.cells, P34.out.cells, P35.out.cells, P3.out.cells⟩) (fun hHeld => ?_)
                  clear hKq Kq
                  (try simp only [Act.put, List.setIfInBounds_toArray, List.set_cons_zero, List.set_cons_succ])
                  refine call_L (i := 74) (d := (some 207)) rfl rfl (by kernel_rfl) (fun Kq hKq => ?_)
                  go_simp
                  go_at_call 28
                  refine (HNS.out _).mono ?_; rintro e w36 ⟨rfl, hb⟩
                  have P3' := Lib.hid (P3.out.below hb); clear P3; have P3 := P3'; clear P3'
                  have R4' := Lib.hid (rdN R4.out hb); clear R4; have R4 := R4'; clear R4'
                  have R6' := Lib.hid (rdN R6.out hb); clear R6; have R6 := R6'; clear R6'
                  have R8' := Lib.hid (rdN R8.out hb); clear R8; have R8 := R8'; clear R8'
                  have P13' := Lib.hid (P13.out.below hb); clear P13; have P13 := P13'; clear P13'
                  have P15' := Lib.hid (P15.out.below hb); clear P15; have P15 := P15'; clear P15'
                  have P25' := Lib.hid (P25.out.below hb); clear P25; have P25 := P25'; clear P25'
                  have P27' := Lib.hid (P27.out.below hb); clear P27; have P27 := P27'; clear P27'
                  have P34' := Lib.hid (P34.out.below hb); clear P34; have P34 := P34'; clear P34'
                  have P35' := Lib.hid (P35.out.below hb); clear P35; have P35 := P35'; clear P35'
                  have HB' := Lib.hid (HB.out.trans (hb.mono HB.out.size)); clear HB; have HB := HB'; clear HB'
                  clear hb
                  (try go_wp2_with fail)
                  refine hKq.out _ _ (⟨P13.out.cells, P15.out.cells, P25.out.cells, P27.out.cells, P34.out.cells, P35.out.cells, P3.out.cells⟩) (fun hHeld => ?_)
                  clear hKq Kq
                  (try simp only [Act.put, List.setIfInBounds_toArray, List.set_cons_zero, List.set_cons_succ])
                  refine take_F (i := 75) (d := some 208) (v := ?_) (by kernel_rfl) (by kernel_rfl) rfl rfl (by kernel_rfl) (by kernel_rfl) (by kernel_rfl) (fun _ _ _ h => h) (Or.inl ⟨by rfl, ?_⟩) (by assumption) ?_
                  rotate_left
                  · (intro w hSw; (try dsimp only at hSw); go_simp; (try rw [if_neg (by omega)]); (try (with_reducible rfl)))
                  simp only [Act.put, List.setIfInBounds_toArray, List.set_cons_zero, List.set_cons_succ]
                  refine take_F (i := 76) (d := some 209) (v := ?_) (by kernel_rfl) (by kernel_rfl) rfl rfl (by kernel_rfl) (by kernel_rfl) (by kernel_rfl) (fun _ _ _ h => h) (Or.inl ⟨by rfl, ?_⟩) (by assumption) ?_
                  rotate_left
                  · (intro w hSw; (try dsimp only at hSw); go_simp; (try rw [if_neg (by omega)]); (try (with_reducible rfl)))
                  simp only [Act.put, List.setIfInBounds_toArray, List.set_cons_zero, List.set_cons_succ]
                  refine take_F (i := 77) (d := some 210) (v := ?_) (by kernel_rfl) (by kernel_rfl) rfl rfl (by kernel_rfl) (by kernel_rfl) (by kernel_rfl) (fun _ _ _ h => h) (Or.inl ⟨by rfl, ?_⟩) (by assumption) ?_
                  rotate_left
                  · (intro w hSw; (try dsimp only at hSw); go_simp; (try rw [if_neg (by omega)]); (try (with_reducible rfl)))
                  simp only [Act.put, List.setIfInBounds_toArray, List.set_cons_zero, List.set_cons_succ]
                  refine take_L [82,79,78] (i := 78) (d := some 211) (v := ?_) (by kernel_rfl) (by kernel_rfl) (by kernel_rfl) (by kernel_rfl) rfl rfl (by kernel_rfl) (by kernel_rfl) (by kernel_rfl) (fun _ _ _ h => h) (Or.inl ⟨by rfl, ?_⟩) (by assumption) ?_
                  rotate_left
                  · (intro w hSw; (try dsimp only at hSw); go_simp; (try rw [if_neg (by omega)]); (try (with_reducible rfl)))
                  simp only [Act.put, List.setIfInBounds_toArray, List.set_cons_zero, List.set_cons_succ]
                  refine take_L [82,81,80] (i := 80) (d := some 213) (v := ?_) (by kernel_rfl) (by kernel_rfl) (by kernel_rfl) (by kernel_rfl) rfl rfl (by kernel_rfl) (by kernel_rfl) (by kernel_rfl) (fun _ _ _ h => h) (Or.inl ⟨by rfl, ?_⟩) (by assumption) ?_
                  rotate_left
                  · (intro w hSw; (try dsimp only at hSw); go_simp; (try rw [if_neg (by omega)]); (try (with_reducible rfl)))
                  simp only [Act.put, List.setIfInBounds_toArray, List.set_cons_zero, List.set_cons_succ]
                  refine call_L (i := 79) (d := (some 212)) rfl rfl (by kernel_rfl) (fun Kq hKq => ?_)
                  go_simp
                  go_at_call 29
                  refine (HOI.out _ P3.out.rd).mono ?_; rintro e w37 ⟨rfl, hb⟩
                  have P3' := Lib.hid (P3.out.below hb); clear P3; have P3 := P3'; clear P3'
                  have R4' := Lib.hid (rdN R4.out hb); clear R4; have R4 := R4'; clear R4'
                  have R6' := Lib.hid (rdN R6.out hb); clear R6; have R6 := R6'; clear R6'
                  have R8' := Lib.hid (rdN R8.out hb); clear R8; have R8 := R8'; clear R8'
                  have P13' := Lib.hid (P13.out.below hb); clear P13; have P13 := P13'; clear P13'
                  have P15' := Lib.hid (P15.out.below hb); clear P15; have P15 := P15'; clear P15'
                  have P25' := Lib.hid (P25.out.below hb); clear P25; have P25 := P25'; clear P25'
                  have P27' := Lib.hid (P27.out.below hb); clear P27; have P27 := P27'; clear P27'
                  have P34' := Lib.hid (P34.out.below hb); clear P34; have P34 := P34'; clear P34'
                  have P35' := Lib.hid (P35.out.below hb); clear P35; have P35 := P35'; clear P35'
                  have HB' := Lib.hid (HB.out.trans (hb.mono HB.out.size)); clear HB; have HB := HB'; clear HB'
                  clear hb
                  (try go_wp2_with fail)
                  refine hKq.out _ _ (⟨P13.out.cells, P15.out.cells, P25.out.cells, P27.out.cells, P34.out.cells, P35.out.cells, P3.out.cells⟩) (fun hHeld => ?_)
                  clear hKq Kq
                  (try simp only [Act.put, List.setIfInBounds_toArray, List.set_cons_zero, List.set_cons_succ])
                  refine call_L (i := 81) (d := (some 214)) rfl rfl (by kernel_rfl) (fun Kq hKq => ?_)
                  go_simp
                  go_at_call 30
                  refine (HOS.out _ P3.out.rd).mono ?_; rintro e w38 ⟨rfl, hb⟩
                  have P3' := Lib.hid (P3.out.below hb); clear P3; have P3 := P3'; clear P3'
                  have R4' := Lib.hid (rdN R4.out hb); clear R4; have R4 := R4'; clear R4'
                  have R6' := Lib.hid (rdN R6.out hb); clear R6; have R6 := R6'; clear R6'
                  have R8' := Lib.hid (rdN R8.out hb); clear R8; have R8 := R8'; clear R8'
                  have P13' := Lib.hid (P13.out.below hb); clear P13; have P13 := P13'; clear P13'
                  have P15' := Lib.hid (P15.out.below hb); clear P15; have P15 := P15'; clear P15'
                  have P25' := Lib.hid (P25.out.below hb); clear P25; have P25 := P25'; clear P25'
                  have P27' := Lib.hid (P27.out.below hb); clear P27; have P27 := P27'; clear P27'
                  have P34' := Lib.hid (P34.out.below hb); clear P34; have P34 := P34'; clear P34'
                  have P35' := Lib.hid (P35.out.below hb); clear P35; have P35 := P35'; clear P35'
                  have HB' := Lib.hid (HB.out.trans (hb.mono HB.out.size)); clear HB; have HB := HB'; clear HB'
                  clear hb
                  (try go_wp2_with fail)
                  refine hKq.out _ _ (⟨P13.out.cells, P15.out.cells, P25.out.cells, P27.out.cells, P34.out.cells, P35.out.cells, P3.out.cells⟩) (fun hHeld => ?_)
                  clear hKq Kq
                  (try simp only [Act.put, List.setIfInBounds_toArray, List.set_cons_zero, List.set_cons_succ])
                  refine take_F (i := 82) (d := some 215) (v := ?_) (by kernel_rfl) (by kernel_rfl) rfl rfl (by kernel_rfl) (by kernel_rfl) (by kernel_rfl) (fun _ _ _ h => h) (Or.inl ⟨by rfl, ?_⟩) (by assumption) ?_
                  rotate_left
                  · (intro w hSw; (try dsimp only at hSw); go_simp; (try rw [if_neg (by omega)]); (try (with_reducible rfl)))
                  simp only [Act.put, List.setIfInBounds_toArray, List.set_cons_zero, List.set_cons_succ]
                  refine take_F (i := 83) (d := some 216) (v := ?_) (by kernel_rfl) (by kernel_rfl) rfl rfl (by kernel_rfl) (by kernel_rfl) (by kernel_rfl) (fun _ _ _ h => h) (Or.inl ⟨by rfl, ?_⟩) (by assumption) ?_
                  rotate_left
                  · (intro w hSw; (try dsimp only at hSw); go_simp; (try rw [if_neg (by omega)]); (try (with_reducible rfl)))
                  simp only [Act.put, List.setIfInBounds_toArray, List.set_cons_zero, List.set_cons_succ]
                  refine done_L (by kernel_rfl) ?_ _
                  refine NoPanic.normal ?_
                  clear R6
                  clear P15
                  clear P25
                  clear P27
                  clear P34
                  clear P35
                  clear HSI HSS HNI HNS HOI HOS HS13 HS25 hss34 hss35
                  as_aux_lemma =>
                    have HPN := Lib.hid (fun wx => PfNameI_any T10 wx)
                    obtain ⟨⟨ht0, ht5⟩, hcs⟩ := HLL.out
                    have hpn := pfN_ne ht0 ht5
                    generalize pfN T10 = N10 at *
                    clear HLL ht0 ht5
                    rcases hcs with ⟨hT10, hT9, hC14, hpc, hpl, hsz13⟩ | ⟨hT10, hT9, hC14⟩
                    · as_aux_lemma =>
                        subst hT10 hT9 hC14
                        go_wp2_with fail
                        refine (HPN.out _).mono ?_; rintro e w40 ⟨rfl, hb⟩
                        have P3' := Lib.hid (P3.out.below hb); clear P3; have P3 := P3'; clear P3'
                        have R4' := Lib.hid (rdN R4.out hb); clear R4; have R4 := R4'; clear R4'
                        have R8' := Lib.hid (rdN R8.out hb); clear R8; have R8 := R8'; clear R8'
                        have P13' := Lib.hid (P13.out.below hb); clear P13; have P13 := P13'; clear P13'
                        have HB' := Lib.hid (HB.out.trans (hb.mono HB.out.size)); clear HB; have HB := HB'; clear HB'
                        clear hb HPN
                        have HPP := Lib.hid (fun wx hx ht => PrintPageI_c wx.heap.size s13 a13 b13 A13 n13 c13 f13 wx (by omega) hx (Nat.le_refl _) (by omega) ht)
                        unfold RetPp at HPP
                        rw [hpc, hpl] at HPP
                        clear hpc hpl
                        obtain ⟨p130, p131, p132, p133⟩ := P13.out.cells
                        go_wp2_with fail
                        refine (HPP.out _ P13.out.rd (HTb.out _ HB.out)).mono ?_; rintro e w41 ⟨v37, rfl, ho, hb⟩
                        have P3' := Lib.hid (P3.out.below hb); clear P3; have P3 := P3'; clear P3'
                        have R4' := Lib.hid (rdN R4.out hb); clear R4; have R4 := R4'; clear R4'
                        have R8' := Lib.hid (rdN R8.out hb); clear R8; have R8 := R8'; clear R8'
                        have P13' := Lib.hid (P13.out.below hb); clear P13; have P13 := P13'; clear P13'
                        have HB' := Lib.hid (HB.out.trans (hb.mono HB.out.size)); clear HB; have HB := HB'; clear HB'
                        obtain ⟨A37, c37, rfl⟩ := own_slP ho
                        have R37 := Lib.hid (Rd.of_own ho)
                        clear p130 p131 p132 p133
                        clear hb ho HPP
                        go_wp2_with fail
                        refine (f6texts_sameA _ _ _ _ L8 _ R37.out R8.out (by omega)).mono ?_; rintro e w42 ⟨rfl, k2, hk⟩
                        have hb : Below w41.heap.size w41 w42 := by rw [hk]; exact below_drewN (Below.refl _ _) _
                        have P3' := Lib.hid (P3.out.below hb); clear P3; have P3 := P3'; clear P3'
                        have R4' := Lib.hid (rdN R4.out hb); clear R4; have R4 := R4'; clear R4'
                        have R8' := Lib.hid (rdN R8.out hb); clear R8; have R8 := R8'; clear R8'
                        have P13' := Lib.hid (P13.out.below hb); clear P13; have P13 := P13'; clear P13'
                        have R37' := Lib.hid (rdN R37.out hb); clear R37; have R37 := R37'; clear R37'
                        have HB' := Lib.hid (HB.out.trans (hb.mono HB.out.size)); clear HB; have HB := HB'; clear HB'
                        clear hb hk
                        clear R37
                        clear R8
                        clear P13
                        rcases HLW.out.2 with hc5 | ⟨hc5, hn60, ⟨ha0, ha1⟩, ⟨hb0, hb1⟩, hrd, hrc, hrv, hva⟩
                        · as_aux_lemma =>
                            subst hc5
                            go_wp2_with fail
                            go_ret
                            exact ⟨rfl, HB.out⟩
                        · as_aux_lemma =>
                            subst hc5
                            have HRB := Lib.hid (fun wx hx ht => ReadPageI_any wx.heap.size (.slice A4 L4.length c4) L4 wx hx (Nat.le_refl _) (fun z hz => Nat.le_trans (HLW.out.1 z hz) (by omega)) (by omega) ht)
                            unfold RetRd at HRB
                            rw [hrd, hrc] at HRB
                            dsimp only at HRB
                            have Hrv := Lib.hid hrv
                            have Hva := Lib.hid hva
                            clear hrd hrc hrv hva HLW
                            go_wp2_with fail
                            refine (HRB.out _ R4.out (HTb.out _ HB.out)).mono ?_; rintro e w50 ⟨v39, rfl, ho, hb⟩
                            have P3' := Lib.hid (P3.out.below hb); clear P3; have P3 := P3'; clear P3'
                            have R4' := Lib.hid (rdN R4.out hb); clear R4; have R4 := R4'; clear R4'
                            have HB' := Lib.hid (HB.out.trans (hb.mono HB.out.size)); clear HB; have HB := HB'; clear HB'
                            obtain ⟨A39, c39, rfl⟩ := own_slP ho
                            have R39 := Lib.hid (Rd.of_own ho)
                            clear hb ho HRB
                            have hal := (Below.refl w50.heap.size w50).alloc (Nat.le_refl _) (.cells #[.string s3, .int .i64 a3, .int .i64 b3, .slice A39 n3 c39] 26)
                            have P390 := Lib.hid (PgI.new (s := s3) (a := a3) (b := b3) R39.out)
                            clear R39
                            have P3' := Lib.hid (P3.out.below hal); clear P3; have P3 := P3'; clear P3'
                            have R4' := Lib.hid (rdN R4.out hal); clear R4; have R4 := R4'; clear R4'
                            have HB' := Lib.hid (HB.out.trans (hal.mono HB.out.size)); clear HB; have HB := HB'; clear HB'
                            have P39 := P390; clear P390 hal
                            go_upto_region 33 with (fail)
                            generalize w50.alloc (.cells #[.string s3, .int .i64 a3, .int .i64 b3, .slice A39 n3 c39] 26) = w51 at *
                            generalize w50.heap.size = g39 at *
                            obtain ⟨p30, p31, p32, p33⟩ := P3.out.cells
                            obtain ⟨p390, p391, p392, p393⟩ := P39.out.cells
                            go_wp2_with fail
                            refine (SamePgS_any _ _ s3 a3 b3 _ n3 _ s3 a3 b3 _ n3 f3 _ P39.out.rd (Nat.le_refl _) P3.out.rd (Nat.le_refl _) (by omega)).mono ?_; rintro e w52 ⟨rfl, hb⟩
                            have P3' := Lib.hid (P3.out.below hb); clear P3; have P3 := P3'; clear P3'
                            have R4' := Lib.hid (rdN R4.out hb); clear R4; have R4 := R4'; clear R4'
                            have P39' := Lib.hid (P39.out.below hb); clear P39; have P39 := P39'; clear P39'
                            have HB' := Lib.hid (HB.out.trans (hb.mono HB.out.size)); clear HB; have HB := HB'; clear HB'
                            rw [smPg_self s3 a3 b3 n3 Hrv.out]
                            clear p30 p31 p32 p33
                            clear p390 p391 p392 p393
                            clear hb
                            clear P39
                            have HVA := Lib.hid (fun x wx hx => ValueAtI_any wx.heap.size s3 a3 b3 A3 n3 c3 f3 x wx (by omega) hx (Nat.le_refl _) (by omega))
                            unfold RetVa at HVA
                            obtain ⟨wb, rfl⟩ : ∃ z, z = w52 := ⟨_, rfl⟩
                            obtain ⟨p30, p31, p32, p33⟩ := P3.out.cells
                            go_wp2_with fail
                            clear p30 p31 p32 p33
                            go_loopw [41] (fun i wr => ∃ k : Nat, k ≤ n3 ∧ i = .int .i64 (k : Int) ∧ Below wb.heap.size wb wr) (fun i _ => n3 - (intOf i).toNat)
                            case atStart => exact ⟨0, Nat.zero_le _, rfl, Below.refl _ _⟩
                            case round =>
                              obtain ⟨k, hk, rfl, hbr⟩ := hrel
                              have Hbr := Lib.hid hbr
                              have P3r := Lib.hid (P3.out.below hbr)
                              obtain ⟨p30, p31, p32, p33⟩ := P3r.out.cells
                              by_cases hlt : k < n3
                              · have hlt' : (k : Int) < (n3 : Int) := by omega
                                obtain ⟨hP0, hP1⟩ := arg_bd hlt hn60 ⟨hb0, hb1⟩
                                obtain ⟨hv1, hv2⟩ := Hva.out k hlt
                                have HVk := Lib.hid (fun wx hx => HVA.out (a3 + (k : Int) * b3) wx hx)
                                rw [hv1, hv2] at HVk
                                clear hv1 hv2
                                obtain ⟨P, hPe⟩ : ∃ P, (k : Int) * b3 = P := ⟨_, rfl⟩
                                rw [hPe] at hP0 hP1 HVk
                                have hwp : IntKind.i64.wrap ((k : Int) * b3) = P := by rw [hPe]; exact IntWalk.i64_in _ (by omega)
                                have hwa : IntKind.i64.wrap (a3 + P) = a3 + P := IntWalk.i64_in _ (by omega)
                                clear hPe hbr
                                go_wp2_with fail
                                refine (HVk.out _ P3r.out.rd).mono ?_; rintro e w60 ⟨rfl, hb⟩
                                have P3s := Lib.hid (P3r.out.below hb)
                                have Hbs := Lib.hid (Hbr.out.trans (hb.mono Hbr.out.size))
                                clear p30 p31 p32 p33 hb hwp hwa P3r Hbr
                                obtain ⟨p30, p31, p32, p33⟩ := P3s.out.cells
                                obtain ⟨b1', o1', hA3, _, hcc⟩ := rdF_all P3s.out.rd (by omega)
                                subst hA3
                                have q0 := hcc k hlt
                                generalize f3 k = y at *
                                clear hcc
                                go_wp2_with fail
                                go_roundw
                                case rel => exact ⟨k + 1, by omega, by go_num, Hbs.out⟩
                                case measure => first | (simp [intOf]; done) | (simp [intOf]; omega)
                              · obtain rfl : k = n3 := by omega
                                have hlt' : ¬ ((k : Int) < (k : Int)) := by omega
                                have Hz := Lib.hid (HB.out.trans (hbr.mono HB.out.size))
                                clear hbr
                                go_wp2_with fail
                                go_ret
                                exact ⟨rfl, Hz.out⟩
                    · as_aux_lemma =>
                        have hT9' : (T9 == -1) = false := beq_eq_false_iff_ne.2 hT9
                        subst hC14
                        clear hT9
                        go_wp2_with fail
                        refine (HPN.out _).mono ?_; rintro e w40 ⟨rfl, hb⟩
                        have P3' := Lib.hid (P3.out.below hb); clear P3; have P3 := P3'; clear P3'
                        have R4' := Lib.hid (rdN R4.out hb); clear R4; have R4 := R4'; clear R4'
                        have R8' := Lib.hid (rdN R8.out hb); clear R8; have R8 := R8'; clear R8'
                        have P13' := Lib.hid (P13.out.below hb); clear P13; have P13 := P13'; clear P13'
                        have HB' := Lib.hid (HB.out.trans (hb.mono HB.out.size)); clear HB; have HB := HB'; clear HB'
                        clear hb HPN
                        clear R8
                        clear P13
                        rcases HLW.out.2 with hc5 | ⟨hc5, hn60, ⟨ha0, ha1⟩, ⟨hb0, hb1⟩, hrd, hrc, hrv, hva⟩
                        · as_aux_lemma =>
                            subst hc5
                            go_wp2_with fail
                            go_ret
                            exact ⟨rfl, HB.out⟩
                        · as_aux_lemma =>
                            subst hc5
                            have HRB := Lib.hid (fun wx hx ht => ReadPageI_any wx.heap.size (.slice A4 L4.length c4) L4 wx hx (Nat.le_refl _) (fun z hz => Nat.le_trans (HLW.out.1 z hz) (by omega)) (by omega) ht)
                            unfold RetRd at HRB
                            rw [hrd, hrc] at HRB
                            dsimp only at HRB
                            have Hrv := Lib.hid hrv
                            have Hva := Lib.hid hva
                            clear hrd hrc hrv hva HLW
                            go_wp2_with fail
                            refine (HRB.out _ R4.out (HTb.out _ HB.out)).mono ?_; rintro e w50 ⟨v39, rfl, ho, hb⟩
                            have P3' := Lib.hid (P3.out.below hb); clear P3; have P3 := P3'; clear P3'
                            have R4' := Lib.hid (rdN R4.out hb); clear R4; have R4 := R4'; clear R4'
                            have HB' := Lib.hid (HB.out.trans (hb.mono HB.out.size)); clear HB; have HB := HB'; clear HB'
                            obtain ⟨A39, c39, rfl⟩ := own_slP ho
                            have R39 := Lib.hid (Rd.of_own ho)
                            clear hb ho HRB
                            have hal := (Below.refl w50.heap.size w50).alloc (Nat.le_refl _) (.cells #[.string s3, .int .i64 a3, .int .i64 b3, .slice A39 n3 c39] 26)
                            have P390 := Lib.hid (PgI.new (s := s3) (a := a3) (b := b3) R39.out)
                            clear R39
                            have P3' := Lib.hid (P3.out.below hal); clear P3; have P3 := P3'; clear P3'
                            have R4' := Lib.hid (rdN R4.out hal); clear R4; have R4 := R4'; clear R4'
                            have HB' := Lib.hid (HB.out.trans (hal.mono HB.out.size)); clear HB; have HB := HB'; clear HB'
                            have P39 := P390; clear P390 hal
                            go_upto_region 33 with (fail)
                            generalize w50.alloc (.cells #[.string s3, .int .i64 a3, .int .i64 b3, .slice A39 n3 c39] 26) = w51 at *
                            generalize w50.heap.size = g39 at *
                            obtain ⟨p30, p31, p32, p33⟩ := P3.out.cells
                            obtain ⟨p390, p391, p392, p393⟩ := P39.out.cells
                            go_wp2_with fail
                            refine (SamePgS_any _ _ s3 a3 b3 _ n3 _ s3 a3 b3 _ n3 f3 _ P39.out.rd (Nat.le_refl _) P3.out.rd (Nat.le_refl _) (by omega)).mono ?_; rintro e w52 ⟨rfl, hb⟩
                            have P3' := Lib.hid (P3.out.below hb); clear P3; have P3 := P3'; clear P3'
                            have R4' := Lib.hid (rdN R4.out hb); clear R4; have R4 := R4'; clear R4'
                            have P39' := Lib.hid (P39.out.below hb); clear P39; have P39 := P39'; clear P39'
                            have HB' := Lib.hid (HB.out.trans (hb.mono HB.out.size)); clear HB; have HB := HB'; clear HB'
                            rw [smPg_self s3 a3 b3 n3 Hrv.out]
                            clear p30 p31 p32 p33
                            clear p390 p391 p392 p393
                            clear hb
                            clear P39
                            have HVA := Lib.hid (fun x wx hx => ValueAtI_any wx.heap.size s3 a3 b3 A3 n3 c3 f3 x wx (by omega) hx (Nat.le_refl _) (by omega))
                            unfold RetVa at HVA
                            obtain ⟨wb, rfl⟩ : ∃ z, z = w52 := ⟨_, rfl⟩
                            obtain ⟨p30, p31, p32, p33⟩ := P3.out.cells
                            go_wp2_with fail
                            clear p30 p31 p32 p33
                            go_loopw [41] (fun i wr => ∃ k : Nat, k ≤ n3 ∧ i = .int .i64 (k : Int) ∧ Below wb.heap.size wb wr) (fun i _ => n3 - (intOf i).toNat)
                            case atStart => exact ⟨0, Nat.zero_le _, rfl, Below.refl _ _⟩
                            case round =>
                              obtain ⟨k, hk, rfl, hbr⟩ := hrel
                              have Hbr := Lib.hid hbr
                              have P3r := Lib.hid (P3.out.below hbr)
                              obtain ⟨p30, p31, p32, p33⟩ := P3r.out.cells
                              by_cases hlt : k < n3
                              · have hlt' : (k : Int) < (n3 : Int) := by omega
                                obtain ⟨hP0, hP1⟩ := arg_bd hlt hn60 ⟨hb0, hb1⟩
                                obtain ⟨hv1, hv2⟩ := Hva.out k hlt
                                have HVk := Lib.hid (fun wx hx => HVA.out (a3 + (k : Int) * b3) wx hx)
                                rw [hv1, hv2] at HVk
                                clear hv1 hv2
                                obtain ⟨P, hPe⟩ : ∃ P, (k : Int) * b3 = P := ⟨_, rfl⟩
                                rw [hPe] at hP0 hP1 HVk
                                have hwp : IntKind.i64.wrap ((k : Int) * b3) = P := by rw [hPe]; exact IntWalk.i64_in _ (by omega)
                                have hwa : IntKind.i64.wrap (a3 + P) = a3 + P := IntWalk.i64_in _ (by omega)
                                clear hPe hbr
                                go_wp2_with fail
                                refine (HVk.out _ P3r.out.rd).mono ?_; rintro e w60 ⟨rfl, hb⟩
                                have P3s := Lib.hid (P3r.out.below hb)
                                have Hbs := Lib.hid (Hbr.out.trans (hb.mono Hbr.out.size))
                                clear p30 p31 p32 p33 hb hwp hwa P3r Hbr
                                obtain ⟨p30, p31, p32, p33⟩ := P3s.out.cells
                                obtain ⟨b1', o1', hA3, _, hcc⟩ := rdF_all P3s.out.rd (by omega)
                                subst hA3
                                have q0 := hcc k hlt
                                generalize f3 k = y at *
                                clear hcc
                                go_wp2_with fail
                                go_roundw
                                case rel => exact ⟨k + 1, by omega, by go_num, Hbs.out⟩
                                case measure => first | (simp [intOf]; done) | (simp [intOf]; omega)
                              · obtain rfl : k = n3 := by omega
                                have hlt' : ¬ ((k : Int) < (k : Int)) := by omega
                                have Hz := Lib.hid (HB.out.trans (hbr.mono HB.out.size))
                                clear hbr
                                go_wp2_with fail
                                go_ret
                                exact ⟨rfl, Hz.out⟩
end Go.Proofs.YtnhngccfbnnpoaaDoor
