/- The walk of the law FnSignals. -/
import Derived.Test.YthdlepejbikofaaSignals
import Derived.Deep.DeepCutAuto
import Derived.Deep.CutRange
namespace Go.Proofs.Ythdlepejbikofaa
open Go.RowKit Go.Joins

/-- the block of a signal -/
def Sg (w : World) (g : Nat) (a b : Bool) : Prop := w.heap[g]? = some (.cells #[.bool a, .bool b] 42 (0, 0))
theorem Sg.below {w w' : World} {g : Nat} {a b : Bool} (h : Sg w g a b) (hb : Below w.heap.size w w') : Sg w' g a b := (hb.block _ (Array.getElem?_eq_some_iff.1 h).1).trans h
theorem Sg.new (w : World) (a b : Bool) : Sg (w.alloc (.cells #[.bool a, .bool b] 42)) w.heap.size a b := heap_alloc_new w _
theorem Sg.alloc {w : World} {g : Nat} {a b : Bool} (h : Sg w g a b) (o : Obj) : Sg (w.alloc o) g a b := h.below ((Below.refl _ _).alloc (Nat.le_refl _) o)
theorem Sg.cells {w : World} {g : Nat} {a b : Bool} (h : Sg w g a b) : w.cell? ⟨g, 0, none⟩ = some (.bool a) ∧ w.cell? ⟨g, 1, none⟩ = some (.bool b) := ⟨(blk2 h).1, (blk2 h).2.1⟩
theorem Sg.lt {w : World} {g : Nat} {a b : Bool} (h : Sg w g a b) : g < w.heap.size := (Array.getElem?_eq_some_iff.1 h).1

theorem sg_neq (a b : Bool) (w : World) : (binOp .neq 42 (.agg #[.bool a, .bool b]) (.agg #[.bool a, .bool b])).run Try.prog w = .ok (.bool false) w := by
  cases a <;> cases b <;> kernel_rfl
theorem sg_eql (a b : Bool) (w : World) : (binOp .eql 42 (.agg #[.bool a, .bool b]) (.agg #[.bool a, .bool b])).run Try.prog w = .ok (.bool true) w := by
  cases a <;> cases b <;> kernel_rfl

theorem bcell' {W w1 : World} (hb : Below W.heap.size W w1) : (∀ b o, b < W.heap.size → w1.cell? ⟨b, o, none⟩ = W.cell? ⟨b, o, none⟩) ∧ (∀ b o, b < W.heap.size → w1.frozen? ⟨b, o, none⟩ = W.frozen? ⟨b, o, none⟩) :=
  ⟨fun b o h => hb.cell (p := ⟨b, o, none⟩) h, fun b o h => hb.frozen (p := ⟨b, o, none⟩) h⟩

theorem six_ne {w : World} {n1 n2 n3 : Nat} {a b c d e f : Value}
    (h : w.cell? ⟨n1, 0, none⟩ = some a ∧ w.cell? ⟨n1, 1, none⟩ = some b ∧ w.cell? ⟨n2, 0, none⟩ = some c ∧ w.cell? ⟨n2, 1, none⟩ = some d ∧ w.cell? ⟨n3, 0, none⟩ = some e ∧ w.cell? ⟨n3, 1, none⟩ = some f) :
    ¬ w.heap.size = n1 ∧ ¬ w.heap.size = n2 ∧ ¬ w.heap.size = n3 := by
  obtain ⟨h1, h2, h3, h4, h5, h6⟩ := h
  have e1 := World.block_lt_of_cell? w _ h1
  have e2 := World.block_lt_of_cell? w _ h3
  have e3 := World.block_lt_of_cell? w _ h5
  simp at e1 e2 e3
  omega

/-- six cells are kept -/
theorem six_below {w w' : World} {n1 n2 n3 : Nat} {a b c d e f : Value} (hb : Below w.heap.size w w')
    (h : w.cell? ⟨n1, 0, none⟩ = some a ∧ w.cell? ⟨n1, 1, none⟩ = some b ∧ w.cell? ⟨n2, 0, none⟩ = some c ∧ w.cell? ⟨n2, 1, none⟩ = some d ∧ w.cell? ⟨n3, 0, none⟩ = some e ∧ w.cell? ⟨n3, 1, none⟩ = some f) :
    w'.cell? ⟨n1, 0, none⟩ = some a ∧ w'.cell? ⟨n1, 1, none⟩ = some b ∧ w'.cell? ⟨n2, 0, none⟩ = some c ∧ w'.cell? ⟨n2, 1, none⟩ = some d ∧ w'.cell? ⟨n3, 0, none⟩ = some e ∧ w'.cell? ⟨n3, 1, none⟩ = some f := by
  obtain ⟨h1, h2, h3, h4, h5, h6⟩ := h
  exact ⟨(hb.cell (World.block_lt_of_cell? w _ h1)).trans h1, (hb.cell (World.block_lt_of_cell? w _ h2)).trans h2, (hb.cell (World.block_lt_of_cell? w _ h3)).trans h3, (hb.cell (World.block_lt_of_cell? w _ h4)).trans h4, (hb.cell (World.block_lt_of_cell? w _ h5)).trans h5, (hb.cell (World.block_lt_of_cell? w _ h6)).trans h6⟩

/-- eight cells are kept -/
theorem eight_below {w w' : World} {n1 n2 n3 n4 : Nat} {a b c d e f g k : Value} (hb : Below w.heap.size w w')
    (h : w.cell? ⟨n1, 0, none⟩ = some a ∧ w.cell? ⟨n1, 1, none⟩ = some b ∧ w.cell? ⟨n2, 0, none⟩ = some c ∧ w.cell? ⟨n2, 1, none⟩ = some d ∧ w.cell? ⟨n3, 0, none⟩ = some e ∧ w.cell? ⟨n3, 1, none⟩ = some f ∧ w.cell? ⟨n4, 0, none⟩ = some g ∧ w.cell? ⟨n4, 1, none⟩ = some k) :
    w'.cell? ⟨n1, 0, none⟩ = some a ∧ w'.cell? ⟨n1, 1, none⟩ = some b ∧ w'.cell? ⟨n2, 0, none⟩ = some c ∧ w'.cell? ⟨n2, 1, none⟩ = some d ∧ w'.cell? ⟨n3, 0, none⟩ = some e ∧ w'.cell? ⟨n3, 1, none⟩ = some f ∧ w'.cell? ⟨n4, 0, none⟩ = some g ∧ w'.cell? ⟨n4, 1, none⟩ = some k := by
  obtain ⟨h1, h2, h3, h4, h5, h6, h7, h8⟩ := h
  have q := fun (p : Addr) (v : Value) (hc : w.cell? p = some v) => (hb.cell (World.block_lt_of_cell? w _ hc)).trans hc
  exact ⟨q _ _ h1, q _ _ h2, q _ _ h3, q _ _ h4, q _ _ h5, q _ _ h6, q _ _ h7, q _ _ h8⟩

/-- ten cells -/
def Ten (w : World) (n1 n2 n3 n4 n5 : Nat) (a b c d e f g h : Value) : Prop :=
  w.cell? ⟨n1, 0, none⟩ = some a ∧ w.cell? ⟨n1, 1, none⟩ = some b ∧ w.cell? ⟨n2, 0, none⟩ = some c ∧ w.cell? ⟨n2, 1, none⟩ = some d ∧ w.cell? ⟨n3, 0, none⟩ = some e ∧ w.cell? ⟨n3, 1, none⟩ = some f ∧
  w.cell? ⟨n4, 0, none⟩ = some g ∧ w.cell? ⟨n4, 1, none⟩ = some h ∧ w.cell? ⟨n5, 0, none⟩ = some g ∧ w.cell? ⟨n5, 1, none⟩ = some h
theorem Ten.below {w w' : World} {n1 n2 n3 n4 n5 : Nat} {a b c d e f g h : Value} (hb : Below w.heap.size w w') (t : Ten w n1 n2 n3 n4 n5 a b c d e f g h) : Ten w' n1 n2 n3 n4 n5 a b c d e f g h := by
  obtain ⟨h1, h2, h3, h4, h5, h6, h7, h8, h9, h10⟩ := t
  have k := fun (p : Addr) (v : Value) (hc : w.cell? p = some v) => (hb.cell (World.block_lt_of_cell? w _ hc)).trans hc
  exact ⟨k _ _ h1, k _ _ h2, k _ _ h3, k _ _ h4, k _ _ h5, k _ _ h6, k _ _ h7, k _ _ h8, k _ _ h9, k _ _ h10⟩

set_option maxRecDepth 100000 in
set_option maxHeartbeats 4000000 in
theorem walkFnSignals {W : World} (v1 : Value) (bs1 : List UInt8) (h1 : Rd W W.heap.size v1 bs1.length 1 (bs1.map byV)) (_l1 : bs1.length ≤ maxLen) (v2 : Value) (bs2 : List UInt8) (h2 : Rd W W.heap.size v2 bs2.length 1 (bs2.map byV)) (_l2 : bs2.length ≤ maxLen) :
    Calls Try.prog 10 #[v1, v2] W fun e w' => e = .returned (.bool true) ∧ Below W.heap.size W w' := by
  have hb0 := Below.refl W.heap.size W
  have H1 := Lib.hid h1; clear h1
  have H2 := Lib.hid h2; clear h2
  cases hl : (decide (3000 < bs1.length) || decide (3000 < bs2.length))
  · go_enter Try.func10, Try.ntmps10
    go_wp2_with fail
    refine (a2Long_any _ _ _ _ v1 v2 _ _ _ H1.out H2.out).mono ?_; rintro e w0 ⟨rfl, rfl⟩
    go_wp2_with fail
    refine (A2Signals_any _ v1 bs1 _ H1.out (Nat.le_refl _)).mono ?_; rintro e w1 ⟨xm, xp, ym, yp, zm, zp, rfl, hb1⟩
    go_wp2_with fail
    have hx := ((Sg.new w1 xm xp).alloc (.cells #[.bool ym, .bool yp] 42)).alloc (.cells #[.bool zm, .bool zp] 42)
    have hy := (Sg.new (w1.alloc (.cells #[.bool xm, .bool xp] 42)) ym yp).alloc (.cells #[.bool zm, .bool zp] 42)
    have hz := Sg.new ((w1.alloc (.cells #[.bool xm, .bool xp] 42)).alloc (.cells #[.bool ym, .bool yp] 42)) zm zp
    simp only [World.size_alloc] at hy hz
    have hb4 := (((hb1.alloc hb1.size (.cells #[.bool xm, .bool xp] 42)).alloc (by simp; have := hb1.size; omega) (.cells #[.bool ym, .bool yp] 42)).alloc (by simp; have := hb1.size; omega) (.cells #[.bool zm, .bool zp] 42))
    generalize (((w1.alloc (.cells #[.bool xm, .bool xp] 42)).alloc (.cells #[.bool ym, .bool yp] 42)).alloc (.cells #[.bool zm, .bool zp] 42)) = w4 at *
    generalize w1.heap.size = N at *
    clear hb1
    have Hx := Lib.hid hx; clear hx
    have Hy := Lib.hid hy; clear hy
    have Hz := Lib.hid hz; clear hz
    have Hb4 := Lib.hid hb4; clear hb4
    have HA1 := Lib.hid (jM_assoc xm ym zm yp zp)
    have HA2 := Lib.hid (jP_assoc xp yp zp)
    go_cut [8] (fun s8 wx => ∃ g : Nat, s8 = .pointer (some ⟨g, 0, none⟩) ∧ wx.cell? ⟨g, 0, none⟩ = some (.bool (jM xm (jM ym zm zp) (jP yp zp))) ∧ wx.cell? ⟨g, 1, none⟩ = some (.bool (jP xp (jP yp zp))) ∧ Below w4.heap.size w4 wx)
    case first =>
      obtain ⟨hx0, hx1⟩ := Hx.out.cells
      obtain ⟨hy0, hy1⟩ := Hy.out.cells
      obtain ⟨hz0, hz1⟩ := Hz.out.cells
      obtain ⟨e1, e2, e3⟩ := six_ne ⟨hx0, hx1, hy0, hy1, hz0, hz1⟩
      have hacc : Below w4.heap.size w4 w4.drew := (Below.refl _ _).drew
      have joinI' := @joinI
      have HJ := Lib.hid joinI'; clear joinI'
      go_region_held3 (fun w' => w'.cell? ⟨N, 0, none⟩ = some (.bool xm) ∧ w'.cell? ⟨N, 1, none⟩ = some (.bool xp) ∧ w'.cell? ⟨N + 1, 0, none⟩ = some (.bool ym) ∧ w'.cell? ⟨N + 1, 1, none⟩ = some (.bool yp) ∧ w'.cell? ⟨N + 1 + 1, 0, none⟩ = some (.bool zm) ∧ w'.cell? ⟨N + 1 + 1, 1, none⟩ = some (.bool zp))
        (first | go_keep | assumption)
        ((go_at_call 31; refine (HJ.out _ _ _ _ _).mono ?_; rintro e wq ⟨rfl, hbq⟩; have hacc' : Below w4.heap.size w4 wq := (by first | exact hacc.trans (hbq.mono hacc.size) | exact (hacc.alloc hacc.size _).trans (hbq.mono (Nat.le_trans hacc.size (by simp)))); clear hacc; have hacc := hacc'; clear hacc'; have hzz := hacc.size; have hSq := six_below hbq (by assumption); obtain ⟨e1, e2, e3⟩ := six_ne hSq; obtain ⟨hcq, hfq⟩ := bcell' hbq; (try have hzq : w4.heap.size < wq.heap.size := by have := hbq.size; simp at this; omega)))
      all_goals
        go_wp2_with fail
        go_meet
        rw [HA1.out, HA2.out]
        refine ⟨_, rfl, ?_, ?_, ?_⟩
        · go_simp
        · go_simp
        · first | exact hacc.alloc hacc.size _ | exact (hacc.setCell (p := ⟨_, 0, none⟩) (by first | exact Nat.le_refl _ | assumption) _).setCell (p := ⟨_, 1, none⟩) (by first | exact Nat.le_refl _ | assumption) _
    case rest =>
      obtain ⟨g8, rfl, hg80, hg81, hbc⟩ := hcut
      have Hx5 := Lib.hid (Hx.out.below hbc)
      have Hy5 := Lib.hid (Hy.out.below hbc)
      have Hz5 := Lib.hid (Hz.out.below hbc)
      have Hb5 := Lib.hid (Hb4.out.trans (hbc.mono Hb4.out.size))
      have hL8 := World.block_lt_of_cell? wc _ hg80
      clear Hx Hy Hz hbc
      go_wp2_with fail
      obtain ⟨wc, rfl⟩ : ∃ wd, wd = wc := ⟨_, rfl⟩
      go_cut [9] (fun s9 wx => ∃ g : Nat, s9 = .pointer (some ⟨g, 0, none⟩) ∧ wx.cell? ⟨g, 0, none⟩ = some (.bool (jM xm (jM ym zm zp) (jP yp zp))) ∧ wx.cell? ⟨g, 1, none⟩ = some (.bool (jP xp (jP yp zp))) ∧ Below wc.heap.size wc wx)
      case first =>
        obtain ⟨hx0, hx1⟩ := Hx5.out.cells
        obtain ⟨hy0, hy1⟩ := Hy5.out.cells
        obtain ⟨hz0, hz1⟩ := Hz5.out.cells
        obtain ⟨e1, e2, e3⟩ := six_ne ⟨hx0, hx1, hy0, hy1, hz0, hz1⟩
        have hacc : Below wc.heap.size wc wc.drew := (Below.refl _ _).drew
        have joinI' := @joinI
        have HJ := Lib.hid joinI'; clear joinI'
        go_region_held3 (fun w' => w'.cell? ⟨N, 0, none⟩ = some (.bool xm) ∧ w'.cell? ⟨N, 1, none⟩ = some (.bool xp) ∧ w'.cell? ⟨N + 1, 0, none⟩ = some (.bool ym) ∧ w'.cell? ⟨N + 1, 1, none⟩ = some (.bool yp) ∧ w'.cell? ⟨N + 1 + 1, 0, none⟩ = some (.bool zm) ∧ w'.cell? ⟨N + 1 + 1, 1, none⟩ = some (.bool zp))
          (first | go_keep | assumption)
          ((go_at_call 31; refine (HJ.out _ _ _ _ _).mono ?_; rintro e wq ⟨rfl, hbq⟩; have hacc' : Below wc.heap.size wc wq := (by first | exact hacc.trans (hbq.mono hacc.size) | exact (hacc.alloc hacc.size _).trans (hbq.mono (Nat.le_trans hacc.size (by simp)))); clear hacc; have hacc := hacc'; clear hacc'; have hzz := hacc.size; have hSq := six_below hbq (by assumption); obtain ⟨e1, e2, e3⟩ := six_ne hSq; obtain ⟨hcq, hfq⟩ := bcell' hbq; (try have hzq : wc.heap.size < wq.heap.size := by have := hbq.size; simp at this; omega)))
        all_goals
          go_wp2_with fail
          go_meet
          refine ⟨_, rfl, ?_, ?_, ?_⟩
          · go_simp
          · go_simp
          · first | exact hacc.alloc hacc.size _ | exact (hacc.setCell (p := ⟨_, 0, none⟩) (by first | exact Nat.le_refl _ | assumption) _).setCell (p := ⟨_, 1, none⟩) (by first | exact Nat.le_refl _ | assumption) _
      case rest =>
        obtain ⟨g9, rfl, hg90, hg91, hbd⟩ := hcut
        have T : Ten wc N (N + 1) (N + 1 + 1) g8 g9 (.bool xm) (.bool xp) (.bool ym) (.bool yp) (.bool zm) (.bool zp) (.bool (jM xm (jM ym zm zp) (jP yp zp))) (.bool (jP xp (jP yp zp))) :=
          ⟨(Hx5.out.below hbd).cells.1, (Hx5.out.below hbd).cells.2, (Hy5.out.below hbd).cells.1, (Hy5.out.below hbd).cells.2, (Hz5.out.below hbd).cells.1, (Hz5.out.below hbd).cells.2, (hbd.cell hL8).trans hg80, (hbd.cell (World.block_lt_of_cell? _ _ hg81)).trans hg81, hg90, hg91⟩
        have Hb6 := Lib.hid (Hb5.out.trans (hbd.mono Hb5.out.size))
        have H26 := Lib.hid (H2.out.below Hb6.out)
        clear hg80 hg81 hg90 hg91 hbd hL8 Hx5 Hy5 Hz5
        have HA1' := Lib.hid HA1.out
        generalize hLM : jM xm (jM ym zm zp) (jP yp zp) = LM at *
        generalize hLP : jP xp (jP yp zp) = LP at *
        have HLM := Lib.hid hLM; clear hLM
        have HLP := Lib.hid hLP; clear hLP
        go_wp2_with fail
        refine (a2At_any _ v2 bs2 2 0 _ H26.out (by omega)).mono ?_; rintro e w6 ⟨⟨x, rfl, hx0, hx1, _⟩, rfl⟩
        have hx01 : x = 0 ∨ x = 1 := by omega
        have Hx01 := Lib.hid hx01; clear hx01 hx1 hx0
        obtain ⟨c1, c2, c3, c4, c5, c6, c7, c8, c9, c10⟩ := T
        go_wp2_with fail
        refine (carryI xm xp x Hx01.out _).mono ?_; rintro e w7 ⟨rfl, hb7⟩
        have T7 := Ten.below hb7 ⟨c1, c2, c3, c4, c5, c6, c7, c8, c9, c10⟩
        clear c1 c2 c3 c4 c5 c6 c7 c8 c9 c10
        obtain ⟨c1, c2, c3, c4, c5, c6, c7, c8, c9, c10⟩ := T7
        have Hb7 := Lib.hid (Hb6.out.trans (hb7.mono Hb6.out.size)); clear hb7
        have HA := Lib.hid (thr_01 xm xp x)
        generalize hA : thr xm xp x = A at *
        have HAe := Lib.hid hA; clear hA
        have hA0 : 0 ≤ A := by rcases HA.out with h | h <;> omega
        have hA1 : A ≤ 1 := by rcases HA.out with h | h <;> omega
        have hneq := sg_neq LM LP
        go_wp2_with fail
        clear hneq
        refine (carryI ym yp A HA.out _).mono ?_; rintro e w8 ⟨rfl, hb8⟩
        have T8 := Ten.below hb8 ⟨c1, c2, c3, c4, c5, c6, c7, c8, c9, c10⟩
        clear c1 c2 c3 c4 c5 c6 c7 c8 c9 c10
        obtain ⟨c1, c2, c3, c4, c5, c6, c7, c8, c9, c10⟩ := T8
        have Hb8 := Lib.hid (Hb7.out.trans (hb8.mono Hb7.out.size)); clear hb8
        have HJ := Lib.hid (thr_join xm xp ym yp x Hx01.out)
        rw [HAe.out] at HJ
        generalize hBB : thr ym yp A = BB at *
        go_wp2_with fail
        refine (joinI xm xp ym yp _).mono ?_; rintro e w9 ⟨rfl, hb9⟩
        have T9 := Ten.below hb9 ⟨c1, c2, c3, c4, c5, c6, c7, c8, c9, c10⟩
        clear c1 c2 c3 c4 c5 c6 c7 c8 c9 c10
        have Hb9 := Lib.hid (Hb8.out.trans (hb9.mono Hb8.out.size)); clear hb9
        go_wp2_with fail
        refine (carryI _ _ x Hx01.out _).mono ?_; rintro e w10 ⟨rfl, hb10⟩
        rw [HJ.out]
        have T10 := Ten.below hb10 T9
        obtain ⟨c1, c2, c3, c4, c5, c6, c7, c8, c9, c10⟩ := T10
        have Hb10 := Lib.hid (Hb9.out.trans (hb10.mono Hb9.out.size)); clear hb10 T9
        go_wp2_with fail
        refine (joinS xm xp ym yp _).mono ?_; rintro e w11 ⟨rfl, hb11⟩
        have T11 := Ten.below hb11 ⟨c1, c2, c3, c4, c5, c6, c7, c8, c9, c10⟩
        clear c1 c2 c3 c4 c5 c6 c7 c8 c9 c10
        have Hb11 := Lib.hid (Hb10.out.trans (hb11.mono Hb10.out.size)); clear hb11
        go_wp2_with fail
        refine (carryS _ _ x Hx01.out _).mono ?_; rintro e w12 ⟨rfl, hb12⟩
        rw [HJ.out]
        have T12 := Ten.below hb12 T11
        obtain ⟨c1, c2, c3, c4, c5, c6, c7, c8, c9, c10⟩ := T12
        have Hb12 := Lib.hid (Hb11.out.trans (hb12.mono Hb11.out.size)); clear hb12 T11
        go_wp2_with fail
        have HC1 := Lib.hid (show jM (jM xm ym yp) zm zp = LM from (jM_assoc xm ym zm yp zp).trans HLM.out)
        have HC2 := Lib.hid (show jP (jP xp yp) zp = LP from (jP_assoc xp yp zp).trans HLP.out)
        have heql := sg_eql LM LP
        have hacc : Below w12.heap.size w12 w12.drew := (Below.refl _ _).drew
        have joinS' := @joinS
        have HJ := Lib.hid joinS'; clear joinS' c9 c10
        go_region_held3 (fun w' => w'.cell? ⟨N, 0, none⟩ = some (.bool xm) ∧ w'.cell? ⟨N, 1, none⟩ = some (.bool xp) ∧ w'.cell? ⟨N + 1, 0, none⟩ = some (.bool ym) ∧ w'.cell? ⟨N + 1, 1, none⟩ = some (.bool yp) ∧ w'.cell? ⟨N + 1 + 1, 0, none⟩ = some (.bool zm) ∧ w'.cell? ⟨N + 1 + 1, 1, none⟩ = some (.bool zp) ∧ w'.cell? ⟨g8, 0, none⟩ = some (.bool LM) ∧ w'.cell? ⟨g8, 1, none⟩ = some (.bool LP))
          (first | go_keep | assumption)
          ((go_at_call 35; refine (HJ.out _ _ _ _ _).mono ?_; rintro e wq ⟨rfl, hbq⟩; (try rw [HC1.out, HC2.out]); have hacc' : Below w12.heap.size w12 wq := (hacc.trans (hbq.mono hacc.size)); clear hacc; have hacc := hacc'; clear hacc'; have hSq := eight_below hbq (by assumption)))
        all_goals
          go_wp2_with fail
          go_ret
          exact ⟨rfl, Hb12.out.trans (hacc.mono Hb12.out.size)⟩
  · go_enter Try.func10, Try.ntmps10
    go_wp2_with fail
    refine (a2Long_any _ _ _ _ v1 v2 _ _ _ H1.out H2.out).mono ?_; rintro e w0 ⟨rfl, rfl⟩
    go_wp2_with fail
    go_ret
    exact ⟨rfl, hb0⟩

end Go.Proofs.Ythdlepejbikofaa
