/- Programs of hand movements, part 1: single instructions. -/
import Derived.Test.YtjkjlpjeamifbaaDoorLib
import Derived.Test.YtjkjlpjeamifbaaDoorBase
import Derived.Test.YtjkjlpjeamifbaaDoorArgRows
import Derived.Lib.SmallJoins
namespace Go.Proofs.YtjkjlpjeamifbaaDoor
open Go.RowKit Go.Joins

theorem blkp {w : World} {g : Nat} {a b : Value} {t : TypeId} (h : w.heap[g]? = some (.cells #[a, b] t (0, 0))) :
    w.cell? ⟨g, 0, none⟩ = some a ∧ w.cell? ⟨g, 1, none⟩ = some b := ⟨(blk2 h).1, (blk2 h).2.1⟩

/-- what the number of an operation may be -/
def argF (op a : Int) : Bool := if op = 1 then inB a 0 1000000000000 else if op = 2 ∨ op = 3 ∨ op = 4 ∨ op = 5 ∨ op = 8 then inB a 1 100 else decide (a = 0)
def okIns (op a : Int) : Bool := inB op 1 10 && argF op a
def opens (op : Int) : Bool := decide (op = 8 ∨ op = 9)
/-- how many loops are open behind an instruction, and its fault -/
def stepV (op d : Int) : Int := if op = 10 then (if d = 0 then 0 else d - 1) else if op = 8 ∨ op = 9 then (if d = 4 then d else d + 1) else d
def stepF (op d : Int) : Int := if op = 10 then (if d = 0 then 4 else 0) else if op = 8 ∨ op = 9 then (if d = 4 then 5 else 0) else 0

theorem op_cases (op : Int) : op = 1 ∨ op = 2 ∨ op = 3 ∨ op = 4 ∨ op = 5 ∨ op = 6 ∨ op = 7 ∨ op = 8 ∨ op = 9 ∨ op = 10 ∨
    ((op == 1) = false ∧ (op == 2) = false ∧ (op == 3) = false ∧ (op == 4) = false ∧ (op == 5) = false ∧ (op == 6) = false ∧ (op == 7) = false ∧ (op == 8) = false ∧ (op == 9) = false ∧ (op == 10) = false) := by
  simp only [beq_eq_false_iff_ne]; omega

set_option maxRecDepth 100000 in
set_option maxHeartbeats 1600000 in
theorem isInstr_any (op a : Int) (w : World) :
    Calls Tryd.prog 74 #[.agg #[.int .i64 op, .int .i64 a]] w fun e w' => e = .returned (.bool (okIns op a)) ∧ Below w.heap.size w w' := by
  have hb0 := Lib.hid ((Below.refl w.heap.size w).alloc (Nat.le_refl _) (.cells #[.int .i64 op, .int .i64 a] 70))
  have HB := Lib.hid (fun lo hi wx => between_any a lo hi wx)
  rcases op_cases op with rfl | rfl | rfl | rfl | rfl | rfl | rfl | rfl | rfl | rfl | ⟨h1, h2, h3, h4, h5, h6, h7, h8, h9, h10⟩
  case inr.inr.inr.inr.inr.inr.inr.inr.inr.inr =>
    have hfin := Lib.hid (show okIns op a = false by
      unfold okIns inB
      simp only [beq_eq_false_iff_ne] at *
      simp; omega)
    go_enter Tryd.func74, Tryd.ntmps74
    go_wp2_with fail
    go_ret
    rw [hfin.out]; exact ⟨rfl, hb0.out⟩
  all_goals
    go_enter Tryd.func74, Tryd.ntmps74
    go_wp2_with fail
    (try (refine (HB.out _ _ _).mono ?_; rintro e w1 ⟨rfl, rfl⟩; go_wp2_with fail))
    go_ret
    exact ⟨rfl, hb0.out⟩

set_option maxRecDepth 100000 in
set_option maxHeartbeats 1600000 in
theorem l11Arg_any (op a : Int) (w : World) :
    Calls Tryd.prog 72 #[.int .i64 op, .int .i64 a] w fun e w' => e = .returned (.bool (argF op a)) ∧ w = w' := by
  have HB := Lib.hid (fun lo hi wx => l00In_any a lo hi wx)
  rcases op_cases op with rfl | rfl | rfl | rfl | rfl | rfl | rfl | rfl | rfl | rfl | ⟨h1, h2, h3, h4, h5, h6, h7, h8, h9, h10⟩
  case inr.inr.inr.inr.inr.inr.inr.inr.inr.inr =>
    have hfin := Lib.hid (show argF op a = decide (a = 0) by
      unfold argF
      simp only [beq_eq_false_iff_ne] at *
      simp [h1, h2, h3, h4, h5, h8])
    go_enter Tryd.func72, Tryd.ntmps72
    go_wp2_with fail
    go_ret
    rw [hfin.out]; exact ⟨rfl, rfl⟩
  all_goals
    go_enter Tryd.func72, Tryd.ntmps72
    go_wp2_with fail
    (try (refine (HB.out _ _ _).mono ?_; rintro e w1 ⟨rfl, rfl⟩; go_wp2_with fail))
    go_ret
    exact ⟨rfl, rfl⟩

theorem begins_any (op a : Int) (w : World) :
    Calls Tryd.prog 76 #[.agg #[.int .i64 op, .int .i64 a]] w fun e w' => e = .returned (.bool (opens op)) ∧ Below w.heap.size w w' := by
  have hb0 := Lib.hid ((Below.refl w.heap.size w).alloc (Nat.le_refl _) (.cells #[.int .i64 op, .int .i64 a] 70))
  by_cases h8 : op = 8
  · subst h8
    go_enter Tryd.func76, Tryd.ntmps76
    go_wp2_with fail
    go_ret
    exact ⟨rfl, hb0.out⟩
  · have hq : (op == 8) = false := by simpa using h8
    have hfin := Lib.hid (show opens op = (op == 9) by unfold opens; simp only [h8, false_or]; rfl)
    clear h8
    go_enter Tryd.func76, Tryd.ntmps76
    go_wp2_with fail
    go_ret
    rw [hfin.out]; exact ⟨rfl, hb0.out⟩
theorem l11Opens_any (op : Int) (w : World) :
    Calls Tryd.prog 61 #[.int .i64 op] w fun e w' => e = .returned (.bool (opens op)) ∧ w = w' := by
  by_cases h8 : op = 8
  · subst h8
    go_enter Tryd.func61, Tryd.ntmps61
    go_wp2_with fail
    go_ret
    exact ⟨rfl, rfl⟩
  · have hq : (op == 8) = false := by simpa using h8
    have hfin := Lib.hid (show opens op = (op == 9) by unfold opens; simp only [h8, false_or]; rfl)
    clear h8
    go_enter Tryd.func61, Tryd.ntmps61
    go_wp2_with fail
    go_ret
    rw [hfin.out]; exact ⟨rfl, rfl⟩

set_option maxRecDepth 100000 in
set_option maxHeartbeats 1600000 in
theorem depthBehind_any (op a d : Int) (w : World) (h0 : 0 ≤ d) (h4 : d ≤ 4) :
    Calls Tryd.prog 63 #[.agg #[.int .i64 op, .int .i64 a], .int .i64 d] w fun e w' => e = .returned (.tuple #[.int .i64 (stepV op d), .int .i64 (stepF op d)]) ∧ Below w.heap.size w w' := by
  have hb0 := Lib.hid ((Below.refl w.heap.size w).alloc (Nat.le_refl _) (.cells #[.int .i64 op, .int .i64 a] 70))
  have HB := Lib.hid (fun wx => begins_any op a wx)
  by_cases h10 : op = 10
  · subst h10
    by_cases hd : d = 0
    · subst hd
      go_enter Tryd.func63, Tryd.ntmps63
      go_wp2_with fail
      go_ret2
      exact ⟨rfl, hb0.out⟩
    · have hq : (d == 0) = false := by simpa using hd
      have e1 := Lib.hid (show stepV 10 d = d - 1 by simp [stepV, hd])
      have e2 := Lib.hid (show stepF 10 d = 0 by simp [stepF, hd])
      clear hd
      go_enter Tryd.func63, Tryd.ntmps63
      go_wp2_with fail
      go_ret2
      rw [e1.out, e2.out]; exact ⟨rfl, hb0.out⟩
  · have hq : (op == 10) = false := by simpa using h10
    cases ho : opens op with
    | true =>
      have h89 : op = 8 ∨ op = 9 := by simpa [opens] using ho
      rw [ho] at HB
      by_cases hd : d = 4
      · have e1 := Lib.hid (show stepV op d = d by simp [stepV, hd, h10, h89])
        have e2 := Lib.hid (show stepF op d = 5 by simp [stepF, hd, h10, h89])
        have hq4 : (d == 4) = true := by simpa using hd
        clear h89 ho h10 hd
        go_enter Tryd.func63, Tryd.ntmps63
        go_wp2_with fail
        refine (HB.out _).mono ?_; rintro e w1 ⟨rfl, hb1⟩
        have hb01 := hb0.out.trans (hb1.mono hb0.out.size)
        go_wp2_with fail
        go_ret2
        rw [e1.out, e2.out]; exact ⟨rfl, hb01⟩
      · have e1 := Lib.hid (show stepV op d = d + 1 by simp [stepV, hd, h10, h89])
        have e2 := Lib.hid (show stepF op d = 0 by simp [stepF, hd, h10, h89])
        have hq4 : (d == 4) = false := by simpa using hd
        clear h89 ho h10 hd
        go_enter Tryd.func63, Tryd.ntmps63
        go_wp2_with fail
        refine (HB.out _).mono ?_; rintro e w1 ⟨rfl, hb1⟩
        have hb01 := hb0.out.trans (hb1.mono hb0.out.size)
        obtain ⟨r0, r1⟩ := blkp ((hb1.block w.heap.size (by simp)).trans (heap_alloc_new w _))
        clear hb1
        go_wp2_with fail
        refine (HB.out _).mono ?_; rintro e w2 ⟨rfl, hb2⟩
        have hb02 := hb01.trans (hb2.mono hb01.size)
        go_wp2_with fail
        go_ret2
        rw [e1.out, e2.out]; exact ⟨rfl, hb02⟩
    | false =>
      have h89 : ¬ (op = 8 ∨ op = 9) := by simpa [opens] using ho
      rw [ho] at HB
      have e1 := Lib.hid (show stepV op d = d by simp [stepV, h10, h89])
      have e2 := Lib.hid (show stepF op d = 0 by simp [stepF, h10, h89])
      clear h89 ho h10
      go_enter Tryd.func63, Tryd.ntmps63
      go_wp2_with fail
      refine (HB.out _).mono ?_; rintro e w1 ⟨rfl, hb1⟩
      have hb01 := hb0.out.trans (hb1.mono hb0.out.size)
      obtain ⟨r0, r1⟩ := blkp ((hb1.block w.heap.size (by simp)).trans (heap_alloc_new w _))
      clear hb1
      go_wp2_with fail
      refine (HB.out _).mono ?_; rintro e w2 ⟨rfl, hb2⟩
      have hb02 := hb01.trans (hb2.mono hb01.size)
      go_wp2_with fail
      go_ret2
      rw [e1.out, e2.out]; exact ⟨rfl, hb02⟩
end Go.Proofs.YtjkjlpjeamifbaaDoor
