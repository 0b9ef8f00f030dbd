/- Programs of hand movements, part 6: the law FnExactPackProgram. -/
import Derived.Test.YtfaoilonkonmkaaPg5
namespace Go.Proofs.Ytfaoilonkonmkaa
open Go.ChangeShapes Go.WideShapes Go.ChangeAt Go.RowKit

section
variable {H : Type} {enc : TypeId × Value → H} {P : Program} {W : World}
theorem elem_ints2 {E : TypeId} {f0 f1 : Field} {k0 k1 : IntKind} (hR : P.underlying E = some (.struct #[f0, f1])) (h0 : P.underlying f0.type = some (.int k0)) (o0 : f0.offset = 0) (c0 : P.cellsOf f0.type = 1)
    (h1 : P.underlying f1.type = some (.int k1)) (o1 : f1.offset = 1) (c1 : P.cellsOf f1.type = 1) (hC : P.cellsOf E = 2) (n : Nat) (cs : List Value) (y : DataW H × List MemPlace) (h : DataW.trod enc P W 0 (fun _ => true) true n E cs = some y) :
    ∃ x z : Int, cs = [.int k0 x, .int k1 z] ∧ (Lit.int k0 x).wf = true ∧ (Lit.int k1 z).wf = true := by
  obtain ⟨y0, y1, m, _, hl, e0, e1⟩ := trod_struct2 hR h
  rw [o0, c0] at e0
  rw [o1, c1] at e1
  rw [hC] at hl
  obtain ⟨x, q0, _, w0⟩ := DataW.trod_int h0 e0
  obtain ⟨z, q1, _, w1⟩ := DataW.trod_int h1 e1
  match cs, hl with
  | [a, b], _ =>
    simp at q0 q1
    subst q0 q1
    exact ⟨x, z, rfl, w0, w1⟩
end
set_option maxRecDepth 100000 in
theorem rd_instrs {H : Type} {enc : TypeId × Value → H} {W : World} {base : Nat} {r : Reach} {v : Value} {d : DataW H} {p : List MemPlace} (ok : Value.okWide Try.prog W r base 35 v) (h : DataW.Trod enc Try.prog W 0 (fun _ => true) true 35 v d p) :
    ∃ zs : List (Int × Int), Rd W W.heap.size v zs.length 2 (progs zs) ∧ zs.length ≤ maxLen := by
  obtain ⟨zs, h1, h2, _⟩ := rd_rows (P := Try.prog) cellsP (fun _ => True) (sz := 2) Try.underlying35 (by kernel_rfl) (by omega) (fun _ => rfl) (fun n cs y hy => by
    obtain ⟨x, z, hcs, _⟩ := elem_ints2 Try.underlying111 Try.underlying2 rfl (by kernel_rfl) Try.underlying2 rfl (by kernel_rfl) (by kernel_rfl) n cs y hy
    exact ⟨(x, z), hcs, trivial⟩) ok h
  exact ⟨zs, h1, h2⟩

theorem Rd.next {w w' : World} {v : Value} {n sz : Nat} {cs : List Value} (h : Rd w w.heap.size v n sz cs) (hb : Below w.heap.size w w') : Rd w' w'.heap.size v n sz cs := (h.below hb).more hb.size
/-- a program of the laws, as one of the program's -/
theorem toInstr_c (B : Nat) (v : Value) (zs : List (Int × Int)) (w : World) (h : Rd w B v zs.length 2 (progs zs)) (hB : B ≤ w.heap.size) (hl : zs.length ≤ 1048576) :
    Calls Try.prog 24 #[v] w fun e w' => ∃ A c, e = .returned (.slice A zs.length c) ∧ Rd w' w'.heap.size (.slice A zs.length c) zs.length 2 (progs zs) ∧ Below w.heap.size w w' := by
  refine (toInstrS_any B v zs w h hB hl).mono ?_
  rintro e w' ⟨rfl, ho, hb⟩
  exact ⟨_, _, rfl, Rd.of_own ho, hb⟩

set_option maxRecDepth 100000 in
set_option maxHeartbeats 1600000 in
theorem walkFnExactPackProgram {W : World} (v : Value) (zs : List (Int × Int)) (h : Rd W W.heap.size v zs.length 2 (progs zs)) (hl : zs.length ≤ maxLen) :
    Calls Try.prog 5 #[v] W fun e w' => e = .returned (.bool true) ∧ Below W.heap.size W w' := by
  have HS := Lib.hid (szInstrS_any v zs.length 2 (progs zs) 1048576 W.heap.size W h hl (by omega) (by omega))
  have L := leftP_bd 1048576 zs.length (by omega)
  generalize leftP 1048576 zs.length = l1 at *
  obtain ⟨_, L2, _⟩ := L
  have HT := Lib.hid (fun wx hx hz hl => toInstr_c W.heap.size v zs wx hx hz hl)
  have H := Lib.hid h
  obtain ⟨_, A, c, rfl, _⟩ := h
  have hb0 := Below.refl W.heap.size W
  by_cases n1 : l1 < 0
  · clear L2
    go_enter Try.func5, Try.ntmps5
    go_wp2_with fail
    refine HS.out.mono ?_; rintro e w1 ⟨rfl, rfl⟩
    go_wp2_with fail
    go_ret
    exact ⟨rfl, hb0⟩
  · have q := L2 (by omega)
    have k1 : zs.length ≤ 1048576 := by omega
    clear L2
    go_enter Try.func5, Try.ntmps5
    go_wp2_with fail
    refine HS.out.mono ?_; rintro e w1 ⟨rfl, rfl⟩
    go_wp2_with fail
    refine (HT.out _ H.out (Nat.le_refl _) k1).mono ?_; rintro e w2 ⟨A2, c2, rfl, hr2, hb2⟩
    have HP := Lib.hid (PackPS_any _ _ zs w2 hr2 (Nat.le_refl _) k1)
    clear hr2
    go_wp2_with fail
    refine HP.out.mono ?_; rintro e w3 ⟨rfl, hb3⟩
    have hb03 := hb2.trans (hb3.mono hb2.size)
    clear hb2 hb3 HP
    go_wp2_with fail
    refine (HT.out _ (H.out.below hb03) hb03.size k1).mono ?_; rintro e w4 ⟨A4, c4, rfl, hr4, hb4⟩
    have hb04 := hb03.trans (hb4.mono hb03.size)
    have HP := Lib.hid (PackPI_any _ _ zs w4 hr4 (Nat.le_refl _) k1)
    have Hr4 := Lib.hid hr4
    clear hb4 hr4 hb03
    go_wp2_with fail
    refine HP.out.mono ?_; rintro e w5 ⟨rfl, hb5⟩
    have hb05 := hb04.trans (hb5.mono hb04.size)
    have Hr5 := Lib.hid (Hr4.out.next hb5)
    clear hb5 hb04 HP Hr4
    generalize packPT zs = pt at *
    generalize packPE zs = pe at *
    go_wp2_with fail
    refine (HT.out _ (H.out.below hb05) hb05.size k1).mono ?_; rintro e w6 ⟨A6, c6, rfl, hr6, hb6⟩
    have hb06 := hb05.trans (hb6.mono hb05.size)
    have HE := Lib.hid (eqInstrS_same _ _ _ _ zs w6 (Hr5.out.next hb6) hr6 (Nat.le_refl _) (Nat.le_refl _) (by omega))
    clear hb6 hb05 hr6
    go_wp2_with fail
    refine HE.out.mono ?_; rintro e w7 ⟨rfl, hb7⟩
    have hb07 := hb06.trans (hb7.mono hb06.size)
    go_wp2_with fail
    go_ret
    exact ⟨rfl, hb07⟩
end Go.Proofs.Ytfaoilonkonmkaa
