/- Programs of hand movements, part 3: the exact laws' helpers: szInstrS, toInstrS, eqInstrS. -/
import Derived.Test.YtplpeeienpaaeaaDoorPg2
namespace Go.Proofs.YtplpeeienpaaeaaDoor
open Go.RowKit Go.Joins

theorem infoP : (Tryd.prog.info? 67).map (fun i => (i.zero, i.size, i.bytes)) = some (some (.agg #[.int .i64 0, .int .i64 0]), 2, 16) := by kernel_rfl
/-- what is left of the room -/
def leftP (left : Int) (n : Nat) : Int := if left - n < 0 then -1 else left - n
theorem szInstrS_any (v : Value) (n sz : Nat) (cs : List Value) (left : Int) (B : Nat) (w : World) (h : Rd w B v n sz cs) (hl : n ≤ maxLen) (h0 : 0 ≤ left) (h1 : left ≤ 1048576) :
    Calls Tryd.prog 16 #[v, .int .i64 left] w fun e w' => e = .returned (.int .i64 (leftP left n)) ∧ w = w' := by
  obtain ⟨_, A, c, rfl, _⟩ := h
  simp only [maxLen] at hl
  by_cases hb : left - (n : Int) < 0
  · have e1 := Lib.hid (show leftP left n = -1 from if_pos hb)
    go_enter Tryd.func16, Tryd.ntmps16
    go_wp2_with fail
    go_ret
    rw [e1.out]; exact ⟨rfl, rfl⟩
  · have e1 := Lib.hid (show leftP left n = left - n from if_neg hb)
    go_enter Tryd.func16, Tryd.ntmps16
    go_wp2_with fail
    go_ret
    rw [e1.out]; exact ⟨rfl, rfl⟩
theorem leftP_bd (left : Int) (n : Nat) (h1 : left ≤ 1048576) : leftP left n ≤ 1048576 ∧ (0 ≤ leftP left n → (n : Int) ≤ left) ∧ (leftP left n < 0 → leftP left n = -1) := by
  unfold leftP
  split <;> omega

theorem toInstr_any (op a : Int) (w : World) :
    Calls Tryd.prog 40 #[.agg #[.int .i64 op, .int .i64 a]] w fun e w' => e = .returned (.agg #[.int .i64 op, .int .i64 a]) ∧ Below w.heap.size w w' := by
  have hb := fun o1 o2 o3 => Lib.hid ((((Below.refl w.heap.size w).alloc (Nat.le_refl _) o1).alloc (by simp) o2).alloc (by simp; omega) o3)
  go_enter Tryd.func40, Tryd.ntmps40
  go_wp2_with fail
  exact bodyPost_ret (v := .agg #[.int .i64 op, .int .i64 a]) (by simp [results, Tryd.results40, go_sem]) rfl ⟨rfl, (hb _ _ _).out⟩

theorem eqInstr_same (op a : Int) (w : World) :
    Calls Tryd.prog 43 #[.agg #[.int .i64 op, .int .i64 a], .agg #[.int .i64 op, .int .i64 a]] w fun e w' => e = .returned (.bool true) ∧ Below w.heap.size w w' := by
  have hb := fun o1 o2 => Lib.hid (((Below.refl w.heap.size w).alloc (Nat.le_refl _) o1).alloc (by simp) o2)
  go_enter Tryd.func43, Tryd.ntmps43
  go_wp2_with fail
  go_ret
  exact ⟨rfl, (hb _ _).out⟩
theorem four_cells {W w1 : World} {a b c d : Addr} {x y z t : Value} (hb : Below W.heap.size W w1) (h : W.cell? a = some x ∧ W.cell? b = some y ∧ W.cell? c = some z ∧ W.cell? d = some t) :
    w1.cell? a = some x ∧ w1.cell? b = some y ∧ w1.cell? c = some z ∧ w1.cell? d = some t :=
  have k {p : Addr} {v : Value} (h : W.cell? p = some v) : w1.cell? p = some v := (hb.cell (World.block_lt_of_cell? W _ h)).trans h
  ⟨k h.1, k h.2.1, k h.2.2.1, k h.2.2.2⟩

set_option maxRecDepth 100000 in
set_option maxHeartbeats 800000 in
theorem eqInstrS_same (B1 B2 : Nat) (v1 v2 : Value) (zs : List (Int × Int)) (w : World) (h1 : Rd w B1 v1 zs.length 2 (progs zs)) (h2 : Rd w B2 v2 zs.length 2 (progs zs)) (hB1 : B1 ≤ w.heap.size) (hB2 : B2 ≤ w.heap.size) (hz : zs.length ≤ 4611686018427387904) :
    Calls Tryd.prog 21 #[v1, v2] w fun e w' => e = .returned (.bool true) ∧ Below w.heap.size w w' := by
  have H1 := Lib.hid h1
  have H2 := Lib.hid h2
  obtain ⟨_, A1, c1, rfl, _⟩ := h1
  obtain ⟨_, A2, c2, rfl, _⟩ := h2
  have hb0 := Below.refl w.heap.size w
  go_enter Tryd.func21, Tryd.ntmps21
  go_wp2_with fail
  go_loopw [5] (fun i wr => ∃ k : Nat, k ≤ zs.length ∧ i = .int .i64 k ∧ Below w.heap.size w wr) (fun i _ => zs.length - (intOf i).toNat)
  case atStart => exact ⟨0, Nat.zero_le _, rfl, hb0⟩
  case round =>
    obtain ⟨k, hk, rfl, hbl⟩ := hrel
    by_cases hlt : k < zs.length
    · obtain ⟨b1, o1, hA1, _, hx, hx'⟩ := progs_rd (H1.out.below (hbl.mono hB1)) k hlt
      obtain ⟨b2, o2, hA2, _, hy, hy'⟩ := progs_rd (H2.out.below (hbl.mono hB2)) k hlt
      subst hA1 hA2
      generalize zs[k].1 = op at *
      generalize zs[k].2 = a at *
      have hlt' : (k : Int) < (zs.length : Int) := by omega
      have hacc : Below w.heap.size w wr.drew := hbl.drew
      clear hbl
      go_wp2_with fail
      go_region_held3 (fun w' => w'.cell? ⟨b1, o1 + k * 2, none⟩ = some (.int .i64 op) ∧ w'.cell? ⟨b1, o1 + k * 2 + 1, none⟩ = some (.int .i64 a) ∧ w'.cell? ⟨b2, o2 + k * 2, none⟩ = some (.int .i64 op) ∧ w'.cell? ⟨b2, o2 + k * 2 + 1, none⟩ = some (.int .i64 a))
        (first | go_keep | assumption)
        ((go_at_call 43; refine (eqInstr_same _ _ _).mono ?_; rintro e wq ⟨rfl, hbq⟩; have hSq := four_cells hbq (by assumption); have hacc' := hacc.trans (hbq.mono hacc.size); clear hacc; have hacc := hacc'; clear hacc'))
      go_wp2_with fail
      go_roundw
      case rel => exact ⟨k + 1, by omega, by go_num, hacc⟩
      case measure => simp [intOf]; omega
    · have hlt' : (zs.length : Int) ≤ (k : Int) := by omega
      go_wp2_with fail
      go_ret
      exact ⟨rfl, hbl⟩

set_option maxRecDepth 100000 in
set_option maxHeartbeats 800000 in
theorem toInstrS_any (B : Nat) (v : Value) (zs : List (Int × Int)) (w : World) (h : Rd w B v zs.length 2 (progs zs)) (hB : B ≤ w.heap.size) (hl : zs.length ≤ 1048576) :
    Calls Tryd.prog 18 #[v] w fun e w' => e = .returned (.slice (some ⟨w.heap.size, 0, none⟩) zs.length zs.length) ∧ w'.ownsRow w.heap.size 67 2 (.slice (some ⟨w.heap.size, 0, none⟩) zs.length zs.length) zs.length (progs zs) ∧ Below w.heap.size w w' := by
  have H := Lib.hid h
  obtain ⟨_, A, c, rfl, _⟩ := h
  obtain ⟨i, hi, hz, h2, h3⟩ := info_parts infoP
  obtain ⟨w1, hr, hown, hg⟩ := run_makeSlice_full (P := Tryd.prog) (w := w) w.heap.size 41 67 i _ 2 Tryd.underlying41 hi hz h2 .i64 .i64 zs.length (by omega) (by rw [h3]; omega) (by simp [maxLen]; omega) (Nat.le_refl _)
  have hb1 := below_of_grown hg (Nat.le_refl _) (fun x hx => by cases hx)
  generalize hxs : (madeCells (Value.cells (.agg #[.int .i64 0, .int .i64 0])) (zs.length * 2)).toList = xs at *
  have hxl : xs.length = zs.length * 2 := by simpa using hown.1
  have Hown := Lib.hid hown
  have Hb1 := Lib.hid hb1
  have Hxl := Lib.hid hxl
  clear hi hz h2 h3 hxs hown hb1 hg hxl
  go_enter Tryd.func18, Tryd.ntmps18
  go_wp2_with fail
  clear hr
  go_loopw [4] (fun i wr => ∃ k : Nat, k ≤ zs.length ∧ i = .int .i64 k ∧ wr.ownsRow w.heap.size 67 2 (.slice (some ⟨w.heap.size, 0, none⟩) zs.length zs.length) zs.length (progs (zs.take k) ++ xs.drop (k * 2)) ∧ Below w.heap.size w wr) (fun i _ => zs.length - (intOf i).toNat)
  case atStart => exact ⟨0, Nat.zero_le _, rfl, by simpa [progs] using Hown.out, Hb1.out⟩
  case round =>
    obtain ⟨k, hk, rfl, hown, hbl⟩ := hrel
    by_cases hlt : k < zs.length
    · obtain ⟨b1, o1, hA, hbB, hx, hx'⟩ := progs_rd (H.out.below (hbl.mono hB)) k hlt
      subst hA
      have hlt' : (k : Int) < (zs.length : Int) := by omega
      have hset : ((progs (zs.take k) ++ xs.drop (k * 2)).set (k * 2) (.int .i64 zs[k].1)).set (k * 2 + 1) (.int .i64 zs[k].2) = progs (zs.take (k + 1)) ++ xs.drop ((k + 1) * 2) := by
        have hlen : (progs (zs.take k)).length = k * 2 := by rw [progs_len, List.length_take]; omega
        have hx2 := Hxl.out
        rw [List.set_append_right _ _ (by omega), hlen, Nat.sub_self, List.drop_eq_getElem_cons (by omega), List.set_cons_zero, List.set_append_right _ _ (by omega), hlen, Nat.add_sub_cancel_left, List.drop_eq_getElem_cons (by omega), List.set_cons_succ, List.set_cons_zero, List.take_succ_eq_append_getElem hlt]
        unfold progs
        rw [List.flatMap_append, List.append_assoc, show (k + 1) * 2 = k * 2 + 1 + 1 by omega]
        rfl
      have Hset := Lib.hid hset; clear hset
      have HT := Lib.hid (fun wx => toInstr_any zs[k].1 zs[k].2 wx)
      generalize zs[k].1 = op at *
      generalize zs[k].2 = a at *
      have hzb : b1 < wr.heap.size := World.block_lt_of_cell? wr _ hx
      have Hown := Lib.hid hown; clear hown
      go_wp2_with fail
      refine (HT.out _).mono ?_; rintro e w3 ⟨rfl, hb3⟩
      have hown := own_below Hown.out hb3
      have hbl3 := hbl.trans (hb3.mono hbl.size)
      obtain ⟨u, hu⟩ : ∃ u, (progs (zs.take k) ++ xs.drop (k * 2))[k * 2]? = some u := ⟨_, List.getElem?_eq_getElem (by have := hown.1; omega)⟩
      obtain ⟨u', hu'⟩ : ∃ u, (progs (zs.take k) ++ xs.drop (k * 2))[k * 2 + 1]? = some u := ⟨_, List.getElem?_eq_getElem (by have := hown.1; omega)⟩
      have hc : w3.cell? ⟨w.heap.size, k * 2, none⟩ = some u := (hown.cellAt (k * 2) (by omega)).trans hu
      have hc' : w3.cell? ⟨w.heap.size, k * 2 + 1, none⟩ = some u' := (hown.cellAt (k * 2 + 1) (by omega)).trans hu'
      have hf : w3.frozen? ⟨w.heap.size, k * 2, none⟩ = false := hown.frozenAt (k * 2)
      have hf' : w3.frozen? ⟨w.heap.size, k * 2 + 1, none⟩ = false := hown.frozenAt (k * 2 + 1)
      obtain ⟨ho2, hg2⟩ := hown.stored (k * 2) (.int .i64 op)
      obtain ⟨ho3, hg3⟩ := ho2.stored (k * 2 + 1) (.int .i64 a)
      rw [Hset.out] at ho3
      have Ho3 := Lib.hid ho3
      have Hb4 := Lib.hid ((hbl3.setCell (p := ⟨w.heap.size, k * 2, none⟩) (Nat.le_refl _) (.int .i64 op)).setCell (p := ⟨w.heap.size, k * 2 + 1, none⟩) (Nat.le_refl _) (.int .i64 a))
      clear hu hu' hown hg2 hg3 ho2 ho3 hb3 hx hx' hbl hbl3
      go_wp2_with fail
      go_roundw
      case rel => exact ⟨k + 1, by omega, by go_num, Ho3.out, Hb4.out⟩
      case measure => simp [intOf]; omega
    · have hd : (progs (zs.take k) ++ xs.drop (k * 2)) = progs zs := by
        rw [List.take_of_length_le (by omega), List.drop_of_length_le (by have := Hxl.out; omega), List.append_nil]
      rw [hd] at hown
      clear hd
      have hlt' : (zs.length : Int) ≤ (k : Int) := by omega
      have Hown := Lib.hid hown; clear hown
      go_wp2_with fail
      go_ret
      exact ⟨rfl, Hown.out, hbl⟩
end Go.Proofs.YtplpeeienpaaeaaDoor
