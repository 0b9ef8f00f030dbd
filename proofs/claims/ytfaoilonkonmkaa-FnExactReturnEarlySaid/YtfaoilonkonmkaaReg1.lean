/- Registers, part 1: the exact laws' helpers: szInt64S, szRegister, toInt64S, eqInt64S. -/
import Derived.Test.YtfaoilonkonmkaaLib
import Derived.Test.YtfaoilonkonmkaaBase
import Derived.Lib.SmallJoins
namespace Go.Proofs.Ytfaoilonkonmkaa
open Go.RowKit Go.Joins

def ints (l : List Int) : List Value := l.map (Value.int .i64)
theorem infoI : (Try.prog.info? 2).map (fun i => (i.zero, i.size, i.bytes)) = some (some (.int .i64 0), 1, 8) := by kernel_rfl
theorem ints_rd {w : World} {B n c : Nat} {A : Option Addr} {zs : List Int} (h : Rd w B (.slice A n c) zs.length 1 (ints zs)) (k : Nat) (hk : k < zs.length) :
    ∃ b off, A = some ⟨b, off, none⟩ ∧ w.cell? ⟨b, off + k, none⟩ = some (.int .i64 zs[k]) := by
  obtain ⟨_, A', c', hv, hc⟩ := h
  injection hv with e1 e2 e3
  subst e1
  obtain ⟨b, off, hA, _, hcc⟩ := hc (by omega)
  exact ⟨b, off, hA, hcc k _ (by simp [ints, hk])⟩

/-- what is left of the room -/
def leftI (left : Int) (n : Nat) : Int := if left - n < 0 then -1 else left - n
theorem szInt64S_any (B : Nat) (v : Value) (zs : List Int) (left : Int) (w : World) (h : Rd w B v zs.length 1 (ints zs)) (hl : zs.length ≤ maxLen) (h0 : 0 ≤ left) (h1 : left ≤ 1048576) :
    Calls Try.prog 70 #[v, .int .i64 left] w fun e w' => e = .returned (.int .i64 (leftI left zs.length)) ∧ w = w' := by
  obtain ⟨_, A, c, rfl, _⟩ := h
  simp only [maxLen] at hl
  by_cases hb : left - (zs.length : Int) < 0
  · have e1 := Lib.hid (show leftI left zs.length = -1 from if_pos hb)
    go_enter Try.func70, Try.ntmps70
    go_wp2_with fail
    go_ret
    rw [e1.out]; exact ⟨rfl, rfl⟩
  · have e1 := Lib.hid (show leftI left zs.length = left - zs.length from if_neg hb)
    go_enter Try.func70, Try.ntmps70
    go_wp2_with fail
    go_ret
    rw [e1.out]; exact ⟨rfl, rfl⟩
theorem leftI_bd (left : Int) (n : Nat) (h1 : left ≤ 1048576) : leftI left n ≤ 1048576 ∧ (0 ≤ leftI left n → (n : Int) ≤ left) ∧ (leftI left n < 0 → leftI left n = -1) := by
  unfold leftI
  split <;> omega

set_option maxHeartbeats 800000 in
theorem toInt64S_any (B : Nat) (v : Value) (zs : List Int) (w : World) (h : Rd w B v zs.length 1 (ints zs)) (hB : B ≤ w.heap.size) (hl : zs.length ≤ 1048576) :
    Calls Try.prog 73 #[v] w fun e w' => e = .returned (.slice (some ⟨w.heap.size, 0, none⟩) zs.length zs.length) ∧ w'.ownsRow w.heap.size 2 1 (.slice (some ⟨w.heap.size, 0, none⟩) zs.length zs.length) zs.length (ints zs) ∧ Below w.heap.size w w' := by
  have h' := h
  obtain ⟨_, A, c, rfl, _⟩ := h'
  have H := Lib.hid h; clear h
  obtain ⟨i, hi, hz, h2, h3⟩ := info_parts infoI
  obtain ⟨w1, hr, hown, hg⟩ := run_makeSlice_full (P := Try.prog) (w := w) w.heap.size 22 2 i _ 1 Try.underlying22 hi hz h2 .i64 .i64 zs.length (by omega) (by rw [h3]; omega) (by simp [maxLen]; omega) (Nat.le_refl _)
  have hb1 := below_of_grown hg (Nat.le_refl _) (fun x hx => by cases hx)
  generalize hxs : (madeCells (Value.cells (.int .i64 0)) (zs.length * 1)).toList = xs at *
  have hxl : xs.length = zs.length := by simpa using hown.1
  have Hown := Lib.hid hown
  have Hb1 := Lib.hid hb1
  clear hi hz h2 h3 hxs hown hb1 hg
  go_enter Try.func73, Try.ntmps73
  go_wp2_with fail
  clear hr
  go_loopw [4] (fun i wr => ∃ k : Nat, k ≤ zs.length ∧ i = .int .i64 k ∧ wr.ownsRow w.heap.size 2 1 (.slice (some ⟨w.heap.size, 0, none⟩) zs.length zs.length) zs.length (ints (zs.take k) ++ xs.drop k) ∧ Below w.heap.size w wr) (fun i _ => zs.length - (intOf i).toNat)
  case atStart => exact ⟨0, Nat.zero_le _, rfl, by simpa [ints] using Hown.out, Hb1.out⟩
  case round =>
    obtain ⟨k, hk, rfl, hown, hbl⟩ := hrel
    by_cases hlt : k < zs.length
    · obtain ⟨b1, o1, hA, hx⟩ := ints_rd (H.out.below (hbl.mono hB)) k hlt
      subst hA
      have hlt' : (k : Int) < (zs.length : Int) := by omega
      have hset : (ints (zs.take k) ++ xs.drop k).set k (.int .i64 zs[k]) = ints (zs.take (k + 1)) ++ xs.drop (k + 1) := by
        have hlen : (ints (zs.take k)).length = k := by simp [ints]; omega
        rw [List.set_append_right _ _ (by omega), hlen, Nat.sub_self, List.drop_eq_getElem_cons (by rw [hxl]; exact hlt), List.set_cons_zero, List.take_succ_eq_append_getElem hlt]
        unfold ints
        rw [List.map_append]
        simp
      have Hset := Lib.hid hset; clear hset
      generalize zs[k] = z at *
      obtain ⟨u, hu⟩ : ∃ u, (ints (zs.take k) ++ xs.drop k)[k]? = some u := ⟨_, List.getElem?_eq_getElem (by have := hown.1; omega)⟩
      have hc : wr.cell? ⟨w.heap.size, k, none⟩ = some u := (hown.cellAt k (by omega)).trans hu
      have hf : wr.frozen? ⟨w.heap.size, k, none⟩ = false := hown.frozenAt k
      obtain ⟨ho2, hg2⟩ := hown.stored k (.int .i64 z)
      rw [Hset.out] at ho2
      have hb2 : Below w.heap.size w (wr.setCell ⟨w.heap.size, k, none⟩ (.int .i64 z)) := hbl.setCell (p := ⟨w.heap.size, k, none⟩) (Nat.le_refl _) _
      clear hu hown hg2
      go_wp2_with fail
      go_roundw
      case rel => exact ⟨k + 1, by omega, by go_num, ho2, hb2⟩
      case measure => simp [intOf]; omega
    · rw [List.take_of_length_le (by omega), List.drop_of_length_le (by omega), List.append_nil] at hown
      have hlt' : (zs.length : Int) ≤ (k : Int) := by omega
      have Hown := Lib.hid hown; clear hown
      go_wp2_with fail
      go_ret
      exact ⟨rfl, Hown.out, hbl⟩

set_option maxHeartbeats 400000 in
theorem eqInt64S_same (B1 B2 : Nat) (v1 v2 : Value) (zs : List Int) (w : World) (h1 : Rd w B1 v1 zs.length 1 (ints zs)) (h2 : Rd w B2 v2 zs.length 1 (ints zs)) (hz : zs.length ≤ 4611686018427387904) :
    Calls Try.prog 51 #[v1, v2] w fun e w' => e = .returned (.bool true) ∧ ∃ n, w' = w.drewN n := by
  have h1' := h1
  have h2' := h2
  obtain ⟨_, A1, c1, rfl, _⟩ := h1'
  obtain ⟨_, A2, c2, rfl, _⟩ := h2'
  have H1 := Lib.hid h1; clear h1
  have H2 := Lib.hid h2; clear h2
  go_enter Try.func51, Try.ntmps51
  go_wp2_with fail
  go_loopw [5] (fun i wr => ∃ k m : Nat, k ≤ zs.length ∧ i = .int .i64 k ∧ wr = w.drewN m) (fun i _ => zs.length - (intOf i).toNat)
  case atStart => exact ⟨0, 0, Nat.zero_le _, rfl, rfl⟩
  case round =>
    obtain ⟨k, m, hk, rfl, rfl⟩ := hrel
    by_cases hlt : k < zs.length
    · obtain ⟨b1, o1, hA1, hx⟩ := ints_rd H1.out k hlt
      obtain ⟨b2, o2, hA2, hy⟩ := ints_rd H2.out k hlt
      subst hA1 hA2
      generalize zs[k] = z at *
      have hlt' : (k : Int) < (zs.length : Int) := by omega
      go_wp2_with fail
      go_quiet (fail)
      go_wp2_with fail
      go_roundw
      case rel => exact ⟨k + 1, _, by omega, by go_num, rfl⟩
      case measure => simp [intOf]; omega
    · have hlt' : (zs.length : Int) ≤ (k : Int) := by omega
      go_wp2_with fail
      go_ret
      exact ⟨rfl, _, rfl⟩

set_option maxHeartbeats 400000 in
theorem szRegister_any (B : Nat) (b : Int) (v : Value) (zs : List Int) (left : Int) (w : World) (h : Rd w B v zs.length 1 (ints zs)) (hB : B ≤ w.heap.size) (hl : zs.length ≤ maxLen) (h0 : 0 ≤ left) (h1 : left ≤ 1048576) :
    Calls Try.prog 15 #[.agg #[.int .i64 b, v], .int .i64 left] w fun e w' => e = .returned (.int .i64 (leftI left zs.length)) ∧ Below w.heap.size w w' := by
  have hb := (Below.refl w.heap.size w).alloc (Nat.le_refl _)
  have Hb := Lib.hid hb
  have H := Lib.hid (fun o => h.below ((hb o).mono hB))
  have HZ := Lib.hid (fun wx hx => szInt64S_any B v zs left wx hx hl h0 h1)
  have hbd := leftI_bd left zs.length h1
  obtain ⟨_, A, c, rfl, _⟩ := h
  clear hb hl
  generalize leftI left zs.length = r at *
  obtain ⟨_, _, hneg⟩ := hbd
  go_enter Try.func15, Try.ntmps15
  go_wp2_with fail
  refine (HZ.out _ (H.out _)).mono ?_; rintro e w1 ⟨rfl, rfl⟩
  by_cases hr : r < 0
  · have hr1 := Lib.hid (hneg hr)
    clear hneg
    go_wp2_with fail
    go_ret
    rw [hr1.out]; exact ⟨rfl, Hb.out _⟩
  · clear hneg
    go_wp2_with fail
    go_ret
    exact ⟨rfl, Hb.out _⟩

set_option maxHeartbeats 400000 in
theorem eqRegister_same (B1 B2 : Nat) (b : Int) (v1 v2 : Value) (zs : List Int) (w : World) (h1 : Rd w B1 v1 zs.length 1 (ints zs)) (h2 : Rd w B2 v2 zs.length 1 (ints zs)) (hB1 : B1 ≤ w.heap.size) (hB2 : B2 ≤ w.heap.size) (hz : zs.length ≤ 4611686018427387904) :
    Calls Try.prog 19 #[.agg #[.int .i64 b, v1], .agg #[.int .i64 b, v2]] w fun e w' => e = .returned (.bool true) ∧ Below w.heap.size w w' := by
  have Hb := Lib.hid (fun o1 o2 => ((Below.refl w.heap.size w).alloc (Nat.le_refl _) o1).alloc (by simp) o2)
  have H1 := Lib.hid (fun o1 o2 => h1.below ((Hb.out o1 o2).mono hB1))
  have H2 := Lib.hid (fun o1 o2 => h2.below ((Hb.out o1 o2).mono hB2))
  have HE := Lib.hid (fun wx hx hy => eqInt64S_same B1 B2 v1 v2 zs wx hx hy hz)
  obtain ⟨_, A1, c1, rfl, _⟩ := h1
  obtain ⟨_, A2, c2, rfl, _⟩ := h2
  go_enter Try.func19, Try.ntmps19
  go_wp2_with fail
  refine (HE.out _ (H1.out _ _) (H2.out _ _)).mono ?_; rintro e w1 ⟨rfl, n1, rfl⟩
  go_wp2_with fail
  go_ret
  exact ⟨rfl, below_drewN (Hb.out _ _) _⟩
end Go.Proofs.Ytfaoilonkonmkaa
