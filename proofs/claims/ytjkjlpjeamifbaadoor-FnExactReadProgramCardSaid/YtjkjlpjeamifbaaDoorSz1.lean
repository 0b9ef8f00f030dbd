/- Lists of strings: sizes, copies. -/
import Derived.Test.YtjkjlpjeamifbaaDoorMark
import Derived.Test.YtjkjlpjeamifbaaDoorLib2
namespace Go.Proofs.YtjkjlpjeamifbaaDoor
open Go.RowKit Go.Joins

theorem infoS : (Tryd.prog.info? 9).map (fun i => (i.zero, i.size, i.bytes)) = some (some (.string ⟨#[]⟩), 1, 16) := by kernel_rfl
theorem infoSL : (Tryd.prog.info? 9).map (fun i => (i.zero, i.size, i.bytes)) = some (some (.string ⟨#[]⟩), 1, 16) := by kernel_rfl
/-- a string of a list that is read -/
theorem rd_at {w : World} {B n c : Nat} {A : Option Addr} {zs : List ByteArray} (h : Rd w B (.slice A n c) zs.length 1 (strs zs)) (k : Nat) (hk : k < zs.length) :
    n = zs.length ∧ ∃ b off, A = some ⟨b, off, none⟩ ∧ w.cell? ⟨b, off + k, none⟩ = some (.string zs[k]) := by
  obtain ⟨_, A', c', hv, hc⟩ := h
  injection hv with e1 e2 e3
  subst e1
  obtain ⟨b, off, hA, _, hcc⟩ := hc (by omega)
  exact ⟨e2, b, off, hA, hcc k _ (strs_at zs k hk)⟩
theorem take_strs (zs : List ByteArray) (k : Nat) (h : k < zs.length) : strs (zs.take k) ++ [.string zs[k]] = strs (zs.take (k + 1)) := by
  rw [List.take_succ_eq_append_getElem h]; unfold strs; rw [List.map_append]; rfl
set_option maxHeartbeats 400000 in
theorem szStringS_any (B : Nat) (v : Value) (zs : List ByteArray) (w : World) (h : Rd w B v zs.length 1 (strs zs)) (hl : zs.length ≤ maxLen ∧ ∀ z ∈ zs, z.size ≤ maxLen) :
    Calls Tryd.prog 17 #[v, .int .i64 1048576] w fun e w' => (∃ r : Int, e = .returned (.int .i64 r) ∧ (0 ≤ r → zs.length ≤ 1048576 ∧ ∀ z ∈ zs, z.size ≤ 1048576)) ∧ w = w' := by
  have h' := h
  obtain ⟨_, A, c, rfl, _⟩ := h'
  obtain ⟨hl1, hl2⟩ := hl
  have H := Lib.hid h; clear h
  have Hl2 := Lib.hid hl2; clear hl2
  simp only [maxLen] at hl1
  by_cases hbig : 1048576 < zs.length
  · have hb : (1048576 : Int) - (zs.length : Int) < 0 := by omega
    go_enter Tryd.func17, Tryd.ntmps17
    go_wp2_with fail
    go_ret
    exact ⟨⟨_, rfl, by omega⟩, rfl⟩
  · have hb : ¬ (1048576 : Int) - (zs.length : Int) < 0 := by omega
    have hb0 : (0 : Int) ≤ 1048576 - (zs.length : Int) := by omega
    go_enter Tryd.func17, Tryd.ntmps17
    go_wp2_with fail
    go_loop [1, 5] (fun l i => ∃ (k : Nat) (r : Int), k ≤ zs.length ∧ 0 ≤ r ∧ r ≤ 1048576 ∧ (∀ z ∈ zs.take k, z.size ≤ 1048576) ∧ l = .int .i64 r ∧ i = .int .i64 k) (fun _ i => zs.length - (intOf i).toNat)
    case atStart => exact ⟨0, _, Nat.zero_le _, hb0, by omega, by simp, rfl, rfl⟩
    case round =>
      obtain ⟨k, r, hk, hr0, hr1, hall, rfl, rfl⟩ := hrel
      have Hall := Lib.hid hall; clear hall
      by_cases hlt : k < zs.length
      · obtain ⟨_, b1, o1, hA, hx⟩ := rd_at H.out k hlt
        subst hA
        have hz := Hl2.out zs[k] (List.getElem_mem _)
        simp only [maxLen] at hz
        have Hst := Lib.hid (show zs[k].size ≤ 1048576 → ∀ z ∈ zs.take (k + 1), z.size ≤ 1048576 from fun h z hz => by
          rw [List.take_succ_eq_append_getElem hlt] at hz
          rcases List.mem_append.1 hz with h1 | h1
          · exact Hall.out z h1
          · rw [List.mem_singleton.1 h1]; exact h)
        generalize zs[k] = z at *
        have hlt' : (k : Int) < (zs.length : Int) := by omega
        by_cases hsm : r - (z.size : Int) < 0
        · go_wp2_with fail
          go_ret
          exact ⟨⟨_, rfl, by omega⟩, rfl⟩
        · go_wp2_with fail
          go_round
          case rel => exact ⟨k + 1, r - (z.size : Int), by omega, by omega, by omega, Hst.out (by omega), rfl, by go_num⟩
          case measure => simp [intOf]; omega
      · have hfin := Hall.out
        rw [List.take_of_length_le (by omega)] at hfin
        have Hfin := Lib.hid hfin; clear hfin
        have hlt' : (zs.length : Int) ≤ (k : Int) := by omega
        go_wp2_with fail
        go_ret
        exact ⟨⟨_, rfl, fun _ => ⟨by omega, Hfin.out⟩⟩, rfl⟩
/-- a new list of the same strings -/
def RetS (w : World) (zs : List ByteArray) (e : Ending) (w' : World) : Prop := ∃ v, e = .returned v ∧ w'.ownsRow w.heap.size 9 1 v zs.length (strs zs) ∧ Below w.heap.size w w'
set_option maxHeartbeats 800000 in
theorem toStringS_any (B : Nat) (v : Value) (zs : List ByteArray) (w : World) (h : Rd w B v zs.length 1 (strs zs)) (hB : B ≤ w.heap.size) (hl : zs.length ≤ 1048576) :
    Calls Tryd.prog 19 #[v] w (RetS w zs) := by
  have h' := h
  obtain ⟨_, A, c, rfl, _⟩ := h'
  have H := Lib.hid h; clear h
  obtain ⟨i, hi, hz, h2, h3⟩ := info_parts infoSL
  obtain ⟨w1, hr, hown, hg⟩ := run_makeSlice_full (P := Tryd.prog) (w := w) w.heap.size 33 9 i _ 1 Tryd.underlying33 hi hz h2 .i64 .i64 zs.length (by omega) (by rw [h3]; omega) (by simp [maxLen]; omega) (Nat.le_refl _)
  have hb1 := below_of_grown hg (Nat.le_refl _) (fun x hx => by cases hx)
  generalize hxs : (madeCells (Value.cells (.string ⟨#[]⟩)) (zs.length * 1)).toList = xs at *
  have hxl : xs.length = zs.length := by simpa using hown.1
  have Hown := Lib.hid hown
  have Hb1 := Lib.hid hb1
  clear hi hz h2 h3 hxs hown hb1 hg
  go_enter Tryd.func19, Tryd.ntmps19
  go_wp2_with fail
  clear hr
  go_loopw [4] (fun i wr => ∃ k : Nat, k ≤ zs.length ∧ i = .int .i64 k ∧ wr.ownsRow w.heap.size 9 1 (.slice (some ⟨w.heap.size, 0, none⟩) zs.length zs.length) zs.length (strs (zs.take k) ++ xs.drop k) ∧ Below w.heap.size w wr) (fun i _ => zs.length - (intOf i).toNat)
  case atStart => exact ⟨0, Nat.zero_le _, rfl, by simpa [strs] using Hown.out, Hb1.out⟩
  case round =>
    obtain ⟨k, hk, rfl, hown, hbl⟩ := hrel
    by_cases hlt : k < zs.length
    · obtain ⟨_, b1, o1, hA, hx⟩ := rd_at (H.out.below (hbl.mono hB)) k hlt
      subst hA
      have hlt' : (k : Int) < (zs.length : Int) := by omega
      have hset : (strs (zs.take k) ++ xs.drop k).set k (.string zs[k]) = strs (zs.take (k + 1)) ++ xs.drop (k + 1) := by
        have hlen : (strs (zs.take k)).length = k := by simp [strs]; omega
        rw [List.set_append_right _ _ (by omega), hlen, Nat.sub_self, List.drop_eq_getElem_cons (by rw [hxl]; exact hlt), List.set_cons_zero, ← take_strs zs k hlt]
        simp
      have Hset := Lib.hid hset; clear hset
      generalize zs[k] = z at *
      obtain ⟨u, hu⟩ : ∃ u, (strs (zs.take k) ++ xs.drop k)[k]? = some u := ⟨_, List.getElem?_eq_getElem (by have := hown.1; omega)⟩
      have hc : wr.cell? ⟨w.heap.size, k, none⟩ = some u := (hown.cellAt k (by omega)).trans hu
      have hf : wr.frozen? ⟨w.heap.size, k, none⟩ = false := hown.frozenAt k
      obtain ⟨ho2, hg2⟩ := hown.stored k (.string z)
      rw [Hset.out] at ho2
      have hb2 : Below w.heap.size w (wr.setCell ⟨w.heap.size, k, none⟩ (.string z)) := hbl.setCell (p := ⟨w.heap.size, k, none⟩) (Nat.le_refl _) _
      clear hu hown hg2
      go_wp2_with fail
      go_roundw
      case rel => exact ⟨k + 1, by omega, by go_num, ho2, hb2⟩
      case measure => simp [intOf]; omega
    · rw [List.take_of_length_le (by omega), List.drop_of_length_le (by omega), List.append_nil] at hown
      have hlt' : (zs.length : Int) ≤ (k : Int) := by omega
      have Hown := Lib.hid hown; clear hown
      go_wp2_with fail
      go_ret
      exact ⟨_, rfl, Hown.out, hbl⟩
end Go.Proofs.YtjkjlpjeamifbaaDoor
