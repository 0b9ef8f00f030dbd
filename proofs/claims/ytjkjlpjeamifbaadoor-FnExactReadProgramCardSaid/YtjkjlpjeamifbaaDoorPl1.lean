/- Programs' lines: one line, both sides. -/
import Derived.Test.YtjkjlpjeamifbaaDoorOk1
import Derived.Test.YtjkjlpjeamifbaaDoorJr2
import Derived.Test.YtjkjlpjeamifbaaDoorMark
import Derived.Test.YtjkjlpjeamifbaaDoorLib7
namespace Go.Proofs.YtjkjlpjeamifbaaDoor
open Go.RowKit Go.Joins

def opsW : List ByteArray := [⟨#[]⟩, ⟨#[115, 101, 116]⟩, ⟨#[97, 100, 100]⟩, ⟨#[115, 117, 98]⟩, ⟨#[114, 105, 103, 104, 116]⟩, ⟨#[108, 101, 102, 116]⟩, ⟨#[99, 108, 101, 97, 114]⟩, ⟨#[122, 101, 114, 111]⟩, ⟨#[116, 105, 109, 101, 115]⟩, ⟨#[98, 101, 108, 108]⟩, ⟨#[101, 110, 100]⟩]
def wordP (n : Nat) : ByteArray := opsW.getD n ⟨#[]⟩
theorem wordP_size (n : Nat) (hn : n < 11) : (wordP n).size ≤ 5 := by
  have h : ∀ m : Fin 11, (opsW.getD m.1 ⟨#[]⟩).size ≤ 5 := by decide
  exact h ⟨n, hn⟩
theorem wordP_at (n : Nat) (hn : n < 11) : (strs opsW)[n]? = some (.string (wordP n)) := by
  rw [strs_at opsW n hn]
  unfold wordP
  rw [List.getD_eq_getElem?_getD, List.getElem?_eq_getElem (show n < opsW.length from hn)]
  rfl
/-- the line of an instruction -/
def lineP (n : Nat) (a : Int) : ByteArray := if n = 1 ∨ n = 8 ∨ 1 < a then wordP n ++ ⟨#[32]⟩ ++ decS a else wordP n
theorem lineP_a {n : Nat} {a : Int} (h : n = 1 ∨ n = 8 ∨ 1 < a) : lineP n a = wordP n ++ ⟨#[32]⟩ ++ decS a := by unfold lineP; rw [if_pos h]
theorem lineP_b {n : Nat} {a : Int} (h : ¬(n = 1 ∨ n = 8 ∨ 1 < a)) : lineP n a = wordP n := by unfold lineP; rw [if_neg h]
theorem add0 (g n : Nat) : (⟨g, 0, none⟩ : Addr).add n = ⟨g, n, none⟩ := by unfold Addr.add; split <;> simp_all
theorem okIns_op {n : Nat} {a : Int} (h : okIns n a = true) : n = 1 ∨ n = 8 ∨ ((n = 2 ∨ n = 3 ∨ n = 4 ∨ n = 5) ∧ 1 ≤ a) ∨ ((n = 6 ∨ n = 7 ∨ n = 9 ∨ n = 10) ∧ a = 0) := by
  have hb := okIns_bd h
  unfold okIns argF inB at h
  simp only [Bool.and_eq_true, decide_eq_true_eq] at h
  obtain ⟨_, h3⟩ := h
  by_cases h1 : n = 1
  · exact .inl h1
  · by_cases h8 : n = 8
    · exact .inr (.inl h8)
    · rw [if_neg (by omega)] at h3
      split at h3
      · simp at h3; omega
      · simp at h3; omega

theorem opWords_any (w : World) (n : Nat) (hn : n < 11) : Calls Tryd.prog 73 #[] w fun e w' => e = .returned (.slice (some ⟨w.heap.size, 0, none⟩) 11 11) ∧ w'.cell? ⟨w.heap.size, n, none⟩ = some (.string (wordP n)) ∧ Below w.heap.size w w' := by
  have hb := (Below.refl w.heap.size w).alloc (Nat.le_refl _)
  have hc := fun (cs : Array Value) (h : cs.toList[n]? = some (.string (wordP n))) => (add0 w.heap.size n) ▸ new_cells w cs 9 n _ h
  have hw := wordP_at n hn
  go_enter Tryd.func73, Tryd.ntmps73
  go_wp2_with fail
  go_ret
  exact ⟨rfl, hc _ hw, hb _⟩
theorem l11Words_any (w : World) (m : Nat) (hm : m + 1 < 11) : Calls Tryd.prog 71 #[] w fun e w' => e = .returned (.slice (some ⟨w.heap.size, 0, none⟩) 10 10) ∧ w'.cell? ⟨w.heap.size, m, none⟩ = some (.string (wordP (m + 1))) ∧ Below w.heap.size w w' := by
  have hb := (Below.refl w.heap.size w).alloc (Nat.le_refl _)
  have hc := fun (cs : Array Value) (h : cs.toList[m]? = some (.string (wordP (m + 1)))) => (add0 w.heap.size m) ▸ new_cells w cs 9 m _ h
  have hw := wordP_at (m + 1) hm
  go_enter Tryd.func71, Tryd.ntmps71
  go_wp2_with fail
  go_ret
  exact ⟨rfl, hc _ hw, hb _⟩

set_option maxRecDepth 100000 in
set_option maxHeartbeats 1600000 in
theorem lineIns_any (n : Nat) (a : Int) (w : World) (h : okIns n a = true) (ht : Tab w) :
    Calls Tryd.prog 75 #[.agg #[.int .i64 n, .int .i64 a]] w fun e w' => e = .returned (.string (lineP n a)) ∧ Below w.heap.size w w' := by
  obtain ⟨h1, h10, ha0, ha1⟩ := okIns_bd h
  have hcs := okIns_op h
  have hws := wordP_size n (by omega)
  have s1 := decS_size a (by omega) (by omega)
  have HO := Lib.hid (fun wx => opWords_any wx n (by omega))
  have HD := Lib.hid (fun wx hx => Decimal_any a wx (by omega) (by omega) hx)
  have Ha := Lib.hid (fun q => lineP_a (n := n) (a := a) q)
  have Hb := Lib.hid (fun q => lineP_b (n := n) (a := a) q)
  have Hba := Lib.hid ((Below.refl w.heap.size w).alloc (Nat.le_refl _) (.cells #[.int .i64 n, .int .i64 a] 70))
  have Hnw := Lib.hid (heap_alloc_new w (.cells #[.int .i64 n, .int .i64 a] 70))
  have hlw : w.heap.size < (w.alloc (.cells #[.int .i64 n, .int .i64 a] 70)).heap.size := by simp
  have Ht := Lib.hid ht
  have e1 : (wordP n ++ ⟨#[32]⟩ : ByteArray).size = (wordP n).size + 1 := ByteArray.size_append
  have hi1 : (0 : Int) ≤ (n : Int) := by omega
  have hi2 : (n : Int) < 11 := by omega
  generalize lineP n a = R at *
  generalize wordP n = W at *
  generalize decS a = D at *
  clear h ht
  go_enter Tryd.func75, Tryd.ntmps75
  go_wp2_with fail
  obtain ⟨f0, f1⟩ := blkp Hnw.out
  generalize w.alloc (.cells #[.int .i64 n, .int .i64 a] 70) = wn at *
  have hacc := Hba.out.drew
  refine wp_region_noPanic ?_
  refine wp_region_L [5,4] (fun w' => w'.cell? ⟨w.heap.size, 0, none⟩ = some (.int .i64 n) ∧ w'.cell? ⟨w.heap.size, 1, none⟩ = some (.int .i64 a)) (by kernel_rfl) (⟨f0, f1⟩) (fun hHeld => ?_)
  refine take_F (i := 1) (d := some 5) (v := ?_) (by kernel_rfl) (by kernel_rfl) rfl rfl (by kernel_rfl) (by kernel_rfl) (by kernel_rfl) (fun _ _ _ h => h) (Or.inl ⟨by rfl, ?_⟩) (by assumption) ?_
  rotate_left
  · (intro w hSw; (try dsimp only at hSw); go_simp; (try rw [if_neg (by omega)]); (try (with_reducible rfl)))
  simp only [Act.put, List.setIfInBounds_toArray, List.set_cons_zero, List.set_cons_succ]
  refine take_L [3,2] (i := 2) (d := some 6) (v := ?_) (by kernel_rfl) (by kernel_rfl) (by kernel_rfl) (by kernel_rfl) rfl rfl (by kernel_rfl) (by kernel_rfl) (by kernel_rfl) (fun _ _ _ h => h) (Or.inl ⟨by rfl, ?_⟩) (by assumption) ?_
  rotate_left
  · (intro w hSw; (try dsimp only at hSw); go_simp; (try rw [if_neg (by omega)]); (try (with_reducible rfl)))
  simp only [Act.put, List.setIfInBounds_toArray, List.set_cons_zero, List.set_cons_succ]
  refine call_L (i := 0) (d := (some 4)) rfl rfl (by kernel_rfl) (fun Kq hKq => ?_)
  go_simp
  go_at_call 73
  refine (HO.out _).mono ?_; rintro e w5 ⟨rfl, hc5, hb5⟩
  have hc6 : w5.cell? ⟨wn.heap.size, n, none⟩ = some (.string W) := hc5
  obtain ⟨g0, g1⟩ := blkp ((hb5.block _ hlw).trans Hnw.out)
  have hacc5 := hacc.trans (hb5.mono hacc.size)
  have Ht5 := Lib.hid (Ht.out.below hacc5)
  clear hacc hb5
  (try go_wp2_with fail)
  refine hKq.out _ _ (⟨g0, g1⟩) (fun hHeld => ?_)
  clear hKq Kq
  (try simp only [Act.put, List.setIfInBounds_toArray, List.set_cons_zero, List.set_cons_succ])
  refine take_F (i := 3) (d := some 7) (v := ?_) (by kernel_rfl) (by kernel_rfl) rfl rfl (by kernel_rfl) (by kernel_rfl) (by kernel_rfl) (fun _ _ _ h => h) (Or.inl ⟨by rfl, ?_⟩) (by assumption) ?_
  rotate_left
  · (intro w hSw; (try dsimp only at hSw); go_simp; (try rw [if_neg (by omega)]); (try (with_reducible rfl)))
  simp only [Act.put, List.setIfInBounds_toArray, List.set_cons_zero, List.set_cons_succ]
  refine late_L (i := 4) (d := (some 8)) (by kernel_rfl) rfl rfl (by kernel_rfl) (fun Kq hKq => ?_)
  go_simp
  refine hKq.out _ _ ?_
  clear hKq Kq
  refine late_L (i := 5) (d := (some 3)) (by kernel_rfl) rfl rfl (by kernel_rfl) (fun Kq hKq => ?_)
  go_simp
  refine hKq.out _ _ ?_
  clear hKq Kq
  refine done_L (by kernel_rfl) ?_ _
  refine NoPanic.normal ?_
  clear hc5 hc6 f0 f1
  have fin : ∀ (w6 : World), Below w5.heap.size w5 w6 → Below w.heap.size w w6 := fun w6 hb6 => hacc5.trans (hb6.mono hacc5.size)
  have Hf := Lib.hid fin; clear fin
  have Hz := Lib.hid hacc5; clear hacc5
  rcases hcs with rfl | rfl | ⟨(rfl | rfl | rfl | rfl), h1a⟩ | ⟨(rfl | rfl | rfl | rfl), rfl⟩
  iterate 2
    · go_wp2_with fail
      refine (HD.out _ Ht5.out).mono ?_; rintro e w6 ⟨rfl, hb6⟩
      have hz := Hf.out _ hb6
      clear hb6
      go_wp2_with fail
      go_ret
      rw [Ha.out (by simp)]; exact ⟨rfl, hz⟩
  iterate 4
    · by_cases ha : a = 1
      · have hn : (a != 1) = false := by simp [ha]
        have hr := Hb.out (by omega)
        clear ha h1a
        go_wp2_with fail
        go_ret
        rw [hr]; exact ⟨rfl, Hz.out⟩
      · have hn : (a != 1) = true := by simp [ha]
        have hr := Ha.out (by omega)
        clear ha h1a
        go_wp2_with fail
        refine (HD.out _ Ht5.out).mono ?_; rintro e w6 ⟨rfl, hb6⟩
        have hz := Hf.out _ hb6
        clear hb6
        go_wp2_with fail
        go_ret
        rw [hr]; exact ⟨rfl, hz⟩
  iterate 4
    · have hr := Hb.out (by omega)
      go_wp2_with fail
      go_ret
      rw [hr]; exact ⟨rfl, Hz.out⟩
end Go.Proofs.YtjkjlpjeamifbaaDoor
