/- Trains, part 3: rows of pairs; valid trains; ratios. -/
import Derived.Test.YtddiielbmjkppaaTr2
import Derived.Deep.RegionLaw
namespace Go.Proofs.Ytddiielbmjkppaa
open Go.RowKit Go.Joins

/-- the first n pairs -/
def tab2 (n : Nat) (a b : Nat → Nat) : List Value := (List.range n).flatMap fun i => [.int .i64 (a i : Int), .int .i64 (b i : Int)]
theorem tab2_succ (n : Nat) (a b : Nat → Nat) : tab2 (n + 1) a b = tab2 n a b ++ [.int .i64 (a n : Int), .int .i64 (b n : Int)] := by simp [tab2, List.range_succ]
theorem tab2_len (a b : Nat → Nat) : ∀ n, (tab2 n a b).length = n * 2
  | 0 => rfl
  | n + 1 => by rw [tab2_succ, List.length_append, tab2_len a b n]; simp; omega
theorem tab2_at (a b : Nat → Nat) : ∀ n k, k < n → (tab2 n a b)[k * 2]? = some (.int .i64 (a k : Int)) ∧ (tab2 n a b)[k * 2 + 1]? = some (.int .i64 (b k : Int))
  | 0, k, h => by omega
  | n + 1, k, h => by
    have hl := tab2_len a b n
    rw [tab2_succ]
    by_cases hk : k < n
    · rw [List.getElem?_append_left (by omega), List.getElem?_append_left (by omega)]
      exact tab2_at a b n k hk
    · obtain rfl : k = n := by omega
      rw [List.getElem?_append_right (by omega), List.getElem?_append_right (by omega), hl, show k * 2 - k * 2 = 0 by omega, show k * 2 + 1 - k * 2 = 1 by omega]
      exact ⟨rfl, rfl⟩
theorem tab2_congr {n : Nat} {a b c d : Nat → Nat} (h : ∀ k, k < n → a k = c k ∧ b k = d k) : tab2 n a b = tab2 n c d := by
  unfold tab2
  have : ∀ i ∈ List.range n, [Value.int .i64 (a i : Int), .int .i64 (b i : Int)] = [.int .i64 (c i : Int), .int .i64 (d i : Int)] := fun i hi => by
    have := h i (List.mem_range.1 hi)
    rw [this.1, this.2]
  rw [List.flatMap_def, List.flatMap_def, List.map_congr_left this]
theorem tab2_one (n : Nat) (a b : Nat → Nat) : ∀ u ∈ tab2 n a b, u.oneCell' = true := by
  intro u hu
  obtain ⟨i, _, h⟩ := List.mem_flatMap.1 hu
  simp at h
  rcases h with rfl | rfl <;> rfl
theorem rd2_at {w : World} {B n n' c : Nat} {A : Option Addr} {a b : Nat → Nat} (h : Rd w B (.slice A n' c) n 2 (tab2 n a b)) (k : Nat) (hk : k < n) :
    ∃ g o, A = some ⟨g, o, none⟩ ∧ g < B ∧ w.cell? ⟨g, o + k * 2, none⟩ = some (.int .i64 (a k : Int)) ∧ w.cell? ⟨g, o + k * 2 + 1, none⟩ = some (.int .i64 (b k : Int)) := by
  obtain ⟨_, A', c', hv, hc⟩ := h
  injection hv with e1 e2 e3
  subst e1
  obtain ⟨g, o, hA, hb, hcc⟩ := hc (by omega)
  obtain ⟨t1, t2⟩ := tab2_at a b n k hk
  exact ⟨g, o, hA, hb, hcc _ _ t1, by have := hcc _ _ t2; rwa [← Nat.add_assoc] at this⟩
theorem infoG : (Try.prog.info? 179).map (fun i => (i.zero, i.size, i.bytes)) = some (some (.agg #[.int .i64 0, .int .i64 0]), 2, 16) := by kernel_rfl
/-- teeth of wheels -/
def Teeth (n : Nat) (a b : Nat → Nat) : Prop := ∀ k, k < n → 2 ≤ a k ∧ a k ≤ 120 ∧ 2 ≤ b k ∧ b k ≤ 120

set_option maxRecDepth 100000 in
set_option maxHeartbeats 1600000 in
theorem ValidTrain_any (B : Nat) (v : Value) (n : Nat) (a b : Nat → Nat) (w : World) (h : Rd w B v n 2 (tab2 n a b)) (hB : B ≤ w.heap.size) (h1 : 1 ≤ n) (h6 : n ≤ 6) (ht : Teeth n a b) :
    Calls Try.prog 187 #[v] w fun e w' => e = .returned (.bool true) ∧ Below w.heap.size w w' := by
  have H := Lib.hid h
  have HT := Lib.hid ht
  obtain ⟨A, c, rfl⟩ := rd_sl h
  have hb0 := Lib.hid (Below.refl w.heap.size w)
  have HN := Lib.hid (fun wx => between_any (n : Int) 1 6 wx)
  rw [inB_true (by omega) (by omega)] at HN
  have hn6 : (n : Int) ≤ 6 := by omega
  clear h ht
  go_enter Try.func187, Try.ntmps187
  go_wp2_with fail
  go_loopw [7] (fun i wr => ∃ k : Nat, k ≤ n ∧ i = .int .i64 (k : Int) ∧ Below w.heap.size w wr) (fun i _ => n - (intOf i).toNat)
  case atStart => exact ⟨0, Nat.zero_le _, rfl, hb0.out⟩
  case round =>
    obtain ⟨k, hk, rfl, hbl⟩ := hrel
    have Hbl := Lib.hid hbl
    clear hbl
    by_cases hlt : k < n
    · obtain ⟨g, o, hA, hg, q0, q1⟩ := rd2_at (H.out.below (Hbl.out.mono hB)) k hlt
      subst hA
      obtain ⟨t1, t2, t3, t4⟩ := HT.out k hlt
      have hlt' : (k : Int) < (n : Int) := by omega
      generalize a k = x at *
      generalize b k = y at *
      have HX := Lib.hid (fun wx => between_any (x : Int) 2 120 wx)
      rw [inB_true (by omega) (by omega)] at HX
      have HY := Lib.hid (fun wx => between_any (y : Int) 2 120 wx)
      rw [inB_true (by omega) (by omega)] at HY
      have Hb2 := Lib.hid (Hbl.out.alloc Hbl.out.size (.cells #[.int .i64 (x : Int), .int .i64 (y : Int)] 179))
      go_wp2_with fail
      refine (HX.out _).mono ?_; rintro e w1 ⟨rfl, rfl⟩
      go_wp2_with fail
      refine (HY.out _).mono ?_; rintro e w1 ⟨rfl, rfl⟩
      go_wp2_with fail
      go_roundw
      case rel => exact ⟨k + 1, by omega, by go_num, Hb2.out⟩
      case measure => first | (simp [intOf]; done) | (simp [intOf]; omega)
    · have hlt' : (n : Int) ≤ (k : Int) := by omega
      go_wp2_with fail
      refine (HN.out _).mono ?_; rintro e w1 ⟨rfl, rfl⟩
      go_wp2_with fail
      go_ret
      exact ⟨rfl, Hbl.out⟩
set_option maxRecDepth 100000 in
set_option maxHeartbeats 1600000 in
theorem l04Ok_any (B : Nat) (v : Value) (n : Nat) (a b : Nat → Nat) (w : World) (h : Rd w B v n 2 (tab2 n a b)) (h1 : 1 ≤ n) (h6 : n ≤ 6) (ht : Teeth n a b) :
    Calls Try.prog 189 #[v] w fun e w' => e = .returned (.bool true) ∧ w = w' := by
  have H := Lib.hid h
  have HT := Lib.hid ht
  obtain ⟨A, c, rfl⟩ := rd_sl h
  have HN := Lib.hid (fun wx => l00In_any (n : Int) 1 6 wx)
  rw [inB_true (by omega) (by omega)] at HN
  have hn6 : (n : Int) ≤ 6 := by omega
  clear h ht
  go_enter Try.func189, Try.ntmps189
  go_wp2_with fail
  go_loop [3] (fun i => ∃ k : Nat, k ≤ n ∧ i = .int .i64 (k : Int)) (fun i => n - (intOf i).toNat)
  case atStart => exact ⟨0, Nat.zero_le _, rfl⟩
  case round =>
    obtain ⟨k, hk, rfl⟩ := hrel
    by_cases hlt : k < n
    · obtain ⟨g, o, hA, hg, q0, q1⟩ := rd2_at H.out k hlt
      subst hA
      obtain ⟨t1, t2, t3, t4⟩ := HT.out k hlt
      have hlt' : (k : Int) < (n : Int) := by omega
      generalize a k = x at *
      generalize b k = y at *
      have HX := Lib.hid (fun wx => l00In_any (x : Int) 2 120 wx)
      rw [inB_true (by omega) (by omega)] at HX
      have HY := Lib.hid (fun wx => l00In_any (y : Int) 2 120 wx)
      rw [inB_true (by omega) (by omega)] at HY
      go_wp2_with fail
      refine (HX.out _).mono ?_; rintro e w1 ⟨rfl, rfl⟩
      go_wp2_with fail
      refine (HY.out _).mono ?_; rintro e w1 ⟨rfl, rfl⟩
      go_wp2_with fail
      go_round
      case rel => exact ⟨k + 1, by omega, by go_num⟩
      case measure => first | (simp [intOf]; done) | (simp [intOf]; omega)
    · have hlt' : (n : Int) ≤ (k : Int) := by omega
      go_wp2_with fail
      refine (HN.out _).mono ?_; rintro e w1 ⟨rfl, rfl⟩
      go_wp2_with fail
      go_ret
      exact ⟨rfl, rfl⟩
theorem ValidTrainS_any (B : Nat) (v : Value) (n : Nat) (a b : Nat → Nat) (w : World) (h : Rd w B v n 2 (tab2 n a b)) (h1 : 1 ≤ n) (h6 : n ≤ 6) (ht : Teeth n a b) :
    Calls Try.prog 37 #[v] w fun e w' => e = .returned (.bool true) ∧ w = w' := by
  have HO := Lib.hid (l04Ok_any B v n a b w h h1 h6 ht)
  obtain ⟨A, c, rfl⟩ := rd_sl h
  clear h
  go_enter Try.func37, Try.ntmps37
  go_wp2_with fail
  refine (HO.out).mono ?_; rintro e w1 ⟨rfl, rfl⟩
  go_wp2_with fail
  go_ret
  exact ⟨rfl, rfl⟩

theorem res2_all (w : World) (x y : Value) (t : TypeId) (a b : Value) (w2 : World) (h : Below (w.alloc (.cells #[x, y] t)).heap.size (w.alloc (.cells #[x, y] t)) w2) :
    (w2.cell? ⟨w.heap.size, 0, none⟩ = some x ∧ w2.cell? ⟨w.heap.size, 1, none⟩ = some y ∧ w2.frozen? ⟨w.heap.size, 0, none⟩ = false ∧ w2.frozen? ⟨w.heap.size, 1, none⟩ = false) ∧
    ((w2.setCell ⟨w.heap.size, 0, none⟩ a).setCell ⟨w.heap.size, 1, none⟩ b).cell? ⟨w.heap.size, 0, none⟩ = some a ∧ ((w2.setCell ⟨w.heap.size, 0, none⟩ a).setCell ⟨w.heap.size, 1, none⟩ b).cell? ⟨w.heap.size, 1, none⟩ = some b ∧
    Below w.heap.size w ((w2.setCell ⟨w.heap.size, 0, none⟩ a).setCell ⟨w.heap.size, 1, none⟩ b) := ⟨res2_pre h, res2_post h a b⟩
/-- a result's block and a fraction in the block behind it -/
structure RtAt (w wr : World) (N : Int) (D : Nat) : Prop where
  res : wr.heap[w.heap.size]? = some (.cells #[.int .i64 0, .int .i64 0] 47 (0, 0))
  own : wr.heap[w.heap.size + 1]? = some (.cells #[.int .i64 N, .int .i64 (D : Int)] 47 (0, 0))
  bel : Below w.heap.size w wr
theorem RtAt.start (w : World) : RtAt w ((w.alloc (.cells #[.int .i64 0, .int .i64 0] 47)).alloc (.cells #[.int .i64 1, .int .i64 1] 47)) 1 1 := by
  refine ⟨?_, ?_, ((Below.refl _ _).alloc (Nat.le_refl _) _).alloc (by simp) _⟩
  · show ((w.heap.push _).push _)[w.heap.size]? = _
    simp only [Array.getElem?_push, Array.size_push]
    rw [if_neg (by omega), if_pos trivial]
  · show ((w.heap.push _).push _)[w.heap.size + 1]? = _
    simp only [Array.getElem?_push, Array.size_push]
    rw [if_pos trivial]; rfl
theorem RtAt.below {w wr w' : World} {N : Int} {D : Nat} (h : RtAt w wr N D) (hb : Below wr.heap.size wr w') : RtAt w w' N D :=
  ⟨(hb.block _ (Array.getElem?_eq_some_iff.1 h.res).1).trans h.res, (hb.block _ (Array.getElem?_eq_some_iff.1 h.own).1).trans h.own, h.bel.trans (hb.mono h.bel.size)⟩
theorem RtAt.put {w wr : World} {N N' : Int} {D D' : Nat} (h : RtAt w wr N D) : RtAt w ((wr.setCell ⟨w.heap.size + 1, 0, none⟩ (.int .i64 N')).setCell ⟨w.heap.size + 1, 1, none⟩ (.int .i64 (D' : Int))) N' D' :=
  ⟨(Below.heap_setCell _ _ _ _ (by simp)).trans ((Below.heap_setCell _ _ _ _ (by simp)).trans h.res), heap_setCell_same _ _ 1 _ _ _ (heap_setCell_same wr _ 0 _ _ _ h.own), (h.bel.setCell (p := ⟨w.heap.size + 1, 0, none⟩) (by simp) _).setCell (p := ⟨w.heap.size + 1, 1, none⟩) (by simp) _⟩
theorem RtAt.done {w wr : World} {N : Int} {D : Nat} (h : RtAt w wr N D) (x y : Value) : ((wr.setCell ⟨w.heap.size, 0, none⟩ x).setCell ⟨w.heap.size, 1, none⟩ y).cell? ⟨w.heap.size, 0, none⟩ = some x ∧ ((wr.setCell ⟨w.heap.size, 0, none⟩ x).setCell ⟨w.heap.size, 1, none⟩ y).cell? ⟨w.heap.size, 1, none⟩ = some y ∧ Below w.heap.size w ((wr.setCell ⟨w.heap.size, 0, none⟩ x).setCell ⟨w.heap.size, 1, none⟩ y) := by
  have hq := heap_setCell_same _ w.heap.size 1 _ _ y (heap_setCell_same wr w.heap.size 0 _ _ x h.res)
  obtain ⟨e0, e1, _, _⟩ := blk2 hq
  exact ⟨e0, e1, (h.bel.setCell (p := ⟨w.heap.size, 0, none⟩) (Nat.le_refl _) x).setCell (p := ⟨w.heap.size, 1, none⟩) (Nat.le_refl _) y⟩
theorem rt_bd {n : Nat} {a b : Nat → Nat} (h6 : n ≤ 6) (ht : Teeth n a b) (k : Nat) (hk : k ≤ n) : 0 < (rt a b k).2 ∧ (rt a b k).2 ≤ 2985984000000 ∧ (rt a b k).1.natAbs ≤ 2985984000000 ∧ (rt a b k).1 ≠ 0 := by
  obtain ⟨h1, h2, h3, h4, _⟩ := rt_all (n := n) (a := a) (b := b) (fun k hk => by have := ht k hk; omega) (fun k hk => by have := ht k hk; omega) k hk
  have e1 := pr_le (a := a) (n := n) (M := 120) (fun k hk => (ht k hk).2.1) k hk
  have e2 := pr_le (a := b) (n := n) (M := 120) (fun k hk => (ht k hk).2.2.2) k hk
  have e3 : 120 ^ k ≤ 120 ^ 6 := Nat.pow_le_pow_right (by omega) (by omega)
  have e4 : (120 : Nat) ^ 6 = 2985984000000 := rfl
  omega
end Go.Proofs.Ytddiielbmjkppaa
