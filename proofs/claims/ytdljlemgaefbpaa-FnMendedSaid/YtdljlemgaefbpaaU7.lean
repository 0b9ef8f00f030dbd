/- Errors of tables, part 7: what the laws draw. -/
import Derived.Test.YtdljlemgaefbpaaU6
namespace Go.Proofs.Ytdljlemgaefbpaa
open Go.RowKit Go.Joins

theorem below_src {w w2 w3 : World} (hb : Below w.heap.size w w2) (hg : w2.grownBy w3 (some w.heap.size)) : Below w.heap.size w w3 := hb.grown hg hb.size (fun k hk => by cases hk; exact Nat.le_refl _)
/-- a list and a number are drawn -/
def RetDL (M : Nat) (w : World) (e : Ending) (w' : World) : Prop :=
  ∃ v n f x, e = .returned (.tuple #[v, .int .i64 x]) ∧ n ≤ M ∧ w'.ownsRow w.heap.size 2 1 v n (tab n f) ∧ Below w.heap.size w w'
def RetD2 (w : World) (e : Ending) (w' : World) : Prop :=
  ∃ x y, e = .returned (.tuple #[.int .i64 x, .int .i64 y]) ∧ Below w.heap.size w w'
def RetD3 (w : World) (e : Ending) (w' : World) : Prop :=
  ∃ x y z, e = .returned (.tuple #[.int .i64 x, .int .i64 y, .int .i64 z]) ∧ Below w.heap.size w w'

theorem DrawRoundTo_c (B : Nat) (cv : Value) (bs : List UInt8) (w : World) (h : Rd w B cv bs.length 1 (bs.map byV)) (hB : B ≤ w.heap.size) : Calls Try.prog 32 #[cv] w (RetD2 w) := by
  have HF := Lib.hid (l00From_any B cv bs w h hB)
  obtain ⟨A, c, rfl⟩ := rd_sl h
  clear h
  go_enter Try.func32, Try.ntmps32
  go_wp2_with fail
  refine HF.out.mono ?_; rintro e w1 ⟨rfl, hs1, hb1, hlt⟩
  have Hs1 := Lib.hid hs1
  have Hb1 := Lib.hid hb1
  clear hs1 hb1
  go_wp2_with fail
  refine (l17DrawValue_c B w.heap.size 0 bs _ Hs1.out (by omega)).mono ?_; rintro e w2 ⟨x, rfl, _, hs2, hg2⟩
  have Hs2 := Lib.hid hs2
  have Hb2 := Lib.hid (below_src Hb1.out hg2)
  clear hs2 hg2
  go_wp2_with fail
  refine (l17DrawUnit_c B w.heap.size _ bs _ Hs2.out (by omega)).mono ?_; rintro e w3 ⟨y, rfl, _, hs3, hg3⟩
  have Hb3 := Lib.hid (below_src Hb2.out hg3)
  clear hs3 hg3
  go_wp2_with fail
  go_ret2
  exact ⟨x, y, rfl, Hb3.out⟩
theorem DrawWorstPattern_c (B : Nat) (cv : Value) (bs : List UInt8) (w : World) (h : Rd w B cv bs.length 1 (bs.map byV)) (hB : B ≤ w.heap.size) : Calls Try.prog 40 #[cv] w (RetD2 w) := by
  have HF := Lib.hid (l00From_any B cv bs w h hB)
  obtain ⟨A, c, rfl⟩ := rd_sl h
  clear h
  go_enter Try.func40, Try.ntmps40
  go_wp2_with fail
  refine HF.out.mono ?_; rintro e w1 ⟨rfl, hs1, hb1, hlt⟩
  have Hs1 := Lib.hid hs1
  have Hb1 := Lib.hid hb1
  clear hs1 hb1
  go_wp2_with fail
  refine (l17DrawOrder_c B w.heap.size 0 bs _ Hs1.out (by omega)).mono ?_; rintro e w2 ⟨x, y, rfl, hs2, hg2⟩
  have Hb2 := Lib.hid (below_src Hb1.out hg2)
  clear hs2 hg2
  go_wp2_with fail
  go_ret2
  exact ⟨x, y, rfl, Hb2.out⟩
set_option maxRecDepth 100000 in
set_option maxHeartbeats 800000 in
theorem DrawRoundTable_c (B : Nat) (cv : Value) (bs : List UInt8) (w : World) (h : Rd w B cv bs.length 1 (bs.map byV)) (hB : B ≤ w.heap.size) : Calls Try.prog 35 #[cv] w (RetDL 201 w) := by
  have HF := Lib.hid (l00From_any B cv bs w h hB)
  obtain ⟨A, c, rfl⟩ := rd_sl h
  clear h
  go_enter Try.func35, Try.ntmps35
  go_wp2_with fail
  refine HF.out.mono ?_; rintro e w1 ⟨rfl, hs1, hb1, hlt⟩
  have Hs1 := Lib.hid hs1
  have Hb1 := Lib.hid hb1
  clear hs1 hb1
  go_wp2_with fail
  refine (l17Values_c B w.heap.size 0 bs _ Hs1.out (by omega)).mono ?_; rintro e w2 ⟨v, n, f, rfl, hn, ho2, hs2, hg2⟩
  obtain ⟨A2, c2, rfl⟩ := own_sl ho2
  have Hs2 := Lib.hid hs2
  have Ho2 := Lib.hid ho2
  have Hb2 := Lib.hid (below_src Hb1.out hg2)
  clear hs2 hg2 ho2
  go_wp2_with fail
  refine (l17DrawUnit_c B w.heap.size _ bs _ Hs2.out (by omega)).mono ?_; rintro e w3 ⟨y, rfl, _, hs3, hg3⟩
  have Hb3 := Lib.hid (below_src Hb2.out hg3)
  have Ho3 := Lib.hid (ownsRow_le (own_gs Ho2.out hg3 hlt) (Nat.le_of_lt hlt))
  clear hs3 hg3
  go_wp2_with fail
  go_ret2
  exact ⟨_, n, f, y, rfl, hn, Ho3.out, Hb3.out⟩
set_option maxRecDepth 100000 in
set_option maxHeartbeats 800000 in
theorem DrawSumBound_c (B : Nat) (cv : Value) (bs : List UInt8) (w : World) (h : Rd w B cv bs.length 1 (bs.map byV)) (hB : B ≤ w.heap.size) : Calls Try.prog 22 #[cv] w (RetDL 10 w) := by
  have HF := Lib.hid (l00From_any B cv bs w h hB)
  obtain ⟨A, c, rfl⟩ := rd_sl h
  clear h
  go_enter Try.func22, Try.ntmps22
  go_wp2_with fail
  refine HF.out.mono ?_; rintro e w1 ⟨rfl, hs1, hb1, hlt⟩
  have Hs1 := Lib.hid hs1
  have Hb1 := Lib.hid hb1
  clear hs1 hb1
  go_wp2_with fail
  refine (l17DrawSlips_c B w.heap.size 0 bs _ Hs1.out (by omega)).mono ?_; rintro e w2 ⟨v, n, f, rfl, hn, ho2, hs2, hg2⟩
  obtain ⟨A2, c2, rfl⟩ := own_sl ho2
  have Hs2 := Lib.hid hs2
  have Ho2 := Lib.hid ho2
  have Hb2 := Lib.hid (below_src Hb1.out hg2)
  clear hs2 hg2 ho2
  go_wp2_with fail
  refine (l17DrawSteps_c B w.heap.size _ bs _ Hs2.out (by omega)).mono ?_; rintro e w3 ⟨y, rfl, _, hs3, hg3⟩
  have Hb3 := Lib.hid (below_src Hb2.out hg3)
  have Ho3 := Lib.hid (ownsRow_le (own_gs Ho2.out hg3 hlt) (Nat.le_of_lt hlt))
  clear hs3 hg3
  go_wp2_with fail
  go_ret2
  exact ⟨_, n, f, y, rfl, hn, Ho3.out, Hb3.out⟩
set_option maxRecDepth 100000 in
set_option maxHeartbeats 800000 in
theorem DrawBoundTable_c (B : Nat) (cv : Value) (bs : List UInt8) (w : World) (h : Rd w B cv bs.length 1 (bs.map byV)) (hB : B ≤ w.heap.size) : Calls Try.prog 25 #[cv] w (RetDL 10 w) := by
  have HF := Lib.hid (l00From_any B cv bs w h hB)
  obtain ⟨A, c, rfl⟩ := rd_sl h
  clear h
  go_enter Try.func25, Try.ntmps25
  go_wp2_with fail
  refine HF.out.mono ?_; rintro e w1 ⟨rfl, hs1, hb1, hlt⟩
  have Hs1 := Lib.hid hs1
  have Hb1 := Lib.hid hb1
  clear hs1 hb1
  go_wp2_with fail
  refine (l17DrawSlips_c B w.heap.size 0 bs _ Hs1.out (by omega)).mono ?_; rintro e w2 ⟨v, n, f, rfl, hn, ho2, hs2, hg2⟩
  obtain ⟨A2, c2, rfl⟩ := own_sl ho2
  have Hs2 := Lib.hid hs2
  have Ho2 := Lib.hid ho2
  have Hb2 := Lib.hid (below_src Hb1.out hg2)
  clear hs2 hg2 ho2
  go_wp2_with fail
  refine (one_any B w.heap.size _ bs 10 _ Hs2.out (by omega)).mono ?_; rintro e w3 ⟨t, rfl, hs3, hg3⟩
  have Hs3 := Lib.hid hs3
  have Hb3 := Lib.hid (below_src Hb2.out hg3)
  have Ho3 := Lib.hid (own_gs Ho2.out hg3 hlt)
  clear hs3 hg3
  cases t with
  | true =>
    go_wp2_with fail
    refine (among_in B w.heap.size _ 4 [-1, 0, 200, 201] bs w3 Hs3.out (by omega) rfl (by omega) (by omega)).mono ?_; rintro e w4 ⟨y, _, rfl, hs4, hg4⟩
    have Hb4 := Lib.hid (below_src Hb3.out hg4)
    have Ho4 := Lib.hid (ownsRow_le (own_gs Ho3.out hg4 hlt) (Nat.le_of_lt hlt))
    clear hs4 hg4
    go_wp2_with fail
    go_ret2
    exact ⟨_, n, f, y, rfl, hn, Ho4.out, Hb4.out⟩
  | false =>
    go_wp2_with fail
    refine (pick_any B w.heap.size _ bs 20 _ Hs3.out (by omega)).mono ?_; rintro e w4 ⟨y, rfl, _, hs4, hg4⟩
    have Hb4 := Lib.hid (below_src Hb3.out hg4)
    have Ho4 := Lib.hid (ownsRow_le (own_gs Ho3.out hg4 hlt) (Nat.le_of_lt hlt))
    clear hs4 hg4
    go_wp2_with fail
    go_ret2
    exact ⟨_, n, f, y, rfl, hn, Ho4.out, Hb4.out⟩
set_option maxRecDepth 100000 in
set_option maxHeartbeats 800000 in
theorem DrawSafeSteps_c (B : Nat) (cv : Value) (bs : List UInt8) (w : World) (h : Rd w B cv bs.length 1 (bs.map byV)) (hB : B ≤ w.heap.size) : Calls Try.prog 19 #[cv] w (RetDL 10 w) := by
  have HF := Lib.hid (l00From_any B cv bs w h hB)
  obtain ⟨A, c, rfl⟩ := rd_sl h
  clear h
  go_enter Try.func19, Try.ntmps19
  go_wp2_with fail
  refine HF.out.mono ?_; rintro e w1 ⟨rfl, hs1, hb1, hlt⟩
  have Hs1 := Lib.hid hs1
  have Hb1 := Lib.hid hb1
  clear hs1 hb1
  go_wp2_with fail
  refine (l17DrawSlips_c B w.heap.size 0 bs _ Hs1.out (by omega)).mono ?_; rintro e w2 ⟨v, n, f, rfl, hn, ho2, hs2, hg2⟩
  obtain ⟨A2, c2, rfl⟩ := own_sl ho2
  have Hs2 := Lib.hid hs2
  have Ho2 := Lib.hid ho2
  have Hb2 := Lib.hid (below_src Hb1.out hg2)
  clear hs2 hg2 ho2
  go_wp2_with fail
  refine (one_any B w.heap.size _ bs 10 _ Hs2.out (by omega)).mono ?_; rintro e w3 ⟨t, rfl, hs3, hg3⟩
  have Hs3 := Lib.hid hs3
  have Hb3 := Lib.hid (below_src Hb2.out hg3)
  have Ho3 := Lib.hid (own_gs Ho2.out hg3 hlt)
  clear hs3 hg3
  cases t with
  | true =>
    go_wp2_with fail
    refine (among_in B w.heap.size _ 4 [-1, 0, 1000000000000, 1000000000001] bs w3 Hs3.out (by omega) rfl (by omega) (by omega)).mono ?_; rintro e w4 ⟨y, _, rfl, hs4, hg4⟩
    have Hb4 := Lib.hid (below_src Hb3.out hg4)
    have Ho4 := Lib.hid (ownsRow_le (own_gs Ho3.out hg4 hlt) (Nat.le_of_lt hlt))
    clear hs4 hg4
    go_wp2_with fail
    go_ret2
    exact ⟨_, n, f, y, rfl, hn, Ho4.out, Hb4.out⟩
  | false =>
    go_wp2_with fail
    refine (pick_any B w.heap.size _ bs 2000 _ Hs3.out (by omega)).mono ?_; rintro e w4 ⟨y, rfl, _, hs4, hg4⟩
    have Hb4 := Lib.hid (below_src Hb3.out hg4)
    have Ho4 := Lib.hid (ownsRow_le (own_gs Ho3.out hg4 hlt) (Nat.le_of_lt hlt))
    clear hs4 hg4
    go_wp2_with fail
    go_ret2
    exact ⟨_, n, f, y, rfl, hn, Ho4.out, Hb4.out⟩
set_option maxRecDepth 100000 in
set_option maxHeartbeats 800000 in
theorem DrawGuardDigits_c (B : Nat) (cv : Value) (bs : List UInt8) (w : World) (h : Rd w B cv bs.length 1 (bs.map byV)) (hB : B ≤ w.heap.size) : Calls Try.prog 28 #[cv] w (RetD3 w) := by
  have HF := Lib.hid (l00From_any B cv bs w h hB)
  obtain ⟨A, c, rfl⟩ := rd_sl h
  clear h
  go_enter Try.func28, Try.ntmps28
  go_wp2_with fail
  refine HF.out.mono ?_; rintro e w1 ⟨rfl, hs1, hb1, hlt⟩
  have Hs1 := Lib.hid hs1
  have Hb1 := Lib.hid hb1
  clear hs1 hb1
  go_wp2_with fail
  refine (l17DrawOrder_c B w.heap.size 0 bs _ Hs1.out (by omega)).mono ?_; rintro e w2 ⟨x, y, rfl, hs2, hg2⟩
  have Hs2 := Lib.hid hs2
  have Hb2 := Lib.hid (below_src Hb1.out hg2)
  clear hs2 hg2
  go_wp2_with fail
  refine (l17DrawSteps_c B w.heap.size _ bs _ Hs2.out (by omega)).mono ?_; rintro e w3 ⟨z, rfl, _, hs3, hg3⟩
  have Hs3 := Lib.hid hs3
  have Hb3 := Lib.hid (below_src Hb2.out hg3)
  clear hs3 hg3
  go_wp2_with fail
  refine (among_in B w.heap.size _ 6 [10, 10, 2, 1, 16, 17] bs w3 Hs3.out (by omega) rfl (by omega) (by omega)).mono ?_; rintro e w4 ⟨q, _, rfl, hs4, hg4⟩
  have Hb4 := Lib.hid (below_src Hb3.out hg4)
  clear hs4 hg4
  go_wp2_with fail
  go_ret3
  exact ⟨x, z, q, rfl, Hb4.out⟩
end Go.Proofs.Ytdljlemgaefbpaa
