/- Trains, part 8: found trains; drawn trains. -/
import Derived.Test.YtddiielbmjkppaaTr7
import Derived.Test.YtddiielbmjkppaaSrc
namespace Go.Proofs.Ytddiielbmjkppaa
open Go.RowKit Go.Joins

def ft (x : Nat) : Nat → Nat := fun i => if i = 0 then 2 else 2 * x
theorem full_own {w : World} {e : TypeId} {cs : Array Value} {n sz base : Nat} (hs : cs.size = n * sz) (hn : n ≤ maxLen) (hb : base ≤ w.heap.size) : (w.alloc (.cells cs e)).ownsRow base e sz (.slice (some ⟨w.heap.size, 0, none⟩) n n) n cs.toList :=
  ⟨by simpa using hs, .inr ⟨w.heap.size, n, cs, rfl, hb, heap_alloc_new w _, Nat.le_refl _, hn, hs, by rw [List.take_of_length_le]; simp; omega⟩⟩
set_option maxRecDepth 100000 in
set_option maxHeartbeats 3200000 in
theorem FindTrain_any (num den : Nat) (w : World) (h1 : 1 ≤ num) (h2 : num ≤ 60) (k1 : 1 ≤ den) (k2 : den ≤ 60) :
    Calls Try.prog 40 #[.int .i64 (num : Int), .int .i64 (den : Int)] w (RetG 2 (ft (num / Nat.gcd num den)) (ft (den / Nat.gcd num den)) w) := by
  have HI := Lib.hid (fun wx => between_any (num : Int) 1 1000000 wx)
  rw [inB_true (by omega) (by omega)] at HI
  have HI' := Lib.hid (fun wx => between_any (den : Int) 1 1000000 wx)
  rw [inB_true (by omega) (by omega)] at HI'
  have HG := Lib.hid (fun wx => divisor_any num den wx (by omega) (by omega))
  have hg := Nat.gcd_pos_of_pos_left den (show 0 < num by omega)
  have hgl := Nat.le_of_dvd (by omega) (Nat.gcd_dvd_left num den)
  have hgr := Nat.le_of_dvd (by omega) (Nat.gcd_dvd_right num den)
  have hn1 : 1 ≤ num / Nat.gcd num den := Nat.div_pos hgl hg
  have hd1 : 1 ≤ den / Nat.gcd num den := Nat.div_pos hgr hg
  have hn2 := Nat.div_le_self num (Nat.gcd num den)
  have hd2 := Nat.div_le_self den (Nat.gcd num den)
  have e1 : Int.tdiv (num : Int) (Nat.gcd num den : Int) = ((num / Nat.gcd num den : Nat) : Int) := by rw [Int.tdiv_eq_ediv_of_nonneg (by omega)]; exact (Int.natCast_ediv _ _).symm
  have e2 : Int.tdiv (den : Int) (Nat.gcd num den : Int) = ((den / Nat.gcd num den : Nat) : Int) := by rw [Int.tdiv_eq_ediv_of_nonneg (by omega)]; exact (Int.natCast_ediv _ _).symm
  generalize num / Nat.gcd num den = n at *
  generalize den / Nat.gcd num den = d at *
  generalize Nat.gcd num den = g at *
  have hgn : g ≠ 0 := by omega
  have hgi : (g : Int) ≠ 0 := by omega
  have hn60 : (n : Int) ≤ 60 := by omega
  have hd60 : (d : Int) ≤ 60 := by omega
  have hwn : IntKind.i64.wrap (n : Int) = (n : Int) := IntWalk.i64_in _ (by omega)
  have hwd : IntKind.i64.wrap (d : Int) = (d : Int) := IntWalk.i64_in _ (by omega)
  have Ho := Lib.hid (fun q => full_own (w := w.drewN q) (e := 179) (cs := #[.int .i64 2, .int .i64 2, .int .i64 (2 * (n : Int)), .int .i64 (2 * (d : Int))]) (n := 2) (sz := 2) (base := w.heap.size) rfl (by simp [maxLen]) (Nat.le_refl _))
  have Hb := Lib.hid (fun q o => (below_drewN (Below.refl w.heap.size w) q).alloc (Nat.le_refl _) o)
  have Ht := Lib.hid (show tab2 2 (ft n) (ft d) = [.int .i64 2, .int .i64 2, .int .i64 (2 * (n : Int)), .int .i64 (2 * (d : Int))] by simp [tab2, ft, List.range_succ])
  have hn1i : (1 : Int) ≤ (n : Int) := by omega
  have hd1i : (1 : Int) ≤ (d : Int) := by omega
  clear hg hgl hgr hn2 hd2 h1 h2 k1 k2
  go_enter Try.func40, Try.ntmps40
  go_wp2_with fail
  refine (HI.out _).mono ?_; rintro e w1 ⟨rfl, rfl⟩
  go_wp2_with fail
  refine (HI'.out _).mono ?_; rintro e w1 ⟨rfl, rfl⟩
  go_wp2_with fail
  refine (HG.out _).mono ?_; rintro e w2 ⟨rfl, q, rfl⟩
  go_wp2_with fail
  go_quiet (fail)
  clear e1 e2 hwn hwd
  have e3 : Int.tmod (n : Int) 1 = 0 := by simp
  have e4 : Int.tdiv (n : Int) 1 = (n : Int) := by simp
  have e5 : Int.tmod (d : Int) 1 = 0 := by simp
  have e6 : Int.tdiv (d : Int) 1 = (d : Int) := by simp
  have hmn : ¬ ((60 : Int) < (n : Int)) := by omega
  have hmd : ¬ ((60 : Int) < (d : Int)) := by omega
  go_wp2_with fail
  go_loopw [7] (fun i wr => i = .int .i64 1 ∧ wr = w.drewN (q + nq)) (fun i _ => 0)
  case atStart => exact ⟨rfl, rfl⟩
  case round =>
    obtain ⟨rfl, rfl⟩ := hrel
    go_wp2_with fail
    go_loopw [8] (fun i wr => i = .int .i64 1 ∧ wr = w.drewN (q + nq)) (fun i _ => 0)
    case atStart => exact ⟨rfl, rfl⟩
    case round =>
      obtain ⟨rfl, rfl⟩ := hrel
      go_wp2_with fail
      have hwn : IntKind.i64.wrap (n : Int) = (n : Int) := IntWalk.i64_in _ (by omega)
      have hwd : IntKind.i64.wrap (d : Int) = (d : Int) := IntWalk.i64_in _ (by omega)
      have hw2 : IntKind.i64.wrap 2 = 2 := IntWalk.i64_in _ (by omega)
      have hwn2 : IntKind.i64.wrap (2 * (n : Int)) = 2 * (n : Int) := IntWalk.i64_in _ (by omega)
      have hwd2 : IntKind.i64.wrap (2 * (d : Int)) = 2 * (d : Int) := IntWalk.i64_in _ (by omega)
      go_region_law (fail)
      all_goals
        (try go_wp2_with fail)
        go_ret2
        exact ⟨_, rfl, by rw [Ht.out]; exact Ho.out (q + nq + 1), Hb.out (q + nq + 1) _⟩
end Go.Proofs.Ytddiielbmjkppaa
