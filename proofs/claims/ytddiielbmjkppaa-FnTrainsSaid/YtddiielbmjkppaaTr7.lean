/- Trains, part 7: trains from their ends, joined, and found. -/
import Derived.Test.YtddiielbmjkppaaTr6
namespace Go.Proofs.Ytddiielbmjkppaa
open Go.RowKit Go.Joins

/-- a train of the call's own and the code 0 are handed back -/
def RetG (n : Nat) (a b : Nat → Nat) (w : World) (e : Ending) (w' : World) : Prop :=
  ∃ v, e = .returned (.tuple #[v, .int .i64 0]) ∧ w'.ownsRow w.heap.size 179 2 v n (tab2 n a b) ∧ Below w.heap.size w w'
set_option maxRecDepth 100000 in
set_option maxHeartbeats 3200000 in
theorem BackTrain_any (B : Nat) (v : Value) (n : Nat) (a b : Nat → Nat) (w : World) (h : Rd w B v n 2 (tab2 n a b)) (hB : B ≤ w.heap.size) (h1 : 1 ≤ n) (h6 : n ≤ 6) (ht : Teeth n a b) :
    Calls Try.prog 36 #[v] w (RetG n (bk n b) (bk n a) w) := by
  have H := Lib.hid h
  have HV := Lib.hid (ValidTrain_any B v n a b w h hB h1 h6 ht)
  have HT := Lib.hid ht
  obtain ⟨A, c, rfl⟩ := rd_sl h
  have hn6 : (n : Int) ≤ 6 := by omega
  have ho0 := Lib.hid (fun w1 => World.ownsRow_made (base := w1.heap.size) (e := 179) (size := 2) w1 #[] 0 (Nat.le_refl _) (by simp [maxLen]) rfl)
  clear h ht
  go_enter Try.func36, Try.ntmps36
  go_wp2_with fail
  refine (HV.out).mono ?_; rintro e w1 ⟨rfl, hb1⟩
  have Hb1 := Lib.hid (hb1.alloc hb1.size (.cells #[] 179))
  have Ho1 := Lib.hid (ownsRow_le (ho0.out w1) hb1.size)
  clear hb1
  go_wp2_with fail
  go_loopw [4, 5] (fun v i wr => ∃ (j : Nat) (z : Int), j ≤ n ∧ z + j + 1 = (n : Int) ∧ i = .int .i64 z ∧ wr.ownsRow w.heap.size 179 2 v j (tab2 j (bk n b) (bk n a)) ∧ Below w.heap.size w wr) (fun _ i _ => (intOf i + 1).toNat)
  case atStart => exact ⟨0, (n : Int) - 1, Nat.zero_le _, by omega, rfl, Ho1.out, Hb1.out⟩
  case round =>
    obtain ⟨j, z, hj, hz, rfl, hown, hbl⟩ := hrel
    obtain ⟨A3, c3, rfl⟩ := own_sl hown
    have Hown := Lib.hid hown
    have Hbl := Lib.hid hbl
    clear hown hbl
    by_cases hjn : j < n
    · obtain ⟨s, rfl⟩ : ∃ s : Nat, z = (s : Int) := ⟨z.toNat, by omega⟩
      have hs : s < n := by omega
      obtain ⟨g, o, hA, hg, q0, q1⟩ := rd2_at (H.out.below (Hbl.out.mono hB)) s hs
      subst hA
      have Hsc := Lib.hid (tab2_succ j (bk n b) (bk n a))
      rw [show bk n b j = b s by show b (n - 1 - j) = b s; congr 1; omega, show bk n a j = a s by show a (n - 1 - j) = a s; congr 1; omega] at Hsc
      generalize a s = x at *
      generalize b s = y at *
      have hsn : (s : Int) < (n : Int) := by omega
      have Hz := Lib.hid hz
      have hmx : j + 1 ≤ maxLen := by simp [maxLen]; omega
      have hby : (j + 1) * 16 ≤ 140737488355328 := by omega
      have hj6 : j < 6 := by omega
      clear hz
      go_wp2_with fail
      go_region_law ((first
        | (refine step_apd 44 179 _ 2 16 Try.underlying44 infoG rfl (by omega) _ _ (by rfl) (by rfl) w.heap.size _ j _ (by rfl) Hown.out #[.int .i64 (y : Int), .int .i64 (x : Int)] 1 1 (by rfl) (by rfl) (by simp [Value.oneCell']) hmx hby Hbl.out.size ?_; intro v8 w8 hown8 hg8; have Hb8 := Lib.hid (below_apd Hbl.out Hown.out hg8 (Nat.le_refl _) Hbl.out.size); obtain ⟨A8, c8, rfl⟩ := own_sl hown8; have Hown8 := Lib.hid hown8; clear hown8 hg8)))
      all_goals
        (try go_wp2_with fail)
        go_roundw
        case rel => exact ⟨j + 1, (s : Int) - 1, by omega, by have := Hz.out; omega, by go_num, by rw [Hsc.out]; exact Hown8.out, Hb8.out⟩
        case measure => first | (simp [intOf]; done) | (simp [intOf]; omega)
    · obtain rfl : j = n := by omega
      obtain rfl : z = -1 := by omega
      clear hz
      go_wp2_with fail
      go_ret2
      exact ⟨_, rfl, Hown.out, Hbl.out⟩

theorem tab2_jn {n : Nat} (a b c d : Nat → Nat) : ∀ m, tab2 (n + m) (jn n a c) (jn n b d) = tab2 n a b ++ tab2 m c d
  | 0 => by rw [Nat.add_zero]; show _ = _ ++ []; rw [List.append_nil]; exact tab2_congr fun k hk => ⟨jn_l a c hk, jn_l b d hk⟩
  | m + 1 => by rw [← Nat.add_assoc, tab2_succ, tab2_jn a b c d m, tab2_succ, jn_r, jn_r, List.append_assoc]
set_option maxRecDepth 100000 in
set_option maxHeartbeats 3200000 in
theorem JoinTrains_any (B1 g1 o1 n c1 B2 g2 o2 m c2 : Nat) (a b c d : Nat → Nat) (w : World) (h : Rd w B1 (.slice (some ⟨g1, o1, none⟩) n c1) n 2 (tab2 n a b)) (h' : Rd w B2 (.slice (some ⟨g2, o2, none⟩) m c2) m 2 (tab2 m c d)) (hB1 : B1 ≤ w.heap.size) (hB2 : B2 ≤ w.heap.size) (h1 : 1 ≤ n) (k1 : 1 ≤ m) (h6 : n + m ≤ 6) (ht : Teeth n a b) (kt : Teeth m c d) :
    Calls Try.prog 35 #[.slice (some ⟨g1, o1, none⟩) n c1, .slice (some ⟨g2, o2, none⟩) m c2] w (RetG (n + m) (jn n a c) (jn n b d) w) := by
  have H := Lib.hid h
  have H' := Lib.hid h'
  have HV := Lib.hid (ValidTrain_any B1 _ n a b w h hB1 h1 (by omega) ht)
  have HV' := Lib.hid (fun wx hx hz => ValidTrain_any B2 (.slice (some ⟨g2, o2, none⟩) m c2) m c d wx hx hz k1 (by omega) kt)
  have ho0 := Lib.hid (fun w1 => World.ownsRow_made (base := w1.heap.size) (e := 179) (size := 2) w1 #[] 0 (Nat.le_refl _) (by simp [maxLen]) rfl)
  have hnm : ¬ ((6 : Int) < (n : Int) + (m : Int)) := by omega
  have hn6 : (n : Int) ≤ 6 := by omega
  have hm6 : (m : Int) ≤ 6 := by omega
  have HR := Lib.hid (fun wx (hb : Below w.heap.size w wx) => (show ∀ (i : Nat) (u : Value), (tab2 n a b)[i]? = some u → wx.cell? ⟨g1, o1 + i, none⟩ = some u from by
    obtain ⟨_, A', c', hv, hc⟩ := h
    injection hv with e1 e2 e3
    subst e1
    obtain ⟨g, o, hA, hbb, hcc⟩ := hc (by omega)
    obtain ⟨rfl, rfl⟩ : g1 = g ∧ o1 = o := by simpa using hA
    exact fun i u hu => (hb.cell (p := ⟨g1, o1 + i, none⟩) (Nat.lt_of_lt_of_le hbb hB1)).trans (hcc i u hu)))
  have HR' := Lib.hid (fun wx (hb : Below w.heap.size w wx) => (show ∀ (i : Nat) (u : Value), (tab2 m c d)[i]? = some u → wx.cell? ⟨g2, o2 + i, none⟩ = some u from by
    obtain ⟨_, A', c', hv, hc⟩ := h'
    injection hv with e1 e2 e3
    subst e1
    obtain ⟨g, o, hA, hbb, hcc⟩ := hc (by omega)
    obtain ⟨rfl, rfl⟩ : g2 = g ∧ o2 = o := by simpa using hA
    exact fun i u hu => (hb.cell (p := ⟨g2, o2 + i, none⟩) (Nat.lt_of_lt_of_le hbb hB2)).trans (hcc i u hu)))
  clear h h'
  go_enter Try.func35, Try.ntmps35
  go_wp2_with fail
  refine (HV.out).mono ?_; rintro e w1 ⟨rfl, hb1⟩
  have HV2 := Lib.hid (HV'.out w1 (H'.out.below (hb1.mono hB2)) (Nat.le_trans hB2 hb1.size))
  have Hb1 := Lib.hid hb1
  clear hb1
  go_wp2_with fail
  refine (HV2.out).mono ?_; rintro e w2 ⟨rfl, hb2⟩
  have hb02 := Hb1.out.trans (hb2.mono Hb1.out.size)
  have Hb3 := Lib.hid (hb02.alloc hb02.size (.cells #[] 179))
  have Ho3 := Lib.hid (ownsRow_le (ho0.out w2) hb02.size)
  have HR3 := Lib.hid (HR.out _ Hb3.out)
  clear hb2 hb02
  go_upto_region 5 with (fail)
  go_wp2_with (first
    | (at_builtin; refine wpList_apr 44 179 _ 2 16 Try.underlying44 infoG rfl (by omega) _ _ rfl rfl w.heap.size _ 0 _ rfl Ho3.out g1 o1 n _ (tab2 n a b) rfl (tab2_len a b n) HR3.out (tab2_one n a b) (by simp [maxLen]; omega) (by omega) Hb3.out.size ?_; intro v7 w7 hown7 hg7; have Hb7 := Lib.hid (below_apd Hb3.out Ho3.out hg7 (Nat.le_refl _) Hb3.out.size); simp only [Nat.zero_add, List.nil_append] at hown7; obtain ⟨A7, c7, rfl⟩ := own_sl hown7; have Hown7 := Lib.hid hown7; have HR7 := Lib.hid (HR'.out _ Hb7.out); clear hown7 hg7 HR3)
    | (at_builtin; refine wpList_apr 44 179 _ 2 16 Try.underlying44 infoG rfl (by omega) _ _ rfl rfl w.heap.size _ n _ rfl Hown7.out g2 o2 m _ (tab2 m c d) rfl (tab2_len c d m) HR7.out (tab2_one m c d) (by simp [maxLen]; omega) (by omega) Hb7.out.size ?_; intro v8 w8 hown8 hg8; have Hb8 := Lib.hid (below_apd Hb7.out Hown7.out hg8 (Nat.le_refl _) Hb7.out.size); rw [← tab2_jn] at hown8; obtain ⟨A8, c8, rfl⟩ := own_sl hown8; have Hown8 := Lib.hid hown8; clear hown8 hg8))
  go_ret2
  exact ⟨_, rfl, Hown8.out, Hb8.out⟩
end Go.Proofs.Ytddiielbmjkppaa
