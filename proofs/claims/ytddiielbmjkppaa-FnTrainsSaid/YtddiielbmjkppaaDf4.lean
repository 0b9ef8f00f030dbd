/- Differences, part 4: NewtonValue, BinomialOf, the drawn coefficients. -/
import Derived.Test.YtddiielbmjkppaaDf3
import Derived.Test.YtddiielbmjkppaaSrc
import Derived.Test.YtddiielbmjkppaaLong
namespace Go.Proofs.Ytddiielbmjkppaa
open Go.RowKit Go.Joins

/-- binomial coefficients as the program makes them -/
def bin (n : Nat) : Nat → Nat
  | 0 => 1
  | i + 1 => bin n i * (n - i) / (i + 1)
def binV (n k : Nat) : Nat := if n < k then 0 else bin n (min k (n - k))
theorem bin_bd : ∀ n, n < 61 → ∀ i, i < 31 → bin n i * (n - i) < 9223372036854775807 := by decide +kernel
theorem bin_bd2 : ∀ n, n < 61 → ∀ i, i < 31 → bin n i ≤ 118264581564861424 := by decide +kernel
theorem bin_pascal : ∀ n, n < 60 → ∀ k, k < 59 → binV (n + 1) (k + 1) = binV n (k + 1) + binV n k := by decide +kernel
theorem binV_bd {n k : Nat} (hn : n < 61) : binV n k ≤ 118264581564861424 := by
  unfold binV
  split
  · omega
  · exact bin_bd2 n hn _ (by omega)

set_option maxRecDepth 100000 in
set_option maxHeartbeats 800000 in
theorem binomial_any (n k : Nat) (w : World) (hn : n < 61) (hk : k < 61) :
    Calls Try.prog 179 #[.int .i64 (n : Int), .int .i64 (k : Int)] w fun e w' => e = .returned (.int .i64 (binV n k : Int)) ∧ w = w' := by
  by_cases hnk : n < k
  · have hv : binV n k = 0 := by unfold binV; rw [if_pos hnk]
    have hnk' : (n : Int) < (k : Int) := by omega
    rw [hv]
    go_enter Try.func179, Try.ntmps179
    go_wp2_with fail
    go_ret
    exact ⟨rfl, rfl⟩
  · have hv : binV n k = bin n (min k (n - k)) := by unfold binV; rw [if_neg hnk]
    have hnk' : ¬ ((n : Int) < (k : Int)) := by omega
    rw [hv]
    by_cases hmn : k ≤ n - k
    · have hm : min k (n - k) = k := by omega
      rw [hm]
      have hle : (k : Int) ≤ (n : Int) - (k : Int) := by omega
      have hk30 : k ≤ 30 := by omega
      clear hm hv
      go_enter Try.func179, Try.ntmps179
      go_wp2_with fail
      go_loop [5, 16] (fun a i => ∃ j : Nat, j ≤ k ∧ i = .int .i64 (j : Int) ∧ a = .int .i64 (bin n j : Int)) (fun _ i => k - (intOf i).toNat)
      case atStart => exact ⟨0, Nat.zero_le _, rfl, rfl⟩
      case round =>
        obtain ⟨j, hj, rfl, rfl⟩ := hrel
        by_cases hlt : j < k
        · have hlt' : (j : Int) < (k : Int) := by omega
          have hbd := bin_bd n hn j (by omega)
          have hb2 := bin_bd2 n hn (j + 1) (by omega)
          have Hn := Lib.hid (show bin n (j + 1) = bin n j * (n - j) / (j + 1) from rfl)
          generalize hr : bin n (j + 1) = r at *
          have Hr := Lib.hid hr
          clear hr
          generalize bin n j = b at *
          have hd : (n : Int) - (j : Int) = ((n - j : Nat) : Int) := by omega
          generalize n - j = d at *
          have hwd : IntKind.i64.wrap (d : Int) = (d : Int) := IntWalk.i64_in _ (by omega)
          generalize hP : b * d = P at *
          have hPi : (b : Int) * (d : Int) = (P : Int) := by rw [← hP, Int.natCast_mul]
          have hPw : IntKind.i64.wrap (P : Int) = (P : Int) := IntWalk.i64_in _ (by omega)
          have hj0 : ((j : Int) + 1) ≠ 0 := by omega
          have HQ := Lib.hid (show wrap64 ((P : Int) / ((j : Int) + 1)) = (r : Int) from by
            have e : (P : Int) / ((j : Int) + 1) = (r : Int) := by rw [Hn.out]; rfl
            rw [e]
            exact IntWalk.wrap64_in _ ⟨by omega, by omega⟩)
          have HQ2 := Lib.hid (show wrap64 (Int.tdiv (P : Int) ((j : Int) + 1)) = (r : Int) from by
            rw [Int.tdiv_eq_ediv_of_nonneg (by omega)]; exact HQ.out)
          clear hbd hb2 hP
          go_wp2_with fail
          go_round
          case rel => exact ⟨j + 1, by omega, by go_num, by rw [Hr.out]; first | (rw [HQ.out]; done) | (rw [HQ2.out]; done)⟩
          case measure => simp [intOf]; omega
        · have hjm : j = k := by omega
          have hlt' : (k : Int) ≤ (j : Int) := by omega
          subst hjm
          go_wp2_with fail
          go_ret
          exact ⟨rfl, rfl⟩
    · obtain ⟨m, hm⟩ : ∃ m, m = n - k := ⟨_, rfl⟩
      have hm2 : min k (n - k) = m := by omega
      rw [hm2]
      have hmi : (n : Int) - (k : Int) = (m : Int) := by omega
      have hle : (m : Int) < (k : Int) := by omega
      have hm30 : m ≤ 30 := by omega
      have hmn2 : m ≤ n := by omega
      have hwm : IntKind.i64.wrap (m : Int) = (m : Int) := IntWalk.i64_in _ (by omega)
      clear hm hm2 hv hmn
      go_enter Try.func179, Try.ntmps179
      go_wp2_with fail
      go_loop [5, 16] (fun a i => ∃ j : Nat, j ≤ m ∧ i = .int .i64 (j : Int) ∧ a = .int .i64 (bin n j : Int)) (fun _ i => m - (intOf i).toNat)
      case atStart => exact ⟨0, Nat.zero_le _, rfl, rfl⟩
      case round =>
        obtain ⟨j, hj, rfl, rfl⟩ := hrel
        by_cases hlt : j < m
        · have hlt' : (j : Int) < (m : Int) := by omega
          have hbd := bin_bd n hn j (by omega)
          have hb2 := bin_bd2 n hn (j + 1) (by omega)
          have Hn := Lib.hid (show bin n (j + 1) = bin n j * (n - j) / (j + 1) from rfl)
          generalize hr : bin n (j + 1) = r at *
          have Hr := Lib.hid hr
          clear hr
          generalize bin n j = b at *
          have hd : (n : Int) - (j : Int) = ((n - j : Nat) : Int) := by omega
          generalize n - j = d at *
          have hwd : IntKind.i64.wrap (d : Int) = (d : Int) := IntWalk.i64_in _ (by omega)
          generalize hP : b * d = P at *
          have hPi : (b : Int) * (d : Int) = (P : Int) := by rw [← hP, Int.natCast_mul]
          have hPw : IntKind.i64.wrap (P : Int) = (P : Int) := IntWalk.i64_in _ (by omega)
          have hj0 : ((j : Int) + 1) ≠ 0 := by omega
          have HQ := Lib.hid (show wrap64 ((P : Int) / ((j : Int) + 1)) = (r : Int) from by
            have e : (P : Int) / ((j : Int) + 1) = (r : Int) := by rw [Hn.out]; rfl
            rw [e]
            exact IntWalk.wrap64_in _ ⟨by omega, by omega⟩)
          have HQ2 := Lib.hid (show wrap64 (Int.tdiv (P : Int) ((j : Int) + 1)) = (r : Int) from by
            rw [Int.tdiv_eq_ediv_of_nonneg (by omega)]; exact HQ.out)
          clear hbd hb2 hP
          go_wp2_with fail
          go_round
          case rel => exact ⟨j + 1, by omega, by go_num, by rw [Hr.out]; first | (rw [HQ.out]; done) | (rw [HQ2.out]; done)⟩
          case measure => simp [intOf]; omega
        · have hjm : j = m := by omega
          have hlt' : (m : Int) ≤ (j : Int) := by omega
          subst hjm
          go_wp2_with fail
          go_ret
          exact ⟨rfl, rfl⟩
theorem tab_snoc (i : Nat) (f : Nat → Int) (x : Int) : tab (i + 1) (fun k => if k < i then f k else x) = tab i f ++ [.int .i64 x] := by
  rw [tab_succ]
  simp only [Nat.lt_irrefl, if_false]
  congr 1
  exact tab_congr fun k hk => by simp [hk]
theorem Small.snoc {M i : Nat} {f : Nat → Int} {x : Int} (h : Small M i f) (hx : -(M : Int) ≤ x ∧ x ≤ M) : Small M (i + 1) (fun k => if k < i then f k else x) := by
  intro k hk
  by_cases h1 : k < i
  · simp only [h1, if_true]; exact h k h1
  · simp only [h1, if_false]; exact hx
/-- drawn coefficients -/
def RetC (g : Nat) (w : World) (e : Ending) (w' : World) : Prop :=
  ∃ v n f, e = .returned v ∧ 1 ≤ n ∧ n ≤ 5 ∧ Small 20 n f ∧ w'.ownsRow w.heap.size 2 1 v n (tab n f) ∧ Below g w w'
set_option maxRecDepth 100000 in
set_option maxHeartbeats 800000 in
theorem l15DrawCoefs_any (B g : Nat) (bs : List UInt8) (w : World) (h : SrcAt w B g 0 bs) :
    Calls Try.prog 167 #[.pointer (some ⟨g, 0, none⟩), .int .i64 5] w (RetC g w) := by
  have hgl := h.lt
  have hb0 := (Below.refl w.heap.size w).alloc (Nat.le_refl _) (.cells #[] 2)
  have ho0 := Lib.hid (World.ownsRow_made (base := w.heap.size) (e := 2) (size := 1) w #[] 0 (Nat.le_refl _) (by simp [maxLen]) rfl)
  have Hs0 := Lib.hid (h.below hb0)
  have Hb0 := Lib.hid (hb0.mono (Nat.le_of_lt hgl))
  clear h hb0
  go_enter Try.func167, Try.ntmps167
  go_wp2_with fail
  refine (pick_any B g 0 bs 5 _ Hs0.out (by omega)).mono ?_; rintro e w1 ⟨r, rfl, ⟨hr0, hr1, _⟩, hs1, hg1⟩
  have hr5 := hr1 (by omega)
  have Hs1 := Lib.hid hs1
  have Ho1 := Lib.hid (ho0.out.kept hg1 (.inr (by simp [Value.ownBlock]; omega)))
  have Hb1 := Lib.hid (Hb0.out.grown hg1 (Nat.le_trans (Nat.le_of_lt hgl) Hb0.out.size) (fun k hk => by cases hk; exact Nat.le_refl _))
  obtain ⟨m, rfl⟩ : ∃ m : Nat, r = (m : Int) := ⟨r.toNat, by omega⟩
  clear hs1 hg1 hr1 hr0
  go_wp2_with fail
  go_loopw [5, 6] (fun a i wr => ∃ (k q : Nat) (f : Nat → Int), k + q = m + 1 ∧ i = .int .i64 (q : Int) ∧ SrcAt wr B g (2 + 2 * k) bs ∧ wr.ownsRow w.heap.size 2 1 a k (tab k f) ∧ Small 20 k f ∧ Below g w wr) (fun _ i _ => (intOf i).toNat)
  case atStart => exact ⟨0, m + 1, fun _ => 0, by omega, by congr 1; omega, Hs1.out, Ho1.out, fun i hi => by omega, Hb1.out⟩
  case round =>
    obtain ⟨k, q, f, hkq, rfl, hs, hown, hS, hbl⟩ := hrel
    obtain ⟨A3, c3, rfl⟩ := own_sl hown
    have Hs := Lib.hid hs
    have Hown := Lib.hid hown
    have HS := Lib.hid hS
    have Hbl := Lib.hid hbl
    have Hkq := Lib.hid hkq
    have hwz := hbl.size
    clear hs hown hS hbl hkq
    by_cases hq : q = 0
    · subst hq
      go_wp2_with fail
      go_ret
      have := Hkq.out
      exact ⟨_, k, f, rfl, by omega, by omega, HS.out, Hown.out, Hbl.out⟩
    · have hq' : (0 : Int) < (q : Int) := by omega
      have hk5 : k ≤ 5 := by have := Hkq.out; omega
      have hq5 : q ≤ 6 := by have := Hkq.out; omega
      go_wp2_with fail
      refine (pick_any B g (2 + 2 * k) bs 41 _ Hs.out (by omega)).mono ?_; rintro e w2 ⟨x, rfl, ⟨hx0, hx1, _⟩, hs2, hg2⟩
      have hx41 := hx1 (by omega)
      have Ho2 := Lib.hid (Hown.out.kept hg2 (by
        cases hv : (Value.slice A3 k c3).ownBlock with
        | none => exact .inl rfl
        | some z => exact .inr (fun e => by have := (Hown.out.lt z hv).1; cases e; omega)))
      have Hb2 := Lib.hid (Hbl.out.grown hg2 (Nat.le_trans (Nat.le_of_lt hgl) Hbl.out.size) (fun k hk => by cases hk; exact Nat.le_refl _))
      have Hs2 := Lib.hid hs2
      have hz2 : w.heap.size ≤ w2.heap.size := Nat.le_trans hwz hg2.size
      clear hs2 hg2 hx1
      have Hsn := Lib.hid (tab_snoc k f (x - 20))
      have HSn := Lib.hid (HS.out.snoc (x := x - 20) (by omega))
      go_wp2_with (at_builtin; refine wpList_apd 24 2 _ 1 8 Try.underlying24 infoD rfl (by omega) _ _ rfl rfl w.heap.size _ k _ rfl Ho2.out #[.int .i64 (x - 20)] 1 1 rfl rfl (by simp [Value.oneCell']) (by simp [maxLen]; omega) (by omega) hz2 ?_; intro v7 w7 hown7 hg7; have Hb7 := Lib.hid (below_apd Hb2.out Ho2.out hg7 (Nat.le_of_lt hgl) (Nat.le_trans (Nat.le_of_lt hgl) hz2)); obtain ⟨A7, c7, rfl⟩ := own_sl hown7; have Hown7 := Lib.hid hown7; have Hs7 := Lib.hid (Hs2.out.grown hg7 (fun z hz => by have := (Ho2.out.lt z hz).1; omega)); clear hown7 hg7)
      go_roundw
      case rel => exact ⟨k + 1, q - 1, _, by have := Hkq.out; omega, by congr 1; omega, Hs7.out, by rw [Hsn.out]; exact Hown7.out, HSn.out, Hb7.out⟩
      case measure => simp [intOf]; omega

set_option maxHeartbeats 400000 in
theorem A2Coefs_any (B : Nat) (cv : Value) (bs : List UInt8) (w : World) (h : Rd w B cv bs.length 1 (bs.map byV)) (hB : B ≤ w.heap.size) :
    Calls Try.prog 16 #[cv] w (RetC w.heap.size w) := by
  have HF := Lib.hid (l00From_any B cv bs w h hB)
  have HD := Lib.hid (fun wx hx => l15DrawCoefs_any B w.heap.size bs wx hx)
  obtain ⟨A, c, rfl⟩ := rd_sl h
  clear h
  go_enter Try.func16, Try.ntmps16
  go_wp2_with fail
  refine HF.out.mono ?_; rintro e w1 ⟨rfl, hs1, hb1, hlt⟩
  have Hs1 := Lib.hid hs1
  have Hb1 := Lib.hid hb1
  clear hs1 hb1
  go_wp2_with fail
  refine (HD.out _ Hs1.out).mono ?_; rintro e w2 ⟨v2, n, f, rfl, h1, h5, hS, ho2, hb2⟩
  obtain ⟨A2, c2, rfl⟩ := own_sl ho2
  have Ho2 := Lib.hid (ownsRow_le ho2 (Nat.le_of_lt hlt))
  have Hb2 := Lib.hid (Hb1.out.trans hb2)
  clear ho2 hb2
  go_wp2_with fail
  go_ret
  exact ⟨_, n, f, rfl, h1, h5, hS, Ho2.out, Hb2.out⟩
end Go.Proofs.Ytddiielbmjkppaa
