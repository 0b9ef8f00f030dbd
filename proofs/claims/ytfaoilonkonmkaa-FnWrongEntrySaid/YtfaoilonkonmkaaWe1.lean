/- The law FnWrongEntry. -/
import Derived.Test.YtfaoilonkonmkaaDf7
import Derived.Test.YtfaoilonkonmkaaBi1
namespace Go.Proofs.Ytfaoilonkonmkaa
open Go.RowKit Go.Joins

set_option maxRecDepth 100000 in
set_option maxHeartbeats 3200000 in
theorem TabulateNewton_any (B : Nat) (v : Value) (m n : Nat) (c : Nat → Int) (w : World) (h : Rd w B v m 1 (tab m c)) (hB : B ≤ w.heap.size) (h1 : 1 ≤ m) (hm : m ≤ 5) (hS : Small 20 m c) (hn1 : 1 ≤ n) (hn : n ≤ 14) :
    Calls Try.prog 68 #[v, .int .i64 (n : Int)] w (RetF0 w n (fun x => nval c x m)) := by
  have H := Lib.hid h
  have HC := Lib.hid (l15Coefs_any B v m c w h h1 (by omega) (hS.more (by omega)))
  have HI := Lib.hid (fun wx => l00In_any (n : Int) 1 30 wx)
  rw [inB_true (by omega) (by omega)] at HI
  have HV := Lib.hid (fun x hx wx hxr => l15Value_any B v m 20 x c wx hxr h1 (by omega) hx hS (by omega))
  have HN := Lib.hid (fun x hx => nval_bd hS (x := x) hx (by omega) m (Nat.le_refl _))
  obtain ⟨A, c', rfl⟩ := rd_sl h
  clear h hS
  have hb0 := Lib.hid ((Below.refl w.heap.size w).alloc (Nat.le_refl _) (.cells #[] 2))
  have ho0 := Lib.hid (World.ownsRow_made (base := w.heap.size) (e := 2) (size := 1) w #[] 0 (Nat.le_refl _) (by simp [maxLen]) rfl)
  go_enter Try.func68, Try.ntmps68
  go_wp2_with fail
  refine HC.out.mono ?_; rintro e w1 ⟨rfl, rfl⟩
  go_wp2_with fail
  refine (HI.out _).mono ?_; rintro e w1 ⟨rfl, rfl⟩
  go_wp2_with fail
  go_loopw [6, 7] (fun a i wr => ∃ j : Nat, j ≤ n ∧ i = .int .i64 (j : Int) ∧ wr.ownsRow w.heap.size 2 1 a j (tab j (fun x => nval c x m)) ∧ Below w.heap.size w wr) (fun _ i _ => n - (intOf i).toNat)
  case atStart => exact ⟨0, Nat.zero_le _, rfl, ho0.out, hb0.out⟩
  case round =>
    obtain ⟨j, hj, rfl, hown, hbl⟩ := hrel
    obtain ⟨A3, c3, rfl⟩ := own_sl hown
    have Hown := Lib.hid hown
    have Hbl := Lib.hid hbl
    clear hown hbl
    by_cases hlt : j < n
    · have hlt' : (j : Int) < (n : Int) := by omega
      have HVj := Lib.hid (HV.out j (by omega) wr (H.out.below (Hbl.out.mono hB)))
      have nb := HN.out j (by omega)
      have hmm : m * (20 * 1716) ≤ 5 * (20 * 1716) := Nat.mul_le_mul_right _ hm
      have Hsc := Lib.hid (tab_succ j (fun x => nval c x m))
      (try dsimp only at Hsc)
      generalize nval c j m = y at *
      have HB := Lib.hid (fun wx => l00In_any y (-1000000000) 1000000000 wx)
      rw [inB_true (by omega) (by omega)] at HB
      clear nb hmm
      go_wp2_with fail
      refine HVj.out.mono ?_; rintro e w2 ⟨rfl, rfl⟩
      go_wp2_with fail
      refine (HB.out _).mono ?_; rintro e w2 ⟨rfl, rfl⟩
      go_wp2_with (at_builtin; refine wpList_apd 22 2 _ 1 8 Try.underlying22 infoD rfl (by omega) _ _ rfl rfl w.heap.size _ j _ rfl Hown.out #[.int .i64 y] 1 1 rfl rfl (by simp [Value.oneCell']) (by simp [maxLen]; omega) (by omega) Hbl.out.size ?_; intro v7 w7 hown7 hg7; have Hb7 := Lib.hid (below_apd Hbl.out Hown.out hg7 (Nat.le_refl _) Hbl.out.size); obtain ⟨A7, c7, rfl⟩ := own_sl hown7; have Hown7 := Lib.hid hown7; clear hown7 hg7)
      go_roundw
      case rel => exact ⟨j + 1, by omega, by go_num, by rw [Hsc.out]; exact Hown7.out, Hb7.out⟩
      case measure => simp [intOf]; omega
    · have hjn : j = n := by omega
      have hlt' : (n : Int) ≤ (j : Int) := by omega
      subst hjn
      go_wp2_with fail
      go_ret2
      exact ⟨_, rfl, Hown.out, Hbl.out⟩

theorem areValues_any (B : Nat) (v : Value) (n : Nat) (f : Nat → Int) (w : World) (h : Rd w B v n 1 (tab n f)) (h1 : 1 ≤ n) (h2 : n ≤ 30) (hS : Small 1000000000 n f) :
    Calls Try.prog 131 #[v] w fun e w' => e = .returned (.bool true) ∧ w = w' := by
  have HE := Lib.hid (areEntries_any B v n 30 f w h (by omega) h1 (by omega) hS)
  obtain ⟨A, c, rfl⟩ := rd_sl h
  clear h hS
  go_enter Try.func131, Try.ntmps131
  go_wp2_with fail
  refine HE.out.mono ?_; rintro e w1 ⟨rfl, rfl⟩
  go_wp2_with fail
  go_ret
  exact ⟨rfl, rfl⟩
theorem isDegree_any (d : Nat) (w : World) (h : d ≤ 8) :
    Calls Try.prog 132 #[.int .i64 (d : Int)] w fun e w' => e = .returned (.bool true) ∧ w = w' := by
  have HB := Lib.hid (fun wx => between_any (d : Int) 0 8 wx)
  rw [inB_true (by omega) (by omega)] at HB
  go_enter Try.func132, Try.ntmps132
  go_wp2_with fail
  refine (HB.out _).mono ?_; rintro e w1 ⟨rfl, rfl⟩
  go_wp2_with fail
  go_ret
  exact ⟨rfl, rfl⟩

set_option maxRecDepth 100000 in
set_option maxHeartbeats 3200000 in
theorem WrongA_any (B : Nat) (v : Value) (n d : Nat) (f : Nat → Int) (w : World) (h : Rd w B v n 1 (tab n f)) (hB : B ≤ w.heap.size) (hn : n ≤ 30) (hd : d + 1 < n) (hd8 : d ≤ 8) (hS : Small 1000000000 n f) (hz : zer (n - (d + 1)) (Dn (d + 1) f) = true) :
    Calls Try.prog 69 #[v, .int .i64 (d : Int)] w fun e w' => e = .returned (.tuple #[.int .i64 0, .int .i64 0, .int .i64 6]) ∧ Below w.heap.size w w' := by
  have HV := Lib.hid (areValues_any B v n f w h (by omega) hn hS)
  have HI := Lib.hid (fun wx => isDegree_any d wx hd8)
  have h2p : 2 ^ (d + 1) ≤ 512 := Nat.le_trans (Nat.pow_le_pow_right (by omega) (show d + 1 ≤ 9 by omega)) (by omega)
  have HH := Lib.hid (hasDegree_any B v n 1000000000 d f w h hB (by omega) hd hS (by omega))
  rw [hz] at HH
  obtain ⟨A, c, rfl⟩ := rd_sl h
  clear h hS hz
  go_enter Try.func69, Try.ntmps69
  go_wp2_with fail
  refine HV.out.mono ?_; rintro e w1 ⟨rfl, rfl⟩
  go_wp2_with fail
  refine (HI.out _).mono ?_; rintro e w1 ⟨rfl, rfl⟩
  go_wp2_with fail
  refine HH.out.mono ?_; rintro e w1 ⟨rfl, hb1⟩
  go_wp2_with fail
  go_ret3
  exact ⟨rfl, hb1⟩

set_option maxRecDepth 100000 in
set_option maxHeartbeats 3200000 in
theorem WrongB_any (B : Nat) (v : Value) (n d a : Nat) (y : Int) (f : Nat → Int) (w : World) (h : Rd w B v n 1 (tab n f)) (hB : B ≤ w.heap.size) (hn : n ≤ 30) (hd : d + 2 < n) (hd8 : d ≤ 8) (hS : Small 1000000000 n f) (hz : zer (n - (d + 1)) (Dn (d + 1) f) = false)
    (ha : a < n) (hall : ∀ b, b < a → (rp f d n b).2 = false) (hya : rp f d n a = (y, true)) :
    Calls Try.prog 69 #[v, .int .i64 (d : Int)] w fun e w' => e = .returned (.tuple #[.int .i64 (a : Int), .int .i64 y, .int .i64 0]) ∧ Below w.heap.size w w' := by
  have H := Lib.hid h
  have HV := Lib.hid (areValues_any B v n f w h (by omega) hn hS)
  have HI := Lib.hid (fun wx => isDegree_any d wx hd8)
  have h2p : 2 ^ (d + 1) ≤ 512 := Nat.le_trans (Nat.pow_le_pow_right (by omega) (show d + 1 ≤ 9 by omega)) (by omega)
  have HH := Lib.hid (hasDegree_any B v n 1000000000 d f w h hB (by omega) (by omega) hS (by omega))
  rw [hz] at HH
  have HR := Lib.hid (fun b (hb : b < n) wx hx hzz => (show Calls Try.prog 134 #[v, .int .i64 (d : Int), .int .i64 (b : Int)] wx fun e w' => e = .returned (.tuple #[.int .i64 (rp f d n b).1, .bool (rp f d n b).2]) ∧ Below wx.heap.size wx w' from replacement_any B v n d b f wx hx hzz (by omega) (by omega) hd8 hb hS))
  have Hall := Lib.hid hall
  have Hya := Lib.hid hya
  obtain ⟨A, c, rfl⟩ := rd_sl h
  have hd2 : ¬ ((n : Int) ≤ (d : Int) + 2) := by omega
  have hd100 : (d : Int) < 100 := by omega
  have hb00 := Lib.hid (Below.refl w.heap.size w)
  clear h hS hz hall hya
  go_enter Try.func69, Try.ntmps69
  go_wp2_with fail
  refine HV.out.mono ?_; rintro e w1 ⟨rfl, rfl⟩
  go_wp2_with fail
  refine (HI.out _).mono ?_; rintro e w1 ⟨rfl, rfl⟩
  go_wp2_with fail
  refine HH.out.mono ?_; rintro e w1 ⟨rfl, hb1⟩
  have Hb1 := Lib.hid hb1
  clear hb1
  go_wp2_with fail
  go_loopw [28] (fun i wr => ∃ k : Nat, k ≤ a ∧ i = .int .i64 (k : Int) ∧ Below w.heap.size w wr) (fun i _ => n - (intOf i).toNat)
  case atStart => exact ⟨0, Nat.zero_le _, rfl, Hb1.out⟩
  case round =>
    obtain ⟨k, hk, rfl, hbl⟩ := hrel
    have Hbl := Lib.hid hbl
    clear hbl
    have hlt' : (k : Int) < (n : Int) := by omega
    have HRk := Lib.hid (HR.out k (by omega) wr (H.out.below (Hbl.out.mono hB)) (Nat.le_trans hB Hbl.out.size))
    by_cases hka : k = a
    · subst hka
      rw [Hya.out] at HRk
      (try dsimp only at HRk)
      go_wp2_with fail
      refine HRk.out.mono ?_; rintro e w2 ⟨rfl, hb2⟩
      go_wp2_with fail
      go_ret3
      exact ⟨rfl, Hbl.out.trans (hb2.mono Hbl.out.size)⟩
    · have hf := Hall.out k (by omega)
      rw [hf] at HRk
      generalize (rp f d n k).1 = z at *
      clear hf
      go_wp2_with fail
      refine HRk.out.mono ?_; rintro e w2 ⟨rfl, hb2⟩
      go_wp2_with fail
      go_roundw
      case rel => exact ⟨k + 1, by omega, by go_num, Hbl.out.trans (hb2.mono Hbl.out.size)⟩
      case measure => simp [intOf]; omega
end Go.Proofs.Ytfaoilonkonmkaa
