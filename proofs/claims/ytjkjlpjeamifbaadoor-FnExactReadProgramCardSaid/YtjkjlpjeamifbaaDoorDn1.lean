/- l01Dec of every number (the negative ones too). -/
import Derived.Test.YtjkjlpjeamifbaaDoorDec
namespace Go.Proofs.YtjkjlpjeamifbaaDoor
open Go.RowKit Go.Joins

theorem decS_neg (n : Nat) (hn : 0 < n) : decS (-(n : Int)) = ⟨#[45]⟩ ++ ⟨(Lib.decDigits n).toArray⟩ := by
  unfold decS Lib.itoa
  rw [if_pos (by omega)]
  refine ba_inj ?_
  rw [ByteArray.toList_eq, ByteArray.toList_eq]
  simp
theorem nDig19 (u : Nat) (h : u ≤ 9223372036854775808) : Lib.nDigits u ≤ 19 := by
  have key : ∀ (k u : Nat), u < 10 ^ (k + 1) → Lib.nDigits u ≤ k + 1 := by
    intro k
    induction k with
    | zero => intro u hu; rw [Lib.nDigits_small (by simpa using hu)]; omega
    | succ k ih =>
      intro u hu
      by_cases h10 : u < 10
      · rw [Lib.nDigits_small h10]; omega
      · rw [Lib.nDigits_big h10]
        have := ih (u / 10) (by rw [Nat.pow_succ] at hu; omega)
        omega
  refine key 18 u ?_
  have : (10 : Nat) ^ (18 + 1) = 10000000000000000000 := by decide
  omega
theorem tdiv_neg10 (k : Nat) : Int.tdiv (-(k : Int)) 10 = -((k / 10 : Nat) : Int) := by
  rw [Int.neg_tdiv, Int.tdiv_eq_ediv_of_nonneg (by omega)]; omega
theorem tmod_neg10 (k : Nat) : Int.tmod (-(k : Int)) 10 = -((k % 10 : Nat) : Int) := by
  rw [Int.neg_tmod, Int.tmod_eq_emod_of_nonneg (by omega)]; omega

set_option maxRecDepth 100000 in
set_option maxHeartbeats 1600000 in
theorem l01Dec_neg (n : Nat) (w : World) (hn0 : 0 < n) (hn : n ≤ 9223372036854775808) :
    Calls Tryd.prog 57 #[.int .i64 (-(n : Int))] w fun e w' => e = .returned (.string (decS (-(n : Int)))) ∧ Below w.heap.size w w' := by
  have Hn := Lib.hid hn; clear hn
  have Hn0 := Lib.hid hn0; clear hn0
  obtain ⟨N, hN⟩ : ∃ N : Int, -(n : Int) = N := ⟨_, rfl⟩
  rw [hN]
  have HN := Lib.hid hN
  have hneg : N < 0 := by have := Hn0.out; omega
  clear hN
  go_enter Tryd.func57, Tryd.ntmps57
  go_wp2_with fail
  go_loopw [3, 4] (fun v i wr => ∃ (k : Nat) (acc : List UInt8) (g c : Nat), i = .int .i64 (-(k : Int)) ∧ v = .slice (some ⟨g, 0, none⟩) acc.length c ∧ wr.ownsRow w.heap.size 5 1 v acc.length (acc.map byV) ∧
      ddL n [] = ddL k acc ∧ Hid (k * 10 ^ acc.length ≤ 9223372036854775808) ∧ Hid (k ≤ n) ∧ Below w.heap.size w wr) (fun _ i _ => (intOf i).natAbs)
  case atStart => exact ⟨n, [], w.heap.size, 0, by rw [HN.out], rfl, World.ownsRow_made w #[] 0 (Nat.le_refl _) (by simp [maxLen]) rfl, rfl, Lib.hid (by have := Hn.out; simp; omega), Lib.hid (Nat.le_refl _), (Below.refl _ _).alloc (Nat.le_refl _) _⟩
  case round =>
    obtain ⟨k, acc, g, c, rfl, rfl, hown, hdd, hp, hkn, hbl⟩ := hrel
    have Hdd := Lib.hid hdd; clear hdd
    by_cases hlt : 0 < k
    · have hL : acc.length ≤ 18 := len19 k acc.length hlt hp.out
      have hd := digB' k
      have Hst := Lib.hid (ddL_step k acc hlt)
      have hk8 : k ≤ 9223372036854775808 := by have := hkn.out; have := Hn.out; omega
      generalize UInt8.ofNat (48 + k % 10) = d at *
      have hnew := World.ownsRow_lit (base := w.heap.size) (e := 5) (size := 1) wr #[.int .u8 (d.toNat : Int)] 1 hbl.size (by simp [maxLen]) rfl
      have hcells := (hown.alloc (.cells #[.int .u8 (d.toNat : Int)] 5)).cells (g := g) rfl
      have hcells' : ∀ j u, (acc.map byV)[j]? = some u → (wr.alloc (.cells #[.int .u8 (d.toNat : Int)] 5)).cell? ⟨g, j, none⟩ = some u := fun j u hu => by
        have := hcells j u hu
        rwa [show (⟨g, 0, none⟩ : Addr).add j = ⟨g, j, none⟩ by unfold Addr.add; split <;> simp_all] at this
      have Hc := Lib.hid hcells'; clear hcells hcells'
      have hq0 := tdiv_neg10 k
      have hr0 := tmod_neg10 k
      obtain ⟨K, hK⟩ : ∃ K : Int, -(k : Int) = K := ⟨_, rfl⟩
      have HK := Lib.hid hK
      rw [hK] at hq0 hr0
      have hne : (K != 0) = true := by rw [bne_iff_ne]; omega
      have hwq : IntKind.i64.wrap (-((k / 10 : Nat) : Int)) = -((k / 10 : Nat) : Int) := IntWalk.i64_in _ (by omega)
      have hwr : IntKind.i64.wrap (-((k % 10 : Nat) : Int)) = -((k % 10 : Nat) : Int) := IntWalk.i64_in _ (by omega)
      obtain ⟨q, hq⟩ : ∃ q : Int, -((k / 10 : Nat) : Int) = q := ⟨_, rfl⟩
      obtain ⟨r, hr⟩ : ∃ r : Int, -((k % 10 : Nat) : Int) = r := ⟨_, rfl⟩
      rw [hq] at hq0 hwq
      rw [hr] at hr0 hwr
      have Hq := Lib.hid hq
      have hr9 : -9 ≤ r ∧ r ≤ 0 := by omega
      obtain ⟨hr9, hr99⟩ := hr9
      rw [hK]
      rcases Int.lt_or_le r 0 with hrn | hrn
      · have hwd : IntKind.i64.wrap (-r) = -r := IntWalk.i64_in _ (by omega)
        have hd' : IntKind.u8.wrap (48 + -r) = (d.toNat : Int) := by rw [← hd, ← hr]; congr 1; omega
        clear hd hK hq hr
        go_wp2_with (at_builtin; refine wpList_app_own 77 5 _ 1 1 Tryd.underlying77 infoB' rfl (by omega) _ _ rfl rfl w.heap.size (.slice (some ⟨wr.heap.size, 0, none⟩) 1 1) 1 _ rfl hnew (by simp) g acc.length c (acc.map byV) rfl Hc.out (by simp) (by simp [byV, Value.oneCell']) (by simp [maxLen]; omega) (by omega) (by simp; have := hbl.size; omega) ?_; intro g' c' w1 hown1 hg1)
        have hb1 : Below w.heap.size w w1 := (hbl.alloc hbl.size _).grown hg1 (by simp; have := hbl.size; omega) (fun x hx => by injection hx with hx; rw [← hx]; exact hbl.size)
        clear Hc hnew
        go_wp2_with fail
        go_roundw
        case rel => exact ⟨k / 10, d :: acc, g', c', by rw [Hq.out], by simp [Nat.add_comm], by simpa [byV, Nat.add_comm] using hown1, by rw [Hdd.out, Hst.out], Lib.hid (pow_step _ _ _ hp.out), Lib.hid (by have := hkn.out; omega), hb1⟩
        case measure => simp [intOf]; have := HK.out; have := Hq.out; omega
      · have hr0' : r = 0 := by omega
        have hd' : IntKind.u8.wrap (48 + r) = (d.toNat : Int) := by rw [← hd]; congr 1; omega
        clear hd hK hq hr hr0'
        go_wp2_with (at_builtin; refine wpList_app_own 77 5 _ 1 1 Tryd.underlying77 infoB' rfl (by omega) _ _ rfl rfl w.heap.size (.slice (some ⟨wr.heap.size, 0, none⟩) 1 1) 1 _ rfl hnew (by simp) g acc.length c (acc.map byV) rfl Hc.out (by simp) (by simp [byV, Value.oneCell']) (by simp [maxLen]; omega) (by omega) (by simp; have := hbl.size; omega) ?_; intro g' c' w1 hown1 hg1)
        have hb1 : Below w.heap.size w w1 := (hbl.alloc hbl.size _).grown hg1 (by simp; have := hbl.size; omega) (fun x hx => by injection hx with hx; rw [← hx]; exact hbl.size)
        clear Hc hnew
        go_wp2_with fail
        go_roundw
        case rel => exact ⟨k / 10, d :: acc, g', c', by rw [Hq.out], by simp [Nat.add_comm], by simpa [byV, Nat.add_comm] using hown1, by rw [Hdd.out, Hst.out], Lib.hid (pow_step _ _ _ hp.out), Lib.hid (by have := hkn.out; omega), hb1⟩
        case measure => simp [intOf]; have := HK.out; have := Hq.out; omega
    · have hk0 : k = 0 := by omega
      subst hk0
      have hacc : Lib.decDigits n = acc := by
        have := Hdd.out
        simpa [ddL, show n ≠ 0 by have := Hn0.out; omega] using this
      have hl : ((acc.length : Int) == 0) = false := by
        have := decDigits_ne n
        rw [hacc] at this
        rw [beq_eq_false_iff_ne]; omega
      have he := Lib.hid (show decS N = ⟨#[45]⟩ ++ ⟨acc.toArray⟩ by rw [← HN.out, decS_neg n Hn0.out, hacc])
      have hconv := run_conv_own (P := Tryd.prog) 77 9 5 Tryd.underlying77 Tryd.underlying5 Tryd.underlying9 _ _ _ _ hown
      have hlen : acc.length ≤ 19 := by
        have h1 := congrArg List.length hacc
        rw [Lib.decDigits_length] at h1
        have := Hn.out
        have h2 : Lib.nDigits n ≤ 19 := nDig19 n (by omega)
        omega
      clear hacc
      go_wp2_with fail
      go_ret
      rw [he.out]; exact ⟨rfl, hbl⟩
theorem l01Dec_any (n : Int) (w : World) (h0 : -9223372036854775808 ≤ n) (h1 : n ≤ 9223372036854775807) :
    Calls Tryd.prog 57 #[.int .i64 n] w fun e w' => e = .returned (.string (decS n)) ∧ Below w.heap.size w w' := by
  rcases Int.lt_or_le n 0 with h | h
  · obtain ⟨m, rfl⟩ : ∃ m : Nat, n = -(m : Int) := ⟨n.natAbs, by omega⟩
    exact l01Dec_neg m w (by omega) (by omega)
  · obtain ⟨m, rfl⟩ : ∃ m : Nat, n = m := ⟨n.toNat, by omega⟩
    exact l01Dec_nonneg m w (by omega)
end Go.Proofs.YtjkjlpjeamifbaaDoor
