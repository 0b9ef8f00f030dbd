/- Merged texts: Sp2, Dn1, Rn1, Rn2, Rn3, Rn4, Ld1, Ld2, Rn5, Ld0, Lo1, Lo2, Lo3, Lo4, Lo5, Lo6, Lo7, Lo8, Lo9. -/
import Derived.Test.YtiddhelabmaghaaDoorGCardReadEntries2
import Derived.Test.YtiddhelabmaghaaDoorGCardReadEntries1
/- Texts cut at a byte, part 2: parts (program) and l01Split (reference). -/
namespace Go.Proofs.YtiddhelabmaghaaDoor
open Go.RowKit Go.Joins

theorem infoStr : (Tryd.prog.info? 9).map (fun i => (i.zero, i.size, i.bytes)) = some (some (.string ⟨#[]⟩), 1, 16) := by kernel_rfl
/-- a new list of texts -/
def RetPs (w : World) (l : List ByteArray) (e : Ending) (w' : World) : Prop := ∃ v, e = .returned v ∧ w'.ownsRow w.heap.size 9 1 v l.length (l.map Value.string) ∧ Below w.heap.size w w'
def szV : Value → Nat
  | .string s => s.size
  | _ => 0
theorem str_snoc (l : List ByteArray) (x : ByteArray) : (l ++ [x]).map Value.string = l.map Value.string ++ [.string x] := by simp
theorem own_snoc {w : World} {base : Nat} {e : TypeId} {v : Value} {l : List ByteArray} {x : ByteArray} (h : w.ownsRow base e 1 v (l.length + 1) (l.map Value.string ++ [.string x])) : w.ownsRow base e 1 v (l ++ [x]).length ((l ++ [x]).map Value.string) := by
  rw [str_snoc, List.length_append]; exact h

set_option maxRecDepth 100000 in
set_option maxHeartbeats 1600000 in
theorem parts_any (s : ByteArray) (w : World) (hs : s.size ≤ 1073741824) : Calls Tryd.prog 59 #[.string s] w (RetPs w (splitB 32 s)) := by
  have hlen := splitB_len 32 s.size s (Nat.le_refl _)
  have hb0 := Lib.hid ((Below.refl w.heap.size w).alloc (Nat.le_refl _) (.cells #[] 9))
  have ho0 := Lib.hid (World.ownsRow_made (base := w.heap.size) (e := 9) (size := 1) w #[] 0 (Nat.le_refl _) (by simp [maxLen]) rfl)
  generalize hR : splitB 32 s = R at *
  have HR := Lib.hid hR; clear hR
  go_enter Tryd.func59, Tryd.ntmps59
  go_wp2_with fail
  go_loopw [0, 3] (fun l o wr => ∃ (ln : ByteArray) (out : List ByteArray), l = .string ln ∧ ln.size ≤ s.size ∧ R = out ++ splitB 32 ln ∧ wr.ownsRow w.heap.size 9 1 o out.length (out.map Value.string) ∧ Below w.heap.size w wr) (fun l _ _ => szV l)
  case atStart => exact ⟨s, [], rfl, Nat.le_refl _, by rw [← HR.out]; rfl, ho0.out, hb0.out⟩
  case round =>
    obtain ⟨ln, out, rfl, hz, hsp, hown, hbl⟩ := hrel
    have HC := Lib.hid (fun wx => cut_any ln 32 wx (by omega))
    have hfl := fnd_le 32 ln
    have hll : out.length ≤ s.size + 1 := by
      have h1 := congrArg List.length hsp
      rw [List.length_append] at h1
      omega
    have Hsp := Lib.hid hsp; clear hsp
    have Hyes := Lib.hid (fun h => splitB_yes (c := 32) (s := ln) h)
    have Hno := Lib.hid (fun h => splitB_no (c := 32) (s := ln) h)
    have Hz := Lib.hid (tail_sizeS ln (fnd 32 ln + 1))
    have Hall := Lib.hid (ext_all ln)
    have Hown := Lib.hid hown
    have Hbl := Lib.hid hbl
    clear hown hbl
    by_cases hf : fnd 32 ln < ln.size
    · rw [decide_eq_true hf] at HC
      have hy := Hyes.out hf
      generalize fnd 32 ln = k at *
      generalize ln.extract 0 k = x at *
      generalize ln.extract (k + 1) ln.size = y at *
      have Hy := Lib.hid hy; clear hy
      clear Hyes Hno Hall
      go_wp2_with fail
      refine (HC.out _).mono ?_; rintro e w5 ⟨rfl, n5, hw5⟩
      have hb5 : Below w.heap.size w w5 := by rw [hw5]; exact below_drewN Hbl.out n5
      have ho5 := Hown.out.drewN n5
      rw [← hw5] at ho5
      have Hb5 := Lib.hid hb5
      have Ho5 := Lib.hid ho5
      have hz5 := hb5.size
      clear hw5 hb5 ho5 Hown Hbl HC
      go_wp2_with (at_builtin; refine wpList_apd 37 9 _ 1 16 Tryd.underlying37 infoStr rfl (by omega) _ _ rfl rfl w.heap.size _ out.length _ rfl Ho5.out #[.string x] 1 1 rfl rfl (by simp [Value.oneCell']) (by simp [maxLen]; omega) (by omega) hz5 ?_; intro v7 w7 hown7 hg7; have Hb7 := Lib.hid (below_apd Hb5.out Ho5.out hg7 (Nat.le_refl _) hz5); have Ho7 := Lib.hid (own_snoc hown7); clear hown7 hg7)
      go_roundw
      case rel => exact ⟨y, out ++ [x], rfl, by have := Hz.out; omega, by rw [Hsp.out, Hy.out]; simp, Ho7.out, Hb7.out⟩
      case measure => simp [szV]; have := Hz.out; omega
    · rw [decide_eq_false hf] at HC
      have hy := Hno.out (by omega)
      have hk : fnd 32 ln = ln.size := by omega
      rw [hk, Hall.out] at HC
      generalize ln.extract (ln.size + 1) ln.size = y at *
      have Hy := Lib.hid hy; clear hy
      clear Hyes Hno Hall
      go_wp2_with fail
      refine (HC.out _).mono ?_; rintro e w5 ⟨rfl, n5, hw5⟩
      have hb5 : Below w.heap.size w w5 := by rw [hw5]; exact below_drewN Hbl.out n5
      have ho5 := Hown.out.drewN n5
      rw [← hw5] at ho5
      have Hb5 := Lib.hid hb5
      have Ho5 := Lib.hid ho5
      have hz5 := hb5.size
      clear hw5 hb5 ho5 Hown Hbl HC
      go_wp2_with (at_builtin; refine wpList_apd 37 9 _ 1 16 Tryd.underlying37 infoStr rfl (by omega) _ _ rfl rfl w.heap.size _ out.length _ rfl Ho5.out #[.string ln] 1 1 rfl rfl (by simp [Value.oneCell']) (by simp [maxLen]; omega) (by omega) hz5 ?_; intro v7 w7 hown7 hg7; have Hb7 := Lib.hid (below_apd Hb5.out Ho5.out hg7 (Nat.le_refl _) hz5); have Ho7 := Lib.hid (own_snoc hown7); clear hown7 hg7)
      go_ret
      have hfin : R = out ++ [ln] := by rw [Hsp.out, Hy.out]
      rw [hfin]; exact ⟨_, rfl, Ho7.out, Hb7.out⟩

set_option maxRecDepth 100000 in
set_option maxHeartbeats 1600000 in
theorem l01Split_any (s : ByteArray) (c : UInt8) (w : World) (hs : s.size ≤ 1073741824) : Calls Tryd.prog 55 #[.string s, .int .u8 (c.toNat : Int)] w (RetPs w (splitB c s)) := by
  have hlen := splitB_len c s.size s (Nat.le_refl _)
  have hb0 := Lib.hid ((Below.refl w.heap.size w).alloc (Nat.le_refl _) (.cells #[] 9))
  have ho0 := Lib.hid (World.ownsRow_made (base := w.heap.size) (e := 9) (size := 1) w #[] 0 (Nat.le_refl _) (by simp [maxLen]) rfl)
  generalize hR : splitB c s = R at *
  have HR := Lib.hid hR; clear hR
  have h00 := Lib.hid (ext_all s)
  go_enter Tryd.func55, Tryd.ntmps55
  go_wp2_with fail
  go_loopw [5, 6, 7] (fun o f i wr => ∃ (out : List ByteArray) (a k : Nat), f = .int .i64 a ∧ i = .int .i64 k ∧ a ≤ k ∧ k ≤ s.size ∧ R = out ++ splitB c (s.extract a s.size) ∧ k - a ≤ fnd c (s.extract a s.size) ∧ wr.ownsRow w.heap.size 9 1 o out.length (out.map Value.string) ∧ Below w.heap.size w wr) (fun _ _ i _ => s.size - (intOf i).toNat)
  case atStart => exact ⟨[], 0, 0, rfl, rfl, Nat.le_refl _, Nat.zero_le _, by rw [h00.out, HR.out]; rfl, Nat.zero_le _, ho0.out, hb0.out⟩
  case round =>
    obtain ⟨out, a, k, rfl, rfl, hak, hks, hsp, hfd, hown, hbl⟩ := hrel
    have hll : out.length ≤ s.size + 1 := by
      have h1 := congrArg List.length hsp
      rw [List.length_append] at h1
      omega
    have Hsp := Lib.hid hsp; clear hsp
    have Hown := Lib.hid hown
    have Hbl := Lib.hid hbl
    have hz5 := hbl.size
    clear hown hbl
    by_cases hlt : k < s.size
    · have hlt' : (k : Int) < (s.size : Int) := by omega
      by_cases he : s[k] = c
      · have hit := sp_hit hak hlt hfd he
        have Hit := Lib.hid hit; clear hit
        have hb : ((s[k].toNat : Int) == (c.toNat : Int)) = true := by rw [he]; simp
        clear he hfd
        have hx : (a : Int) ≤ (k : Int) := by omega
        go_wp2_with (at_builtin; refine wpList_apd 37 9 _ 1 16 Tryd.underlying37 infoStr rfl (by omega) _ _ rfl rfl w.heap.size _ out.length _ rfl Hown.out #[.string (s.extract a k)] 1 1 rfl rfl (by simp [Value.oneCell']) (by simp [maxLen]; omega) (by omega) hz5 ?_; intro v7 w7 hown7 hg7; have Hb7 := Lib.hid (below_apd Hbl.out Hown.out hg7 (Nat.le_refl _) hz5); have Ho7 := Lib.hid (own_snoc hown7); clear hown7 hg7)
        go_roundw
        case rel => exact ⟨out ++ [s.extract a k], k + 1, k + 1, by go_num, by go_num, Nat.le_refl _, by omega, by rw [Hsp.out, Hit.out]; simp, by omega, Ho7.out, Hb7.out⟩
        case measure => simp [intOf]; omega
      · have hm := sp_miss hak hlt hfd he
        have hb : ((s[k].toNat : Int) == (c.toNat : Int)) = false := by
          rw [beq_eq_false_iff_ne]
          intro h
          exact he (UInt8.toNat_inj.1 (by omega))
        clear he hfd
        go_wp2_with fail
        go_roundw
        case rel => exact ⟨out, a, k + 1, rfl, by go_num, by omega, by omega, Hsp.out, hm, Hown.out, Hbl.out⟩
        case measure => simp [intOf]; omega
    · have hend := sp_end (c := c) (s := s) (f := a) (by omega)
      have Hend := Lib.hid hend; clear hend hfd
      have hlt' : (s.size : Int) ≤ (k : Int) := by omega
      have hx : (a : Int) ≤ (s.size : Int) := by omega
      go_wp2_with (at_builtin; refine wpList_apd 37 9 _ 1 16 Tryd.underlying37 infoStr rfl (by omega) _ _ rfl rfl w.heap.size _ out.length _ rfl Hown.out #[.string (s.extract a s.size)] 1 1 rfl rfl (by simp [Value.oneCell']) (by simp [maxLen]; omega) (by omega) hz5 ?_; intro v7 w7 hown7 hg7; have Hb7 := Lib.hid (below_apd Hbl.out Hown.out hg7 (Nat.le_refl _) hz5); have Ho7 := Lib.hid (own_snoc hown7); clear hown7 hg7)
      go_ret
      have hfin : R = out ++ [s.extract a s.size] := by rw [Hsp.out, Hend.out]
      rw [hfin]; exact ⟨_, rfl, Ho7.out, Hb7.out⟩
end Go.Proofs.YtiddhelabmaghaaDoor
/- l01Dec of every number (the negative ones too). -/
namespace Go.Proofs.YtiddhelabmaghaaDoor
open Go.RowKit Go.Joins

theorem decS_neg (n : Nat) (hn : 0 < n) : decS (-(n : Int)) = ⟨#[45]⟩ ++ ⟨(Lib.decDigits n).toArray⟩ := by
  unfold decS Lib.itoa
  rw [if_pos (by omega)]
  refine ba_inj ?_
  rw [ByteArray.toList_eq, ByteArray.toList_eq]
  simp
theorem nDig19 (u : Nat) (h : u ≤ 9223372036854775808) : Lib.nDigits u ≤ 19 := by
  have key : ∀ (k u : Nat), u < 10 ^ (k + 1) → Lib.nDigits u ≤ k + 1 := by
    intro k
    induction k with
    | zero => intro u hu; rw [Lib.nDigits_small (by simpa using hu)]; omega
    | succ k ih =>
      intro u hu
      by_cases h10 : u < 10
      · rw [Lib.nDigits_small h10]; omega
      · rw [Lib.nDigits_big h10]
        have := ih (u / 10) (by rw [Nat.pow_succ] at hu; omega)
        omega
  refine key 18 u ?_
  have : (10 : Nat) ^ (18 + 1) = 10000000000000000000 := by decide
  omega
theorem tdiv_neg10 (k : Nat) : Int.tdiv (-(k : Int)) 10 = -((k / 10 : Nat) : Int) := by
  rw [Int.neg_tdiv, Int.tdiv_eq_ediv_of_nonneg (by omega)]; omega
theorem tmod_neg10 (k : Nat) : Int.tmod (-(k : Int)) 10 = -((k % 10 : Nat) : Int) := by
  rw [Int.neg_tmod, Int.tmod_eq_emod_of_nonneg (by omega)]; omega

set_option maxRecDepth 100000 in
set_option maxHeartbeats 1600000 in
theorem l01Dec_neg (n : Nat) (w : World) (hn0 : 0 < n) (hn : n ≤ 9223372036854775808) :
    Calls Tryd.prog 103 #[.int .i64 (-(n : Int))] w fun e w' => e = .returned (.string (decS (-(n : Int)))) ∧ Below w.heap.size w w' := by
  have Hn := Lib.hid hn; clear hn
  have Hn0 := Lib.hid hn0; clear hn0
  obtain ⟨N, hN⟩ : ∃ N : Int, -(n : Int) = N := ⟨_, rfl⟩
  rw [hN]
  have HN := Lib.hid hN
  have hneg : N < 0 := by have := Hn0.out; omega
  clear hN
  go_enter Tryd.func103, Tryd.ntmps103
  go_wp2_with fail
  go_loopw [3, 4] (fun v i wr => ∃ (k : Nat) (acc : List UInt8) (g c : Nat), i = .int .i64 (-(k : Int)) ∧ v = .slice (some ⟨g, 0, none⟩) acc.length c ∧ wr.ownsRow w.heap.size 5 1 v acc.length (acc.map byV) ∧
      ddL n [] = ddL k acc ∧ Hid (k * 10 ^ acc.length ≤ 9223372036854775808) ∧ Hid (k ≤ n) ∧ Below w.heap.size w wr) (fun _ i _ => (intOf i).natAbs)
  case atStart => exact ⟨n, [], w.heap.size, 0, by rw [HN.out], rfl, World.ownsRow_made w #[] 0 (Nat.le_refl _) (by simp [maxLen]) rfl, rfl, Lib.hid (by have := Hn.out; simp; omega), Lib.hid (Nat.le_refl _), (Below.refl _ _).alloc (Nat.le_refl _) _⟩
  case round =>
    obtain ⟨k, acc, g, c, rfl, rfl, hown, hdd, hp, hkn, hbl⟩ := hrel
    have Hdd := Lib.hid hdd; clear hdd
    by_cases hlt : 0 < k
    · have hL : acc.length ≤ 18 := len19 k acc.length hlt hp.out
      have hd := digB' k
      have Hst := Lib.hid (ddL_step k acc hlt)
      have hk8 : k ≤ 9223372036854775808 := by have := hkn.out; have := Hn.out; omega
      generalize UInt8.ofNat (48 + k % 10) = d at *
      have hnew := World.ownsRow_lit (base := w.heap.size) (e := 5) (size := 1) wr #[.int .u8 (d.toNat : Int)] 1 hbl.size (by simp [maxLen]) rfl
      have hcells := (hown.alloc (.cells #[.int .u8 (d.toNat : Int)] 5)).cells (g := g) rfl
      have hcells' : ∀ j u, (acc.map byV)[j]? = some u → (wr.alloc (.cells #[.int .u8 (d.toNat : Int)] 5)).cell? ⟨g, j, none⟩ = some u := fun j u hu => by
        have := hcells j u hu
        rwa [show (⟨g, 0, none⟩ : Addr).add j = ⟨g, j, none⟩ by unfold Addr.add; split <;> simp_all] at this
      have Hc := Lib.hid hcells'; clear hcells hcells'
      have hq0 := tdiv_neg10 k
      have hr0 := tmod_neg10 k
      obtain ⟨K, hK⟩ : ∃ K : Int, -(k : Int) = K := ⟨_, rfl⟩
      have HK := Lib.hid hK
      rw [hK] at hq0 hr0
      have hne : (K != 0) = true := by rw [bne_iff_ne]; omega
      have hwq : IntKind.i64.wrap (-((k / 10 : Nat) : Int)) = -((k / 10 : Nat) : Int) := IntWalk.i64_in _ (by omega)
      have hwr : IntKind.i64.wrap (-((k % 10 : Nat) : Int)) = -((k % 10 : Nat) : Int) := IntWalk.i64_in _ (by omega)
      obtain ⟨q, hq⟩ : ∃ q : Int, -((k / 10 : Nat) : Int) = q := ⟨_, rfl⟩
      obtain ⟨r, hr⟩ : ∃ r : Int, -((k % 10 : Nat) : Int) = r := ⟨_, rfl⟩
      rw [hq] at hq0 hwq
      rw [hr] at hr0 hwr
      have Hq := Lib.hid hq
      have hr9 : -9 ≤ r ∧ r ≤ 0 := by omega
      obtain ⟨hr9, hr99⟩ := hr9
      rw [hK]
      rcases Int.lt_or_le r 0 with hrn | hrn
      · have hwd : IntKind.i64.wrap (-r) = -r := IntWalk.i64_in _ (by omega)
        have hd' : IntKind.u8.wrap (48 + -r) = (d.toNat : Int) := by rw [← hd, ← hr]; congr 1; omega
        clear hd hK hq hr
        go_wp2_with (at_builtin; refine wpList_app_own 33 5 _ 1 1 Tryd.underlying33 infoB' rfl (by omega) _ _ rfl rfl w.heap.size (.slice (some ⟨wr.heap.size, 0, none⟩) 1 1) 1 _ rfl hnew (by simp) g acc.length c (acc.map byV) rfl Hc.out (by simp) (by simp [byV, Value.oneCell']) (by simp [maxLen]; omega) (by omega) (by simp; have := hbl.size; omega) ?_; intro g' c' w1 hown1 hg1)
        have hb1 : Below w.heap.size w w1 := (hbl.alloc hbl.size _).grown hg1 (by simp; have := hbl.size; omega) (fun x hx => by injection hx with hx; rw [← hx]; exact hbl.size)
        clear Hc hnew
        go_wp2_with fail
        go_roundw
        case rel => exact ⟨k / 10, d :: acc, g', c', by rw [Hq.out], by simp [Nat.add_comm], by simpa [byV, Nat.add_comm] using hown1, by rw [Hdd.out, Hst.out], Lib.hid (pow_step _ _ _ hp.out), Lib.hid (by have := hkn.out; omega), hb1⟩
        case measure => simp [intOf]; have := HK.out; have := Hq.out; omega
      · have hr0' : r = 0 := by omega
        have hd' : IntKind.u8.wrap (48 + r) = (d.toNat : Int) := by rw [← hd]; congr 1; omega
        clear hd hK hq hr hr0'
        go_wp2_with (at_builtin; refine wpList_app_own 33 5 _ 1 1 Tryd.underlying33 infoB' rfl (by omega) _ _ rfl rfl w.heap.size (.slice (some ⟨wr.heap.size, 0, none⟩) 1 1) 1 _ rfl hnew (by simp) g acc.length c (acc.map byV) rfl Hc.out (by simp) (by simp [byV, Value.oneCell']) (by simp [maxLen]; omega) (by omega) (by simp; have := hbl.size; omega) ?_; intro g' c' w1 hown1 hg1)
        have hb1 : Below w.heap.size w w1 := (hbl.alloc hbl.size _).grown hg1 (by simp; have := hbl.size; omega) (fun x hx => by injection hx with hx; rw [← hx]; exact hbl.size)
        clear Hc hnew
        go_wp2_with fail
        go_roundw
        case rel => exact ⟨k / 10, d :: acc, g', c', by rw [Hq.out], by simp [Nat.add_comm], by simpa [byV, Nat.add_comm] using hown1, by rw [Hdd.out, Hst.out], Lib.hid (pow_step _ _ _ hp.out), Lib.hid (by have := hkn.out; omega), hb1⟩
        case measure => simp [intOf]; have := HK.out; have := Hq.out; omega
    · have hk0 : k = 0 := by omega
      subst hk0
      have hacc : Lib.decDigits n = acc := by
        have := Hdd.out
        simpa [ddL, show n ≠ 0 by have := Hn0.out; omega] using this
      have hl : ((acc.length : Int) == 0) = false := by
        have := decDigits_ne n
        rw [hacc] at this
        rw [beq_eq_false_iff_ne]; omega
      have he := Lib.hid (show decS N = ⟨#[45]⟩ ++ ⟨acc.toArray⟩ by rw [← HN.out, decS_neg n Hn0.out, hacc])
      have hconv := run_conv_own (P := Tryd.prog) 33 9 5 Tryd.underlying33 Tryd.underlying5 Tryd.underlying9 _ _ _ _ hown
      have hlen : acc.length ≤ 19 := by
        have h1 := congrArg List.length hacc
        rw [Lib.decDigits_length] at h1
        have := Hn.out
        have h2 : Lib.nDigits n ≤ 19 := nDig19 n (by omega)
        omega
      clear hacc
      go_wp2_with fail
      go_ret
      rw [he.out]; exact ⟨rfl, hbl⟩
theorem l01Dec_any (n : Int) (w : World) (h0 : -9223372036854775808 ≤ n) (h1 : n ≤ 9223372036854775807) :
    Calls Tryd.prog 103 #[.int .i64 n] w fun e w' => e = .returned (.string (decS n)) ∧ Below w.heap.size w w' := by
  rcases Int.lt_or_le n 0 with h | h
  · obtain ⟨m, rfl⟩ : ∃ m : Nat, n = -(m : Int) := ⟨n.natAbs, by omega⟩
    exact l01Dec_neg m w (by omega) (by omega)
  · obtain ⟨m, rfl⟩ : ∃ m : Nat, n = m := ⟨n.toNat, by omega⟩
    exact l01Dec_nonneg m w (by omega)
end Go.Proofs.YtiddhelabmaghaaDoor
/- Numbers read from texts: the plain reading; ReadDecimal (program). -/
namespace Go.Proofs.YtiddhelabmaghaaDoor
open Go.RowKit Go.Joins

def isDg (c : UInt8) : Bool := decide (48 ≤ c.toNat) && decide (c.toNat ≤ 57)
def numVN (l : List UInt8) : Nat := l.foldl (fun n c => 10 * n + (c.toNat - 48)) 0
theorem numVN_snoc (l : List UInt8) (c : UInt8) : numVN (l ++ [c]) = 10 * numVN l + (c.toNat - 48) := by simp [numVN]
theorem numVN_lt' : ∀ (l : List UInt8), (∀ c ∈ l, isDg c = true) → ∀ n : Nat, l.foldl (fun n c => 10 * n + (c.toNat - 48)) n < (n + 1) * 10 ^ l.length := by
  intro l
  induction l with
  | nil => intro _ n; simp
  | cons c l ih =>
    intro h n
    have h1 := ih (fun x hx => h x (List.mem_cons_of_mem _ hx)) (10 * n + (c.toNat - 48))
    have h2 := h c List.mem_cons_self
    unfold isDg at h2
    simp only [Bool.and_eq_true, decide_eq_true_eq] at h2
    rw [List.foldl_cons, List.length_cons, Nat.pow_succ]
    have h3 : (10 * n + (c.toNat - 48) + 1) * 10 ^ l.length ≤ (10 * (n + 1)) * 10 ^ l.length := Nat.mul_le_mul_right _ (by omega)
    have h4 : (10 * (n + 1)) * 10 ^ l.length = (n + 1) * (10 ^ l.length * 10) := by
      rw [Nat.mul_comm 10 (n + 1), Nat.mul_assoc, Nat.mul_comm 10]
    omega
theorem numVN_lt (l : List UInt8) (h : ∀ c ∈ l, isDg c = true) : numVN l < 10 ^ l.length := by
  have := numVN_lt' l h 0
  unfold numVN
  omega
/-- what stands behind a sign -/
def bodyN (s : ByteArray) : ByteArray := if s.data.toList.head? = some 45 then s.extract 1 s.size else s
def valN (s : ByteArray) : Int := if (bodyN s).size < s.size then -(numVN (bodyN s).data.toList : Int) else numVN (bodyN s).data.toList
def readN (s : ByteArray) : Option Int :=
  if (bodyN s).size = 0 ∨ 18 < (bodyN s).size then none
  else if (bodyN s).data.toList.all isDg = true then (if decS (valN s) = s then some (valN s) else none) else none
theorem isDigitN_any (c : UInt8) (w : World) : Calls Tryd.prog 101 #[.int .u8 (c.toNat : Int)] w fun e w' => e = .returned (.bool (isDg c)) ∧ w = w' := by
  unfold isDg
  by_cases h1 : 48 ≤ c.toNat
  · have h1' : (48 : Int) ≤ (c.toNat : Int) := by omega
    by_cases h2 : c.toNat ≤ 57
    · have h2' : (c.toNat : Int) ≤ 57 := by omega
      go_enter Tryd.func101, Tryd.ntmps101
      go_wp2_with fail
      go_ret
      exact ⟨by simp [h1, h2], rfl⟩
    · have h2' : ¬ (c.toNat : Int) ≤ 57 := by omega
      go_enter Tryd.func101, Tryd.ntmps101
      go_wp2_with fail
      go_ret
      exact ⟨by simp, rfl⟩
  · have h1' : ¬ (48 : Int) ≤ (c.toNat : Int) := by omega
    go_enter Tryd.func101, Tryd.ntmps101
    go_wp2_with fail
    go_ret
    exact ⟨by simp, rfl⟩
theorem l01DigitN_any (c : UInt8) (w : World) : Calls Tryd.prog 102 #[.int .u8 (c.toNat : Int)] w fun e w' => e = .returned (.bool (isDg c)) ∧ w = w' := by
  unfold isDg
  by_cases h1 : 48 ≤ c.toNat
  · have h1' : (48 : Int) ≤ (c.toNat : Int) := by omega
    by_cases h2 : c.toNat ≤ 57
    · have h2' : (c.toNat : Int) ≤ 57 := by omega
      go_enter Tryd.func102, Tryd.ntmps102
      go_wp2_with fail
      go_ret
      exact ⟨by simp [h1, h2], rfl⟩
    · have h2' : ¬ (c.toNat : Int) ≤ 57 := by omega
      go_enter Tryd.func102, Tryd.ntmps102
      go_wp2_with fail
      go_ret
      exact ⟨by simp, rfl⟩
  · have h1' : ¬ (48 : Int) ≤ (c.toNat : Int) := by omega
    go_enter Tryd.func102, Tryd.ntmps102
    go_wp2_with fail
    go_ret
    exact ⟨by simp, rfl⟩
end Go.Proofs.YtiddhelabmaghaaDoor
/- Numbers read from texts, part 2: ReadDecimal and l01Number (under way). -/
namespace Go.Proofs.YtiddhelabmaghaaDoor
open Go.RowKit Go.Joins

def RetN1 (w : World) (s : ByteArray) (e : Ending) (w' : World) : Prop := e = .returned (.tuple #[.int .i64 ((readN s).getD 0), .bool (readN s).isSome]) ∧ Below w.heap.size w w'
theorem head_sizeN {s : ByteArray} (h : s.data.toList.head? = some 45) : ∃ h0 : 0 < s.size, s[0] = 45 := by
  have h0 : 0 < s.size := by
    rcases Nat.eq_zero_or_pos s.size with h1 | h1
    · have : s.data.toList = [] := List.eq_nil_of_length_eq_zero (by simpa using h1)
      rw [this] at h; simp at h
    · exact h1
  refine ⟨h0, ?_⟩
  have h2 : s.data.toList.head? = some s[0] := by
    rw [List.head?_eq_getElem?, List.getElem?_eq_getElem (by simpa using h0)]
    rfl
  rw [h2] at h
  exact Option.some.inj h
theorem head_not {s : ByteArray} (h : ¬ s.data.toList.head? = some 45) (h0 : 0 < s.size) : s[0] ≠ 45 := by
  intro e
  refine h ?_
  rw [List.head?_eq_getElem?, List.getElem?_eq_getElem (by simpa using h0)]
  rw [← e]; rfl
theorem take_at (s : ByteArray) (k : Nat) (hk : k < s.size) : numVN (s.data.toList.take (k + 1)) = 10 * numVN (s.data.toList.take k) + (s[k].toNat - 48) := by
  rw [List.take_succ_eq_append_getElem (by simpa using hk), numVN_snoc]
  rfl
theorem readN_none {s : ByteArray} (h : (bodyN s).size = 0 ∨ 18 < (bodyN s).size) : readN s = none := by unfold readN; rw [if_pos h]
theorem readN_bad {s : ByteArray} (k : Nat) (hk : k < (bodyN s).size) (h : isDg (bodyN s)[k] = false) : readN s = none := by
  unfold readN
  split
  · rfl
  · rw [if_neg]
    intro ha
    have := List.all_eq_true.1 ha (bodyN s)[k] (List.getElem_mem (l := (bodyN s).data.toList) (n := k) (by simpa using hk))
    rw [h] at this; cases this
theorem readN_val {s : ByteArray} (h1 : ¬((bodyN s).size = 0 ∨ 18 < (bodyN s).size)) (h2 : ∀ c ∈ (bodyN s).data.toList, isDg c = true) : readN s = if decS (valN s) = s then some (valN s) else none := by
  unfold readN
  rw [if_neg h1, if_pos (List.all_eq_true.2 h2)]
theorem valN_bd {s : ByteArray} (h1 : ¬((bodyN s).size = 0 ∨ 18 < (bodyN s).size)) (h2 : ∀ c ∈ (bodyN s).data.toList, isDg c = true) : numVN (bodyN s).data.toList < 1000000000000000000 := by
  have h := numVN_lt _ h2
  have h3 : (10 : Nat) ^ (bodyN s).data.toList.length ≤ 10 ^ 18 := Nat.pow_le_pow_right (by omega) (by
    have : (bodyN s).data.toList.length = (bodyN s).size := by simp
    omega)
  have h4 : (10 : Nat) ^ 18 = 1000000000000000000 := by decide
  omega
end Go.Proofs.YtiddhelabmaghaaDoor
/- Numbers read from texts, part 3 (printed by gen_rn3.py): ReadDecimal (program). -/
namespace Go.Proofs.YtiddhelabmaghaaDoor
open Go.RowKit Go.Joins

theorem tail_size1 (s : ByteArray) : (s.extract 1 s.size).size = s.size - 1 := by rw [ByteArray.size_extract]; omega
theorem dig_wrap (c : UInt8) (h : isDg c = true) : IntKind.u8.wrap ((c.toNat : Int) - 48) = ((c.toNat - 48 : Nat) : Int) ∧ c.toNat - 48 ≤ 9 := by
  unfold isDg at h
  simp only [Bool.and_eq_true, decide_eq_true_eq] at h
  rw [IntKind.wrap_u8]
  omega

set_option maxRecDepth 100000 in
set_option maxHeartbeats 3200000 in
theorem ReadDecimal_any (s : ByteArray) (w : World) (hs : s.size ≤ 1073741824) (ht : Tab w) : Calls Tryd.prog 61 #[.string s] w (RetN1 w s) := by
  have Hnone := Lib.hid (fun h => readN_none (s := s) h)
  have Hbad := Lib.hid (fun k hk h => readN_bad (s := s) k hk h)
  have Hval := Lib.hid (fun h1 h2 => readN_val (s := s) h1 h2)
  have Hbd := Lib.hid (fun h1 h2 => valN_bd (s := s) h1 h2)
  have HD := Lib.hid (fun n wx h0 h1 hx => Decimal_any n wx h0 h1 hx)
  have Ht := Lib.hid ht
  have hb0 := Below.refl w.heap.size w
  have HV := Lib.hid (show valN s = if (bodyN s).size < s.size then -(numVN (bodyN s).data.toList : Int) else numVN (bodyN s).data.toList from rfl)
  clear ht
  by_cases hh : s.data.toList.head? = some 45
  · obtain ⟨h0, he⟩ := head_sizeN hh
    have HT := Lib.hid (show bodyN s = s.extract 1 s.size by unfold bodyN; rw [if_pos hh])
    have hb : ((s[0].toNat : Int) == 45) = true := by rw [he]; rfl
    have hz0 := tail_size1 s
    have hpos : (0 : Int) < (s.size : Int) := by omega
    obtain ⟨T, hT⟩ : ∃ T, s.extract 1 s.size = T := ⟨_, rfl⟩
    rw [HT.out, hT] at Hbad Hbd Hval Hnone HV
    rw [hT] at hz0
    have hlt : T.size < s.size := by omega
    rw [if_pos hlt] at HV
    have hlt' : (T.size : Int) < (s.size : Int) := by omega
    clear HT he hh hz0
    by_cases t0 : T.size = 0
    · have hn := Hnone.out (.inl t0)
      have t0' : ((T.size : Int) == 0) = true := by rw [t0]; rfl
      go_enter Tryd.func61, Tryd.ntmps61
      go_wp2_with fail
      go_ret2
      unfold RetN1; rw [hn]; exact ⟨rfl, hb0⟩
    · have t0' : ((T.size : Int) == 0) = false := by rw [beq_eq_false_iff_ne]; omega
      by_cases t1 : 18 < T.size
      · have hn := Hnone.out (.inr t1)
        have t1' : (18 : Int) < (T.size : Int) := by omega
        go_enter Tryd.func61, Tryd.ntmps61
        go_wp2_with fail
        go_ret2
        unfold RetN1; rw [hn]; exact ⟨rfl, hb0⟩
      · have t1' : ¬ (18 : Int) < (T.size : Int) := by omega
        have hno : ¬(T.size = 0 ∨ 18 < T.size) := by omega
        have Hval2 := Lib.hid (Hval.out hno)
        have Hbd2 := Lib.hid (Hbd.out hno)
        clear Hval Hbd Hnone
        go_enter Tryd.func61, Tryd.ntmps61
        go_wp2_with fail
        go_loop [5, 28] (fun n i => ∃ k : Nat, k ≤ T.size ∧ i = .int .i64 (k : Int) ∧ n = .int .i64 (numVN (T.data.toList.take k) : Int) ∧ ∀ c ∈ T.data.toList.take k, isDg c = true) (fun _ i => T.size - (intOf i).toNat)
        case atStart => exact ⟨0, Nat.zero_le _, rfl, rfl, by simp⟩
        case round =>
          obtain ⟨k, hk, rfl, rfl, hall⟩ := hrel
          have Hall := Lib.hid hall
          by_cases hlk : k < T.size
          · have hlk' : (k : Int) < (T.size : Int) := by omega
            have HDg := Lib.hid (fun wx => isDigitN_any (T)[k] wx)
            have HK := Lib.hid (take_at T k hlk)
            have hN : numVN (T.data.toList.take k) < 100000000000000000 := by
              have h := numVN_lt _ hall
              have h3 : (10 : Nat) ^ (T.data.toList.take k).length ≤ 10 ^ 17 := Nat.pow_le_pow_right (by omega) (by rw [List.length_take]; omega)
              have h4 : (10 : Nat) ^ 17 = 100000000000000000 := by decide
              omega
            have Hsn := Lib.hid (fun (h : isDg (T)[k] = true) => (show ∀ c ∈ T.data.toList.take (k + 1), isDg c = true from fun c hc => by
              rw [List.take_succ_eq_append_getElem (by simpa using hlk)] at hc
              rcases List.mem_append.1 hc with h1 | h1
              · exact Hall.out c h1
              · rw [List.mem_singleton.1 h1]; exact h))
            generalize numVN (T.data.toList.take k) = N at *
            clear hall
            cases hdg : isDg (T)[k] with
            | false =>
              have hn := Hbad.out k hlk hdg
              rw [hdg] at HDg
              clear hdg
              go_wp2_with fail
              refine (HDg.out _).mono ?_; rintro e w1 ⟨rfl, rfl⟩
              go_wp2_with fail
              go_ret2
              unfold RetN1; rw [hn]; exact ⟨rfl, hb0⟩
            | true =>
              obtain ⟨hw, h9⟩ := dig_wrap (T)[k] hdg
              have Hs2 := Lib.hid (Hsn.out hdg)
              rw [hdg] at HDg
              clear hdg Hsn
              generalize (T)[k].toNat - 48 = d at *
              go_wp2_with fail
              refine (HDg.out _).mono ?_; rintro e w1 ⟨rfl, rfl⟩
              go_wp2_with fail
              go_round
              case rel => exact ⟨k + 1, by omega, by go_num, by rw [HK.out]; go_num, Hs2.out⟩
              case measure => simp [intOf]; omega
          · have hd : T.data.toList.take k = T.data.toList := List.take_of_length_le (by simp; omega)
            rw [hd] at hall
            rw [hd]
            have hM := Hbd2.out hall
            have HR := Lib.hid (Hval2.out hall)
            generalize numVN T.data.toList = M at *
            rw [HV.out] at HR
            have hlk' : (T.size : Int) ≤ (k : Int) := by omega
            have HDx := Lib.hid (HD.out (-(M : Int)) w (by omega) (by omega) Ht.out)
            have hwn : IntKind.i64.wrap (-(M : Int)) = -(M : Int) := IntWalk.i64_in _ (by omega)
            clear hall hd Hall
            by_cases hq : decS (-(M : Int)) = s
            · have HQ := Lib.hid (show readN s = some (-(M : Int)) by rw [HR.out, if_pos hq])
              rw [hq] at HDx
              clear hq HR
              go_wp2_with fail
              refine HDx.out.mono ?_; rintro e w5 ⟨rfl, hb5⟩
              go_wp2_with fail
              go_ret2
              unfold RetN1; rw [HQ.out]; exact ⟨rfl, hb5⟩
            · have HQ := Lib.hid (show readN s = none by rw [HR.out, if_neg hq])
              have hbn : ((decS (-(M : Int))).toList != s.toList) = true := bne_iff_ne.2 fun e => hq (ba_inj e)
              have hbq : ((decS (-(M : Int))).toList == s.toList) = false := beq_eq_false_iff_ne.2 fun e => hq (ba_inj e)
              generalize decS (-(M : Int)) = Y at *
              clear hq HR
              go_wp2_with fail
              refine HDx.out.mono ?_; rintro e w5 ⟨rfl, hb5⟩
              go_wp2_with fail
              go_ret2
              unfold RetN1; rw [HQ.out]; exact ⟨rfl, hb5⟩
  · have HT := Lib.hid (show bodyN s = s by unfold bodyN; rw [if_neg hh])
    rw [HT.out] at Hbad Hbd Hval Hnone HV
    rw [if_neg (Nat.lt_irrefl _)] at HV
    clear HT
    by_cases t0 : s.size = 0
    · have hn := Hnone.out (.inl t0)
      have t0' : ((s.size : Int) == 0) = true := by rw [t0]; rfl
      have hp0 : ¬ (0 : Int) < (s.size : Int) := by omega
      go_enter Tryd.func61, Tryd.ntmps61
      go_wp2_with fail
      go_ret2
      unfold RetN1; rw [hn]; exact ⟨rfl, hb0⟩
    · have t0' : ((s.size : Int) == 0) = false := by rw [beq_eq_false_iff_ne]; omega
      have h0 : 0 < s.size := by omega
      have hpos : (0 : Int) < (s.size : Int) := by omega
      have hb : ((s[0].toNat : Int) == 45) = false := by
        rw [beq_eq_false_iff_ne]; intro h
        exact head_not hh h0 (UInt8.toNat_inj.1 (by have : (45 : UInt8).toNat = 45 := rfl
                                                    omega))
      by_cases t1 : 18 < s.size
      · have hn := Hnone.out (.inr t1)
        have t1' : (18 : Int) < (s.size : Int) := by omega
        go_enter Tryd.func61, Tryd.ntmps61
        go_wp2_with fail
        go_ret2
        unfold RetN1; rw [hn]; exact ⟨rfl, hb0⟩
      · have t1' : ¬ (18 : Int) < (s.size : Int) := by omega
        have hno : ¬(s.size = 0 ∨ 18 < s.size) := by omega
        have Hval2 := Lib.hid (Hval.out hno)
        have Hbd2 := Lib.hid (Hbd.out hno)
        clear Hval Hbd Hnone
        go_enter Tryd.func61, Tryd.ntmps61
        go_wp2_with fail
        go_loop [5, 28] (fun n i => ∃ k : Nat, k ≤ s.size ∧ i = .int .i64 (k : Int) ∧ n = .int .i64 (numVN (s.data.toList.take k) : Int) ∧ ∀ c ∈ s.data.toList.take k, isDg c = true) (fun _ i => s.size - (intOf i).toNat)
        case atStart => exact ⟨0, Nat.zero_le _, rfl, rfl, by simp⟩
        case round =>
          obtain ⟨k, hk, rfl, rfl, hall⟩ := hrel
          have Hall := Lib.hid hall
          by_cases hlk : k < s.size
          · have hlk' : (k : Int) < (s.size : Int) := by omega
            have HDg := Lib.hid (fun wx => isDigitN_any (s)[k] wx)
            have HK := Lib.hid (take_at s k hlk)
            have hN : numVN (s.data.toList.take k) < 100000000000000000 := by
              have h := numVN_lt _ hall
              have h3 : (10 : Nat) ^ (s.data.toList.take k).length ≤ 10 ^ 17 := Nat.pow_le_pow_right (by omega) (by rw [List.length_take]; omega)
              have h4 : (10 : Nat) ^ 17 = 100000000000000000 := by decide
              omega
            have Hsn := Lib.hid (fun (h : isDg (s)[k] = true) => (show ∀ c ∈ s.data.toList.take (k + 1), isDg c = true from fun c hc => by
              rw [List.take_succ_eq_append_getElem (by simpa using hlk)] at hc
              rcases List.mem_append.1 hc with h1 | h1
              · exact Hall.out c h1
              · rw [List.mem_singleton.1 h1]; exact h))
            generalize numVN (s.data.toList.take k) = N at *
            clear hall
            cases hdg : isDg (s)[k] with
            | false =>
              have hn := Hbad.out k hlk hdg
              rw [hdg] at HDg
              clear hdg
              go_wp2_with fail
              refine (HDg.out _).mono ?_; rintro e w1 ⟨rfl, rfl⟩
              go_wp2_with fail
              go_ret2
              unfold RetN1; rw [hn]; exact ⟨rfl, hb0⟩
            | true =>
              obtain ⟨hw, h9⟩ := dig_wrap (s)[k] hdg
              have Hs2 := Lib.hid (Hsn.out hdg)
              rw [hdg] at HDg
              clear hdg Hsn
              generalize (s)[k].toNat - 48 = d at *
              go_wp2_with fail
              refine (HDg.out _).mono ?_; rintro e w1 ⟨rfl, rfl⟩
              go_wp2_with fail
              go_round
              case rel => exact ⟨k + 1, by omega, by go_num, by rw [HK.out]; go_num, Hs2.out⟩
              case measure => simp [intOf]; omega
          · have hd : s.data.toList.take k = s.data.toList := List.take_of_length_le (by simp; omega)
            rw [hd] at hall
            rw [hd]
            have hM := Hbd2.out hall
            have HR := Lib.hid (Hval2.out hall)
            generalize numVN s.data.toList = M at *
            rw [HV.out] at HR
            have hlk' : (s.size : Int) ≤ (k : Int) := by omega
            have HDx := Lib.hid (HD.out ((M : Int)) w (by omega) (by omega) Ht.out)
            have hwn : IntKind.i64.wrap ((M : Int)) = (M : Int) := IntWalk.i64_in _ (by omega)
            clear hall hd Hall
            by_cases hq : decS ((M : Int)) = s
            · have HQ := Lib.hid (show readN s = some ((M : Int)) by rw [HR.out, if_pos hq])
              rw [hq] at HDx
              clear hq HR
              go_wp2_with fail
              refine HDx.out.mono ?_; rintro e w5 ⟨rfl, hb5⟩
              go_wp2_with fail
              go_ret2
              unfold RetN1; rw [HQ.out]; exact ⟨rfl, hb5⟩
            · have HQ := Lib.hid (show readN s = none by rw [HR.out, if_neg hq])
              have hbn : ((decS ((M : Int))).toList != s.toList) = true := bne_iff_ne.2 fun e => hq (ba_inj e)
              have hbq : ((decS ((M : Int))).toList == s.toList) = false := beq_eq_false_iff_ne.2 fun e => hq (ba_inj e)
              generalize decS ((M : Int)) = Y at *
              clear hq HR
              go_wp2_with fail
              refine HDx.out.mono ?_; rintro e w5 ⟨rfl, hb5⟩
              go_wp2_with fail
              go_ret2
              unfold RetN1; rw [HQ.out]; exact ⟨rfl, hb5⟩
end Go.Proofs.YtiddhelabmaghaaDoor
/- Numbers read from texts, part 4 (printed by gen_rn4.py): l01Number (reference). -/
namespace Go.Proofs.YtiddhelabmaghaaDoor
open Go.RowKit Go.Joins

theorem ne_some {s : ByteArray} (h : 0 < s.size) : s.toList.isEmpty = false := by
  rw [ByteArray.toList_eq, List.isEmpty_eq_false_iff]
  intro e
  have h1 : s.data.toList.length = s.size := by simp
  rw [e] at h1
  simp at h1; omega
theorem ne_none {s : ByteArray} (h : s.size = 0) : s.toList.isEmpty = true := by
  rw [ByteArray.toList_eq, List.isEmpty_iff]
  exact List.eq_nil_of_length_eq_zero (by simpa using h)

set_option maxRecDepth 100000 in
set_option maxHeartbeats 3200000 in
theorem l01Number_any (s : ByteArray) (w : World) (hs : s.size ≤ 1073741824) : Calls Tryd.prog 64 #[.string s] w (RetN1 w s) := by
  have Hnone := Lib.hid (fun h => readN_none (s := s) h)
  have Hbad := Lib.hid (fun k hk h => readN_bad (s := s) k hk h)
  have Hval := Lib.hid (fun h1 h2 => readN_val (s := s) h1 h2)
  have Hbd := Lib.hid (fun h1 h2 => valN_bd (s := s) h1 h2)
  have HD := Lib.hid (fun n wx h0 h1 => l01Dec_any n wx h0 h1)
  have hb0 := Below.refl w.heap.size w
  have HV := Lib.hid (show valN s = if (bodyN s).size < s.size then -(numVN (bodyN s).data.toList : Int) else numVN (bodyN s).data.toList from rfl)
  by_cases hh : s.data.toList.head? = some 45
  · obtain ⟨h0, he⟩ := head_sizeN hh
    have HT := Lib.hid (show bodyN s = s.extract 1 s.size by unfold bodyN; rw [if_pos hh])
    have hb : ((s[0].toNat : Int) == 45) = true := by rw [he]; rfl
    have hz0 := tail_size1 s
    have hpos : (0 : Int) < (s.size : Int) := by omega
    have hne := ne_some h0
    obtain ⟨T, hT⟩ : ∃ T, s.extract 1 s.size = T := ⟨_, rfl⟩
    rw [HT.out, hT] at Hbad Hbd Hval Hnone HV
    rw [hT] at hz0
    have hlt : T.size < s.size := by omega
    rw [if_pos hlt] at HV
    have hlt' : (T.size : Int) < (s.size : Int) := by omega
    clear HT he hh hz0
    by_cases t0 : T.size = 0
    · have hn := Hnone.out (.inl t0)
      have t0' : (T.size : Int) < 1 := by omega
      go_enter Tryd.func64, Tryd.ntmps64
      go_wp2_with fail
      go_ret2
      unfold RetN1; rw [hn]; exact ⟨rfl, hb0⟩
    · have t0' : ¬ (T.size : Int) < 1 := by omega
      by_cases t1 : 18 < T.size
      · have hn := Hnone.out (.inr t1)
        have t1' : (18 : Int) < (T.size : Int) := by omega
        go_enter Tryd.func64, Tryd.ntmps64
        go_wp2_with fail
        go_ret2
        unfold RetN1; rw [hn]; exact ⟨rfl, hb0⟩
      · have t1' : ¬ (18 : Int) < (T.size : Int) := by omega
        have hno : ¬(T.size = 0 ∨ 18 < T.size) := by omega
        have Hval2 := Lib.hid (Hval.out hno)
        have Hbd2 := Lib.hid (Hbd.out hno)
        clear Hval Hbd Hnone
        go_enter Tryd.func64, Tryd.ntmps64
        go_wp2_with fail
        go_loop [5, 6] (fun n i => ∃ k : Nat, k ≤ T.size ∧ i = .int .i64 (k : Int) ∧ n = .int .i64 (numVN (T.data.toList.take k) : Int) ∧ ∀ c ∈ T.data.toList.take k, isDg c = true) (fun _ i => T.size - (intOf i).toNat)
        case atStart => exact ⟨0, Nat.zero_le _, rfl, rfl, by simp⟩
        case round =>
          obtain ⟨k, hk, rfl, rfl, hall⟩ := hrel
          have Hall := Lib.hid hall
          by_cases hlk : k < T.size
          · have hlk' : (k : Int) < (T.size : Int) := by omega
            have HDg := Lib.hid (fun wx => l01DigitN_any (T)[k] wx)
            have HK := Lib.hid (take_at T k hlk)
            have hN : numVN (T.data.toList.take k) < 100000000000000000 := by
              have h := numVN_lt _ hall
              have h3 : (10 : Nat) ^ (T.data.toList.take k).length ≤ 10 ^ 17 := Nat.pow_le_pow_right (by omega) (by rw [List.length_take]; omega)
              have h4 : (10 : Nat) ^ 17 = 100000000000000000 := by decide
              omega
            have Hsn := Lib.hid (fun (h : isDg (T)[k] = true) => (show ∀ c ∈ T.data.toList.take (k + 1), isDg c = true from fun c hc => by
              rw [List.take_succ_eq_append_getElem (by simpa using hlk)] at hc
              rcases List.mem_append.1 hc with h1 | h1
              · exact Hall.out c h1
              · rw [List.mem_singleton.1 h1]; exact h))
            generalize numVN (T.data.toList.take k) = N at *
            clear hall
            cases hdg : isDg (T)[k] with
            | false =>
              have hn := Hbad.out k hlk hdg
              rw [hdg] at HDg
              clear hdg
              go_wp2_with fail
              refine (HDg.out _).mono ?_; rintro e w1 ⟨rfl, rfl⟩
              go_wp2_with fail
              go_ret2
              unfold RetN1; rw [hn]; exact ⟨rfl, hb0⟩
            | true =>
              obtain ⟨hw, h9⟩ := dig_wrap (T)[k] hdg
              have Hs2 := Lib.hid (Hsn.out hdg)
              rw [hdg] at HDg
              clear hdg Hsn
              generalize (T)[k].toNat - 48 = d at *
              go_wp2_with fail
              refine (HDg.out _).mono ?_; rintro e w1 ⟨rfl, rfl⟩
              go_wp2_with fail
              go_round
              case rel => exact ⟨k + 1, by omega, by go_num, by rw [HK.out]; go_num, Hs2.out⟩
              case measure => simp [intOf]; omega
          · have hd : T.data.toList.take k = T.data.toList := List.take_of_length_le (by simp; omega)
            rw [hd] at hall
            rw [hd]
            have hM := Hbd2.out hall
            have HR := Lib.hid (Hval2.out hall)
            generalize numVN T.data.toList = M at *
            rw [HV.out] at HR
            have hlk' : (T.size : Int) ≤ (k : Int) := by omega
            have HDx := Lib.hid (HD.out (-(M : Int)) w (by omega) (by omega))
            have hwn : IntKind.i64.wrap (-(M : Int)) = -(M : Int) := IntWalk.i64_in _ (by omega)
            clear hall hd Hall
            by_cases hq : decS (-(M : Int)) = s
            · have HQ := Lib.hid (show readN s = some (-(M : Int)) by rw [HR.out, if_pos hq])
              rw [hq] at HDx
              clear hq HR
              go_wp2_with fail
              refine HDx.out.mono ?_; rintro e w5 ⟨rfl, hb5⟩
              go_wp2_with fail
              go_ret2
              unfold RetN1; rw [HQ.out]; exact ⟨rfl, hb5⟩
            · have HQ := Lib.hid (show readN s = none by rw [HR.out, if_neg hq])
              have hbn : ((decS (-(M : Int))).toList != s.toList) = true := bne_iff_ne.2 fun e => hq (ba_inj e)
              have hbq : ((decS (-(M : Int))).toList == s.toList) = false := beq_eq_false_iff_ne.2 fun e => hq (ba_inj e)
              generalize decS (-(M : Int)) = Y at *
              clear hq HR
              go_wp2_with fail
              refine HDx.out.mono ?_; rintro e w5 ⟨rfl, hb5⟩
              go_wp2_with fail
              go_ret2
              unfold RetN1; rw [HQ.out]; exact ⟨rfl, hb5⟩
  · have HT := Lib.hid (show bodyN s = s by unfold bodyN; rw [if_neg hh])
    rw [HT.out] at Hbad Hbd Hval Hnone HV
    rw [if_neg (Nat.lt_irrefl _)] at HV
    clear HT
    by_cases t0 : s.size = 0
    · have hn := Hnone.out (.inl t0)
      have t0' : (s.size : Int) < 1 := by omega
      have hne := ne_none t0
      go_enter Tryd.func64, Tryd.ntmps64
      go_wp2_with fail
      go_ret2
      unfold RetN1; rw [hn]; exact ⟨rfl, hb0⟩
    · have t0' : ¬ (s.size : Int) < 1 := by omega
      have h0 : 0 < s.size := by omega
      have hpos : (0 : Int) < (s.size : Int) := by omega
      have hne := ne_some h0
      have hb : ((s[0].toNat : Int) == 45) = false := by
        rw [beq_eq_false_iff_ne]; intro h
        exact head_not hh h0 (UInt8.toNat_inj.1 (by have : (45 : UInt8).toNat = 45 := rfl
                                                    omega))
      by_cases t1 : 18 < s.size
      · have hn := Hnone.out (.inr t1)
        have t1' : (18 : Int) < (s.size : Int) := by omega
        go_enter Tryd.func64, Tryd.ntmps64
        go_wp2_with fail
        go_ret2
        unfold RetN1; rw [hn]; exact ⟨rfl, hb0⟩
      · have t1' : ¬ (18 : Int) < (s.size : Int) := by omega
        have hno : ¬(s.size = 0 ∨ 18 < s.size) := by omega
        have Hval2 := Lib.hid (Hval.out hno)
        have Hbd2 := Lib.hid (Hbd.out hno)
        clear Hval Hbd Hnone
        go_enter Tryd.func64, Tryd.ntmps64
        go_wp2_with fail
        go_loop [5, 6] (fun n i => ∃ k : Nat, k ≤ s.size ∧ i = .int .i64 (k : Int) ∧ n = .int .i64 (numVN (s.data.toList.take k) : Int) ∧ ∀ c ∈ s.data.toList.take k, isDg c = true) (fun _ i => s.size - (intOf i).toNat)
        case atStart => exact ⟨0, Nat.zero_le _, rfl, rfl, by simp⟩
        case round =>
          obtain ⟨k, hk, rfl, rfl, hall⟩ := hrel
          have Hall := Lib.hid hall
          by_cases hlk : k < s.size
          · have hlk' : (k : Int) < (s.size : Int) := by omega
            have HDg := Lib.hid (fun wx => l01DigitN_any (s)[k] wx)
            have HK := Lib.hid (take_at s k hlk)
            have hN : numVN (s.data.toList.take k) < 100000000000000000 := by
              have h := numVN_lt _ hall
              have h3 : (10 : Nat) ^ (s.data.toList.take k).length ≤ 10 ^ 17 := Nat.pow_le_pow_right (by omega) (by rw [List.length_take]; omega)
              have h4 : (10 : Nat) ^ 17 = 100000000000000000 := by decide
              omega
            have Hsn := Lib.hid (fun (h : isDg (s)[k] = true) => (show ∀ c ∈ s.data.toList.take (k + 1), isDg c = true from fun c hc => by
              rw [List.take_succ_eq_append_getElem (by simpa using hlk)] at hc
              rcases List.mem_append.1 hc with h1 | h1
              · exact Hall.out c h1
              · rw [List.mem_singleton.1 h1]; exact h))
            generalize numVN (s.data.toList.take k) = N at *
            clear hall
            cases hdg : isDg (s)[k] with
            | false =>
              have hn := Hbad.out k hlk hdg
              rw [hdg] at HDg
              clear hdg
              go_wp2_with fail
              refine (HDg.out _).mono ?_; rintro e w1 ⟨rfl, rfl⟩
              go_wp2_with fail
              go_ret2
              unfold RetN1; rw [hn]; exact ⟨rfl, hb0⟩
            | true =>
              obtain ⟨hw, h9⟩ := dig_wrap (s)[k] hdg
              have Hs2 := Lib.hid (Hsn.out hdg)
              rw [hdg] at HDg
              clear hdg Hsn
              generalize (s)[k].toNat - 48 = d at *
              go_wp2_with fail
              refine (HDg.out _).mono ?_; rintro e w1 ⟨rfl, rfl⟩
              go_wp2_with fail
              go_round
              case rel => exact ⟨k + 1, by omega, by go_num, by rw [HK.out]; go_num, Hs2.out⟩
              case measure => simp [intOf]; omega
          · have hd : s.data.toList.take k = s.data.toList := List.take_of_length_le (by simp; omega)
            rw [hd] at hall
            rw [hd]
            have hM := Hbd2.out hall
            have HR := Lib.hid (Hval2.out hall)
            generalize numVN s.data.toList = M at *
            rw [HV.out] at HR
            have hlk' : (s.size : Int) ≤ (k : Int) := by omega
            have HDx := Lib.hid (HD.out ((M : Int)) w (by omega) (by omega))
            have hwn : IntKind.i64.wrap ((M : Int)) = (M : Int) := IntWalk.i64_in _ (by omega)
            clear hall hd Hall
            by_cases hq : decS ((M : Int)) = s
            · have HQ := Lib.hid (show readN s = some ((M : Int)) by rw [HR.out, if_pos hq])
              rw [hq] at HDx
              clear hq HR
              go_wp2_with fail
              refine HDx.out.mono ?_; rintro e w5 ⟨rfl, hb5⟩
              go_wp2_with fail
              go_ret2
              unfold RetN1; rw [HQ.out]; exact ⟨rfl, hb5⟩
            · have HQ := Lib.hid (show readN s = none by rw [HR.out, if_neg hq])
              have hbn : ((decS ((M : Int))).toList != s.toList) = true := bne_iff_ne.2 fun e => hq (ba_inj e)
              have hbq : ((decS ((M : Int))).toList == s.toList) = false := beq_eq_false_iff_ne.2 fun e => hq (ba_inj e)
              generalize decS ((M : Int)) = Y at *
              clear hq HR
              go_wp2_with fail
              refine HDx.out.mono ?_; rintro e w5 ⟨rfl, hb5⟩
              go_wp2_with fail
              go_ret2
              unfold RetN1; rw [HQ.out]; exact ⟨rfl, hb5⟩
end Go.Proofs.YtiddhelabmaghaaDoor
/- Texts, read: cut at two bytes; the lines of a text (textLines). -/
namespace Go.Proofs.YtiddhelabmaghaaDoor
open Go.RowKit Go.Joins

def hit2 (c : UInt8) (s : ByteArray) (i : Nat) : Bool := (s.data[i]? == some c) && (s.data[i + 1]? == some c)
/-- the first place of two bytes c; the text's size if there is none -/
def fnd2 (c : UInt8) (s : ByteArray) : Nat := (List.range s.size).findIdx (hit2 c s)
theorem fnd2_le (c : UInt8) (s : ByteArray) : fnd2 c s ≤ s.size := by
  have : fnd2 c s ≤ (List.range s.size).length := List.findIdx_le_length
  simpa using this
theorem hit2_iff (c : UInt8) (s : ByteArray) (i : Nat) : hit2 c s i = true ↔ ∃ h : i + 1 < s.size, s[i] = c ∧ s[i + 1] = c := by
  unfold hit2
  simp only [Bool.and_eq_true, beq_iff_eq]
  constructor
  · rintro ⟨h1, h2⟩
    obtain ⟨q1, e1⟩ := Array.getElem?_eq_some_iff.1 h1
    obtain ⟨q2, e2⟩ := Array.getElem?_eq_some_iff.1 h2
    exact ⟨q2, e1, e2⟩
  · rintro ⟨h, e1, e2⟩
    exact ⟨Array.getElem?_eq_some_iff.2 ⟨Nat.lt_of_succ_lt h, e1⟩, Array.getElem?_eq_some_iff.2 ⟨h, e2⟩⟩
theorem fnd2_hit {c : UInt8} {s : ByteArray} (h : fnd2 c s < s.size) : hit2 c s (fnd2 c s) = true := by
  have := List.findIdx_getElem (p := hit2 c s) (xs := List.range s.size) (w := by show fnd2 c s < _; simpa using h)
  simpa [fnd2] using this
theorem fnd2_no {c : UInt8} {s : ByteArray} {i : Nat} (h : i < fnd2 c s) : hit2 c s i = false := by
  have h0 := fnd2_le c s
  have := List.not_of_lt_findIdx (p := hit2 c s) (xs := List.range s.size) (i := i) h
  simpa using this
theorem fnd2_eq {c : UInt8} {s : ByteArray} {k : Nat} (hk : k ≤ fnd2 c s) (h : hit2 c s k = true) : fnd2 c s = k := by
  refine Nat.le_antisymm (Nat.le_of_not_lt fun hl => ?_) hk
  rw [fnd2_no hl] at h; cases h
theorem fnd2_ne {c : UInt8} {s : ByteArray} {k : Nat} (hk : k ≤ fnd2 c s) (hlt : k < s.size) (h : hit2 c s k = false) : k + 1 ≤ fnd2 c s := by
  rcases Nat.lt_or_ge k (fnd2 c s) with hl | hg
  · exact hl
  · exfalso
    have he : fnd2 c s = k := Nat.le_antisymm hg hk
    have := fnd2_hit (c := c) (s := s) (by omega)
    rw [he, h] at this; cases this
theorem fnd2_end {c : UInt8} {s : ByteArray} {k : Nat} (hk : k ≤ fnd2 c s) (h : s.size < k + 2) : fnd2 c s = s.size := by
  have h0 := fnd2_le c s
  rcases Nat.lt_or_ge (fnd2 c s) s.size with hl | hg
  · obtain ⟨q, _⟩ := (hit2_iff _ _ _).1 (fnd2_hit hl)
    omega
  · omega
theorem two_bytes (s : ByteArray) (k : Nat) (hlt : k + 1 < s.size) : s.extract k (k + 2) = ⟨#[s[k], s[k + 1]]⟩ := by
  have h1 := one_byte s k (by omega)
  have h2 := one_byte s (k + 1) hlt
  have : s.extract k (k + 2) = s.extract k (k + 1) ++ s.extract (k + 1) (k + 2) := by
    apply ByteArray.ext
    simp only [ByteArray.data_append, ByteArray.data_extract]
    rw [Array.extract_append_extract, show min k (k + 1) = k by omega, show max (k + 1) (k + 2) = k + 2 by omega]
  rw [this, h1, h2]; rfl
def RetC2 (w : World) (c : UInt8) (s : ByteArray) (e : Ending) (w' : World) : Prop :=
  (if fnd2 c s < s.size then e = .returned (.tuple #[.string (s.extract 0 (fnd2 c s)), .string (s.extract (fnd2 c s + 2) s.size), .bool true]) else e = .returned (.tuple #[.string s, .string ⟨#[]⟩, .bool false])) ∧ ∃ n, w' = w.drewN n
theorem RetC2.yes {w w' : World} {c : UInt8} {s : ByteArray} {k : Nat} (h : fnd2 c s = k) (hk : k < s.size) (hw : ∃ n, w' = w.drewN n) : RetC2 w c s (.returned (.tuple #[.string (s.extract 0 k), .string (s.extract (k + 2) s.size), .bool true])) w' := by
  subst h; exact ⟨by rw [if_pos hk], hw⟩
theorem RetC2.no {w w' : World} {c : UInt8} {s : ByteArray} (h : fnd2 c s = s.size) (hw : ∃ n, w' = w.drewN n) : RetC2 w c s (.returned (.tuple #[.string s, .string ⟨#[]⟩, .bool false])) w' :=
  ⟨by rw [if_neg (by omega)], hw⟩

set_option maxRecDepth 100000 in
set_option maxHeartbeats 1000000 in
theorem cut2_any (s : ByteArray) (c : UInt8) (w : World) (hs : s.size ≤ 1073741824) : Calls Tryd.prog 60 #[.string s, .string ⟨#[c, c]⟩] w (RetC2 w c s) := by
  have h1 : (⟨#[c, c]⟩ : ByteArray).size = 2 := rfl
  go_enter Tryd.func60, Tryd.ntmps60
  go_wp2_with fail
  go_loop [7] (fun i => ∃ k : Nat, k ≤ fnd2 c s ∧ i = .int .i64 k) (fun i => s.size - (intOf i).toNat)
  case atStart => exact ⟨0, Nat.zero_le _, rfl⟩
  case round =>
    obtain ⟨k, hk, rfl⟩ := hrel
    have hfl := fnd2_le c s
    by_cases hlt : k + 1 < s.size
    · have hsl := two_bytes s k hlt
      have hle : (k : Int) + 2 ≤ (s.size : Int) := by omega
      cases he : hit2 c s k with
      | true =>
        have hf := Lib.hid (fnd2_eq hk he)
        obtain ⟨_, e1, e2⟩ := (hit2_iff _ _ _).1 he
        rw [e1, e2] at hsl
        clear he e1 e2
        go_wp2_with fail
        go_quiet (fail)
        go_wp2_with fail
        go_ret3
        exact RetC2.yes hf.out (by omega) ⟨_, rfl⟩
      | false =>
        have hf := Lib.hid (fnd2_ne hk (by omega) he)
        have hb : ((⟨#[s[k], s[k + 1]]⟩ : ByteArray).toList == [c, c]) = false := by
          rw [beq_eq_false_iff_ne]
          intro h
          rw [ByteArray.toList_eq] at h
          simp only [List.cons.injEq, and_true] at h
          rw [(hit2_iff c s k).2 ⟨hlt, h.1, h.2⟩] at he
          cases he
        generalize (⟨#[s[k], s[k + 1]]⟩ : ByteArray) = o at *
        clear he
        go_wp2_with fail
        go_round
        case rel => exact ⟨k + 1, hf.out, by go_num⟩
        case measure => simp [intOf]; omega
    · have hf := Lib.hid (fnd2_end hk (by omega))
      have hle : ¬ (k : Int) + 2 ≤ (s.size : Int) := by omega
      go_wp2_with fail
      go_ret3
      exact RetC2.no hf.out ⟨0, rfl⟩

theorem linesB_nil (c : UInt8) (s : ByteArray) (h : s.size = 0) : linesB c s = some [] := by
  have hs : s = ⟨#[]⟩ := by
    obtain ⟨⟨l⟩⟩ := s
    have : l = [] := List.eq_nil_of_length_eq_zero h
    rw [this]
  have := fnd_le c s
  unfold linesB
  rw [splitB_no (by omega), hs]
  rfl
theorem linesB_yes {c : UInt8} {s : ByteArray} (h : fnd c s < s.size) : linesB c s = (linesB c (s.extract (fnd c s + 1) s.size)).map (s.extract 0 (fnd c s) :: ·) := by
  have hne := splitB_ne c (s.extract (fnd c s + 1) s.size)
  unfold linesB
  rw [splitB_yes h]
  generalize splitB c (s.extract (fnd c s + 1) s.size) = L at *
  obtain ⟨x, l, rfl⟩ := List.exists_cons_of_ne_nil hne
  rw [List.dropLast_cons_of_ne_nil (by simp), List.getLast?_cons_cons]
  split <;> rfl
theorem linesB_no {c : UInt8} {s : ByteArray} (h : s.size ≤ fnd c s) (h0 : s.size ≠ 0) : linesB c s = none := by
  unfold linesB
  rw [splitB_no h, if_neg]
  intro e
  have h1 : s = ⟨#[]⟩ := Option.some.inj e
  rw [h1] at h0
  exact h0 rfl
end Go.Proofs.YtiddhelabmaghaaDoor
/- Texts, read, part 2: textLines (program). -/
namespace Go.Proofs.YtiddhelabmaghaaDoor
open Go.RowKit Go.Joins

theorem linesB_le {c : UInt8} {s : ByteArray} {l : List ByteArray} (h : linesB c s = some l) : l.length ≤ s.size := by
  have := splitB_len c s.size s (Nat.le_refl _)
  unfold linesB at h
  split at h
  · rw [← Option.some.inj h, List.length_dropLast]; omega
  · cases h
theorem splitB_mem (c : UInt8) : ∀ (n : Nat) (s : ByteArray), s.size ≤ n → ∀ z ∈ splitB c s, z.size ≤ s.size := by
  intro n
  induction n with
  | zero =>
    intro s h z hz
    have := fnd_le c s
    rw [splitB_no (by omega)] at hz
    rw [List.mem_singleton.1 hz]; exact Nat.le_refl _
  | succ n ih =>
    intro s h z hz
    rcases Nat.lt_or_ge (fnd c s) s.size with h1 | h1
    · rw [splitB_yes h1] at hz
      rcases List.mem_cons.1 hz with rfl | hz
      · rw [ByteArray.size_extract]; omega
      · have hs := tail_sizeS s (fnd c s + 1)
        have := ih _ (by omega) z hz
        omega
    · rw [splitB_no h1] at hz
      rw [List.mem_singleton.1 hz]; exact Nat.le_refl _
theorem linesB_mem {c : UInt8} {s : ByteArray} {l : List ByteArray} (h : linesB c s = some l) : ∀ z ∈ l, z.size ≤ s.size := by
  unfold linesB at h
  split at h
  · intro z hz
    rw [← Option.some.inj h] at hz
    exact splitB_mem c s.size s (Nat.le_refl _) z ((List.dropLast_subset _) hz)
  · cases h
def RetTl (w : World) (r : Option (List ByteArray)) (e : Ending) (w' : World) : Prop :=
  ∃ v, e = .returned (.tuple #[v, .bool r.isSome]) ∧ (∀ l, r = some l → w'.ownsRow w.heap.size 9 1 v l.length (l.map Value.string)) ∧ Below w.heap.size w w'
theorem RetTl.none {w w' : World} {r : Option (List ByteArray)} {v : Value} (h : r = none) (hb : Below w.heap.size w w') : RetTl w r (.returned (.tuple #[v, .bool false])) w' := by
  subst h; exact ⟨v, rfl, (fun l h => by cases h), hb⟩
theorem RetTl.some {w w' : World} {r : Option (List ByteArray)} {v : Value} {l : List ByteArray} (h : r = some l) (ho : w'.ownsRow w.heap.size 9 1 v l.length (l.map Value.string)) (hb : Below w.heap.size w w') : RetTl w r (.returned (.tuple #[v, .bool true])) w' := by
  subst h; exact ⟨v, rfl, (fun l' h' => by rw [← Option.some.inj h']; exact ho), hb⟩

set_option maxRecDepth 100000 in
set_option maxHeartbeats 1600000 in
theorem textLines_any (s : ByteArray) (w : World) (hs : s.size ≤ 1073741824) : Calls Tryd.prog 58 #[.string s] w (RetTl w (linesB 10 s)) := by
  have hle := Lib.hid (fun l h => linesB_le (c := 10) (s := s) (l := l) h)
  have hb0 := Lib.hid ((Below.refl w.heap.size w).alloc (Nat.le_refl _) (.cells #[] 9))
  have ho0 := Lib.hid (World.ownsRow_made (base := w.heap.size) (e := 9) (size := 1) w #[] 0 (Nat.le_refl _) (by simp [maxLen]) rfl)
  have Hmap := Lib.hid (show linesB 10 s = (linesB 10 s).map (([] : List ByteArray) ++ ·) by cases linesB 10 s <;> rfl)
  go_enter Tryd.func58, Tryd.ntmps58
  go_wp2_with fail
  go_loopw [0, 4] (fun l o wr => ∃ (ln : ByteArray) (out : List ByteArray), l = .string ln ∧ ln.size ≤ s.size ∧ out.length + ln.size ≤ s.size ∧ linesB 10 s = (linesB 10 ln).map (out ++ ·) ∧ wr.ownsRow w.heap.size 9 1 o out.length (out.map Value.string) ∧ Below w.heap.size w wr) (fun l _ _ => szV l)
  case atStart => exact ⟨s, [], rfl, Nat.le_refl _, by simp, Hmap.out, ho0.out, hb0.out⟩
  case round =>
    obtain ⟨ln, out, rfl, hz, hol, hsp, hown, hbl⟩ := hrel
    have HC := Lib.hid (fun wx => cut_any ln 10 wx (by omega))
    have hfl := fnd_le 10 ln
    have Hsp := Lib.hid hsp; clear hsp Hmap
    have Hown := Lib.hid hown
    have Hbl := Lib.hid hbl
    clear hown
    by_cases h0 : ln.size = 0
    · have hn := ne_none h0
      have hfin := Lib.hid (show linesB 10 s = some out by rw [Hsp.out, linesB_nil 10 ln h0]; simp)
      clear HC
      go_wp2_with fail
      go_ret2
      exact RetTl.some hfin.out Hown.out hbl
    · have hn := ne_some (s := ln) (by omega)
      by_cases hf : fnd 10 ln < ln.size
      · rw [decide_eq_true hf] at HC
        have hy := linesB_yes (c := 10) (s := ln) hf
        have Hz := Lib.hid (tail_sizeS ln (fnd 10 ln + 1))
        generalize fnd 10 ln = k at *
        generalize ln.extract 0 k = x at *
        generalize ln.extract (k + 1) ln.size = y at *
        have Hy := Lib.hid hy; clear hy
        go_wp2_with fail
        refine (HC.out _).mono ?_; rintro e w5 ⟨rfl, n5, hw5⟩
        have hb5 : Below w.heap.size w w5 := by rw [hw5]; exact below_drewN Hbl.out n5
        have ho5 := Hown.out.drewN n5
        rw [← hw5] at ho5
        have Hb5 := Lib.hid hb5
        have Ho5 := Lib.hid ho5
        have hz5 := hb5.size
        clear hw5 hb5 ho5 Hown Hbl HC hbl
        go_wp2_with (at_builtin; refine wpList_apd 37 9 _ 1 16 Tryd.underlying37 infoStr rfl (by omega) _ _ rfl rfl w.heap.size _ out.length _ rfl Ho5.out #[.string x] 1 1 rfl rfl (by simp [Value.oneCell']) (by simp [maxLen]; omega) (by omega) hz5 ?_; intro v7 w7 hown7 hg7; have Hb7 := Lib.hid (below_apd Hb5.out Ho5.out hg7 (Nat.le_refl _) hz5); have Ho7 := Lib.hid (own_snoc hown7); clear hown7 hg7)
        go_roundw
        case rel => exact ⟨y, out ++ [x], rfl, by have := Hz.out; omega, by rw [List.length_append]; simp; have := Hz.out; omega, by rw [Hsp.out, Hy.out, Option.map_map]; congr 1; funext l; simp, Ho7.out, Hb7.out⟩
        case measure => simp [szV]; have := Hz.out; omega
      · rw [decide_eq_false hf] at HC
        have hfin := Lib.hid (show linesB 10 s = none by rw [Hsp.out, linesB_no (by omega) h0]; rfl)
        have hb5 := Lib.hid (fun n => below_drewN Hbl.out n)
        go_wp2_with fail
        refine (HC.out _).mono ?_; rintro e w5 ⟨rfl, n5, rfl⟩
        go_wp2_with fail
        go_ret2
        exact RetTl.none hfin.out (hb5.out _)
end Go.Proofs.YtiddhelabmaghaaDoor
/- Numbers read from texts, part 5: what a text that is a number cannot hold. -/
namespace Go.Proofs.YtiddhelabmaghaaDoor

theorem readN_dec {r : ByteArray} {a : Int} (h : readN r = some a) : decS a = r := by
  unfold readN at h
  split at h
  · cases h
  · split at h
    · split at h
      · rename_i he
        rw [← Option.some.inj h]; exact he
      · cases h
    · cases h
theorem readN_none_of {r : ByteArray} (k : Nat) (hk : k < r.size) (h1 : isDg r[k] = false) (h2 : r[k] ≠ 45) : readN r = none := by
  by_cases hh : r.data.toList.head? = some 45
  · obtain ⟨h0, he⟩ := head_sizeN hh
    have hT : bodyN r = r.extract 1 r.size := by unfold bodyN; rw [if_pos hh]
    have hk0 : k ≠ 0 := by
      intro e; subst e; exact h2 he
    have hz : (bodyN r).size = r.size - 1 := by rw [hT, ByteArray.size_extract]; omega
    refine readN_bad (k - 1) (by omega) ?_
    have : (bodyN r)[k - 1]'(by omega) = r[k] := by
      simp only [hT]
      rw [ByteArray.getElem_extract]
      simp only [show 1 + (k - 1) = k by omega]
    rw [this]; exact h1
  · have hT : bodyN r = r := by unfold bodyN; rw [if_neg hh]
    refine readN_bad k (by rw [hT]; exact hk) ?_
    simp only [hT]; exact h1
theorem fnd_at (c : UInt8) (s : ByteArray) (h : fnd c s < s.size) : s[fnd c s] = c := by
  have := List.findIdx_getElem (p := (· == c)) (xs := s.data.toList) (w := by show fnd c s < s.data.toList.length; simpa using h)
  have hh : s.data.toList[fnd c s]'(by simpa using h) = c := by simpa [fnd] using this
  exact hh
end Go.Proofs.YtiddhelabmaghaaDoor
/- Texts, read: plain laws and rows of texts of the call's own (moved out of Ld4 .. Ld7). -/
namespace Go.Proofs.YtiddhelabmaghaaDoor
open Go.RowKit Go.Joins

theorem cut_back (s : ByteArray) (k : Nat) (hk : k < s.size) : s.extract 0 k ++ ⟨#[s[k]]⟩ ++ s.extract (k + 1) s.size = s := by
  have h1 := one_byte s k hk
  rw [← h1]
  apply ByteArray.ext
  simp only [ByteArray.data_append, ByteArray.data_extract]
  rw [Array.extract_append_extract, show min 0 k = 0 by omega, show max k (k + 1) = k + 1 by omega, Array.extract_append_extract, show min 0 (k + 1) = 0 by omega, show max (k + 1) s.size = s.size by omega]
  exact Array.extract_size
theorem splitB_one {c : UInt8} {s x : ByteArray} (h : splitB c s = [x]) : s = x := by
  rcases Nat.lt_or_ge (fnd c s) s.size with h1 | h1
  · rw [splitB_yes h1] at h
    injection h with _ h2
    exact absurd h2 (splitB_ne _ _)
  · rw [splitB_no h1] at h
    injection h
theorem splitB_cons {c : UInt8} {s x y : ByteArray} {l : List ByteArray} (h : splitB c s = x :: y :: l) : ∃ r, s = x ++ ⟨#[c]⟩ ++ r ∧ splitB c r = y :: l := by
  rcases Nat.lt_or_ge (fnd c s) s.size with h1 | h1
  · rw [splitB_yes h1] at h
    injection h with h2 h3
    refine ⟨_, ?_, h3⟩
    rw [← h2]
    have := cut_back s (fnd c s) h1
    rw [fnd_at c s h1] at this
    exact this.symm
  · rw [splitB_no h1] at h
    injection h with _ h2
    cases h2
/-- the text of lines -/
def textB (c : UInt8) (l : List ByteArray) : ByteArray := ⟨(l.flatMap fun x => x.data.toList ++ [c]).toArray⟩
theorem textB_cons (c : UInt8) (x : ByteArray) (l : List ByteArray) : textB c (x :: l) = x ++ ⟨#[c]⟩ ++ textB c l := by
  unfold textB
  refine ba_inj ?_
  rw [ByteArray.toList_eq, ByteArray.toList_eq]
  simp
theorem linesB_text (c : UInt8) : ∀ (n : Nat) (s : ByteArray), s.size ≤ n → ∀ l, linesB c s = some l → textB c l = s := by
  intro n
  induction n with
  | zero =>
    intro s h l hl
    rw [linesB_nil c s (by omega)] at hl
    rw [← Option.some.inj hl]
    obtain ⟨⟨d⟩⟩ := s
    have : d = [] := List.eq_nil_of_length_eq_zero (Nat.le_zero.1 h)
    subst this; rfl
  | succ n ih =>
    intro s h l hl
    rcases Nat.lt_or_ge (fnd c s) s.size with h1 | h1
    · rw [linesB_yes h1] at hl
      have hz := tail_sizeS s (fnd c s + 1)
      cases hq : linesB c (s.extract (fnd c s + 1) s.size) with
      | none => rw [hq] at hl; cases hl
      | some m =>
        rw [hq] at hl
        rw [← Option.some.inj hl, textB_cons, ih _ (by omega) m hq]
        have := cut_back s (fnd c s) h1
        rw [fnd_at c s h1] at this
        exact this
    · by_cases h0 : s.size = 0
      · exact ih s (by omega) l hl
      · rw [linesB_no h1 h0] at hl; cases hl
theorem sl_of_own {w : World} {base n size : Nat} {e : TypeId} {v : Value} {cs : List Value} (h : w.ownsRow base e size v n cs) : ∃ A c, v = .slice A n c := by
  obtain ⟨_, A, c, hv, _⟩ := Rd.of_own h
  exact ⟨A, c, hv⟩
/-- a row of texts of the call's own -/
theorem own_strs {w : World} {base : Nat} {v : Value} {L : List ByteArray} (h : w.ownsRow base 9 1 v L.length (L.map Value.string)) (hn : 0 < L.length) :
    ∃ g c, v = .slice (some ⟨g, 0, none⟩) L.length c ∧ L.length ≤ c ∧ c ≤ maxLen ∧ g < w.heap.size ∧ ∀ i (hi : i < L.length), w.cell? ⟨g, i, none⟩ = some (.string L[i]) := by
  rcases h.2 with ⟨_, h0⟩ | ⟨g, cap, _, hv, _, _, h1, h2, _⟩
  · omega
  · have hlt := (h.lt g (by rw [hv]; rfl)).2
    subst hv
    refine ⟨g, cap, rfl, h1, h2, hlt, fun i hi => ?_⟩
    have hc := h.cells (g := g) rfl i (.string L[i]) (by rw [List.getElem?_map, List.getElem?_eq_getElem hi]; rfl)
    have e0 : (⟨g, 0, none⟩ : Addr).add i = ⟨g, i, none⟩ := by unfold Addr.add; split <;> simp_all
    rwa [e0] at hc
theorem lines_last {s : ByteArray} : ∃ x, (splitB 10 s).getLast? = some x ∧ ((x.size ≠ 0 ∧ linesB 10 s = none) ∨ (x.size = 0 ∧ linesB 10 s = some (splitB 10 s).dropLast)) := by
  have hne := splitB_ne 10 s
  unfold linesB
  generalize splitB 10 s = L at *
  refine ⟨L.getLast hne, List.getLast?_eq_some_getLast hne, ?_⟩
  rw [List.getLast?_eq_some_getLast hne]
  generalize L.getLast hne = x
  by_cases h : x.size = 0
  · refine .inr ⟨h, ?_⟩
    have : x = ⟨#[]⟩ := by
      obtain ⟨⟨l⟩⟩ := x
      have : l = [] := List.eq_nil_of_length_eq_zero h
      rw [this]
    rw [this, if_pos rfl]
  · refine .inl ⟨h, ?_⟩
    rw [if_neg]
    intro e
    have := Option.some.inj e
    rw [this] at h
    exact h rfl
theorem drop_get {L : List ByteArray} {k : Nat} (h : k < L.dropLast.length) : L.dropLast[k] = L[k]'(by rw [List.length_dropLast] at h; omega) := by
  rw [List.getElem_dropLast]
theorem own_cap {w : World} {base n size m c : Nat} {e : TypeId} {A : Option Addr} {cs : List Value} (h : w.ownsRow base e size (.slice A m c) n cs) : m ≤ c ∧ c ≤ maxLen := by
  rcases h.2 with ⟨h0, _⟩ | ⟨g, cap, _, hv, _, _, h1, h2, _⟩
  · injection h0 with _ h1 h2
    subst h1 h2
    exact ⟨Nat.le_refl _, Nat.zero_le _⟩
  · injection hv with _ h3 h4
    subst h3 h4
    exact ⟨h1, h2⟩
/-- a row of texts of the call's own, empty perhaps -/
theorem own_strs0 {w : World} {base : Nat} {v : Value} {L : List ByteArray} (h : w.ownsRow base 9 1 v L.length (L.map Value.string)) :
    ∃ A c g, v = .slice A L.length c ∧ (0 < L.length → A = some ⟨g, 0, none⟩ ∧ g < w.heap.size) ∧ ∀ i (hi : i < L.length), w.cell? ⟨g, i, none⟩ = some (.string L[i]) := by
  by_cases h0 : 0 < L.length
  · obtain ⟨g, c, hv, _, _, hlt, hc⟩ := own_strs h h0
    exact ⟨_, c, g, hv, (fun _ => ⟨rfl, hlt⟩), hc⟩
  · obtain ⟨A, c, hv⟩ := sl_of_own h
    exact ⟨A, c, 0, hv, (fun h => absurd h h0), fun i hi => absurd hi (by omega)⟩
theorem splitB_one' {c : UInt8} {s x : ByteArray} (h : splitB c s = [x]) : s = x := by
  rcases Nat.lt_or_ge (fnd c s) s.size with h1 | h1
  · rw [splitB_yes h1] at h
    injection h with _ h2
    exact absurd h2 (splitB_ne _ _)
  · rw [splitB_no h1] at h
    injection h
end Go.Proofs.YtiddhelabmaghaaDoor
/- Loans, part 1: how lists of loans lie; one loan's size and copy. -/
namespace Go.Proofs.YtiddhelabmaghaaDoor
open Go.RowKit Go.Joins

structure Ln where
  what : ByteArray
  who : ByteArray
  from_ : Int
  till : Int
deriving DecidableEq
def cellsL (x : Ln) : List Value := [.string x.what, .string x.who, .int .i64 x.from_, .int .i64 x.till]
abbrev aggL (x : Ln) : Value := .agg #[.string x.what, .string x.who, .int .i64 x.from_, .int .i64 x.till]
/-- the reading of a list of loans -/
def RdL (w : World) (B : Nat) (v : Value) (xs : List Ln) : Prop := Rd w B v xs.length 4 (xs.flatMap cellsL)
theorem RdL.below {w w' : World} {B : Nat} {v : Value} {xs : List Ln} (h : RdL w B v xs) (hb : Below B w w') : RdL w' B v xs := Rd.below h hb
theorem RdL.more {w : World} {B B' : Nat} {v : Value} {xs : List Ln} (h : RdL w B v xs) (hB : B ≤ B') : RdL w B' v xs := Rd.more h hB
theorem RdL.next {w w' : World} {v : Value} {xs : List Ln} (h : RdL w w.heap.size v xs) (hb : Below w.heap.size w w') : RdL w' w'.heap.size v xs := (h.below hb).more hb.size
theorem RdL.drewN {w : World} {B : Nat} {v : Value} {xs : List Ln} (h : RdL w B v xs) (n : Nat) : RdL (w.drewN n) B v xs := h
theorem RdL.slice {w : World} {B : Nat} {v : Value} {xs : List Ln} (h : RdL w B v xs) : ∃ A c, v = .slice A xs.length c := by
  obtain ⟨_, A, c, h2, _⟩ := h
  exact ⟨A, c, h2⟩
/-- the four cells of a loan -/
structure LnAt (w : World) (B b o : Nat) (x : Ln) : Prop where
  lt : b < B
  c0 : w.cell? ⟨b, o, none⟩ = some (.string x.what)
  c1 : w.cell? ⟨b, o + 1, none⟩ = some (.string x.who)
  c2 : w.cell? ⟨b, o + 2, none⟩ = some (.int .i64 x.from_)
  c3 : w.cell? ⟨b, o + 3, none⟩ = some (.int .i64 x.till)
theorem LnAt.below {w w' : World} {B b o : Nat} {x : Ln} (h : LnAt w B b o x) (hb : Below B w w') : LnAt w' B b o x :=
  ⟨h.lt, (hb.cell (p := ⟨b, o, none⟩) h.lt).trans h.c0, (hb.cell (p := ⟨b, o + 1, none⟩) h.lt).trans h.c1, (hb.cell (p := ⟨b, o + 2, none⟩) h.lt).trans h.c2, (hb.cell (p := ⟨b, o + 3, none⟩) h.lt).trans h.c3⟩
theorem LnAt.drewN {w : World} {B b o : Nat} {x : Ln} (h : LnAt w B b o x) (n : Nat) : LnAt (w.drewN n) B b o x := ⟨h.1, h.2, h.3, h.4, h.5⟩
theorem RdL.at {w : World} {B n c : Nat} {A : Option Addr} {xs : List Ln} (h : RdL w B (.slice A n c) xs) (k : Nat) (hk : k < xs.length) :
    ∃ b off, A = some ⟨b, off, none⟩ ∧ LnAt w B b (off + k * 4) xs[k] := by
  obtain ⟨_, A0, c0, hv, hc⟩ := h
  injection hv with e1 e2 e3
  subst e1
  obtain ⟨b, off, hA, hb, hcc⟩ := hc (by omega)
  have hat : ∀ j u, j < 4 → (cellsL xs[k])[j]? = some u → w.cell? ⟨b, off + k * 4 + j, none⟩ = some u := fun j u hj hu => by
    have := hcc (k * 4 + j) u ((flat_at cellsL 4 (fun _ => rfl) xs k j hk hj).trans hu)
    rwa [← Nat.add_assoc] at this
  exact ⟨b, off, hA, ⟨hb, hat 0 _ (by omega) rfl, hat 1 _ (by omega) rfl, hat 2 _ (by omega) rfl, hat 3 _ (by omega) rfl⟩⟩
theorem infoL : (Tryd.prog.info? 53).map (fun i => (i.zero, i.size, i.bytes)) = some (some (.agg #[.string ⟨#[]⟩, .string ⟨#[]⟩, .int .i64 0, .int .i64 0]), 4, 48) := by kernel_rfl

def lenL (x : Ln) : Prop := x.what.size ≤ maxLen ∧ x.who.size ≤ maxLen
def smL (x : Ln) : Prop := x.what.size ≤ 1048576 ∧ x.who.size ≤ 1048576
def SzL (x : Ln) (left : Int) (w : World) (e : Ending) (w' : World) : Prop := ∃ r : Int, e = .returned (.int .i64 r) ∧ r ≤ left ∧ (0 ≤ r → smL x) ∧ Below w.heap.size w w'
end Go.Proofs.YtiddhelabmaghaaDoor
/- Loans, part 2: sizes of lists, one loan's copy and equality. -/
namespace Go.Proofs.YtiddhelabmaghaaDoor
open Go.RowKit Go.Joins

theorem eqLoan_same (x : Ln) (w : World) :
    Calls Tryd.prog 62 #[aggL x, aggL x] w fun e w' => e = .returned (.bool true) ∧ Below w.heap.size w w' := by
  obtain ⟨a, b, f, t⟩ := x
  have hb := fun o1 o2 => Lib.hid (((Below.refl w.heap.size w).alloc (Nat.le_refl _) o1).alloc (by simp) o2)
  go_enter Tryd.func62, Tryd.ntmps62
  go_wp2_with fail
  go_ret
  exact ⟨rfl, (hb _ _).out⟩

def SzLs (xs : List Ln) (left : Int) (w : World) (e : Ending) (w' : World) : Prop := ∃ r : Int, e = .returned (.int .i64 r) ∧ r ≤ left ∧ (0 ≤ r → xs.length ≤ 1048576 ∧ ∀ x ∈ xs, smL x) ∧ Below w.heap.size w w'
end Go.Proofs.YtiddhelabmaghaaDoor
/- Loans, part 3: lists of loans copied and compared. -/
namespace Go.Proofs.YtiddhelabmaghaaDoor
open Go.RowKit Go.Joins

theorem set4 (l r : List Value) (n : Nat) (hn : l.length = n) (hr : 4 ≤ r.length) (a b c d : Value) :
    ((((l ++ r).set n a).set (n + 1) b).set (n + 2) c).set (n + 3) d = (l ++ [a, b, c, d]) ++ r.drop 4 := by
  subst hn
  match r, hr with
  | x0 :: x1 :: x2 :: x3 :: r, _ =>
    rw [List.set_append_right _ _ (Nat.le_refl _), List.set_append_right _ _ (by omega), List.set_append_right _ _ (by omega), List.set_append_right _ _ (by omega)]
    simp

end Go.Proofs.YtiddhelabmaghaaDoor
/- Loans, part 4: lists of loans compared. -/
namespace Go.Proofs.YtiddhelabmaghaaDoor
open Go.RowKit Go.Joins

def EightC (w : World) (b1 o1 b2 o2 : Nat) (a b : ByteArray) (f t : Int) : Prop :=
  w.cell? ⟨b1, o1, none⟩ = some (.string a) ∧ w.cell? ⟨b1, o1 + 1, none⟩ = some (.string b) ∧ w.cell? ⟨b1, o1 + 2, none⟩ = some (.int .i64 f) ∧ w.cell? ⟨b1, o1 + 3, none⟩ = some (.int .i64 t) ∧ w.cell? ⟨b2, o2, none⟩ = some (.string a) ∧ w.cell? ⟨b2, o2 + 1, none⟩ = some (.string b) ∧ w.cell? ⟨b2, o2 + 2, none⟩ = some (.int .i64 f) ∧ w.cell? ⟨b2, o2 + 3, none⟩ = some (.int .i64 t)
theorem eight_cells {W w1 : World} {b1 o1 b2 o2 : Nat} {a b : ByteArray} {f t : Int} (hb : Below W.heap.size W w1) (h : EightC W b1 o1 b2 o2 a b f t) : EightC w1 b1 o1 b2 o2 a b f t :=
  have k {p : Addr} {v : Value} (h : W.cell? p = some v) : w1.cell? p = some v := (hb.cell (World.block_lt_of_cell? W _ h)).trans h
  ⟨k h.1, k h.2.1, k h.2.2.1, k h.2.2.2.1, k h.2.2.2.2.1, k h.2.2.2.2.2.1, k h.2.2.2.2.2.2.1, k h.2.2.2.2.2.2.2⟩

set_option maxRecDepth 100000 in
set_option maxHeartbeats 1600000 in
theorem eqLoanS_same (B1 B2 : Nat) (v1 v2 : Value) (xs : List Ln) (w : World) (h1 : RdL w B1 v1 xs) (h2 : RdL w B2 v2 xs) (hB1 : B1 ≤ w.heap.size) (hB2 : B2 ≤ w.heap.size) (hz : xs.length ≤ 4611686018427387904) :
    Calls Tryd.prog 9 #[v1, v2] w fun e w' => e = .returned (.bool true) ∧ Below w.heap.size w w' := by
  have H1 := Lib.hid h1
  have H2 := Lib.hid h2
  obtain ⟨A1, c1, rfl⟩ := h1.slice
  obtain ⟨A2, c2, rfl⟩ := h2.slice
  clear h1 h2
  have hb0 := Below.refl w.heap.size w
  go_enter Tryd.func9, Tryd.ntmps9
  go_wp2_with fail
  go_loopw [5] (fun i wr => ∃ k : Nat, k ≤ xs.length ∧ i = .int .i64 k ∧ Below w.heap.size w wr) (fun i _ => xs.length - (intOf i).toNat)
  case atStart => exact ⟨0, Nat.zero_le _, rfl, hb0⟩
  case round =>
    obtain ⟨k, hk, rfl, hbl⟩ := hrel
    by_cases hlt : k < xs.length
    · obtain ⟨b1, o1, hA1, hE1⟩ := (H1.out.below (hbl.mono hB1)).at k hlt
      obtain ⟨b2, o2, hA2, hE2⟩ := (H2.out.below (hbl.mono hB2)).at k hlt
      subst hA1 hA2
      generalize xs[k] = x at *
      have HQ := Lib.hid (fun wx => eqLoan_same x wx)
      obtain ⟨a, b, f, t⟩ := x
      obtain ⟨_, e0, e1, e2, e3⟩ := hE1
      obtain ⟨_, g0, g1, g2, g3⟩ := hE2
      dsimp only at e0 e1 e2 e3 g0 g1 g2 g3 HQ
      have hlt' : (k : Int) < (xs.length : Int) := by omega
      have hacc : Below w.heap.size w wr.drew := hbl.drew
      clear hbl
      go_wp2_with fail
      go_region_held3 (fun w' => w'.cell? ⟨b1, o1 + k * 4, none⟩ = some (.string a) ∧ w'.cell? ⟨b1, o1 + k * 4 + 1, none⟩ = some (.string b) ∧ w'.cell? ⟨b1, o1 + k * 4 + 2, none⟩ = some (.int .i64 f) ∧ w'.cell? ⟨b1, o1 + k * 4 + 3, none⟩ = some (.int .i64 t) ∧ w'.cell? ⟨b2, o2 + k * 4, none⟩ = some (.string a) ∧ w'.cell? ⟨b2, o2 + k * 4 + 1, none⟩ = some (.string b) ∧ w'.cell? ⟨b2, o2 + k * 4 + 2, none⟩ = some (.int .i64 f) ∧ w'.cell? ⟨b2, o2 + k * 4 + 3, none⟩ = some (.int .i64 t))
        (first | go_keep | assumption)
        ((go_at_call 62; refine (HQ.out _).mono ?_; rintro e wq ⟨rfl, hbq⟩; have hSq := eight_cells (b1 := b1) (o1 := o1 + k * 4) (b2 := b2) (o2 := o2 + k * 4) (a := a) (b := b) (f := f) (t := t) hbq (by assumption); have hacc' := hacc.trans (hbq.mono hacc.size); clear hacc; have hacc := hacc'; clear hacc'; unfold EightC at hSq))
      go_wp2_with fail
      go_roundw
      case rel => exact ⟨k + 1, by omega, by go_num, hacc⟩
      case measure => simp [intOf]; omega
    · have hlt' : (xs.length : Int) ≤ (k : Int) := by omega
      go_wp2_with fail
      go_ret
      exact ⟨rfl, hbl⟩
end Go.Proofs.YtiddhelabmaghaaDoor
/- Loans, part 5: the reading of an argument. -/
namespace Go.Proofs.YtiddhelabmaghaaDoor
open Go.ChangeShapes Go.WideShapes Go.ChangeAt Go.RowKit

end Go.Proofs.YtiddhelabmaghaaDoor
/- Loans, part 6: markLoanS. -/
namespace Go.Proofs.YtiddhelabmaghaaDoor
open Go.RowKit Go.Joins

def marksL (k : Int) (n : Nat) : List Ln := (List.range n).map fun (i : Nat) => ⟨markT (k + 4 * (i : Int)), markT (k + 4 * (i : Int) + 1), k + 4 * (i : Int) + 1 + 1, k + 4 * (i : Int) + 1 + 1 + 1⟩
theorem marksL_len (k : Int) (n : Nat) : (marksL k n).length = n := by simp [marksL]
theorem marksL_succ (k : Int) (n : Nat) : (marksL k (n + 1)).flatMap cellsL = (marksL k n).flatMap cellsL ++ [.string (markT (k + 4 * (n : Int))), .string (markT (k + 4 * (n : Int) + 1)), .int .i64 (k + 4 * (n : Int) + 1 + 1), .int .i64 (k + 4 * (n : Int) + 1 + 1 + 1)] := by
  unfold marksL
  rw [List.range_succ, List.map_append, List.flatMap_append]; rfl

set_option maxRecDepth 100000 in
set_option maxHeartbeats 1600000 in
theorem markLoanS_any (base : Nat) (v : Value) (k0 : Int) (n : Nat) (zs : List Value) (w : World) (h : w.ownsRow base 53 4 v n zs) (hk0 : 0 ≤ k0) (hk : k0 + 4 * n ≤ 4611686018427387904) :
    Calls Tryd.prog 10 #[v, .int .i64 k0] w fun e w' => e = .returned (.int .i64 (k0 + 4 * n)) ∧ w.grownBy w' v.ownBlock ∧ w'.ownsRow base 53 4 v n ((marksL k0 n).flatMap cellsL) := by
  have hl : zs.length = n * 4 := by simpa using h.1
  have Hl := Lib.hid hl; clear hl
  rcases ownsRow_forms h with ⟨rfl, rfl⟩ | ⟨g, cap, rfl⟩
  · have hg0 : w.grownBy w (Value.slice none 0 0).ownBlock := ⟨rfl, rfl, rfl, Nat.le_refl _, fun _ _ _ => rfl⟩
    have Ho := Lib.hid (World.ownsRow_nil w base 53 4)
    clear h
    go_enter Tryd.func10, Tryd.ntmps10
    go_wp2_with fail
    go_loop [1, 5] (fun a i => i = .int .i64 0 ∧ a = .int .i64 k0) (fun _ _ => 0)
    case atStart => exact ⟨rfl, rfl⟩
    case round =>
      obtain ⟨rfl, rfl⟩ := hrel
      go_wp2_with fail
      go_ret
      exact ⟨by simp, hg0, by simpa [marksL] using Ho.out⟩
  · have hg0 : w.grownBy w (some g) := ⟨rfl, rfl, rfl, Nat.le_refl _, fun _ _ _ => rfl⟩
    have Hsh := Lib.hid h
    clear h
    go_enter Tryd.func10, Tryd.ntmps10
    go_wp2_with fail
    go_loopw [1, 5] (fun a i wr => ∃ k : Nat, k ≤ n ∧ i = .int .i64 (k : Int) ∧ a = .int .i64 (k0 + 4 * k) ∧ wr.ownsRow base 53 4 (.slice (some ⟨g, 0, none⟩) n cap) n ((marksL k0 k).flatMap cellsL ++ zs.drop (k * 4)) ∧ w.grownBy wr (some g)) (fun _ i _ => n - (intOf i).toNat)
    case atStart => exact ⟨0, Nat.zero_le _, rfl, by simp, by simpa [marksL] using Hsh.out, hg0⟩
    case round =>
      obtain ⟨k, hkn, rfl, rfl, hown, hgr⟩ := hrel
      by_cases hlt : k < n
      · have hlt' : (k : Int) < (n : Int) := by omega
        have hset := Lib.hid (fun a b f t => set4 ((marksL k0 k).flatMap cellsL) (zs.drop (k * 4)) (k * 4) (by rw [flat_len cellsL 4 (fun _ => rfl), marksL_len]) (by rw [List.length_drop, Hl.out]; omega) a b f t)
        have Hs := Lib.hid (marksL_succ k0 k)
        have Hmk := Lib.hid (fun q wx => markText_any q wx)
        have st : ∀ (wx : World) (cs : List Value), wx.ownsRow base 53 4 (.slice (some ⟨g, 0, none⟩) n cap) n cs → ∀ j, j < n * 4 → ∃ u, wx.cell? ⟨g, j, none⟩ = some u ∧ wx.frozen? ⟨g, j, none⟩ = false := fun wx cs hc j hj => by
          obtain ⟨u, hu⟩ : ∃ u, cs[j]? = some u := ⟨_, List.getElem?_eq_getElem (by have := hc.1; omega)⟩
          exact ⟨u, (hc.cellAt j (by omega)).trans hu, hc.frozenAt j⟩
        have St := Lib.hid st; clear st
        generalize hM1 : markT (k0 + 4 * (k : Int)) = M1 at *
        generalize hM2 : markT (k0 + 4 * (k : Int) + 1) = M2 at *
        have HM1 := Lib.hid hM1
        have HM2 := Lib.hid hM2
        clear hM1 hM2
        have Hown := Lib.hid hown; clear hown
        go_wp2_with fail
        refine (Hmk.out _ _ (by omega)).mono ?_; rintro e w2 ⟨rfl, hb2⟩
        rw [HM1.out]
        have ho2 := own_below Hown.out hb2
        obtain ⟨u0, hc0, hf0⟩ := St.out _ _ ho2 (k * 4) (by omega)
        obtain ⟨ho3, hg3⟩ := ho2.stored (k * 4) (.string M1)
        have Ho3 := Lib.hid ho3
        have Hg3 := Lib.hid (grown_trans (grown_trans hgr (grown_of_below hb2 _)) hg3)
        clear ho2 ho3 hg3 hb2 hgr
        go_wp2_with fail
        refine (Hmk.out _ _ (by omega)).mono ?_; rintro e w4 ⟨rfl, hb4⟩
        rw [HM2.out]
        have ho4 := own_below Ho3.out hb4
        obtain ⟨u1, hc1, hf1⟩ := St.out _ _ ho4 (k * 4 + 1) (by omega)
        obtain ⟨u2, hc2, hf2⟩ := St.out _ _ ho4 (k * 4 + 2) (by omega)
        obtain ⟨u3, hc3, hf3⟩ := St.out _ _ ho4 (k * 4 + 3) (by omega)
        obtain ⟨ho5, hg5⟩ := ho4.stored (k * 4 + 1) (.string M2)
        obtain ⟨ho6, hg6⟩ := ho5.stored (k * 4 + 2) (.int .i64 (k0 + 4 * (k : Int) + 1 + 1))
        obtain ⟨ho7, hg7⟩ := ho6.stored (k * 4 + 3) (.int .i64 (k0 + 4 * (k : Int) + 1 + 1 + 1))
        rw [hset.out, ← Hs.out, List.drop_drop, show k * 4 + 4 = (k + 1) * 4 by omega] at ho7
        have Ho7 := Lib.hid ho7
        have Hg7 := Lib.hid (grown_trans (grown_trans (grown_trans (grown_trans Hg3.out (grown_of_below hb4 _)) hg5) hg6) hg7)
        clear ho4 ho5 ho6 ho7 hg5 hg6 hg7 hb4 hc0 hf0
        go_wp2_with fail
        go_roundw
        case rel => exact ⟨k + 1, by omega, by go_num, by first | go_num | (congr 1; omega), Ho7.out, Hg7.out⟩
        case measure => simp [intOf]; omega
      · obtain rfl : k = n := by omega
        rw [List.drop_of_length_le (by rw [Hl.out]; exact Nat.le_refl _), List.append_nil] at hown
        have Hown := Lib.hid hown; clear hown
        go_wp2_with fail
        go_ret
        exact ⟨rfl, hgr, Hown.out⟩
end Go.Proofs.YtiddhelabmaghaaDoor
/- Loans, part 7: heldLoanS. -/
namespace Go.Proofs.YtiddhelabmaghaaDoor
open Go.RowKit Go.Joins

theorem marksL_at (k : Int) (n i : Nat) (h : i < n) : (marksL k n)[i]'(by rw [marksL_len]; exact h) = ⟨markT (k + 4 * (i : Int)), markT (k + 4 * (i : Int) + 1), k + 4 * (i : Int) + 1 + 1, k + 4 * (i : Int) + 1 + 1 + 1⟩ := by simp [marksL]

theorem four_kept {W w1 : World} {a b c d : Addr} {x y z t : Value} (hb : Below W.heap.size W w1) (h : W.cell? a = some x ∧ W.cell? b = some y ∧ W.cell? c = some z ∧ W.cell? d = some t) :
    w1.cell? a = some x ∧ w1.cell? b = some y ∧ w1.cell? c = some z ∧ w1.cell? d = some t :=
  have k {p : Addr} {v : Value} (h : W.cell? p = some v) : w1.cell? p = some v := (hb.cell (World.block_lt_of_cell? W _ h)).trans h
  ⟨k h.1, k h.2.1, k h.2.2.1, k h.2.2.2⟩

set_option maxRecDepth 100000 in
set_option maxHeartbeats 1600000 in
theorem heldLoanS_any (B : Nat) (v : Value) (k0 : Int) (n : Nat) (w : World) (h : RdL w B v (marksL k0 n)) (hB : B ≤ w.heap.size) (hk0 : 0 ≤ k0) (hk : k0 + 4 * n ≤ 4611686018427387904) :
    Calls Tryd.prog 11 #[v, .int .i64 k0] w fun e w' => e = .returned (.int .i64 (k0 + 4 * n)) ∧ Below w.heap.size w w' := by
  have H := Lib.hid h
  obtain ⟨A, c, rfl⟩ := h.slice
  rw [marksL_len] at *
  clear h
  have hb0 := Below.refl w.heap.size w
  go_enter Tryd.func11, Tryd.ntmps11
  go_wp2_with fail
  go_loopw [1, 5] (fun a i wr => ∃ k : Nat, k ≤ n ∧ i = .int .i64 (k : Int) ∧ a = .int .i64 (k0 + 4 * k) ∧ Below w.heap.size w wr) (fun _ i _ => n - (intOf i).toNat)
  case atStart => exact ⟨0, Nat.zero_le _, rfl, by simp, hb0⟩
  case round =>
    obtain ⟨k, hkn, rfl, rfl, hbl⟩ := hrel
    by_cases hlt : k < n
    · obtain ⟨b1, o1, hA, hE⟩ := (H.out.below (hbl.mono hB)).at k (by rw [marksL_len]; exact hlt)
      subst hA
      rw [marksL_at k0 n k hlt] at hE
      obtain ⟨hbB, e0, e1, e2, e3⟩ := hE
      dsimp only at e0 e1 e2 e3
      have hlt' : (k : Int) < (n : Int) := by omega
      have Hm1 := Lib.hid (fun wx => markText_any (k0 + 4 * (k : Int)) wx (by omega))
      have Hm2 := Lib.hid (fun wx => markText_any (k0 + 4 * (k : Int) + 1) wx (by omega))
      generalize markT (k0 + 4 * (k : Int)) = M1 at *
      generalize markT (k0 + 4 * (k : Int) + 1) = M2 at *
      have hacc : Below w.heap.size w wr.drew := hbl.drew
      clear hbl
      go_wp2_with fail
      go_region_held3 (fun w' => w'.cell? ⟨b1, o1 + k * 4, none⟩ = some (.string M1) ∧ w'.cell? ⟨b1, o1 + k * 4 + 1, none⟩ = some (.string M2) ∧ w'.cell? ⟨b1, o1 + k * 4 + 2, none⟩ = some (.int .i64 (k0 + 4 * (k : Int) + 1 + 1)) ∧ w'.cell? ⟨b1, o1 + k * 4 + 3, none⟩ = some (.int .i64 (k0 + 4 * (k : Int) + 1 + 1 + 1)))
        (first | go_keep | assumption)
        ((go_at_call 63; refine (Hm1.out _).mono ?_; rintro e wq ⟨rfl, hbq⟩; have hSq := four_kept hbq (by assumption); have hacc' := hacc.trans (hbq.mono hacc.size); clear hacc; have hacc := hacc'; clear hacc'))
      go_wp2_with fail
      have hacc2 : Below w.heap.size w _ := hacc.drew
      clear hacc
      have hacc := hacc2
      clear hacc2
      go_region_held3 (fun w' => w'.cell? ⟨b1, o1 + k * 4, none⟩ = some (.string M1) ∧ w'.cell? ⟨b1, o1 + k * 4 + 1, none⟩ = some (.string M2) ∧ w'.cell? ⟨b1, o1 + k * 4 + 2, none⟩ = some (.int .i64 (k0 + 4 * (k : Int) + 1 + 1)) ∧ w'.cell? ⟨b1, o1 + k * 4 + 3, none⟩ = some (.int .i64 (k0 + 4 * (k : Int) + 1 + 1 + 1)))
        (first | go_keep | assumption)
        ((go_at_call 63; refine (Hm2.out _).mono ?_; rintro e wq ⟨rfl, hbq⟩; have hSq := four_kept hbq (by assumption); have hacc' := hacc.trans (hbq.mono hacc.size); clear hacc; have hacc := hacc'; clear hacc'))
      go_wp2_with fail
      go_roundw
      case rel => exact ⟨k + 1, by omega, by go_num, by first | go_num | (congr 1; omega), hacc⟩
      case measure => simp [intOf]; omega
    · have hlt' : (n : Int) ≤ (k : Int) := by omega
      go_wp2_with fail
      go_ret
      obtain rfl : k = n := by omega
      exact ⟨rfl, hbl⟩
end Go.Proofs.YtiddhelabmaghaaDoor
/- Loans, part 8: one loan's validity, clashes, the order: both sides. -/
namespace Go.Proofs.YtiddhelabmaghaaDoor
open Go.RowKit Go.Joins

theorem isDay_any (n : Int) (w : World) : Calls Tryd.prog 121 #[.int .i64 n] w fun e w' => e = .returned (.bool (inB n 0 100000)) ∧ w = w' := by
  have HB := Lib.hid (fun wx => between_any n 0 100000 wx)
  generalize inB n 0 100000 = g at *
  go_enter Tryd.func121, Tryd.ntmps121
  go_wp2_with fail
  refine (HB.out _).mono ?_; rintro e w1 ⟨rfl, rfl⟩
  go_wp2_with fail
  go_ret
  exact ⟨rfl, rfl⟩
theorem l23Day_any (n : Int) (w : World) : Calls Tryd.prog 123 #[.int .i64 n] w fun e w' => e = .returned (.bool (inB n 0 100000)) ∧ w = w' := by
  have HB := Lib.hid (fun wx => l00In_any n 0 100000 wx)
  generalize inB n 0 100000 = g at *
  go_enter Tryd.func123, Tryd.ntmps123
  go_wp2_with fail
  refine (HB.out _).mono ?_; rintro e w1 ⟨rfl, rfl⟩
  go_wp2_with fail
  go_ret
  exact ⟨rfl, rfl⟩

def loanOk (x : Ln) : Bool := isNm x.what.data.toList && isNm x.who.data.toList && inB x.from_ 0 100000 && inB x.till 0 100000 && decide (x.from_ ≤ x.till)
theorem loan_cases (x : Ln) : (isNm x.what.data.toList = false ∧ loanOk x = false) ∨ (isNm x.what.data.toList = true ∧ isNm x.who.data.toList = false ∧ loanOk x = false) ∨
    (isNm x.what.data.toList = true ∧ isNm x.who.data.toList = true ∧ inB x.from_ 0 100000 = false ∧ loanOk x = false) ∨
    (isNm x.what.data.toList = true ∧ isNm x.who.data.toList = true ∧ inB x.from_ 0 100000 = true ∧ inB x.till 0 100000 = false ∧ loanOk x = false) ∨
    (isNm x.what.data.toList = true ∧ isNm x.who.data.toList = true ∧ inB x.from_ 0 100000 = true ∧ inB x.till 0 100000 = true ∧ loanOk x = decide (x.from_ ≤ x.till)) := by
  unfold loanOk
  cases h1 : isNm x.what.data.toList <;> cases h2 : isNm x.who.data.toList <;> cases h3 : inB x.from_ 0 100000 <;> cases h4 : inB x.till 0 100000 <;> simp

set_option maxRecDepth 100000 in
set_option maxHeartbeats 1600000 in
theorem validLoan_any (x : Ln) (w : World) (hsm : smL x) :
    Calls Tryd.prog 88 #[aggL x] w fun e w' => e = .returned (.bool (loanOk x)) ∧ Below w.heap.size w w' := by
  have hc := loan_cases x
  obtain ⟨a, b, f, t⟩ := x
  obtain ⟨l1, l2⟩ := hsm
  dsimp only at *
  have hb0 := Lib.hid ((Below.refl w.heap.size w).alloc (Nat.le_refl _) (.cells #[.string a, .string b, .int .i64 f, .int .i64 t] 53))
  have HB1 := Lib.hid (fun wx => IsNameI_any a wx l1)
  have HB2 := Lib.hid (fun wx => IsNameI_any b wx l2)
  have HB3 := Lib.hid (fun wx => isDay_any f wx)
  have HB4 := Lib.hid (fun wx => isDay_any t wx)
  rcases hc with ⟨g1, hf⟩ | ⟨g1, g2, hf⟩ | ⟨g1, g2, g3, hf⟩ | ⟨g1, g2, g3, g4, hf⟩ | ⟨g1, g2, g3, g4, hf⟩
  all_goals
    have Hf := Lib.hid hf; clear hf
    rw [g1] at HB1; clear g1
    (try (rw [g2] at HB2; clear g2))
    (try (rw [g3] at HB3; clear g3))
    (try (rw [g4] at HB4; clear g4))
    go_enter Tryd.func88, Tryd.ntmps88
    go_wp2_with fail
    refine (HB1.out _).mono ?_; rintro e w1 ⟨rfl, rfl⟩
    go_wp2_with fail
    (try ((with_reducible refine (HB2.out _).mono ?_); rintro e w1 ⟨rfl, rfl⟩; go_wp2_with fail))
    (try ((with_reducible refine (HB3.out _).mono ?_); rintro e w1 ⟨rfl, rfl⟩; go_wp2_with fail))
    (try ((with_reducible refine (HB4.out _).mono ?_); rintro e w1 ⟨rfl, rfl⟩; go_wp2_with fail))
    go_ret
    rw [Hf.out]; exact ⟨rfl, hb0.out⟩

set_option maxRecDepth 100000 in
set_option maxHeartbeats 1600000 in
theorem l23One_any (B bb o : Nat) (x : Ln) (w : World) (h : LnAt w B bb o x) (hsm : smL x) :
    Calls Tryd.prog 91 #[.pointer (some ⟨bb, o, none⟩)] w fun e w' => e = .returned (.bool (loanOk x)) ∧ ∃ n, w' = w.drewN n := by
  have hc := loan_cases x
  obtain ⟨a, b, f, t⟩ := x
  obtain ⟨l1, l2⟩ := hsm
  obtain ⟨_, e0, e1, e2, e3⟩ := h
  dsimp only at *
  have HB1 := Lib.hid (fun wx => flipC (IsNameS_any a wx l1))
  have HB2 := Lib.hid (fun wx => flipC (IsNameS_any b wx l2))
  have HB3 := Lib.hid (fun wx => flipC (l23Day_any f wx))
  have HB4 := Lib.hid (fun wx => flipC (l23Day_any t wx))
  rcases hc with ⟨g1, hf⟩ | ⟨g1, g2, hf⟩ | ⟨g1, g2, g3, hf⟩ | ⟨g1, g2, g3, g4, hf⟩ | ⟨g1, g2, g3, g4, hf⟩
  all_goals
    have Hf := Lib.hid hf; clear hf
    rw [g1] at HB1; clear g1
    (try (rw [g2] at HB2; clear g2))
    (try (rw [g3] at HB3; clear g3))
    (try (rw [g4] at HB4; clear g4))
    go_enter Tryd.func91, Tryd.ntmps91
    go_wp2_with fail
    go_quiet ((first | (go_at_call 122; (with_reducible exact Calls.quiet_of_same (HB1.out _))) | (go_at_call 122; (with_reducible exact Calls.quiet_of_same (HB2.out _))) | (go_at_call 123; (with_reducible exact Calls.quiet_of_same (HB3.out _))) | (go_at_call 123; (with_reducible exact Calls.quiet_of_same (HB4.out _)))))
    go_wp2_with fail
    go_ret
    rw [Hf.out]; exact ⟨rfl, _, rfl⟩
end Go.Proofs.YtiddhelabmaghaaDoor
/- Loans, part 9: clashes and the order, both sides. -/
namespace Go.Proofs.YtiddhelabmaghaaDoor
open Go.RowKit Go.Joins

def clash (x y : Ln) : Bool := decide (x.what = y.what) && decide (x.from_ ≤ y.till) && decide (y.from_ ≤ x.till)
def before (x y : Ln) : Bool := decide (x.from_ < y.from_) || (decide (x.from_ = y.from_) && lessS x.what y.what)
theorem clash_cases (x y : Ln) : ((x.what.toList == y.what.toList) = false ∧ clash x y = false) ∨ ((x.what.toList == y.what.toList) = true ∧ decide (x.from_ ≤ y.till) = false ∧ clash x y = false) ∨
    ((x.what.toList == y.what.toList) = true ∧ decide (x.from_ ≤ y.till) = true ∧ clash x y = decide (y.from_ ≤ x.till)) := by
  unfold clash
  by_cases h : x.what = y.what
  · rw [h]
    by_cases h1 : x.from_ ≤ y.till <;> simp [h1]
  · exact .inl ⟨beq_eq_false_iff_ne.2 fun e => h (ba_inj e), by simp [h]⟩
theorem before_cases (x y : Ln) : (decide (x.from_ < y.from_) = true ∧ before x y = true) ∨ (decide (x.from_ < y.from_) = false ∧ (x.from_ == y.from_) = false ∧ before x y = false) ∨
    (decide (x.from_ < y.from_) = false ∧ (x.from_ == y.from_) = true ∧ before x y = Op.bytesLess x.what.toList y.what.toList) := by
  unfold before
  change _ ∨ _ ∨ (_ ∧ _ ∧ _ = lessS x.what y.what)
  by_cases h : x.from_ < y.from_
  · simp [h]
  · by_cases h1 : x.from_ = y.from_
    · simp [h1]
    · simp [h, h1]

set_option maxRecDepth 100000 in
set_option maxHeartbeats 1600000 in
theorem clashes_any (x y : Ln) (w : World) :
    Calls Tryd.prog 89 #[aggL x, aggL y] w fun e w' => e = .returned (.bool (clash x y)) ∧ Below w.heap.size w w' := by
  have hc := clash_cases x y
  obtain ⟨a, b, f, t⟩ := x
  obtain ⟨c, d, g, u⟩ := y
  dsimp only at *
  have hb0 := Lib.hid (((Below.refl w.heap.size w).alloc (Nat.le_refl _) (.cells #[.string a, .string b, .int .i64 f, .int .i64 t] 53)).alloc (by simp) (.cells #[.string c, .string d, .int .i64 g, .int .i64 u] 53))
  rcases hc with ⟨g1, hf⟩ | ⟨g1, g2, hf⟩ | ⟨g1, g2, hf⟩
  all_goals
    have Hf := Lib.hid hf; clear hf
    go_enter Tryd.func89, Tryd.ntmps89
    go_wp2_with fail
    go_ret
    rw [Hf.out]; exact ⟨rfl, hb0.out⟩

set_option maxRecDepth 100000 in
set_option maxHeartbeats 1600000 in
theorem ahead_any (x y : Ln) (w : World) :
    Calls Tryd.prog 90 #[aggL x, aggL y] w fun e w' => e = .returned (.bool (before x y)) ∧ Below w.heap.size w w' := by
  have hc := before_cases x y
  obtain ⟨a, b, f, t⟩ := x
  obtain ⟨c, d, g, u⟩ := y
  dsimp only at *
  have hb0 := Lib.hid (((Below.refl w.heap.size w).alloc (Nat.le_refl _) (.cells #[.string a, .string b, .int .i64 f, .int .i64 t] 53)).alloc (by simp) (.cells #[.string c, .string d, .int .i64 g, .int .i64 u] 53))
  rcases hc with ⟨g1, hf⟩ | ⟨g1, g2, hf⟩ | ⟨g1, g2, hf⟩
  all_goals
    have Hf := Lib.hid hf; clear hf
    go_enter Tryd.func90, Tryd.ntmps90
    go_wp2_with fail
    go_ret
    rw [Hf.out]; exact ⟨rfl, hb0.out⟩

set_option maxRecDepth 100000 in
set_option maxHeartbeats 1600000 in
theorem l23Clash_any (B B2 b1 o1 b2 o2 : Nat) (x y : Ln) (w : World) (h : LnAt w B b1 o1 x) (h2 : LnAt w B2 b2 o2 y) :
    Calls Tryd.prog 92 #[.pointer (some ⟨b1, o1, none⟩), .pointer (some ⟨b2, o2, none⟩)] w fun e w' => e = .returned (.bool (clash x y)) ∧ ∃ n, w' = w.drewN n := by
  have hc := clash_cases x y
  obtain ⟨_, e0, e1, e2, e3⟩ := h
  obtain ⟨_, d0, d1, d2, d3⟩ := h2
  generalize clash x y = r at *
  obtain ⟨a, b, f, t⟩ := x
  obtain ⟨c, d, g, u⟩ := y
  dsimp only at *
  clear e1 d1
  rcases hc with ⟨g1, hf⟩ | ⟨g1, g2, hf⟩ | ⟨g1, g2, hf⟩
  all_goals
    have Hf := Lib.hid hf; clear hf
    go_enter Tryd.func92, Tryd.ntmps92
    go_wp2_with fail
    go_quiet (fail)
    go_wp2_with fail
    go_ret
    rw [Hf.out]; exact ⟨rfl, _, rfl⟩

set_option maxRecDepth 100000 in
set_option maxHeartbeats 1600000 in
theorem l23Before_any (B B2 b1 o1 b2 o2 : Nat) (x y : Ln) (w : World) (h : LnAt w B b1 o1 x) (h2 : LnAt w B2 b2 o2 y) :
    Calls Tryd.prog 93 #[.pointer (some ⟨b1, o1, none⟩), .pointer (some ⟨b2, o2, none⟩)] w fun e w' => e = .returned (.bool (before x y)) ∧ ∃ n, w' = w.drewN n := by
  have hc := before_cases x y
  obtain ⟨_, e0, e1, e2, e3⟩ := h
  obtain ⟨_, d0, d1, d2, d3⟩ := h2
  generalize before x y = r at *
  obtain ⟨a, b, f, t⟩ := x
  obtain ⟨c, d, g, u⟩ := y
  dsimp only at *
  clear e1 d1 e3 d3
  rcases hc with ⟨g1, hf⟩ | ⟨g1, g2, hf⟩ | ⟨g1, g2, hf⟩
  all_goals
    have Hf := Lib.hid hf; clear hf
    go_enter Tryd.func93, Tryd.ntmps93
    go_wp2_with fail
    go_quiet (fail)
    go_wp2_with fail
    go_ret
    rw [Hf.out]; exact ⟨rfl, _, rfl⟩
end Go.Proofs.YtiddhelabmaghaaDoor
