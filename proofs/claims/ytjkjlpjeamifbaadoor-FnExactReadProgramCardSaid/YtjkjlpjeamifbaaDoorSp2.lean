/- Texts cut at a byte, part 2: parts (program) and l01Split (reference). -/
import Derived.Test.YtjkjlpjeamifbaaDoorSp1
namespace Go.Proofs.YtjkjlpjeamifbaaDoor
open Go.RowKit Go.Joins

theorem infoStr : (Tryd.prog.info? 9).map (fun i => (i.zero, i.size, i.bytes)) = some (some (.string ⟨#[]⟩), 1, 16) := by kernel_rfl
/-- a new list of texts -/
def RetPs (w : World) (l : List ByteArray) (e : Ending) (w' : World) : Prop := ∃ v, e = .returned v ∧ w'.ownsRow w.heap.size 9 1 v l.length (l.map Value.string) ∧ Below w.heap.size w w'
def szV : Value → Nat
  | .string s => s.size
  | _ => 0
theorem str_snoc (l : List ByteArray) (x : ByteArray) : (l ++ [x]).map Value.string = l.map Value.string ++ [.string x] := by simp
theorem own_snoc {w : World} {base : Nat} {e : TypeId} {v : Value} {l : List ByteArray} {x : ByteArray} (h : w.ownsRow base e 1 v (l.length + 1) (l.map Value.string ++ [.string x])) : w.ownsRow base e 1 v (l ++ [x]).length ((l ++ [x]).map Value.string) := by
  rw [str_snoc, List.length_append]; exact h

set_option maxRecDepth 100000 in
set_option maxHeartbeats 1600000 in
theorem parts_any (s : ByteArray) (w : World) (hs : s.size ≤ 1073741824) : Calls Tryd.prog 32 #[.string s] w (RetPs w (splitB 32 s)) := by
  have hlen := splitB_len 32 s.size s (Nat.le_refl _)
  have hb0 := Lib.hid ((Below.refl w.heap.size w).alloc (Nat.le_refl _) (.cells #[] 9))
  have ho0 := Lib.hid (World.ownsRow_made (base := w.heap.size) (e := 9) (size := 1) w #[] 0 (Nat.le_refl _) (by simp [maxLen]) rfl)
  generalize hR : splitB 32 s = R at *
  have HR := Lib.hid hR; clear hR
  go_enter Tryd.func32, Tryd.ntmps32
  go_wp2_with fail
  go_loopw [0, 3] (fun l o wr => ∃ (ln : ByteArray) (out : List ByteArray), l = .string ln ∧ ln.size ≤ s.size ∧ R = out ++ splitB 32 ln ∧ wr.ownsRow w.heap.size 9 1 o out.length (out.map Value.string) ∧ Below w.heap.size w wr) (fun l _ _ => szV l)
  case atStart => exact ⟨s, [], rfl, Nat.le_refl _, by rw [← HR.out]; rfl, ho0.out, hb0.out⟩
  case round =>
    obtain ⟨ln, out, rfl, hz, hsp, hown, hbl⟩ := hrel
    have HC := Lib.hid (fun wx => cut_any ln 32 wx (by omega))
    have hfl := fnd_le 32 ln
    have hll : out.length ≤ s.size + 1 := by
      have h1 := congrArg List.length hsp
      rw [List.length_append] at h1
      omega
    have Hsp := Lib.hid hsp; clear hsp
    have Hyes := Lib.hid (fun h => splitB_yes (c := 32) (s := ln) h)
    have Hno := Lib.hid (fun h => splitB_no (c := 32) (s := ln) h)
    have Hz := Lib.hid (tail_sizeS ln (fnd 32 ln + 1))
    have Hall := Lib.hid (ext_all ln)
    have Hown := Lib.hid hown
    have Hbl := Lib.hid hbl
    clear hown hbl
    by_cases hf : fnd 32 ln < ln.size
    · rw [decide_eq_true hf] at HC
      have hy := Hyes.out hf
      generalize fnd 32 ln = k at *
      generalize ln.extract 0 k = x at *
      generalize ln.extract (k + 1) ln.size = y at *
      have Hy := Lib.hid hy; clear hy
      clear Hyes Hno Hall
      go_wp2_with fail
      refine (HC.out _).mono ?_; rintro e w5 ⟨rfl, n5, hw5⟩
      have hb5 : Below w.heap.size w w5 := by rw [hw5]; exact below_drewN Hbl.out n5
      have ho5 := Hown.out.drewN n5
      rw [← hw5] at ho5
      have Hb5 := Lib.hid hb5
      have Ho5 := Lib.hid ho5
      have hz5 := hb5.size
      clear hw5 hb5 ho5 Hown Hbl HC
      go_wp2_with (at_builtin; refine wpList_apd 33 9 _ 1 16 Tryd.underlying33 infoStr rfl (by omega) _ _ rfl rfl w.heap.size _ out.length _ rfl Ho5.out #[.string x] 1 1 rfl rfl (by simp [Value.oneCell']) (by simp [maxLen]; omega) (by omega) hz5 ?_; intro v7 w7 hown7 hg7; have Hb7 := Lib.hid (below_apd Hb5.out Ho5.out hg7 (Nat.le_refl _) hz5); have Ho7 := Lib.hid (own_snoc hown7); clear hown7 hg7)
      go_roundw
      case rel => exact ⟨y, out ++ [x], rfl, by have := Hz.out; omega, by rw [Hsp.out, Hy.out]; simp, Ho7.out, Hb7.out⟩
      case measure => simp [szV]; have := Hz.out; omega
    · rw [decide_eq_false hf] at HC
      have hy := Hno.out (by omega)
      have hk : fnd 32 ln = ln.size := by omega
      rw [hk, Hall.out] at HC
      generalize ln.extract (ln.size + 1) ln.size = y at *
      have Hy := Lib.hid hy; clear hy
      clear Hyes Hno Hall
      go_wp2_with fail
      refine (HC.out _).mono ?_; rintro e w5 ⟨rfl, n5, hw5⟩
      have hb5 : Below w.heap.size w w5 := by rw [hw5]; exact below_drewN Hbl.out n5
      have ho5 := Hown.out.drewN n5
      rw [← hw5] at ho5
      have Hb5 := Lib.hid hb5
      have Ho5 := Lib.hid ho5
      have hz5 := hb5.size
      clear hw5 hb5 ho5 Hown Hbl HC
      go_wp2_with (at_builtin; refine wpList_apd 33 9 _ 1 16 Tryd.underlying33 infoStr rfl (by omega) _ _ rfl rfl w.heap.size _ out.length _ rfl Ho5.out #[.string ln] 1 1 rfl rfl (by simp [Value.oneCell']) (by simp [maxLen]; omega) (by omega) hz5 ?_; intro v7 w7 hown7 hg7; have Hb7 := Lib.hid (below_apd Hb5.out Ho5.out hg7 (Nat.le_refl _) hz5); have Ho7 := Lib.hid (own_snoc hown7); clear hown7 hg7)
      go_ret
      have hfin : R = out ++ [ln] := by rw [Hsp.out, Hy.out]
      rw [hfin]; exact ⟨_, rfl, Ho7.out, Hb7.out⟩

set_option maxRecDepth 100000 in
set_option maxHeartbeats 1600000 in
theorem l01Split_any (s : ByteArray) (c : UInt8) (w : World) (hs : s.size ≤ 1073741824) : Calls Tryd.prog 28 #[.string s, .int .u8 (c.toNat : Int)] w (RetPs w (splitB c s)) := by
  have hlen := splitB_len c s.size s (Nat.le_refl _)
  have hb0 := Lib.hid ((Below.refl w.heap.size w).alloc (Nat.le_refl _) (.cells #[] 9))
  have ho0 := Lib.hid (World.ownsRow_made (base := w.heap.size) (e := 9) (size := 1) w #[] 0 (Nat.le_refl _) (by simp [maxLen]) rfl)
  generalize hR : splitB c s = R at *
  have HR := Lib.hid hR; clear hR
  have h00 := Lib.hid (ext_all s)
  go_enter Tryd.func28, Tryd.ntmps28
  go_wp2_with fail
  go_loopw [5, 6, 7] (fun o f i wr => ∃ (out : List ByteArray) (a k : Nat), f = .int .i64 a ∧ i = .int .i64 k ∧ a ≤ k ∧ k ≤ s.size ∧ R = out ++ splitB c (s.extract a s.size) ∧ k - a ≤ fnd c (s.extract a s.size) ∧ wr.ownsRow w.heap.size 9 1 o out.length (out.map Value.string) ∧ Below w.heap.size w wr) (fun _ _ i _ => s.size - (intOf i).toNat)
  case atStart => exact ⟨[], 0, 0, rfl, rfl, Nat.le_refl _, Nat.zero_le _, by rw [h00.out, HR.out]; rfl, Nat.zero_le _, ho0.out, hb0.out⟩
  case round =>
    obtain ⟨out, a, k, rfl, rfl, hak, hks, hsp, hfd, hown, hbl⟩ := hrel
    have hll : out.length ≤ s.size + 1 := by
      have h1 := congrArg List.length hsp
      rw [List.length_append] at h1
      omega
    have Hsp := Lib.hid hsp; clear hsp
    have Hown := Lib.hid hown
    have Hbl := Lib.hid hbl
    have hz5 := hbl.size
    clear hown hbl
    by_cases hlt : k < s.size
    · have hlt' : (k : Int) < (s.size : Int) := by omega
      by_cases he : s[k] = c
      · have hit := sp_hit hak hlt hfd he
        have Hit := Lib.hid hit; clear hit
        have hb : ((s[k].toNat : Int) == (c.toNat : Int)) = true := by rw [he]; simp
        clear he hfd
        have hx : (a : Int) ≤ (k : Int) := by omega
        go_wp2_with (at_builtin; refine wpList_apd 33 9 _ 1 16 Tryd.underlying33 infoStr rfl (by omega) _ _ rfl rfl w.heap.size _ out.length _ rfl Hown.out #[.string (s.extract a k)] 1 1 rfl rfl (by simp [Value.oneCell']) (by simp [maxLen]; omega) (by omega) hz5 ?_; intro v7 w7 hown7 hg7; have Hb7 := Lib.hid (below_apd Hbl.out Hown.out hg7 (Nat.le_refl _) hz5); have Ho7 := Lib.hid (own_snoc hown7); clear hown7 hg7)
        go_roundw
        case rel => exact ⟨out ++ [s.extract a k], k + 1, k + 1, by go_num, by go_num, Nat.le_refl _, by omega, by rw [Hsp.out, Hit.out]; simp, by omega, Ho7.out, Hb7.out⟩
        case measure => simp [intOf]; omega
      · have hm := sp_miss hak hlt hfd he
        have hb : ((s[k].toNat : Int) == (c.toNat : Int)) = false := by
          rw [beq_eq_false_iff_ne]
          intro h
          exact he (UInt8.toNat_inj.1 (by omega))
        clear he hfd
        go_wp2_with fail
        go_roundw
        case rel => exact ⟨out, a, k + 1, rfl, by go_num, by omega, by omega, Hsp.out, hm, Hown.out, Hbl.out⟩
        case measure => simp [intOf]; omega
    · have hend := sp_end (c := c) (s := s) (f := a) (by omega)
      have Hend := Lib.hid hend; clear hend hfd
      have hlt' : (s.size : Int) ≤ (k : Int) := by omega
      have hx : (a : Int) ≤ (s.size : Int) := by omega
      go_wp2_with (at_builtin; refine wpList_apd 33 9 _ 1 16 Tryd.underlying33 infoStr rfl (by omega) _ _ rfl rfl w.heap.size _ out.length _ rfl Hown.out #[.string (s.extract a s.size)] 1 1 rfl rfl (by simp [Value.oneCell']) (by simp [maxLen]; omega) (by omega) hz5 ?_; intro v7 w7 hown7 hg7; have Hb7 := Lib.hid (below_apd Hbl.out Hown.out hg7 (Nat.le_refl _) hz5); have Ho7 := Lib.hid (own_snoc hown7); clear hown7 hg7)
      go_ret
      have hfin : R = out ++ [s.extract a s.size] := by rw [Hsp.out, Hend.out]
      rw [hfin]; exact ⟨_, rfl, Ho7.out, Hb7.out⟩
end Go.Proofs.YtjkjlpjeamifbaaDoor
