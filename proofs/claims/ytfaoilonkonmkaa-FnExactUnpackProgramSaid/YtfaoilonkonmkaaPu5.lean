/- Programs of hand movements, unpacked, part 5: bytes without their checksum; the reference's result, and that both are one. -/
import Derived.Test.YtfaoilonkonmkaaPu4
namespace Go.Proofs.Ytfaoilonkonmkaa
open Go.RowKit Go.Joins

def bodyOk (s : List UInt8) : Bool := decide (3 ≤ s.length) && decide ((s.getD 0 0) = 80) && decide (sumB (s.take (s.length - 2)) = 256 * ((s.getD (s.length - 2) 0).toNat : Int) + ((s.getD (s.length - 1) 0).toNat : Int))
def bodyL (s : List UInt8) : List UInt8 := (s.take (s.length - 2)).drop 1
def resT (s : List UInt8) : Option (List (Int × Int)) := match bodyL s with
  | [] => none
  | c :: l => match parseF 6 c.toNat l with
    | none => none
    | some x => if x.2 = [] ∧ okProg x.1 = true ∧ sealB (packP x.1) = s then some x.1 else none
def resS (s : List UInt8) : Option (List (Int × Int)) := if bodyOk s = true then resT s else none

theorem resI_iff (s : List UInt8) (l : List (Int × Int)) : resI s = some l ↔ okProg l = true ∧ sealB (packP l) = s := by
  constructor
  · intro h
    match s, h with
    | a :: c :: t, h =>
      unfold resI at h
      simp only at h
      split at h
      · simp at h
      · split at h
        · next hx =>
          injection h with h
          subst h
          exact hx
        · simp at h
    | [a], h => simp [resI] at h
    | [], h => simp [resI] at h
  · rintro ⟨h1, rfl⟩
    obtain ⟨ha, hl⟩ := okProg_all h1
    have he : sealB (packP l) = 80 :: byt (l.length : Int) :: (encs l ++ [byt (sumB (packP l) / 256), byt (sumB (packP l) % 256)]) := rfl
    have hp := parseF_enc 7 (by omega) l [byt (sumB (packP l) / 256), byt (sumB (packP l) % 256)] ha
    have hb := byt_toNat (n := (l.length : Int)) (by omega) (by omega)
    rw [Int.toNat_natCast] at hb
    unfold resI
    rw [he]
    simp only
    rw [hb, hp]
    simp only
    rw [if_pos ⟨h1, he⟩]
theorem resS_iff (s : List UInt8) (l : List (Int × Int)) : resS s = some l ↔ okProg l = true ∧ sealB (packP l) = s := by
  constructor
  · intro h
    unfold resS resT at h
    split at h
    · split at h
      · simp at h
      · split at h
        · simp at h
        · split at h
          · next hx =>
            injection h with h
            subst h
            exact hx.2
          · simp at h
    · simp at h
  · rintro ⟨h1, rfl⟩
    obtain ⟨ha, hl⟩ := okProg_all h1
    have hbd := sumB_bd (packP l)
    have hlen : (sealB (packP l)).length = (packP l).length + 2 := sealB_len _
    have htk : (sealB (packP l)).take ((sealB (packP l)).length - 2) = packP l := by
      rw [hlen, Nat.add_sub_cancel]
      unfold sealB
      rw [List.take_left]
    have hbl : bodyL (sealB (packP l)) = byt (l.length : Int) :: encs l := by
      unfold bodyL
      rw [htk]; rfl
    have hg1 : (sealB (packP l)).getD ((sealB (packP l)).length - 2) 0 = byt (sumB (packP l) / 256) := by
      rw [hlen, Nat.add_sub_cancel]
      unfold sealB
      rw [List.getD_eq_getElem?_getD, List.getElem?_append_right (Nat.le_refl _), Nat.sub_self]; rfl
    have hg2 : (sealB (packP l)).getD ((sealB (packP l)).length - 1) 0 = byt (sumB (packP l) % 256) := by
      rw [hlen, show (packP l).length + 2 - 1 = (packP l).length + 1 by omega]
      unfold sealB
      rw [List.getD_eq_getElem?_getD, List.getElem?_append_right (by omega), show (packP l).length + 1 - (packP l).length = 1 by omega]; rfl
    have hok : bodyOk (sealB (packP l)) = true := by
      unfold bodyOk
      rw [htk, hg1, hg2, byt_toNat (by omega) (by omega), byt_toNat (by omega) (by omega)]
      have h3 : 3 ≤ (sealB (packP l)).length := by rw [hlen]; simp [packP]
      have h80 : (sealB (packP l)).getD 0 0 = 80 := rfl
      rw [h80, decide_eq_true h3]
      simp
      omega
    have hp := parseF_enc 6 (by omega) l [] ha
    rw [List.append_nil] at hp
    have hb := byt_toNat (n := (l.length : Int)) (by omega) (by omega)
    rw [Int.toNat_natCast] at hb
    unfold resS resT
    rw [if_pos hok, hbl]
    simp only
    rw [hb, hp]
    simp only
    rw [if_pos ⟨trivial, h1, trivial⟩]
theorem res_eq (s : List UInt8) : resS s = resI s := by
  cases h : resI s with
  | some l => exact (resS_iff s l).2 ((resI_iff s l).1 h)
  | none =>
    cases h2 : resS s with
    | none => rfl
    | some l => rw [(resI_iff s l).2 ((resS_iff s l).1 h2)] at h; simp at h
theorem numF_pos : ∀ (f u a : Nat) (l : List UInt8) (v n : Nat), numF f u a l = some (v, n) → 1 ≤ n ∧ n ≤ l.length := by
  intro f
  induction f with
  | zero => intro u a l v n h; simp [numF] at h
  | succ f ih =>
    intro u a l v n h
    match l, h with
    | [], h => simp [numF] at h
    | c :: l, h =>
      unfold numF at h
      split at h
      · simp at h; simp; omega
      · rw [Option.map_eq_some_iff] at h
        obtain ⟨x, hx, he⟩ := h
        have := ih _ _ l x.1 x.2 hx
        simp only [Prod.mk.injEq] at he
        simp only [List.length_cons]; omega

theorem Calls_flip {P : Program} {f : FuncId} {args : Array Value} {w : World} {v : Value} (h : Calls P f args w fun e w' => e = .returned v ∧ w = w') : Calls P f args w fun e w' => e = .returned v ∧ w' = w :=
  h.mono fun _ _ ⟨a, b⟩ => ⟨a, b.symm⟩
/-- what l27Body hands back -/
def BodyR (s : ByteArray) (w : World) (e : Ending) (w' : World) : Prop :=
  ∃ t : ByteArray, e = .returned (.tuple #[.string t, .bool (bodyOk s.data.toList)]) ∧ (bodyOk s.data.toList = true → t.data.toList = bodyL s.data.toList) ∧ ∃ n, w' = w.drewN n
theorem extr_to (s : ByteArray) (a k : Nat) : (s.extract a k).data.toList = (s.data.toList.take k).drop a := by
  obtain ⟨⟨l⟩⟩ := s
  simp [List.drop_take]

set_option maxRecDepth 100000 in
set_option maxHeartbeats 1600000 in
theorem l27Body_any (s : ByteArray) (w : World) (hs : s.size ≤ 1048576) :
    Calls Try.prog 87 #[.string s, .int .u8 80] w (BodyR s w) := by
  have hsz : s.data.toList.length = s.size := by simp
  have Hsz := Lib.hid hsz; clear hsz
  by_cases h3 : s.size < 3
  · have hno : Hid (bodyOk s.data.toList = false) := Lib.hid (by unfold bodyOk; rw [Hsz.out, decide_eq_false (by omega)]; rfl)
    have h3' : (s.size : Int) < 3 := by omega
    go_enter Try.func87, Try.ntmps87
    go_wp2_with fail
    go_quiet (fail)
    go_wp2_with fail
    go_ret2
    unfold BodyR; rw [hno.out]; exact ⟨_, rfl, by simp, _, rfl⟩
  · have h3' : (3 : Int) ≤ (s.size : Int) := by omega
    have hd3 : decide ((s.size : Int) < 3) = false := by rw [decide_eq_false_iff_not]; omega
    have hp0 : 0 < s.size := by omega
    have hp1 : (0 : Int) < (s.size : Int) := by omega
    have hc0 := s[0].toNat_lt
    have hg0 : s.data.toList.getD 0 0 = s[0] := by rw [List.getD_eq_getElem?_getD, List.getElem?_eq_getElem (by rw [Hsz.out]; exact hp0)]; rfl
    by_cases h80 : s[0].toNat = 80
    rotate_left
    · have hno : Hid (bodyOk s.data.toList = false) := Lib.hid (by
        unfold bodyOk
        rw [hg0, decide_eq_false (p := s[0] = 80) (fun h => h80 (by rw [h]; rfl))]
        simp)
      have hq : ((s[0].toNat : Int) != 80) = true := by rw [bne_iff_ne]; omega
      clear h80 hg0
      go_enter Try.func87, Try.ntmps87
      go_wp2_with fail
      go_quiet (fail)
      go_wp2_with fail
      go_ret2
      unfold BodyR; rw [hno.out]; exact ⟨_, rfl, by simp, _, rfl⟩
    · have hq : ((s[0].toNat : Int) != 80) = false := by simp [h80]
      obtain ⟨i1, hi1⟩ : ∃ i1, i1 = s.size - 2 := ⟨_, rfl⟩
      obtain ⟨i2, hi2⟩ : ∃ i2, i2 = s.size - 1 := ⟨_, rfl⟩
      have hl1 : i1 < s.size := by omega
      have hl2 : i2 < s.size := by omega
      have hg1 : s.data.toList.getD (s.data.toList.length - 2) 0 = s[i1] := by rw [Hsz.out, ← hi1, List.getD_eq_getElem?_getD, List.getElem?_eq_getElem (by rw [Hsz.out]; exact hl1)]; rfl
      have hg2 : s.data.toList.getD (s.data.toList.length - 1) 0 = s[i2] := by rw [Hsz.out, ← hi2, List.getD_eq_getElem?_getD, List.getElem?_eq_getElem (by rw [Hsz.out]; exact hl2)]; rfl
      have hsu : Hid (bodyOk s.data.toList = decide (sumB (s.data.toList.take i1) = 256 * (s[i1].toNat : Int) + (s[i2].toNat : Int))) := Lib.hid (by
        unfold bodyOk
        rw [hg1, hg2, hg0, decide_eq_true (p := s[0] = 80) (UInt8.toNat_inj.1 h80), Hsz.out, decide_eq_true (p := 3 ≤ s.size) (by omega), ← hi1]
        simp)
      have hx1 := s[i1].toNat_lt
      have hx2 := s[i2].toNat_lt
      have HS := Lib.hid (fun wx => Calls_flip (l27Sum_any (s.extract 0 i1) wx (by simp [maxLen]; omega)))
      have he0 : (s.extract 0 i1).data.toList = s.data.toList.take i1 := by rw [extr_to, List.drop_zero]
      rw [he0] at HS
      have hsb := sumB_bd (s.data.toList.take i1)
      have hbody : Hid ((s.extract 1 i1).data.toList = bodyL s.data.toList) := Lib.hid (by rw [extr_to]; unfold bodyL; rw [Hsz.out, hi1])
      generalize sumB (s.data.toList.take i1) = S at *
      obtain ⟨S0, S1⟩ := hsb
      have Hi1 := Lib.hid hi1
      have hj1 : (s.size : Int) - 2 = (i1 : Int) := by omega
      have hj2 : (s.size : Int) - 1 = (i2 : Int) := by omega
      have hk1 : 1 ≤ i1 := by omega
      have hy1 : (s[i1].toNat : Int) < 256 := by omega
      have hy2 : (s[i2].toNat : Int) < 256 := by omega
      have hli1 : (i1 : Int) < (s.size : Int) := by omega
      have hli2 : (i2 : Int) < (s.size : Int) := by omega
      have hk1' : (1 : Int) ≤ (i1 : Int) := by omega
      have hle1 : (i1 : Int) ≤ (s.size : Int) := by omega
      have hw1 : IntKind.i64.wrap (i1 : Int) = (i1 : Int) := IntWalk.i64_in _ (by omega)
      have hw2 : IntKind.i64.wrap (i2 : Int) = (i2 : Int) := IntWalk.i64_in _ (by omega)
      have hw3 : IntKind.i64.wrap (s[i1].toNat : Int) = (s[i1].toNat : Int) := IntWalk.i64_in _ (by omega)
      have hw4 : IntKind.i64.wrap (s[i2].toNat : Int) = (s[i2].toNat : Int) := IntWalk.i64_in _ (by omega)
      have hw5 : IntKind.i64.wrap (256 * (s[i1].toNat : Int)) = 256 * (s[i1].toNat : Int) := IntWalk.i64_in _ (by omega)
      have hw6 : IntKind.i64.wrap (256 * (s[i1].toNat : Int) + (s[i2].toNat : Int)) = 256 * (s[i1].toNat : Int) + (s[i2].toNat : Int) := IntWalk.i64_in _ (by omega)
      clear hg0 hg1 hg2 he0 h80 hi1 hi2 hx1 hx2 hc0
      by_cases hsum : S = 256 * (s[i1].toNat : Int) + (s[i2].toNat : Int)
      · have hyes : Hid (bodyOk s.data.toList = true) := Lib.hid (by rw [hsu.out, decide_eq_true hsum])
        have hqs : (S != 256 * (s[i1].toNat : Int) + (s[i2].toNat : Int)) = false := by rw [hsum]; simp
        clear hsum
        go_enter Try.func87, Try.ntmps87
        go_wp2_with fail
        go_quiet ((go_at_call 139; exact Calls.quiet_of_same (HS.out _)))
        go_wp2_with fail
        go_ret2
        unfold BodyR; rw [hyes.out]; exact ⟨_, rfl, fun _ => hbody.out, _, rfl⟩
      · have hno : Hid (bodyOk s.data.toList = false) := Lib.hid (by rw [hsu.out, decide_eq_false hsum])
        have hqs : (S != 256 * (s[i1].toNat : Int) + (s[i2].toNat : Int)) = true := bne_iff_ne.2 hsum
        clear hsum
        go_enter Try.func87, Try.ntmps87
        go_wp2_with fail
        go_quiet ((go_at_call 139; exact Calls.quiet_of_same (HS.out _)))
        go_wp2_with fail
        go_ret2
        unfold BodyR; rw [hno.out]; exact ⟨_, rfl, by simp, _, rfl⟩
end Go.Proofs.Ytfaoilonkonmkaa
