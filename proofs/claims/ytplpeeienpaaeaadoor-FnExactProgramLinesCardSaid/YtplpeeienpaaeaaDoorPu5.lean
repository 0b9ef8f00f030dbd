/- Programs of hand movements, unpacked, part 5: bytes without their checksum; the reference's result, and that both are one. -/
import Derived.Test.YtplpeeienpaaeaaDoorPu4
namespace Go.Proofs.YtplpeeienpaaeaaDoor
open Go.RowKit Go.Joins

def bodyOk (s : List UInt8) : Bool := decide (3 ≤ s.length) && decide ((s.getD 0 0) = 80) && decide (sumB (s.take (s.length - 2)) = 256 * ((s.getD (s.length - 2) 0).toNat : Int) + ((s.getD (s.length - 1) 0).toNat : Int))
def bodyL (s : List UInt8) : List UInt8 := (s.take (s.length - 2)).drop 1
def resT (s : List UInt8) : Option (List (Int × Int)) := match bodyL s with
  | [] => none
  | c :: l => match parseF 6 c.toNat l with
    | none => none
    | some x => if x.2 = [] ∧ okProg x.1 = true ∧ sealB (packP x.1) = s then some x.1 else none
def resS (s : List UInt8) : Option (List (Int × Int)) := if bodyOk s = true then resT s else none

theorem resI_iff (s : List UInt8) (l : List (Int × Int)) : resI s = some l ↔ okProg l = true ∧ sealB (packP l) = s := by
  constructor
  · intro h
    match s, h with
    | a :: c :: t, h =>
      unfold resI at h
      simp only at h
      split at h
      · simp at h
      · split at h
        · next hx =>
          injection h with h
          subst h
          exact hx
        · simp at h
    | [a], h => simp [resI] at h
    | [], h => simp [resI] at h
  · rintro ⟨h1, rfl⟩
    obtain ⟨ha, hl⟩ := okProg_all h1
    have he : sealB (packP l) = 80 :: byt (l.length : Int) :: (encs l ++ [byt (sumB (packP l) / 256), byt (sumB (packP l) % 256)]) := rfl
    have hp := parseF_enc 7 (by omega) l [byt (sumB (packP l) / 256), byt (sumB (packP l) % 256)] ha
    have hb := byt_toNat (n := (l.length : Int)) (by omega) (by omega)
    rw [Int.toNat_natCast] at hb
    unfold resI
    rw [he]
    simp only
    rw [hb, hp]
    simp only
    rw [if_pos ⟨h1, he⟩]
theorem resS_iff (s : List UInt8) (l : List (Int × Int)) : resS s = some l ↔ okProg l = true ∧ sealB (packP l) = s := by
  constructor
  · intro h
    unfold resS resT at h
    split at h
    · split at h
      · simp at h
      · split at h
        · simp at h
        · split at h
          · next hx =>
            injection h with h
            subst h
            exact hx.2
          · simp at h
    · simp at h
  · rintro ⟨h1, rfl⟩
    obtain ⟨ha, hl⟩ := okProg_all h1
    have hbd := sumB_bd (packP l)
    have hlen : (sealB (packP l)).length = (packP l).length + 2 := sealB_len _
    have htk : (sealB (packP l)).take ((sealB (packP l)).length - 2) = packP l := by
      rw [hlen, Nat.add_sub_cancel]
      unfold sealB
      rw [List.take_left]
    have hbl : bodyL (sealB (packP l)) = byt (l.length : Int) :: encs l := by
      unfold bodyL
      rw [htk]; rfl
    have hg1 : (sealB (packP l)).getD ((sealB (packP l)).length - 2) 0 = byt (sumB (packP l) / 256) := by
      rw [hlen, Nat.add_sub_cancel]
      unfold sealB
      rw [List.getD_eq_getElem?_getD, List.getElem?_append_right (Nat.le_refl _), Nat.sub_self]; rfl
    have hg2 : (sealB (packP l)).getD ((sealB (packP l)).length - 1) 0 = byt (sumB (packP l) % 256) := by
      rw [hlen, show (packP l).length + 2 - 1 = (packP l).length + 1 by omega]
      unfold sealB
      rw [List.getD_eq_getElem?_getD, List.getElem?_append_right (by omega), show (packP l).length + 1 - (packP l).length = 1 by omega]; rfl
    have hok : bodyOk (sealB (packP l)) = true := by
      unfold bodyOk
      rw [htk, hg1, hg2, byt_toNat (by omega) (by omega), byt_toNat (by omega) (by omega)]
      have h3 : 3 ≤ (sealB (packP l)).length := by rw [hlen]; simp [packP]
      have h80 : (sealB (packP l)).getD 0 0 = 80 := rfl
      rw [h80, decide_eq_true h3]
      simp
      omega
    have hp := parseF_enc 6 (by omega) l [] ha
    rw [List.append_nil] at hp
    have hb := byt_toNat (n := (l.length : Int)) (by omega) (by omega)
    rw [Int.toNat_natCast] at hb
    unfold resS resT
    rw [if_pos hok, hbl]
    simp only
    rw [hb, hp]
    simp only
    rw [if_pos ⟨trivial, h1, trivial⟩]
theorem res_eq (s : List UInt8) : resS s = resI s := by
  cases h : resI s with
  | some l => exact (resS_iff s l).2 ((resI_iff s l).1 h)
  | none =>
    cases h2 : resS s with
    | none => rfl
    | some l => rw [(resI_iff s l).2 ((resS_iff s l).1 h2)] at h; simp at h
theorem numF_pos : ∀ (f u a : Nat) (l : List UInt8) (v n : Nat), numF f u a l = some (v, n) → 1 ≤ n ∧ n ≤ l.length := by
  intro f
  induction f with
  | zero => intro u a l v n h; simp [numF] at h
  | succ f ih =>
    intro u a l v n h
    match l, h with
    | [], h => simp [numF] at h
    | c :: l, h =>
      unfold numF at h
      split at h
      · simp at h; simp; omega
      · rw [Option.map_eq_some_iff] at h
        obtain ⟨x, hx, he⟩ := h
        have := ih _ _ l x.1 x.2 hx
        simp only [Prod.mk.injEq] at he
        simp only [List.length_cons]; omega

theorem Calls_flip {P : Program} {f : FuncId} {args : Array Value} {w : World} {v : Value} (h : Calls P f args w fun e w' => e = .returned v ∧ w = w') : Calls P f args w fun e w' => e = .returned v ∧ w' = w :=
  h.mono fun _ _ ⟨a, b⟩ => ⟨a, b.symm⟩
/-- what l27Body hands back -/
def BodyR (s : ByteArray) (w : World) (e : Ending) (w' : World) : Prop :=
  ∃ t : ByteArray, e = .returned (.tuple #[.string t, .bool (bodyOk s.data.toList)]) ∧ (bodyOk s.data.toList = true → t.data.toList = bodyL s.data.toList) ∧ ∃ n, w' = w.drewN n
theorem extr_to (s : ByteArray) (a k : Nat) : (s.extract a k).data.toList = (s.data.toList.take k).drop a := by
  obtain ⟨⟨l⟩⟩ := s
  simp [List.drop_take]

end Go.Proofs.YtplpeeienpaaeaaDoor
