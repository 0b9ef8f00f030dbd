/- Trains, part 9: drawn trains. -/
import Derived.Test.YtddiielbmjkppaaTr8
namespace Go.Proofs.Ytddiielbmjkppaa
open Go.RowKit Go.Joins

def ext (k : Nat) (a : Nat → Nat) (x : Nat) : Nat → Nat := fun i => if i < k then a i else x
theorem ext_l {k i : Nat} (a : Nat → Nat) (x : Nat) (h : i < k) : ext k a x i = a i := by simp [ext, h]
theorem ext_r (k : Nat) (a : Nat → Nat) (x : Nat) : ext k a x k = x := by simp [ext]
theorem tab2_snoc (k : Nat) (a b : Nat → Nat) (x y : Nat) : tab2 (k + 1) (ext k a x) (ext k b y) = tab2 k a b ++ [.int .i64 (x : Int), .int .i64 (y : Int)] := by
  rw [tab2_succ, ext_r, ext_r]
  congr 1
  exact tab2_congr fun i hi => ⟨ext_l a x hi, ext_l b y hi⟩
theorem Teeth31.snoc {k : Nat} {a b : Nat → Nat} {x y : Nat} (h : Teeth31 k a b) (hx : 2 ≤ x ∧ x ≤ 31) (hy : 2 ≤ y ∧ y ≤ 31) : Teeth31 (k + 1) (ext k a x) (ext k b y) := by
  intro i hi
  by_cases hk : i < k
  · rw [ext_l a x hk, ext_l b y hk]; exact h i hk
  · obtain rfl : i = k := by omega
    rw [ext_r, ext_r]; omega
/-- a drawn train -/
def RetTr (g : Nat) (w : World) (e : Ending) (w' : World) : Prop :=
  ∃ v n a b, e = .returned v ∧ 1 ≤ n ∧ n ≤ 3 ∧ Teeth31 n a b ∧ w'.ownsRow w.heap.size 179 2 v n (tab2 n a b) ∧ Below g w w'
set_option maxRecDepth 100000 in
set_option maxHeartbeats 1600000 in
theorem l04Draw_any (B g : Nat) (bs : List UInt8) (w : World) (h : SrcAt w B g 0 bs) :
    Calls Try.prog 186 #[.pointer (some ⟨g, 0, none⟩), .int .i64 3] w (RetTr g w) := by
  have hgl := h.lt
  have hb0 := (Below.refl w.heap.size w).alloc (Nat.le_refl _) (.cells #[] 179)
  have ho0 := Lib.hid (World.ownsRow_made (base := w.heap.size) (e := 179) (size := 2) w #[] 0 (Nat.le_refl _) (by simp [maxLen]) rfl)
  have Hs0 := Lib.hid (h.below hb0)
  have Hb0 := Lib.hid (hb0.mono (Nat.le_of_lt hgl))
  clear h hb0
  go_enter Try.func186, Try.ntmps186
  go_wp2_with fail
  refine (pick_any B g 0 bs 3 _ Hs0.out (by omega)).mono ?_; rintro e w1 ⟨r, rfl, ⟨hr0, hr1, _⟩, hs1, hg1⟩
  have hr5 := hr1 (by omega)
  have Hs1 := Lib.hid hs1
  have Ho1 := Lib.hid (ho0.out.kept hg1 (.inr (by simp [Value.ownBlock]; omega)))
  have Hb1 := Lib.hid (Hb0.out.grown hg1 (Nat.le_trans (Nat.le_of_lt hgl) Hb0.out.size) (fun k hk => by cases hk; exact Nat.le_refl _))
  obtain ⟨m, rfl⟩ : ∃ m : Nat, r = (m : Int) := ⟨r.toNat, by omega⟩
  clear hs1 hg1 hr1 hr0
  go_wp2_with fail
  go_loopw [5, 6] (fun a i wr => ∃ (k q : Nat) (x y : Nat → Nat), k + q = m + 1 ∧ i = .int .i64 (q : Int) ∧ SrcAt wr B g (2 + 4 * k) bs ∧ wr.ownsRow w.heap.size 179 2 a k (tab2 k x y) ∧ Teeth31 k x y ∧ Below g w wr) (fun _ i _ => (intOf i).toNat)
  case atStart => exact ⟨0, m + 1, fun _ => 0, fun _ => 0, by omega, by congr 1; omega, Hs1.out, Ho1.out, fun i hi => by omega, Hb1.out⟩
  case round =>
    obtain ⟨k, q, fa, fb, hkq, rfl, hs, hown, hS, hbl⟩ := hrel
    obtain ⟨A3, c3, rfl⟩ := own_sl hown
    have Hs := Lib.hid hs
    have Hown := Lib.hid hown
    have HS := Lib.hid hS
    have Hbl := Lib.hid hbl
    have Hkq := Lib.hid hkq
    have hwz := hbl.size
    clear hs hown hS hbl hkq
    by_cases hq : q = 0
    · subst hq
      go_wp2_with fail
      go_ret
      have := Hkq.out
      exact ⟨_, k, fa, fb, rfl, by omega, by omega, HS.out, Hown.out, Hbl.out⟩
    · have hq' : (0 : Int) < (q : Int) := by omega
      have hk5 : k ≤ 3 := by have := Hkq.out; omega
      have hq5 : q ≤ 4 := by have := Hkq.out; omega
      go_wp2_with fail
      refine (pick_any B g (2 + 4 * k) bs 30 _ Hs.out (by omega)).mono ?_; rintro e w2 ⟨x, rfl, ⟨hx0, hx1, _⟩, hs2, hg2⟩
      have hx30 := hx1 (by omega)
      have Ho2 := Lib.hid (Hown.out.kept hg2 (by
        cases hv : (Value.slice A3 k c3).ownBlock with
        | none => exact .inl rfl
        | some z => exact .inr (fun e => by have := (Hown.out.lt z hv).1; cases e; omega)))
      have Hb2 := Lib.hid (Hbl.out.grown hg2 (Nat.le_trans (Nat.le_of_lt hgl) Hbl.out.size) (fun k hk => by cases hk; exact Nat.le_refl _))
      have Hs2 := Lib.hid hs2
      have hz2 : w.heap.size ≤ w2.heap.size := Nat.le_trans hwz hg2.size
      obtain ⟨x', hx', hxb⟩ : ∃ x' : Nat, 2 + x = (x' : Int) ∧ (2 ≤ x' ∧ x' ≤ 31) := ⟨(2 + x).toNat, by omega, by omega, by omega⟩
      clear hs2 hg2 hx1
      go_wp2_with fail
      refine (pick_any B g (2 + 4 * k + 2) bs 30 _ Hs2.out (by omega)).mono ?_; rintro e w3 ⟨y, rfl, ⟨hy0, hy1, _⟩, hs3, hg3⟩
      have hy30 := hy1 (by omega)
      have Ho3 := Lib.hid (Ho2.out.kept hg3 (by
        cases hv : (Value.slice A3 k c3).ownBlock with
        | none => exact .inl rfl
        | some z => exact .inr (fun e => by have := (Ho2.out.lt z hv).1; cases e; omega)))
      have Hb3 := Lib.hid (Hb2.out.grown hg3 (Nat.le_trans (Nat.le_of_lt hgl) Hb2.out.size) (fun k hk => by cases hk; exact Nat.le_refl _))
      have Hs3 := Lib.hid hs3
      have hz3 : w.heap.size ≤ w3.heap.size := Nat.le_trans hz2 hg3.size
      obtain ⟨y', hy', hyb⟩ : ∃ y' : Nat, 2 + y = (y' : Int) ∧ (2 ≤ y' ∧ y' ≤ 31) := ⟨(2 + y).toNat, by omega, by omega, by omega⟩
      clear hs3 hg3 hy1
      have Hsn := Lib.hid (tab2_snoc k fa fb x' y')
      have HSn := Lib.hid (HS.out.snoc hxb hyb)
      go_wp2_with (at_builtin; refine wpList_apd 44 179 _ 2 16 Try.underlying44 infoG rfl (by omega) _ _ rfl rfl w.heap.size _ k _ rfl Ho3.out #[.int .i64 (x' : Int), .int .i64 (y' : Int)] 1 1 rfl rfl (by simp [Value.oneCell']) (by simp [maxLen]; omega) (by omega) hz3 ?_; intro v7 w7 hown7 hg7; have Hb7 := Lib.hid (below_apd Hb3.out Ho3.out hg7 (Nat.le_of_lt hgl) (Nat.le_trans (Nat.le_of_lt hgl) hz3)); obtain ⟨A7, c7, rfl⟩ := own_sl hown7; have Hown7 := Lib.hid hown7; have Hs7 := Lib.hid (Hs3.out.grown hg7 (fun z hz => by have := (Ho3.out.lt z hz).1; omega)); clear hown7 hg7)
      go_roundw
      case rel => exact ⟨k + 1, q - 1, _, _, by have := Hkq.out; omega, by congr 1; omega, by rw [show 2 + 4 * (k + 1) = 2 + 4 * k + 2 + 2 by omega]; exact Hs7.out, by rw [Hsn.out]; exact Hown7.out, HSn.out, Hb7.out⟩
      case measure => first | (simp [intOf]; done) | (simp [intOf]; omega)
set_option maxHeartbeats 400000 in
theorem A2Train_any (B : Nat) (cv : Value) (bs : List UInt8) (w : World) (h : Rd w B cv bs.length 1 (bs.map byV)) (hB : B ≤ w.heap.size) :
    Calls Try.prog 32 #[cv] w (RetTr w.heap.size w) := by
  have HF := Lib.hid (l00From_any B cv bs w h hB)
  have HD := Lib.hid (fun wx hx => l04Draw_any B w.heap.size bs wx hx)
  unfold RetTr at HD
  obtain ⟨A, c, rfl⟩ := rd_sl h
  clear h
  go_enter Try.func32, Try.ntmps32
  go_wp2_with fail
  refine HF.out.mono ?_; rintro e w1 ⟨rfl, hs1, hb1, hlt⟩
  have Hs1 := Lib.hid hs1
  have Hb1 := Lib.hid hb1
  clear hs1 hb1
  go_wp2_with fail
  refine (HD.out _ Hs1.out).mono ?_; rintro e w2 ⟨v2, n, a, b, rfl, h1, h5, hS, ho2, hb2⟩
  obtain ⟨A2, c2, rfl⟩ := own_sl ho2
  have Ho2 := Lib.hid (ownsRow_le ho2 (Nat.le_of_lt hlt))
  have Hb2 := Lib.hid (Hb1.out.trans hb2)
  clear ho2 hb2
  go_wp2_with fail
  go_ret
  exact ⟨_, n, a, b, rfl, h1, h5, hS, Ho2.out, Hb2.out⟩
end Go.Proofs.Ytddiielbmjkppaa
