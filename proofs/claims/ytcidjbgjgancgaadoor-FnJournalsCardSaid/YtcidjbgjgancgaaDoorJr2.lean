/- Journals, part 2: lines. -/
import Derived.Test.YtcidjbgjgancgaaDoorJr1
namespace Go.Proofs.YtcidjbgjgancgaaDoor
open Go.RowKit Go.Joins

theorem nDig_le (u : Nat) (h : u ≤ 9223372036854775808) : Lib.nDigits u ≤ 19 := by
  have key : ∀ (k u : Nat), u < 10 ^ (k + 1) → Lib.nDigits u ≤ k + 1 := by
    intro k
    induction k with
    | zero => intro u hu; rw [Lib.nDigits_small (by simpa using hu)]; omega
    | succ k ih =>
      intro u hu
      by_cases h10 : u < 10
      · rw [Lib.nDigits_small h10]; omega
      · rw [Lib.nDigits_big h10]
        have := ih (u / 10) (by rw [Nat.pow_succ] at hu; omega)
        omega
  refine key 18 u ?_
  have : (10 : Nat) ^ (18 + 1) = 10000000000000000000 := by decide
  omega
theorem decS_size (n : Int) (h0 : -9223372036854775808 ≤ n) (h1 : n ≤ 9223372036854775807) : (decS n).size ≤ 20 := by
  show (Lib.itoa n).toArray.size ≤ 20
  unfold Lib.itoa
  split
  · have := nDig_le n.natAbs (by omega)
    simp only [List.size_toArray, List.length_cons, Lib.decDigits_length]; omega
  · have := nDig_le n.toNat (by omega)
    simp only [List.size_toArray, Lib.decDigits_length]; omega

/-- the beginning of a line, and a line -/
def headS (number sum : Int) : ByteArray := decS number ++ ⟨#[32]⟩ ++ decS sum ++ ⟨#[32]⟩
def lineS (number sum : Int) (note : ByteArray) : ByteArray := headS number sum ++ note ++ ⟨#[10]⟩
theorem headS_size (number sum : Int) (h0 : 0 ≤ number) (h1 : number ≤ 1000001) (h2 : 0 ≤ sum) (h3 : sum ≤ 1000001) : (headS number sum).size ≤ 42 := by
  have := decS_size number (by omega) (by omega)
  have := decS_size sum (by omega) (by omega)
  unfold headS
  simp only [ByteArray.size_append]
  show _ + 1 + _ + 1 ≤ _
  omega
theorem lineS_size (number sum : Int) (note : ByteArray) (h0 : 0 ≤ number) (h1 : number ≤ 1000001) (h2 : 0 ≤ sum) (h3 : sum ≤ 1000001) : (lineS number sum note).size ≤ note.size + 43 := by
  have := headS_size number sum h0 h1 h2 h3
  unfold lineS
  simp only [ByteArray.size_append]
  show _ + _ + 1 ≤ _
  omega

set_option maxHeartbeats 400000 in
theorem l26Head_any (number sum : Int) (w : World) (h0 : 0 ≤ number) (h1 : number ≤ 1000001) (h2 : 0 ≤ sum) (h3 : sum ≤ 1000001) :
    Calls Tryd.prog 50 #[.int .i64 number, .int .i64 sum] w fun e w' => e = .returned (.string (headS number sum)) ∧ Below w.heap.size w w' := by
  obtain ⟨a, rfl⟩ : ∃ a : Nat, number = a := ⟨number.toNat, by omega⟩
  obtain ⟨b, rfl⟩ : ∃ b : Nat, sum = b := ⟨sum.toNat, by omega⟩
  have s1 := decS_size a (by omega) (by omega)
  have s2 := decS_size b (by omega) (by omega)
  have HA := Lib.hid (fun w => l01Dec_nonneg a w (by omega))
  have HB := Lib.hid (fun w => l01Dec_nonneg b w (by omega))
  have HH := Lib.hid (show headS a b = decS a ++ ⟨#[32]⟩ ++ decS b ++ ⟨#[32]⟩ from rfl)
  generalize headS a b = H at *
  generalize decS a = A at *
  generalize decS b = B at *
  go_enter Tryd.func50, Tryd.ntmps50
  go_wp2_with fail
  refine (HA.out _).mono ?_; rintro e w1 ⟨rfl, hb1⟩
  go_wp2_with fail
  refine (HB.out _).mono ?_; rintro e w2 ⟨rfl, hb2⟩
  have hb := hb1.trans (hb2.mono hb1.size)
  have e1 : (A ++ ⟨#[32]⟩ : ByteArray).size = A.size + 1 := ByteArray.size_append
  have e2 : (A ++ ⟨#[32]⟩ ++ B : ByteArray).size = A.size + 1 + B.size := by rw [ByteArray.size_append, e1]
  clear hb1 hb2
  go_wp2_with fail
  go_ret
  rw [HH.out]; exact ⟨rfl, hb⟩

theorem noteSum_bd (before number : Int) (l : List UInt8) : 0 ≤ noteSum before number l ∧ noteSum before number l < 65521 := by
  unfold noteSum
  split
  · exact sumF_bd _ (by omega) (by omega) l
  · omega

set_option maxHeartbeats 400000 in
theorem l26Line_any (before number : Int) (note : ByteArray) (w : World) (h0 : 0 ≤ number) (h1 : number ≤ 1000001) (hs : note.size ≤ 1048576) :
    Calls Tryd.prog 38 #[.int .i64 before, .int .i64 number, .string note] w fun e w' =>
      e = .returned (.tuple #[.string (lineS number (noteSum before number note.data.toList) note), .int .i64 (noteSum before number note.data.toList)]) ∧ Below w.heap.size w w' := by
  have hbd := noteSum_bd before number note.data.toList
  have HN := Lib.hid (fun w => specNoteSum before number note w hs)
  generalize noteSum before number note.data.toList = S at *
  obtain ⟨hS0, hS1⟩ := hbd
  have hsz := headS_size number S h0 h1 hS0 (by omega)
  have HH := Lib.hid (fun w => l26Head_any number S w h0 h1 hS0 (by omega))
  have HL := Lib.hid (show lineS number S note = headS number S ++ note ++ ⟨#[10]⟩ from rfl)
  generalize lineS number S note = L at *
  generalize headS number S = H at *
  have e1 : (H ++ note : ByteArray).size = H.size + note.size := ByteArray.size_append
  go_enter Tryd.func38, Tryd.ntmps38
  go_wp2_with fail
  refine (HN.out _).mono ?_; rintro e w1 ⟨rfl, rfl⟩
  go_wp2_with fail
  refine (HH.out _).mono ?_; rintro e w1 ⟨rfl, hb⟩
  go_wp2_with fail
  go_ret2
  rw [HL.out]; exact ⟨rfl, hb⟩

/-- the block of a journal that is read -/
def Jn (w : World) (g : Nat) (nv : Value) (sum : Int) (size : Nat) : Prop := w.heap[g]? = some (.cells #[nv, .int .i64 sum, .int .i64 size] 49 (0, 0))
theorem Jn.cells {w : World} {g : Nat} {nv : Value} {sum : Int} {size : Nat} (h : Jn w g nv sum size) :
    w.cell? ⟨g, 0, none⟩ = some nv ∧ w.cell? ⟨g, 1, none⟩ = some (.int .i64 sum) ∧ w.cell? ⟨g, 2, none⟩ = some (.int .i64 size) ∧ w.frozen? ⟨g, 0, none⟩ = false ∧ w.frozen? ⟨g, 1, none⟩ = false ∧ w.frozen? ⟨g, 2, none⟩ = false :=
  ⟨by rw [cell_of_row w g 0 _ _ _ h]; rfl, by rw [cell_of_row w g 1 _ _ _ h]; rfl, by rw [cell_of_row w g 2 _ _ _ h]; rfl, frozen_of_row w g 0 _ _ h, frozen_of_row w g 1 _ _ h, frozen_of_row w g 2 _ _ h⟩
theorem Jn.lt {w : World} {g : Nat} {nv : Value} {sum : Int} {size : Nat} (h : Jn w g nv sum size) : g < w.heap.size := (Array.getElem?_eq_some_iff.1 h).1
theorem Jn.below {w w' : World} {g : Nat} {nv : Value} {sum : Int} {size : Nat} (h : Jn w g nv sum size) (hb : Below w.heap.size w w') : Jn w' g nv sum size := (hb.block _ h.lt).trans h

set_option maxHeartbeats 800000 in
theorem next_j (g n c : Nat) (A : Option Addr) (sum : Int) (size : Nat) (note : ByteArray) (w : World) (hj : Jn w g (.slice A n c) sum size) (h1 : n ≤ 1000000) (hs : note.size ≤ 1048576) (ht : Tab w) :
    Calls Tryd.prog 40 #[.pointer (some ⟨g, 0, none⟩), .string note] w fun e w' =>
      e = .returned (.tuple #[.string (lineS ((n : Int) + 1) (noteSum sum ((n : Int) + 1) note.data.toList) note), .int .i64 (noteSum sum ((n : Int) + 1) note.data.toList)]) ∧ Below w.heap.size w w' := by
  have hbd := noteSum_bd sum ((n : Int) + 1) note.data.toList
  have HN := Lib.hid (fun w => implNoteSum sum ((n : Int) + 1) note w hs)
  generalize noteSum sum ((n : Int) + 1) note.data.toList = S at *
  obtain ⟨hS0, hS1⟩ := hbd
  obtain ⟨hc0, hc1, _, _, _, _⟩ := hj.cells
  clear hj
  have s1 := decS_size ((n : Int) + 1) (by omega) (by omega)
  have s2 := decS_size S (by omega) (by omega)
  have HA := Lib.hid (fun w ht => Decimal_any ((n : Int) + 1) w (by omega) (by omega) ht)
  have HB := Lib.hid (fun w ht => Decimal_any S w (by omega) (by omega) ht)
  have HL := Lib.hid (show lineS ((n : Int) + 1) S note = decS ((n : Int) + 1) ++ ⟨#[32]⟩ ++ decS S ++ ⟨#[32]⟩ ++ note ++ ⟨#[10]⟩ from rfl)
  have Ht := Lib.hid ht; clear ht
  generalize lineS ((n : Int) + 1) S note = L at *
  generalize decS ((n : Int) + 1) = D at *
  generalize decS S = E at *
  have e1 : (D ++ ⟨#[32]⟩ : ByteArray).size = D.size + 1 := ByteArray.size_append
  have e2 : (D ++ ⟨#[32]⟩ ++ E : ByteArray).size = D.size + 1 + E.size := by rw [ByteArray.size_append, e1]
  have e3 : (D ++ ⟨#[32]⟩ ++ E ++ ⟨#[32]⟩ : ByteArray).size = D.size + 1 + E.size + 1 := by rw [ByteArray.size_append, e2]; rfl
  have e4 : (D ++ ⟨#[32]⟩ ++ E ++ ⟨#[32]⟩ ++ note : ByteArray).size = D.size + 1 + E.size + 1 + note.size := by rw [ByteArray.size_append, e3]
  go_enter Tryd.func40, Tryd.ntmps40
  go_wp2_with fail
  refine (HN.out _).mono ?_; rintro e w1 ⟨rfl, rfl⟩
  go_wp2_with fail
  refine (HA.out _ Ht.out).mono ?_; rintro e w1 ⟨rfl, hb1⟩
  have Ht1 := Lib.hid (Ht.out.below hb1)
  go_wp2_with fail
  refine (HB.out _ Ht1.out).mono ?_; rintro e w2 ⟨rfl, hb2⟩
  have hb := hb1.trans (hb2.mono hb1.size)
  clear hb1 hb2
  go_wp2_with fail
  go_ret2
  rw [HL.out]; exact ⟨rfl, hb⟩
end Go.Proofs.YtcidjbgjgancgaaDoor
