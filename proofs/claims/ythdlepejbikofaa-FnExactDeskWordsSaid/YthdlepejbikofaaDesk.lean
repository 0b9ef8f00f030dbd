/- DeskWords: the list, both sides, and the law. -/
import Derived.Test.YthdlepejbikofaaMark
namespace Go.Proofs.Ythdlepejbikofaa
open Go.RowKit Go.Joins

/-- the words of a desk -/
def deskW : List ByteArray := [⟨#[97, 100, 100]⟩, ⟨#[99, 108, 101, 97, 114]⟩, ⟨#[99, 117, 116]⟩, ⟨#[100, 105, 103, 105, 116]⟩, ⟨#[102, 97, 117, 108, 116]⟩, ⟨#[102, 101, 119]⟩, ⟨#[102, 105, 110, 100]⟩, ⟨#[108, 101, 102, 116]⟩, ⟨#[109, 117, 108]⟩, ⟨#[110, 101, 119]⟩, ⟨#[110, 111, 116, 101, 115]⟩, ⟨#[114, 101, 112, 97, 105, 114]⟩, ⟨#[114, 101, 112, 108, 97, 121]⟩, ⟨#[114, 105, 103, 104, 116]⟩, ⟨#[115, 101, 116]⟩, ⟨#[115, 104, 111, 119]⟩, ⟨#[115, 117, 98]⟩, ⟨#[116, 114, 121]⟩, ⟨#[122, 101, 114, 111]⟩]

/-- a new slice is handed back -/
def RetOwn (w : World) (t : TypeId) (sz n : Nat) (cs : List Value) (e : Ending) (w' : World) : Prop := ∃ v, e = .returned v ∧ w'.ownsRow w.heap.size t sz v n cs ∧ Below w.heap.size w w'

set_option maxHeartbeats 400000 in
theorem l28Words_any (w : World) : Calls Try.prog 46 #[] w (RetOwn w 9 1 19 (strs deskW)) := by
  have hb := (Below.refl w.heap.size w).alloc (Nat.le_refl _)
  have ho := fun (cs : Array Value) (h : cs.size = 19 * 1) => World.ownsRow_lit (base := w.heap.size) (e := 9) (size := 1) w cs 19 (Nat.le_refl _) (by simp [maxLen]) h
  go_enter Try.func46, Try.ntmps46
  go_wp2_with fail
  go_ret
  exact ⟨_, rfl, ho _ rfl, hb _⟩
set_option maxHeartbeats 400000 in
theorem DeskI_any (w : World) : Calls Try.prog 23 #[] w (RetOwn w 9 1 19 (strs deskW)) := by
  have hb := (Below.refl w.heap.size w).alloc (Nat.le_refl _)
  have ho := fun (cs : Array Value) (h : cs.size = 19 * 1) => World.ownsRow_lit (base := w.heap.size) (e := 9) (size := 1) w cs 19 (Nat.le_refl _) (by simp [maxLen]) h
  go_enter Try.func23, Try.ntmps23
  go_wp2_with fail
  go_ret
  exact ⟨_, rfl, ho _ rfl, hb _⟩
theorem DeskS_any (w : World) : Calls Try.prog 22 #[] w (RetOwn w 9 1 19 (strs deskW)) := by
  go_enter Try.func22, Try.ntmps22
  go_wp2_with fail
  refine (l28Words_any _).mono ?_; rintro e w1 ⟨v, rfl, ho, hb⟩
  go_wp2_with fail
  go_ret
  exact ⟨_, rfl, ho, hb⟩

set_option maxHeartbeats 800000 in
theorem walkFnExactDeskWords (w : World) : Calls Try.prog 8 #[] w fun e w' => e = .returned (.bool true) ∧ Below w.heap.size w w' := by
  go_enter Try.func8, Try.ntmps8
  go_wp2_with fail
  refine (DeskS_any _).mono ?_; rintro e w1 ⟨v1, rfl, ho1, hb1⟩
  go_wp2_with fail
  refine (DeskI_any _).mono ?_; rintro e w2 ⟨v2, rfl, ho2, hb2⟩
  have ho1' := own_below ho1 hb2
  go_wp2_with fail
  refine (eqStringS_same _ _ v2 v1 deskW 19 _ rfl (Rd.of_own ho2) (Rd.of_own ho1') (by omega)).mono ?_
  rintro e w3 ⟨rfl, n3, rfl⟩
  have hb02 := hb1.trans (hb2.mono hb1.size)
  go_wp2_with fail
  refine (markStringS_any _ v2 1 19 _ _ (ho2.drewN n3) (by omega) (by omega)).mono ?_
  rintro e w4 ⟨rfl, hg4, ho4⟩
  have hb04 : Below w.heap.size w w4 := (below_drewN hb02 n3).grown hg4 hb02.size (fun k hk => Nat.le_trans hb1.size (ho2.lt k hk).1)
  have ho14 : w4.ownsRow _ 9 1 v1 19 (strs deskW) := (ho1'.drewN n3).kept hg4 (by
    rcases hv : v1.ownBlock with _ | k
    · exact .inl rfl
    · refine .inr (fun h => ?_)
      have h1 := (ho1.lt k hv).2
      have h2 := (ho2.lt k h.symm).1
      omega)
  go_wp2_with fail
  refine (heldStringS_any _ v2 1 19 _ (Rd.of_own ho4) (Nat.le_refl _) (by omega) (by omega)).mono ?_
  rintro e w5 ⟨rfl, hb5⟩
  have hb05 := hb04.trans (hb5.mono hb04.size)
  have ho15 := own_below ho14 hb5
  have ho45 := own_below ho4 hb5
  go_wp2_with fail
  refine (DeskI_any _).mono ?_; rintro e w6 ⟨v6, rfl, ho6, hb6⟩
  have hb06 := hb05.trans (hb6.mono hb05.size)
  have ho16 := own_below ho15 hb6
  have ho46 := own_below ho45 hb6
  go_wp2_with fail
  refine (eqStringS_same _ _ v6 v1 deskW 19 _ rfl (Rd.of_own ho6) (Rd.of_own ho16) (by omega)).mono ?_
  rintro e w7 ⟨rfl, n7, rfl⟩
  have hb07 := below_drewN hb06 n7
  go_wp2_with fail
  refine (heldStringS_any _ v2 1 19 _ (Rd.of_own (ho46.drewN n7)) (Nat.le_refl _) (by omega) (by omega)).mono ?_
  rintro e w8 ⟨rfl, hb8⟩
  have hb08 := hb07.trans (hb8.mono hb07.size)
  go_wp2_with fail
  go_ret
  exact ⟨rfl, hb08⟩

end Go.Proofs.Ythdlepejbikofaa
