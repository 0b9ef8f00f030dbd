/- Programs' lines, part 8: CheckProgram, both sides, and the law FnExactCheckProgram. -/
import Derived.Test.YtjkjlpjeamifbaaDoorCp7
import Derived.Test.YtjkjlpjeamifbaaDoorMark
namespace Go.Proofs.YtjkjlpjeamifbaaDoor
open Go.RowKit Go.Joins

def chkP (zs : List ByteArray) : Int × Int × Int := if 120 < zs.length then (0, 0, 5) else ((rdL 0 0 zs).1, (rdL 0 0 zs).2, 0)
def RetK (w : World) (zs : List ByteArray) (e : Ending) (w' : World) : Prop := e = .returned (.tuple #[.int .i64 (chkP zs).1, .int .i64 (chkP zs).2.1, .int .i64 (chkP zs).2.2]) ∧ Below w.heap.size w w'

theorem CheckPI_any (B : Nat) (v : Value) (zs : List ByteArray) (w : World) (h : Rd w B v zs.length 1 (strs zs)) (hB : B ≤ w.heap.size) (hl : zs.length ≤ 1048576) (hz : ∀ z ∈ zs, z.size ≤ 1048576) (ht : Tab w) :
    Calls Tryd.prog 27 #[v] w (RetK w zs) := by
  have HR := Lib.hid (readLines_any B v zs w h hB hl hz ht)
  have hb0 := Below.refl w.heap.size w
  obtain ⟨_, A, c, rfl, _⟩ := h
  clear hz ht
  by_cases hb : 120 < zs.length
  · have hb' : (120 : Int) < (zs.length : Int) := by omega
    have hfin : chkP zs = (0, 0, 5) := if_pos hb
    go_enter Tryd.func27, Tryd.ntmps27
    go_wp2_with fail
    go_ret3
    unfold RetK; rw [hfin]; exact ⟨rfl, hb0⟩
  · have hb' : ¬ (120 : Int) < (zs.length : Int) := by omega
    have hfin : chkP zs = ((rdL 0 0 zs).1, (rdL 0 0 zs).2, 0) := if_neg hb
    unfold RetLs at HR
    go_enter Tryd.func27, Tryd.ntmps27
    go_wp2_with fail
    refine HR.out.mono ?_; rintro e w6 ⟨v6, rfl, ho6, hb6⟩
    go_wp2_with fail
    go_ret3
    unfold RetK; rw [hfin]; exact ⟨rfl, hb6⟩
theorem CheckPS_any (B : Nat) (v : Value) (zs : List ByteArray) (w : World) (h : Rd w B v zs.length 1 (strs zs)) (hB : B ≤ w.heap.size) (hl : zs.length ≤ 1048576) (hz : ∀ z ∈ zs, z.size ≤ 1048576) :
    Calls Tryd.prog 26 #[v] w (RetK w zs) := by
  have HR := Lib.hid (l11Read_any B v zs w h hB hl hz)
  have hb0 := Below.refl w.heap.size w
  obtain ⟨_, A, c, rfl, _⟩ := h
  clear hz
  by_cases hb : 120 < zs.length
  · have hb' : (120 : Int) < (zs.length : Int) := by omega
    have hfin : chkP zs = (0, 0, 5) := if_pos hb
    go_enter Tryd.func26, Tryd.ntmps26
    go_wp2_with fail
    go_ret3
    unfold RetK; rw [hfin]; exact ⟨rfl, hb0⟩
  · have hb' : ¬ (120 : Int) < (zs.length : Int) := by omega
    have hfin : chkP zs = ((rdL 0 0 zs).1, (rdL 0 0 zs).2, 0) := if_neg hb
    unfold RetLs at HR
    go_enter Tryd.func26, Tryd.ntmps26
    go_wp2_with fail
    refine HR.out.mono ?_; rintro e w6 ⟨v6, rfl, ho6, hb6⟩
    go_wp2_with fail
    go_ret3
    unfold RetK; rw [hfin]; exact ⟨rfl, hb6⟩

set_option maxRecDepth 100000 in
set_option maxHeartbeats 800000 in
theorem walkFnExactCheckProgram {W : World} (v : Value) (zs : List ByteArray) (h : Rd W W.heap.size v zs.length 1 (strs zs)) (hl : zs.length ≤ maxLen ∧ ∀ z ∈ zs, z.size ≤ maxLen) (ht : Tab W) :
    Calls Tryd.prog 6 #[v] W fun e w' => e = .returned (.bool true) ∧ Below W.heap.size W w' := by
  have hb0 := Below.refl W.heap.size W
  have H := Lib.hid h; clear h
  have Ht := Lib.hid ht; clear ht
  have Hsz := Lib.hid (szStringS_any W.heap.size v zs W H.out hl)
  clear hl
  go_enter Tryd.func6, Tryd.ntmps6
  go_wp2_with fail
  refine Hsz.out.mono ?_; rintro e w1 ⟨⟨r, rfl, hr⟩, rfl⟩
  by_cases hr0 : r < 0
  · clear hr
    go_wp2_with fail
    go_ret
    exact ⟨rfl, hb0⟩
  · obtain ⟨hl1, hl2⟩ := hr (by omega)
    clear hr
    have HS := Lib.hid (fun B v w h hB => CheckPS_any B v zs w h hB hl1 hl2)
    have HI := Lib.hid (fun B v w h hB ht => CheckPI_any B v zs w h hB hl1 hl2 ht)
    have HT := Lib.hid (fun B v w h hB => toStringS_any B v zs w h hB hl1)
    clear hl2
    unfold RetS at HT
    unfold RetK at HS HI
    generalize (chkP zs).1 = x at *
    generalize (chkP zs).2.1 = y at *
    generalize (chkP zs).2.2 = z at *
    go_wp2_with fail
    refine (HT.out _ _ _ H.out (Nat.le_refl _)).mono ?_; rintro e w1 ⟨v1, rfl, ho1, hb1⟩
    go_wp2_with fail
    refine (HS.out _ v1 _ (Rd.of_own ho1) (Nat.le_refl _)).mono ?_; rintro e w2 ⟨rfl, hb2⟩
    have hb02 := hb1.trans (hb2.mono hb1.size)
    clear ho1
    go_wp2_with fail
    refine (HT.out _ _ _ (H.out.below hb02) hb02.size).mono ?_; rintro e w3 ⟨v3, rfl, ho3, hb3⟩
    have hb03 := hb02.trans (hb3.mono hb02.size)
    go_wp2_with fail
    refine (HI.out _ v3 _ (Rd.of_own ho3) (Nat.le_refl _) (Ht.out.below hb03)).mono ?_; rintro e w4 ⟨rfl, hb4⟩
    have ho34 := own_below ho3 hb4
    have hb04 := hb03.trans (hb4.mono hb03.size)
    go_wp2_with fail
    refine (HT.out _ _ _ (H.out.below hb04) hb04.size).mono ?_; rintro e w5 ⟨v5, rfl, ho5, hb5⟩
    have ho35 := own_below ho34 hb5
    have hb05 := hb04.trans (hb5.mono hb04.size)
    go_wp2_with fail
    refine (eqStringS_same _ _ v3 v5 zs zs.length _ rfl (Rd.of_own ho35) (Rd.of_own ho5) (by omega)).mono ?_
    rintro e w6 ⟨rfl, n6, rfl⟩
    have hb06 := below_drewN hb05 n6
    go_wp2_with fail
    go_ret
    exact ⟨rfl, hb06⟩
end Go.Proofs.YtjkjlpjeamifbaaDoor
