/- Similar entries, part 2: the words two entries share; the reference's side. -/
import Derived.Test.YtfaoilonkonmkaaSi1
import Derived.Test.YtfaoilonkonmkaaReg1
namespace Go.Proofs.Ytfaoilonkonmkaa
open Go.RowKit Go.Joins

/-- how many words of the one list the other has -/
def comN : List ByteArray → List ByteArray → Nat
  | [], _ => 0
  | x :: l, b => if hasW b x = true then 1 + comN l b else comN l b
theorem comN_at (ws b : List ByteArray) (k : Nat) (hk : k < ws.length) : comN (ws.drop k) b = if hasW b ws[k] = true then 1 + comN (ws.drop (k + 1)) b else comN (ws.drop (k + 1)) b := by
  rw [List.drop_eq_getElem_cons hk]; rfl
theorem comN_end (ws b : List ByteArray) (k : Nat) (hk : ws.length ≤ k) : comN (ws.drop k) b = 0 := by rw [List.drop_of_length_le hk]; rfl
theorem comN_le : ∀ (ws b : List ByteArray), comN ws b ≤ ws.length := by
  intro ws b
  induction ws with
  | nil => exact Nat.le_refl _
  | cons x l ih => unfold comN; split <;> simp <;> omega

set_option maxRecDepth 100000 in
set_option maxHeartbeats 1600000 in
theorem l25Common_any (B b1 o1 b2 o2 : Nat) (x y : Ent) (A1 A2 : Option Addr) (c1 c2 : Nat) (w : World) (h1 : EntAt w B b1 o1 x A1 c1) (h2 : EntAt w B b2 o2 y A2 c2) (hl1 : x.words.length ≤ 1048576) (hl2 : y.words.length ≤ 1048576) :
    Calls Try.prog 110 #[.pointer (some ⟨b1, o1, none⟩), .pointer (some ⟨b2, o2, none⟩)] w fun e w' => e = .returned (.int .i64 (comN x.words y.words : Nat)) ∧ ∃ n, w' = w.drewN n := by
  have hx4 := h1.c4
  have hy4 := h2.c4
  have HX := Lib.hid h1.words
  have HY := Lib.hid h2.words
  clear h1 h2
  generalize x.words = xs at *
  generalize y.words = ys at *
  go_enter Try.func110, Try.ntmps110
  go_wp2_with fail
  go_loopw [5, 6] (fun c i wr => ∃ k j m0 : Nat, k ≤ xs.length ∧ j ≤ k ∧ comN xs ys = j + comN (xs.drop k) ys ∧ c = .int .i64 (j : Int) ∧ i = .int .i64 (k : Int) ∧ wr = w.drewN m0) (fun _ i _ => xs.length - (intOf i).toNat)
  case atStart => exact ⟨0, 0, 0, Nat.zero_le _, Nat.le_refl _, by simp, rfl, rfl, rfl⟩
  case round =>
    obtain ⟨k, j, m0, hk, hj, heq, rfl, rfl, hwr⟩ := hrel
    have Heq := Lib.hid heq; clear heq
    have hx4' : wr.cell? ⟨b1, o1 + 4, none⟩ = some (.slice A1 xs.length c1) := by rw [hwr]; exact hx4
    have hy4' : wr.cell? ⟨b2, o2 + 4, none⟩ = some (.slice A2 ys.length c2) := by rw [hwr]; exact hy4
    have HX' : Hid (Rd wr B (.slice A1 xs.length c1) xs.length 1 (strs xs)) := Lib.hid (by rw [hwr]; exact HX.out.drewN m0)
    have HY' : Hid (Rd wr B (.slice A2 ys.length c2) ys.length 1 (strs ys)) := Lib.hid (by rw [hwr]; exact HY.out.drewN m0)
    have Hw := Lib.hid (fun n => (show wr.drewN n = w.drewN (m0 + n) by rw [hwr, World.drewN_drewN]))
    have Hw0 := Lib.hid hwr
    clear hwr hx4 hy4
    by_cases hlt : k < xs.length
    · obtain ⟨_, bb, oo, hA, hxc⟩ := rd_at HX'.out k hlt
      subst hA
      have hlt' : (k : Int) < (xs.length : Int) := by omega
      have Hst := Lib.hid (comN_at xs ys k hlt)
      generalize xs[k] = z at *
      have HC := Lib.hid (fun n => flipC (l25Has_any B _ ys z (wr.drewN n) (HY'.out.drewN n) hl2))
      cases hz : hasW ys z with
      | true =>
        have hfin := Lib.hid (show comN xs ys = (j + 1) + comN (xs.drop (k + 1)) ys by rw [Heq.out, Hst.out, if_pos hz]; omega)
        rw [hz] at HC
        clear hz Hst
        go_wp2_with fail
        go_quiet ((go_at_call 157; exact Calls.quiet_of_same (HC.out _)))
        go_wp2_with fail
        go_roundw
        case rel => exact ⟨k + 1, j + 1, _, by omega, by omega, hfin.out, by go_num, by go_num, Hw.out _⟩
        case measure => simp [intOf]; omega
      | false =>
        have hfin := Lib.hid (show comN xs ys = j + comN (xs.drop (k + 1)) ys by rw [Heq.out, Hst.out, if_neg (by rw [hz]; decide)])
        rw [hz] at HC
        clear hz Hst
        go_wp2_with fail
        go_quiet ((go_at_call 157; exact Calls.quiet_of_same (HC.out _)))
        go_wp2_with fail
        go_roundw
        case rel => exact ⟨k + 1, j, _, by omega, by omega, hfin.out, by go_num, by go_num, Hw.out _⟩
        case measure => simp [intOf]; omega
    · have hfin := Lib.hid (show comN xs ys = j by rw [Heq.out, comN_end xs ys k (by omega)]; rfl)
      have hlt' : (xs.length : Int) ≤ (k : Int) := by omega
      go_wp2_with fail
      go_ret
      rw [hfin.out]; exact ⟨rfl, _, Hw0.out⟩
end Go.Proofs.Ytfaoilonkonmkaa
