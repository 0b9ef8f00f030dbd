/- Registers, part 4: the digits of a base, on the reference's side. -/
import Derived.Test.YtfaoilonkonmkaaReg3
namespace Go.Proofs.Ytfaoilonkonmkaa
open Go.RowKit Go.Joins

def okD (b : Int) (zs : List Int) : Bool := digB b zs && inB (zs.length : Int) 1 16
theorem digB_bad (b : Int) (zs : List Int) (k : Nat) (hk : k < zs.length) (h : inB zs[k] 0 (b - 1) = false) : digB b zs = false := by
  unfold digB
  rw [List.all_eq_false]
  exact ⟨_, List.getElem_mem hk, by simp [h]⟩
theorem digB_step (b : Int) (zs : List Int) (k : Nat) (hk : k < zs.length) (h0 : digB b (zs.take k) = true) (h : inB zs[k] 0 (b - 1) = true) : digB b (zs.take (k + 1)) = true := by
  unfold digB at *
  rw [List.take_succ_eq_append_getElem hk, List.all_append, h0]
  simp [h]

set_option maxHeartbeats 800000 in
theorem l02Digits_any (B : Nat) (b : Int) (v : Value) (zs : List Int) (w : World) (h : Rd w B v zs.length 1 (ints zs)) (hb : 2 ≤ b) (hb2 : b ≤ 16) (hl : zs.length ≤ 1048576) :
    Calls Try.prog 138 #[.int .i64 b, v] w fun e w' => e = .returned (.bool (okD b zs)) ∧ w = w' := by
  have h' := h
  obtain ⟨_, A, c, rfl, _⟩ := h'
  have H := Lib.hid h; clear h
  go_enter Try.func138, Try.ntmps138
  go_wp2_with fail
  go_loop [5] (fun i => ∃ k : Nat, k ≤ zs.length ∧ digB b (zs.take k) = true ∧ i = .int .i64 k) (fun i => zs.length - (intOf i).toNat)
  case atStart => exact ⟨0, Nat.zero_le _, rfl, rfl⟩
  case round =>
    obtain ⟨k, hk, hall, rfl⟩ := hrel
    have Hall := Lib.hid hall; clear hall
    by_cases hlt : k < zs.length
    · obtain ⟨p1, o1, hA, hx⟩ := ints_rd H.out k hlt
      subst hA
      have HI := Lib.hid (fun wx => l00In_any zs[k] 0 (b - 1) wx)
      have Hbad := Lib.hid (fun h => digB_bad b zs k hlt h)
      have Hst := Lib.hid (fun h => digB_step b zs k hlt Hall.out h)
      generalize zs[k] = z at *
      have hlt' : (k : Int) < (zs.length : Int) := by omega
      cases hok : inB z 0 (b - 1) with
      | false =>
        have hfin := Lib.hid (show okD b zs = false by unfold okD; rw [Hbad.out hok, Bool.false_and])
        rw [hok] at HI
        clear Hbad Hst hok
        go_wp2_with fail
        refine (HI.out _).mono ?_; rintro e w1 ⟨rfl, rfl⟩
        go_wp2_with fail
        go_ret
        rw [hfin.out]; exact ⟨rfl, rfl⟩
      | true =>
        have hst := Lib.hid (Hst.out hok)
        rw [hok] at HI
        clear Hbad Hst hok
        go_wp2_with fail
        refine (HI.out _).mono ?_; rintro e w1 ⟨rfl, rfl⟩
        go_wp2_with fail
        go_round
        case rel => exact ⟨k + 1, by omega, hst.out, by go_num⟩
        case measure => simp [intOf]; omega
    · have hall := Hall.out
      rw [List.take_of_length_le (by omega)] at hall
      have hfin := Lib.hid (show okD b zs = inB (zs.length : Int) 1 16 by unfold okD; rw [hall, Bool.true_and])
      have hlt' : (zs.length : Int) ≤ (k : Int) := by omega
      clear hall
      go_wp2_with fail
      refine (l00In_any _ _ _ _).mono ?_; rintro e w1 ⟨rfl, rfl⟩
      go_wp2_with fail
      go_ret
      rw [hfin.out]; exact ⟨rfl, rfl⟩
end Go.Proofs.Ytfaoilonkonmkaa
