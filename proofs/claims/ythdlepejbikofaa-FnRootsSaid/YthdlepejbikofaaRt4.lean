/- Roots, part 4: RootOf, RootTurns on both sides, f6ints. -/
import Derived.Test.YthdlepejbikofaaRt2
namespace Go.Proofs.Ythdlepejbikofaa
open Go.RowKit Go.Joins

def okR (b v : Int) : Bool := inB b 2 16 && inB v 0 1000000000000
def codeR (b v : Int) : Int := if okR b v = true then 0 else 2
theorem codeR_no {b v : Int} (h : okR b v = false) : codeR b v = 2 := by unfold codeR; rw [h]; rfl
theorem codeR_yes {b v : Int} (h : okR b v = true) : codeR b v = 0 := by unfold codeR; rw [h]; rfl

set_option maxHeartbeats 400000 in
theorem isRootInput_any (b v : Int) (w : World) :
    Calls Try.prog 55 #[.int .i64 b, .int .i64 v] w fun e w' => e = .returned (.bool (okR b v)) ∧ w = w' := by
  have HB : Calls Try.prog 63 #[.int .i64 b] w fun e w' => e = .returned (.bool (inB b 2 16)) ∧ w = w' := by
    go_enter Try.func63, Try.ntmps63
    go_wp2_with fail
    refine (between_any b 2 16 _).mono ?_; rintro e w1 ⟨rfl, rfl⟩
    go_wp2_with fail
    go_ret
    exact ⟨rfl, rfl⟩
  have HB := Lib.hid HB
  have HV := Lib.hid (between_any v 0 1000000000000 w)
  have ho : okR b v = (inB b 2 16 && inB v 0 1000000000000) := rfl
  have Ho := Lib.hid ho; clear ho
  generalize inB b 2 16 = p at *
  generalize inB v 0 1000000000000 = q at *
  generalize okR b v = o at *
  cases p with
  | true =>
    go_enter Try.func55, Try.ntmps55
    go_wp2_with fail
    refine HB.out.mono ?_; rintro e w1 ⟨rfl, rfl⟩
    go_wp2_with fail
    refine HV.out.mono ?_; rintro e w1 ⟨rfl, rfl⟩
    go_wp2_with fail
    go_ret
    rw [Ho.out]; exact ⟨by simp, rfl⟩
  | false =>
    go_enter Try.func55, Try.ntmps55
    go_wp2_with fail
    refine HB.out.mono ?_; rintro e w1 ⟨rfl, rfl⟩
    go_wp2_with fail
    go_ret
    rw [Ho.out]; exact ⟨by simp, rfl⟩

set_option maxHeartbeats 400000 in
theorem l12Code_any (b v : Int) (w : World) :
    Calls Try.prog 57 #[.int .i64 b, .int .i64 v] w fun e w' => e = .returned (.int .i64 (codeR b v)) ∧ w = w' := by
  have HB : Calls Try.prog 64 #[.int .i64 b] w fun e w' => e = .returned (.bool (inB b 2 16)) ∧ w = w' := by
    go_enter Try.func64, Try.ntmps64
    go_wp2_with fail
    refine (l00In_any b 2 16 _).mono ?_; rintro e w1 ⟨rfl, rfl⟩
    go_wp2_with fail
    go_ret
    exact ⟨rfl, rfl⟩
  have HB := Lib.hid HB
  have HV := Lib.hid (l00In_any v 0 1000000000000 w)
  have ho : codeR b v = if (inB b 2 16 && inB v 0 1000000000000) = true then 0 else 2 := rfl
  have Ho := Lib.hid ho; clear ho
  generalize inB b 2 16 = p at *
  generalize inB v 0 1000000000000 = q at *
  generalize codeR b v = o at *
  cases p with
  | true =>
    cases q with
    | true =>
      go_enter Try.func57, Try.ntmps57
      go_wp2_with fail
      refine HB.out.mono ?_; rintro e w1 ⟨rfl, rfl⟩
      go_wp2_with fail
      refine HV.out.mono ?_; rintro e w1 ⟨rfl, rfl⟩
      go_wp2_with fail
      go_ret
      rw [Ho.out]; exact ⟨rfl, rfl⟩
    | false =>
      go_enter Try.func57, Try.ntmps57
      go_wp2_with fail
      refine HB.out.mono ?_; rintro e w1 ⟨rfl, rfl⟩
      go_wp2_with fail
      refine HV.out.mono ?_; rintro e w1 ⟨rfl, rfl⟩
      go_wp2_with fail
      go_ret
      rw [Ho.out]; exact ⟨rfl, rfl⟩
  | false =>
    go_enter Try.func57, Try.ntmps57
    go_wp2_with fail
    refine HB.out.mono ?_; rintro e w1 ⟨rfl, rfl⟩
    go_wp2_with fail
    go_ret
    rw [Ho.out]; exact ⟨rfl, rfl⟩

/-- at numbers that are refused -/
theorem RootOfI_no (b v : Int) (w : World) (h : okR b v = false) :
    Calls Try.prog 38 #[.int .i64 b, .int .i64 v] w fun e w' => e = .returned (.tuple #[.int .i64 0, .int .i64 0, .int .i64 0, .int .i64 2]) ∧ w = w' := by
  have H := Lib.hid (isRootInput_any b v w)
  rw [h] at H
  clear h
  go_enter Try.func38, Try.ntmps38
  go_wp2_with fail
  refine H.out.mono ?_; rintro e w1 ⟨rfl, rfl⟩
  go_wp2_with fail
  exact bodyPost_ret (v := .tuple #[.int .i64 0, .int .i64 0, .int .i64 0, .int .i64 2]) (by simp [results, Try.results38, go_sem]) rfl ⟨rfl, rfl⟩
theorem RootOfS_no (b v : Int) (w : World) (h : okR b v = false) :
    Calls Try.prog 39 #[.int .i64 b, .int .i64 v] w fun e w' => e = .returned (.tuple #[.int .i64 0, .int .i64 0, .int .i64 0, .int .i64 2]) ∧ w = w' := by
  have H := Lib.hid (l12Code_any b v w)
  rw [codeR_no h] at H
  clear h
  go_enter Try.func39, Try.ntmps39
  go_wp2_with fail
  refine H.out.mono ?_; rintro e w1 ⟨rfl, rfl⟩
  go_wp2_with fail
  exact bodyPost_ret (v := .tuple #[.int .i64 0, .int .i64 0, .int .i64 0, .int .i64 2]) (by simp [results, Try.results39, go_sem]) rfl ⟨rfl, rfl⟩
theorem TurnsI_no (b v : Int) (w : World) (h : okR b v = false) :
    Calls Try.prog 40 #[.int .i64 b, .int .i64 v] w fun e w' => e = .returned (.tuple #[.slice none 0 0, .int .i64 2]) ∧ w = w' := by
  have H := Lib.hid (isRootInput_any b v w)
  rw [h] at H
  clear h
  go_enter Try.func40, Try.ntmps40
  go_wp2_with fail
  refine H.out.mono ?_; rintro e w1 ⟨rfl, rfl⟩
  go_wp2_with fail
  go_ret2
  exact ⟨rfl, rfl⟩
theorem TurnsS_no (b v : Int) (w : World) (h : okR b v = false) :
    Calls Try.prog 41 #[.int .i64 b, .int .i64 v] w fun e w' => e = .returned (.tuple #[.slice none 0 0, .int .i64 2]) ∧ w = w' := by
  have H := Lib.hid (l12Code_any b v w)
  rw [codeR_no h] at H
  clear h
  go_enter Try.func41, Try.ntmps41
  go_wp2_with fail
  refine H.out.mono ?_; rintro e w1 ⟨rfl, rfl⟩
  go_wp2_with fail
  go_ret2
  exact ⟨rfl, rfl⟩

theorem okR_yes (b v : Nat) (hb : 2 ≤ b) (hb2 : b ≤ 16) (hv : v ≤ 1000000000000) : okR b v = true := by simp [okR, inB]; omega
/-- at numbers that are taken -/
theorem RootOfI_yes (b v : Nat) (hb : 2 ≤ b) (hb2 : b ≤ 16) (hv : v ≤ 1000000000000) (w : World) :
    Calls Try.prog 38 #[.int .i64 b, .int .i64 v] w fun e w' => e = .returned (.tuple #[.int .i64 (rootR b v).root, .int .i64 (rootR b v).rest, .int .i64 ((rootR b v).turns.length : Nat), .int .i64 0]) ∧ Below w.heap.size w w' := by
  have H := Lib.hid (isRootInput_any b v w)
  rw [okR_yes b v hb hb2 hv] at H
  have HR := Lib.hid (rootTurns_any b v hb hb2 hv w)
  generalize rootR b v = R at *
  go_enter Try.func38, Try.ntmps38
  go_wp2_with fail
  refine H.out.mono ?_; rintro e w1 ⟨rfl, rfl⟩
  go_wp2_with fail
  refine HR.out.mono ?_; rintro e w1 ⟨t, rfl, ho, hb⟩
  obtain ⟨_, A, c, rfl, _⟩ := Rd.of_own ho
  clear ho
  go_wp2_with fail
  exact bodyPost_ret (v := .tuple #[.int .i64 R.root, .int .i64 R.rest, .int .i64 (R.turns.length : Nat), .int .i64 0]) (by simp [results, Try.results38, go_sem]) rfl ⟨rfl, hb⟩
theorem RootOfS_yes (b v : Nat) (hb : 2 ≤ b) (hb2 : b ≤ 16) (hv : v ≤ 1000000000000) (w : World) :
    Calls Try.prog 39 #[.int .i64 b, .int .i64 v] w fun e w' => e = .returned (.tuple #[.int .i64 (rootR b v).root, .int .i64 (rootR b v).rest, .int .i64 ((rootR b v).turns.length : Nat), .int .i64 0]) ∧ Below w.heap.size w w' := by
  have H := Lib.hid (l12Code_any b v w)
  rw [codeR_yes (okR_yes b v hb hb2 hv)] at H
  have HR := Lib.hid (l12Root_any b v hb hb2 hv w)
  generalize rootR b v = R at *
  go_enter Try.func39, Try.ntmps39
  go_wp2_with fail
  refine H.out.mono ?_; rintro e w1 ⟨rfl, rfl⟩
  go_wp2_with fail
  refine HR.out.mono ?_; rintro e w1 ⟨t, rfl, ho, hb⟩
  obtain ⟨_, A, c, rfl, _⟩ := Rd.of_own ho
  clear ho
  go_wp2_with fail
  exact bodyPost_ret (v := .tuple #[.int .i64 R.root, .int .i64 R.rest, .int .i64 (R.turns.length : Nat), .int .i64 0]) (by simp [results, Try.results39, go_sem]) rfl ⟨rfl, hb⟩
/-- the list of turns is handed back -/
def RetT (b v : Nat) (w : World) (e : Ending) (w' : World) : Prop := ∃ t, e = .returned (.tuple #[t, .int .i64 0]) ∧ w'.ownsRow w.heap.size 2 1 t (rootR b v).turns.length (nums (rootR b v).turns) ∧ Below w.heap.size w w'
theorem TurnsI_yes (b v : Nat) (hb : 2 ≤ b) (hb2 : b ≤ 16) (hv : v ≤ 1000000000000) (w : World) :
    Calls Try.prog 40 #[.int .i64 b, .int .i64 v] w (RetT b v w) := by
  have H := Lib.hid (isRootInput_any b v w)
  rw [okR_yes b v hb hb2 hv] at H
  have HR := Lib.hid (rootTurns_any b v hb hb2 hv w)
  go_enter Try.func40, Try.ntmps40
  go_wp2_with fail
  refine H.out.mono ?_; rintro e w1 ⟨rfl, rfl⟩
  go_wp2_with fail
  refine HR.out.mono ?_; rintro e w1 ⟨t, rfl, ho, hb⟩
  have Ho := Lib.hid ho; clear ho
  go_wp2_with fail
  go_ret2
  exact ⟨_, rfl, Ho.out, hb⟩
theorem TurnsS_yes (b v : Nat) (hb : 2 ≤ b) (hb2 : b ≤ 16) (hv : v ≤ 1000000000000) (w : World) :
    Calls Try.prog 41 #[.int .i64 b, .int .i64 v] w (RetT b v w) := by
  have H := Lib.hid (l12Code_any b v w)
  rw [codeR_yes (okR_yes b v hb hb2 hv)] at H
  have HR := Lib.hid (l12Root_any b v hb hb2 hv w)
  go_enter Try.func41, Try.ntmps41
  go_wp2_with fail
  refine H.out.mono ?_; rintro e w1 ⟨rfl, rfl⟩
  go_wp2_with fail
  refine HR.out.mono ?_; rintro e w1 ⟨t, rfl, ho, hb⟩
  have Ho := Lib.hid ho; clear ho
  go_wp2_with fail
  go_ret2
  exact ⟨_, rfl, Ho.out, hb⟩

set_option maxHeartbeats 400000 in
theorem f6ints_same (B1 B2 : Nat) (v1 v2 : Value) (zs : List Nat) (w : World) (h1 : Rd w B1 v1 zs.length 1 (nums zs)) (h2 : Rd w B2 v2 zs.length 1 (nums zs)) (hz : zs.length ≤ 4611686018427387904) :
    Calls Try.prog 42 #[v1, v2] w fun e w' => e = .returned (.bool true) ∧ ∃ n, w' = w.drewN n := by
  have h1' := h1
  have h2' := h2
  obtain ⟨_, A1, c1, rfl, _⟩ := h1'
  obtain ⟨_, A2, c2, rfl, _⟩ := h2'
  have H1 := Lib.hid h1; clear h1
  have H2 := Lib.hid h2; clear h2
  go_enter Try.func42, Try.ntmps42
  go_wp2_with fail
  go_loopw [5] (fun i wr => ∃ k m : Nat, k ≤ zs.length ∧ i = .int .i64 k ∧ wr = w.drewN m) (fun i _ => zs.length - (intOf i).toNat)
  case atStart => exact ⟨0, 0, Nat.zero_le _, rfl, rfl⟩
  case round =>
    obtain ⟨k, m, hk, rfl, rfl⟩ := hrel
    by_cases hlt : k < zs.length
    · obtain ⟨b1, o1, hA1, hx⟩ := nums_at H1.out k hlt
      obtain ⟨b2, o2, hA2, hy⟩ := nums_at H2.out k hlt
      subst hA1 hA2
      generalize zs[k] = z at *
      have hlt' : (k : Int) < (zs.length : Int) := by omega
      go_wp2_with fail
      go_quiet (fail)
      go_wp2_with fail
      go_roundw
      case rel => exact ⟨k + 1, _, by omega, by go_num, rfl⟩
      case measure => simp [intOf]; omega
    · have hlt' : (zs.length : Int) ≤ (k : Int) := by omega
      go_wp2_with fail
      go_ret
      exact ⟨rfl, _, rfl⟩

theorem f6big_any (B : Nat) (v : Value) (n : Nat) (xs : List Value) (w : World) (h : Rd w B v n 1 xs) :
    Calls Try.prog 36 #[v] w fun e w' => e = .returned (.bool (decide (4096 < n))) ∧ w = w' := by
  obtain ⟨_, A, c, rfl, _⟩ := h
  by_cases h : 4096 < n
  · have hh : (4096 : Int) < (n : Int) := by omega
    go_enter Try.func36, Try.ntmps36
    go_wp2_with fail
    go_ret
    simp [h]
  · go_enter Try.func36, Try.ntmps36
    go_wp2_with fail
    go_ret
    simp [h]
    omega
end Go.Proofs.Ythdlepejbikofaa
