/- Packed registers, part 2: bytes with their checksum, on both sides. -/
import Derived.Test.YtfaoilonkonmkaaPk1
namespace Go.Proofs.Ytfaoilonkonmkaa
open Go.RowKit Go.Joins

/-- bytes with their checksum behind them -/
def sealB (l : List UInt8) : List UInt8 := l ++ [byt (sumB l / 256), byt (sumB l % 256)]
theorem sealB_len (l : List UInt8) : (sealB l).length = l.length + 2 := by simp [sealB]
theorem bys_two (l : List UInt8) (x y : Int) (hx : 0 ≤ x) (hx2 : x < 256) (hy : 0 ≤ y) (hy2 : y < 256) : bys l ++ (#[Value.int .u8 x, Value.int .u8 y] : Array Value).toList = bys (l ++ [byt x, byt y]) := by
  show _ ++ [_, _] = _
  unfold bys
  rw [List.map_append, List.map_cons, List.map_cons, byV_byt hx hx2, byV_byt hy hy2]; rfl
theorem bys_one (l : List UInt8) (x : Int) (hx : 0 ≤ x) (hx2 : x < 256) : bys l ++ (#[Value.int .u8 x] : Array Value).toList = bys (l ++ [byt x]) := by
  show _ ++ [_] = _
  unfold bys
  rw [List.map_append, List.map_cons, byV_byt hx hx2]; rfl

set_option maxRecDepth 100000 in
set_option maxHeartbeats 800000 in
theorem sealed_any (base : Nat) (l : List UInt8) (A : Option Addr) (c : Nat) (w : World) (hown : w.ownsRow base 5 1 (.slice A l.length c) l.length (bys l)) (hb : base ≤ w.heap.size) (hl : l.length ≤ 1048576) :
    Calls Try.prog 80 #[.slice A l.length c] w fun e w' => e = .returned (.string ⟨(sealB l).toArray⟩) ∧ Below base w w' := by
  have hconv := run_conv_own (P := Try.prog) 76 9 5 Try.underlying76 Try.underlying5 Try.underlying9 _ _ _ _ hown
  have HS := Lib.hid (fun wx => SumI_any ⟨l.toArray⟩ wx (by show l.toArray.size ≤ maxLen; simp [maxLen]; omega))
  have hsb := sumB_bd l
  have Hown := Lib.hid hown
  have Hse := Lib.hid (show sealB l = l ++ [byt (sumB l / 256), byt (sumB l % 256)] from rfl)
  obtain ⟨s0, s1⟩ := hsb
  change Hid (∀ wx, Calls Try.prog 142 #[.string ⟨l.toArray⟩] wx fun e w' => e = .returned (.int .i64 (sumB l)) ∧ wx = w') at HS
  generalize sumB l = s at *
  have Htwo := Lib.hid ((bys_two l (s / 256) (s % 256) (by omega) (by omega) (by omega) (by omega)).trans (congrArg bys Hse.out.symm))
  have hwa : IntKind.u8.wrap (s / 256) = s / 256 := wrap8 (by omega) (by omega)
  have hwb : IntKind.u8.wrap (s % 256) = s % 256 := wrap8 (by omega) (by omega)
  have hb0 := Lib.hid (Below.refl base w)
  clear hown
  go_enter Try.func80, Try.ntmps80
  go_wp2_with fail
  refine (HS.out _).mono ?_; rintro e w1 ⟨rfl, rfl⟩
  clear hconv
  go_wp2_with (at_builtin; refine wpList_apd 76 5 _ 1 1 Try.underlying76 infoB rfl (by omega) _ _ rfl rfl base (.slice A l.length c) l.length _ rfl Hown.out #[.int .u8 (s / 256), .int .u8 (s % 256)] 2 2 rfl rfl (by simp [Value.oneCell']) (by simp [maxLen]; omega) (by omega) hb ?_; intro v' w7 hown7 hg7; rw [Htwo.out] at hown7; have Hb7 := Lib.hid (below_apd hb0.out Hown.out hg7 (Nat.le_refl _) hb); have hconv := run_conv_own (P := Try.prog) 76 9 5 Try.underlying76 Try.underlying5 Try.underlying9 _ _ _ _ hown7; clear hown7 hg7)
  go_ret
  exact ⟨rfl, Hb7.out⟩

set_option maxRecDepth 100000 in
set_option maxHeartbeats 800000 in
theorem l27Ended_any (base : Nat) (l : List UInt8) (A : Option Addr) (c : Nat) (w : World) (hown : w.ownsRow base 5 1 (.slice A l.length c) l.length (bys l)) (hb : base ≤ w.heap.size) (hl : l.length ≤ 1048576) :
    Calls Try.prog 77 #[.slice A l.length c] w fun e w' => e = .returned (.string ⟨(sealB l).toArray⟩) ∧ Below base w w' := by
  have hconv := run_conv_own (P := Try.prog) 76 9 5 Try.underlying76 Try.underlying5 Try.underlying9 _ _ _ _ hown
  have HS := Lib.hid (fun wx => l27Sum_any ⟨l.toArray⟩ wx (by show l.toArray.size ≤ maxLen; simp [maxLen]; omega))
  have hsb := sumB_bd l
  have Hown := Lib.hid hown
  have Hse := Lib.hid (show sealB l = l ++ [byt (sumB l / 256), byt (sumB l % 256)] from rfl)
  obtain ⟨s0, s1⟩ := hsb
  change Hid (∀ wx, Calls Try.prog 139 #[.string ⟨l.toArray⟩] wx fun e w' => e = .returned (.int .i64 (sumB l)) ∧ wx = w') at HS
  generalize sumB l = s at *
  have Htwo := Lib.hid ((bys_two l (s / 256) (s % 256) (by omega) (by omega) (by omega) (by omega)).trans (congrArg bys Hse.out.symm))
  have hwa : IntKind.u8.wrap (s / 256) = s / 256 := wrap8 (by omega) (by omega)
  have hwb : IntKind.u8.wrap (s % 256) = s % 256 := wrap8 (by omega) (by omega)
  have hb0 := Lib.hid (Below.refl base w)
  clear hown
  go_enter Try.func77, Try.ntmps77
  go_wp2_with fail
  refine (HS.out _).mono ?_; rintro e w1 ⟨rfl, rfl⟩
  clear hconv
  go_wp2_with (at_builtin; refine wpList_apd 76 5 _ 1 1 Try.underlying76 infoB rfl (by omega) _ _ rfl rfl base (.slice A l.length c) l.length _ rfl Hown.out #[.int .u8 (s / 256), .int .u8 (s % 256)] 2 2 rfl rfl (by simp [Value.oneCell']) (by simp [maxLen]; omega) (by omega) hb ?_; intro v' w7 hown7 hg7; rw [Htwo.out] at hown7; have Hb7 := Lib.hid (below_apd hb0.out Hown.out hg7 (Nat.le_refl _) hb); have hconv := run_conv_own (P := Try.prog) 76 9 5 Try.underlying76 Try.underlying5 Try.underlying9 _ _ _ _ hown7; clear hown7 hg7)
  go_ret
  exact ⟨rfl, Hb7.out⟩
end Go.Proofs.Ytfaoilonkonmkaa
