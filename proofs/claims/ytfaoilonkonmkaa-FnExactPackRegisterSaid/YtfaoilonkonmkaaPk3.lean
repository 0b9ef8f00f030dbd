/- Packed registers, part 3: the reference's bytes of a register. -/
import Derived.Test.YtfaoilonkonmkaaPk2
namespace Go.Proofs.Ytfaoilonkonmkaa
open Go.RowKit Go.Joins

set_option maxRecDepth 100000 in
set_option maxHeartbeats 1600000 in
theorem l27Digits_any (B base g : Nat) (l0 : List UInt8) (A0 : Option Addr) (c0 : Nat) (b : Int) (v : Value) (zs : List Int) (w : World) (hown : w.ownsRow base 5 1 (.slice A0 l0.length c0) l0.length (bys l0)) (hb : base ≤ w.heap.size) (hl0 : l0.length ≤ 64)
    (r0 : w.cell? ⟨g, 0, none⟩ = some (.int .i64 b)) (r1 : w.cell? ⟨g, 1, none⟩ = some v) (hg : g < base) (h : Rd w B v zs.length 1 (ints zs)) (hB : B ≤ base) (hok : okReg b zs = true) :
    Calls Try.prog 78 #[.slice A0 l0.length c0, .pointer (some ⟨g, 0, none⟩)] w (OwnB w base (l0 ++ bytesR b zs)) := by
  obtain ⟨p1, p2, p3, p4, p5, _⟩ := okReg_parts hok
  have h' := h
  obtain ⟨_, A, c, rfl, _⟩ := h'
  have H := Lib.hid h
  have Hd := Lib.hid p3
  have hz : g < w.heap.size := Nat.lt_of_lt_of_le hg hb
  have hja : ∀ o, (w.alloc o).cell? ⟨g, 0, none⟩ = some (.int .i64 b) ∧ (w.alloc o).cell? ⟨g, 1, none⟩ = some (.slice A zs.length c) := fun o => two_below ((Below.refl w.heap.size w).alloc (Nat.le_refl _) o) hz ⟨r0, r1⟩
  have Hja := Lib.hid hja
  clear hja h hok p3
  have hw1 : IntKind.i64.wrap (b - 1) = b - 1 := IntWalk.i64_in _ (by omega)
  have hw2 : IntKind.i64.wrap (16 * (b - 1)) = 16 * (b - 1) := IntWalk.i64_in _ (by omega)
  have hw3 : IntKind.i64.wrap (16 * (b - 1) + (zs.length : Int)) = 16 * (b - 1) + (zs.length : Int) := IntWalk.i64_in _ (by omega)
  have hw4 : IntKind.i64.wrap (16 * (b - 1) + (zs.length : Int) - 1) = 16 * (b - 1) + (zs.length : Int) - 1 := IntWalk.i64_in _ (by omega)
  have hw5 : IntKind.u8.wrap (16 * (b - 1) + (zs.length : Int) - 1) = 16 * (b - 1) + (zs.length : Int) - 1 := wrap8 (by omega) (by omega)
  have Hone := Lib.hid (bys_one l0 (16 * (b - 1) + (zs.length : Int) - 1) (by omega) (by omega))
  have hb0 := Below.refl base w
  have hsz : (l0.length + 1) * 1 ≤ 140737488355328 := by omega
  have hml : l0.length + 1 ≤ maxLen := by unfold maxLen; omega
  have Hown := Lib.hid hown; clear hown
  go_enter Try.func78, Try.ntmps78
  go_wp2_with fail
  go_region_held3 (fun w' => w'.cell? ⟨g, 0, none⟩ = some (.int .i64 b) ∧ w'.cell? ⟨g, 1, none⟩ = some (.slice A zs.length c))
    (first | go_keep | assumption | exact Hja.out _)
    ((refine step_apd 76 5 _ 1 1 Try.underlying76 infoB rfl (by omega) _ _ (by rfl) (by rfl) base (.slice A0 l0.length c0) l0.length _ (by rfl) Hown.out #[_] 1 1 (by rfl) (by rfl) (by simp [Value.oneCell']) hml hsz hb ?_; intro v' w1 hown1 hg1; have Hb1 := Lib.hid (below_apd hb0 Hown.out hg1 (Nat.le_refl _) hb); have hSq := two_below Hb1.out hg ⟨r0, r1⟩))
  clear hw1 hw2 hw3 hw4 hw5 hsz hml hSq hg1
  obtain ⟨_, A1, c1, rfl, _⟩ := Rd.of_own hown1
  rw [Hone.out, show byt (16 * (b - 1) + (zs.length : Int) - 1) = headR b zs.length by unfold headR; congr 1; omega] at hown1
  have Ho1 := Lib.hid hown1; clear hown1
  go_wp2_with fail
  go_loopw [0, 5] (fun v i wr => ∃ (k : Nat) (l : List UInt8) (A' : Option Addr) (c' : Nat), k ≤ zs.length + 1 ∧ l.length ≤ k + (l0.length + 1) ∧ l ++ nibs (zs.drop k) = l0 ++ bytesR b zs ∧ i = .int .i64 k ∧ v = .slice A' l.length c' ∧ wr.ownsRow base 5 1 (.slice A' l.length c') l.length (bys l) ∧ Below base w wr) (fun _ i _ => (zs.length + 2) - (intOf i).toNat)
  case atStart => exact ⟨0, l0 ++ [headR b zs.length], A1, c1, Nat.zero_le _, by simp, by rw [List.append_assoc]; rfl, rfl, by simp, by simpa using Ho1.out, Hb1.out⟩
  case round =>
    obtain ⟨k, l, A', c', hk, hl, heq, rfl, rfl, hown, hbl⟩ := hrel
    have Heq := Lib.hid heq; clear heq
    obtain ⟨s0, s1⟩ := two_below hbl hg ⟨r0, r1⟩
    have hzb : base ≤ wr.heap.size := Nat.le_trans hb hbl.size
    have hz9 : g < wr.heap.size := Nat.lt_of_lt_of_le hg hzb
    by_cases hlt : k < zs.length
    · obtain ⟨b1, o1, hA, hx⟩ := ints_rd (H.out.below (hbl.mono hB)) k hlt
      subst hA
      obtain ⟨z0, z1⟩ := digB_at Hd.out k hlt
      have hlt' : (k : Int) < (zs.length : Int) := by omega
      by_cases h2 : k + 1 < zs.length
      · obtain ⟨b1', o1', hA', hx2⟩ := ints_rd (H.out.below (hbl.mono hB)) (k + 1) h2
        subst_eqs
        obtain ⟨y0, y1⟩ := digB_at Hd.out (k + 1) h2
        have hst := Lib.hid (nibs_two zs k h2)
        generalize zs[k] = d at *
        generalize zs[k + 1] = f at *
        have h2' : (k : Int) + 1 < (zs.length : Int) := by omega
        have hwc : IntKind.u8.wrap (16 * d + f) = 16 * d + f := wrap8 (by omega) (by omega)
        go_wp2_with (at_builtin; refine wpList_apd 76 5 _ 1 1 Try.underlying76 infoB rfl (by omega) _ _ rfl rfl base (.slice A' l.length c') l.length _ rfl hown #[.int .u8 (16 * d + f)] 1 1 rfl rfl (by simp [Value.oneCell']) (by simp [maxLen]; omega) (by omega) hzb ?_; intro v' w7 hown7 hg7; obtain ⟨_, A7, c7, rfl, _⟩ := Rd.of_own hown7)
        have Hb7 := Lib.hid (below_apd hbl hown hg7 (Nat.le_refl _) hzb)
        clear hwc
        rw [bys_one l (16 * d + f) (by omega) (by omega)] at hown7
        have Hown7 := Lib.hid hown7
        clear hown7 hg7 hown
        go_wp2_with fail
        go_roundw
        case rel => exact ⟨k + 2, l ++ [byt (16 * d + f)], A7, c7, by omega, by simp; omega, by rw [List.append_assoc, List.singleton_append, ← hst.out]; exact Heq.out, by go_num, by simp, by simpa using Hown7.out, Hb7.out⟩
        case measure => simp [intOf]; omega
      · have hst := Lib.hid (nibs_one zs k hlt (by omega))
        generalize zs[k] = d at *
        have h2' : (zs.length : Int) ≤ (k : Int) + 1 := by omega
        have hwa : IntKind.u8.wrap (16 * d) = 16 * d := wrap8 (by omega) (by omega)
        go_wp2_with (at_builtin; refine wpList_apd 76 5 _ 1 1 Try.underlying76 infoB rfl (by omega) _ _ rfl rfl base (.slice A' l.length c') l.length _ rfl hown #[.int .u8 (16 * d)] 1 1 rfl rfl (by simp [Value.oneCell']) (by simp [maxLen]; omega) (by omega) hzb ?_; intro v' w7 hown7 hg7; obtain ⟨_, A7, c7, rfl, _⟩ := Rd.of_own hown7)
        have Hb7 := Lib.hid (below_apd hbl hown hg7 (Nat.le_refl _) hzb)
        clear hwa
        rw [bys_one l (16 * d) (by omega) (by omega)] at hown7
        have Hown7 := Lib.hid hown7
        clear hown7 hg7 hown
        go_wp2_with fail
        go_roundw
        case rel => exact ⟨k + 2, l ++ [byt (16 * d)], A7, c7, by omega, by simp; omega, by rw [List.append_assoc, List.singleton_append, ← hst.out]; exact Heq.out, by go_num, by simp, by simpa using Hown7.out, Hb7.out⟩
        case measure => simp [intOf]; omega
    · have hfin := Lib.hid (show l = l0 ++ bytesR b zs by
        have := Heq.out
        rwa [nibs_end zs k (by omega), List.append_nil] at this)
      have hlt' : (zs.length : Int) ≤ (k : Int) := by omega
      have Hown3 := Lib.hid hown
      clear hown
      go_wp2_with fail
      go_ret
      rw [← hfin.out]
      exact ⟨_, _, rfl, Hown3.out, hbl⟩
end Go.Proofs.Ytfaoilonkonmkaa
