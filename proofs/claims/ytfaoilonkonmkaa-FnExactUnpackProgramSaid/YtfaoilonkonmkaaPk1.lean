/- Packed registers, part 1: the bytes of a register, plain; the program's bytes. -/
import Derived.Test.YtfaoilonkonmkaaReg9
import Derived.Test.YtfaoilonkonmkaaSum
namespace Go.Proofs.Ytfaoilonkonmkaa
open Go.RowKit Go.Joins

theorem infoB : (Try.prog.info? 5).map (fun i => (i.zero, i.size, i.bytes)) = some (some (.int .u8 0), 1, 1) := by kernel_rfl
/-- a number as a byte -/
def byt (n : Int) : UInt8 := UInt8.ofNat n.toNat
theorem byV_byt {n : Int} (h0 : 0 ≤ n) (h1 : n < 256) : byV (byt n) = .int .u8 n := by
  unfold byV byt
  rw [UInt8.toNat_ofNat']
  congr 1
  omega
theorem wrap8 {n : Int} (h0 : 0 ≤ n) (h1 : n < 256) : IntKind.u8.wrap n = n := by rw [IntKind.wrap_u8]; omega
/-- digits, two in a byte -/
def nibs : List Int → List UInt8
  | [] => []
  | [d] => [byt (16 * d)]
  | d :: e :: l => byt (16 * d + e) :: nibs l
theorem nibs_two (zs : List Int) (k : Nat) (h : k + 1 < zs.length) : nibs (zs.drop k) = byt (16 * zs[k] + zs[k + 1]) :: nibs (zs.drop (k + 2)) := by
  rw [List.drop_eq_getElem_cons (by omega : k < zs.length), List.drop_eq_getElem_cons h]; rfl
theorem nibs_one (zs : List Int) (k : Nat) (hk : k < zs.length) (h : zs.length ≤ k + 1) : nibs (zs.drop k) = byt (16 * zs[k]) :: nibs (zs.drop (k + 2)) := by
  rw [List.drop_eq_getElem_cons hk, List.drop_of_length_le h, List.drop_of_length_le (by omega : zs.length ≤ k + 2)]; rfl
theorem nibs_end (zs : List Int) (k : Nat) (h : zs.length ≤ k) : nibs (zs.drop k) = [] := by rw [List.drop_of_length_le h]; rfl
def headR (b : Int) (n : Nat) : UInt8 := byt (16 * (b - 1) + ((n : Int) - 1))
def bytesR (b : Int) (zs : List Int) : List UInt8 := headR b zs.length :: nibs zs
def bys (l : List UInt8) : List Value := l.map byV

/-- what the bytes are appended to: the row of the call's own, in a world that is as before below it -/
def OwnB (w : World) (base : Nat) (l : List UInt8) (e : Ending) (w' : World) : Prop :=
  ∃ A c, e = .returned (.slice A l.length c) ∧ w'.ownsRow base 5 1 (.slice A l.length c) l.length (bys l) ∧ Below base w w'
theorem two_below {W w1 : World} {B g : Nat} {x y : Value} (hb : Below B W w1) (hg : g < B) (h : W.cell? ⟨g, 0, none⟩ = some x ∧ W.cell? ⟨g, 1, none⟩ = some y) :
    w1.cell? ⟨g, 0, none⟩ = some x ∧ w1.cell? ⟨g, 1, none⟩ = some y :=
  ⟨(hb.cell hg).trans h.1, (hb.cell hg).trans h.2⟩

set_option maxRecDepth 100000 in
set_option maxHeartbeats 1600000 in
theorem bytes_any (B : Nat) (b : Int) (v : Value) (zs : List Int) (w : World) (h : Rd w B v zs.length 1 (ints zs)) (hB : B ≤ w.heap.size) (hok : okReg b zs = true) :
    Calls Try.prog 81 #[.agg #[.int .i64 b, v]] w (OwnB w w.heap.size (bytesR b zs)) := by
  obtain ⟨p1, p2, p3, p4, p5, _⟩ := okReg_parts hok
  have h' := h
  obtain ⟨_, A, c, rfl, _⟩ := h'
  have hba := (Below.refl w.heap.size w).alloc (Nat.le_refl _) (.cells #[.int .i64 b, .slice A zs.length c] 28)
  have Hba := Lib.hid hba
  have H := Lib.hid (h.below (hba.mono hB))
  have hnew := heap_alloc_new w (.cells #[.int .i64 b, .slice A zs.length c] 28)
  have hz0 : w.heap.size + 1 = (w.alloc (.cells #[.int .i64 b, .slice A zs.length c] 28)).heap.size := by simp
  obtain ⟨r0, r1, _, _⟩ := blk2 hnew
  have Hd := Lib.hid p3
  clear hba h hnew hok p3
  go_enter Try.func81, Try.ntmps81
  go_wp2_with fail
  generalize w.alloc (.cells #[.int .i64 b, .slice A zs.length c] 28) = w0 at *
  have hacc : Below w0.heap.size w0 w0.drew := (Below.refl _ _).drew
  have hzb : w.heap.size < w0.heap.size := by omega
  have hw1 : IntKind.i64.wrap (b - 1) = b - 1 := IntWalk.i64_in _ (by omega)
  have hw2 : IntKind.i64.wrap (16 * (b - 1)) = 16 * (b - 1) := IntWalk.i64_in _ (by omega)
  have hw3 : IntKind.i64.wrap ((zs.length : Int) - 1) = (zs.length : Int) - 1 := IntWalk.i64_in _ (by omega)
  have hw4 : IntKind.u8.wrap (16 * (b - 1)) = 16 * (b - 1) := wrap8 (by omega) (by omega)
  have hw5 : IntKind.u8.wrap ((zs.length : Int) - 1) = (zs.length : Int) - 1 := wrap8 (by omega) (by omega)
  have hw6 : IntKind.u8.wrap (16 * (b - 1) + ((zs.length : Int) - 1)) = 16 * (b - 1) + ((zs.length : Int) - 1) := wrap8 (by omega) (by omega)
  go_region_held3 (fun w' => w'.cell? ⟨w.heap.size, 0, none⟩ = some (.int .i64 b) ∧ w'.cell? ⟨w.heap.size, 1, none⟩ = some (.slice A zs.length c))
    (first | go_keep | assumption)
    ((go_at_call 136; ((with_reducible refine (width_any _ _ _ _ _).mono ?_)); rintro e wq ⟨rfl, hbq⟩; have hSq := two_below (hacc.trans hbq) hzb ⟨r0, r1⟩; have hacc' := hacc.trans (hbq.mono hacc.size); clear hacc; have hacc := hacc'; clear hacc'))
  clear hw1 hw2 hw3 hw4 hw5 hw6
  have hb1 := hacc.alloc hacc.size (.cells #[.int .u8 (16 * (b - 1) + ((zs.length : Int) - 1))] 5)
  have ho1 := World.ownsRow_lit (base := w0.heap.size) (e := 5) (size := 1) wq #[.int .u8 (16 * (b - 1) + ((zs.length : Int) - 1))] 1 hacc.size (by simp [maxLen]) rfl
  have hhd : (#[Value.int .u8 (16 * (b - 1) + ((zs.length : Int) - 1))] : Array Value).toList = bys [headR b zs.length] := by
    show [_] = [byV _]
    unfold headR
    rw [byV_byt (by omega) (by omega)]
  rw [hhd] at ho1
  have Ho1 := Lib.hid ho1
  have Hb1 := Lib.hid hb1
  clear hb1 ho1 hhd hbq hSq hacc
  have hcz := Lib.hid (show Below w.heap.size w w0 from Hba.out)
  go_wp2_with fail
  generalize wq.alloc (.cells #[.int .u8 (16 * (b - 1) + ((zs.length : Int) - 1))] 5) = w2 at *
  go_loopw [3, 4] (fun v i wr => ∃ (k : Nat) (l : List UInt8) (A' : Option Addr) (c' : Nat), k ≤ zs.length + 1 ∧ l.length ≤ k + 1 ∧ l ++ nibs (zs.drop k) = bytesR b zs ∧ i = .int .i64 k ∧ v = .slice A' l.length c' ∧ wr.ownsRow w0.heap.size 5 1 (.slice A' l.length c') l.length (bys l) ∧ Below w0.heap.size w0 wr) (fun _ i _ => (zs.length + 2) - (intOf i).toNat)
  case atStart => exact ⟨0, [headR b zs.length], _, _, Nat.zero_le _, by simp, rfl, rfl, rfl, Ho1.out, Hb1.out⟩
  case round =>
    obtain ⟨k, l, A', c', hk, hl, heq, rfl, rfl, hown, hbl⟩ := hrel
    have Heq := Lib.hid heq; clear heq
    obtain ⟨s0, s1⟩ := two_below hbl hzb ⟨r0, r1⟩
    by_cases hlt : k < zs.length
    · obtain ⟨b1, o1, hA, hx⟩ := ints_rd (H.out.below (hbl.mono (by omega))) k hlt
      subst hA
      obtain ⟨z0, z1⟩ := digB_at Hd.out k hlt
      have hlt' : (k : Int) < (zs.length : Int) := by omega
      by_cases h2 : k + 1 < zs.length
      · obtain ⟨b1', o1', hA', hx2⟩ := ints_rd (H.out.below (hbl.mono (by omega))) (k + 1) h2
        subst_eqs
        obtain ⟨y0, y1⟩ := digB_at Hd.out (k + 1) h2
        have hst := Lib.hid (nibs_two zs k h2)
        generalize zs[k] = d at *
        generalize zs[k + 1] = f at *
        have h2' : (k : Int) + 1 < (zs.length : Int) := by omega
        have hz9 : w.heap.size < wr.heap.size := Nat.lt_of_lt_of_le hzb hbl.size
        have hwa : IntKind.u8.wrap (16 * d) = 16 * d := wrap8 (by omega) (by omega)
        have hwb : IntKind.u8.wrap f = f := wrap8 (by omega) (by omega)
        have hwc : IntKind.u8.wrap (16 * d + f) = 16 * d + f := wrap8 (by omega) (by omega)
        go_wp2_with fail
        refine (width_any _ _ _ _ _).mono ?_; rintro e w3 ⟨rfl, hb3⟩
        have hbl3 := hbl.trans (hb3.mono hbl.size)
        have hown3 := own_below hown hb3
        have hx3 := (hb3.cell (World.block_lt_of_cell? wr _ hx)).trans hx
        have hx23 := (hb3.cell (World.block_lt_of_cell? wr _ hx2)).trans hx2
        obtain ⟨t0, t1⟩ := two_below hb3 hz9 ⟨s0, s1⟩
        have hz10 : w.heap.size < w3.heap.size := Nat.lt_of_lt_of_le hz9 hb3.size
        clear hx hx2 hown hbl s0 s1 hb3
        go_wp2_with fail
        refine (width_any _ _ _ _ _).mono ?_; rintro e w4 ⟨rfl, hb4⟩
        have hbl4 := hbl3.trans (hb4.mono hbl3.size)
        have hown4 := own_below hown3 hb4
        have hx4 := (hb4.cell (World.block_lt_of_cell? w3 _ hx3)).trans hx3
        have hx24 := (hb4.cell (World.block_lt_of_cell? w3 _ hx23)).trans hx23
        obtain ⟨u0, u1⟩ := two_below hb4 hz10 ⟨t0, t1⟩
        clear hx3 hx23 hown3 hbl3 t0 t1 hb4
        go_wp2_with (at_builtin; refine wpList_apd 76 5 _ 1 1 Try.underlying76 infoB rfl (by omega) _ _ rfl rfl w0.heap.size (.slice A' l.length c') l.length _ rfl hown4 #[.int .u8 (16 * d + f)] 1 1 rfl rfl (by simp [Value.oneCell']) (by simp [maxLen]; omega) (by omega) hbl4.size ?_; intro v' w7 hown7 hg7; obtain ⟨_, A7, c7, rfl, _⟩ := Rd.of_own hown7)
        have Hb7 := Lib.hid (below_apd hbl4 hown4 hg7 (Nat.le_refl _) hbl4.size)
        clear hwa hwb hwc
        have hb7 : bys l ++ (#[Value.int .u8 (16 * d + f)] : Array Value).toList = bys (l ++ [byt (16 * d + f)]) := by
          show _ ++ [_] = _
          unfold bys
          rw [List.map_append, List.map_cons, byV_byt (by omega) (by omega)]; rfl
        rw [hb7] at hown7
        have Hown7 := Lib.hid hown7
        clear hown7 hb7 hg7 hown4
        go_wp2_with fail
        go_roundw
        case rel => exact ⟨k + 2, l ++ [byt (16 * d + f)], A7, c7, by omega, by simp; omega, by rw [List.append_assoc, List.singleton_append, ← hst.out]; exact Heq.out, by go_num, by simp, by simpa using Hown7.out, Hb7.out⟩
        case measure => simp [intOf]; omega
      · have hst := Lib.hid (nibs_one zs k hlt (by omega))
        generalize zs[k] = d at *
        have h2' : (zs.length : Int) ≤ (k : Int) + 1 := by omega
        have hz9 : w.heap.size < wr.heap.size := Nat.lt_of_lt_of_le hzb hbl.size
        have hwa : IntKind.u8.wrap (16 * d) = 16 * d := wrap8 (by omega) (by omega)
        go_wp2_with fail
        refine (width_any _ _ _ _ _).mono ?_; rintro e w3 ⟨rfl, hb3⟩
        have hbl3 := hbl.trans (hb3.mono hbl.size)
        have hown3 := own_below hown hb3
        have hx3 := (hb3.cell (World.block_lt_of_cell? wr _ hx)).trans hx
        obtain ⟨t0, t1⟩ := two_below hb3 hz9 ⟨s0, s1⟩
        have hz10 : w.heap.size < w3.heap.size := Nat.lt_of_lt_of_le hz9 hb3.size
        clear hx hown hbl s0 s1 hb3
        go_wp2_with fail
        refine (width_any _ _ _ _ _).mono ?_; rintro e w4 ⟨rfl, hb4⟩
        have hbl4 := hbl3.trans (hb4.mono hbl3.size)
        have hown4 := own_below hown3 hb4
        clear hx3 hown3 hbl3 t0 t1 hb4
        go_wp2_with (at_builtin; refine wpList_apd 76 5 _ 1 1 Try.underlying76 infoB rfl (by omega) _ _ rfl rfl w0.heap.size (.slice A' l.length c') l.length _ rfl hown4 #[.int .u8 (16 * d)] 1 1 rfl rfl (by simp [Value.oneCell']) (by simp [maxLen]; omega) (by omega) hbl4.size ?_; intro v' w7 hown7 hg7; obtain ⟨_, A7, c7, rfl, _⟩ := Rd.of_own hown7)
        have Hb7 := Lib.hid (below_apd hbl4 hown4 hg7 (Nat.le_refl _) hbl4.size)
        clear hwa
        have hb7 : bys l ++ (#[Value.int .u8 (16 * d)] : Array Value).toList = bys (l ++ [byt (16 * d)]) := by
          show _ ++ [_] = _
          unfold bys
          rw [List.map_append, List.map_cons, byV_byt (by omega) (by omega)]; rfl
        rw [hb7] at hown7
        have Hown7 := Lib.hid hown7
        clear hown7 hb7 hg7 hown4
        go_wp2_with fail
        go_roundw
        case rel => exact ⟨k + 2, l ++ [byt (16 * d)], A7, c7, by omega, by simp; omega, by rw [List.append_assoc, List.singleton_append, ← hst.out]; exact Heq.out, by go_num, by simp, by simpa using Hown7.out, Hb7.out⟩
        case measure => simp [intOf]; omega
    · have hfin := Lib.hid (show l = bytesR b zs by
        have := Heq.out
        rwa [nibs_end zs k (by omega), List.append_nil] at this)
      have hlt' : (zs.length : Int) ≤ (k : Int) := by omega
      go_wp2_with fail
      refine (width_any _ _ _ _ _).mono ?_; rintro e w3 ⟨rfl, hb3⟩
      have Hown3 := Lib.hid (ownsRow_le (own_below hown hb3) (base' := w.heap.size) (by omega))
      have Hb3 := Lib.hid (Hba.out.trans ((hbl.trans (hb3.mono hbl.size)).mono (by omega)))
      clear hown hbl hb3
      go_wp2_with fail
      go_ret
      rw [← hfin.out]
      exact ⟨_, _, rfl, Hown3.out, Hb3.out⟩
end Go.Proofs.Ytfaoilonkonmkaa
