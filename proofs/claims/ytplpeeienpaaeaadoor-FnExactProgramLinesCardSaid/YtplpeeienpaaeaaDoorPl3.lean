/- Programs' lines, part 3: the law FnExactProgramLines. -/
import Derived.Test.YtplpeeienpaaeaaDoorPl2
import Derived.Test.YtplpeeienpaaeaaDoorPu7
namespace Go.Proofs.YtplpeeienpaaeaaDoor
open Go.RowKit Go.Joins

/-- what stays true of the reference's lines on the way -/
structure StL (W : World) (s3 : Nat) (v1 : Value) (n : Nat) (L : List ByteArray) (w : World) : Prop where
  acc : Below W.heap.size W w
  z0 : W.heap.size ≤ s3
  z3 : s3 ≤ w.heap.size
  R : Rd w s3 v1 n 1 (strs L)
theorem StL.next {W w w' : World} {s3 n : Nat} {v1 : Value} {L : List ByteArray} (h : StL W s3 v1 n L w) (hb : Below w.heap.size w w') : StL W s3 v1 n L w' :=
  ⟨h.acc.trans (hb.mono h.acc.size), h.z0, Nat.le_trans h.z3 hb.size, h.R.below (hb.mono h.z3)⟩
theorem StL.drewN {W w : World} {s3 n : Nat} {v1 : Value} {L : List ByteArray} (h : StL W s3 v1 n L w) (k : Nat) : StL W s3 v1 n L (w.drewN k) :=
  ⟨below_drewN h.acc k, h.z0, h.z3, h.R.drewN k⟩
theorem StL.grown {W w w' : World} {s3 n : Nat} {v1 : Value} {L : List ByteArray} {r : Option Nat} (h : StL W s3 v1 n L w) (hg : w.grownBy w' r) (hr : ∀ k, r = some k → s3 ≤ k) : StL W s3 v1 n L w' :=
  ⟨h.acc.grown hg h.acc.size (fun k hk => Nat.le_trans h.z0 (hr k hk)), h.z0, Nat.le_trans h.z3 hg.size,
    h.R.keep fun p hp => World.cell?_of_block (hg.block p.block (Nat.lt_of_lt_of_le hp h.z3) (fun e => by have := hr _ e.symm; omega))⟩

set_option maxRecDepth 100000 in
set_option maxHeartbeats 3200000 in
theorem walkFnExactProgramLines {W : World} (v : Value) (zs : List (Int × Int)) (h : Rd W W.heap.size v zs.length 2 (progs zs)) (hl : zs.length ≤ maxLen) (ht : Tab W) :
    Calls Tryd.prog 5 #[v] W fun e W' => e = .returned (.bool true) ∧ Below W.heap.size W W' := by
  have HS := Lib.hid (szInstrS_any v zs.length 2 (progs zs) 1048576 W.heap.size W h hl (by omega) (by omega))
  have L0 := leftP_bd 1048576 zs.length (by omega)
  generalize leftP 1048576 zs.length = l1 at *
  obtain ⟨_, L2, _⟩ := L0
  have HT := Lib.hid (fun wx hx hz hl => toInstr_c W.heap.size v zs wx hx hz hl)
  have HU := Lib.hid (fun wx hx hz hl => toInstrS_any W.heap.size v zs wx hx hz hl)
  have H := Lib.hid h
  have Ht := Lib.hid ht
  obtain ⟨_, A, c, rfl, _⟩ := h
  have hb0 := Below.refl W.heap.size W
  clear ht
  by_cases n1 : l1 < 0
  · clear L2
    go_enter Tryd.func5, Tryd.ntmps5
    go_wp2_with fail
    refine HS.out.mono ?_; rintro e w1 ⟨rfl, rfl⟩
    go_wp2_with fail
    go_ret
    exact ⟨rfl, hb0⟩
  · have q := L2 (by omega)
    have k1 : zs.length ≤ 1048576 := by omega
    clear L2
    have HCS := Lib.hid (fun (wx : World) (u : Value) (hx : Rd wx wx.heap.size u zs.length 2 (progs zs)) => LinesS_any wx.heap.size u zs wx hx (Nat.le_refl _) k1)
    have HCI := Lib.hid (fun (wx : World) (u : Value) (hx : Rd wx wx.heap.size u zs.length 2 (progs zs)) (hq : Tab wx) => LinesI_any wx.heap.size u zs wx hx (Nat.le_refl _) k1 hq)
    unfold RetP at HCS HCI
    have hlen := linesP_len zs
    generalize linesP zs = L at *
    generalize codeP zs = C at *
    generalize hn : L.length = n at *
    have Hn := Lib.hid hn; clear hn
    have hk0 : ¬ (1 : Int) + 2 * (zs.length : Int) < 0 := by omega
    have hk1 : ¬ (1 : Int) + (n : Int) < 0 := by omega
    go_enter Tryd.func5, Tryd.ntmps5
    go_wp2_with fail
    refine HS.out.mono ?_; rintro e w1 ⟨rfl, rfl⟩
    go_wp2_with fail
    refine (HT.out _ H.out (Nat.le_refl _) k1).mono ?_; rintro e w2 ⟨A2, c2, rfl, hr2, hb2⟩
    have HP := Lib.hid (HCS.out w2 _ hr2)
    clear hr2
    go_wp2_with fail
    refine HP.out.mono ?_; rintro e w3 ⟨v1, rfl, ho3, hb3⟩
    have h3 := hb2.trans (hb3.mono hb2.size)
    have S3 := Lib.hid (show StL W w3.heap.size v1 n L w3 from ⟨h3, h3.size, Nat.le_refl _, Rd.of_own ho3⟩)
    clear ho3 hb3 hb2 HP h3
    go_wp2_with fail
    refine (HU.out w3 (H.out.below S3.out.acc) S3.out.acc.size k1).mono ?_; rintro e w4 ⟨rfl, ho4, hb4⟩
    have S4 := Lib.hid (S3.out.next hb4)
    have HP := Lib.hid (HCI.out w4 _ (Rd.of_own ho4) (Ht.out.below S4.out.acc))
    have O4 := Lib.hid ho4
    clear S3 ho4 hb4
    go_wp2_with fail
    refine HP.out.mono ?_; rintro e w5 ⟨g0, rfl, ho5, hb5⟩
    have S5 := Lib.hid (S4.out.next hb5)
    have O5 := Lib.hid (own_below O4.out hb5)
    have G5 := Lib.hid ho5
    have HE := Lib.hid (eqStringS_same _ _ g0 v1 L n w5 Hn.out (Rd.of_own ho5) S5.out.R (by omega))
    clear S4 ho5 HP
    go_wp2_with fail
    refine HE.out.mono ?_; rintro e w6 ⟨rfl, n6, rfl⟩
    have S6 := Lib.hid (S5.out.drewN n6)
    have O6 := Lib.hid (O5.out.drewN n6)
    have G6 := Lib.hid (G5.out.drewN n6)
    clear S5 O5 G5 HE hb5
    generalize w5.drewN n6 = w6 at *
    go_wp2_with fail
    refine (HT.out w6 (H.out.below S6.out.acc) S6.out.acc.size k1).mono ?_; rintro e w7 ⟨A7, c7, rfl, hr7, hb7⟩
    have S7 := Lib.hid (S6.out.next hb7)
    have O7 := Lib.hid (own_below O6.out hb7)
    have G7 := Lib.hid (own_below G6.out hb7)
    have HE := Lib.hid (eqInstrS_same _ _ _ _ zs w7 (Rd.of_own O7.out) hr7 (Nat.le_refl _) (Nat.le_refl _) (by omega))
    clear S6 O6 G6 hr7 hb7
    go_wp2_with fail
    refine HE.out.mono ?_; rintro e w8 ⟨rfl, hb8⟩
    have S8 := Lib.hid (S7.out.next hb8)
    have O8 := Lib.hid (own_below O7.out hb8)
    have G8 := Lib.hid (own_below G7.out hb8)
    clear S7 O7 G7 hb8 HE
    go_wp2_with fail
    refine (markInstrS_any _ _ 1 zs.length _ w8 O8.out (by omega) (by omega)).mono ?_; rintro e w9 ⟨rfl, hg9, _⟩
    have S9 := Lib.hid (S8.out.grown hg9 (fun k hk => (O8.out.lt k hk).1))
    have G9 := Lib.hid (G8.out.kept hg9 (by
      rcases hv : g0.ownBlock with _ | k
      · exact .inl rfl
      · refine .inr (fun h => ?_)
        have h1 := (O4.out.lt k h.symm).2
        have h2 := (G8.out.lt k hv).1
        omega))
    have HE := Lib.hid (eqStringS_same _ _ g0 v1 L n w9 Hn.out (Rd.of_own G9.out) S9.out.R (by omega))
    clear S8 O8 G8 hg9
    go_wp2_with fail
    refine HE.out.mono ?_; rintro e w10 ⟨rfl, n10, rfl⟩
    have S10 := Lib.hid (S9.out.drewN n10)
    have G10 := Lib.hid (G9.out.drewN n10)
    clear S9 G9 HE
    generalize w9.drewN n10 = w10 at *
    have h34 := (O4.out.lt w3.heap.size rfl).2
    go_wp2_with fail
    refine (markStringS_any _ g0 1 n _ w10 G10.out (by omega) (by omega)).mono ?_; rintro e w11 ⟨rfl, hg11, ho11⟩
    have S11 := Lib.hid (S10.out.grown hg11 (fun k hk => by have := (G10.out.lt k hk).1; omega))
    have G11 := Lib.hid ho11
    clear S10 G10 hg11 ho11
    go_wp2_with fail
    refine (heldStringS_any _ g0 1 n w11 (Rd.of_own G11.out) (Nat.le_refl _) (by omega) (by omega)).mono ?_; rintro e w12 ⟨rfl, hb12⟩
    have S12 := Lib.hid (S11.out.next hb12)
    have G12 := Lib.hid (own_below G11.out hb12)
    clear S11 G11 hb12
    go_wp2_with fail
    refine (HT.out w12 (H.out.below S12.out.acc) S12.out.acc.size k1).mono ?_; rintro e w13 ⟨A13, c13, rfl, hr13, hb13⟩
    have S13 := Lib.hid (S12.out.next hb13)
    have G13 := Lib.hid (own_below G12.out hb13)
    have HP := Lib.hid (HCI.out w13 _ hr13 (Ht.out.below S13.out.acc))
    clear S12 G12 hr13 hb13
    go_wp2_with fail
    refine HP.out.mono ?_; rintro e w14 ⟨v14, rfl, ho14, hb14⟩
    have S14 := Lib.hid (S13.out.next hb14)
    have G14 := Lib.hid (own_below G13.out hb14)
    have HE := Lib.hid (eqStringS_same _ _ v14 v1 L n w14 Hn.out (Rd.of_own ho14) S14.out.R (by omega))
    clear S13 G13 ho14 hb14 HP
    go_wp2_with fail
    refine HE.out.mono ?_; rintro e w15 ⟨rfl, n15, rfl⟩
    have S15 := Lib.hid (S14.out.drewN n15)
    have G15 := Lib.hid (G14.out.drewN n15)
    clear S14 G14 HE
    generalize w14.drewN n15 = w15 at *
    go_wp2_with fail
    refine (heldStringS_any _ g0 1 n w15 (Rd.of_own G15.out) (Nat.le_refl _) (by omega) (by omega)).mono ?_; rintro e w16 ⟨rfl, hb16⟩
    have S16 := Lib.hid (S15.out.next hb16)
    clear S15 G15 hb16
    go_wp2_with fail
    go_ret
    exact ⟨rfl, S16.out.acc⟩
end Go.Proofs.YtplpeeienpaaeaaDoor
