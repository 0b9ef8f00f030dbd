/- Programs' lines, part 9: ReadProgram, both sides, and the law FnExactReadProgram. -/
import Derived.Test.YtjkjlpjeamifbaaDoorCp8
namespace Go.Proofs.YtjkjlpjeamifbaaDoor
open Go.RowKit Go.Joins

def codR (zs : List ByteArray) : Int := if 120 < zs.length then 5 else if (rdL 0 0 zs).2 ≠ 0 then 7 else 0
def resR (zs : List ByteArray) : List (Int × Int) := if 120 < zs.length then [] else resL zs
theorem resR_len (zs : List ByteArray) : (resR zs).length ≤ zs.length := by
  unfold resR; split
  · simp
  · exact resL_len zs
def RetR (w : World) (zs : List ByteArray) (e : Ending) (w' : World) : Prop := ∃ v, e = .returned (.tuple #[v, .int .i64 (codR zs)]) ∧ w'.ownsRow w.heap.size 70 2 v (resR zs).length (progs (resR zs)) ∧ Below w.heap.size w w'
theorem RetR.none {w w' : World} {zs : List ByteArray} {c : Int} (h1 : codR zs = c) (h2 : resR zs = []) (hw : Below w.heap.size w w') : RetR w zs (.returned (.tuple #[.slice none 0 0, .int .i64 c])) w' := by
  refine ⟨_, by rw [h1], ?_, hw⟩
  rw [h2]
  exact ⟨rfl, .inl ⟨rfl, rfl⟩⟩
theorem RetR.some {w w' : World} {zs : List ByteArray} {v : Value} (h1 : codR zs = 0) (h2 : resR zs = resL zs) (ho : w'.ownsRow w.heap.size 70 2 v (resL zs).length (progs (resL zs))) (hw : Below w.heap.size w w') : RetR w zs (.returned (.tuple #[v, .int .i64 0])) w' := by
  refine ⟨_, by rw [h1], ?_, hw⟩
  rw [h2]
  exact ho

theorem ReadPI_any (B : Nat) (v : Value) (zs : List ByteArray) (w : World) (h : Rd w B v zs.length 1 (strs zs)) (hB : B ≤ w.heap.size) (hl : zs.length ≤ 1048576) (hz : ∀ z ∈ zs, z.size ≤ 1048576) (ht : Tab w) :
    Calls Tryd.prog 20 #[v] w (RetR w zs) := by
  have HR := Lib.hid (readLines_any B v zs w h hB hl hz ht)
  have hb0 := Below.refl w.heap.size w
  obtain ⟨_, A, c, rfl, _⟩ := h
  clear hz ht
  by_cases hb : 120 < zs.length
  · have hb' : (120 : Int) < (zs.length : Int) := by omega
    have h1 : codR zs = 5 := if_pos hb
    have h2 : resR zs = [] := if_pos hb
    go_enter Tryd.func20, Tryd.ntmps20
    go_wp2_with fail
    go_ret2
    exact RetR.none h1 h2 hb0
  · have hb' : ¬ (120 : Int) < (zs.length : Int) := by omega
    have e1 : codR zs = if (rdL 0 0 zs).2 ≠ 0 then 7 else 0 := if_neg hb
    have e2 : resR zs = resL zs := if_neg hb
    unfold RetLs at HR
    by_cases hf : (rdL 0 0 zs).2 = 0
    · have h1 := Lib.hid (e1.trans (if_neg (by simp [hf])))
      have h2 := Lib.hid e2
      rw [hf] at HR
      clear e1 e2 hf
      go_enter Tryd.func20, Tryd.ntmps20
      go_wp2_with fail
      refine HR.out.mono ?_; rintro e w6 ⟨v6, rfl, ho6, hb6⟩
      go_wp2_with fail
      go_ret2
      exact RetR.some h1.out h2.out ho6 hb6
    · have h1 := Lib.hid (e1.trans (if_pos hf))
      have h2 := Lib.hid (e2.trans (show resL zs = [] from if_neg hf))
      have hne : ((rdL 0 0 zs).2 != 0) = true := by simp [hf]
      generalize (rdL 0 0 zs).2 = F2 at *
      clear e1 e2
      go_enter Tryd.func20, Tryd.ntmps20
      go_wp2_with fail
      refine HR.out.mono ?_; rintro e w6 ⟨v6, rfl, ho6, hb6⟩
      go_wp2_with fail
      go_ret2
      exact RetR.none h1.out h2.out hb6

theorem ReadPS_any (B : Nat) (v : Value) (zs : List ByteArray) (w : World) (h : Rd w B v zs.length 1 (strs zs)) (hB : B ≤ w.heap.size) (hl : zs.length ≤ 1048576) (hz : ∀ z ∈ zs, z.size ≤ 1048576) :
    Calls Tryd.prog 18 #[v] w (RetR w zs) := by
  have HR := Lib.hid (l11Read_any B v zs w h hB hl hz)
  have hb0 := Below.refl w.heap.size w
  obtain ⟨_, A, c, rfl, _⟩ := h
  clear hz
  by_cases hb : 120 < zs.length
  · have hb' : (120 : Int) < (zs.length : Int) := by omega
    have h1 : codR zs = 5 := if_pos hb
    have h2 : resR zs = [] := if_pos hb
    go_enter Tryd.func18, Tryd.ntmps18
    go_wp2_with fail
    go_ret2
    exact RetR.none h1 h2 hb0
  · have hb' : ¬ (120 : Int) < (zs.length : Int) := by omega
    have e1 : codR zs = if (rdL 0 0 zs).2 ≠ 0 then 7 else 0 := if_neg hb
    have e2 : resR zs = resL zs := if_neg hb
    unfold RetLs at HR
    by_cases hf : (rdL 0 0 zs).2 = 0
    · have h1 := Lib.hid (e1.trans (if_neg (by simp [hf])))
      have h2 := Lib.hid e2
      rw [hf] at HR
      clear e1 e2 hf
      go_enter Tryd.func18, Tryd.ntmps18
      go_wp2_with fail
      refine HR.out.mono ?_; rintro e w6 ⟨v6, rfl, ho6, hb6⟩
      go_wp2_with fail
      go_ret2
      exact RetR.some h1.out h2.out ho6 hb6
    · have h1 := Lib.hid (e1.trans (if_pos hf))
      have h2 := Lib.hid (e2.trans (show resL zs = [] from if_neg hf))
      have hne : ((rdL 0 0 zs).2 != 0) = true := by simp [hf]
      generalize (rdL 0 0 zs).2 = F2 at *
      clear e1 e2
      go_enter Tryd.func18, Tryd.ntmps18
      go_wp2_with fail
      refine HR.out.mono ?_; rintro e w6 ⟨v6, rfl, ho6, hb6⟩
      go_wp2_with fail
      go_ret2
      exact RetR.none h1.out h2.out hb6

/-- what stays true of the reference's program on the way -/
structure StR (W : World) (s3 : Nat) (v1 : Value) (L : List (Int × Int)) (w : World) : Prop where
  acc : Below W.heap.size W w
  z0 : W.heap.size ≤ s3
  z3 : s3 ≤ w.heap.size
  R : Rd w s3 v1 L.length 2 (progs L)
theorem StR.next {W w w' : World} {s3 : Nat} {v1 : Value} {L : List (Int × Int)} (h : StR W s3 v1 L w) (hb : Below w.heap.size w w') : StR W s3 v1 L w' :=
  ⟨h.acc.trans (hb.mono h.acc.size), h.z0, Nat.le_trans h.z3 hb.size, h.R.below (hb.mono h.z3)⟩
theorem StR.drewN {W w : World} {s3 : Nat} {v1 : Value} {L : List (Int × Int)} (h : StR W s3 v1 L w) (k : Nat) : StR W s3 v1 L (w.drewN k) :=
  ⟨below_drewN h.acc k, h.z0, h.z3, h.R.drewN k⟩
theorem StR.grown {W w w' : World} {s3 : Nat} {v1 : Value} {L : List (Int × Int)} {r : Option Nat} (h : StR W s3 v1 L w) (hg : w.grownBy w' r) (hr : ∀ k, r = some k → s3 ≤ k) : StR W s3 v1 L w' :=
  ⟨h.acc.grown hg h.acc.size (fun k hk => Nat.le_trans h.z0 (hr k hk)), h.z0, Nat.le_trans h.z3 hg.size,
    h.R.keep fun p hp => World.cell?_of_block (hg.block p.block (Nat.lt_of_lt_of_le hp h.z3) (fun e => by have := hr _ e.symm; omega))⟩

set_option maxRecDepth 100000 in
set_option maxHeartbeats 3200000 in
theorem walkFnExactReadProgram {W : World} (v : Value) (zs : List ByteArray) (h : Rd W W.heap.size v zs.length 1 (strs zs)) (hl : zs.length ≤ maxLen ∧ ∀ z ∈ zs, z.size ≤ maxLen) (ht : Tab W) :
    Calls Tryd.prog 5 #[v] W fun e W' => e = .returned (.bool true) ∧ Below W.heap.size W W' := by
  have hb0 := Below.refl W.heap.size W
  have H := Lib.hid h; clear h
  have Ht := Lib.hid ht; clear ht
  have Hsz := Lib.hid (szStringS_any W.heap.size v zs W H.out hl)
  clear hl
  go_enter Tryd.func5, Tryd.ntmps5
  go_wp2_with fail
  refine Hsz.out.mono ?_; rintro e w1 ⟨⟨r, rfl, hr⟩, rfl⟩
  by_cases hr0 : r < 0
  · clear hr
    go_wp2_with fail
    go_ret
    exact ⟨rfl, hb0⟩
  · obtain ⟨k1, hl2⟩ := hr (by omega)
    clear hr
    have HCS := Lib.hid (fun B v w h hB => ReadPS_any B v zs w h hB k1 hl2)
    have HCI := Lib.hid (fun B v w h hB ht => ReadPI_any B v zs w h hB k1 hl2 ht)
    have HT := Lib.hid (fun B v w h hB => toStringS_any B v zs w h hB k1)
    clear hl2
    unfold RetS at HT
    unfold RetR at HCS HCI
    have hlen := resR_len zs
    generalize resR zs = L at *
    generalize codR zs = C at *
    have hn : L.length ≤ 1048576 := by omega
    have hk0 : ¬ (1 : Int) + (zs.length : Int) < 0 := by omega
    have hk1 : ¬ (1 : Int) + 2 * (L.length : Int) < 0 := by omega
    go_wp2_with fail
    refine (HT.out _ _ _ H.out (Nat.le_refl _)).mono ?_; rintro e w2 ⟨x2, rfl, ho2, hb2⟩
    have HP := Lib.hid (HCS.out _ x2 w2 (Rd.of_own ho2) (Nat.le_refl _))
    clear ho2
    go_wp2_with fail
    refine HP.out.mono ?_; rintro e w3 ⟨v1, rfl, ho3, hb3⟩
    have h3 := hb2.trans (hb3.mono hb2.size)
    have S3 := Lib.hid (show StR W w3.heap.size v1 L w3 from ⟨h3, h3.size, Nat.le_refl _, Rd.of_own ho3⟩)
    clear ho3 hb3 hb2 HP h3
    go_wp2_with fail
    refine (HT.out _ _ w3 (H.out.below S3.out.acc) S3.out.acc.size).mono ?_; rintro e w4 ⟨x4, rfl, ho4, hb4⟩
    have S4 := Lib.hid (S3.out.next hb4)
    have HP := Lib.hid (HCI.out _ _ w4 (Rd.of_own ho4) (Nat.le_refl _) (Ht.out.below S4.out.acc))
    have O4 := Lib.hid ho4
    have S4z := hb4.size
    clear S3 ho4 hb4
    go_wp2_with fail
    refine HP.out.mono ?_; rintro e w5 ⟨g0, rfl, ho5, hb5⟩
    have S5 := Lib.hid (S4.out.next hb5)
    have O5 := Lib.hid (own_below O4.out hb5)
    have G5 := Lib.hid ho5
    have HE := Lib.hid (eqInstrS_same _ _ g0 v1 L w5 (Rd.of_own ho5) S5.out.R (Nat.le_refl _) S5.out.z3 (by omega))
    clear S4 ho5 HP
    go_wp2_with fail
    refine HE.out.mono ?_; rintro e w6 ⟨rfl, hb6⟩
    have S6 := Lib.hid (S5.out.next hb6)
    have O6 := Lib.hid (own_below O5.out hb6)
    have G6 := Lib.hid (own_below G5.out hb6)
    clear S5 O5 G5 HE hb5 hb6
    go_wp2_with fail
    refine (HT.out _ _ w6 (H.out.below S6.out.acc) S6.out.acc.size).mono ?_; rintro e w7 ⟨x7, rfl, ho7, hb7⟩
    have S7 := Lib.hid (S6.out.next hb7)
    have O7 := Lib.hid (own_below O6.out hb7)
    have G7 := Lib.hid (own_below G6.out hb7)
    have HE := Lib.hid (eqStringS_same _ _ _ _ zs zs.length w7 rfl (Rd.of_own O7.out) (Rd.of_own ho7) (by omega))
    clear S6 O6 G6 ho7 hb7
    go_wp2_with fail
    refine HE.out.mono ?_; rintro e w8 ⟨rfl, n8, rfl⟩
    have S8 := Lib.hid (S7.out.drewN n8)
    have O8 := Lib.hid (O7.out.drewN n8)
    have G8 := Lib.hid (G7.out.drewN n8)
    clear S7 O7 G7 HE
    generalize w7.drewN n8 = w8 at *
    go_wp2_with fail
    refine (markStringS_any _ _ 1 zs.length _ w8 O8.out (by omega) (by omega)).mono ?_; rintro e w9 ⟨rfl, hg9, _⟩
    have S9 := Lib.hid (S8.out.grown hg9 (fun k hk => (O8.out.lt k hk).1))
    have G9 := Lib.hid (G8.out.kept hg9 (by
      rcases hv : g0.ownBlock with _ | k
      · exact .inl rfl
      · refine .inr (fun h => ?_)
        have h1 := (O4.out.lt k h.symm).2
        have h2 := (G8.out.lt k hv).1
        omega))
    have HE := Lib.hid (eqInstrS_same _ _ g0 v1 L w9 (Rd.of_own G9.out) S9.out.R (Nat.le_refl _) S9.out.z3 (by omega))
    clear S8 O8 G8 hg9
    go_wp2_with fail
    refine HE.out.mono ?_; rintro e w10 ⟨rfl, hb10⟩
    have S10 := Lib.hid (S9.out.next hb10)
    have G10 := Lib.hid (own_below G9.out hb10)
    clear S9 G9 HE hb10
    have h34 : w3.heap.size ≤ w4.heap.size := S4z
    go_wp2_with fail
    refine (markInstrS_any _ g0 1 L.length _ w10 G10.out (by omega) (by omega)).mono ?_; rintro e w11 ⟨rfl, hg11, ho11⟩
    have S11 := Lib.hid (S10.out.grown hg11 (fun k hk => by have := (G10.out.lt k hk).1; omega))
    have G11 := Lib.hid ho11
    clear S10 G10 hg11 ho11
    go_wp2_with fail
    refine (heldInstrS_any _ g0 1 L.length w11 (Rd.of_own G11.out) (by omega) (by omega)).mono ?_; rintro e w12 ⟨rfl, rfl⟩
    go_wp2_with fail
    refine (HT.out _ _ w11 (H.out.below S11.out.acc) S11.out.acc.size).mono ?_; rintro e w13 ⟨x13, rfl, ho13, hb13⟩
    have S13 := Lib.hid (S11.out.next hb13)
    have G13 := Lib.hid (own_below G11.out hb13)
    have HP := Lib.hid (HCI.out _ _ w13 (Rd.of_own ho13) (Nat.le_refl _) (Ht.out.below S13.out.acc))
    clear S11 G11 ho13 hb13
    go_wp2_with fail
    refine HP.out.mono ?_; rintro e w14 ⟨v14, rfl, ho14, hb14⟩
    have S14 := Lib.hid (S13.out.next hb14)
    have G14 := Lib.hid (own_below G13.out hb14)
    have HE := Lib.hid (eqInstrS_same _ _ v14 v1 L w14 (Rd.of_own ho14) S14.out.R (Nat.le_refl _) S14.out.z3 (by omega))
    clear S13 G13 ho14 hb14 HP
    go_wp2_with fail
    refine HE.out.mono ?_; rintro e w15 ⟨rfl, hb15⟩
    have S15 := Lib.hid (S14.out.next hb15)
    have G15 := Lib.hid (own_below G14.out hb15)
    clear S14 G14 HE hb15
    go_wp2_with fail
    refine (heldInstrS_any _ g0 1 L.length w15 (Rd.of_own G15.out) (by omega) (by omega)).mono ?_; rintro e w16 ⟨rfl, rfl⟩
    go_wp2_with fail
    go_ret
    exact ⟨rfl, S15.out.acc⟩
end Go.Proofs.YtjkjlpjeamifbaaDoor
