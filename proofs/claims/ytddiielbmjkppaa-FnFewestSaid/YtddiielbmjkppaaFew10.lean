/- The law FnFewest: the walk. -/
import Derived.Test.YtddiielbmjkppaaFew9
namespace Go.Proofs.Ytddiielbmjkppaa
open Go.RowKit Go.Joins

set_option maxRecDepth 100000 in
set_option maxHeartbeats 1600000 in
theorem A2Turns_any (B : Nat) (cv : Value) (bs : List UInt8) (w : World) (h : Rd w B cv bs.length 1 (bs.map byV)) (hB : B ≤ w.heap.size) :
    Calls Try.prog 47 #[cv] w (RetTD w.heap.size w) := by
  have hb1 := (Below.refl w.heap.size w).alloc (Nat.le_refl _) (.cells #[.int .i64 0, .slice none 0 0] 58)
  have HF := Lib.hid (l00From_any B cv bs _ (h.below (hb1.mono hB)) (Nat.le_trans hB hb1.size))
  have Hb1 := Lib.hid hb1
  have Hr1 := Lib.hid (heap_alloc_new w (.cells #[.int .i64 0, .slice none 0 0] 58))
  have hz1 : w.heap.size < (w.alloc (.cells #[.int .i64 0, .slice none 0 0] 58)).heap.size := by simp
  obtain ⟨A, c, rfl⟩ := rd_sl h
  clear h hb1
  go_enter Try.func47, Try.ntmps47
  go_wp2_with fail
  generalize w.alloc (.cells #[.int .i64 0, .slice none 0 0] 58) = w1 at *
  refine HF.out.mono ?_; rintro e w2 ⟨rfl, hs2, hb2, hz2⟩
  have HD := Lib.hid (l13Draw_any B w1.heap.size bs w2 hs2)
  unfold RetTD at HD
  have hr2 := (hb2.block w.heap.size hz1).trans Hr1.out
  have Hr2 := Lib.hid hr2
  have Hb2 := Lib.hid (Hb1.out.trans (hb2.mono (Nat.le_of_lt hz1)))
  clear hs2 hb2 hr2
  go_wp2_with fail
  refine (HD.out).mono ?_; rintro e w3 ⟨v, b, l, rfl, htok, ho3, hb3⟩
  obtain ⟨A3, c3, rfl⟩ := own_sl ho3
  have hr3 := (hb3.block w.heap.size hz1).trans Hr2.out
  obtain ⟨r0, r1, z0, z1⟩ := blk2 hr3
  have hq := heap_setCell_same _ w.heap.size 1 _ _ (.slice A3 l.length c3) (heap_setCell_same w3 w.heap.size 0 _ _ (.int .i64 (b : Int)) hr3)
  obtain ⟨e0, e1, _, _⟩ := blk2 hq
  have He0 := Lib.hid e0
  have He1 := Lib.hid e1
  have Htok := Lib.hid htok
  have Hoe := Lib.hid (res2_own ho3 (g := w.heap.size) (B := w.heap.size) (Nat.lt_trans hz1 hz2) (Nat.le_of_lt (Nat.lt_trans hz1 hz2)) (.int .i64 (b : Int)) (.slice A3 l.length c3))
  have Hbe := Lib.hid (((Hb2.out.trans (hb3.mono (Nat.le_of_lt hz1))).setCell (p := ⟨w.heap.size, 0, none⟩) (Nat.le_refl _) (.int .i64 (b : Int))).setCell (p := ⟨w.heap.size, 1, none⟩) (Nat.le_refl _) (.slice A3 l.length c3))
  clear hq e0 e1 hr3 ho3 hb3 htok
  go_wp2_with fail
  exact bodyPost_ret (v := .agg #[.int .i64 (b : Int), .slice A3 l.length c3]) (by simp [results, Try.results47, go_sem, He0.out, He1.out]) rfl ⟨_, b, l, rfl, Htok.out, Hoe.out, Hbe.out⟩

/-- turns in a block of their own -/
def TurnsIn (w : World) (g b : Nat) (A : Option Addr) (c : Nat) (l : List Int) : Prop := w.cell? ⟨g, 0, none⟩ = some (.int .i64 (b : Int)) ∧ w.cell? ⟨g, 1, none⟩ = some (.slice A l.length c) ∧ g < w.heap.size ∧ RdI w w.heap.size (.slice A l.length c) l
theorem TurnsIn.below {w w' : World} {g b c : Nat} {A : Option Addr} {l : List Int} (h : TurnsIn w g b A c l) (hb : Below w.heap.size w w') : TurnsIn w' g b A c l :=
  ⟨(hb.cell (p := ⟨g, 0, none⟩) h.2.2.1).trans h.1, (hb.cell (p := ⟨g, 1, none⟩) h.2.2.1).trans h.2.1, Nat.lt_of_lt_of_le h.2.2.1 hb.size, rdN h.2.2.2 hb⟩
theorem TurnsIn.new {w : World} {b c : Nat} {A : Option Addr} {l : List Int} (h : RdI w w.heap.size (.slice A l.length c) l) : TurnsIn (w.alloc (.cells #[.int .i64 (b : Int), .slice A l.length c] 58)) w.heap.size b A c l :=
  ⟨box2.1, box2.2, by simp, rdN h ((Below.refl _ _).alloc (Nat.le_refl _) _)⟩

set_option maxRecDepth 100000 in
set_option maxHeartbeats 6400000 in
theorem walkFnFewest {W : World} (v1 : Value) (bs : List UInt8) (h1 : Rd W W.heap.size v1 bs.length 1 (bs.map byV)) (_m1 : bs.length ≤ maxLen) (v2 : Value) (cs : List UInt8) (h2 : Rd W W.heap.size v2 cs.length 1 (cs.map byV)) (_m2 : cs.length ≤ maxLen) :
    Calls Try.prog 6 #[v1, v2] W fun e w' => e = .returned (.bool true) ∧ Below W.heap.size W w' := by
  have HL := Lib.hid (a2Long_any _ _ _ _ _ _ _ _ W h1 h2)
  have HA := Lib.hid (fun wx hx hz => A2Turns_any W.heap.size v1 bs wx hx hz)
  have HAt := Lib.hid (fun n k wx hx hk => a2At_any W.heap.size v1 bs n k wx hx hk)
  have HBt := Lib.hid (fun n k wx hx hk => a2At_any W.heap.size v2 cs n k wx hx hk)
  have H1 := Lib.hid h1
  have H2 := Lib.hid h2
  unfold RetTD at HA
  have hb0 := Lib.hid (Below.refl W.heap.size W)
  obtain ⟨A1, c1, rfl⟩ := rd_sl h1
  obtain ⟨A2, c2, rfl⟩ := rd_sl h2
  clear h1 h2
  by_cases hlong : (decide (3000 < bs.length) || decide (3000 < cs.length)) = true
  · rw [hlong] at HL
    go_enter Try.func6, Try.ntmps6
    go_wp2_with fail
    refine (HL.out).mono ?_; rintro e w1 ⟨rfl, rfl⟩
    go_wp2_with fail
    go_ret
    exact ⟨rfl, hb0.out⟩
  · have hlong' : (decide (3000 < bs.length) || decide (3000 < cs.length)) = false := by simpa using hlong
    rw [hlong'] at HL
    clear hlong hlong'
    go_enter Try.func6, Try.ntmps6
    go_wp2_with fail
    refine (HL.out).mono ?_; rintro e w1 ⟨rfl, rfl⟩
    go_wp2_with fail
    refine (HBt.out 15 0 W H2.out (by omega)).mono ?_; rintro e w1 ⟨⟨x, rfl, hx0, hx1, _⟩, rfl⟩
    have hx15 := hx1 (by omega)
    obtain ⟨b, hbx, hb, hb2⟩ : ∃ b : Nat, 2 + x = (b : Int) ∧ 2 ≤ b ∧ b ≤ 16 := ⟨(2 + x).toNat, by omega, by omega, by omega⟩
    clear hx1
    go_wp2_with fail
    refine (HAt.out 256 0 W H1.out (by omega)).mono ?_; rintro e w1 ⟨⟨y0, rfl, hy0, hy0', _⟩, rfl⟩
    have hy0b := hy0' (by omega)
    clear hy0'
    go_wp2_with fail
    refine (HAt.out 256 1 W H1.out (by omega)).mono ?_; rintro e w1 ⟨⟨y1, rfl, hy1, hy1', _⟩, rfl⟩
    have hy1b := hy1' (by omega)
    clear hy1'
    have hm := abs_mul (A := 255) (B := 255) (a := y0) (b := y1) (by omega) (by omega)
    have hm0 := Int.mul_nonneg hy0 hy1
    generalize hP : y0 * y1 = P at *
    have hPw : IntKind.i64.wrap P = P := IntWalk.i64_in _ (by omega)
    go_wp2_with fail
    refine (HAt.out 256 2 W H1.out (by omega)).mono ?_; rintro e w1 ⟨⟨y2, rfl, hy2, hy2', _⟩, rfl⟩
    have hy2b := hy2' (by omega)
    clear hy2'
    obtain ⟨N, hN, hN2⟩ : ∃ N : Nat, P + y2 = (N : Int) ∧ N ≤ 65280 := ⟨(P + y2).toNat, by omega, by omega⟩
    have hPw2 : IntKind.i64.wrap (P + y2) = (N : Int) := by rw [IntWalk.i64_in _ (by omega)]; exact hN
    have HF := Lib.hid (FewestTurns_any b N W hb hb2 (by omega))
    have HPl := Lib.hid (fun wx => PlainTurns_any b N wx hb hb2 (by omega))
    have HLB := Lib.hid (fun wx => LowerBound_any b N wx hb hb2 (by omega))
    have Htf := Lib.hid (tok_few hb hb2 (show N ≤ 62500000 by omega))
    have Htp := Lib.hid (tok_pln hb hb2 (show N ≤ 62500000 by omega))
    unfold RetT at HF HPl
    have Hvf := Lib.hid (show val b (few b N) = N from gn_val (nxF_lt hb) dgF_val N)
    have Hvp := Lib.hid (show val b (pln b N) = N from gn_val (nxP_lt hb) dgP_val N)
    have Hcp := Lib.hid (show cst b N ≤ cnt (pln b N) by
      have := cz_least hb (pln b N)
      rw [Hvp.out] at this
      simpa [cz] using this)
    have Hcf := Lib.hid (show cnt (few b N) = cst b N from rfl)
    have hNi : (N : Int) ≤ 65280 := by omega
    generalize few b N = lf at *
    generalize pln b N = lp at *
    generalize cst b N = cb at *
    clear hPw hP hm hm0
    go_wp2_with fail
    refine (HF.out).mono ?_; rintro e w1 ⟨v3, rfl, ho1, hb1⟩
    obtain ⟨A3, c3, rfl⟩ := own_sl ho1
    have HT1 := Lib.hid (TurnsIn.new (b := b) (Rd.of_own ho1))
    have Hb1 := Lib.hid (hb1.alloc hb1.size (.cells #[.int .i64 (b : Int), .slice A3 lf.length c3] 58))
    clear ho1 hb1 HF
    go_wp2_with fail
    generalize hg7 : w1.heap.size = g7 at *
    generalize w1.alloc (.cells #[.int .i64 (b : Int), .slice A3 lf.length c3] 58) = w2 at *
    refine (HPl.out _).mono ?_; rintro e w3 ⟨v4, rfl, ho3, hb3⟩
    obtain ⟨A4, c4, rfl⟩ := own_sl ho3
    have HT3 := Lib.hid (TurnsIn.new (b := b) (Rd.of_own ho3))
    have Hb3 := Lib.hid (((Hb1.out.trans (hb3.mono Hb1.out.size))).alloc (Nat.le_trans Hb1.out.size hb3.size) (.cells #[.int .i64 (b : Int), .slice A4 lp.length c4] 58))
    have HT1 := Lib.hid ((HT1.out.below hb3).below ((Below.refl w3.heap.size w3).alloc (Nat.le_refl _) (.cells #[.int .i64 (b : Int), .slice A4 lp.length c4] 58)))
    clear ho3 hb3 HPl Hb1 hg7
    go_wp2_with fail
    generalize hg9 : w3.heap.size = g9 at *
    generalize w3.alloc (.cells #[.int .i64 (b : Int), .slice A4 lp.length c4] 58) = w4 at *
    clear hg9
    refine (HLB.out _).mono ?_; rintro e w5 ⟨rfl, hb5⟩
    have HT1 := Lib.hid (HT1.out.below hb5)
    have HT3 := Lib.hid (HT3.out.below hb5)
    have Hb5 := Lib.hid (Hb3.out.trans (hb5.mono Hb3.out.size))
    clear hb5 HLB Hb3
    obtain ⟨p0, p1, _, r1⟩ := HT1.out
    obtain ⟨q0, q1, _, r3⟩ := HT3.out
    have HV1 := Lib.hid (ValidTurnsS_any w5.heap.size b _ lf w5 r1 (Nat.le_refl _) Htf.out)
    clear r1 r3
    go_wp2_with fail
    refine (HV1.out).mono ?_; rintro e w6 ⟨rfl, hb6⟩
    have HT1 := Lib.hid (HT1.out.below hb6)
    have HT3 := Lib.hid (HT3.out.below hb6)
    have Hb6 := Lib.hid (Hb5.out.trans (hb6.mono Hb5.out.size))
    clear hb6 HV1 Hb5 p0 p1 q0 q1
    obtain ⟨p0, p1, _, r1⟩ := HT1.out
    obtain ⟨q0, q1, _, r3⟩ := HT3.out
    have HV1 := Lib.hid (ValidTurnsS_any w6.heap.size b _ lp w6 r3 (Nat.le_refl _) Htp.out)
    clear r1 r3
    go_wp2_with fail
    refine (HV1.out).mono ?_; rintro e w7 ⟨rfl, hb7⟩
    have HT1 := Lib.hid (HT1.out.below hb7)
    have HT3 := Lib.hid (HT3.out.below hb7)
    have Hb7 := Lib.hid (Hb6.out.trans (hb7.mono Hb6.out.size))
    clear hb7 HV1 Hb6 p0 p1 q0 q1
    obtain ⟨p0, p1, _, r1⟩ := HT1.out
    obtain ⟨q0, q1, _, r3⟩ := HT3.out
    have HV1 := Lib.hid (FactorOf_any w7.heap.size b _ lf w7 r1 (Nat.le_refl _) Htf.out)
    rw [Hvf.out] at HV1
    clear r1 r3
    go_wp2_with fail
    refine (HV1.out).mono ?_; rintro e w8 ⟨rfl, hb8⟩
    have HT1 := Lib.hid (HT1.out.below hb8)
    have HT3 := Lib.hid (HT3.out.below hb8)
    have Hb8 := Lib.hid (Hb7.out.trans (hb8.mono Hb7.out.size))
    clear hb8 HV1 Hb7 p0 p1 q0 q1
    obtain ⟨p0, p1, _, r1⟩ := HT1.out
    obtain ⟨q0, q1, _, r3⟩ := HT3.out
    have HV1 := Lib.hid (FactorOf_any w8.heap.size b _ lp w8 r3 (Nat.le_refl _) Htp.out)
    rw [Hvp.out] at HV1
    clear r1 r3
    go_wp2_with fail
    refine (HV1.out).mono ?_; rintro e w9 ⟨rfl, hb9⟩
    have HT1 := Lib.hid (HT1.out.below hb9)
    have HT3 := Lib.hid (HT3.out.below hb9)
    have Hb9 := Lib.hid (Hb8.out.trans (hb9.mono Hb8.out.size))
    clear hb9 HV1 Hb8 p0 p1 q0 q1
    obtain ⟨p0, p1, _, r1⟩ := HT1.out
    obtain ⟨q0, q1, _, r3⟩ := HT3.out
    have HV1 := Lib.hid (CountTurns_any w9.heap.size b _ lf w9 r1 (Nat.le_refl _) Htf.out)
    rw [Hcf.out] at HV1
    clear r1 r3
    go_wp2_with fail
    refine (HV1.out).mono ?_; rintro e wA ⟨rfl, hbA⟩
    have HT3 := Lib.hid (HT3.out.below hbA)
    have HbA := Lib.hid (Hb9.out.trans (hbA.mono Hb9.out.size))
    clear hbA HV1 Hb9 p0 p1 q0 q1
    obtain ⟨q0, q1, _, r3⟩ := HT3.out
    have HV1 := Lib.hid (CountTurns_any wA.heap.size b _ lp wA r3 (Nat.le_refl _) Htp.out)
    have hcp := Hcp.out
    generalize cnt lp = cl at *
    have hcp' : ¬ ((cl : Int) < (cb : Int)) := by omega
    clear r3 hcp
    go_wp2_with fail
    refine (HV1.out).mono ?_; rintro e wB ⟨rfl, hbB⟩
    have HbB := Lib.hid (HbA.out.trans (hbB.mono HbA.out.size))
    have HA1 := Lib.hid (HA.out wB (H1.out.below HbB.out) HbB.out.size)
    clear hbB HV1 HbA q0 q1
    go_wp2_with fail
    refine (HA1.out).mono ?_; rintro e wC ⟨v5, b', l, rfl, htok, hoC, hbC⟩
    obtain ⟨A5, c5, rfl⟩ := own_sl hoC
    obtain ⟨hb', hb2', _⟩ := id htok
    have HTC := Lib.hid (TurnsIn.new (b := b') (Rd.of_own hoC))
    have HbC := Lib.hid (((HbB.out.trans (hbC.mono HbB.out.size))).alloc (Nat.le_trans HbB.out.size hbC.size) (.cells #[.int .i64 (b' : Int), .slice A5 l.length c5] 58))
    have Htok := Lib.hid htok
    clear hoC hbC htok HA1 HbB
    go_wp2_with fail
    generalize hgC : wC.heap.size = gC at *
    generalize wC.alloc (.cells #[.int .i64 (b' : Int), .slice A5 l.length c5] 58) = wD at *
    clear hgC
    obtain ⟨p0, p1, _, r1⟩ := HTC.out
    have HV1 := Lib.hid (FactorOfS_any wD.heap.size b' _ l wD r1 (Nat.le_refl _) Htok.out)
    have hle := cz_least hb' l
    clear r1
    have HbD := HbC
    have hvb := Htok.out.2.2.2.2.2 0 (Nat.zero_le _)
    rw [show l.drop 0 = l from rfl] at hvb
    have HLB2 := Lib.hid (fun (F : Nat) wx (h : F ≤ 62500000) => LowerBound_any b' F wx hb' hb2' h)
    have HCT := Lib.hid (fun wx hx => CountTurns_any wx.heap.size b' (.slice A5 l.length c5) l wx hx (Nat.le_refl _) Htok.out)
    unfold cz at hle
    generalize val b' l = f at *
    (try go_wp2_with fail)
    refine (HV1.out).mono ?_; rintro e wE ⟨rfl, hbE⟩
    have HTC := Lib.hid (HTC.out.below hbE)
    have HbE := Lib.hid (HbC.out.trans (hbE.mono HbC.out.size))
    clear hbE HV1 HbC HbD p0 p1
    obtain ⟨p0, p1, _, r1⟩ := HTC.out
    clear r1
    by_cases hf0 : f < 0
    · clear hvb hle
      go_wp2_with fail
      go_ret
      exact ⟨rfl, HbE.out⟩
    · by_cases hf1 : (62500000 : Int) < f
      · clear hvb hle
        go_wp2_with fail
        go_ret
        exact ⟨rfl, HbE.out⟩
      · obtain ⟨F, rfl⟩ : ∃ F : Nat, f = (F : Int) := ⟨f.toNat, by omega⟩
        rw [Int.natAbs_natCast] at hle
        have HLB3 := Lib.hid (HLB2.out F wE (by omega))
        have hle' : (cst b' F : Int) ≤ (cnt l : Int) := by omega
        generalize cst b' F = y1 at *
        generalize cnt l = y2 at *
        clear hvb hle
        go_wp2_with fail
        refine (HLB3.out).mono ?_; rintro e wF ⟨rfl, hbF⟩
        have HTC := Lib.hid (HTC.out.below hbF)
        have HbF := Lib.hid (HbE.out.trans (hbF.mono HbE.out.size))
        clear hbF HLB3 HbE p0 p1
        obtain ⟨p0, p1, _, r1⟩ := HTC.out
        have HC3 := Lib.hid (HCT.out wF r1)
        clear r1
        go_wp2_with fail
        refine (HC3.out).mono ?_; rintro e wG ⟨rfl, hbG⟩
        have HbG := Lib.hid (HbF.out.trans (hbG.mono HbF.out.size))
        clear hbG HC3 HbF p0 p1
        go_wp2_with fail
        go_ret
        exact ⟨rfl, HbG.out⟩
end Go.Proofs.Ytddiielbmjkppaa
