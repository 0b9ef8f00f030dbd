/- Merged texts: Dp4, Dp5, Dp6, Dp7, Jr3, Sp1, Dn1, Rn1, Rn2, Rn5, Cp1, Cp2, Rn3. -/
import Derived.Test.YtiddhelabmaghaaDoorGCardPrograms2
import Derived.Test.YtiddhelabmaghaaDoorGCardPrograms1
/- Lines of programs that are drawn: l11Lines. -/
namespace Go.Proofs.YtiddhelabmaghaaDoor
open Go.RowKit Go.Joins

/-- a list of texts that is drawn -/
structure DrT (W w : World) (B g k : Nat) (bs : List UInt8) (v : Value) (zs : List ByteArray) (L S : Nat) : Prop where
  dr : DrR W w B g k bs 9 1 v zs.length (zs.map Value.string)
  len : zs.length ≤ L
  sz : ∀ z ∈ zs, z.size ≤ S
  nn : ∃ b c, v = .slice (some ⟨b, 0, none⟩) zs.length c
theorem DrT.draw {W w w' : World} {B g k k' L S : Nat} {bs : List UInt8} {v : Value} {zs : List ByteArray} (h : DrT W w B g k bs v zs L S) (hs : SrcAt w' B g k' bs) (hg : w.grownBy w' (some g)) : DrT W w' B g k' bs v zs L S := ⟨h.dr.draw hs hg, h.len, h.sz, h.nn⟩
theorem DrT.below {W w w' : World} {B g k L S : Nat} {bs : List UInt8} {v : Value} {zs : List ByteArray} (h : DrT W w B g k bs v zs L S) (hb : Below w.heap.size w w') : DrT W w' B g k bs v zs L S := ⟨h.dr.below hb, h.len, h.sz, h.nn⟩
theorem DrT.more {W w : World} {B g k k' L L' S S' : Nat} {bs : List UInt8} {v : Value} {zs : List ByteArray} (h : DrT W w B g k bs v zs L S) (hk : k ≤ k') (hL : L ≤ L') (hS : S ≤ S') : DrT W w B g k' bs v zs L' S' := ⟨h.dr.more hk, Nat.le_trans h.len hL, fun z hz => Nat.le_trans (h.sz z hz) hS, h.nn⟩
theorem DrT.cellAt {W w : World} {B g k L S b c : Nat} {bs : List UInt8} {zs : List ByteArray} (h : DrT W w B g k bs (.slice (some ⟨b, 0, none⟩) zs.length c) zs L S) (i : Nat) (hi : i < zs.length) :
    w.cell? ⟨b, i, none⟩ = some (.string zs[i]) ∧ w.frozen? ⟨b, i, none⟩ = false := by
  refine ⟨(h.dr.row.cellAt i (by omega)).trans ?_, h.dr.row.frozenAt _⟩
  rw [List.getElem?_map, List.getElem?_eq_getElem hi]; rfl
theorem DrT.put {W w : World} {B g k L S b c : Nat} {bs : List UInt8} {zs : List ByteArray} (h : DrT W w B g k bs (.slice (some ⟨b, 0, none⟩) zs.length c) zs L S) (i : Nat) (z : ByteArray) (hz : z.size ≤ S) :
    ∃ zs', zs'.length = zs.length ∧ DrT W (w.setCell ⟨b, i, none⟩ (.string z)) B g k bs (.slice (some ⟨b, 0, none⟩) zs.length c) zs' L S := by
  obtain ⟨h1, h2⟩ := h.dr.row.stored i (.string z)
  rw [← List.map_set] at h1
  refine ⟨zs.set i z, List.length_set, ⟨h.dr.app (by rw [List.length_set]; exact h1) h2, by rw [List.length_set]; exact h.len, fun x hx => ?_, ⟨b, c, by rw [List.length_set]⟩⟩⟩
  rcases List.mem_or_eq_of_mem_set hx with hx | rfl
  · exact h.sz x hx
  · exact hz
theorem DrT.cut {W w : World} {B g k L S b c : Nat} {bs : List UInt8} {zs : List ByteArray} (h : DrT W w B g k bs (.slice (some ⟨b, 0, none⟩) zs.length c) zs L S) (i : Nat) (hi : i ≤ zs.length) :
    ∃ zs', zs'.length = i ∧ DrT W w B g k bs (.slice (some ⟨b, 0, none⟩) i c) zs' L S := by
  have h1 := own_take h.dr.row hi
  rw [Nat.mul_one, ← List.map_take] at h1
  have hm : (zs.take i).length = i := by rw [List.length_take]; omega
  exact ⟨zs.take i, hm, ⟨⟨h.dr.lt, h.dr.src, by rw [hm]; exact h1, h.dr.gr⟩, by rw [hm]; have := h.len; omega, fun x hx => h.sz x (List.mem_of_mem_take hx), ⟨b, c, by rw [hm]⟩⟩⟩
def RetTx (w : World) (B g k : Nat) (bs : List UInt8) (L S : Nat) (e : Ending) (w' : World) : Prop := ∃ v zs, e = .returned v ∧ DrT w w' B g k bs v zs L S
theorem RetTx.of {w w' : World} {B g k n L L' S S' : Nat} {bs : List UInt8} {v : Value} {zs : List ByteArray} {e : Ending} (h : DrT w w' B g k bs v zs L S) (he : e = .returned v) (hk : k ≤ n) (hL : L ≤ L') (hS : S ≤ S') : RetTx w B g n bs L' S' e w' := ⟨v, zs, he, h.more hk hL hS⟩
theorem lineZ_size {x : Int × Int} (h : okIns x.1 x.2 = true) : (lineZ x).size ≤ 26 := by
  obtain ⟨h1, h10, h0, ha⟩ := okIns_bd h
  have hw := wordP_size x.1.toNat (by omega)
  have hd := decS_size x.2 (by omega) (by omega)
  unfold lineZ lineP
  split
  · rw [ByteArray.size_append, ByteArray.size_append]
    show _ + 1 + _ ≤ _
    omega
  · omega
def linesL : List ByteArray := [⟨#[]⟩, ⟨#[101, 110, 100]⟩, ⟨#[116, 105, 109, 101, 115, 32, 51]⟩, ⟨#[98, 101, 108, 108]⟩, ⟨#[97, 100, 100, 32, 49]⟩, ⟨#[97, 100, 100, 32, 48]⟩, ⟨#[115, 101, 116]⟩, ⟨#[115, 101, 116, 32, 49]⟩, ⟨#[99, 108, 101, 97, 114, 32, 50]⟩, ⟨#[97, 100, 100, 32, 49, 48, 49]⟩, ⟨#[116, 117, 114, 110]⟩, ⟨#[116, 105, 109, 101, 115]⟩, ⟨#[116, 105, 109, 101, 115, 32, 49]⟩, ⟨#[114, 105, 103, 104, 116, 32, 50, 32, 51]⟩]
theorem linesL_sz : ∀ z ∈ linesL, z.size ≤ 27 := by decide
theorem infoStr2 : (Tryd.prog.info? 9).map (fun i => (i.zero, i.size, i.bytes)) = some (some (.string ⟨#[]⟩), 1, 16) := by kernel_rfl

theorem made_T {W w9 : World} {B g k : Nat} {bs : List UInt8} (hl : g < W.heap.size) (hs : SrcAt w9 B g k bs) (hg : W.grownBy w9 (some g)) (n : Nat) (hn : n ≤ 121) :
    ∃ wm, (Instr.makeSlice 37 (.int .i64 (n : Int)) (.int .i64 (n : Int))).run Tryd.prog w9 = .ok (.slice (some ⟨w9.heap.size, 0, none⟩) n n) wm ∧ DrT W wm B g k bs (.slice (some ⟨w9.heap.size, 0, none⟩) n n) (List.replicate n ⟨#[]⟩) 121 0 := by
  obtain ⟨i, hi, hz, h2, h3⟩ := info_parts infoStr2
  obtain ⟨wm, hr, hown, hg2⟩ := run_makeSlice_full (P := Tryd.prog) (w := w9) w9.heap.size 37 9 i _ 1 Tryd.underlying37 hi hz h2 .i64 .i64 n (by omega) (by rw [h3]; omega) (by simp [maxLen]; omega) (Nat.le_refl _)
  have hb1 := below_of_grown hg2 (Nat.le_refl _) (fun x hx => by cases hx)
  have e1 : (madeCells (Value.cells (.string ⟨#[]⟩)) (n * 1)).toList = (List.replicate n (⟨#[]⟩ : ByteArray)).map Value.string := by
    rw [Nat.mul_one, List.map_replicate]
    exact toList_madeCells_one _ n
  rw [e1] at hown
  exact ⟨wm, hr, ⟨⟨hl, hs.below hb1, by rw [List.length_replicate]; exact ownsRow_le hown hg.size, grown_below hg hb1⟩, by rw [List.length_replicate]; exact hn, fun z hz => (by rw [(List.mem_replicate.1 hz).2]; exact Nat.le_refl _), ⟨_, _, by rw [List.length_replicate]⟩⟩⟩

set_option maxRecDepth 100000 in
set_option maxHeartbeats 3200000 in
theorem lines11_any (B g k : Nat) (bs : List UInt8) (w : World) (hs : SrcAt w B g k bs) (hk : k + 2100 ≤ 4611686018427380000) :
    Calls Tryd.prog 76 #[.pointer (some ⟨g, 0, none⟩)] w (RetTx w B g (k + 2100) bs 168 28) := by
  have H := Lib.hid hs
  have hlt := hs.lt
  clear hs
  go_enter Tryd.func76, Tryd.ntmps76
  go_wp2_with fail
  refine (draw11_any B g k bs _ H.out (by omega)).mono ?_; rintro e w1 ⟨v, l, rfl, hd1⟩
  obtain ⟨b1, c1, rfl⟩ := hd1.nn
  have HD1 := Lib.hid hd1
  have hll := hd1.len
  have Hcell := Lib.hid (fun i hi => hd1.cellsAt i hi)
  have Hb1 := Lib.hid (hd1.dr.row.lt b1 rfl).2
  have Hok := Lib.hid hd1.ok
  have hb0 := Lib.hid ((Below.refl w1.heap.size w1).alloc (Nat.le_refl _) (.cells #[] 9))
  have ho0 := Lib.hid (World.ownsRow_made (base := w1.heap.size) (e := 9) (size := 1) w1 #[] 0 (Nat.le_refl _) (by simp [maxLen]) rfl)
  clear hd1 H
  go_wp2_with fail
  go_loopw [4, 5] (fun o i wr => ∃ (j : Nat) (c : Nat) (b : Nat), j ≤ l.length ∧ i = .int .i64 (j : Int) ∧ o = .slice (some ⟨b, 0, none⟩) j c ∧ wr.ownsRow w1.heap.size 9 1 o j (((l.take j).map lineZ).map Value.string) ∧ Below w1.heap.size w1 wr) (fun _ i _ => l.length - (intOf i).toNat)
  case atStart => exact ⟨0, 0, w1.heap.size, Nat.zero_le _, rfl, rfl, ho0.out, hb0.out⟩
  case round =>
    obtain ⟨j, co, bo, hjl, rfl, rfl, hown, hbl⟩ := hrel
    have Hown := Lib.hid hown
    have Hbl := Lib.hid hbl
    clear ho0 hb0
    by_cases hj : j < l.length
    · have hj' : (j : Int) < (l.length : Int) := by omega
      obtain ⟨p0, p1, _, _⟩ := Hcell.out j hj
      have hx := Hok.out l[j] (List.getElem_mem hj)
      have hst : (((l.take (j + 1)).map lineZ).map Value.string) = ((l.take j).map lineZ).map Value.string ++ [.string (lineZ l[j])] := by
        rw [List.take_succ_eq_append_getElem hj, List.map_append, List.map_append]; rfl
      have Hst := Lib.hid hst
      clear hst
      generalize l[j] = x at *
      obtain ⟨op, a⟩ := x
      obtain ⟨q1, q10, _, _⟩ := okIns_bd hx
      obtain ⟨n, rfl⟩ : ∃ n : Nat, op = (n : Int) := ⟨op.toNat, by dsimp only at q1; omega⟩
      have hlz : lineZ ((n : Int), a) = lineP n a := by unfold lineZ; rw [Int.toNat_natCast]
      rw [hlz] at Hst
      have r0 := (hbl.cell (p := ⟨b1, j * 2, none⟩) Hb1.out).trans p0
      have r1 := (hbl.cell (p := ⟨b1, j * 2 + 1, none⟩) Hb1.out).trans p1
      have HL := Lib.hid (l11Text_any b1 (j * 2) n a wr hx r0 r1)
      generalize lineP n a = Z at *
      clear hown hbl p0 p1 r0 r1 hlz hx q1 q10
      go_wp2_with fail
      refine HL.out.mono ?_; rintro e w6 ⟨rfl, hb6⟩
      have Hb6 := Lib.hid (Hbl.out.trans (hb6.mono Hbl.out.size))
      have Ho6 := Lib.hid (own_below Hown.out hb6)
      have hz6 := Hb6.out.size
      clear hb6 Hbl Hown HL
      go_wp2_with (at_builtin; refine wpList_apd 37 9 _ 1 16 Tryd.underlying37 infoStr2 rfl (by omega) _ _ rfl rfl w1.heap.size _ j _ rfl Ho6.out #[.string Z] 1 1 rfl rfl (by simp [Value.oneCell']) (by simp [maxLen]; omega) (by omega) hz6 ?_; intro v7 w7 hown7 hg7; have Hb7 := Lib.hid (below_apd Hb6.out Ho6.out hg7 (Nat.le_refl _) hz6); obtain ⟨b7, c7, rfl, _⟩ := own_posC hown7 (by omega); have Ho7 := Lib.hid hown7; clear hown7 hg7)
      go_roundw
      case rel => exact ⟨j + 1, c7, b7, by omega, by go_num, rfl, by rw [Hst.out]; exact Ho7.out, Hb7.out⟩
      case measure => simp [intOf]; omega
    · have hjj : j = l.length := by omega
      subst hjj
      rw [List.take_length] at hown
      have HT := Lib.hid (show DrT w wr B g (k + 2000) bs (.slice (some ⟨bo, 0, none⟩) (l.map lineZ).length co) (l.map lineZ) 168 27 from ⟨⟨hlt, HD1.out.dr.src.below hbl, by rw [List.length_map]; exact ownsRow_le hown HD1.out.dr.size, grown_below HD1.out.dr.gr hbl⟩, by rw [List.length_map]; exact hll, fun z hz => by
        obtain ⟨x, hx, rfl⟩ := List.mem_map.1 hz
        exact Nat.le_trans (lineZ_size (Hok.out x hx)) (by omega), ⟨bo, co, rfl⟩⟩)
      have hlm : (l.map lineZ).length = l.length := List.length_map ..
      rw [hlm] at HT
      generalize hzs : l.map lineZ = zs at *
      clear hown Hown Hbl Hcell Hok HD1 hzs hbl
      rw [← hlm] at HT ⊢
      clear hjl hlm hll
      by_cases hl0 : zs.length = 0
      · have h00 : ((zs.length : Int) == 0) = true := by rw [beq_iff_eq]; omega
        have Hl0 := Lib.hid hl0; clear hl0
        go_wp2_with fail
        go_ret
        exact RetTx.of HT.out rfl (by omega) (by omega) (by omega)
      have h00 : ((zs.length : Int) == 0) = false := by rw [beq_eq_false_iff_ne]; omega
      have hzl := HT.out.len
      go_wp2_with fail
      refine (pick_any B g _ bs _ _ HT.out.dr.src (by omega)).mono ?_; rintro e w2 ⟨x, rfl, ⟨hx0, hx1, hx2⟩, hs2, hg2⟩
      obtain ⟨i, rfl⟩ : ∃ i : Nat, x = i := ⟨x.toNat, by omega⟩
      have hi : i < zs.length := by
        by_cases h1 : zs.length = 1
        · have := hx2 (by omega); omega
        · have := hx1 (by omega); omega
      have hi' : (i : Int) < (zs.length : Int) := by omega
      have HD2 := Lib.hid (HT.out.draw hs2 hg2)
      clear hs2 hg2 hx1 hx2 HT
      go_wp2_with fail
      refine (pick_any B g _ bs 8 _ HD2.out.dr.src (by omega)).mono ?_; rintro e w3 ⟨x, rfl, ⟨hx0, hx1, hx2⟩, hs3, hg3⟩
      have HD3 := Lib.hid (HD2.out.draw hs3 hg3)
      clear hs3 hg3 hx1 hx2 HD2
      by_cases e0 : x = 0
      · subst e0
        obtain ⟨p0, _⟩ := HD3.out.cellAt i hi
        have hsz := HD3.out.sz zs[i] (List.getElem_mem hi)
        generalize zs[i] = z0 at *
        go_wp2_with fail
        refine (spoil_any B g _ bs z0 _ HD3.out.dr.src (by omega) (by omega)).mono ?_; rintro e w4 ⟨z, rfl, hz, hs4, hg4⟩
        have HD4 := Lib.hid (HD3.out.draw hs4 hg4)
        obtain ⟨p0, q0⟩ := HD4.out.cellAt i hi
        obtain ⟨zs', hl', hd5⟩ := (HD4.out.more (Nat.le_refl _) (Nat.le_refl _) (S' := 28) (by omega)).put i z (by omega)
        have HD5 := Lib.hid hd5
        clear hs4 hg4 HD3 HD4 hl' hd5
        go_wp2_with fail
        refine (one_any B g _ bs 30 _ HD5.out.dr.src (by omega)).mono ?_; rintro e w8 ⟨y8, rfl, hs8, hg8⟩
        have HD8 := Lib.hid (HD5.out.draw hs8 hg8)
        clear hs8 hg8 HD5
        cases y8 with
        | false =>
          go_wp2_with fail
          go_ret
          have hfin := HD8.out
          exact RetTx.of hfin rfl (by omega) (by omega) (by omega)
        | true =>
          go_wp2_with fail
          refine (pick_any B g _ bs 2 _ HD8.out.dr.src (by omega)).mono ?_; rintro e w9 ⟨y9, rfl, ⟨h90, h91, _⟩, hs9, hg9⟩
          have h92 := h91 (by omega)
          obtain ⟨c9, hc9, hc94⟩ : ∃ c : Nat, 120 + y9 = (c : Int) ∧ c ≤ 121 := ⟨(120 + y9).toNat, by omega, by omega⟩
          have HM := Lib.hid (made_T HD8.out.dr.lt hs9 (grown_trans HD8.out.dr.gr hg9) c9 hc94)
          obtain ⟨wm, hr, hm⟩ := HM.out
          have HDm := Lib.hid hm
          clear hs9 hg9 h91 HD8 HM hm
          go_wp2_with fail
          go_ret
          exact RetTx.of HDm.out rfl (by omega) (by omega) (by omega)
      have b0 : (x == 0) = false := by simpa using e0
      by_cases e1 : x = 1
      · subst e1
        have hbk := (Below.refl w3.heap.size w3).alloc (Nat.le_refl _) (.cells (linesL.map Value.string).toArray 9)
        go_wp2_with fail
        refine (text_new B g _ 14 linesL bs w3 HD3.out.dr.src (by omega) rfl (by omega) (by omega)).mono ?_; rintro e w4 ⟨z, hz, rfl, hs4, hg4⟩
        have hz27 := linesL_sz z hz
        have HD4 := Lib.hid (HD3.out.draw hs4 hg4)
        obtain ⟨p0, q0⟩ := HD4.out.cellAt i hi
        obtain ⟨zs', hl', hd5⟩ := HD4.out.put i z hz27
        have HD5 := Lib.hid hd5
        clear hs4 hg4 HD3 HD4 hl' hd5 hz hz27 hbk
        go_wp2_with fail
        refine (one_any B g _ bs 30 _ HD5.out.dr.src (by omega)).mono ?_; rintro e w8 ⟨y8, rfl, hs8, hg8⟩
        have HD8 := Lib.hid (HD5.out.draw hs8 hg8)
        clear hs8 hg8 HD5
        cases y8 with
        | false =>
          go_wp2_with fail
          go_ret
          have hfin := HD8.out
          exact RetTx.of hfin rfl (by omega) (by omega) (by omega)
        | true =>
          go_wp2_with fail
          refine (pick_any B g _ bs 2 _ HD8.out.dr.src (by omega)).mono ?_; rintro e w9 ⟨y9, rfl, ⟨h90, h91, _⟩, hs9, hg9⟩
          have h92 := h91 (by omega)
          obtain ⟨c9, hc9, hc94⟩ : ∃ c : Nat, 120 + y9 = (c : Int) ∧ c ≤ 121 := ⟨(120 + y9).toNat, by omega, by omega⟩
          have HM := Lib.hid (made_T HD8.out.dr.lt hs9 (grown_trans HD8.out.dr.gr hg9) c9 hc94)
          obtain ⟨wm, hr, hm⟩ := HM.out
          have HDm := Lib.hid hm
          clear hs9 hg9 h91 HD8 HM hm
          go_wp2_with fail
          go_ret
          exact RetTx.of HDm.out rfl (by omega) (by omega) (by omega)
      have b1 : (x == 1) = false := by simpa using e1
      by_cases e2 : x = 2
      · subst e2
        obtain ⟨hcap, _⟩ := own_cap2 HD3.out.dr.row
        have hci : (i : Int) ≤ (co : Int) := by omega
        obtain ⟨zs', hl', hd5⟩ := HD3.out.cut i (by omega)
        have HD5 := Lib.hid hd5
        clear HD3 hl' hd5
        go_wp2_with fail
        refine (one_any B g _ bs 30 _ HD5.out.dr.src (by omega)).mono ?_; rintro e w8 ⟨y8, rfl, hs8, hg8⟩
        have HD8 := Lib.hid (HD5.out.draw hs8 hg8)
        clear hs8 hg8 HD5
        cases y8 with
        | false =>
          go_wp2_with fail
          go_ret
          have hfin := HD8.out
          exact RetTx.of hfin rfl (by omega) (by omega) (by omega)
        | true =>
          go_wp2_with fail
          refine (pick_any B g _ bs 2 _ HD8.out.dr.src (by omega)).mono ?_; rintro e w9 ⟨y9, rfl, ⟨h90, h91, _⟩, hs9, hg9⟩
          have h92 := h91 (by omega)
          obtain ⟨c9, hc9, hc94⟩ : ∃ c : Nat, 120 + y9 = (c : Int) ∧ c ≤ 121 := ⟨(120 + y9).toNat, by omega, by omega⟩
          have HM := Lib.hid (made_T HD8.out.dr.lt hs9 (grown_trans HD8.out.dr.gr hg9) c9 hc94)
          obtain ⟨wm, hr, hm⟩ := HM.out
          have HDm := Lib.hid hm
          clear hs9 hg9 h91 HD8 HM hm
          go_wp2_with fail
          go_ret
          exact RetTx.of HDm.out rfl (by omega) (by omega) (by omega)
      have b2 : (x == 2) = false := by simpa using e2
      go_wp2_with fail
      refine (one_any B g _ bs 30 _ HD3.out.dr.src (by omega)).mono ?_; rintro e w8 ⟨y8, rfl, hs8, hg8⟩
      have HD8 := Lib.hid (HD3.out.draw hs8 hg8)
      clear hs8 hg8 HD3
      cases y8 with
      | false =>
        go_wp2_with fail
        go_ret
        have hfin := HD8.out
        exact RetTx.of hfin rfl (by omega) (by omega) (by omega)
      | true =>
        go_wp2_with fail
        refine (pick_any B g _ bs 2 _ HD8.out.dr.src (by omega)).mono ?_; rintro e w9 ⟨y9, rfl, ⟨h90, h91, _⟩, hs9, hg9⟩
        have h92 := h91 (by omega)
        obtain ⟨c9, hc9, hc94⟩ : ∃ c : Nat, 120 + y9 = (c : Int) ∧ c ≤ 121 := ⟨(120 + y9).toNat, by omega, by omega⟩
        have HM := Lib.hid (made_T HD8.out.dr.lt hs9 (grown_trans HD8.out.dr.gr hg9) c9 hc94)
        obtain ⟨wm, hr, hm⟩ := HM.out
        have HDm := Lib.hid hm
        clear hs9 hg9 h91 HD8 HM hm
        go_wp2_with fail
        go_ret
        exact RetTx.of HDm.out rfl (by omega) (by omega) (by omega)
end Go.Proofs.YtiddhelabmaghaaDoor
/- Lists of instructions are compared (SameProgram, f6instrs). -/
namespace Go.Proofs.YtiddhelabmaghaaDoor
open Go.RowKit Go.Joins

theorem take_eq_step {α : Type} {xs ys : List α} (k : Nat) (hx : k < xs.length) (hy : k < ys.length) (h0 : xs.take k = ys.take k) (h : xs[k] = ys[k]) : xs.take (k + 1) = ys.take (k + 1) := by
  rw [List.take_succ_eq_append_getElem hx, List.take_succ_eq_append_getElem hy, h0, h]
theorem ne_of_get {xs ys : List (Int × Int)} (k : Nat) (hx : k < xs.length) (hy : k < ys.length) (h : xs[k] ≠ ys[k]) : decide (xs = ys) = false :=
  decide_eq_false fun e => h (by subst e; rfl)

set_option maxRecDepth 100000 in
set_option maxHeartbeats 1600000 in
theorem SamePI_any (B1 B2 : Nat) (v1 v2 : Value) (xs ys : List (Int × Int)) (w : World) (h1 : Rd w B1 v1 xs.length 2 (progs xs)) (h2 : Rd w B2 v2 ys.length 2 (progs ys)) (hx : xs.length ≤ 1048576) (_hy : ys.length ≤ 1048576) :
    Calls Tryd.prog 30 #[v1, v2] w fun e w' => e = .returned (.bool (decide (xs = ys))) ∧ ∃ n, w' = w.drewN n := by
  have H1 := Lib.hid h1
  have H2 := Lib.hid h2
  obtain ⟨_, A1, c1, rfl, _⟩ := h1
  obtain ⟨_, A2, c2, rfl, _⟩ := h2
  by_cases hl : xs.length = ys.length
  · have hl' : ((xs.length : Int) == (ys.length : Int)) = true := by rw [beq_iff_eq]; omega
    have hl2 : ((xs.length : Int) != (ys.length : Int)) = false := by simp [bne, hl']
    have Hl := Lib.hid hl; clear hl
    go_enter Tryd.func30, Tryd.ntmps30
    go_wp2_with fail
    go_loopw [13] (fun i wr => ∃ k : Nat, k ≤ xs.length ∧ i = .int .i64 (k : Int) ∧ xs.take k = ys.take k ∧ ∃ n, wr = w.drewN n) (fun i _ => xs.length - (intOf i).toNat)
    case atStart => exact ⟨0, Nat.zero_le _, rfl, rfl, 0, rfl⟩
    case round =>
      obtain ⟨k, hk, rfl, htk, n0, rfl⟩ := hrel
      have Htk := Lib.hid htk
      clear htk
      by_cases hlt : k < xs.length
      · have hlt' : (k : Int) < (xs.length : Int) := by omega
        have hlt2 : (k : Int) < (ys.length : Int) := by have := Hl.out; omega
        have hky : k < ys.length := by have := Hl.out; omega
        obtain ⟨b1, o1, hA1, _, p0, p1⟩ := progs_rd H1.out k hlt
        obtain ⟨b2, o2, hA2, _, q0, q1⟩ := progs_rd H2.out k hky
        subst hA1 hA2
        have hkz : (0 : Int) ≤ (k : Int) := by omega
        have Hst := Lib.hid (fun h => take_eq_step (xs := xs) (ys := ys) k hlt hky Htk.out h)
        have Hbad := Lib.hid (fun h => ne_of_get (xs := xs) (ys := ys) k hlt hky h)
        generalize xs[k] = x at *
        generalize ys[k] = y at *
        obtain ⟨a, b⟩ := x
        obtain ⟨c, d⟩ := y
        dsimp only at p0 p1 q0 q1
        by_cases he : a = c ∧ b = d
        · obtain ⟨rfl, rfl⟩ := he
          have Hs2 := Lib.hid (Hst.out rfl)
          clear Hst Hbad
          go_wp2_with fail
          go_quiet (fail)
          go_wp2_with fail
          go_roundw
          case rel => exact ⟨k + 1, by omega, by go_num, Hs2.out, _, rfl⟩
          case measure => simp [intOf]; omega
        · have Hb2 := Lib.hid (Hbad.out (fun h => he ⟨congrArg Prod.fst h, congrArg Prod.snd h⟩))
          clear Hst Hbad
          by_cases h1 : a = c
          · subst h1
            have h2 : (b == d) = false := beq_eq_false_iff_ne.2 fun h => he ⟨rfl, h⟩
            go_wp2_with fail
            go_quiet (fail)
            go_wp2_with fail
            go_ret
            exact ⟨by rw [Hb2.out]; rfl, _, World.drewN_drewN _ _ _⟩
          · have h2 : (a == c) = false := beq_eq_false_iff_ne.2 h1
            go_wp2_with fail
            go_quiet (fail)
            go_wp2_with fail
            go_ret
            exact ⟨by rw [Hb2.out]; rfl, _, World.drewN_drewN _ _ _⟩
      · have hkk : k = xs.length := by omega
        subst hkk
        have hlt' : (xs.length : Int) ≤ (xs.length : Int) := Int.le_refl _
        have he : xs = ys := by
          have h := Htk.out
          have h3 := Hl.out
          rw [List.take_length, h3, List.take_length] at h
          exact h
        have He := Lib.hid (decide_eq_true he)
        clear he
        go_wp2_with fail
        go_ret
        exact ⟨by rw [He.out]; rfl, n0, rfl⟩
  · have hl' : ((xs.length : Int) == (ys.length : Int)) = false := by rw [beq_eq_false_iff_ne]; omega
    have hl2 : ((xs.length : Int) != (ys.length : Int)) = true := by simp [bne, hl']
    have He := Lib.hid (show decide (xs = ys) = false from decide_eq_false (fun h => hl (by rw [h])))
    clear hl
    go_enter Tryd.func30, Tryd.ntmps30
    go_wp2_with fail
    go_ret
    exact ⟨by rw [He.out]; rfl, 0, rfl⟩

set_option maxRecDepth 100000 in
set_option maxHeartbeats 1600000 in
theorem SamePS_any (B1 B2 : Nat) (v1 v2 : Value) (xs ys : List (Int × Int)) (w : World) (h1 : Rd w B1 v1 xs.length 2 (progs xs)) (h2 : Rd w B2 v2 ys.length 2 (progs ys)) (hx : xs.length ≤ 1048576) (_hy : ys.length ≤ 1048576) :
    Calls Tryd.prog 31 #[v1, v2] w fun e w' => e = .returned (.bool (decide (xs = ys))) ∧ ∃ n, w' = w.drewN n := by
  have H1 := Lib.hid h1
  have H2 := Lib.hid h2
  obtain ⟨_, A1, c1, rfl, _⟩ := h1
  obtain ⟨_, A2, c2, rfl, _⟩ := h2
  by_cases hl : xs.length = ys.length
  · have hl' : ((xs.length : Int) == (ys.length : Int)) = true := by rw [beq_iff_eq]; omega
    have hl2 : ((xs.length : Int) != (ys.length : Int)) = false := by simp [bne, hl']
    have Hl := Lib.hid hl; clear hl
    go_enter Tryd.func31, Tryd.ntmps31
    go_wp2_with fail
    go_loopw [5] (fun i wr => ∃ k : Nat, k ≤ xs.length ∧ i = .int .i64 (k : Int) ∧ xs.take k = ys.take k ∧ ∃ n, wr = w.drewN n) (fun i _ => xs.length - (intOf i).toNat)
    case atStart => exact ⟨0, Nat.zero_le _, rfl, rfl, 0, rfl⟩
    case round =>
      obtain ⟨k, hk, rfl, htk, n0, rfl⟩ := hrel
      have Htk := Lib.hid htk
      clear htk
      by_cases hlt : k < xs.length
      · have hlt' : (k : Int) < (xs.length : Int) := by omega
        have hlt2 : (k : Int) < (ys.length : Int) := by have := Hl.out; omega
        have hky : k < ys.length := by have := Hl.out; omega
        obtain ⟨b1, o1, hA1, _, p0, p1⟩ := progs_rd H1.out k hlt
        obtain ⟨b2, o2, hA2, _, q0, q1⟩ := progs_rd H2.out k hky
        subst hA1 hA2
        have hkz : (0 : Int) ≤ (k : Int) := by omega
        have Hst := Lib.hid (fun h => take_eq_step (xs := xs) (ys := ys) k hlt hky Htk.out h)
        have Hbad := Lib.hid (fun h => ne_of_get (xs := xs) (ys := ys) k hlt hky h)
        generalize xs[k] = x at *
        generalize ys[k] = y at *
        obtain ⟨a, b⟩ := x
        obtain ⟨c, d⟩ := y
        dsimp only at p0 p1 q0 q1
        by_cases he : a = c ∧ b = d
        · obtain ⟨rfl, rfl⟩ := he
          have Hs2 := Lib.hid (Hst.out rfl)
          clear Hst Hbad
          go_wp2_with fail
          go_quiet (fail)
          go_wp2_with fail
          go_roundw
          case rel => exact ⟨k + 1, by omega, by go_num, Hs2.out, _, rfl⟩
          case measure => simp [intOf]; omega
        · have Hb2 := Lib.hid (Hbad.out (fun h => he ⟨congrArg Prod.fst h, congrArg Prod.snd h⟩))
          clear Hst Hbad
          by_cases h1 : a = c
          · subst h1
            have h2 : (b == d) = false := beq_eq_false_iff_ne.2 fun h => he ⟨rfl, h⟩
            go_wp2_with fail
            go_quiet (fail)
            go_wp2_with fail
            go_ret
            exact ⟨by rw [Hb2.out]; rfl, _, World.drewN_drewN _ _ _⟩
          · have h2 : (a == c) = false := beq_eq_false_iff_ne.2 h1
            go_wp2_with fail
            go_quiet (fail)
            go_wp2_with fail
            go_ret
            exact ⟨by rw [Hb2.out]; rfl, _, World.drewN_drewN _ _ _⟩
      · have hkk : k = xs.length := by omega
        subst hkk
        have hlt' : (xs.length : Int) ≤ (xs.length : Int) := Int.le_refl _
        have he : xs = ys := by
          have h := Htk.out
          have h3 := Hl.out
          rw [List.take_length, h3, List.take_length] at h
          exact h
        have He := Lib.hid (decide_eq_true he)
        clear he
        go_wp2_with fail
        go_ret
        exact ⟨by rw [He.out]; rfl, n0, rfl⟩
  · have hl' : ((xs.length : Int) == (ys.length : Int)) = false := by rw [beq_eq_false_iff_ne]; omega
    have hl2 : ((xs.length : Int) != (ys.length : Int)) = true := by simp [bne, hl']
    have He := Lib.hid (show decide (xs = ys) = false from decide_eq_false (fun h => hl (by rw [h])))
    clear hl
    go_enter Tryd.func31, Tryd.ntmps31
    go_wp2_with fail
    go_ret
    exact ⟨by rw [He.out]; rfl, 0, rfl⟩

set_option maxRecDepth 100000 in
set_option maxHeartbeats 1600000 in
theorem f6instrs_any (B1 B2 : Nat) (v1 v2 : Value) (xs ys : List (Int × Int)) (w : World) (h1 : Rd w B1 v1 xs.length 2 (progs xs)) (h2 : Rd w B2 v2 ys.length 2 (progs ys)) (hx : xs.length ≤ 1048576) (_hy : ys.length ≤ 1048576) :
    Calls Tryd.prog 29 #[v1, v2] w fun e w' => e = .returned (.bool (decide (xs = ys))) ∧ ∃ n, w' = w.drewN n := by
  have H1 := Lib.hid h1
  have H2 := Lib.hid h2
  obtain ⟨_, A1, c1, rfl, _⟩ := h1
  obtain ⟨_, A2, c2, rfl, _⟩ := h2
  by_cases hl : xs.length = ys.length
  · have hl' : ((xs.length : Int) == (ys.length : Int)) = true := by rw [beq_iff_eq]; omega
    have hl2 : ((xs.length : Int) != (ys.length : Int)) = false := by simp [bne, hl']
    have Hl := Lib.hid hl; clear hl
    go_enter Tryd.func29, Tryd.ntmps29
    go_wp2_with fail
    go_loopw [5] (fun i wr => ∃ k : Nat, k ≤ xs.length ∧ i = .int .i64 (k : Int) ∧ xs.take k = ys.take k ∧ ∃ n, wr = w.drewN n) (fun i _ => xs.length - (intOf i).toNat)
    case atStart => exact ⟨0, Nat.zero_le _, rfl, rfl, 0, rfl⟩
    case round =>
      obtain ⟨k, hk, rfl, htk, n0, rfl⟩ := hrel
      have Htk := Lib.hid htk
      clear htk
      by_cases hlt : k < xs.length
      · have hlt' : (k : Int) < (xs.length : Int) := by omega
        have hlt2 : (k : Int) < (ys.length : Int) := by have := Hl.out; omega
        have hky : k < ys.length := by have := Hl.out; omega
        obtain ⟨b1, o1, hA1, _, p0, p1⟩ := progs_rd H1.out k hlt
        obtain ⟨b2, o2, hA2, _, q0, q1⟩ := progs_rd H2.out k hky
        subst hA1 hA2
        have hkz : (0 : Int) ≤ (k : Int) := by omega
        have Hst := Lib.hid (fun h => take_eq_step (xs := xs) (ys := ys) k hlt hky Htk.out h)
        have Hbad := Lib.hid (fun h => ne_of_get (xs := xs) (ys := ys) k hlt hky h)
        generalize xs[k] = x at *
        generalize ys[k] = y at *
        obtain ⟨a, b⟩ := x
        obtain ⟨c, d⟩ := y
        dsimp only at p0 p1 q0 q1
        by_cases he : a = c ∧ b = d
        · obtain ⟨rfl, rfl⟩ := he
          have Hs2 := Lib.hid (Hst.out rfl)
          clear Hst Hbad
          go_wp2_with fail
          go_quiet (fail)
          go_wp2_with fail
          go_roundw
          case rel => exact ⟨k + 1, by omega, by go_num, Hs2.out, _, rfl⟩
          case measure => simp [intOf]; omega
        · have Hb2 := Lib.hid (Hbad.out (fun h => he ⟨congrArg Prod.fst h, congrArg Prod.snd h⟩))
          clear Hst Hbad
          by_cases h1 : a = c
          · subst h1
            have h2 : (b == d) = false := beq_eq_false_iff_ne.2 fun h => he ⟨rfl, h⟩
            go_wp2_with fail
            go_quiet (fail)
            go_wp2_with fail
            go_ret
            exact ⟨by rw [Hb2.out]; rfl, _, World.drewN_drewN _ _ _⟩
          · have h2 : (a == c) = false := beq_eq_false_iff_ne.2 h1
            go_wp2_with fail
            go_quiet (fail)
            go_wp2_with fail
            go_ret
            exact ⟨by rw [Hb2.out]; rfl, _, World.drewN_drewN _ _ _⟩
      · have hkk : k = xs.length := by omega
        subst hkk
        have hlt' : (xs.length : Int) ≤ (xs.length : Int) := Int.le_refl _
        have he : xs = ys := by
          have h := Htk.out
          have h3 := Hl.out
          rw [List.take_length, h3, List.take_length] at h
          exact h
        have He := Lib.hid (decide_eq_true he)
        clear he
        go_wp2_with fail
        go_ret
        exact ⟨by rw [He.out]; rfl, n0, rfl⟩
  · have hl' : ((xs.length : Int) == (ys.length : Int)) = false := by rw [beq_eq_false_iff_ne]; omega
    have hl2 : ((xs.length : Int) != (ys.length : Int)) = true := by simp [bne, hl']
    have He := Lib.hid (show decide (xs = ys) = false from decide_eq_false (fun h => hl (by rw [h])))
    clear hl
    go_enter Tryd.func29, Tryd.ntmps29
    go_wp2_with fail
    go_ret
    exact ⟨by rw [He.out]; rfl, 0, rfl⟩
end Go.Proofs.YtiddhelabmaghaaDoor
/- Programs: the law's own draws, its comparisons of lines. -/
namespace Go.Proofs.YtiddhelabmaghaaDoor
open Go.RowKit Go.Joins

/-- a new list of instructions -/
def NewI (w : World) (e : Ending) (w' : World) : Prop := ∃ (v : Value) (l : List (Int × Int)), e = .returned v ∧ w'.ownsRow w.heap.size 91 2 v l.length (progs l) ∧ l.length ≤ 200 ∧ Below w.heap.size w w'
/-- a new list of lines -/
def NewT (w : World) (e : Ending) (w' : World) : Prop := ∃ (v : Value) (zs : List ByteArray), e = .returned v ∧ w'.ownsRow w.heap.size 9 1 v zs.length (zs.map Value.string) ∧ zs.length ≤ 168 ∧ (∀ z ∈ zs, z.size ≤ 1048576) ∧ Below w.heap.size w w'
theorem below_src {W w1 w : World} {g : Nat} (h : Below W.heap.size W w1) (hg : w1.grownBy w (some g)) (hl : W.heap.size ≤ g) : Below W.heap.size W w :=
  h.grown hg h.size (fun x hx => by cases hx; exact hl)

set_option maxRecDepth 100000 in
set_option maxHeartbeats 800000 in
theorem drawPL_any (B : Nat) (cv : Value) (bs : List UInt8) (w : World) (h : Rd w B cv bs.length 1 (bs.map byV)) (hB : B ≤ w.heap.size) : Calls Tryd.prog 18 #[cv] w (NewI w) := by
  have HF := Lib.hid (l00From_any B cv bs w h hB)
  obtain ⟨_, A, c, rfl, _⟩ := h
  go_enter Tryd.func18, Tryd.ntmps18
  go_wp2_with fail
  refine HF.out.mono ?_; rintro e w1 ⟨rfl, hs1, hb1, hl1⟩
  have Hs1 := Lib.hid hs1
  have Hb1 := Lib.hid hb1
  clear hs1 hb1 HF
  go_wp2_with fail
  refine (bent11_any B _ 0 bs _ Hs1.out (by omega)).mono ?_; rintro e w2 ⟨v2, l2, rfl, hq⟩
  have HQ := Lib.hid hq
  clear hq
  go_wp2_with fail
  go_ret
  exact ⟨v2, l2, rfl, ownsRow_le HQ.out.dr.row Hb1.out.size, HQ.out.len, below_src Hb1.out HQ.out.dr.gr (Nat.le_refl _)⟩
set_option maxRecDepth 100000 in
set_option maxHeartbeats 800000 in
theorem drawCP_any (B : Nat) (cv : Value) (bs : List UInt8) (w : World) (h : Rd w B cv bs.length 1 (bs.map byV)) (hB : B ≤ w.heap.size) : Calls Tryd.prog 21 #[cv] w (NewT w) := by
  have HF := Lib.hid (l00From_any B cv bs w h hB)
  obtain ⟨_, A, c, rfl, _⟩ := h
  go_enter Tryd.func21, Tryd.ntmps21
  go_wp2_with fail
  refine HF.out.mono ?_; rintro e w1 ⟨rfl, hs1, hb1, hl1⟩
  have Hs1 := Lib.hid hs1
  have Hb1 := Lib.hid hb1
  clear hs1 hb1 HF
  go_wp2_with fail
  refine (lines11_any B _ 0 bs _ Hs1.out (by omega)).mono ?_; rintro e w2 ⟨v2, l2, rfl, hq⟩
  have HQ := Lib.hid hq
  clear hq
  go_wp2_with fail
  go_ret
  exact ⟨v2, l2, rfl, ownsRow_le HQ.out.dr.row Hb1.out.size, HQ.out.len, fun z hz => Nat.le_trans (HQ.out.sz z hz) (by omega), below_src Hb1.out HQ.out.dr.gr (Nat.le_refl _)⟩
set_option maxRecDepth 100000 in
set_option maxHeartbeats 800000 in
theorem drawLF_any (B : Nat) (cv : Value) (bs : List UInt8) (w : World) (h : Rd w B cv bs.length 1 (bs.map byV)) (hB : B ≤ w.heap.size) : Calls Tryd.prog 27 #[cv] w fun e w' => ∃ x : Int, e = .returned (.int .i64 x) ∧ -1 ≤ x ∧ x ≤ 7 ∧ Below w.heap.size w w' := by
  have HF := Lib.hid (l00From_any B cv bs w h hB)
  obtain ⟨_, A, c, rfl, _⟩ := h
  go_enter Tryd.func27, Tryd.ntmps27
  go_wp2_with fail
  refine HF.out.mono ?_; rintro e w1 ⟨rfl, hs1, hb1, hl1⟩
  have Hs1 := Lib.hid hs1
  have Hb1 := Lib.hid hb1
  clear hs1 hb1 HF
  go_wp2_with fail
  refine (pick_any B _ 0 bs 9 _ Hs1.out (by omega)).mono ?_; rintro e w2 ⟨x, rfl, ⟨hx0, hx1, _⟩, hs2, hg2⟩
  have hx9 := hx1 (by omega)
  have Hg2 := Lib.hid hg2
  clear hx1 hs2 hg2
  go_wp2_with fail
  go_ret
  exact ⟨_, rfl, by omega, by omega, below_src Hb1.out Hg2.out (Nat.le_refl _)⟩

def faultL : List ByteArray := [⟨#[110, 111, 110, 101]⟩, ⟨#[119, 111, 114, 100]⟩, ⟨#[110, 117, 109, 98, 101, 114]⟩, ⟨#[111, 112, 101, 110]⟩, ⟨#[101, 110, 100]⟩, ⟨#[100, 101, 101, 112]⟩]
def faultN (k : Int) : ByteArray := if inB k 0 5 then faultL.getD k.toNat ⟨#[]⟩ else ⟨#[]⟩
set_option maxRecDepth 100000 in
set_option maxHeartbeats 800000 in
theorem faultI_any (k : Int) (w : World) (h0 : -1 ≤ k) (h1 : k ≤ 7) : Calls Tryd.prog 32 #[.int .i64 k] w fun e w' => e = .returned (.string (faultN k)) ∧ Below w.heap.size w w' := by
  have hk : k = -1 ∨ k = 0 ∨ k = 1 ∨ k = 2 ∨ k = 3 ∨ k = 4 ∨ k = 5 ∨ k = 6 ∨ k = 7 := by omega
  clear h0 h1
  rcases hk with rfl | rfl | rfl | rfl | rfl | rfl | rfl | rfl | rfl
  · have HB := Lib.hid (fun wx => between_any (-1) 0 5 wx)
    rw [show inB (-1) 0 5 = false from rfl] at HB
    have hb := Lib.hid (fun t => (Below.refl w.heap.size w).alloc (Nat.le_refl _) (.cells (faultL.map Value.string).toArray t))
    go_enter Tryd.func32, Tryd.ntmps32
    go_wp2_with fail
    refine (HB.out _).mono ?_; rintro e w1 ⟨rfl, rfl⟩
    go_wp2_with fail
    go_ret
    exact ⟨rfl, hb.out _⟩
  · have HB := Lib.hid (fun wx => between_any (0) 0 5 wx)
    rw [show inB (0) 0 5 = true from rfl] at HB
    have hb := Lib.hid (fun t => (Below.refl w.heap.size w).alloc (Nat.le_refl _) (.cells (faultL.map Value.string).toArray t))
    go_enter Tryd.func32, Tryd.ntmps32
    go_wp2_with fail
    refine (HB.out _).mono ?_; rintro e w1 ⟨rfl, rfl⟩
    go_wp2_with fail
    go_ret
    exact ⟨rfl, hb.out _⟩
  · have HB := Lib.hid (fun wx => between_any (1) 0 5 wx)
    rw [show inB (1) 0 5 = true from rfl] at HB
    have hb := Lib.hid (fun t => (Below.refl w.heap.size w).alloc (Nat.le_refl _) (.cells (faultL.map Value.string).toArray t))
    go_enter Tryd.func32, Tryd.ntmps32
    go_wp2_with fail
    refine (HB.out _).mono ?_; rintro e w1 ⟨rfl, rfl⟩
    go_wp2_with fail
    go_ret
    exact ⟨rfl, hb.out _⟩
  · have HB := Lib.hid (fun wx => between_any (2) 0 5 wx)
    rw [show inB (2) 0 5 = true from rfl] at HB
    have hb := Lib.hid (fun t => (Below.refl w.heap.size w).alloc (Nat.le_refl _) (.cells (faultL.map Value.string).toArray t))
    go_enter Tryd.func32, Tryd.ntmps32
    go_wp2_with fail
    refine (HB.out _).mono ?_; rintro e w1 ⟨rfl, rfl⟩
    go_wp2_with fail
    go_ret
    exact ⟨rfl, hb.out _⟩
  · have HB := Lib.hid (fun wx => between_any (3) 0 5 wx)
    rw [show inB (3) 0 5 = true from rfl] at HB
    have hb := Lib.hid (fun t => (Below.refl w.heap.size w).alloc (Nat.le_refl _) (.cells (faultL.map Value.string).toArray t))
    go_enter Tryd.func32, Tryd.ntmps32
    go_wp2_with fail
    refine (HB.out _).mono ?_; rintro e w1 ⟨rfl, rfl⟩
    go_wp2_with fail
    go_ret
    exact ⟨rfl, hb.out _⟩
  · have HB := Lib.hid (fun wx => between_any (4) 0 5 wx)
    rw [show inB (4) 0 5 = true from rfl] at HB
    have hb := Lib.hid (fun t => (Below.refl w.heap.size w).alloc (Nat.le_refl _) (.cells (faultL.map Value.string).toArray t))
    go_enter Tryd.func32, Tryd.ntmps32
    go_wp2_with fail
    refine (HB.out _).mono ?_; rintro e w1 ⟨rfl, rfl⟩
    go_wp2_with fail
    go_ret
    exact ⟨rfl, hb.out _⟩
  · have HB := Lib.hid (fun wx => between_any (5) 0 5 wx)
    rw [show inB (5) 0 5 = true from rfl] at HB
    have hb := Lib.hid (fun t => (Below.refl w.heap.size w).alloc (Nat.le_refl _) (.cells (faultL.map Value.string).toArray t))
    go_enter Tryd.func32, Tryd.ntmps32
    go_wp2_with fail
    refine (HB.out _).mono ?_; rintro e w1 ⟨rfl, rfl⟩
    go_wp2_with fail
    go_ret
    exact ⟨rfl, hb.out _⟩
  · have HB := Lib.hid (fun wx => between_any (6) 0 5 wx)
    rw [show inB (6) 0 5 = false from rfl] at HB
    have hb := Lib.hid (fun t => (Below.refl w.heap.size w).alloc (Nat.le_refl _) (.cells (faultL.map Value.string).toArray t))
    go_enter Tryd.func32, Tryd.ntmps32
    go_wp2_with fail
    refine (HB.out _).mono ?_; rintro e w1 ⟨rfl, rfl⟩
    go_wp2_with fail
    go_ret
    exact ⟨rfl, hb.out _⟩
  · have HB := Lib.hid (fun wx => between_any (7) 0 5 wx)
    rw [show inB (7) 0 5 = false from rfl] at HB
    have hb := Lib.hid (fun t => (Below.refl w.heap.size w).alloc (Nat.le_refl _) (.cells (faultL.map Value.string).toArray t))
    go_enter Tryd.func32, Tryd.ntmps32
    go_wp2_with fail
    refine (HB.out _).mono ?_; rintro e w1 ⟨rfl, rfl⟩
    go_wp2_with fail
    go_ret
    exact ⟨rfl, hb.out _⟩
set_option maxRecDepth 100000 in
set_option maxHeartbeats 800000 in
theorem faultS_any (k : Int) (w : World) (h0 : -1 ≤ k) (h1 : k ≤ 7) : Calls Tryd.prog 33 #[.int .i64 k] w fun e w' => e = .returned (.string (faultN k)) ∧ Below w.heap.size w w' := by
  have hk : k = -1 ∨ k = 0 ∨ k = 1 ∨ k = 2 ∨ k = 3 ∨ k = 4 ∨ k = 5 ∨ k = 6 ∨ k = 7 := by omega
  clear h0 h1
  rcases hk with rfl | rfl | rfl | rfl | rfl | rfl | rfl | rfl | rfl
  · have HB := Lib.hid (fun wx => l00In_any (-1) 0 5 wx)
    rw [show inB (-1) 0 5 = false from rfl] at HB
    have hb := (Below.refl w.heap.size w).alloc (Nat.le_refl _) (.cells (faultL.map Value.string).toArray 9)
    go_enter Tryd.func33, Tryd.ntmps33
    go_wp2_with fail
    refine (HB.out _).mono ?_; rintro e w1 ⟨rfl, rfl⟩
    go_wp2_with fail
    go_ret
    exact ⟨rfl, hb⟩
  · have HB := Lib.hid (fun wx => l00In_any (0) 0 5 wx)
    rw [show inB (0) 0 5 = true from rfl] at HB
    have hb := (Below.refl w.heap.size w).alloc (Nat.le_refl _) (.cells (faultL.map Value.string).toArray 9)
    go_enter Tryd.func33, Tryd.ntmps33
    go_wp2_with fail
    refine (HB.out _).mono ?_; rintro e w1 ⟨rfl, rfl⟩
    go_wp2_with fail
    go_ret
    exact ⟨rfl, hb⟩
  · have HB := Lib.hid (fun wx => l00In_any (1) 0 5 wx)
    rw [show inB (1) 0 5 = true from rfl] at HB
    have hb := (Below.refl w.heap.size w).alloc (Nat.le_refl _) (.cells (faultL.map Value.string).toArray 9)
    go_enter Tryd.func33, Tryd.ntmps33
    go_wp2_with fail
    refine (HB.out _).mono ?_; rintro e w1 ⟨rfl, rfl⟩
    go_wp2_with fail
    go_ret
    exact ⟨rfl, hb⟩
  · have HB := Lib.hid (fun wx => l00In_any (2) 0 5 wx)
    rw [show inB (2) 0 5 = true from rfl] at HB
    have hb := (Below.refl w.heap.size w).alloc (Nat.le_refl _) (.cells (faultL.map Value.string).toArray 9)
    go_enter Tryd.func33, Tryd.ntmps33
    go_wp2_with fail
    refine (HB.out _).mono ?_; rintro e w1 ⟨rfl, rfl⟩
    go_wp2_with fail
    go_ret
    exact ⟨rfl, hb⟩
  · have HB := Lib.hid (fun wx => l00In_any (3) 0 5 wx)
    rw [show inB (3) 0 5 = true from rfl] at HB
    have hb := (Below.refl w.heap.size w).alloc (Nat.le_refl _) (.cells (faultL.map Value.string).toArray 9)
    go_enter Tryd.func33, Tryd.ntmps33
    go_wp2_with fail
    refine (HB.out _).mono ?_; rintro e w1 ⟨rfl, rfl⟩
    go_wp2_with fail
    go_ret
    exact ⟨rfl, hb⟩
  · have HB := Lib.hid (fun wx => l00In_any (4) 0 5 wx)
    rw [show inB (4) 0 5 = true from rfl] at HB
    have hb := (Below.refl w.heap.size w).alloc (Nat.le_refl _) (.cells (faultL.map Value.string).toArray 9)
    go_enter Tryd.func33, Tryd.ntmps33
    go_wp2_with fail
    refine (HB.out _).mono ?_; rintro e w1 ⟨rfl, rfl⟩
    go_wp2_with fail
    go_ret
    exact ⟨rfl, hb⟩
  · have HB := Lib.hid (fun wx => l00In_any (5) 0 5 wx)
    rw [show inB (5) 0 5 = true from rfl] at HB
    have hb := (Below.refl w.heap.size w).alloc (Nat.le_refl _) (.cells (faultL.map Value.string).toArray 9)
    go_enter Tryd.func33, Tryd.ntmps33
    go_wp2_with fail
    refine (HB.out _).mono ?_; rintro e w1 ⟨rfl, rfl⟩
    go_wp2_with fail
    go_ret
    exact ⟨rfl, hb⟩
  · have HB := Lib.hid (fun wx => l00In_any (6) 0 5 wx)
    rw [show inB (6) 0 5 = false from rfl] at HB
    have hb := (Below.refl w.heap.size w).alloc (Nat.le_refl _) (.cells (faultL.map Value.string).toArray 9)
    go_enter Tryd.func33, Tryd.ntmps33
    go_wp2_with fail
    refine (HB.out _).mono ?_; rintro e w1 ⟨rfl, rfl⟩
    go_wp2_with fail
    go_ret
    exact ⟨rfl, hb⟩
  · have HB := Lib.hid (fun wx => l00In_any (7) 0 5 wx)
    rw [show inB (7) 0 5 = false from rfl] at HB
    have hb := (Below.refl w.heap.size w).alloc (Nat.le_refl _) (.cells (faultL.map Value.string).toArray 9)
    go_enter Tryd.func33, Tryd.ntmps33
    go_wp2_with fail
    refine (HB.out _).mono ?_; rintro e w1 ⟨rfl, rfl⟩
    go_wp2_with fail
    go_ret
    exact ⟨rfl, hb⟩
set_option maxRecDepth 100000 in
set_option maxHeartbeats 800000 in
theorem f6texts_same (B1 B2 : Nat) (v1 v2 : Value) (xs : List ByteArray) (w : World) (h1 : Rd w B1 v1 xs.length 1 (xs.map Value.string)) (h2 : Rd w B2 v2 xs.length 1 (xs.map Value.string)) (hx : xs.length ≤ 1048576) :
    Calls Tryd.prog 28 #[v1, v2] w fun e w' => e = .returned (.bool true) ∧ ∃ n, w' = w.drewN n := by
  have H1 := Lib.hid h1
  have H2 := Lib.hid h2
  obtain ⟨_, A1, c1, rfl, hc1⟩ := h1
  obtain ⟨_, A2, c2, rfl, hc2⟩ := h2
  have HC1 := Lib.hid hc1
  have HC2 := Lib.hid hc2
  clear hc1 hc2
  go_enter Tryd.func28, Tryd.ntmps28
  go_wp2_with fail
  go_loopw [5] (fun i wr => ∃ k : Nat, k ≤ xs.length ∧ i = .int .i64 (k : Int) ∧ ∃ n, wr = w.drewN n) (fun i _ => xs.length - (intOf i).toNat)
  case atStart => exact ⟨0, Nat.zero_le _, rfl, 0, rfl⟩
  case round =>
    obtain ⟨k, hk, rfl, n0, rfl⟩ := hrel
    by_cases hlt : k < xs.length
    · have hlt' : (k : Int) < (xs.length : Int) := by omega
      obtain ⟨b1, o1, hA1, _, p⟩ := HC1.out (by omega)
      obtain ⟨b2, o2, hA2, _, q⟩ := HC2.out (by omega)
      subst hA1 hA2
      have p0 := p k (.string xs[k]) (by rw [List.getElem?_map, List.getElem?_eq_getElem hlt]; rfl)
      have q0 := q k (.string xs[k]) (by rw [List.getElem?_map, List.getElem?_eq_getElem hlt]; rfl)
      have hkz : (0 : Int) ≤ (k : Int) := by omega
      generalize xs[k] = x at *
      clear p q
      go_wp2_with fail
      go_quiet (fail)
      go_wp2_with fail
      go_roundw
      case rel => exact ⟨k + 1, by omega, by go_num, _, rfl⟩
      case measure => simp [intOf]; omega
    · have hlt' : (xs.length : Int) ≤ (k : Int) := by omega
      go_wp2_with fail
      go_ret
      exact ⟨rfl, n0, rfl⟩
set_option maxRecDepth 100000 in
set_option maxHeartbeats 400000 in
theorem f6big_any (B n : Nat) (v : Value) (xs : List Value) (w : World) (h : Rd w B v n 1 xs) : Calls Tryd.prog 17 #[v] w fun e w' => e = .returned (.bool (decide (4096 < n))) ∧ w = w' := by
  obtain ⟨_, A, c, rfl, _⟩ := h
  by_cases hn : 4096 < n
  · have hn' : (4096 : Int) < (n : Int) := by omega
    rw [decide_eq_true hn]
    go_enter Tryd.func17, Tryd.ntmps17
    go_wp2_with fail
    go_ret
    exact ⟨rfl, rfl⟩
  · have hn' : ¬ (4096 : Int) < (n : Int) := by omega
    rw [decide_eq_false hn]
    go_enter Tryd.func17, Tryd.ntmps17
    go_wp2_with fail
    go_ret
    exact ⟨rfl, rfl⟩
set_option maxRecDepth 100000 in
set_option maxHeartbeats 400000 in
theorem ValidPS_any (B : Nat) (v : Value) (zs : List (Int × Int)) (w : World) (h : Rd w B v zs.length 2 (progs zs)) (hl : zs.length ≤ 1048576) : Calls Tryd.prog 35 #[v] w fun e w' => e = .returned (.bool (okProg zs)) ∧ ∃ n, w' = w.drewN n := by
  have HV := Lib.hid (l11Ok_any B v zs w h hl)
  obtain ⟨_, A, c, rfl, _⟩ := h
  go_enter Tryd.func35, Tryd.ntmps35
  go_wp2_with fail
  refine HV.out.mono ?_; rintro e w1 ⟨rfl, n1, rfl⟩
  go_wp2_with fail
  go_ret
  exact ⟨rfl, n1, rfl⟩
end Go.Proofs.YtiddhelabmaghaaDoor
/- Programs: DrawSameProgram. -/
namespace Go.Proofs.YtiddhelabmaghaaDoor
open Go.RowKit Go.Joins

theorem sl_of_own2 {w : World} {base n size : Nat} {e : TypeId} {v : Value} {cs : List Value} (h : w.ownsRow base e size v n cs) : ∃ A c, v = .slice A n c := by
  obtain ⟨_, A, c, hv, _⟩ := Rd.of_own h
  exact ⟨A, c, hv⟩
theorem DrQ.draw {W w w' : World} {B g k k' L : Nat} {bs : List UInt8} {v : Value} {l : List (Int × Int)} (h : DrQ W w B g k bs v l L) (hs : SrcAt w' B g k' bs) (hg : w.grownBy w' (some g)) : DrQ W w' B g k' bs v l L := ⟨h.dr.draw hs hg, h.len⟩
theorem DrQ.snocQ {W w w' : World} {B g k L : Nat} {bs : List UInt8} {v v' : Value} {l : List (Int × Int)} {op a : Int} (h : DrQ W w B g k bs v l L) (hr : w'.ownsRow W.heap.size 91 2 v' (l.length + 1) (progs l ++ (#[Value.int .i64 op, .int .i64 a] : Array Value).toList)) (hg : w.grownBy w' v.ownBlock) :
    ∃ l', DrQ W w' B g k bs v' l' (L + 1) := by
  rw [progs_snoc] at hr
  exact ⟨_, h.dr.app (by rw [List.length_append]; exact hr) hg, by rw [List.length_append]; have := h.len; simp; omega⟩
def SameR (w : World) (e : Ending) (w' : World) : Prop := ∃ v1 l1 v2 l2, e = .returned (.tuple #[v1, v2]) ∧ w'.ownsRow w.heap.size 91 2 v1 l1.length (progs l1) ∧ w'.ownsRow w.heap.size 91 2 v2 l2.length (progs l2) ∧ l1.length ≤ 300 ∧ l2.length ≤ 300 ∧ Below w.heap.size w w'
theorem DrQ.put1 {W w : World} {B g k L b c : Nat} {bs : List UInt8} {l : List (Int × Int)} (h : DrQ W w B g k bs (.slice (some ⟨b, 0, none⟩) l.length c) l L) (i : Nat) (hi : i < l.length) (z : Int) {k' : Nat} {w' : World} (hs : SrcAt w' B g k' bs) (hg : w.grownBy w' (some g)) :
    ∃ l', l'.length = l.length ∧ DrQ W (w'.setCell ⟨b, i * 2 + 1, none⟩ (.int .i64 z)) B g k' bs (.slice (some ⟨b, 0, none⟩) l.length c) l' L := by
  have hd := h.dr.draw hs hg
  obtain ⟨h1, h2⟩ := hd.row.stored (i * 2 + 1) (.int .i64 z)
  rw [progs_set1 l i hi] at h1
  exact ⟨_, List.length_set, ⟨hd.app (by rw [List.length_set]; exact h1) h2, by rw [List.length_set]; exact h.len⟩⟩
theorem SameR.of {w w1 w2 w' : World} {B k k' L : Nat} {bs : List UInt8} {v1 v2 : Value} {l1 l2 : List (Int × Int)} (ha : DrP w1 w2 B w.heap.size k bs v1 l1 168) (hb : DrQ w2 w' B w.heap.size k' bs v2 l2 L) (h1 : Below w.heap.size w w1) (hg : w1.grownBy w2 (some w.heap.size)) (hL : L ≤ 300 := by omega) :
    SameR w (.returned (.tuple #[v1, v2])) w' := by
  have hk := ha.dr.draw hb.dr.src hb.dr.gr
  refine ⟨v1, l1, v2, l2, rfl, ownsRow_le hk.row h1.size, ownsRow_le hb.dr.row (Nat.le_trans h1.size hg.size), by have := ha.len; omega, Nat.le_trans hb.len hL, below_src h1 (grown_trans hg hb.dr.gr) (Nat.le_refl _)⟩

set_option maxRecDepth 100000 in
set_option maxHeartbeats 3200000 in
theorem drawSP_any (B : Nat) (cv : Value) (bs : List UInt8) (w : World) (h : Rd w B cv bs.length 1 (bs.map byV)) (hB : B ≤ w.heap.size) : Calls Tryd.prog 26 #[cv] w (SameR w) := by
  have HF := Lib.hid (l00From_any B cv bs w h hB)
  obtain ⟨_, A, c, rfl, _⟩ := h
  go_enter Tryd.func26, Tryd.ntmps26
  go_wp2_with fail
  refine HF.out.mono ?_; rintro e w1 ⟨rfl, hs1, hb1, hl1⟩
  have Hs1 := Lib.hid hs1
  have Hb1 := Lib.hid hb1
  clear hs1 hb1 HF
  go_wp2_with fail
  refine (draw11_any B _ 0 bs _ Hs1.out (by omega)).mono ?_; rintro e w2 ⟨v2, l, rfl, hd2⟩
  obtain ⟨b2, c2, rfl⟩ := hd2.nn
  have HA := Lib.hid hd2
  have Hg2 := Lib.hid hd2.dr.gr
  have hll := hd2.len
  have Hc2 := Lib.hid (own_cells0 hd2.dr.row)
  have HM := Lib.hid (DrR.made hd2.dr.src 91 2)
  have Hlt2 := Lib.hid (hd2.dr.row.lt b2 rfl)
  clear hd2 Hs1
  have Hcc := Lib.hid (fun (i : Nat) (u : Value) (hu : (progs l)[i]? = some u) => (((Below.refl w2.heap.size w2).alloc (Nat.le_refl _) (.cells #[] 91)).cell (p := ⟨b2, 0 + i, none⟩) Hlt2.out.2).trans (Hc2.out i u hu))
  by_cases hl0 : l.length = 0
  · have h00 : ¬ (0 : Int) < (l.length : Int) := by omega
    clear hl0
    go_wp2_with (at_builtin; refine wpList_apr 35 91 _ 2 16 Tryd.underlying35 infoP rfl (by omega) _ _ rfl rfl w2.heap.size _ 0 _ rfl HM.out.row b2 0 l.length c2 (progs l) rfl (progs_len l) Hcc.out (progs_ones l) (by simp [maxLen]; omega) (by omega) HM.out.size ?_; intro v3 w3 hown3 hg3; rw [Nat.zero_add, List.nil_append] at hown3; have HD3 := Lib.hid (show DrQ w2 w3 B w.heap.size _ bs v3 l 168 from ⟨HM.out.app hown3 hg3, hll⟩); have Hown3 := Lib.hid hown3; obtain ⟨A3, c3, rfl⟩ := sl_of_own2 hown3; clear hown3 hg3 HM)
    clear Hown3
    go_wp2_with fail
    refine (one_any B _ _ bs 5 _ HD3.out.dr.src (by omega)).mono ?_; rintro e w8 ⟨y8, rfl, hs8, hg8⟩
    have HD8 := Lib.hid (DrQ.draw HD3.out hs8 hg8)
    clear hs8 hg8 HD3
    cases y8 with
    | false =>
      go_wp2_with fail
      go_ret2
      have hfin := HD8.out
      exact SameR.of HA.out hfin Hb1.out Hg2.out
    | true =>
      have hll8 := HD8.out.len
      go_wp2_with (at_builtin; refine wpList_apd 35 91 _ 2 16 Tryd.underlying35 infoP rfl (by omega) _ _ rfl rfl w2.heap.size _ _ _ rfl HD8.out.dr.row #[.int .i64 0, .int .i64 0] 1 1 rfl rfl (ones2p _ _) (by simp [maxLen]; omega) (by omega) HD8.out.dr.size ?_; intro v9 w9 hown9 hg9; have HD9 := Lib.hid (HD8.out.snocQ hown9 hg9); obtain ⟨A9, c9, rfl⟩ := sl_of_own2 hown9; clear hown9 hg9)
      go_ret2
      obtain ⟨l9, hfin⟩ := HD9.out
      exact SameR.of HA.out hfin Hb1.out Hg2.out
  · have h00 : (0 : Int) < (l.length : Int) := by omega
    go_wp2_with (at_builtin; refine wpList_apr 35 91 _ 2 16 Tryd.underlying35 infoP rfl (by omega) _ _ rfl rfl w2.heap.size _ 0 _ rfl HM.out.row b2 0 l.length c2 (progs l) rfl (progs_len l) Hcc.out (progs_ones l) (by simp [maxLen]; omega) (by omega) HM.out.size ?_; intro v3 w3 hown3 hg3; rw [Nat.zero_add, List.nil_append] at hown3; have HD3 := Lib.hid (show DrQ w2 w3 B w.heap.size _ bs v3 l 168 from ⟨HM.out.app hown3 hg3, hll⟩); have Hown3 := Lib.hid hown3; obtain ⟨A3, c3, rfl⟩ := sl_of_own2 hown3; clear hown3 hg3 HM)
    obtain ⟨b3, c3', hv, _⟩ := own_posC Hown3.out (by omega)
    injection hv with hv1 _ hv2
    subst hv1 hv2
    refine (one_any B _ _ bs 2 _ HD3.out.dr.src (by omega)).mono ?_; rintro e w4 ⟨y4, rfl, hs4, hg4⟩
    have HD4 := Lib.hid (DrQ.draw HD3.out hs4 hg4)
    clear hs4 hg4 HD3 Hown3
    cases y4 with
    | false =>
      go_wp2_with fail
      refine (one_any B _ _ bs 5 _ HD4.out.dr.src (by omega)).mono ?_; rintro e w8 ⟨y8, rfl, hs8, hg8⟩
      have HD8 := Lib.hid (DrQ.draw HD4.out hs8 hg8)
      clear hs8 hg8 HD4
      cases y8 with
      | false =>
        go_wp2_with fail
        go_ret2
        have hfin := HD8.out
        exact SameR.of HA.out hfin Hb1.out Hg2.out
      | true =>
        have hll8 := HD8.out.len
        go_wp2_with (at_builtin; refine wpList_apd 35 91 _ 2 16 Tryd.underlying35 infoP rfl (by omega) _ _ rfl rfl w2.heap.size _ _ _ rfl HD8.out.dr.row #[.int .i64 0, .int .i64 0] 1 1 rfl rfl (ones2p _ _) (by simp [maxLen]; omega) (by omega) HD8.out.dr.size ?_; intro v9 w9 hown9 hg9; have HD9 := Lib.hid (HD8.out.snocQ hown9 hg9); obtain ⟨A9, c9, rfl⟩ := sl_of_own2 hown9; clear hown9 hg9)
        go_ret2
        obtain ⟨l9, hfin⟩ := HD9.out
        exact SameR.of HA.out hfin Hb1.out Hg2.out
    | true =>
      have hne := HD4.out.dr.lt
      have hbw : b3 ≠ w.heap.size := by have := (HD4.out.dr.row.lt b3 rfl).1; omega
      have Hq0 := Lib.hid (progs_at2 l 0 (by omega))
      have q1 := (HD4.out.dr.row.cellAt 1 (by omega)).trans (Hq0.out.2)
      have q2 := HD4.out.dr.row.frozenAt 1
      obtain ⟨_, _, ha0, ha1⟩ := okIns_bd (HA.out.ok l[0] (List.getElem_mem (by omega)))
      have Hput := Lib.hid (fun z k' w' (hs : SrcAt w' B w.heap.size k' bs) (hg : w4.grownBy w' (some w.heap.size)) => DrQ.put1 HD4.out 0 (by omega) z hs hg)
      generalize l[0].2 = a at *
      have HP := Lib.hid (pick_any B w.heap.size _ bs 2 w4.drew (SrcAt.drew HD4.out.dr.src) (by omega))
      go_wp2_with fail
      refine wp_region_noPanic ?_
      refine wp_region_L [9] (fun w' => w'.cell? ⟨b3, 1, none⟩ = some (.int .i64 a)) (by kernel_rfl) (q1) (fun hHeld => ?_)
      refine take_F (i := 0) (d := some 21) (v := ?_) (by kernel_rfl) (by kernel_rfl) rfl rfl (by kernel_rfl) (by kernel_rfl) (by kernel_rfl) (fun _ _ _ h => h) (Or.inl ⟨by rfl, ?_⟩) (by assumption) ?_
      rotate_left
      · (intro w hSw; (try dsimp only at hSw); go_simp; (try rw [if_neg (by omega)]); (try (with_reducible rfl)))
      simp only [Act.put, List.setIfInBounds_toArray, List.set_cons_zero, List.set_cons_succ]
      refine take_F (i := 1) (d := some 22) (v := ?_) (by kernel_rfl) (by kernel_rfl) rfl rfl (by kernel_rfl) (by kernel_rfl) (by kernel_rfl) (fun _ _ _ h => h) (Or.inl ⟨by rfl, ?_⟩) (by assumption) ?_
      rotate_left
      · (intro w hSw; (try dsimp only at hSw); go_simp; (try rw [if_neg (by omega)]); (try (with_reducible rfl)))
      simp only [Act.put, List.setIfInBounds_toArray, List.set_cons_zero, List.set_cons_succ]
      refine take_F (i := 2) (d := some 23) (v := ?_) (by kernel_rfl) (by kernel_rfl) rfl rfl (by kernel_rfl) (by kernel_rfl) (by kernel_rfl) (fun _ _ _ h => h) (Or.inl ⟨by rfl, ?_⟩) (by assumption) ?_
      rotate_left
      · (intro w hSw; (try dsimp only at hSw); go_simp; (try rw [if_neg (by omega)]); (try (with_reducible rfl)))
      simp only [Act.put, List.setIfInBounds_toArray, List.set_cons_zero, List.set_cons_succ]
      refine take_L [3] (i := 3) (d := some 24) (v := ?_) (by kernel_rfl) (by kernel_rfl) (by kernel_rfl) (by kernel_rfl) rfl rfl (by kernel_rfl) (by kernel_rfl) (by kernel_rfl) (fun _ _ _ h => h) (Or.inl ⟨by rfl, ?_⟩) (by assumption) ?_
      rotate_left
      · (intro w hSw; (try dsimp only at hSw); go_simp; (try rw [if_neg (by omega)]); (try (with_reducible rfl)))
      simp only [Act.put, List.setIfInBounds_toArray, List.set_cons_zero, List.set_cons_succ]
      refine take_F (i := 4) (d := some 25) (v := ?_) (by kernel_rfl) (by kernel_rfl) rfl rfl (by kernel_rfl) (by kernel_rfl) (by kernel_rfl) (fun _ _ _ h => h) (Or.inl ⟨by rfl, ?_⟩) (by assumption) ?_
      rotate_left
      · (intro w hSw; (try dsimp only at hSw); go_simp; (try rw [if_neg (by omega)]); (try (with_reducible rfl)))
      simp only [Act.put, List.setIfInBounds_toArray, List.set_cons_zero, List.set_cons_succ]
      refine call_L (i := 5) (d := (some 26)) rfl rfl (by kernel_rfl) (fun Kq hKq => ?_)
      go_simp
      go_at_call 81
      refine HP.out.mono ?_; rintro e w5 ⟨y, rfl, ⟨hy0, hy1, _⟩, hs5, hg5⟩
      have hy2 := hy1 (by omega)
      have q5 := (World.cell?_of_block (a := ⟨b3, 1, none⟩) (hg5.block b3 (by have := (HD4.out.dr.row.lt b3 rfl).2; simpa using this) (fun e => hbw (by injection e)))).trans q1
      have f5 := (World.frozen?_of_block (a := ⟨b3, 1, none⟩) (hg5.block b3 (by have := (HD4.out.dr.row.lt b3 rfl).2; simpa using this) (fun e => hbw (by injection e)))).trans q2
      obtain ⟨l6, hl6, hd6⟩ := Hput.out (a + y) _ _ hs5 (grown_undrew hg5)
      have HD6 := Lib.hid hd6
      clear hs5 hg5 hy1 hl6 hd6 q1 q2
      (try go_wp2_with fail)
      refine hKq.out _ _ (q5) (fun hHeld => ?_)
      clear hKq Kq
      (try simp only [Act.put, List.setIfInBounds_toArray, List.set_cons_zero, List.set_cons_succ])
      refine take_F (i := 6) (d := some 27) (v := ?_) (by kernel_rfl) (by kernel_rfl) rfl rfl (by kernel_rfl) (by kernel_rfl) (by kernel_rfl) (fun _ _ _ h => h) (Or.inl ⟨by rfl, ?_⟩) (by assumption) ?_
      rotate_left
      · (intro w hSw; (try dsimp only at hSw); go_simp; (try rw [if_neg (by omega)]); (try (with_reducible rfl)))
      simp only [Act.put, List.setIfInBounds_toArray, List.set_cons_zero, List.set_cons_succ]
      refine take_F (i := 7) (d := some 28) (v := ?_) (by kernel_rfl) (by kernel_rfl) rfl rfl (by kernel_rfl) (by kernel_rfl) (by kernel_rfl) (fun _ _ _ h => h) (Or.inl ⟨by rfl, ?_⟩) (by assumption) ?_
      rotate_left
      · (intro w hSw; (try dsimp only at hSw); go_simp; (try rw [if_neg (by omega)]); (try (with_reducible rfl)))
      simp only [Act.put, List.setIfInBounds_toArray, List.set_cons_zero, List.set_cons_succ]
      refine take_F (i := 8) (d := some 29) (v := ?_) (by kernel_rfl) (by kernel_rfl) rfl rfl (by kernel_rfl) (by kernel_rfl) (by kernel_rfl) (fun _ _ _ h => h) (Or.inl ⟨by rfl, ?_⟩) (by assumption) ?_
      rotate_left
      · (intro w hSw; (try dsimp only at hSw); go_simp; (try rw [if_neg (by omega)]); (try (with_reducible rfl)))
      simp only [Act.put, List.setIfInBounds_toArray, List.set_cons_zero, List.set_cons_succ]
      refine late_L (i := 9) (d := none) (by kernel_rfl) rfl rfl (by kernel_rfl) (fun Kq hKq => ?_)
      go_simp
      refine hKq.out _ _ ?_
      clear hKq Kq
      refine done_L (by kernel_rfl) ?_ _
      refine NoPanic.normal ?_
      clear q5 f5 HD4 HP Hput
      go_wp2_with fail
      refine (one_any B _ _ bs 5 _ HD6.out.dr.src (by omega)).mono ?_; rintro e w8 ⟨y8, rfl, hs8, hg8⟩
      have HD8 := Lib.hid (DrQ.draw HD6.out hs8 hg8)
      clear hs8 hg8 HD6
      cases y8 with
      | false =>
        go_wp2_with fail
        go_ret2
        have hfin := HD8.out
        exact SameR.of HA.out hfin Hb1.out Hg2.out
      | true =>
        have hll8 := HD8.out.len
        go_wp2_with (at_builtin; refine wpList_apd 35 91 _ 2 16 Tryd.underlying35 infoP rfl (by omega) _ _ rfl rfl w2.heap.size _ _ _ rfl HD8.out.dr.row #[.int .i64 0, .int .i64 0] 1 1 rfl rfl (ones2p _ _) (by simp [maxLen]; omega) (by omega) HD8.out.dr.size ?_; intro v9 w9 hown9 hg9; have HD9 := Lib.hid (HD8.out.snocQ hown9 hg9); obtain ⟨A9, c9, rfl⟩ := sl_of_own2 hown9; clear hown9 hg9)
        go_ret2
        obtain ⟨l9, hfin⟩ := HD9.out
        exact SameR.of HA.out hfin Hb1.out Hg2.out
end Go.Proofs.YtiddhelabmaghaaDoor
/- Journals, part 3: cut. -/
namespace Go.Proofs.YtiddhelabmaghaaDoor
open Go.RowKit Go.Joins

/-- the first place of a byte in a text; its size if there is none -/
def fnd (c : UInt8) (s : ByteArray) : Nat := s.data.toList.findIdx (· == c)
theorem fnd_le (c : UInt8) (s : ByteArray) : fnd c s ≤ s.size := by
  have : fnd c s ≤ s.data.toList.length := List.findIdx_le_length
  simpa using this
theorem fnd_eq (c : UInt8) (s : ByteArray) (k : Nat) (hk : k ≤ fnd c s) (hlt : k < s.size) (h : s[k] = c) : fnd c s = k := by
  refine Nat.le_antisymm (Nat.le_of_not_lt fun hl => ?_) hk
  have := List.not_of_lt_findIdx (p := (· == c)) (xs := s.data.toList) (i := k) hl
  have h' : s.data.toList[k]'(by simpa using hlt) = c := by rw [← h]; rfl
  simp [h'] at this
theorem fnd_ne (c : UInt8) (s : ByteArray) (k : Nat) (hk : k ≤ fnd c s) (hlt : k < s.size) (h : s[k] ≠ c) : k + 1 ≤ fnd c s := by
  rcases Nat.lt_or_ge k (fnd c s) with hl | hg
  · exact hl
  · exfalso
    have he : fnd c s = k := Nat.le_antisymm hg hk
    have := List.findIdx_getElem (p := (· == c)) (xs := s.data.toList) (w := by show fnd c s < s.data.toList.length; rw [he]; simpa using hlt)
    have hh : s.data.toList[fnd c s]'(by rw [he]; simpa using hlt) = c := by simpa [fnd] using this
    simp only [he] at hh
    exact h (by rw [← hh]; rfl)
theorem ext_all (s : ByteArray) : s.extract 0 s.size = s := by
  apply ByteArray.ext; simp
theorem ext_none (s : ByteArray) : s.extract (s.size + 1) s.size = ⟨#[]⟩ := by
  apply ByteArray.ext; simp
theorem one_byte (s : ByteArray) (k : Nat) (hlt : k < s.size) : s.extract k (k + 1) = ⟨#[s[k]]⟩ := by
  apply ByteArray.ext
  have hl : k < s.data.size := hlt
  apply Array.ext
  · simp; omega
  · intro i h1 h2
    have hi : i = 0 := by simp at h2; omega
    subst hi
    simp; rfl

set_option maxRecDepth 100000 in
set_option maxHeartbeats 1000000 in
theorem cut_any (s : ByteArray) (c : UInt8) (w : World) (hs : s.size ≤ 1073741824) :
    Calls Tryd.prog 60 #[.string s, .string ⟨#[c]⟩] w fun e w' => e = .returned (.tuple #[.string (s.extract 0 (fnd c s)), .string (s.extract (fnd c s + 1) s.size), .bool (decide (fnd c s < s.size))]) ∧ ∃ n, w' = w.drewN n := by
  have h1 : (⟨#[c]⟩ : ByteArray).size = 1 := rfl
  go_enter Tryd.func60, Tryd.ntmps60
  go_wp2_with fail
  go_loop [7] (fun i => ∃ k : Nat, k ≤ fnd c s ∧ i = .int .i64 k) (fun i => s.size - (intOf i).toNat)
  case atStart => exact ⟨0, Nat.zero_le _, rfl⟩
  case round =>
    obtain ⟨k, hk, rfl⟩ := hrel
    have hfl := fnd_le c s
    by_cases hlt : k < s.size
    · have hsl := one_byte s k hlt
      by_cases he : s[k] = c
      · have hf := Lib.hid (fnd_eq c s k hk hlt he)
        rw [he] at hsl
        clear he
        go_wp2_with fail
        go_quiet (fail)
        go_wp2_with fail
        go_ret3
        rw [hf.out]; exact ⟨by simp [hlt], _, rfl⟩
      · have hf := Lib.hid (fnd_ne c s k hk hlt he)
        have hb : ((⟨#[s[k]]⟩ : ByteArray).toList == [c]) = false := by
          rw [beq_eq_false_iff_ne]; exact fun h => he (by rw [ByteArray.toList_eq] at h; simpa using h)
        generalize (⟨#[s[k]]⟩ : ByteArray) = o at *
        go_wp2_with fail
        go_round
        case rel => exact ⟨k + 1, hf.out, by go_num⟩
        case measure => simp [intOf]; omega
    · have hf := Lib.hid (show fnd c s = s.size by omega)
      have he1 := ext_all s
      have he2 := ext_none s
      go_wp2_with fail
      go_ret3
      rw [hf.out]; exact ⟨by rw [he1, he2]; simp, 0, rfl⟩
end Go.Proofs.YtiddhelabmaghaaDoor
/- Texts cut at a byte, part 1: plain laws. -/
namespace Go.Proofs.YtiddhelabmaghaaDoor

/-- the parts of a text between bytes c -/
def splitB (c : UInt8) (s : ByteArray) : List ByteArray :=
  if h : fnd c s < s.size then s.extract 0 (fnd c s) :: splitB c (s.extract (fnd c s + 1) s.size) else [s]
termination_by s.size
decreasing_by rw [ByteArray.size_extract]; omega
theorem splitB_yes {c : UInt8} {s : ByteArray} (h : fnd c s < s.size) : splitB c s = s.extract 0 (fnd c s) :: splitB c (s.extract (fnd c s + 1) s.size) := by
  rw [splitB, dif_pos h]
theorem splitB_no {c : UInt8} {s : ByteArray} (h : s.size ≤ fnd c s) : splitB c s = [s] := by
  rw [splitB, dif_neg (by omega)]
theorem tail_sizeS (s : ByteArray) (f : Nat) : (s.extract f s.size).size = s.size - f := by rw [ByteArray.size_extract]; omega
theorem tail_cut (s : ByteArray) (f i : Nat) (h : f ≤ i) (hi : i ≤ s.size) : (s.extract f s.size).extract 0 (i - f) = s.extract f i := by
  rw [ByteArray.extract_extract, Nat.add_zero, show f + (i - f) = i by omega, Nat.min_eq_left hi]
theorem tail_tail (s : ByteArray) (f i : Nat) (h : f ≤ i) (hf : f ≤ s.size) : (s.extract f s.size).extract (i - f) (s.size - f) = s.extract i s.size := by
  rw [ByteArray.extract_extract, show f + (i - f) = i by omega, show f + (s.size - f) = s.size by omega, Nat.min_self]
/-- the walk of the reference: a byte c at i, the part begins at f -/
theorem sp_hit {c : UInt8} {s : ByteArray} {f i : Nat} (h : f ≤ i) (hi : i < s.size) (hf : i - f ≤ fnd c (s.extract f s.size)) (hc : s[i] = c) :
    splitB c (s.extract f s.size) = s.extract f i :: splitB c (s.extract (i + 1) s.size) := by
  have hz := tail_sizeS s f
  have he : fnd c (s.extract f s.size) = i - f := by
    refine fnd_eq c _ (i - f) hf (by omega) ?_
    rw [ByteArray.getElem_extract]
    simp only [show f + (i - f) = i by omega]
    exact hc
  rw [splitB_yes (by omega), he, tail_cut s f i h (by omega), hz, show i - f + 1 = i + 1 - f by omega, tail_tail s f (i + 1) (by omega) (by omega)]
theorem sp_miss {c : UInt8} {s : ByteArray} {f i : Nat} (h : f ≤ i) (hi : i < s.size) (hf : i - f ≤ fnd c (s.extract f s.size)) (hc : s[i] ≠ c) :
    i + 1 - f ≤ fnd c (s.extract f s.size) := by
  have hz := tail_sizeS s f
  have he := fnd_ne c (s.extract f s.size) (i - f) hf (by omega) (by
    rw [ByteArray.getElem_extract]
    simp only [show f + (i - f) = i by omega]
    exact hc)
  omega
theorem sp_end {c : UInt8} {s : ByteArray} {f : Nat} (hf : s.size - f ≤ fnd c (s.extract f s.size)) : splitB c (s.extract f s.size) = [s.extract f s.size] :=
  splitB_no (by rw [tail_sizeS]; exact hf)
theorem splitB_ne (c : UInt8) (s : ByteArray) : splitB c s ≠ [] := by
  rw [splitB]; split <;> simp
theorem splitB_len (c : UInt8) : ∀ (n : Nat) (s : ByteArray), s.size ≤ n → (splitB c s).length ≤ s.size + 1 := by
  intro n
  induction n with
  | zero =>
    intro s h
    have := fnd_le c s
    rw [splitB_no (by omega)]; simp
  | succ n ih =>
    intro s h
    rcases Nat.lt_or_ge (fnd c s) s.size with h1 | h1
    · rw [splitB_yes h1, List.length_cons]
      have hz := tail_sizeS s (fnd c s + 1)
      have := ih (s.extract (fnd c s + 1) s.size) (by omega)
      omega
    · rw [splitB_no h1]; simp
/-- the lines of a text that ends with c, none where it does not -/
def linesB (c : UInt8) (s : ByteArray) : Option (List ByteArray) := if (splitB c s).getLast? = some ⟨#[]⟩ then some (splitB c s).dropLast else none
end Go.Proofs.YtiddhelabmaghaaDoor
/- l01Dec of every number (the negative ones too). -/
namespace Go.Proofs.YtiddhelabmaghaaDoor
open Go.RowKit Go.Joins

theorem decS_neg (n : Nat) (hn : 0 < n) : decS (-(n : Int)) = ⟨#[45]⟩ ++ ⟨(Lib.decDigits n).toArray⟩ := by
  unfold decS Lib.itoa
  rw [if_pos (by omega)]
  refine ba_inj ?_
  rw [ByteArray.toList_eq, ByteArray.toList_eq]
  simp
theorem nDig19 (u : Nat) (h : u ≤ 9223372036854775808) : Lib.nDigits u ≤ 19 := by
  have key : ∀ (k u : Nat), u < 10 ^ (k + 1) → Lib.nDigits u ≤ k + 1 := by
    intro k
    induction k with
    | zero => intro u hu; rw [Lib.nDigits_small (by simpa using hu)]; omega
    | succ k ih =>
      intro u hu
      by_cases h10 : u < 10
      · rw [Lib.nDigits_small h10]; omega
      · rw [Lib.nDigits_big h10]
        have := ih (u / 10) (by rw [Nat.pow_succ] at hu; omega)
        omega
  refine key 18 u ?_
  have : (10 : Nat) ^ (18 + 1) = 10000000000000000000 := by decide
  omega
theorem tdiv_neg10 (k : Nat) : Int.tdiv (-(k : Int)) 10 = -((k / 10 : Nat) : Int) := by
  rw [Int.neg_tdiv, Int.tdiv_eq_ediv_of_nonneg (by omega)]; omega
theorem tmod_neg10 (k : Nat) : Int.tmod (-(k : Int)) 10 = -((k % 10 : Nat) : Int) := by
  rw [Int.neg_tmod, Int.tmod_eq_emod_of_nonneg (by omega)]; omega

set_option maxRecDepth 100000 in
set_option maxHeartbeats 1600000 in
theorem l01Dec_neg (n : Nat) (w : World) (hn0 : 0 < n) (hn : n ≤ 9223372036854775808) :
    Calls Tryd.prog 103 #[.int .i64 (-(n : Int))] w fun e w' => e = .returned (.string (decS (-(n : Int)))) ∧ Below w.heap.size w w' := by
  have Hn := Lib.hid hn; clear hn
  have Hn0 := Lib.hid hn0; clear hn0
  obtain ⟨N, hN⟩ : ∃ N : Int, -(n : Int) = N := ⟨_, rfl⟩
  rw [hN]
  have HN := Lib.hid hN
  have hneg : N < 0 := by have := Hn0.out; omega
  clear hN
  go_enter Tryd.func103, Tryd.ntmps103
  go_wp2_with fail
  go_loopw [3, 4] (fun v i wr => ∃ (k : Nat) (acc : List UInt8) (g c : Nat), i = .int .i64 (-(k : Int)) ∧ v = .slice (some ⟨g, 0, none⟩) acc.length c ∧ wr.ownsRow w.heap.size 5 1 v acc.length (acc.map byV) ∧
      ddL n [] = ddL k acc ∧ Hid (k * 10 ^ acc.length ≤ 9223372036854775808) ∧ Hid (k ≤ n) ∧ Below w.heap.size w wr) (fun _ i _ => (intOf i).natAbs)
  case atStart => exact ⟨n, [], w.heap.size, 0, by rw [HN.out], rfl, World.ownsRow_made w #[] 0 (Nat.le_refl _) (by simp [maxLen]) rfl, rfl, Lib.hid (by have := Hn.out; simp; omega), Lib.hid (Nat.le_refl _), (Below.refl _ _).alloc (Nat.le_refl _) _⟩
  case round =>
    obtain ⟨k, acc, g, c, rfl, rfl, hown, hdd, hp, hkn, hbl⟩ := hrel
    have Hdd := Lib.hid hdd; clear hdd
    by_cases hlt : 0 < k
    · have hL : acc.length ≤ 18 := len19 k acc.length hlt hp.out
      have hd := digB' k
      have Hst := Lib.hid (ddL_step k acc hlt)
      have hk8 : k ≤ 9223372036854775808 := by have := hkn.out; have := Hn.out; omega
      generalize UInt8.ofNat (48 + k % 10) = d at *
      have hnew := World.ownsRow_lit (base := w.heap.size) (e := 5) (size := 1) wr #[.int .u8 (d.toNat : Int)] 1 hbl.size (by simp [maxLen]) rfl
      have hcells := (hown.alloc (.cells #[.int .u8 (d.toNat : Int)] 5)).cells (g := g) rfl
      have hcells' : ∀ j u, (acc.map byV)[j]? = some u → (wr.alloc (.cells #[.int .u8 (d.toNat : Int)] 5)).cell? ⟨g, j, none⟩ = some u := fun j u hu => by
        have := hcells j u hu
        rwa [show (⟨g, 0, none⟩ : Addr).add j = ⟨g, j, none⟩ by unfold Addr.add; split <;> simp_all] at this
      have Hc := Lib.hid hcells'; clear hcells hcells'
      have hq0 := tdiv_neg10 k
      have hr0 := tmod_neg10 k
      obtain ⟨K, hK⟩ : ∃ K : Int, -(k : Int) = K := ⟨_, rfl⟩
      have HK := Lib.hid hK
      rw [hK] at hq0 hr0
      have hne : (K != 0) = true := by rw [bne_iff_ne]; omega
      have hwq : IntKind.i64.wrap (-((k / 10 : Nat) : Int)) = -((k / 10 : Nat) : Int) := IntWalk.i64_in _ (by omega)
      have hwr : IntKind.i64.wrap (-((k % 10 : Nat) : Int)) = -((k % 10 : Nat) : Int) := IntWalk.i64_in _ (by omega)
      obtain ⟨q, hq⟩ : ∃ q : Int, -((k / 10 : Nat) : Int) = q := ⟨_, rfl⟩
      obtain ⟨r, hr⟩ : ∃ r : Int, -((k % 10 : Nat) : Int) = r := ⟨_, rfl⟩
      rw [hq] at hq0 hwq
      rw [hr] at hr0 hwr
      have Hq := Lib.hid hq
      have hr9 : -9 ≤ r ∧ r ≤ 0 := by omega
      obtain ⟨hr9, hr99⟩ := hr9
      rw [hK]
      rcases Int.lt_or_le r 0 with hrn | hrn
      · have hwd : IntKind.i64.wrap (-r) = -r := IntWalk.i64_in _ (by omega)
        have hd' : IntKind.u8.wrap (48 + -r) = (d.toNat : Int) := by rw [← hd, ← hr]; congr 1; omega
        clear hd hK hq hr
        go_wp2_with (at_builtin; refine wpList_app_own 33 5 _ 1 1 Tryd.underlying33 infoB' rfl (by omega) _ _ rfl rfl w.heap.size (.slice (some ⟨wr.heap.size, 0, none⟩) 1 1) 1 _ rfl hnew (by simp) g acc.length c (acc.map byV) rfl Hc.out (by simp) (by simp [byV, Value.oneCell']) (by simp [maxLen]; omega) (by omega) (by simp; have := hbl.size; omega) ?_; intro g' c' w1 hown1 hg1)
        have hb1 : Below w.heap.size w w1 := (hbl.alloc hbl.size _).grown hg1 (by simp; have := hbl.size; omega) (fun x hx => by injection hx with hx; rw [← hx]; exact hbl.size)
        clear Hc hnew
        go_wp2_with fail
        go_roundw
        case rel => exact ⟨k / 10, d :: acc, g', c', by rw [Hq.out], by simp [Nat.add_comm], by simpa [byV, Nat.add_comm] using hown1, by rw [Hdd.out, Hst.out], Lib.hid (pow_step _ _ _ hp.out), Lib.hid (by have := hkn.out; omega), hb1⟩
        case measure => simp [intOf]; have := HK.out; have := Hq.out; omega
      · have hr0' : r = 0 := by omega
        have hd' : IntKind.u8.wrap (48 + r) = (d.toNat : Int) := by rw [← hd]; congr 1; omega
        clear hd hK hq hr hr0'
        go_wp2_with (at_builtin; refine wpList_app_own 33 5 _ 1 1 Tryd.underlying33 infoB' rfl (by omega) _ _ rfl rfl w.heap.size (.slice (some ⟨wr.heap.size, 0, none⟩) 1 1) 1 _ rfl hnew (by simp) g acc.length c (acc.map byV) rfl Hc.out (by simp) (by simp [byV, Value.oneCell']) (by simp [maxLen]; omega) (by omega) (by simp; have := hbl.size; omega) ?_; intro g' c' w1 hown1 hg1)
        have hb1 : Below w.heap.size w w1 := (hbl.alloc hbl.size _).grown hg1 (by simp; have := hbl.size; omega) (fun x hx => by injection hx with hx; rw [← hx]; exact hbl.size)
        clear Hc hnew
        go_wp2_with fail
        go_roundw
        case rel => exact ⟨k / 10, d :: acc, g', c', by rw [Hq.out], by simp [Nat.add_comm], by simpa [byV, Nat.add_comm] using hown1, by rw [Hdd.out, Hst.out], Lib.hid (pow_step _ _ _ hp.out), Lib.hid (by have := hkn.out; omega), hb1⟩
        case measure => simp [intOf]; have := HK.out; have := Hq.out; omega
    · have hk0 : k = 0 := by omega
      subst hk0
      have hacc : Lib.decDigits n = acc := by
        have := Hdd.out
        simpa [ddL, show n ≠ 0 by have := Hn0.out; omega] using this
      have hl : ((acc.length : Int) == 0) = false := by
        have := decDigits_ne n
        rw [hacc] at this
        rw [beq_eq_false_iff_ne]; omega
      have he := Lib.hid (show decS N = ⟨#[45]⟩ ++ ⟨acc.toArray⟩ by rw [← HN.out, decS_neg n Hn0.out, hacc])
      have hconv := run_conv_own (P := Tryd.prog) 33 9 5 Tryd.underlying33 Tryd.underlying5 Tryd.underlying9 _ _ _ _ hown
      have hlen : acc.length ≤ 19 := by
        have h1 := congrArg List.length hacc
        rw [Lib.decDigits_length] at h1
        have := Hn.out
        have h2 : Lib.nDigits n ≤ 19 := nDig19 n (by omega)
        omega
      clear hacc
      go_wp2_with fail
      go_ret
      rw [he.out]; exact ⟨rfl, hbl⟩
theorem l01Dec_any (n : Int) (w : World) (h0 : -9223372036854775808 ≤ n) (h1 : n ≤ 9223372036854775807) :
    Calls Tryd.prog 103 #[.int .i64 n] w fun e w' => e = .returned (.string (decS n)) ∧ Below w.heap.size w w' := by
  rcases Int.lt_or_le n 0 with h | h
  · obtain ⟨m, rfl⟩ : ∃ m : Nat, n = -(m : Int) := ⟨n.natAbs, by omega⟩
    exact l01Dec_neg m w (by omega) (by omega)
  · obtain ⟨m, rfl⟩ : ∃ m : Nat, n = m := ⟨n.toNat, by omega⟩
    exact l01Dec_nonneg m w (by omega)
end Go.Proofs.YtiddhelabmaghaaDoor
/- Numbers read from texts: the plain reading; ReadDecimal (program). -/
namespace Go.Proofs.YtiddhelabmaghaaDoor
open Go.RowKit Go.Joins

def isDg (c : UInt8) : Bool := decide (48 ≤ c.toNat) && decide (c.toNat ≤ 57)
def numVN (l : List UInt8) : Nat := l.foldl (fun n c => 10 * n + (c.toNat - 48)) 0
theorem numVN_snoc (l : List UInt8) (c : UInt8) : numVN (l ++ [c]) = 10 * numVN l + (c.toNat - 48) := by simp [numVN]
theorem numVN_lt' : ∀ (l : List UInt8), (∀ c ∈ l, isDg c = true) → ∀ n : Nat, l.foldl (fun n c => 10 * n + (c.toNat - 48)) n < (n + 1) * 10 ^ l.length := by
  intro l
  induction l with
  | nil => intro _ n; simp
  | cons c l ih =>
    intro h n
    have h1 := ih (fun x hx => h x (List.mem_cons_of_mem _ hx)) (10 * n + (c.toNat - 48))
    have h2 := h c List.mem_cons_self
    unfold isDg at h2
    simp only [Bool.and_eq_true, decide_eq_true_eq] at h2
    rw [List.foldl_cons, List.length_cons, Nat.pow_succ]
    have h3 : (10 * n + (c.toNat - 48) + 1) * 10 ^ l.length ≤ (10 * (n + 1)) * 10 ^ l.length := Nat.mul_le_mul_right _ (by omega)
    have h4 : (10 * (n + 1)) * 10 ^ l.length = (n + 1) * (10 ^ l.length * 10) := by
      rw [Nat.mul_comm 10 (n + 1), Nat.mul_assoc, Nat.mul_comm 10]
    omega
theorem numVN_lt (l : List UInt8) (h : ∀ c ∈ l, isDg c = true) : numVN l < 10 ^ l.length := by
  have := numVN_lt' l h 0
  unfold numVN
  omega
/-- what stands behind a sign -/
def bodyN (s : ByteArray) : ByteArray := if s.data.toList.head? = some 45 then s.extract 1 s.size else s
def valN (s : ByteArray) : Int := if (bodyN s).size < s.size then -(numVN (bodyN s).data.toList : Int) else numVN (bodyN s).data.toList
def readN (s : ByteArray) : Option Int :=
  if (bodyN s).size = 0 ∨ 18 < (bodyN s).size then none
  else if (bodyN s).data.toList.all isDg = true then (if decS (valN s) = s then some (valN s) else none) else none
theorem isDigitN_any (c : UInt8) (w : World) : Calls Tryd.prog 101 #[.int .u8 (c.toNat : Int)] w fun e w' => e = .returned (.bool (isDg c)) ∧ w = w' := by
  unfold isDg
  by_cases h1 : 48 ≤ c.toNat
  · have h1' : (48 : Int) ≤ (c.toNat : Int) := by omega
    by_cases h2 : c.toNat ≤ 57
    · have h2' : (c.toNat : Int) ≤ 57 := by omega
      go_enter Tryd.func101, Tryd.ntmps101
      go_wp2_with fail
      go_ret
      exact ⟨by simp [h1, h2], rfl⟩
    · have h2' : ¬ (c.toNat : Int) ≤ 57 := by omega
      go_enter Tryd.func101, Tryd.ntmps101
      go_wp2_with fail
      go_ret
      exact ⟨by simp, rfl⟩
  · have h1' : ¬ (48 : Int) ≤ (c.toNat : Int) := by omega
    go_enter Tryd.func101, Tryd.ntmps101
    go_wp2_with fail
    go_ret
    exact ⟨by simp, rfl⟩
theorem l01DigitN_any (c : UInt8) (w : World) : Calls Tryd.prog 102 #[.int .u8 (c.toNat : Int)] w fun e w' => e = .returned (.bool (isDg c)) ∧ w = w' := by
  unfold isDg
  by_cases h1 : 48 ≤ c.toNat
  · have h1' : (48 : Int) ≤ (c.toNat : Int) := by omega
    by_cases h2 : c.toNat ≤ 57
    · have h2' : (c.toNat : Int) ≤ 57 := by omega
      go_enter Tryd.func102, Tryd.ntmps102
      go_wp2_with fail
      go_ret
      exact ⟨by simp [h1, h2], rfl⟩
    · have h2' : ¬ (c.toNat : Int) ≤ 57 := by omega
      go_enter Tryd.func102, Tryd.ntmps102
      go_wp2_with fail
      go_ret
      exact ⟨by simp, rfl⟩
  · have h1' : ¬ (48 : Int) ≤ (c.toNat : Int) := by omega
    go_enter Tryd.func102, Tryd.ntmps102
    go_wp2_with fail
    go_ret
    exact ⟨by simp, rfl⟩
end Go.Proofs.YtiddhelabmaghaaDoor
/- Numbers read from texts, part 2: ReadDecimal and l01Number (under way). -/
namespace Go.Proofs.YtiddhelabmaghaaDoor
open Go.RowKit Go.Joins

def RetN1 (w : World) (s : ByteArray) (e : Ending) (w' : World) : Prop := e = .returned (.tuple #[.int .i64 ((readN s).getD 0), .bool (readN s).isSome]) ∧ Below w.heap.size w w'
theorem head_sizeN {s : ByteArray} (h : s.data.toList.head? = some 45) : ∃ h0 : 0 < s.size, s[0] = 45 := by
  have h0 : 0 < s.size := by
    rcases Nat.eq_zero_or_pos s.size with h1 | h1
    · have : s.data.toList = [] := List.eq_nil_of_length_eq_zero (by simpa using h1)
      rw [this] at h; simp at h
    · exact h1
  refine ⟨h0, ?_⟩
  have h2 : s.data.toList.head? = some s[0] := by
    rw [List.head?_eq_getElem?, List.getElem?_eq_getElem (by simpa using h0)]
    rfl
  rw [h2] at h
  exact Option.some.inj h
theorem head_not {s : ByteArray} (h : ¬ s.data.toList.head? = some 45) (h0 : 0 < s.size) : s[0] ≠ 45 := by
  intro e
  refine h ?_
  rw [List.head?_eq_getElem?, List.getElem?_eq_getElem (by simpa using h0)]
  rw [← e]; rfl
theorem take_at (s : ByteArray) (k : Nat) (hk : k < s.size) : numVN (s.data.toList.take (k + 1)) = 10 * numVN (s.data.toList.take k) + (s[k].toNat - 48) := by
  rw [List.take_succ_eq_append_getElem (by simpa using hk), numVN_snoc]
  rfl
theorem readN_none {s : ByteArray} (h : (bodyN s).size = 0 ∨ 18 < (bodyN s).size) : readN s = none := by unfold readN; rw [if_pos h]
theorem readN_bad {s : ByteArray} (k : Nat) (hk : k < (bodyN s).size) (h : isDg (bodyN s)[k] = false) : readN s = none := by
  unfold readN
  split
  · rfl
  · rw [if_neg]
    intro ha
    have := List.all_eq_true.1 ha (bodyN s)[k] (List.getElem_mem (l := (bodyN s).data.toList) (n := k) (by simpa using hk))
    rw [h] at this; cases this
theorem readN_val {s : ByteArray} (h1 : ¬((bodyN s).size = 0 ∨ 18 < (bodyN s).size)) (h2 : ∀ c ∈ (bodyN s).data.toList, isDg c = true) : readN s = if decS (valN s) = s then some (valN s) else none := by
  unfold readN
  rw [if_neg h1, if_pos (List.all_eq_true.2 h2)]
theorem valN_bd {s : ByteArray} (h1 : ¬((bodyN s).size = 0 ∨ 18 < (bodyN s).size)) (h2 : ∀ c ∈ (bodyN s).data.toList, isDg c = true) : numVN (bodyN s).data.toList < 1000000000000000000 := by
  have h := numVN_lt _ h2
  have h3 : (10 : Nat) ^ (bodyN s).data.toList.length ≤ 10 ^ 18 := Nat.pow_le_pow_right (by omega) (by
    have : (bodyN s).data.toList.length = (bodyN s).size := by simp
    omega)
  have h4 : (10 : Nat) ^ 18 = 1000000000000000000 := by decide
  omega
end Go.Proofs.YtiddhelabmaghaaDoor
/- Numbers read from texts, part 5: what a text that is a number cannot hold. -/
namespace Go.Proofs.YtiddhelabmaghaaDoor

theorem readN_dec {r : ByteArray} {a : Int} (h : readN r = some a) : decS a = r := by
  unfold readN at h
  split at h
  · cases h
  · split at h
    · split at h
      · rename_i he
        rw [← Option.some.inj h]; exact he
      · cases h
    · cases h
theorem readN_none_of {r : ByteArray} (k : Nat) (hk : k < r.size) (h1 : isDg r[k] = false) (h2 : r[k] ≠ 45) : readN r = none := by
  by_cases hh : r.data.toList.head? = some 45
  · obtain ⟨h0, he⟩ := head_sizeN hh
    have hT : bodyN r = r.extract 1 r.size := by unfold bodyN; rw [if_pos hh]
    have hk0 : k ≠ 0 := by
      intro e; subst e; exact h2 he
    have hz : (bodyN r).size = r.size - 1 := by rw [hT, ByteArray.size_extract]; omega
    refine readN_bad (k - 1) (by omega) ?_
    have : (bodyN r)[k - 1]'(by omega) = r[k] := by
      simp only [hT]
      rw [ByteArray.getElem_extract]
      simp only [show 1 + (k - 1) = k by omega]
    rw [this]; exact h1
  · have hT : bodyN r = r := by unfold bodyN; rw [if_neg hh]
    refine readN_bad k (by rw [hT]; exact hk) ?_
    simp only [hT]; exact h1
theorem fnd_at (c : UInt8) (s : ByteArray) (h : fnd c s < s.size) : s[fnd c s] = c := by
  have := List.findIdx_getElem (p := (· == c)) (xs := s.data.toList) (w := by show fnd c s < s.data.toList.length; simpa using h)
  have hh : s.data.toList[fnd c s]'(by simpa using h) = c := by simpa [fnd] using this
  exact hh
end Go.Proofs.YtiddhelabmaghaaDoor
/- A program's line, read: the plain law. -/
namespace Go.Proofs.YtiddhelabmaghaaDoor

/-- the number of a word: the last one that fits -/
def opF (x : ByteArray) : Nat → Nat
  | 0 => 0
  | k + 1 => if 0 < k ∧ wordP k = x then k else opF x k
theorem opF_yes {x : ByteArray} {k : Nat} (h : 0 < k) (hw : wordP k = x) : opF x (k + 1) = k := if_pos ⟨h, hw⟩
theorem opF_no {x : ByteArray} {k : Nat} (hw : wordP k ≠ x) : opF x (k + 1) = opF x k := if_neg fun h => hw h.2
theorem opF_le (x : ByteArray) : ∀ k, opF x k ≤ k - 1 := by
  intro k
  induction k with
  | zero => simp [opF]
  | succ k ih =>
    unfold opF
    split
    · omega
    · omega
theorem opF_word (x : ByteArray) : ∀ k, opF x k ≠ 0 → wordP (opF x k) = x := by
  intro k
  induction k with
  | zero => intro h; exact absurd rfl h
  | succ k ih =>
    intro h
    by_cases hc : 0 < k ∧ wordP k = x
    · rw [show opF x (k + 1) = k from if_pos hc]; exact hc.2
    · rw [show opF x (k + 1) = opF x k from if_neg hc] at h ⊢; exact ih h
def opW (x : ByteArray) : Nat := opF x 11
theorem opW_le (x : ByteArray) : opW x ≤ 10 := opF_le x 11
def wordL (s : ByteArray) : ByteArray := s.extract 0 (fnd 32 s)
def restL (s : ByteArray) : ByteArray := s.extract (fnd 32 s + 1) s.size
def argW (n : Nat) (r : ByteArray) : Int := if n = 1 ∨ n = 8 then (readN r).getD 0 else if n = 2 ∨ n = 3 ∨ n = 4 ∨ n = 5 then (readN r).getD 1 else 0
/-- a line, read: operation, number, fault -/
def rl (s : ByteArray) : Int × Int × Int :=
  if opW (wordL s) = 0 then (0, 0, 1)
  else if okIns (opW (wordL s)) (argW (opW (wordL s)) (restL s)) = true ∧ lineP (opW (wordL s)) (argW (opW (wordL s)) (restL s)) = s then ((opW (wordL s) : Int), argW (opW (wordL s)) (restL s), 0)
  else (0, 0, 2)
theorem rl_none {s : ByteArray} (h : opW (wordL s) = 0) : rl s = (0, 0, 1) := if_pos h
theorem rl_bad {s : ByteArray} {n : Nat} {a : Int} (hn : opW (wordL s) = n) (h0 : n ≠ 0) (ha : argW n (restL s) = a) (h : ¬(okIns n a = true ∧ lineP n a = s)) : rl s = (0, 0, 2) := by
  subst hn; subst ha
  unfold rl; rw [if_neg h0, if_neg h]
theorem rl_good {s : ByteArray} {n : Nat} {a : Int} (hn : opW (wordL s) = n) (h0 : n ≠ 0) (ha : argW n (restL s) = a) (h : okIns n a = true ∧ lineP n a = s) : rl s = ((n : Int), a, 0) := by
  subst hn; subst ha
  unfold rl; rw [if_neg h0, if_pos h]
theorem word_of {s : ByteArray} {n : Nat} (hn : opW (wordL s) = n) (h0 : n ≠ 0) : wordP n = wordL s := by
  subst hn; exact opF_word _ _ h0
/- numbers -/
theorem readN_blank {r : ByteArray} (h : fnd 32 r < r.size) : readN r = none := by
  have he := fnd_at 32 r h
  exact readN_none_of (fnd 32 r) h (by rw [he]; decide) (by rw [he]; decide)
theorem readN_nil : readN ⟨#[]⟩ = none := by
  refine readN_none (.inl ?_)
  unfold bodyN
  rw [if_neg (by simp)]
  rfl
theorem dec_zero : decS 0 = ⟨#[48]⟩ := by
  unfold decS
  rw [show (0 : Int) = ((0 : Nat) : Int) from rfl, Lib.itoa_nonneg, Lib.decDigits_one (by omega)]; rfl
theorem readN_zero : readN ⟨#[48]⟩ = some 0 := by
  have h1 : bodyN ⟨#[48]⟩ = ⟨#[48]⟩ := by decide
  have h2 : valN ⟨#[48]⟩ = 0 := by decide
  unfold readN
  rw [h1, h2, dec_zero]
  decide
/- the shape of a line -/
theorem line_cut {s : ByteArray} (h : fnd 32 s < s.size) : s = wordL s ++ ⟨#[32]⟩ ++ restL s := by
  have he := fnd_at 32 s h
  unfold wordL restL
  have h1 : (⟨#[32]⟩ : ByteArray) = s.extract (fnd 32 s) (fnd 32 s + 1) := by rw [one_byte s _ h, he]
  rw [h1]
  apply ByteArray.ext
  simp only [ByteArray.data_append, ByteArray.data_extract]
  have hz : s.size = s.data.size := rfl
  rw [Array.extract_append_extract, show min 0 (fnd 32 s) = 0 by omega, show max (fnd 32 s) (fnd 32 s + 1) = fnd 32 s + 1 by omega, Array.extract_append_extract, show min 0 (fnd 32 s + 1) = 0 by omega, show max (fnd 32 s + 1) s.size = s.size by omega, ← ByteArray.data_extract, ext_all]
theorem wordL_size {s : ByteArray} : (wordL s).size = fnd 32 s := by
  have := fnd_le 32 s
  unfold wordL; rw [ByteArray.size_extract]; omega
theorem wordL_all {s : ByteArray} (h : fnd 32 s = s.size) : wordL s = s := by unfold wordL; rw [h, ext_all]
theorem restL_none {s : ByteArray} (h : fnd 32 s = s.size) : restL s = ⟨#[]⟩ := by unfold restL; rw [h, ext_none]
end Go.Proofs.YtiddhelabmaghaaDoor
/- A program's line, read: the plain law, by the number of its parts. -/
namespace Go.Proofs.YtiddhelabmaghaaDoor

theorem app_inj {a b c : ByteArray} (h : a ++ b = a ++ c) : b = c := by
  have h1 := congrArg (fun x => x.data.toList) h
  simp only [ByteArray.data_append, Array.toList_append, List.append_cancel_left_eq] at h1
  exact ByteArray.ext (Array.ext' h1)
theorem long_ne {w r : ByteArray} : w ++ ⟨#[32]⟩ ++ r ≠ w := by
  intro h
  have := congrArg ByteArray.size h
  rw [ByteArray.size_append, ByteArray.size_append] at this
  have h1 : (⟨#[32]⟩ : ByteArray).size = 1 := rfl
  omega
theorem okIns_arg2 {n : Nat} {a : Int} (h1 : n ≠ 0) (h2 : n ≤ 10) : okIns n a = argF n a := okIns_arg (by unfold inB; simp; omega)
theorem inB_iff (a l h : Int) : (inB a l h = true) ↔ l ≤ a ∧ a ≤ h := by unfold inB; simp
/-- one part -/
theorem rl_one {s : ByteArray} {n : Nat} (hn : opW (wordL s) = n) (h0 : n ≠ 0) (hf : fnd 32 s = s.size) :
    rl s = if n = 1 ∨ n = 8 then (0, 0, 2) else if n ≤ 5 then ((n : Int), 1, 0) else ((n : Int), 0, 0) := by
  have hw := word_of hn h0
  have hr := restL_none hf
  have hs := wordL_all hf
  rw [hs] at hw
  have hle : n ≤ 10 := by rw [← hn]; exact opW_le _
  by_cases h18 : n = 1 ∨ n = 8
  · rw [if_pos h18]
    refine rl_bad hn h0 (a := 0) (by unfold argW; rw [if_pos h18, hr, readN_nil]; rfl) ?_
    rintro ⟨_, h2⟩
    rw [lineP_a (by omega), hw] at h2
    exact long_ne h2
  · rw [if_neg h18]
    by_cases h5 : n ≤ 5
    · rw [if_pos h5]
      refine rl_good hn h0 (a := 1) (by unfold argW; rw [if_neg h18, if_pos (by omega), hr, readN_nil]; rfl) ⟨?_, ?_⟩
      · rw [okIns_arg2 h0 hle]; unfold argF; rw [if_neg (by omega), if_pos (by omega), inB_iff]; omega
      · rw [lineP_b (by omega), hw]
    · rw [if_neg h5]
      refine rl_good hn h0 (a := 0) (by unfold argW; rw [if_neg h18, if_neg (by omega)]) ⟨?_, ?_⟩
      · rw [okIns_arg2 h0 hle]; unfold argF; rw [if_neg (by omega), if_neg (by omega)]; rfl
      · rw [lineP_b (by omega), hw]
/-- no number behind the word -/
theorem rl_nonum {s : ByteArray} {n : Nat} (hn : opW (wordL s) = n) (h0 : n ≠ 0) (hf : fnd 32 s < s.size) (hr : readN (restL s) = none) : rl s = (0, 0, 2) := by
  have hw := word_of hn h0
  have hs := line_cut hf
  have hle : n ≤ 10 := by rw [← hn]; exact opW_le _
  by_cases h18 : n = 1 ∨ n = 8
  · refine rl_bad hn h0 (a := 0) (by unfold argW; rw [if_pos h18, hr]; rfl) ?_
    rintro ⟨h1, h2⟩
    rw [lineP_a (by omega), hw] at h2
    have h3 := app_inj (h2.trans hs)
    rw [dec_zero] at h3
    rw [← h3, readN_zero] at hr
    cases hr
  · by_cases h5 : n ≤ 5
    · refine rl_bad hn h0 (a := 1) (by unfold argW; rw [if_neg h18, if_pos (by omega), hr]; rfl) ?_
      rintro ⟨_, h2⟩
      rw [lineP_b (by omega), hw] at h2
      exact long_ne (hs.symm.trans h2.symm)
    · refine rl_bad hn h0 (a := 0) (by unfold argW; rw [if_neg h18, if_neg (by omega)]) ?_
      rintro ⟨_, h2⟩
      rw [lineP_b (by omega), hw] at h2
      exact long_ne (hs.symm.trans h2.symm)
/-- a number behind the word -/
def okS (n : Nat) (a : Int) : Bool := (decide (a ≠ 1) || decide (n = 1 ∨ n = 8)) && (decide (a ≠ 0) || decide (n = 1)) && argF n a
theorem rl_num {s : ByteArray} {n : Nat} {a : Int} (hn : opW (wordL s) = n) (h0 : n ≠ 0) (hf : fnd 32 s < s.size) (hr : readN (restL s) = some a) :
    rl s = if okS n a = true then ((n : Int), a, 0) else (0, 0, 2) := by
  have hw := word_of hn h0
  have hs := line_cut hf
  have hd := readN_dec hr
  have hle : n ≤ 10 := by rw [← hn]; exact opW_le _
  have hl : lineP n a = s ↔ (n = 1 ∨ n = 8 ∨ 1 < a) := by
    constructor
    · intro h
      refine Classical.byContradiction fun hc => ?_
      rw [lineP_b hc, hw] at h
      exact long_ne (hs.symm.trans h.symm)
    · intro h
      rw [lineP_a h, hw, hd]; exact hs.symm
  by_cases h18 : n = 1 ∨ n = 8
  · have ha : argW n (restL s) = a := by unfold argW; rw [if_pos h18, hr]; rfl
    have hk : okS n a = okIns n a := by
      rw [okIns_arg2 h0 hle]
      unfold okS
      rw [decide_eq_true h18, Bool.or_true, Bool.true_and]
      rcases h18 with rfl | rfl
      · simp
      · have : argF ((8 : Nat) : Int) a = inB a 1 100 := by unfold argF; rw [if_neg (by omega), if_pos (by omega)]
        rw [this]
        by_cases hz : a = 0
        · subst hz; decide
        · simp [hz]
    by_cases hok : okIns n a = true
    · rw [if_pos (by rw [hk]; exact hok)]
      exact rl_good hn h0 ha ⟨hok, hl.2 (by omega)⟩
    · rw [if_neg (by rw [hk]; exact hok)]
      exact rl_bad hn h0 ha fun h => hok h.1
  · by_cases h5 : n ≤ 5
    · have ha : argW n (restL s) = a := by unfold argW; rw [if_neg h18, if_pos (by omega), hr]; rfl
      have hF : argF n a = inB a 1 100 := by unfold argF; rw [if_neg (by omega), if_pos (by omega)]
      have hO : okIns n a = inB a 1 100 := by rw [okIns_arg2 h0 hle, hF]
      by_cases hok : okS n a = true
      · rw [if_pos hok]
        unfold okS at hok
        rw [hF] at hok
        simp only [Bool.and_eq_true, Bool.or_eq_true, decide_eq_true_eq] at hok
        have hi := (inB_iff _ _ _).1 hok.2
        exact rl_good hn h0 ha ⟨by rw [hO]; exact hok.2, hl.2 (by omega)⟩
      · rw [if_neg hok]
        refine rl_bad hn h0 ha fun h => hok ?_
        have h1 := hl.1 h.2
        have h2 := h.1
        rw [hO] at h2
        unfold okS
        rw [hF, h2, Bool.and_true]
        rw [decide_eq_true (show a ≠ 1 by omega), decide_eq_true (show a ≠ 0 by omega)]
        rfl
    · have ha : argW n (restL s) = 0 := by unfold argW; rw [if_neg h18, if_neg (by omega)]
      rw [if_neg]
      · refine rl_bad hn h0 ha fun h => ?_
        have h2 := h.2
        rw [lineP_b (by omega), hw] at h2
        exact long_ne (hs.symm.trans h2.symm)
      · intro h
        unfold okS at h
        simp only [Bool.and_eq_true, Bool.or_eq_true, decide_eq_true_eq] at h
        have hF : argF n a = decide (a = 0) := by unfold argF; rw [if_neg (by omega), if_neg (by omega)]
        have h2 := h.2
        rw [hF, decide_eq_true_eq] at h2
        omega
/- the parts -/
theorem parts_one {s : ByteArray} (hf : fnd 32 s = s.size) : splitB 32 s = [wordL s] := by rw [wordL_all hf]; exact splitB_no (by omega)
theorem parts_two {s : ByteArray} (hf : fnd 32 s < s.size) (hr : fnd 32 (restL s) = (restL s).size) : splitB 32 s = [wordL s, restL s] := by
  rw [splitB_yes hf, splitB_no (s := s.extract (fnd 32 s + 1) s.size) (by unfold restL at hr; omega)]; rfl
theorem parts_many {s : ByteArray} (hf : fnd 32 s < s.size) (hr : fnd 32 (restL s) < (restL s).size) : ∃ l : List ByteArray, splitB 32 s = wordL s :: l ∧ 2 ≤ l.length := by
  rw [splitB_yes hf]
  refine ⟨_, rfl, ?_⟩
  unfold restL at hr
  rw [splitB_yes hr, List.length_cons]
  have := splitB_ne 32 ((s.extract (fnd 32 s + 1) s.size).extract (fnd 32 (s.extract (fnd 32 s + 1) s.size) + 1) (s.extract (fnd 32 s + 1) s.size).size)
  have := List.length_pos_iff.2 this
  omega
end Go.Proofs.YtiddhelabmaghaaDoor
/- Numbers read from texts, part 3 (printed by gen_rn3.py): ReadDecimal (program). -/
namespace Go.Proofs.YtiddhelabmaghaaDoor
open Go.RowKit Go.Joins

theorem tail_size1 (s : ByteArray) : (s.extract 1 s.size).size = s.size - 1 := by rw [ByteArray.size_extract]; omega
theorem dig_wrap (c : UInt8) (h : isDg c = true) : IntKind.u8.wrap ((c.toNat : Int) - 48) = ((c.toNat - 48 : Nat) : Int) ∧ c.toNat - 48 ≤ 9 := by
  unfold isDg at h
  simp only [Bool.and_eq_true, decide_eq_true_eq] at h
  rw [IntKind.wrap_u8]
  omega

set_option maxRecDepth 100000 in
set_option maxHeartbeats 3200000 in
theorem ReadDecimal_any (s : ByteArray) (w : World) (hs : s.size ≤ 1073741824) (ht : Tab w) : Calls Tryd.prog 61 #[.string s] w (RetN1 w s) := by
  have Hnone := Lib.hid (fun h => readN_none (s := s) h)
  have Hbad := Lib.hid (fun k hk h => readN_bad (s := s) k hk h)
  have Hval := Lib.hid (fun h1 h2 => readN_val (s := s) h1 h2)
  have Hbd := Lib.hid (fun h1 h2 => valN_bd (s := s) h1 h2)
  have HD := Lib.hid (fun n wx h0 h1 hx => Decimal_any n wx h0 h1 hx)
  have Ht := Lib.hid ht
  have hb0 := Below.refl w.heap.size w
  have HV := Lib.hid (show valN s = if (bodyN s).size < s.size then -(numVN (bodyN s).data.toList : Int) else numVN (bodyN s).data.toList from rfl)
  clear ht
  by_cases hh : s.data.toList.head? = some 45
  · obtain ⟨h0, he⟩ := head_sizeN hh
    have HT := Lib.hid (show bodyN s = s.extract 1 s.size by unfold bodyN; rw [if_pos hh])
    have hb : ((s[0].toNat : Int) == 45) = true := by rw [he]; rfl
    have hz0 := tail_size1 s
    have hpos : (0 : Int) < (s.size : Int) := by omega
    obtain ⟨T, hT⟩ : ∃ T, s.extract 1 s.size = T := ⟨_, rfl⟩
    rw [HT.out, hT] at Hbad Hbd Hval Hnone HV
    rw [hT] at hz0
    have hlt : T.size < s.size := by omega
    rw [if_pos hlt] at HV
    have hlt' : (T.size : Int) < (s.size : Int) := by omega
    clear HT he hh hz0
    by_cases t0 : T.size = 0
    · have hn := Hnone.out (.inl t0)
      have t0' : ((T.size : Int) == 0) = true := by rw [t0]; rfl
      go_enter Tryd.func61, Tryd.ntmps61
      go_wp2_with fail
      go_ret2
      unfold RetN1; rw [hn]; exact ⟨rfl, hb0⟩
    · have t0' : ((T.size : Int) == 0) = false := by rw [beq_eq_false_iff_ne]; omega
      by_cases t1 : 18 < T.size
      · have hn := Hnone.out (.inr t1)
        have t1' : (18 : Int) < (T.size : Int) := by omega
        go_enter Tryd.func61, Tryd.ntmps61
        go_wp2_with fail
        go_ret2
        unfold RetN1; rw [hn]; exact ⟨rfl, hb0⟩
      · have t1' : ¬ (18 : Int) < (T.size : Int) := by omega
        have hno : ¬(T.size = 0 ∨ 18 < T.size) := by omega
        have Hval2 := Lib.hid (Hval.out hno)
        have Hbd2 := Lib.hid (Hbd.out hno)
        clear Hval Hbd Hnone
        go_enter Tryd.func61, Tryd.ntmps61
        go_wp2_with fail
        go_loop [5, 28] (fun n i => ∃ k : Nat, k ≤ T.size ∧ i = .int .i64 (k : Int) ∧ n = .int .i64 (numVN (T.data.toList.take k) : Int) ∧ ∀ c ∈ T.data.toList.take k, isDg c = true) (fun _ i => T.size - (intOf i).toNat)
        case atStart => exact ⟨0, Nat.zero_le _, rfl, rfl, by simp⟩
        case round =>
          obtain ⟨k, hk, rfl, rfl, hall⟩ := hrel
          have Hall := Lib.hid hall
          by_cases hlk : k < T.size
          · have hlk' : (k : Int) < (T.size : Int) := by omega
            have HDg := Lib.hid (fun wx => isDigitN_any (T)[k] wx)
            have HK := Lib.hid (take_at T k hlk)
            have hN : numVN (T.data.toList.take k) < 100000000000000000 := by
              have h := numVN_lt _ hall
              have h3 : (10 : Nat) ^ (T.data.toList.take k).length ≤ 10 ^ 17 := Nat.pow_le_pow_right (by omega) (by rw [List.length_take]; omega)
              have h4 : (10 : Nat) ^ 17 = 100000000000000000 := by decide
              omega
            have Hsn := Lib.hid (fun (h : isDg (T)[k] = true) => (show ∀ c ∈ T.data.toList.take (k + 1), isDg c = true from fun c hc => by
              rw [List.take_succ_eq_append_getElem (by simpa using hlk)] at hc
              rcases List.mem_append.1 hc with h1 | h1
              · exact Hall.out c h1
              · rw [List.mem_singleton.1 h1]; exact h))
            generalize numVN (T.data.toList.take k) = N at *
            clear hall
            cases hdg : isDg (T)[k] with
            | false =>
              have hn := Hbad.out k hlk hdg
              rw [hdg] at HDg
              clear hdg
              go_wp2_with fail
              refine (HDg.out _).mono ?_; rintro e w1 ⟨rfl, rfl⟩
              go_wp2_with fail
              go_ret2
              unfold RetN1; rw [hn]; exact ⟨rfl, hb0⟩
            | true =>
              obtain ⟨hw, h9⟩ := dig_wrap (T)[k] hdg
              have Hs2 := Lib.hid (Hsn.out hdg)
              rw [hdg] at HDg
              clear hdg Hsn
              generalize (T)[k].toNat - 48 = d at *
              go_wp2_with fail
              refine (HDg.out _).mono ?_; rintro e w1 ⟨rfl, rfl⟩
              go_wp2_with fail
              go_round
              case rel => exact ⟨k + 1, by omega, by go_num, by rw [HK.out]; go_num, Hs2.out⟩
              case measure => simp [intOf]; omega
          · have hd : T.data.toList.take k = T.data.toList := List.take_of_length_le (by simp; omega)
            rw [hd] at hall
            rw [hd]
            have hM := Hbd2.out hall
            have HR := Lib.hid (Hval2.out hall)
            generalize numVN T.data.toList = M at *
            rw [HV.out] at HR
            have hlk' : (T.size : Int) ≤ (k : Int) := by omega
            have HDx := Lib.hid (HD.out (-(M : Int)) w (by omega) (by omega) Ht.out)
            have hwn : IntKind.i64.wrap (-(M : Int)) = -(M : Int) := IntWalk.i64_in _ (by omega)
            clear hall hd Hall
            by_cases hq : decS (-(M : Int)) = s
            · have HQ := Lib.hid (show readN s = some (-(M : Int)) by rw [HR.out, if_pos hq])
              rw [hq] at HDx
              clear hq HR
              go_wp2_with fail
              refine HDx.out.mono ?_; rintro e w5 ⟨rfl, hb5⟩
              go_wp2_with fail
              go_ret2
              unfold RetN1; rw [HQ.out]; exact ⟨rfl, hb5⟩
            · have HQ := Lib.hid (show readN s = none by rw [HR.out, if_neg hq])
              have hbn : ((decS (-(M : Int))).toList != s.toList) = true := bne_iff_ne.2 fun e => hq (ba_inj e)
              have hbq : ((decS (-(M : Int))).toList == s.toList) = false := beq_eq_false_iff_ne.2 fun e => hq (ba_inj e)
              generalize decS (-(M : Int)) = Y at *
              clear hq HR
              go_wp2_with fail
              refine HDx.out.mono ?_; rintro e w5 ⟨rfl, hb5⟩
              go_wp2_with fail
              go_ret2
              unfold RetN1; rw [HQ.out]; exact ⟨rfl, hb5⟩
  · have HT := Lib.hid (show bodyN s = s by unfold bodyN; rw [if_neg hh])
    rw [HT.out] at Hbad Hbd Hval Hnone HV
    rw [if_neg (Nat.lt_irrefl _)] at HV
    clear HT
    by_cases t0 : s.size = 0
    · have hn := Hnone.out (.inl t0)
      have t0' : ((s.size : Int) == 0) = true := by rw [t0]; rfl
      have hp0 : ¬ (0 : Int) < (s.size : Int) := by omega
      go_enter Tryd.func61, Tryd.ntmps61
      go_wp2_with fail
      go_ret2
      unfold RetN1; rw [hn]; exact ⟨rfl, hb0⟩
    · have t0' : ((s.size : Int) == 0) = false := by rw [beq_eq_false_iff_ne]; omega
      have h0 : 0 < s.size := by omega
      have hpos : (0 : Int) < (s.size : Int) := by omega
      have hb : ((s[0].toNat : Int) == 45) = false := by
        rw [beq_eq_false_iff_ne]; intro h
        exact head_not hh h0 (UInt8.toNat_inj.1 (by have : (45 : UInt8).toNat = 45 := rfl
                                                    omega))
      by_cases t1 : 18 < s.size
      · have hn := Hnone.out (.inr t1)
        have t1' : (18 : Int) < (s.size : Int) := by omega
        go_enter Tryd.func61, Tryd.ntmps61
        go_wp2_with fail
        go_ret2
        unfold RetN1; rw [hn]; exact ⟨rfl, hb0⟩
      · have t1' : ¬ (18 : Int) < (s.size : Int) := by omega
        have hno : ¬(s.size = 0 ∨ 18 < s.size) := by omega
        have Hval2 := Lib.hid (Hval.out hno)
        have Hbd2 := Lib.hid (Hbd.out hno)
        clear Hval Hbd Hnone
        go_enter Tryd.func61, Tryd.ntmps61
        go_wp2_with fail
        go_loop [5, 28] (fun n i => ∃ k : Nat, k ≤ s.size ∧ i = .int .i64 (k : Int) ∧ n = .int .i64 (numVN (s.data.toList.take k) : Int) ∧ ∀ c ∈ s.data.toList.take k, isDg c = true) (fun _ i => s.size - (intOf i).toNat)
        case atStart => exact ⟨0, Nat.zero_le _, rfl, rfl, by simp⟩
        case round =>
          obtain ⟨k, hk, rfl, rfl, hall⟩ := hrel
          have Hall := Lib.hid hall
          by_cases hlk : k < s.size
          · have hlk' : (k : Int) < (s.size : Int) := by omega
            have HDg := Lib.hid (fun wx => isDigitN_any (s)[k] wx)
            have HK := Lib.hid (take_at s k hlk)
            have hN : numVN (s.data.toList.take k) < 100000000000000000 := by
              have h := numVN_lt _ hall
              have h3 : (10 : Nat) ^ (s.data.toList.take k).length ≤ 10 ^ 17 := Nat.pow_le_pow_right (by omega) (by rw [List.length_take]; omega)
              have h4 : (10 : Nat) ^ 17 = 100000000000000000 := by decide
              omega
            have Hsn := Lib.hid (fun (h : isDg (s)[k] = true) => (show ∀ c ∈ s.data.toList.take (k + 1), isDg c = true from fun c hc => by
              rw [List.take_succ_eq_append_getElem (by simpa using hlk)] at hc
              rcases List.mem_append.1 hc with h1 | h1
              · exact Hall.out c h1
              · rw [List.mem_singleton.1 h1]; exact h))
            generalize numVN (s.data.toList.take k) = N at *
            clear hall
            cases hdg : isDg (s)[k] with
            | false =>
              have hn := Hbad.out k hlk hdg
              rw [hdg] at HDg
              clear hdg
              go_wp2_with fail
              refine (HDg.out _).mono ?_; rintro e w1 ⟨rfl, rfl⟩
              go_wp2_with fail
              go_ret2
              unfold RetN1; rw [hn]; exact ⟨rfl, hb0⟩
            | true =>
              obtain ⟨hw, h9⟩ := dig_wrap (s)[k] hdg
              have Hs2 := Lib.hid (Hsn.out hdg)
              rw [hdg] at HDg
              clear hdg Hsn
              generalize (s)[k].toNat - 48 = d at *
              go_wp2_with fail
              refine (HDg.out _).mono ?_; rintro e w1 ⟨rfl, rfl⟩
              go_wp2_with fail
              go_round
              case rel => exact ⟨k + 1, by omega, by go_num, by rw [HK.out]; go_num, Hs2.out⟩
              case measure => simp [intOf]; omega
          · have hd : s.data.toList.take k = s.data.toList := List.take_of_length_le (by simp; omega)
            rw [hd] at hall
            rw [hd]
            have hM := Hbd2.out hall
            have HR := Lib.hid (Hval2.out hall)
            generalize numVN s.data.toList = M at *
            rw [HV.out] at HR
            have hlk' : (s.size : Int) ≤ (k : Int) := by omega
            have HDx := Lib.hid (HD.out ((M : Int)) w (by omega) (by omega) Ht.out)
            have hwn : IntKind.i64.wrap ((M : Int)) = (M : Int) := IntWalk.i64_in _ (by omega)
            clear hall hd Hall
            by_cases hq : decS ((M : Int)) = s
            · have HQ := Lib.hid (show readN s = some ((M : Int)) by rw [HR.out, if_pos hq])
              rw [hq] at HDx
              clear hq HR
              go_wp2_with fail
              refine HDx.out.mono ?_; rintro e w5 ⟨rfl, hb5⟩
              go_wp2_with fail
              go_ret2
              unfold RetN1; rw [HQ.out]; exact ⟨rfl, hb5⟩
            · have HQ := Lib.hid (show readN s = none by rw [HR.out, if_neg hq])
              have hbn : ((decS ((M : Int))).toList != s.toList) = true := bne_iff_ne.2 fun e => hq (ba_inj e)
              have hbq : ((decS ((M : Int))).toList == s.toList) = false := beq_eq_false_iff_ne.2 fun e => hq (ba_inj e)
              generalize decS ((M : Int)) = Y at *
              clear hq HR
              go_wp2_with fail
              refine HDx.out.mono ?_; rintro e w5 ⟨rfl, hb5⟩
              go_wp2_with fail
              go_ret2
              unfold RetN1; rw [HQ.out]; exact ⟨rfl, hb5⟩
end Go.Proofs.YtiddhelabmaghaaDoor
