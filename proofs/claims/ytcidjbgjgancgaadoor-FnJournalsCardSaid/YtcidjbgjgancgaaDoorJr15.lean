/- Journals, part 15: the law FnJournals. -/
import Derived.Test.YtcidjbgjgancgaaDoorJr13
import Derived.Test.YtcidjbgjgancgaaDoorJr14
namespace Go.Proofs.YtcidjbgjgancgaaDoor
open Go.RowKit Go.Joins

set_option maxHeartbeats 400000 in
theorem cutI (s : ByteArray) (n : Nat) (w : World) (hs : s.size ≤ 4000) (hn : n ≤ s.size) :
    Calls Tryd.prog 30 #[.string s, .int .i64 n] w fun e w' => e = .returned (.tuple #[.string (s.extract 0 n), .int .i64 0]) ∧ w = w' := by
  have HB := Lib.hid (fun w => between_any (n : Int) 0 (s.size : Int) w)
  rw [show inB (n : Int) 0 (s.size : Int) = true by simp [inB]; omega] at HB
  go_enter Tryd.func30, Tryd.ntmps30
  go_wp2_with fail
  refine (HB.out _).mono ?_; rintro e w1 ⟨rfl, rfl⟩
  go_wp2_with fail
  go_ret2
  exact ⟨rfl, rfl⟩

theorem empty_no : noC 10 (⟨#[]⟩ : ByteArray) := by unfold noC; decide
theorem made_facts (zs : List ByteArray) (hall : okAll zs = true) (hl : zs.length ≤ 9) :
    (outJ 0 0 zs).size ≤ 927 ∧ makR zs = (outJ 0 0 zs, 0) ∧ readJ (outJ 0 0 zs) = ⟨(outJ 0 0 zs).size, sumJ 0 0 zs, zs⟩ ∧ codeJ (outJ 0 0 zs) = 0 ∧ notesV (outJ 0 0 zs) = zs ∧ chkA (outJ 0 0 zs) = (outJ 0 0 zs).size ∧ chkC (outJ 0 0 zs) = 0 := by
  have h1 := out_size zs 0 0 hall (by omega)
  have h2 := readJ_made zs ⟨#[]⟩ hall empty_no
  rw [app_nil] at h2
  have hno : ¬ 4000 < (outJ 0 0 zs).size := by omega
  have h3 : codeJ (outJ 0 0 zs) = 0 := by
    unfold codeJ
    rw [if_neg hno, h2, if_neg (Nat.lt_irrefl _)]
  refine ⟨by omega, ?_, h2, h3, ?_, ?_, ?_⟩
  · rw [makR_ok zs hall]; unfold mkJ; rw [if_neg hno]
  · unfold notesV; rw [if_pos h3, h2]
  · unfold chkA; rw [if_neg hno, h2]
  · unfold chkC; rw [if_neg hno]
theorem okAll_take {zs : List ByteArray} (h : okAll zs = true) (k : Nat) : okAll (zs.take k) = true := by
  unfold okAll at *
  rw [List.all_eq_true] at *
  exact fun z hz => h z (List.mem_of_mem_take hz)
theorem app_facts (zs : List ByteArray) (hall : okAll zs = true) (hl : zs.length ≤ 9) (k : Nat) (hk : k < zs.length) :
    appR (outJ 0 0 (zs.take k)) zs[k] = (outJ 0 0 (zs.take (k + 1)), 0) := by
  have hlk : (zs.take k).length = k := by rw [List.length_take]; omega
  obtain ⟨h1, _, h3, h4, _⟩ := made_facts (zs.take k) (okAll_take hall k) (by omega)
  obtain ⟨g1, _⟩ := made_facts (zs.take (k + 1)) (okAll_take hall (k + 1)) (by rw [List.length_take]; omega)
  have hz : noteOk zs[k].data.toList = true := List.all_eq_true.1 hall _ (List.getElem_mem hk)
  have hs := out_snoc (zs.take k) 0 0 zs[k]
  rw [← List.take_succ_eq_append_getElem hk, Nat.zero_add] at hs
  have hn : nextL (outJ 0 0 (zs.take k)) zs[k] = lineS (((zs.take k).length : Int) + 1) (noteSum (sumJ 0 0 (zs.take k)) (((zs.take k).length : Int) + 1) zs[k].data.toList) zs[k] := by
    unfold nextL; rw [h3]
  rw [← hn] at hs
  unfold appR
  rw [if_pos h4, if_pos hz, if_neg, hs]
  rw [← ByteArray.size_append, ← hs]
  omega
theorem cut_facts (zs : List ByteArray) (hall : okAll zs = true) (hl : zs.length ≤ 9) (k : Nat) (hk : k ≤ (outJ 0 0 zs).size) :
    ∃ m Wh, m ≤ zs.length ∧ recS ((outJ 0 0 zs).extract 0 k) = Wh ∧ recN ((outJ 0 0 zs).extract 0 k) = (k : Int) - Wh.size ∧ chkC ((outJ 0 0 zs).extract 0 k) = 0 ∧ Wh.size ≤ k ∧ (outJ 0 0 zs).extract 0 Wh.size = Wh ∧
      codeJ Wh = 0 ∧ (notesV Wh).length = m ∧ ((outJ 0 0 zs).data.toList.take k).count 10 = m := by
  obtain ⟨h1, _⟩ := made_facts zs hall hl
  obtain ⟨m, t, hm, he, ht⟩ := pre_cut zs 0 0 k hall hk
  have hall' := okAll_take hall m
  have hlm : (zs.take m).length = m := by rw [List.length_take]; omega
  obtain ⟨g1, _, _, g4, g5, _⟩ := made_facts (zs.take m) hall' (by omega)
  have hr := readJ_made (zs.take m) t hall' ht
  rw [← he] at hr
  have hsz : ((outJ 0 0 zs).extract 0 k).size = k := by simp; omega
  have hle : (outJ 0 0 (zs.take m)).size ≤ k := by rw [← hsz, he, ByteArray.size_append]; omega
  have hno : ¬ 4000 < ((outJ 0 0 zs).extract 0 k).size := by rw [hsz]; omega
  refine ⟨m, outJ 0 0 (zs.take m), hm, ?_, ?_, ?_, hle, ?_, g4, by rw [g5, hlm], ?_⟩
  · unfold recS; rw [if_neg hno, hr]; show ((outJ 0 0 zs).extract 0 k).extract 0 (outJ 0 0 (zs.take m)).size = _; rw [he, ext_left]
  · unfold recN; rw [if_neg hno, hr, hsz]
  · unfold chkC; rw [if_neg hno]
  · have := ext_left (outJ 0 0 (zs.take m)) t
    rw [← he, ByteArray.extract_extract] at this
    rw [show min (0 + (outJ 0 0 (zs.take m)).size) k = (outJ 0 0 (zs.take m)).size by omega] at this
    exact this
  · have hd : (outJ 0 0 zs).data.toList.take k = ((outJ 0 0 zs).extract 0 k).data.toList := by simp
    rw [hd, he, app_data, List.count_append, count_out _ _ _ hall', count_no ht, hlm]
    rfl
theorem count_step (s : ByteArray) (i : Nat) (h : i < s.size) : (s.data.toList.take (i + 1)).count 10 = (s.data.toList.take i).count 10 + (if s[i] = 10 then 1 else 0) := by
  rw [take_snoc s i h, List.count_append]
  congr 1
  by_cases hc : s[i] = 10
  · simp [hc]
  · simp [hc]

set_option maxRecDepth 100000 in
set_option maxHeartbeats 4000000 in
theorem walkFnJournals {W : World} (v1 : Value) (bs1 : List UInt8) (h1 : Rd W W.heap.size v1 bs1.length 1 (bs1.map byV)) (_hl1 : bs1.length ≤ maxLen) (v2 : Value) (bs2 : List UInt8) (h2 : Rd W W.heap.size v2 bs2.length 1 (bs2.map byV)) (_hl2 : bs2.length ≤ maxLen) (ht : Tab W) :
    Calls Tryd.prog 9 #[v1, v2] W fun e w' => e = .returned (.bool true) ∧ Below W.heap.size W w' := by
  have hb0 := Below.refl W.heap.size W
  have H1 := Lib.hid h1; clear h1
  have H2 := Lib.hid h2; clear h2
  have Ht := Lib.hid ht; clear ht
  have HL := Lib.hid (a2Long_any _ _ _ _ v1 v2 _ _ W H1.out H2.out)
  generalize (decide (3000 < bs1.length) || decide (3000 < bs2.length)) = lg at *
  cases lg with
  | true =>
    go_enter Tryd.func9, Tryd.ntmps9
    go_wp2_with fail
    refine HL.out.mono ?_; rintro e w0 ⟨rfl, rfl⟩
    go_wp2_with fail
    go_ret
    exact ⟨rfl, hb0⟩
  | false =>
    go_enter Tryd.func9, Tryd.ntmps9
    go_wp2_with fail
    refine HL.out.mono ?_; rintro e w0 ⟨rfl, rfl⟩
    go_wp2_with fail
    refine (A2Notes_any W.heap.size v1 bs1 _ H1.out (Nat.le_refl _)).mono ?_; rintro e w1 ⟨n1, zs, rfl, hall, hlen, ho1, hb1⟩
    obtain ⟨f1, f2, _, f4, f5, f6, f7⟩ := made_facts zs hall hlen
    have HA := Lib.hid (fun k hk => app_facts zs hall hlen k hk)
    have HC := Lib.hid (fun k hk => cut_facts zs hall hlen k hk)
    have hsm := okAll_small zs hall
    have HJ := Lib.hid (fun B v w h hB ht => JofI B v zs w h hB (by omega) (fun z hz => Nat.le_trans (hsm z hz) (by omega)) ht)
    have HN := Lib.hid (fun w ht => NotesI (outJ 0 0 zs) w (by omega) ht)
    have HK := Lib.hid (fun w ht => CheckI (outJ 0 0 zs) w (by omega) ht)
    have HP := Lib.hid (fun (g z : ByteArray) w (hg : g.size ≤ 1048576) (hz : z.size ≤ 1048576) ht => AppI g z w hg hz ht)
    have Hsm := Lib.hid hsm
    unfold RetNotes at HN
    unfold RetApp at HP
    rw [f2] at HJ
    rw [f4, f5] at HN
    rw [f6, f7] at HK
    have Hfs := Lib.hid (fun k => (made_facts (zs.take k) (okAll_take hall k) (by rw [List.length_take]; omega)).1)
    have Htk := Lib.hid (show zs.take zs.length = zs from List.take_length)
    clear f2 f4 f5 f6 f7 hsm hall
    generalize hS : outJ 0 0 zs = S at *
    have HS := Lib.hid hS; clear hS
    have Ho1 := Lib.hid ho1; clear ho1
    go_wp2_with fail
    refine (HJ.out _ n1 _ (Rd.of_own Ho1.out) (Nat.le_refl _) (Ht.out.below hb1)).mono ?_; rintro e w2 ⟨rfl, hb2⟩
    have hb02 := hb1.trans (hb2.mono hb1.size)
    have Ho2 := Lib.hid (own_below Ho1.out hb2)
    clear hb1 hb2
    go_wp2_with fail
    refine (HN.out _ (Ht.out.below hb02)).mono ?_; rintro e w3 ⟨n3, rfl, ho3, hb3⟩
    have hb03 := hb02.trans (hb3.mono hb02.size)
    have Ho23 := Lib.hid (own_below Ho2.out hb3)
    have Ho3 := Lib.hid ho3; clear ho3
    clear hb02 hb3
    go_wp2_with fail
    refine (HK.out _ (Ht.out.below hb03)).mono ?_; rintro e w4 ⟨rfl, hb4⟩
    have hb04 := hb03.trans (hb4.mono hb03.size)
    have R1 := Lib.hid (Rd.of_own (own_below Ho23.out hb4))
    have R3 := Lib.hid (Rd.of_own (own_below Ho3.out hb4))
    obtain ⟨_, A1, c1, rfl, _⟩ := R1.out
    obtain ⟨_, A3, c3, rfl, _⟩ := R3.out
    clear hb03 hb4
    go_wp2_with fail
    go_loopw [12, 13] (fun gr i wr => ∃ k : Nat, k ≤ zs.length ∧ gr = .string (outJ 0 0 (zs.take k)) ∧ i = .int .i64 k ∧ Below w4.heap.size w4 wr) (fun _ i _ => zs.length - (intOf i).toNat)
    case atStart => exact ⟨0, Nat.zero_le _, rfl, rfl, Below.refl _ _⟩
    case round =>
      obtain ⟨k, hk, rfl, rfl, hbl⟩ := hrel
      by_cases hlt : k < zs.length
      · obtain ⟨_, b1, o1, hA1, hx1⟩ := rd_at (R1.out.below hbl) k hlt
        subst hA1
        have hz := Hsm.out zs[k] (List.getElem_mem _)
        have hg := Hfs.out k
        have Hap := Lib.hid (HA.out k hlt)
        have hR1 := R1.out
        have hR3 := R3.out
        have Hbb := Lib.hid (fun (w5 : World) (hb : Below w4.heap.size w4 w5) => (rd_at (hR1.below hb) k hlt).2)
        have Hcc := Lib.hid (fun (w5 : World) (hb : Below w4.heap.size w4 w5) => (rd_at (hR3.below hb) k hlt).2)
        clear hR1 hR3
        generalize zs[k] = z at *
        generalize outJ 0 0 (zs.take k) = G at *
        have HPP := Lib.hid (fun w ht => HP.out G z w (by omega) (by omega) ht)
        rw [Hap.out] at HPP
        generalize hG2 : outJ 0 0 (zs.take (k + 1)) = G2 at *
        have HG2 := Lib.hid hG2; clear hG2
        have hlt' : (k : Int) < (zs.length : Int) := by omega
        go_wp2_with fail
        refine (HPP.out _ (Ht.out.below (hb04.trans (hbl.mono hb04.size)))).mono ?_; rintro e w5 ⟨rfl, hb5⟩
        have hbl5 := hbl.trans (hb5.mono hbl.size)
        obtain ⟨b3, o3, hA3, hx3⟩ := Hcc.out _ hbl5
        subst hA3
        obtain ⟨b1', o1', hA1', hx1'⟩ := Hbb.out _ hbl5
        injection hA1' with hA1'
        injection hA1' with q1 q2 _
        subst q1 q2
        clear hx1 hb5
        go_wp2_with fail
        go_quiet (fail)
        go_wp2_with fail
        go_roundw
        case rel => exact ⟨k + 1, by omega, by rw [HG2.out], by go_num, below_drewN hbl5 _⟩
        case measure => simp [intOf]; omega
      · have hk' : k = zs.length := by omega
        subst hk'
        rw [Htk.out, HS.out]
        have hbw := hb04.trans (hbl.mono hb04.size)
        have H2w := Lib.hid (H2.out.below hbw)
        clear hk hlt hbl hb04
        go_wp2_with fail
        refine (a2At_any _ v2 bs2 256 0 _ H2w.out (by omega)).mono ?_; rintro e w6 ⟨⟨x, rfl, hx0, hx1, _⟩, rfl⟩
        have hx2 := hx1 (by omega)
        clear hx1
        go_wp2_with fail
        refine (a2At_any _ v2 bs2 256 1 _ H2w.out (by omega)).mono ?_; rintro e w6 ⟨⟨y, rfl, hy0, hy1, _⟩, rfl⟩
        have hy2 := hy1 (by omega)
        clear hy1
        obtain ⟨k, hk⟩ : ∃ k : Nat, (x * 256 + y) % ((S.size : Int) + 1) = k := ⟨_, (Int.toNat_of_nonneg (Int.emod_nonneg _ (by omega))).symm⟩
        have hkS : k ≤ S.size := by
          have := Int.emod_lt_of_pos (x * 256 + y) (by omega : (0 : Int) < (S.size : Int) + 1)
          omega
        obtain ⟨m, Wh, hm, c1, c2, c3, c4, c5, c6, c7, c8⟩ := HC.out k hkS
        have HX := Lib.hid (fun v => cutI S k v (by omega) hkS)
        have hsz : (S.extract 0 k).size = k := by simp; omega
        have HR := Lib.hid (fun v ht => RecI (S.extract 0 k) v (by omega) ht)
        rw [c1, c2, c3] at HR
        have HN2 := Lib.hid (fun v => NotesS Wh v (by omega))
        unfold RetNotes at HN2
        rw [c6] at HN2
        generalize notesV Wh = nw at *
        generalize S.extract 0 k = Lf at *
        have C8 := Lib.hid c8
        clear c1 c2 c3 c6 c8 HC HA HJ HN HK HP HL R1 R3 Ho1 Ho2 Ho23 Ho3
        go_wp2_with fail
        refine (HX.out _).mono ?_; rintro e w7 ⟨rfl, rfl⟩
        go_wp2_with fail
        refine (HR.out _ (Ht.out.below hbw)).mono ?_; rintro e w7 ⟨rfl, hb7⟩
        have hbw7 := hbw.trans (hb7.mono hbw.size)
        clear hb7 hbw
        go_wp2_with fail
        refine (HN2.out _).mono ?_; rintro e w8 ⟨v8, rfl, ho8, hb8⟩
        have hbw8 := hbw7.trans (hb8.mono hbw7.size)
        obtain ⟨_, A8, c8, rfl, _⟩ := Rd.of_own ho8
        rw [c7]
        clear hb8 hbw7 ho8 hk
        go_wp2_with fail
        go_loop [24, 25] (fun l i => ∃ j : Nat, j ≤ k ∧ i = .int .i64 j ∧ l = .int .i64 (((S.data.toList.take j).count 10 : Nat) : Int)) (fun _ i => k - (intOf i).toNat)
        case atStart => exact ⟨0, Nat.zero_le _, rfl, rfl⟩
        case round =>
          obtain ⟨j, hj, rfl, rfl⟩ := hrel
          have hcn : (S.data.toList.take j).count 10 ≤ 927 := by
            have := List.count_le_length (a := (10 : UInt8)) (l := S.data.toList.take j)
            rw [List.length_take] at this
            omega
          by_cases hjk : j < k
          · have hjS : j < S.size := by omega
            have hst := count_step S j hjS
            by_cases hc : S[j] = 10
            · rw [if_pos hc] at hst
              have hcb : ((S[j].toNat : Int) == 10) = true := by rw [hc]; rfl
              have Hst := Lib.hid hst
              clear hst hc
              generalize (S.data.toList.take j).count 10 = q at *
              go_wp2_with fail
              go_round
              case rel => exact ⟨j + 1, by omega, by go_num, by rw [Hst.out]; go_num⟩
              case measure => simp [intOf]; omega
            · rw [if_neg hc] at hst
              have hcb : ((S[j].toNat : Int) == 10) = false := by
                rw [beq_eq_false_iff_ne]; intro h; apply hc; apply UInt8.toNat_inj.1; have : S[j].toNat = 10 := by omega
                rw [this]; rfl
              have Hst := Lib.hid hst
              clear hst hc
              generalize (S.data.toList.take j).count 10 = q at *
              go_wp2_with fail
              go_round
              case rel => exact ⟨j + 1, by omega, by go_num, by rw [Hst.out]; rfl⟩
              case measure => simp [intOf]; omega
          · have hjk' : j = k := by omega
            subst hjk'
            rw [C8.out]
            go_wp2_with fail
            go_ret
            exact ⟨by simp, hbw8⟩
end Go.Proofs.YtcidjbgjgancgaaDoor
