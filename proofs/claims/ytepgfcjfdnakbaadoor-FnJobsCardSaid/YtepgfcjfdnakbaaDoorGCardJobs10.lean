/- Merged texts: Jc11, Pc29, Pc30, Pc31, Jb24, Pc32, Pc33, Jb25. -/
import Derived.Test.YtepgfcjfdnakbaaDoorGCardJobs9
import Derived.Test.YtepgfcjfdnakbaaDoorGCardJobs6
import Derived.Test.YtepgfcjfdnakbaaDoorGCardJobs3
/- Jobs, texts and laws, part 11: ReadJobs of the reference (gen_jc11.py). -/
namespace Go.Proofs.YtepgfcjfdnakbaaDoor
open Go.RowKit Go.Joins Go.Maps

theorem OwJ.snoc2 {W w w' : World} {v v' d : Value} {ys : List (Jb × Value)} {nm : ByteArray} {dd cc : Int} {l : List Int} (h : OwJ W w v ys) (hd : w.ownsRow W.heap.size 2 1 d l.length (intV l))
    (hr : w'.ownsRow W.heap.size 62 4 v' (ys.length + 1) (ys.flatMap cellsJ ++ (#[Value.string nm, .int .i64 dd, .int .i64 cc, d] : Array Value).toList)) (hg : w.grownBy w' v.ownBlock) :
    OwJ W w' v' (ys ++ [(⟨nm, dd, cc, l⟩, d)]) := by
  have e : ys.flatMap cellsJ ++ (#[Value.string nm, .int .i64 dd, .int .i64 cc, d] : Array Value).toList = (ys ++ [((⟨nm, dd, cc, l⟩ : Jb), d)]).flatMap cellsJ := by
    rw [List.flatMap_append]; simp [cellsJ]
  rw [e] at hr
  have hlen : (ys ++ [((⟨nm, dd, cc, l⟩ : Jb), d)]).length = ys.length + 1 := by simp
  refine ⟨by rw [hlen]; exact hr, fun y hy => ?_, below_apd h.bel h.row hg (Nat.le_refl _) h.bel.size⟩
  rcases List.mem_append.1 hy with hy | hy
  · exact (h.nds y hy).kept hg (apart_p (h.nds y hy) h.row (by decide))
  · rw [List.mem_singleton.1 hy]
    exact hd.kept hg (apart_p hd h.row (by decide))
set_option maxRecDepth 100000 in
set_option maxHeartbeats 6400000 in
theorem ReadJS_any (s : ByteArray) (w : World) (hs : s.size ≤ 100000) : Calls Tryd.prog 44 #[.string s] w (RetRj w (rdJobs s)) := by
  have HSp := Lib.hid (fun wx => l01Split_any s 10 wx (by omega))
  unfold RetPs at HSp
  have hlen := splitB_len 10 s.size s (Nat.le_refl _)
  obtain ⟨x, hx, hcs⟩ := lines_last (s := s)
  have hmem := splitB_mem 10 s.size s (Nat.le_refl _)
  have hpos : 0 < (splitB 10 s).length := List.length_pos_iff.2 (splitB_ne 10 s)
  have Hcs := Lib.hid hcs
  generalize hL : splitB 10 s = L at *
  have hxl : L[L.length - 1]'(by omega) = x := by
    rw [List.getLast?_eq_getElem?, List.getElem?_eq_getElem (by omega)] at hx
    exact Option.some.inj hx
  clear hL hx hcs
  obtain ⟨n, hn⟩ : ∃ n, L.length = n + 1 := ⟨L.length - 1, by omega⟩
  have Hn := Lib.hid hn
  go_enter Tryd.func44, Tryd.ntmps44
  go_wp2_with fail
  refine (HSp.out _).mono ?_; rintro e w5 ⟨v5, rfl, ho5, hb5⟩
  obtain ⟨g5, c5, rfl, _, _, hlt5, hc5⟩ := own_strs ho5 hpos
  have hlast := hc5 (L.length - 1) (by omega)
  rw [hxl] at hlast
  have HC5 := Lib.hid hc5
  have Hmem := Lib.hid hmem
  simp only [hn, Nat.add_sub_cancel] at hlast
  rw [hn]
  have Hlt5 := Lib.hid hlt5
  have HB5 := Lib.hid hb5
  have HO0 := Lib.hid (OwJ.none w5)
  have hlast2 := (HO0.out.bel.cell (p := ⟨g5, n, none⟩) hlt5).trans hlast
  have hn6 : n ≤ 100000 := by omega
  clear ho5 hb5 HSp hxl hlast hc5 hmem hlt5 hn hpos hlen
  rcases Hcs.out with ⟨hx0, hl⟩ | ⟨hx0, hl⟩
  · have Hr := Lib.hid (rdJobs_none hl)
    have hne := ne_someP hx0
    clear Hcs hl
    go_wp2_with fail
    go_ret2
    exact RetRj.none Hr.out (HB5.out.trans (HO0.out.bel.mono HB5.out.size))
  · have hne := ne_noneP hx0
    by_cases h41 : 30 < n
    · have Hr := Lib.hid (rdJobs_long hl (by rw [List.length_dropLast, Hn.out]; omega))
      have h41' : (31 : Int) < (n : Int) + 1 := by omega
      clear Hcs hl
      go_wp2_with fail
      go_ret2
      exact RetRj.none Hr.out (HB5.out.trans (HO0.out.bel.mono HB5.out.size))
    · have h41' : ¬ (31 : Int) < (n : Int) + 1 := by omega
      have Hl := Lib.hid hl
      have hdl : L.dropLast.length = n := by rw [List.length_dropLast, Hn.out]; omega
      have Hget := Lib.hid (fun k (h : k < L.dropLast.length) => drop_get h)
      have HM := Lib.hid (show ∀ z ∈ L.dropLast, z.size ≤ 100000 from fun z hz => Nat.le_trans (Hmem.out z (List.dropLast_subset _ hz)) (by omega))
      have HC := Lib.hid (show ∀ (k : Nat) (h : k < L.dropLast.length), w5.cell? ⟨g5, k, none⟩ = some (.string L.dropLast[k]) from fun k h => by rw [Hget.out k h]; exact HC5.out k _)
      clear Hcs hl HC5 Hmem Hget Hn
      generalize L.dropLast = l at *
      have Hdl := Lib.hid hdl; clear hdl
      go_wp2_with fail
      go_loopw [5, 6] (fun o i wr => ∃ (k : Nat) (ys : List (Jb × Value)), k ≤ n ∧ i = .int .i64 (k : Int) ∧ okWJ l k ∧ jbsOf ys = mkJ l k ∧ OwJ w5 wr o ys) (fun _ i _ => n - (intOf i).toNat)
      case atStart => exact ⟨0, [], Nat.zero_le _, rfl, fun i hi h => by omega, rfl, HO0.out⟩
      case round =>
        obtain ⟨k, ys, hk, rfl, hall, hys, ho⟩ := hrel
        have HO := Lib.hid ho
        have Hall := Lib.hid hall
        have Hys := Lib.hid hys
        obtain ⟨A6, c6, rfl⟩ := own_sl ho.row
        have hbl := ho.bel
        have Hml := Lib.hid (mkJ_len k (by rw [Hdl.out]; exact hk) hall)
        have hyl : ys.length = k := by rw [← jbsOf_len, hys]; exact Hml.out
        have Hyl := Lib.hid hyl
        have hyk : ys.length ≤ 100000 := by omega
        have HSz := Lib.hid (show szJ (jbsOf ys) by rw [hys]; exact mkJ_sz (fun z hz => Nat.le_trans (HM.out z hz) (by omega)) (by rw [Hdl.out]; exact hk) hall)
        have hjl := jbsOf_len ys
        clear ho hall hys HO0 hyl
        by_cases hlt : k < n
        · have hlt' : (k : Int) < (n : Int) := by omega
          have hkl : k < l.length := by rw [Hdl.out]; exact hlt
          have hce := (hbl.cell (p := ⟨g5, k, none⟩) Hlt5.out).trans (HC.out k hkl)
          have hline := HM.out _ (List.getElem_mem hkl)
          have HLn := Lib.hid (l22Line_any wr.heap.size (.slice A6 ys.length c6) (jbsOf ys) l[k] wr HO.out.rd (Nat.le_refl _) (by rw [hjl]; omega) HSz.out (by omega))
          have Hbad := Lib.hid (fun h => rdJobs_bad Hl.out k hkl h)
          have Hgood := Lib.hid (fun (r : Wj) h => (⟨okWJ_step Hall.out hkl h, mkJ_step hkl h⟩ : okWJ l (k + 1) ∧ mkJ l (k + 1) = mkJ l k ++ [⟨r.nm, r.days, r.cost, r.ws.map fun s => lastJ (mkJ l k) s (mkJ l k).length⟩]))
          generalize l[k] = line at *
          clear hbl hjl
          cases hr : rdWJ line with
          | none =>
            have Hr := Lib.hid (Hbad.out hr)
            rw [hr] at HLn
            clear hr Hbad Hgood
            go_wp2_with fail
            refine HLn.out.mono ?_; rintro e w6 ⟨x, f, t, d, l6, rfl, -, hod, hb6⟩
            obtain ⟨Ad, cd, rfl⟩ := own_sl hod
            have Hb6 := Lib.hid (HO.out.bel.trans (hb6.mono HO.out.bel.size))
            have Hba := Lib.hid ((Below.refl w6.heap.size w6).alloc (Nat.le_refl _) (.cells #[.string x, .int .i64 f, .int .i64 t, .slice Ad l6.length cd] 62))
            have Hend := Lib.hid (HB5.out.trans ((Hb6.out.trans (Hba.out.mono Hb6.out.size)).mono HB5.out.size))
            clear hod hb6 HLn HO hce
            go_wp2_with fail
            go_ret2
            exact RetRj.none Hr.out Hend.out
          | some y =>
            obtain ⟨hall2, hmk⟩ := Hgood.out y hr
            have Hall2 := Lib.hid hall2
            rw [hr] at HLn
            clear hr Hbad Hgood hall2
            go_wp2_with fail
            refine HLn.out.mono ?_; rintro e w6 ⟨x, f, t, d, l6, rfl, hfin, hod, hb6⟩
            obtain ⟨rfl, rfl, rfl, rfl⟩ := hfin y rfl
            rw [Hys.out] at hod
            have Hmk := Lib.hid hmk
            generalize (y.ws.map fun s => lastJ (mkJ l k) s (mkJ l k).length) = l6 at *
            obtain ⟨Ad, cd, rfl⟩ := own_sl hod
            have ho6 := HO.out.below hb6
            have hba := (Below.refl w6.heap.size w6).alloc (Nat.le_refl _) (.cells #[.string y.nm, .int .i64 y.days, .int .i64 y.cost, .slice Ad l6.length cd] 62)
            have HO7 := Lib.hid (ho6.below hba)
            have Hod7 := Lib.hid (ownsRow_le (own_below hod hba) HO.out.bel.size)
            have hblk := heap_alloc_new w6 (.cells #[.string y.nm, .int .i64 y.days, .int .i64 y.cost, .slice Ad l6.length cd] 62)
            clear hod hb6 HLn HO hce ho6 hba hfin hmk
            go_upto_region 9 with (fail)
            generalize w6.alloc (.cells #[.string y.nm, .int .i64 y.days, .int .i64 y.cost, .slice Ad l6.length cd] 62) = wa at *
            generalize w6.heap.size = q at *
            obtain ⟨⟨d0, d1, d2, d3⟩, -⟩ := blk4p hblk
            have Hon := Lib.hid (ones4J y.nm y.days y.cost Ad l6.length cd)
            have Hro := Lib.hid HO7.out.row
            have Hsz := Lib.hid HO7.out.bel.size
            have Hsn := Lib.hid (fun (v' : Value) (w' : World) hr hg => HO7.out.snoc2 (w' := w') (v' := v') (nm := y.nm) (dd := y.days) (cc := y.cost) Hod7.out hr hg)
            clear hblk
            go_wp2_with (at_builtin; refine wpList_apd 47 62 _ 4 56 Tryd.underlying47 infoJ rfl (by omega) _ _ rfl rfl w5.heap.size _ _ _ rfl Hro.out #[.string y.nm, .int .i64 y.days, .int .i64 y.cost, .slice Ad l6.length cd] 1 1 rfl rfl Hon.out (by simp [maxLen]; omega) (by omega) Hsz.out ?_; intro v9 w9' hown9 hg9; have HO9 := Lib.hid (Hsn.out v9 w9' hown9 hg9); clear hown9 hg9)
            go_roundw
            case rel => exact ⟨k + 1, _, by omega, by go_num, Hall2.out, by rw [jbsOf_snoc, Hys.out, Hmk.out], HO9.out⟩
            case measure => simp [intOf]; omega
        · have hkn : k = n := by omega
          subst hkn
          have hlt' : ¬ (k : Int) < (k : Int) := by omega
          have hall := Hall.out
          have hr := rdJobs_all Hl.out (by rw [Hdl.out]; exact hall)
          rw [Hdl.out] at hr
          have HV := Lib.hid (OkJS_any wr.heap.size (.slice A6 ys.length c6) (jbsOf ys) wr HO.out.rd (Nat.le_refl _) (by rw [hjl]; omega) HSz.out)
          rw [Hys.out] at HV
          clear hall hjl hbl
          cases hok : okJ (mkJ l k) with
          | false =>
            have Hr := Lib.hid (hr.trans (if_neg (by rw [hok]; simp)))
            rw [hok] at HV
            clear hok hr
            go_wp2_with fail
            refine HV.out.mono ?_; rintro e w9 ⟨rfl, hb9⟩
            have Hb9 := Lib.hid (HO.out.bel.trans (hb9.mono HO.out.bel.size))
            clear hb9
            go_wp2_with fail
            go_ret2
            exact RetRj.none Hr.out (HB5.out.trans (Hb9.out.mono HB5.out.size))
          | true =>
            have Hr := Lib.hid (show rdJobs s = some (jbsOf ys) by rw [Hys.out]; exact hr.trans (if_pos hok))
            have Hl30 := Lib.hid (show ys.length ≤ 30 by rw [Hyl.out, ← Hml.out]; exact (okJ_ok hok).len)
            rw [hok] at HV
            clear hok hr
            go_wp2_with fail
            refine HV.out.mono ?_; rintro e w9 ⟨rfl, hb9⟩
            have HO9 := Lib.hid (HO.out.below hb9)
            clear hb9
            go_wp2_with fail
            go_ret2
            exact RetRj.some Hr.out (HO9.out.from HB5.out) HSz.out Hl30.out
end Go.Proofs.YtepgfcjfdnakbaaDoor
/- Inventories, part 29: l21Draw (gen_pc29.py). -/
namespace Go.Proofs.YtepgfcjfdnakbaaDoor
open Go.RowKit Go.Joins

theorem goodEq {zs ys : List Pc} (h : zs = ys) (hg : GoodP ys) : GoodP zs := by rw [h]; exact hg
set_option maxRecDepth 100000 in
set_option maxHeartbeats 3200000 in
theorem l21Draw_any (B g k : Nat) (bs : List UInt8) (w : World) (hs : SrcAt w B g k bs) (hk : k + 200 ≤ 4611686018427380000) :
    Calls Tryd.prog 66 #[.pointer (some ⟨g, 0, none⟩)] w (RetDd w B g (k + 82) bs) := by
  have hlt := hs.lt
  have hb0 := (Below.refl w.heap.size w).alloc (Nat.le_refl _) (.cells (pcL.map Value.string).toArray 9)
  have Hg0 := Lib.hid (grown_of_below hb0 (some g))
  have HD0 := Lib.hid (show DrC (w.alloc (.cells (pcL.map Value.string).toArray 9)) ((w.alloc (.cells (pcL.map Value.string).toArray 9)).alloc (.cells #[] 46)) B g k bs (.slice (some ⟨w.heap.size + 1, 0, none⟩) 0 0) [] from by
    have e : w.heap.size + 1 = (w.alloc (.cells (pcL.map Value.string).toArray 9)).heap.size := by simp
    rw [e]
    exact ⟨DrR.made (hs.below hb0) _ _, by simp, fun x hx => (by cases hx), _, _, rfl⟩)
  have HNm := Lib.hid (fun i hi => alloc_strs w pcL 9 i hi)
  have Hlt := Lib.hid (show w.heap.size < (w.alloc (.cells (pcL.map Value.string).toArray 9)).heap.size by simp)
  have hng : w.heap.size ≠ g := by omega
  clear hs hb0
  go_enter Tryd.func66, Tryd.ntmps66
  go_wp2_with fail
  refine (pick_any B g k bs 10 _ HD0.out.dr.src (by omega)).mono ?_; rintro e w1 ⟨x, rfl, ⟨hx0, hx1, _⟩, hs1, hg1⟩
  have HD1 := Lib.hid (HD0.out.draw hs1 hg1)
  have hx9 := hx1 (by omega)
  obtain ⟨c, hc⟩ : ∃ c : Nat, 1 + x = (c : Int) := ⟨(1 + x).toNat, by omega⟩
  have hc10 : c ≤ 10 := by omega
  have hc1 : 1 ≤ c := by omega
  clear hs1 hg1 hx1 HD0
  obtain ⟨W1, hW1⟩ : ∃ z, w.alloc (.cells (pcL.map Value.string).toArray 9) = z := ⟨_, rfl⟩
  rw [hW1] at HD1 Hlt Hg0 HNm
  clear hW1
  go_wp2_with fail
  (try rw [hc])
  clear hc hx0 hx9
  go_loopw [4, 5] (fun o i wr => ∃ (j : Nat) (xs : List Pc), j + xs.length = c ∧ i = .int .i64 (j : Int) ∧ GoodP xs ∧ DrC W1 wr B g (k + 2 + 8 * xs.length) bs o xs) (fun _ i _ => (intOf i).toNat)
  case atStart => exact ⟨c, [], by simp, rfl, GoodP.nil, HD1.out⟩
  case round =>
    obtain ⟨j, xs, hjc, rfl, hgd, hd⟩ := hrel
    obtain ⟨b0, c0, rfl⟩ := hd.nn
    have Hgd := Lib.hid hgd
    clear hgd
    have HD := Lib.hid hd
    have Hjc := Lib.hid hjc
    have hxl : xs.length ≤ 10 := by omega
    clear HD1
    by_cases hj : 0 < j
    · have hj' : (0 : Int) < (j : Int) := by omega
      have hjj : (j : Int) - 1 = ((j - 1 : Nat) : Int) := by omega
      have Hjj := Lib.hid hjj
      have hj10 : (j : Int) ≤ 10 := by omega
      have hx10 : xs.length < 10 := by omega
      have hx10' : (xs.length : Int) < 10 := by omega
      have hz16 := pcL_sz (pcL[xs.length]'(by show xs.length < 10; omega)) (List.getElem_mem _)
      have HNx := Lib.hid (fun wy (hg : W1.grownBy wy (some g)) => (World.cell?_of_block (a := ⟨w.heap.size, xs.length, none⟩) (hg.block w.heap.size Hlt.out (fun e => hng (by injection e)))).trans (HNm.out xs.length (by show xs.length < 10; omega)))
      generalize (pcL[xs.length]'(by show xs.length < 10; omega)) = z at *
      have hn := HNx.out wr.drew hd.drew.dr.gr
      have HDd := Lib.hid hd.drew
      clear hd hjc hjj
      go_upto_region 7 with (fail)
      go_cut [7] (fun s7 wx => ∃ (q : Nat) (y2 y3 : Int), s7 = .pointer (some ⟨q, 0, none⟩) ∧ (1 ≤ y2 ∧ y2 ≤ 4) ∧ (0 ≤ y3 ∧ y3 ≤ 20) ∧ PcQ W1 wx B g (k + 2 + 8 * xs.length + 4) bs (.slice (some ⟨b0, 0, none⟩) xs.length c0) xs q (.string z) (.int .i64 (-1)) (.int .i64 y2) (.int .i64 y3))
      case first =>
        refine wp_region_noPanic ?_
        refine wp_region_L [] (fun w' => w'.cell? ⟨w.heap.size, xs.length, none⟩ = some (.string z)) (by kernel_rfl) (hn) (fun hHeld => ?_)
        refine take_F (i := 0) (d := some 21) (v := ?_) (by kernel_rfl) (by kernel_rfl) rfl rfl (by kernel_rfl) (by kernel_rfl) (by kernel_rfl) (fun _ _ _ h => h) (Or.inl ⟨by rfl, ?_⟩) (by assumption) ?_
        rotate_left
        · (intro w hSw; (try dsimp only at hSw); go_simp; (try rw [if_neg (by omega)]); (try (with_reducible rfl)))
        simp only [Act.put, List.setIfInBounds_toArray, List.set_cons_zero, List.set_cons_succ]
        refine take_F (i := 1) (d := some 22) (v := ?_) (by kernel_rfl) (by kernel_rfl) rfl rfl (by kernel_rfl) (by kernel_rfl) (by kernel_rfl) (fun _ _ _ h => h) (Or.inl ⟨by rfl, ?_⟩) (by assumption) ?_
        rotate_left
        · (intro w hSw; (try dsimp only at hSw); go_simp; (try rw [if_neg (by omega)]); (try (with_reducible rfl)))
        simp only [Act.put, List.setIfInBounds_toArray, List.set_cons_zero, List.set_cons_succ]
        refine take_F (i := 2) (d := some 23) (v := ?_) (by kernel_rfl) (by kernel_rfl) rfl rfl (by kernel_rfl) (by kernel_rfl) (by kernel_rfl) (fun _ _ _ h => h) (Or.inl ⟨by rfl, ?_⟩) (by assumption) ?_
        rotate_left
        · (intro w hSw; (try dsimp only at hSw); go_simp; (try rw [if_neg (by omega)]); (try (with_reducible rfl)))
        simp only [Act.put, List.setIfInBounds_toArray, List.set_cons_zero, List.set_cons_succ]
        refine take_L [3] (i := 3) (d := some 24) (v := ?_) (by kernel_rfl) (by kernel_rfl) (by kernel_rfl) (by kernel_rfl) rfl rfl (by kernel_rfl) (by kernel_rfl) (by kernel_rfl) (fun _ _ _ h => h) (Or.inl ⟨by rfl, ?_⟩) (by assumption) ?_
        rotate_left
        · (intro w hSw; (try dsimp only at hSw); go_simp; (try rw [if_neg (by omega)]); (try (with_reducible rfl)))
        simp only [Act.put, List.setIfInBounds_toArray, List.set_cons_zero, List.set_cons_succ]
        refine take_F (i := 4) (d := some 25) (v := ?_) (by kernel_rfl) (by kernel_rfl) rfl rfl (by kernel_rfl) (by kernel_rfl) (by kernel_rfl) (fun _ _ _ h => h) (Or.inl ⟨by rfl, ?_⟩) (by assumption) ?_
        rotate_left
        · (intro w hSw; (try dsimp only at hSw); go_simp; (try rw [if_neg (by omega)]); (try (with_reducible rfl)))
        simp only [Act.put, List.setIfInBounds_toArray, List.set_cons_zero, List.set_cons_succ]
        refine take_F (i := 7) (d := some 28) (v := ?_) (by kernel_rfl) (by kernel_rfl) rfl rfl (by kernel_rfl) (by kernel_rfl) (by kernel_rfl) (fun _ _ _ h => h) (Or.inl ⟨by rfl, ?_⟩) (by assumption) ?_
        rotate_left
        · (intro w hSw; (try dsimp only at hSw); go_simp; (try rw [if_neg (by omega)]); (try (with_reducible rfl)))
        simp only [Act.put, List.setIfInBounds_toArray, List.set_cons_zero, List.set_cons_succ]
        refine both_L (i := 5) (j := 10) (di := (some 26)) (dj := (some 7)) rfl rfl rfl rfl (by kernel_rfl) (fun Kq hKq => ?_) (fun Kq hKq => ?_)
        · go_simp
          go_at_call 70
          refine (pick_any B g _ bs 4 _ HDd.out.dr.src (by omega)).mono ?_; rintro e wz11 ⟨xa, rfl, ⟨hxa0, hxa1, _⟩, hs11, hg11⟩
          have hxa2 := hxa1 (by omega)
          have HA1 := Lib.hid (HDd.out.draw hs11 hg11)
          have hn11 := HNx.out wz11 HA1.out.dr.gr
          have hwz11 : IntKind.i64.wrap (1 + xa) = 1 + xa := IntWalk.i64_in _ (by omega)
          clear hs11 hg11 hxa1
          (try go_wp2_with fail)
          refine hKq.out _ _ (hn11) (fun hHeld => ?_)
          clear hKq Kq
          (try simp only [Act.put, List.setIfInBounds_toArray, List.set_cons_zero, List.set_cons_succ])
          refine take_F (i := 6) (d := some 27) (v := ?_) (by kernel_rfl) (by kernel_rfl) rfl rfl (by kernel_rfl) (by kernel_rfl) (by kernel_rfl) (fun _ _ _ h => h) (Or.inl ⟨by rfl, ?_⟩) (by assumption) ?_
          rotate_left
          · (intro w hSw; (try dsimp only at hSw); go_simp; (try rw [if_neg (by omega)]); (try (with_reducible rfl)))
          simp only [Act.put, List.setIfInBounds_toArray, List.set_cons_zero, List.set_cons_succ]
          refine both_L (i := 8) (j := 10) (di := (some 29)) (dj := (some 7)) rfl rfl rfl rfl (by kernel_rfl) (fun Kq hKq => ?_) (fun Kq hKq => ?_)
          · go_simp
            go_at_call 70
            refine (pick_any B g _ bs 20 _ HA1.out.dr.src (by omega)).mono ?_; rintro e wz12 ⟨ya, rfl, ⟨hya0, hya1, _⟩, hs12, hg12⟩
            have hya2 := hya1 (by omega)
            have HA2 := Lib.hid (HA1.out.draw hs12 hg12)
            have hn12 := HNx.out wz12 HA2.out.dr.gr
            have hwz12 : IntKind.i64.wrap (1 + ya) = 1 + ya := IntWalk.i64_in _ (by omega)
            clear hs12 hg12 hya1
            (try go_wp2_with fail)
            refine hKq.out _ _ (hn12) (fun hHeld => ?_)
            clear hKq Kq
            (try simp only [Act.put, List.setIfInBounds_toArray, List.set_cons_zero, List.set_cons_succ])
            refine take_F (i := 9) (d := some 30) (v := ?_) (by kernel_rfl) (by kernel_rfl) rfl rfl (by kernel_rfl) (by kernel_rfl) (by kernel_rfl) (fun _ _ _ h => h) (Or.inl ⟨by rfl, ?_⟩) (by assumption) ?_
            rotate_left
            · (intro w hSw; (try dsimp only at hSw); go_simp; (try rw [if_neg (by omega)]); (try (with_reducible rfl)))
            simp only [Act.put, List.setIfInBounds_toArray, List.set_cons_zero, List.set_cons_succ]
            have hnq := HNx.out _ (PcQ.new HA2.out (.string ⟨#[]⟩) (.int .i64 0) (.int .i64 0) (.int .i64 0)).dr.gr
            refine call_L (i := 10) (d := (some 7)) rfl rfl (by kernel_rfl) (fun Kq hKq => ?_)
            go_simp
            refine hKq.out _ _ (hnq) (fun hHeld => ?_)
            clear hKq Kq
            (try simp only [Act.put, List.setIfInBounds_toArray, List.set_cons_zero, List.set_cons_succ])
            refine call_L (i := 11) (d := none) rfl rfl (by kernel_rfl) (fun Kq hKq => ?_)
            go_simp
            have HA4 := Lib.hid (PcQ.new HA2.out (.string z) (.int .i64 (-1)) (.int .i64 (1 + xa)) (.int .i64 ya))
            have hn13 := HNx.out _ HA4.out.dr.gr
            refine hKq.out _ _ (hn13) (fun hHeld => ?_)
            clear hKq Kq
            (try simp only [Act.put, List.setIfInBounds_toArray, List.set_cons_zero, List.set_cons_succ])
            refine done_L (by kernel_rfl) ?_ _
            refine NoPanic.normal ?_
            (try go_wp2_with fail)
            go_meet
            exact ⟨_, _, _, rfl, by omega, by omega, HA4.out⟩
          · go_simp
            have HB2 := Lib.hid (PcQ.new HA1.out (.string ⟨#[]⟩) (.int .i64 0) (.int .i64 0) (.int .i64 0))
            have hn14 := HNx.out _ HB2.out.dr.gr
            refine hKq.out _ _ (hn14) (fun hHeld => ?_)
            clear hKq Kq
            (try simp only [Act.put, List.setIfInBounds_toArray, List.set_cons_zero, List.set_cons_succ])
            refine call_L (i := 8) (d := (some 29)) rfl rfl (by kernel_rfl) (fun Kq hKq => ?_)
            go_simp
            go_at_call 70
            refine (pick_any B g _ bs 20 _ HB2.out.dr.src (by omega)).mono ?_; rintro e wz15 ⟨yb, rfl, ⟨hyb0, hyb1, _⟩, hs15, hg15⟩
            have hyb2 := hyb1 (by omega)
            have HB3 := Lib.hid (HB2.out.draw hs15 hg15)
            have hn15 := HNx.out wz15 HB3.out.dr.gr
            have hwz15 : IntKind.i64.wrap (1 + yb) = 1 + yb := IntWalk.i64_in _ (by omega)
            clear hs15 hg15 hyb1
            (try go_wp2_with fail)
            refine hKq.out _ _ (hn15) (fun hHeld => ?_)
            clear hKq Kq
            (try simp only [Act.put, List.setIfInBounds_toArray, List.set_cons_zero, List.set_cons_succ])
            refine take_F (i := 9) (d := some 30) (v := ?_) (by kernel_rfl) (by kernel_rfl) rfl rfl (by kernel_rfl) (by kernel_rfl) (by kernel_rfl) (fun _ _ _ h => h) (Or.inl ⟨by rfl, ?_⟩) (by assumption) ?_
            rotate_left
            · (intro w hSw; (try dsimp only at hSw); go_simp; (try rw [if_neg (by omega)]); (try (with_reducible rfl)))
            simp only [Act.put, List.setIfInBounds_toArray, List.set_cons_zero, List.set_cons_succ]
            refine call_L (i := 11) (d := none) rfl rfl (by kernel_rfl) (fun Kq hKq => ?_)
            obtain ⟨⟨c016, c116, c216, c316⟩, f016, f116, f216, f316⟩ := blk4p HB3.out.hq
            go_simp
            have HB4 := Lib.hid (HB3.out.put (.string z) (.int .i64 (-1)) (.int .i64 (1 + xa)) (.int .i64 yb))
            have hn16 := HNx.out _ HB4.out.dr.gr
            refine hKq.out _ _ (hn16) (fun hHeld => ?_)
            clear hKq Kq
            (try simp only [Act.put, List.setIfInBounds_toArray, List.set_cons_zero, List.set_cons_succ])
            refine done_L (by kernel_rfl) ?_ _
            refine NoPanic.normal ?_
            (try go_wp2_with fail)
            go_meet
            exact ⟨_, _, _, rfl, by omega, by omega, HB4.out⟩
        · go_simp
          have HC1 := Lib.hid (show PcQ W1 (wr.drew.alloc (.cells #[.string ⟨#[]⟩, .int .i64 0, .int .i64 0, .int .i64 0] 46)) B g (k + 2 + 8 * xs.length) bs (.slice (some ⟨b0, 0, none⟩) xs.length c0) xs wr.heap.size (.string ⟨#[]⟩) (.int .i64 0) (.int .i64 0) (.int .i64 0) from PcQ.new HDd.out (.string ⟨#[]⟩) (.int .i64 0) (.int .i64 0) (.int .i64 0))
          have hn17 := HNx.out _ HC1.out.dr.gr
          refine hKq.out _ _ (hn17) (fun hHeld => ?_)
          clear hKq Kq
          (try simp only [Act.put, List.setIfInBounds_toArray, List.set_cons_zero, List.set_cons_succ])
          refine call_L (i := 5) (d := (some 26)) rfl rfl (by kernel_rfl) (fun Kq hKq => ?_)
          go_simp
          go_at_call 70
          refine (pick_any B g _ bs 4 _ HC1.out.dr.src (by omega)).mono ?_; rintro e wz18 ⟨xc, rfl, ⟨hxc0, hxc1, _⟩, hs18, hg18⟩
          have hxc2 := hxc1 (by omega)
          have HC2 := Lib.hid (HC1.out.draw hs18 hg18)
          have hn18 := HNx.out wz18 HC2.out.dr.gr
          have hwz18 : IntKind.i64.wrap (1 + xc) = 1 + xc := IntWalk.i64_in _ (by omega)
          clear hs18 hg18 hxc1
          (try go_wp2_with fail)
          refine hKq.out _ _ (hn18) (fun hHeld => ?_)
          clear hKq Kq
          (try simp only [Act.put, List.setIfInBounds_toArray, List.set_cons_zero, List.set_cons_succ])
          refine take_F (i := 6) (d := some 27) (v := ?_) (by kernel_rfl) (by kernel_rfl) rfl rfl (by kernel_rfl) (by kernel_rfl) (by kernel_rfl) (fun _ _ _ h => h) (Or.inl ⟨by rfl, ?_⟩) (by assumption) ?_
          rotate_left
          · (intro w hSw; (try dsimp only at hSw); go_simp; (try rw [if_neg (by omega)]); (try (with_reducible rfl)))
          simp only [Act.put, List.setIfInBounds_toArray, List.set_cons_zero, List.set_cons_succ]
          refine call_L (i := 8) (d := (some 29)) rfl rfl (by kernel_rfl) (fun Kq hKq => ?_)
          go_simp
          go_at_call 70
          refine (pick_any B g _ bs 20 _ HC2.out.dr.src (by omega)).mono ?_; rintro e wz19 ⟨yc, rfl, ⟨hyc0, hyc1, _⟩, hs19, hg19⟩
          have hyc2 := hyc1 (by omega)
          have HC3 := Lib.hid (HC2.out.draw hs19 hg19)
          have hn19 := HNx.out wz19 HC3.out.dr.gr
          have hwz19 : IntKind.i64.wrap (1 + yc) = 1 + yc := IntWalk.i64_in _ (by omega)
          clear hs19 hg19 hyc1
          (try go_wp2_with fail)
          refine hKq.out _ _ (hn19) (fun hHeld => ?_)
          clear hKq Kq
          (try simp only [Act.put, List.setIfInBounds_toArray, List.set_cons_zero, List.set_cons_succ])
          refine take_F (i := 9) (d := some 30) (v := ?_) (by kernel_rfl) (by kernel_rfl) rfl rfl (by kernel_rfl) (by kernel_rfl) (by kernel_rfl) (fun _ _ _ h => h) (Or.inl ⟨by rfl, ?_⟩) (by assumption) ?_
          rotate_left
          · (intro w hSw; (try dsimp only at hSw); go_simp; (try rw [if_neg (by omega)]); (try (with_reducible rfl)))
          simp only [Act.put, List.setIfInBounds_toArray, List.set_cons_zero, List.set_cons_succ]
          refine call_L (i := 11) (d := none) rfl rfl (by kernel_rfl) (fun Kq hKq => ?_)
          obtain ⟨⟨c020, c120, c220, c320⟩, f020, f120, f220, f320⟩ := blk4p HC3.out.hq
          go_simp
          have HC4 := Lib.hid (HC3.out.put (.string z) (.int .i64 (-1)) (.int .i64 (1 + xc)) (.int .i64 yc))
          have hn20 := HNx.out _ HC4.out.dr.gr
          refine hKq.out _ _ (hn20) (fun hHeld => ?_)
          clear hKq Kq
          (try simp only [Act.put, List.setIfInBounds_toArray, List.set_cons_zero, List.set_cons_succ])
          refine done_L (by kernel_rfl) ?_ _
          refine NoPanic.normal ?_
          (try go_wp2_with fail)
          go_meet
          exact ⟨_, _, _, rfl, by omega, by omega, HC4.out⟩
      case rest =>
        obtain ⟨q, y2, y3, rfl, hy2, hy3, hQ⟩ := hcut
        have HQ := Lib.hid hQ
        clear hQ HD HDd hn HNx
        by_cases h0 : xs.length = 0
        · have h0' : ¬ ((0 : Int) < (xs.length : Int)) := by omega
          have Hh0 := Lib.hid h0
          clear h0
          go_wp2_with fail
          refine (pick_any B g _ bs 2 _ HQ.out.dr.src (by omega)).mono ?_; rintro e wy1 ⟨p1, rfl, ⟨hp0, hp1, _⟩, hs1, hg1⟩
          have HQ1 := Lib.hid (HQ.out.draw hs1 hg1)
          have hp2 := hp1 (by omega)
          clear hs1 hg1 hp1
          go_wp2_with fail
          refine (pick_any B g _ bs 2 _ HQ1.out.dr.src (by omega)).mono ?_; rintro e wy2 ⟨r1, rfl, ⟨hr0, hr1, _⟩, hs2, hg2⟩
          have HQ2 := Lib.hid (HQ1.out.draw hs2 hg2)
          have hr2 := hr1 (by omega)
          have hPm : 0 ≤ p1 * r1 ∧ p1 * r1 ≤ 1 := by
            have e1 : p1 = 0 ∨ p1 = 1 := by omega
            rcases e1 with rfl | rfl <;> omega
          have hwm : IntKind.i64.wrap (p1 * r1) = p1 * r1 := IntWalk.i64_in _ (by omega)
          have hwa : IntKind.i64.wrap (1 + p1 * r1) = 1 + p1 * r1 := IntWalk.i64_in _ (by omega)
          obtain ⟨⟨_, _, e2, _⟩, _, _, f2, _⟩ := blk4p HQ2.out.hq
          clear hs2 hg2 hr1
          obtain ⟨M, hM⟩ : ∃ z, p1 * r1 = z := ⟨_, rfl⟩
          rw [hM] at hwm hwa
          go_upto_region 11 with (fail)
          (try rw [hM])
          have HQ3 := Lib.hid (HQ2.out.set 2 (.int .i64 (1 + M)) rfl rfl)
          generalize wy2.setCell ⟨q, 2, none⟩ (.int .i64 (1 + M)) = wy3 at *
          clear HQ HQ1 HQ2 e2 f2 hwm hwa
          have Hon := Lib.hid (ones4 z (-1) (1 + M) (y3))
          obtain ⟨⟨d0, d1, d2, d3⟩, -⟩ := blk4p HQ3.out.hq
          have Hsn := Lib.hid (fun (v' : Value) (w' : World) hr hg => HQ3.out.toDrC.snoc (w' := w') (v' := v') (x := ⟨z, -1, 1 + M, y3⟩) (by omega) hz16 hr hg)
          have Hro := Lib.hid HQ3.out.dr.row
          have Hgs := Lib.hid (Hgd.out.snoc (x := ⟨z, -1, 1 + M, y3⟩) (fun _ => rfl) (fun h => absurd Hh0.out (by omega)) (by dsimp only; omega) (by dsimp only; omega))
          have Hsz := Lib.hid HQ3.out.dr.size
          go_wp2_with (at_builtin; refine wpList_apd 24 46 _ 4 40 Tryd.underlying24 infoP rfl (by omega) _ _ rfl rfl W1.heap.size _ _ _ rfl Hro.out #[.string z, .int .i64 (-1), .int .i64 (1 + M), .int .i64 (y3)] 1 1 rfl rfl Hon.out (by simp [maxLen]; omega) (by omega) Hsz.out ?_; intro v9 w9 hown9 hg9; obtain ⟨zs, hzl, hze, hd9⟩ := Hsn.out v9 w9 hown9 hg9; have Hg9 := Lib.hid (goodEq hze Hgs.out); clear hze; have HD9 := Lib.hid hd9; have Hzl := Lib.hid hzl; obtain ⟨b9, cp9, rfl⟩ := hd9.nn; clear hown9 hg9 hd9 hzl)
          go_roundw
          case rel => exact ⟨j - 1, zs, by have := Hjc.out; have := Hzl.out; omega, by rw [Hjj.out], Hg9.out, HD9.out.more (by have := Hzl.out; omega)⟩
          case measure => simp [intOf]; omega
        · have h0' : (0 : Int) < (xs.length : Int) := by omega
          go_wp2_with fail
          refine (pick_any B g _ bs xs.length _ HQ.out.dr.src (by omega)).mono ?_; rintro e wy1 ⟨p1, rfl, ⟨hp0, hpa, hpb⟩, hs1, hg1⟩
          have hpx : p1 < (xs.length : Int) := by
            by_cases e1 : xs.length = 1
            · have := hpb (by omega); omega
            · exact hpa (by omega)
          have HQ1 := Lib.hid (HQ.out.draw hs1 hg1)
          clear hpa hpb
          obtain ⟨⟨_, e2, _, _⟩, _, f2, _, _⟩ := blk4p HQ1.out.hq
          clear hs1 hg1
          go_upto_region 11 with (fail)
          have HQ3 := Lib.hid (HQ1.out.set 1 (.int .i64 p1) rfl rfl)
          generalize wy1.setCell ⟨q, 1, none⟩ (.int .i64 p1) = wy3 at *
          clear HQ HQ1 e2 f2
          have Hon := Lib.hid (ones4 z (p1) (y2) (y3))
          obtain ⟨⟨d0, d1, d2, d3⟩, -⟩ := blk4p HQ3.out.hq
          have Hsn := Lib.hid (fun (v' : Value) (w' : World) hr hg => HQ3.out.toDrC.snoc (w' := w') (v' := v') (x := ⟨z, p1, y2, y3⟩) (by omega) hz16 hr hg)
          have Hro := Lib.hid HQ3.out.dr.row
          have Hgs := Lib.hid (Hgd.out.snoc (x := ⟨z, p1, y2, y3⟩) (fun h => absurd h (by omega)) (fun _ => ⟨hp0, hpx⟩) (by dsimp only; omega) (by dsimp only; omega))
          have Hsz := Lib.hid HQ3.out.dr.size
          go_wp2_with (at_builtin; refine wpList_apd 24 46 _ 4 40 Tryd.underlying24 infoP rfl (by omega) _ _ rfl rfl W1.heap.size _ _ _ rfl Hro.out #[.string z, .int .i64 (p1), .int .i64 (y2), .int .i64 (y3)] 1 1 rfl rfl Hon.out (by simp [maxLen]; omega) (by omega) Hsz.out ?_; intro v9 w9 hown9 hg9; obtain ⟨zs, hzl, hze, hd9⟩ := Hsn.out v9 w9 hown9 hg9; have Hg9 := Lib.hid (goodEq hze Hgs.out); clear hze; have HD9 := Lib.hid hd9; have Hzl := Lib.hid hzl; obtain ⟨b9, cp9, rfl⟩ := hd9.nn; clear hown9 hg9 hd9 hzl)
          go_roundw
          case rel => exact ⟨j - 1, zs, by have := Hjc.out; have := Hzl.out; omega, by rw [Hjj.out], Hg9.out, HD9.out.more (by have := Hzl.out; omega)⟩
          case measure => simp [intOf]; omega
    · have hj0 : j = 0 := by omega
      subst hj0
      have Hz := Lib.hid (HD.out.from Hg0.out hlt)
      clear HD hd hjc
      go_wp2_with fail
      go_ret
      exact ⟨_, xs, rfl, by have := Hjc.out; omega, hxl, Hgd.out, Hz.out.more (by omega)⟩
end Go.Proofs.YtepgfcjfdnakbaaDoor
/- Inventories, part 30: l21Wide (gen_pc30.py). -/
namespace Go.Proofs.YtepgfcjfdnakbaaDoor
open Go.RowKit Go.Joins

/-- a list of pieces of the call's own, with short names -/
structure OwC (W w : World) (v : Value) (xs : List Pc) : Prop where
  row : w.ownsRow W.heap.size 46 4 v xs.length (xs.flatMap cellsP)
  bel : Below W.heap.size W w
  sm : ∀ x ∈ xs, x.name.size ≤ 16
  nn : ∃ b c, v = .slice (some ⟨b, 0, none⟩) xs.length c
theorem OwC.snoc {W w w' : World} {v v' : Value} {xs : List Pc} {x : Pc} (h : OwC W w v xs) (hx : x.name.size ≤ 16)
    (hr : w'.ownsRow W.heap.size 46 4 v' (xs.length + 1) (xs.flatMap cellsP ++ (#[Value.string x.name, .int .i64 x.par, .int .i64 x.each, .int .i64 x.price] : Array Value).toList)) (hg : w.grownBy w' v.ownBlock) :
    ∃ zs, zs.length = xs.length + 1 ∧ zs = xs ++ [x] ∧ OwC W w' v' zs := by
  have e : xs.flatMap cellsP ++ (#[Value.string x.name, .int .i64 x.par, .int .i64 x.each, .int .i64 x.price] : Array Value).toList = (xs ++ [x]).flatMap cellsP := by
    rw [List.flatMap_append]; simp [cellsP]
  rw [e] at hr
  have hlen : (xs ++ [x]).length = xs.length + 1 := by simp
  refine ⟨_, hlen, rfl, ⟨by rw [hlen]; exact hr, h.bel.grown hg h.bel.size (fun k hk => (h.row.lt k hk).1), fun y hy => ?_, ?_⟩⟩
  · rcases List.mem_append.1 hy with hy | hy
    · exact h.sm y hy
    · rw [List.mem_singleton.1 hy]; exact hx
  · obtain ⟨b, c, hv, _⟩ := own_posC hr (by omega)
    exact ⟨b, c, by rw [hv, hlen]⟩
theorem OwC.alloc {W w : World} {v : Value} {xs : List Pc} (h : OwC W w v xs) (o : Obj) : OwC W (w.alloc o) v xs := ⟨h.row.alloc o, h.bel.alloc h.bel.size o, h.sm, h.nn⟩
theorem OwC.drew {W w : World} {v : Value} {xs : List Pc} (h : OwC W w v xs) : OwC W w.drew v xs := ⟨h.row.drew, h.bel.drew, h.sm, h.nn⟩
def RetWc (n : Nat) (w : World) (e : Ending) (w' : World) : Prop := ∃ v xs, e = .returned v ∧ xs.length = n ∧ GoodP xs ∧ OwC w w' v xs
set_option maxRecDepth 100000 in
set_option maxHeartbeats 3200000 in
theorem l21Wide_any (M : Nat) (w : World) (hM : M ≤ 60) :
    Calls Tryd.prog 69 #[.int .i64 (M : Int)] w (RetWc M w) := by
  have HD0 := Lib.hid (show OwC w (w.alloc (.cells #[] 46)) (.slice (some ⟨w.heap.size, 0, none⟩) 0 0) [] from ⟨World.ownsRow_made (base := w.heap.size) (e := 46) (size := 4) w #[] 0 (Nat.le_refl _) (by simp [maxLen]) rfl, (Below.refl _ _).alloc (Nat.le_refl _) _, fun x hx => (by cases hx), _, _, rfl⟩)
  go_enter Tryd.func69, Tryd.ntmps69
  go_wp2_with fail
  go_loopw [3, 4] (fun o i wr => ∃ xs : List Pc, xs.length ≤ M ∧ i = .int .i64 (xs.length : Int) ∧ GoodP xs ∧ OwC w wr o xs) (fun _ i _ => M - (intOf i).toNat)
  case atStart => exact ⟨[], by simp, rfl, GoodP.nil, HD0.out⟩
  case round =>
    obtain ⟨xs, hxm, rfl, hgd, hd⟩ := hrel
    obtain ⟨b0, c0, rfl⟩ := hd.nn
    clear HD0
    by_cases hlt : xs.length < M
    · have hlt' : (xs.length : Int) < (M : Int) := by omega
      obtain ⟨c1, hc1⟩ : ∃ c : UInt8, (c.toNat : Int) = 97 + (xs.length : Int) / 26 := ⟨UInt8.ofNat (97 + xs.length / 26), by simp; omega⟩
      obtain ⟨c2, hc2⟩ : ∃ c : UInt8, (c.toNat : Int) = 97 + (xs.length : Int) % 26 := ⟨UInt8.ofNat (97 + xs.length % 26), by simp; omega⟩
      have HMn := Lib.hid (fun wx => l00Min_c 0 ((xs.length : Int) - 1) wx)
      obtain ⟨mn, hmn⟩ : ∃ z, min 0 ((xs.length : Int) - 1) = z := ⟨_, rfl⟩
      rw [hmn] at HMn
      have hwj : IntKind.i64.wrap ((xs.length : Int) - 1) = (xs.length : Int) - 1 := IntWalk.i64_in _ (by omega)
      have hj0 : (0 : Int) ≤ (xs.length : Int) := by omega
      have hu1 : IntKind.u8.wrap (IntKind.i64.wrap (97 + IntKind.i64.wrap ((xs.length : Int) / 26))) = (c1.toNat : Int) := by
        rw [IntWalk.i64_in ((xs.length : Int) / 26) (by omega), IntWalk.i64_in _ (by omega), ← hc1]
        exact IntWalk.u8_in _ (by omega)
      have htm : (xs.length : Int).tmod 26 = (xs.length : Int) % 26 := Int.tmod_eq_emod_of_nonneg hj0
      have hu2 : IntKind.u8.wrap (IntKind.i64.wrap (97 + (xs.length : Int).tmod 26)) = (c2.toNat : Int) := by
        rw [htm, IntWalk.i64_in _ (by omega), ← hc2]
        exact IntWalk.u8_in _ (by omega)
      have hcv := run_convert_bytes_back (P := Tryd.prog) ((wr.alloc (.cells #[.int .u8 (c1.toNat : Int), .int .u8 (c2.toNat : Int)] 5)).drew) 22 9 5 ⟨wr.heap.size, 0, none⟩ 2 [c1, c2] Tryd.underlying22 Tryd.underlying5 Tryd.underlying9 (fun i hi => by
        have hi2 : i < 2 := hi
        exact new_cells wr #[.int .u8 (c1.toNat : Int), .int .u8 (c2.toNat : Int)] 5 i _ (by
          rcases (show i = 0 ∨ i = 1 by omega) with rfl | rfl <;> rfl))
      have hcv : (convert 22 9 (.slice (some ⟨wr.heap.size, 0, none⟩) 2 2)).run Tryd.prog ((wr.alloc (.cells #[.int .u8 (c1.toNat : Int), .int .u8 (c2.toNat : Int)] 5)).drew) = .ok (.string ⟨#[c1, c2]⟩) ((wr.alloc (.cells #[.int .u8 (c1.toNat : Int), .int .u8 (c2.toNat : Int)] 5)).drew) := hcv
      obtain ⟨Z, hZ⟩ : ∃ z : ByteArray, (⟨#[112]⟩ : ByteArray) ++ ⟨#[c1, c2]⟩ = z := ⟨_, rfl⟩
      have hZs : Z.size ≤ 16 := by rw [← hZ]; show 3 ≤ 16; omega
      have HDa := Lib.hid (hd.alloc (.cells #[.int .u8 (c1.toNat : Int), .int .u8 (c2.toNat : Int)] 5))
      have Hra := Lib.hid HDa.out.row
      have Hsz1 := Lib.hid (show (wr.alloc (.cells #[.int .u8 (c1.toNat : Int), .int .u8 (c2.toNat : Int)] 5)).heap.size = wr.heap.size + 1 by simp)
      have Hsa := Lib.hid HDa.out.bel.size
      have Hsn := Lib.hid (fun (v' : Value) (w' : World) hr hg => HDa.out.snoc (w' := w') (v' := v') (x := ⟨Z, mn, 1, (xs.length : Int)⟩) hZs hr hg)
      have Hgs := Lib.hid (hgd.snoc (x := ⟨Z, mn, 1, (xs.length : Int)⟩) (fun h => by dsimp only; omega) (fun h => by dsimp only; omega) (by dsimp only; omega) (by dsimp only; omega))
      clear hgd
      have Hon := Lib.hid (ones4 Z mn 1 (xs.length : Int))
      have hmx : xs.length + 1 ≤ maxLen := by simp [maxLen]; omega
      have hby : (xs.length + 1) * 40 ≤ 140737488355328 := by omega
      clear hmn htm hc1 hc2 hd HDa hZs
      go_wp2_with fail
      refine wp_region_noPanic ?_
      refine wp_region_L [19,18] (fun _ => True) (by kernel_rfl) (trivial) (fun hHeld => ?_)
      refine take_F (i := 0) (d := some 11) (v := ?_) (by kernel_rfl) (by kernel_rfl) rfl rfl (by kernel_rfl) (by kernel_rfl) (by kernel_rfl) (fun _ _ _ h => h) (Or.inl ⟨by rfl, ?_⟩) (by assumption) ?_
      rotate_left
      · (intro w hSw; (try dsimp only at hSw); go_simp; (try rw [if_neg (by omega)]); (try (with_reducible rfl)))
      simp only [Act.put, List.setIfInBounds_toArray, List.set_cons_zero, List.set_cons_succ]
      refine take_F (i := 1) (d := some 12) (v := ?_) (by kernel_rfl) (by kernel_rfl) rfl rfl (by kernel_rfl) (by kernel_rfl) (by kernel_rfl) (fun _ _ _ h => h) (Or.inl ⟨by rfl, ?_⟩) (by assumption) ?_
      rotate_left
      · (intro w hSw; (try dsimp only at hSw); go_simp; (try rw [if_neg (by omega)]); (try (with_reducible rfl)))
      simp only [Act.put, List.setIfInBounds_toArray, List.set_cons_zero, List.set_cons_succ]
      refine take_F (i := 2) (d := some 13) (v := ?_) (by kernel_rfl) (by kernel_rfl) rfl rfl (by kernel_rfl) (by kernel_rfl) (by kernel_rfl) (fun _ _ _ h => h) (Or.inl ⟨by rfl, ?_⟩) (by assumption) ?_
      rotate_left
      · (intro w hSw; (try dsimp only at hSw); go_simp; (try rw [if_neg (by omega)]); (try (with_reducible rfl)))
      simp only [Act.put, List.setIfInBounds_toArray, List.set_cons_zero, List.set_cons_succ]
      refine take_F (i := 3) (d := some 14) (v := ?_) (by kernel_rfl) (by kernel_rfl) rfl rfl (by kernel_rfl) (by kernel_rfl) (by kernel_rfl) (fun _ _ _ h => h) (Or.inl ⟨by rfl, ?_⟩) (by assumption) ?_
      rotate_left
      · (intro w hSw; (try dsimp only at hSw); go_simp; (try rw [if_neg (by omega)]); (try (with_reducible rfl)))
      simp only [Act.put, List.setIfInBounds_toArray, List.set_cons_zero, List.set_cons_succ]
      refine take_F (i := 4) (d := some 15) (v := ?_) (by kernel_rfl) (by kernel_rfl) rfl rfl (by kernel_rfl) (by kernel_rfl) (by kernel_rfl) (fun _ _ _ h => h) (Or.inl ⟨by rfl, ?_⟩) (by assumption) ?_
      rotate_left
      · (intro w hSw; (try dsimp only at hSw); go_simp; (try rw [if_neg (by omega)]); (try (with_reducible rfl)))
      simp only [Act.put, List.setIfInBounds_toArray, List.set_cons_zero, List.set_cons_succ]
      refine take_F (i := 5) (d := some 16) (v := ?_) (by kernel_rfl) (by kernel_rfl) rfl rfl (by kernel_rfl) (by kernel_rfl) (by kernel_rfl) (fun _ _ _ h => h) (Or.inl ⟨by rfl, ?_⟩) (by assumption) ?_
      rotate_left
      · (intro w hSw; (try dsimp only at hSw); go_simp; (try rw [if_neg (by omega)]); (try (with_reducible rfl)))
      simp only [Act.put, List.setIfInBounds_toArray, List.set_cons_zero, List.set_cons_succ]
      refine take_F (i := 6) (d := some 17) (v := ?_) (by kernel_rfl) (by kernel_rfl) rfl rfl (by kernel_rfl) (by kernel_rfl) (by kernel_rfl) (fun _ _ _ h => h) (Or.inl ⟨by rfl, ?_⟩) (by assumption) ?_
      rotate_left
      · (intro w hSw; (try dsimp only at hSw); go_simp; (try rw [if_neg (by omega)]); (try (with_reducible rfl)))
      simp only [Act.put, List.setIfInBounds_toArray, List.set_cons_zero, List.set_cons_succ]
      refine take_F (i := 7) (d := some 18) (v := ?_) (by kernel_rfl) (by kernel_rfl) rfl rfl (by kernel_rfl) (by kernel_rfl) (by kernel_rfl) (fun _ _ _ h => h) (Or.inl ⟨by rfl, ?_⟩) (by assumption) ?_
      rotate_left
      · (intro w hSw; (try dsimp only at hSw); go_simp; (try rw [if_neg (by omega)]); (try (with_reducible rfl)))
      simp only [Act.put, List.setIfInBounds_toArray, List.set_cons_zero, List.set_cons_succ]
      refine take_F (i := 8) (d := some 19) (v := ?_) (by kernel_rfl) (by kernel_rfl) rfl rfl (by kernel_rfl) (by kernel_rfl) (by kernel_rfl) (fun _ _ _ h => h) (Or.inl ⟨by rfl, ?_⟩) (by assumption) ?_
      rotate_left
      · (intro w hSw; (try dsimp only at hSw); go_simp; (try rw [if_neg (by omega)]); (try (with_reducible rfl)))
      simp only [Act.put, List.setIfInBounds_toArray, List.set_cons_zero, List.set_cons_succ]
      refine take_F (i := 12) (d := some 23) (v := ?_) (by kernel_rfl) (by kernel_rfl) rfl rfl (by kernel_rfl) (by kernel_rfl) (by kernel_rfl) (fun _ _ _ h => h) (Or.inl ⟨by rfl, ?_⟩) (by assumption) ?_
      rotate_left
      · (intro w hSw; (try dsimp only at hSw); go_simp; (try rw [if_neg (by omega)]); (try (with_reducible rfl)))
      simp only [Act.put, List.setIfInBounds_toArray, List.set_cons_zero, List.set_cons_succ]
      refine take_F (i := 13) (d := some 24) (v := ?_) (by kernel_rfl) (by kernel_rfl) rfl rfl (by kernel_rfl) (by kernel_rfl) (by kernel_rfl) (fun _ _ _ h => h) (Or.inl ⟨by rfl, ?_⟩) (by assumption) ?_
      rotate_left
      · (intro w hSw; (try dsimp only at hSw); go_simp; (try rw [if_neg (by omega)]); (try (with_reducible rfl)))
      simp only [Act.put, List.setIfInBounds_toArray, List.set_cons_zero, List.set_cons_succ]
      refine take_F (i := 15) (d := some 26) (v := ?_) (by kernel_rfl) (by kernel_rfl) rfl rfl (by kernel_rfl) (by kernel_rfl) (by kernel_rfl) (fun _ _ _ h => h) (Or.inl ⟨by rfl, ?_⟩) (by assumption) ?_
      rotate_left
      · (intro w hSw; (try dsimp only at hSw); go_simp; (try rw [if_neg (by omega)]); (try (with_reducible rfl)))
      simp only [Act.put, List.setIfInBounds_toArray, List.set_cons_zero, List.set_cons_succ]
      (try rw [hu1, hu2])
      clear hu1 hu2
      refine both_L (i := 9) (j := 14) (di := (some 20)) (dj := (some 25)) rfl rfl rfl rfl (by kernel_rfl) (fun Kq hKq => ?_) (fun Kq hKq => ?_)
      · go_simp
        refine hKq.out _ _ (trivial) (fun hHeld => ?_)
        clear hKq Kq
        (try simp only [Act.put, List.setIfInBounds_toArray, List.set_cons_zero, List.set_cons_succ])
        refine both_L (i := 10) (j := 14) (di := (some 21)) (dj := (some 25)) rfl rfl rfl rfl (by kernel_rfl) (fun Kq hKq => ?_) (fun Kq hKq => ?_)
        · go_simp
          (try rw [if_neg (by omega)])
          refine hKq.out _ _ (trivial) (fun hHeld => ?_)
          clear hKq Kq
          (try simp only [Act.put, List.setIfInBounds_toArray, List.set_cons_zero, List.set_cons_succ])
          refine take_F (i := 11) (d := some 22) (v := ?_) (by kernel_rfl) (by kernel_rfl) rfl rfl (by kernel_rfl) (by kernel_rfl) (by kernel_rfl) (fun _ _ _ h => h) (Or.inl ⟨by rfl, ?_⟩) (by assumption) ?_
          rotate_left
          · (intro w hSw; (try dsimp only at hSw); go_simp; (try rw [if_neg (by omega)]); (try (with_reducible rfl)))
          simp only [Act.put, List.setIfInBounds_toArray, List.set_cons_zero, List.set_cons_succ]
          refine call_L (i := 14) (d := (some 25)) rfl rfl (by kernel_rfl) (fun Kq hKq => ?_)
          go_simp
          go_at_call 90
          refine (HMn.out _).mono ?_; rintro e wm ⟨rfl, rfl⟩
          (try go_wp2_with fail)
          refine hKq.out _ _ (trivial) (fun hHeld => ?_)
          clear hKq Kq
          (try simp only [Act.put, List.setIfInBounds_toArray, List.set_cons_zero, List.set_cons_succ])
          refine take_F (i := 16) (d := some 27) (v := ?_) (by kernel_rfl) (by kernel_rfl) rfl rfl (by kernel_rfl) (by kernel_rfl) (by kernel_rfl) (fun _ _ _ h => h) (Or.inl ⟨by rfl, ?_⟩) (by assumption) ?_
          rotate_left
          · (intro w hSw; (try dsimp only at hSw); go_simp; (try rw [if_neg (by omega)]); (try (with_reducible rfl)))
          simp only [Act.put, List.setIfInBounds_toArray, List.set_cons_zero, List.set_cons_succ]
          refine call_L (i := 17) (d := (some 28)) rfl rfl (by kernel_rfl) (fun Kq hKq => ?_)
          go_simp
          refine hKq.out _ _ (trivial) (fun hHeld => ?_)
          clear hKq Kq
          (try simp only [Act.put, List.setIfInBounds_toArray, List.set_cons_zero, List.set_cons_succ])
          refine late_L (i := 18) (d := (some 29)) (by kernel_rfl) rfl rfl (by kernel_rfl) (fun Kq hKq => ?_)
          refine step_apd 24 46 _ 4 40 Tryd.underlying24 infoP rfl (by omega) _ _ (by rfl) (by rfl) w.heap.size _ xs.length _ (by rfl) Hra.out #[.string Z, .int .i64 mn, .int .i64 1, .int .i64 xs.length] 1 1 (by rw [Hsz1.out]; rfl) (by rfl) Hon.out hmx hby Hsa.out ?_; intro v9 w9 hown9 hg9
          obtain ⟨zs, hzl, hze, hd9⟩ := Hsn.out v9 w9 hown9 hg9
          have Hg9 := Lib.hid (goodEq hze Hgs.out)
          clear hze
          obtain ⟨b9, cp9, rfl⟩ := hd9.nn
          have HD9 := Lib.hid hd9
          have Hzl := Lib.hid hzl
          clear hown9 hg9 hd9 hzl
          refine hKq.out _ _ ?_
          clear hKq Kq
          simp only [Act.put, List.setIfInBounds_toArray]
          refine late_L (i := 19) (d := (some 3)) (by kernel_rfl) rfl rfl (by kernel_rfl) (fun Kq hKq => ?_)
          go_simp
          refine hKq.out _ _ ?_
          clear hKq Kq
          refine done_L (by kernel_rfl) ?_ _
          refine NoPanic.normal ?_
          go_wp2_with fail
          go_roundw
          case rel => exact ⟨zs, by have := Hzl.out; omega, by rw [Hzl.out]; first | rfl | (congr 1; omega), Hg9.out, HD9.out⟩
          case measure => first | (simp [intOf]; done) | (simp [intOf]; omega)
        · go_simp
          go_at_call 90
          refine (HMn.out _).mono ?_; rintro e wm ⟨rfl, rfl⟩
          (try go_wp2_with fail)
          refine hKq.out _ _ (trivial) (fun hHeld => ?_)
          clear hKq Kq
          (try simp only [Act.put, List.setIfInBounds_toArray, List.set_cons_zero, List.set_cons_succ])
          refine call_L (i := 10) (d := (some 21)) rfl rfl (by kernel_rfl) (fun Kq hKq => ?_)
          go_simp
          (try rw [if_neg (by omega)])
          refine hKq.out _ _ (trivial) (fun hHeld => ?_)
          clear hKq Kq
          (try simp only [Act.put, List.setIfInBounds_toArray, List.set_cons_zero, List.set_cons_succ])
          refine take_F (i := 11) (d := some 22) (v := ?_) (by kernel_rfl) (by kernel_rfl) rfl rfl (by kernel_rfl) (by kernel_rfl) (by kernel_rfl) (fun _ _ _ h => h) (Or.inl ⟨by rfl, ?_⟩) (by assumption) ?_
          rotate_left
          · (intro w hSw; (try dsimp only at hSw); go_simp; (try rw [if_neg (by omega)]); (try (with_reducible rfl)))
          simp only [Act.put, List.setIfInBounds_toArray, List.set_cons_zero, List.set_cons_succ]
          refine take_F (i := 16) (d := some 27) (v := ?_) (by kernel_rfl) (by kernel_rfl) rfl rfl (by kernel_rfl) (by kernel_rfl) (by kernel_rfl) (fun _ _ _ h => h) (Or.inl ⟨by rfl, ?_⟩) (by assumption) ?_
          rotate_left
          · (intro w hSw; (try dsimp only at hSw); go_simp; (try rw [if_neg (by omega)]); (try (with_reducible rfl)))
          simp only [Act.put, List.setIfInBounds_toArray, List.set_cons_zero, List.set_cons_succ]
          refine call_L (i := 17) (d := (some 28)) rfl rfl (by kernel_rfl) (fun Kq hKq => ?_)
          go_simp
          refine hKq.out _ _ (trivial) (fun hHeld => ?_)
          clear hKq Kq
          (try simp only [Act.put, List.setIfInBounds_toArray, List.set_cons_zero, List.set_cons_succ])
          refine late_L (i := 18) (d := (some 29)) (by kernel_rfl) rfl rfl (by kernel_rfl) (fun Kq hKq => ?_)
          refine step_apd 24 46 _ 4 40 Tryd.underlying24 infoP rfl (by omega) _ _ (by rfl) (by rfl) w.heap.size _ xs.length _ (by rfl) Hra.out #[.string Z, .int .i64 mn, .int .i64 1, .int .i64 xs.length] 1 1 (by rw [Hsz1.out]; rfl) (by rfl) Hon.out hmx hby Hsa.out ?_; intro v9 w9 hown9 hg9
          obtain ⟨zs, hzl, hze, hd9⟩ := Hsn.out v9 w9 hown9 hg9
          have Hg9 := Lib.hid (goodEq hze Hgs.out)
          clear hze
          obtain ⟨b9, cp9, rfl⟩ := hd9.nn
          have HD9 := Lib.hid hd9
          have Hzl := Lib.hid hzl
          clear hown9 hg9 hd9 hzl
          refine hKq.out _ _ ?_
          clear hKq Kq
          simp only [Act.put, List.setIfInBounds_toArray]
          refine late_L (i := 19) (d := (some 3)) (by kernel_rfl) rfl rfl (by kernel_rfl) (fun Kq hKq => ?_)
          go_simp
          refine hKq.out _ _ ?_
          clear hKq Kq
          refine done_L (by kernel_rfl) ?_ _
          refine NoPanic.normal ?_
          go_wp2_with fail
          go_roundw
          case rel => exact ⟨zs, by have := Hzl.out; omega, by rw [Hzl.out]; first | rfl | (congr 1; omega), Hg9.out, HD9.out⟩
          case measure => first | (simp [intOf]; done) | (simp [intOf]; omega)
      · go_simp
        go_at_call 90
        refine (HMn.out _).mono ?_; rintro e wm ⟨rfl, rfl⟩
        (try go_wp2_with fail)
        refine hKq.out _ _ (trivial) (fun hHeld => ?_)
        clear hKq Kq
        (try simp only [Act.put, List.setIfInBounds_toArray, List.set_cons_zero, List.set_cons_succ])
        refine call_L (i := 9) (d := (some 20)) rfl rfl (by kernel_rfl) (fun Kq hKq => ?_)
        go_simp
        refine hKq.out _ _ (trivial) (fun hHeld => ?_)
        clear hKq Kq
        (try simp only [Act.put, List.setIfInBounds_toArray, List.set_cons_zero, List.set_cons_succ])
        refine call_L (i := 10) (d := (some 21)) rfl rfl (by kernel_rfl) (fun Kq hKq => ?_)
        go_simp
        (try rw [if_neg (by omega)])
        refine hKq.out _ _ (trivial) (fun hHeld => ?_)
        clear hKq Kq
        (try simp only [Act.put, List.setIfInBounds_toArray, List.set_cons_zero, List.set_cons_succ])
        refine take_F (i := 11) (d := some 22) (v := ?_) (by kernel_rfl) (by kernel_rfl) rfl rfl (by kernel_rfl) (by kernel_rfl) (by kernel_rfl) (fun _ _ _ h => h) (Or.inl ⟨by rfl, ?_⟩) (by assumption) ?_
        rotate_left
        · (intro w hSw; (try dsimp only at hSw); go_simp; (try rw [if_neg (by omega)]); (try (with_reducible rfl)))
        simp only [Act.put, List.setIfInBounds_toArray, List.set_cons_zero, List.set_cons_succ]
        refine take_F (i := 16) (d := some 27) (v := ?_) (by kernel_rfl) (by kernel_rfl) rfl rfl (by kernel_rfl) (by kernel_rfl) (by kernel_rfl) (fun _ _ _ h => h) (Or.inl ⟨by rfl, ?_⟩) (by assumption) ?_
        rotate_left
        · (intro w hSw; (try dsimp only at hSw); go_simp; (try rw [if_neg (by omega)]); (try (with_reducible rfl)))
        simp only [Act.put, List.setIfInBounds_toArray, List.set_cons_zero, List.set_cons_succ]
        refine call_L (i := 17) (d := (some 28)) rfl rfl (by kernel_rfl) (fun Kq hKq => ?_)
        go_simp
        refine hKq.out _ _ (trivial) (fun hHeld => ?_)
        clear hKq Kq
        (try simp only [Act.put, List.setIfInBounds_toArray, List.set_cons_zero, List.set_cons_succ])
        refine late_L (i := 18) (d := (some 29)) (by kernel_rfl) rfl rfl (by kernel_rfl) (fun Kq hKq => ?_)
        refine step_apd 24 46 _ 4 40 Tryd.underlying24 infoP rfl (by omega) _ _ (by rfl) (by rfl) w.heap.size _ xs.length _ (by rfl) Hra.out #[.string Z, .int .i64 mn, .int .i64 1, .int .i64 xs.length] 1 1 (by rw [Hsz1.out]; rfl) (by rfl) Hon.out hmx hby Hsa.out ?_; intro v9 w9 hown9 hg9
        obtain ⟨zs, hzl, hze, hd9⟩ := Hsn.out v9 w9 hown9 hg9
        have Hg9 := Lib.hid (goodEq hze Hgs.out)
        clear hze
        obtain ⟨b9, cp9, rfl⟩ := hd9.nn
        have HD9 := Lib.hid hd9
        have Hzl := Lib.hid hzl
        clear hown9 hg9 hd9 hzl
        refine hKq.out _ _ ?_
        clear hKq Kq
        simp only [Act.put, List.setIfInBounds_toArray]
        refine late_L (i := 19) (d := (some 3)) (by kernel_rfl) rfl rfl (by kernel_rfl) (fun Kq hKq => ?_)
        go_simp
        refine hKq.out _ _ ?_
        clear hKq Kq
        refine done_L (by kernel_rfl) ?_ _
        refine NoPanic.normal ?_
        go_wp2_with fail
        go_roundw
        case rel => exact ⟨zs, by have := Hzl.out; omega, by rw [Hzl.out]; first | rfl | (congr 1; omega), Hg9.out, HD9.out⟩
        case measure => first | (simp [intOf]; done) | (simp [intOf]; omega)
    · have e0 : xs.length = M := by omega
      have hlt' : ¬ ((xs.length : Int) < (M : Int)) := by omega
      have Hz := Lib.hid (show RetWc M w (.returned (.slice (some ⟨b0, 0, none⟩) xs.length c0)) wr from ⟨_, xs, rfl, e0, hgd, hd⟩)
      clear hd e0
      go_wp2_with fail
      go_ret
      exact Hz.out
end Go.Proofs.YtepgfcjfdnakbaaDoor
/- Inventories, part 31: l21Bent (gen_pc31.py). -/
namespace Go.Proofs.YtepgfcjfdnakbaaDoor
open Go.RowKit Go.Joins

theorem flat_setF {α β : Type} (F : α → List β) (s : Nat) (hF : ∀ x, (F x).length = s) (f : Nat) (hf : f < s) (x' : α) (u : β) : ∀ (xs : List α) (i : Nat) (hi : i < xs.length), F x' = (F xs[i]).set f u → (xs.flatMap F).set (i * s + f) u = (xs.set i x').flatMap F
  | [], i, hi, _ => by simp at hi
  | x :: xs, 0, hi, h => by
    have h' : F x' = (F x).set f u := h
    rw [List.set_cons_zero, List.flatMap_cons, List.flatMap_cons, h', Nat.zero_mul, Nat.zero_add, List.set_append_left _ _ (by rw [hF]; exact hf)]
  | x :: xs, i + 1, hi, h => by
    have h' : F x' = (F (xs[i]'(by simpa using hi))).set f u := h
    rw [List.set_cons_succ, List.flatMap_cons, List.flatMap_cons, List.set_append_right _ _ (by rw [hF, Nat.succ_mul]; omega), hF,
      show (i + 1) * s + f - s = i * s + f by rw [Nat.succ_mul]; omega, flat_setF F s hF f hf x' u xs i (by simpa using hi) h']
theorem DrC.cellsAt {W w : World} {B g k b c : Nat} {bs : List UInt8} {xs : List Pc} (h : DrC W w B g k bs (.slice (some ⟨b, 0, none⟩) xs.length c) xs) (i : Nat) (hi : i < xs.length) :
    (w.cell? ⟨b, i * 4, none⟩ = some (.string xs[i].name) ∧ w.cell? ⟨b, i * 4 + 1, none⟩ = some (.int .i64 xs[i].par) ∧ w.cell? ⟨b, i * 4 + 2, none⟩ = some (.int .i64 xs[i].each) ∧ w.cell? ⟨b, i * 4 + 3, none⟩ = some (.int .i64 xs[i].price)) ∧
    w.frozen? ⟨b, i * 4, none⟩ = false ∧ w.frozen? ⟨b, i * 4 + 1, none⟩ = false ∧ w.frozen? ⟨b, i * 4 + 2, none⟩ = false ∧ w.frozen? ⟨b, i * 4 + 3, none⟩ = false := by
  have hat : ∀ j u, j < 4 → (cellsP xs[i])[j]? = some u → w.cell? ⟨b, i * 4 + j, none⟩ = some u := fun j u hj hu =>
    (h.dr.row.cellAt (i * 4 + j) (by omega)).trans ((flat_at cellsP 4 (fun _ => rfl) xs i j hi hj).trans hu)
  exact ⟨⟨hat 0 _ (by omega) rfl, hat 1 _ (by omega) rfl, hat 2 _ (by omega) rfl, hat 3 _ (by omega) rfl⟩, h.dr.row.frozenAt _, h.dr.row.frozenAt _, h.dr.row.frozenAt _, h.dr.row.frozenAt _⟩
theorem DrC.put {W w : World} {B g k b c : Nat} {bs : List UInt8} {xs : List Pc} (h : DrC W w B g k bs (.slice (some ⟨b, 0, none⟩) xs.length c) xs) (i : Nat) (hi : i < xs.length) (f : Nat) (hf : f < 4) (u : Value) (x' : Pc) (hx : x'.name.size ≤ 16) (hu : cellsP x' = (cellsP xs[i]).set f u) :
    ∃ zs, zs.length = xs.length ∧ DrC W (w.setCell ⟨b, i * 4 + f, none⟩ u) B g k bs (.slice (some ⟨b, 0, none⟩) xs.length c) zs := by
  obtain ⟨h1, g1⟩ := h.dr.row.stored (i * 4 + f) u
  rw [flat_setF cellsP 4 (fun _ => rfl) f hf x' u xs i hi hu] at h1
  refine ⟨xs.set i x', List.length_set, ⟨h.dr.app (by rw [List.length_set]; exact h1) g1, by rw [List.length_set]; exact h.len, fun y hy => ?_, ⟨b, c, by rw [List.length_set]⟩⟩⟩
  rcases List.mem_or_eq_of_mem_set hy with hy | rfl
  · exact h.sm y hy
  · exact hx
theorem DrC.ofOw {W w w' : World} {B g k : Nat} {bs : List UInt8} {v : Value} {xs : List Pc} (hs : SrcAt w B g k bs) (hg : W.grownBy w (some g)) (hl : g < W.heap.size) (h : OwC w w' v xs) (hn : xs.length ≤ 62) : DrC W w' B g k bs v xs :=
  ⟨⟨hl, hs.below h.bel, ownsRow_le h.row hg.size, grown_below hg h.bel⟩, hn, h.sm, h.nn⟩
theorem RetDc.of {w w' : World} {B g k n : Nat} {bs : List UInt8} {v : Value} {xs : List Pc} (h : DrC w w' B g k bs v xs) (hk : k ≤ n) : RetDc w B g n bs (.returned v) w' := ⟨v, xs, rfl, h.more hk⟩
def bentL : List ByteArray := [⟨#[]⟩, ⟨#[68, 114, 117, 109]⟩, ⟨#[109, 97, 99, 104, 105, 110, 101]⟩]
theorem bentL_sz : ∀ z ∈ bentL, z.size ≤ 16 := by decide
set_option maxRecDepth 100000 in
set_option maxHeartbeats 3200000 in
theorem l21Bent_any (B g k : Nat) (bs : List UInt8) (w : World) (hs : SrcAt w B g k bs) (hk : k + 300 ≤ 4611686018427380000) :
    Calls Tryd.prog 59 #[.pointer (some ⟨g, 0, none⟩)] w (RetDc w B g (k + 120) bs) := by
  have H := Lib.hid hs
  have hlt := hs.lt
  clear hs
  go_enter Tryd.func59, Tryd.ntmps59
  go_wp2_with fail
  refine (one_any B g _ bs 24 _ H.out (by omega)).mono ?_; rintro e w2 ⟨y, rfl, hs2, hg2⟩
  have Hs2 := Lib.hid hs2
  have Hg2 := Lib.hid hg2
  clear hs2 hg2 H
  cases y with
  | true =>
    go_wp2_with fail
    refine (pick_any B g _ bs 2 _ Hs2.out (by omega)).mono ?_; rintro e w3 ⟨x, rfl, ⟨hx0, hx1, _⟩, hs3, hg3⟩
    have hx2 := hx1 (by omega)
    obtain ⟨M, hM⟩ : ∃ M : Nat, 40 + x = (M : Int) := ⟨(40 + x).toNat, by omega⟩
    have hM60 : M ≤ 60 := by omega
    have Hs3 := Lib.hid hs3
    have Hg3 := Lib.hid (grown_trans Hg2.out hg3)
    clear hs3 hg3 hx1
    go_wp2_with fail
    (try rw [hM])
    refine (l21Wide_any M w3 hM60).mono ?_; rintro e w4 ⟨v4, xs, rfl, hxl, _, ho⟩
    have Hz := Lib.hid (RetDc.of (n := k + 120) (DrC.ofOw Hs3.out Hg3.out hlt ho (by omega)) (by omega))
    clear ho
    go_wp2_with fail
    go_ret
    exact Hz.out
  | false =>
    go_wp2_with fail
    refine (l21Draw_any B g _ bs _ Hs2.out (by omega)).mono ?_; rintro e w3 ⟨v3, xs, rfl, hx1, hx10, _, hd3⟩
    have HD3 := Lib.hid (hd3.from Hg2.out hlt)
    obtain ⟨b0, c0, rfl⟩ := hd3.nn
    clear hd3 Hs2
    go_wp2_with fail
    refine (pick_any B g _ bs _ _ HD3.out.dr.src (by omega)).mono ?_; rintro e wp ⟨x, rfl, ⟨hx0, hx2, hx3⟩, hs4, hg4⟩
    obtain ⟨i, rfl⟩ : ∃ i : Nat, x = i := ⟨x.toNat, by omega⟩
    have hi : i < xs.length := by
      by_cases h1 : xs.length = 1
      · have := hx3 (by omega); omega
      · have := hx2 (by omega); omega
    have hi' : (i : Int) < (xs.length : Int) := by omega
    have HD4 := Lib.hid (HD3.out.draw hs4 hg4)
    clear hs4 hg4 hx2 hx3 HD3
    go_wp2_with fail
    refine (pick_any B g _ bs 24 _ HD4.out.dr.src (by omega)).mono ?_; rintro e wq ⟨x, rfl, ⟨hx0, hx2, hx3⟩, hs5, hg5⟩
    have HD := Lib.hid (HD4.out.draw hs5 hg5)
    clear hs5 hg5 hx2 hx3 HD4
    by_cases e0 : x = 0
    · subst e0
      go_wp2_with fail
      refine (text_new B g _ 3 bentL bs wq HD.out.dr.src (by omega) rfl (by omega) (by omega)).mono ?_; rintro e w6 ⟨z, hz, rfl, hs6, hg6⟩
      have hz16 := bentL_sz z hz
      clear hz
      have HE := Lib.hid (HD.out.draw hs6 hg6)
      obtain ⟨⟨p0, p1, p2, p3⟩, q0, q1, q2, q3⟩ := HE.out.cellsAt i hi
      obtain ⟨zs, hzl, hd7⟩ := HE.out.put i hi 0 (by omega) (.string z) ⟨z, xs[i].par, xs[i].each, xs[i].price⟩ hz16 rfl
      have Hz := Lib.hid (RetDc.of (n := k + 120) hd7 (by omega))
      clear hs6 hg6 hd7 HD HE hzl
      go_wp2_with fail
      go_ret
      exact Hz.out
    have hbq0 : (x == 0) = false := by simpa using e0
    by_cases e1 : x = 1
    · subst e1
      go_wp2_with fail
      refine (among_in B g _ 5 [-2, -1, 0, (i : Int), 9223372036854775807] bs wq HD.out.dr.src (by omega) rfl (by omega) (by omega)).mono ?_; rintro e w6 ⟨z, _, rfl, hs6, hg6⟩
      have HE := Lib.hid (HD.out.draw hs6 hg6)
      obtain ⟨⟨p0, p1, p2, p3⟩, q0, q1, q2, q3⟩ := HE.out.cellsAt i hi
      obtain ⟨zs, hzl, hd7⟩ := HE.out.put i hi 1 (by omega) (.int .i64 z) ⟨xs[i].name, z, xs[i].each, xs[i].price⟩ (HE.out.sm xs[i] (List.getElem_mem hi)) rfl
      have Hz := Lib.hid (RetDc.of (n := k + 120) hd7 (by omega))
      clear hs6 hg6 hd7 HD HE hzl
      go_wp2_with fail
      go_ret
      exact Hz.out
    have hbq1 : (x == 1) = false := by simpa using e1
    by_cases e2 : x = 2
    · subst e2
      go_wp2_with fail
      refine (among_in B g _ 5 [0, 1, 100, 101, -9223372036854775808] bs wq HD.out.dr.src (by omega) rfl (by omega) (by omega)).mono ?_; rintro e w6 ⟨z, _, rfl, hs6, hg6⟩
      have HE := Lib.hid (HD.out.draw hs6 hg6)
      obtain ⟨⟨p0, p1, p2, p3⟩, q0, q1, q2, q3⟩ := HE.out.cellsAt i hi
      obtain ⟨zs, hzl, hd7⟩ := HE.out.put i hi 2 (by omega) (.int .i64 z) ⟨xs[i].name, xs[i].par, z, xs[i].price⟩ (HE.out.sm xs[i] (List.getElem_mem hi)) rfl
      have Hz := Lib.hid (RetDc.of (n := k + 120) hd7 (by omega))
      clear hs6 hg6 hd7 HD HE hzl
      go_wp2_with fail
      go_ret
      exact Hz.out
    have hbq2 : (x == 2) = false := by simpa using e2
    by_cases e3 : x = 3
    · subst e3
      go_wp2_with fail
      refine (among_in B g _ 4 [-1, 0, 1000000, 1000001] bs wq HD.out.dr.src (by omega) rfl (by omega) (by omega)).mono ?_; rintro e w6 ⟨z, _, rfl, hs6, hg6⟩
      have HE := Lib.hid (HD.out.draw hs6 hg6)
      obtain ⟨⟨p0, p1, p2, p3⟩, q0, q1, q2, q3⟩ := HE.out.cellsAt i hi
      obtain ⟨zs, hzl, hd7⟩ := HE.out.put i hi 3 (by omega) (.int .i64 z) ⟨xs[i].name, xs[i].par, xs[i].each, z⟩ (HE.out.sm xs[i] (List.getElem_mem hi)) rfl
      have Hz := Lib.hid (RetDc.of (n := k + 120) hd7 (by omega))
      clear hs6 hg6 hd7 HD HE hzl
      go_wp2_with fail
      go_ret
      exact Hz.out
    have hbq3 : (x == 3) = false := by simpa using e3
    by_cases e4 : x = 4
    · subst e4
      have Hz := Lib.hid (RetDc.of (n := k + 120) (DrC.ofOw (xs := []) (v := .slice (some ⟨wq.heap.size, 0, none⟩) 0 0) HD.out.dr.src HD.out.dr.gr hlt ⟨World.ownsRow_made (base := wq.heap.size) (e := 46) (size := 4) wq #[] 0 (Nat.le_refl _) (by simp [maxLen]) rfl, (Below.refl _ _).alloc (Nat.le_refl _) _, fun x hx => (by cases hx), _, _, rfl⟩ (by simp)) (by omega))
      clear HD
      go_wp2_with fail
      go_ret
      exact Hz.out
    have hbq4 : (x == 4) = false := by simpa using e4
    by_cases e5 : x = 5
    · subst e5
      clear hx1
      obtain ⟨L, hL⟩ : ∃ L, xs.length = L := ⟨_, rfl⟩
      rw [hL] at HD hi hi' hx10 ⊢
      go_wp2_with fail
      go_loopw [64] (fun o wr => ∃ (m : Nat) (zs : List Pc), m ≤ L ∧ zs.length = L ∧ o = .int .i64 (m : Int) ∧ DrC w wr B g (k + 2 + 82 + 2 + 2) bs (.slice (some ⟨b0, 0, none⟩) L c0) zs) (fun o _ => L - (intOf o).toNat)
      case atStart => exact ⟨0, xs, Nat.zero_le _, hL, rfl, HD.out⟩
      case round =>
        obtain ⟨m, zs, hm, hzl, rfl, hd⟩ := hrel
        clear HD
        by_cases hlm : m < L
        · have hlm' : (m : Int) < (L : Int) := by omega
          have hmz : m < zs.length := by omega
          rw [← hzl] at hd
          obtain ⟨⟨p0, p1, p2, p3⟩, q0, q1, q2, q3⟩ := hd.cellsAt m hmz
          obtain ⟨ys, hyl, hd7⟩ := hd.put m hmz 2 (by omega) (.int .i64 100) ⟨zs[m].name, zs[m].par, 100, zs[m].price⟩ (hd.sm zs[m] (List.getElem_mem hmz)) rfl
          rw [hzl] at hd7 hyl
          have HE := Lib.hid hd7
          have Hyl := Lib.hid hyl
          have Hzl := Lib.hid hzl
          clear hd hd7 hyl hL hzl
          go_wp2_with fail
          go_roundw
          case rel => exact ⟨m + 1, ys, by omega, Hyl.out, by go_num, HE.out⟩
          case measure => first | (simp [intOf]; done) | (simp [intOf]; omega)
        · obtain rfl : m = L := by omega
          have hlm' : ¬ ((m : Int) < (m : Int)) := by omega
          have Hz := Lib.hid (RetDc.of (n := k + 120) (show DrC w wr B g (k + 2 + 82 + 2 + 2) bs (.slice (some ⟨b0, 0, none⟩) m c0) zs from hd) (by omega))
          clear hd hL hzl
          go_wp2_with fail
          go_ret
          exact Hz.out
    have hbq5 : (x == 5) = false := by simpa using e5
    have Hz := Lib.hid (RetDc.of (n := k + 120) HD.out (by omega))
    go_wp2_with fail
    go_ret
    exact Hz.out
end Go.Proofs.YtepgfcjfdnakbaaDoor
/- Jobs, part 24: l22Bent (gen_jb24.py). -/
namespace Go.Proofs.YtepgfcjfdnakbaaDoor
open Go.RowKit Go.Joins
theorem DrJ.cellsAt {W w : World} {B g k b c : Nat} {bs : List UInt8} {ys : List (Jb × Value)} (h : DrJ W w B g k bs (.slice (some ⟨b, 0, none⟩) ys.length c) ys) (i : Nat) (hi : i < ys.length) :
    (w.cell? ⟨b, i * 4, none⟩ = some (.string ys[i].1.nm) ∧ w.cell? ⟨b, i * 4 + 1, none⟩ = some (.int .i64 ys[i].1.days) ∧ w.cell? ⟨b, i * 4 + 2, none⟩ = some (.int .i64 ys[i].1.cost) ∧ w.cell? ⟨b, i * 4 + 3, none⟩ = some ys[i].2) ∧
    w.frozen? ⟨b, i * 4, none⟩ = false ∧ w.frozen? ⟨b, i * 4 + 1, none⟩ = false ∧ w.frozen? ⟨b, i * 4 + 2, none⟩ = false ∧ w.frozen? ⟨b, i * 4 + 3, none⟩ = false := by
  have hat : ∀ j u, j < 4 → (cellsJ ys[i])[j]? = some u → w.cell? ⟨b, i * 4 + j, none⟩ = some u := fun j u hj hu =>
    (h.dr.row.cellAt (i * 4 + j) (by omega)).trans ((flat_at cellsJ 4 (fun _ => rfl) ys i j hi hj).trans hu)
  exact ⟨⟨hat 0 _ (by omega) rfl, hat 1 _ (by omega) rfl, hat 2 _ (by omega) rfl, hat 3 _ (by omega) rfl⟩, h.dr.row.frozenAt _, h.dr.row.frozenAt _, h.dr.row.frozenAt _, h.dr.row.frozenAt _⟩
/-- a job's cell is written; its needs are known -/
theorem DrJ.put {W w : World} {B g k b c : Nat} {bs : List UInt8} {ys : List (Jb × Value)} (h : DrJ W w B g k bs (.slice (some ⟨b, 0, none⟩) ys.length c) ys) (i : Nat) (hi : i < ys.length) (f : Nat) (hf : f < 4) (u : Value) (x' : Jb × Value) (hx : x'.1.nm.size ≤ 16 ∧ x'.1.needs.length ≤ 62) (hu : cellsJ x' = (cellsJ ys[i]).set f u)
    (hd : w.ownsRow W.heap.size 2 1 x'.2 x'.1.needs.length (intV x'.1.needs)) :
    ∃ zs, zs.length = ys.length ∧ DrJ W (w.setCell ⟨b, i * 4 + f, none⟩ u) B g k bs (.slice (some ⟨b, 0, none⟩) ys.length c) zs := by
  obtain ⟨h1, g1⟩ := h.dr.row.stored (i * 4 + f) u
  rw [flat_setF cellsJ 4 (fun _ => rfl) f hf x' u ys i hi hu] at h1
  refine ⟨ys.set i x', List.length_set, ⟨h.dr.app (by rw [List.length_set]; exact h1) g1, fun y hy => ?_, by rw [List.length_set]; exact h.len, fun y hy => ?_, ⟨b, c, by rw [List.length_set]⟩⟩⟩
  · rcases List.mem_or_eq_of_mem_set hy with hy | rfl
    · exact (h.nds y hy).kept g1 (apart_p (h.nds y hy) h.dr.row (by decide))
    · exact hd.kept g1 (apart_p hd h.dr.row (by decide))
  · rcases List.mem_or_eq_of_mem_set hy with hy | rfl
    · exact h.sm y hy
    · exact hx
/-- a job without needs comes to the list's end -/
theorem DrJ.snoc {W w w' : World} {B g k : Nat} {bs : List UInt8} {v v' : Value} {ys : List (Jb × Value)} {nm : ByteArray} {dd cc : Int} (h : DrJ W w B g k bs v ys) (hl : ys.length < 62) (hx : nm.size ≤ 16)
    (hr : w'.ownsRow W.heap.size 62 4 v' (ys.length + 1) (ys.flatMap cellsJ ++ (#[Value.string nm, .int .i64 dd, .int .i64 cc, .slice none 0 0] : Array Value).toList)) (hg : w.grownBy w' v.ownBlock) :
    ∃ zs, zs.length = ys.length + 1 ∧ DrJ W w' B g k bs v' zs := by
  have e : ys.flatMap cellsJ ++ (#[Value.string nm, .int .i64 dd, .int .i64 cc, .slice none 0 0] : Array Value).toList = (ys ++ [((⟨nm, dd, cc, []⟩ : Jb), Value.slice none 0 0)]).flatMap cellsJ := by
    rw [List.flatMap_append]; simp [cellsJ]
  rw [e] at hr
  have hlen : (ys ++ [((⟨nm, dd, cc, []⟩ : Jb), Value.slice none 0 0)]).length = ys.length + 1 := by simp
  refine ⟨_, hlen, ⟨h.dr.app (by rw [hlen]; exact hr) hg, fun y hy => ?_, by rw [hlen]; omega, fun y hy => ?_, ?_⟩⟩
  · rcases List.mem_append.1 hy with hy | hy
    · exact (h.nds y hy).kept hg (apart_p (h.nds y hy) h.dr.row (by decide))
    · rw [List.mem_singleton.1 hy]
      exact ⟨by simp [intV], .inl ⟨rfl, rfl⟩⟩
  · rcases List.mem_append.1 hy with hy | hy
    · exact h.sm y hy
    · rw [List.mem_singleton.1 hy]; exact ⟨hx, by show (0 : Nat) ≤ 62; omega⟩
  · obtain ⟨b, c, hv, _⟩ := own_posC hr (by omega)
    exact ⟨b, c, by rw [hv, hlen]⟩
theorem DrJ.none {W w : World} {B g k : Nat} {bs : List UInt8} (hs : SrcAt w B g k bs) (hg : W.grownBy w (some g)) (hl : g < W.heap.size) : DrJ W (w.alloc (.cells #[] 62)) B g k bs (.slice (some ⟨w.heap.size, 0, none⟩) 0 0) [] :=
  ⟨(DrR.made hs 62 4).from hg hl, fun y hy => (by cases hy), by simp, fun x hx => (by cases hx), _, _, rfl⟩
def RetJl (w : World) (B g k : Nat) (bs : List UInt8) (e : Ending) (w' : World) : Prop := ∃ v ys, e = .returned v ∧ ys.length ≤ 31 ∧ DrJ w w' B g k bs v ys
theorem RetJl.of {w w' : World} {B g k n : Nat} {bs : List UInt8} {v : Value} {ys : List (Jb × Value)} (h : DrJ w w' B g k bs v ys) (hl : ys.length ≤ 31) (hk : k ≤ n) : RetJl w B g n bs (.returned v) w' := ⟨v, ys, rfl, hl, h.more hk⟩
def bentJ : List ByteArray := [⟨#[]⟩, ⟨#[67, 108, 101, 97, 110]⟩, ⟨#[99, 108, 101, 97, 110]⟩]
theorem bentJ_sz : ∀ z ∈ bentJ, z.size ≤ 16 := by decide
set_option maxRecDepth 100000 in
set_option maxHeartbeats 6400000 in
theorem l22Bent_any (B g k : Nat) (bs : List UInt8) (w : World) (hs : SrcAt w B g k bs) (hk : k + 800 ≤ 4611686018427380000) :
    Calls Tryd.prog 77 #[.pointer (some ⟨g, 0, none⟩)] w (RetJl w B g (k + 300) bs) := by
  have hlt := hs.lt
  have HC := Lib.hid (l22Draw_any B g k bs w hs (by omega))
  clear hs
  go_enter Tryd.func77, Tryd.ntmps77
  go_wp2_with fail
  refine HC.out.mono ?_; rintro e w1 ⟨v1, ys, rfl, hy9, hd1⟩
  obtain ⟨b0, c0, rfl⟩ := hd1.nn
  have HD1 := Lib.hid hd1
  clear hd1 HC
  go_wp2_with fail
  refine (one_any B g _ bs 24 _ HD1.out.dr.src (by omega)).mono ?_; rintro e w2 ⟨tb, rfl, hs2, hg2⟩
  have HD2 := Lib.hid (HD1.out.draw hs2 hg2)
  clear hs2 hg2 HD1
  cases tb with
  | false =>
    have HD3 := Lib.hid (HD2.out.more (k' := k + 206) (by omega))
    have hy31 : ys.length ≤ 31 := by omega
    clear HD2 hy9
    generalize w2 = wn at *
    by_cases hn0 : ys.length = 0
    · have Hz := Lib.hid (RetJl.of (n := k + 300) HD3.out hy31 (by omega))
      have hn0' : ((ys.length : Int) == 0) = true := by rw [hn0]; rfl
      have Hn0 := Lib.hid hn0
      clear hn0
      go_wp2_with fail
      go_ret
      exact Hz.out
    have hn0' : ((ys.length : Int) == 0) = false := beq_eq_false_iff_ne.2 (by omega)
    go_wp2_with fail
    refine (pick_any B g _ bs _ _ HD3.out.dr.src (by omega)).mono ?_; rintro e wp ⟨x, rfl, ⟨hx0, hx2, hx3⟩, hs4, hg4⟩
    obtain ⟨i, rfl⟩ : ∃ i : Nat, x = i := ⟨x.toNat, by omega⟩
    have hi : i < ys.length := by
      by_cases h1 : ys.length = 1
      · have := hx3 (by omega); omega
      · have := hx2 (by omega); omega
    have hi' : (i : Int) < (ys.length : Int) := by omega
    have HD4 := Lib.hid (HD3.out.draw hs4 hg4)
    clear hs4 hg4 hx2 hx3 HD3 hn0 hn0'
    go_wp2_with fail
    refine (pick_any B g _ bs 24 _ HD4.out.dr.src (by omega)).mono ?_; rintro e wq ⟨x, rfl, ⟨hx0, hx2, hx3⟩, hs5, hg5⟩
    have HD := Lib.hid (HD4.out.draw hs5 hg5)
    clear hs5 hg5 hx2 hx3 HD4
    by_cases e0 : x = 0
    · subst e0
      go_wp2_with fail
      refine (text_new B g _ 3 bentJ bs wq HD.out.dr.src (by omega) rfl (by omega) (by omega)).mono ?_; rintro e w6 ⟨z, hz, rfl, hs6, hg6⟩
      have HE := Lib.hid (HD.out.draw hs6 hg6)
      obtain ⟨⟨p0, p1, p2, p3⟩, q0, q1, q2, q3⟩ := HE.out.cellsAt i hi
      obtain ⟨zs, hzl, hd7⟩ := HE.out.put i hi 0 (by omega) (.string z) (⟨z, ys[i].1.days, ys[i].1.cost, ys[i].1.needs⟩, ys[i].2) ⟨bentJ_sz z hz, (HE.out.sm ys[i] (List.getElem_mem hi)).2⟩ rfl (HE.out.nds ys[i] (List.getElem_mem hi))
      have Hz := Lib.hid (RetJl.of (n := k + 300) hd7 (by omega) (by omega))
      clear hs6 hg6 hd7 HD HE hzl
      go_wp2_with fail
      go_ret
      exact Hz.out
    have hbq0 : (x == 0) = false := by simpa using e0
    by_cases e1 : x = 1
    · subst e1
      go_wp2_with fail
      refine (among_in B g _ 5 [0, 1, 60, 61, -9223372036854775808] bs wq HD.out.dr.src (by omega) rfl (by omega) (by omega)).mono ?_; rintro e w6 ⟨z, _, rfl, hs6, hg6⟩
      have HE := Lib.hid (HD.out.draw hs6 hg6)
      obtain ⟨⟨p0, p1, p2, p3⟩, q0, q1, q2, q3⟩ := HE.out.cellsAt i hi
      obtain ⟨zs, hzl, hd7⟩ := HE.out.put i hi 1 (by omega) (.int .i64 z) (⟨ys[i].1.nm, z, ys[i].1.cost, ys[i].1.needs⟩, ys[i].2) (HE.out.sm ys[i] (List.getElem_mem hi)) rfl (HE.out.nds ys[i] (List.getElem_mem hi))
      have Hz := Lib.hid (RetJl.of (n := k + 300) hd7 (by omega) (by omega))
      clear hs6 hg6 hd7 HD HE hzl
      go_wp2_with fail
      go_ret
      exact Hz.out
    have hbq1 : (x == 1) = false := by simpa using e1
    by_cases e2 : x = 2
    · subst e2
      go_wp2_with fail
      refine (among_in B g _ 4 [-1, 0, 1000000, 1000001] bs wq HD.out.dr.src (by omega) rfl (by omega) (by omega)).mono ?_; rintro e w6 ⟨z, _, rfl, hs6, hg6⟩
      have HE := Lib.hid (HD.out.draw hs6 hg6)
      obtain ⟨⟨p0, p1, p2, p3⟩, q0, q1, q2, q3⟩ := HE.out.cellsAt i hi
      obtain ⟨zs, hzl, hd7⟩ := HE.out.put i hi 2 (by omega) (.int .i64 z) (⟨ys[i].1.nm, ys[i].1.days, z, ys[i].1.needs⟩, ys[i].2) (HE.out.sm ys[i] (List.getElem_mem hi)) rfl (HE.out.nds ys[i] (List.getElem_mem hi))
      have Hz := Lib.hid (RetJl.of (n := k + 300) hd7 (by omega) (by omega))
      clear hs6 hg6 hd7 HD HE hzl
      go_wp2_with fail
      go_ret
      exact Hz.out
    have hbq2 : (x == 2) = false := by simpa using e2
    by_cases e3 : x = 3
    · subst e3
      go_wp2_with fail
      refine (pick_any B g _ bs 4 _ HD.out.dr.src (by omega)).mono ?_; rintro e w6 ⟨z, rfl, ⟨_, _, _⟩, hs6, hg6⟩
      have HE := Lib.hid (HD.out.draw hs6 hg6)
      have hal := (Below.refl w6.heap.size w6).alloc (Nat.le_refl _) (.cells #[.int .i64 z, .int .i64 (i : Int)] 2)
      have HF := Lib.hid (HE.out.below hal)
      have hrow := World.ownsRow_lit (base := w.heap.size) (e := 2) (size := 1) w6 #[.int .i64 z, .int .i64 (i : Int)] 2 HE.out.dr.gr.size (by simp [maxLen]) rfl
      obtain ⟨⟨p0, p1, p2, p3⟩, q0, q1, q2, q3⟩ := HF.out.cellsAt i hi
      obtain ⟨zs, hzl, hd7⟩ := HF.out.put i hi 3 (by omega) (.slice (some ⟨w6.heap.size, 0, none⟩) 2 2) (⟨ys[i].1.nm, ys[i].1.days, ys[i].1.cost, [z, (i : Int)]⟩, .slice (some ⟨w6.heap.size, 0, none⟩) 2 2) ⟨(HF.out.sm ys[i] (List.getElem_mem hi)).1, by show (2 : Nat) ≤ 62; omega⟩ rfl hrow
      have Hz := Lib.hid (RetJl.of (n := k + 300) hd7 (by omega) (by omega))
      clear hs6 hg6 hd7 HD HE hzl hrow hal HF
      go_wp2_with fail
      go_ret
      exact Hz.out
    have hbq3 : (x == 3) = false := by simpa using e3
    by_cases e4 : x = 4
    · subst e4
      obtain ⟨L, hL⟩ : ∃ L, ys.length = L := ⟨_, rfl⟩
      rw [hL] at HD hi hi' hy31 ⊢
      go_wp2_with fail
      go_loopw [88] (fun o wr => ∃ (m : Nat) (zs : List (Jb × Value)), m ≤ L ∧ zs.length = L ∧ o = .int .i64 (m : Int) ∧ DrJ w wr B g (k + 206 + 2 + 2 + 2 * m) bs (.slice (some ⟨b0, 0, none⟩) L c0) zs) (fun o _ => L - (intOf o).toNat)
      case atStart => exact ⟨0, ys, Nat.zero_le _, hL, rfl, HD.out⟩
      case round =>
        obtain ⟨m, zs, hm, hzl, rfl, hd⟩ := hrel
        have HDm := Lib.hid hd
        have Hzl := Lib.hid hzl
        clear HD hd hzl hL
        by_cases hlm : m < L
        · have hlm' : (m : Int) < (L : Int) := by omega
          go_wp2_with fail
          refine (pick_any B g _ bs 3 _ HDm.out.dr.src (by omega)).mono ?_; rintro e w6 ⟨z, rfl, ⟨hz0, hz1, _⟩, hs6, hg6⟩
          have hz2 := hz1 (by omega)
          have hd := HDm.out.draw hs6 hg6
          have hmz : m < zs.length := by rw [Hzl.out]; exact hlm
          rw [← Hzl.out] at hd
          obtain ⟨⟨p0, p1, p2, p3⟩, q0, q1, q2, q3⟩ := hd.cellsAt m hmz
          obtain ⟨us, hyl, hd7⟩ := hd.put m hmz 1 (by omega) (.int .i64 (44 + z)) (⟨zs[m].1.nm, 44 + z, zs[m].1.cost, zs[m].1.needs⟩, zs[m].2) (hd.sm zs[m] (List.getElem_mem hmz)) rfl (hd.nds zs[m] (List.getElem_mem hmz))
          rw [Hzl.out] at hd7 hyl
          have HE := Lib.hid hd7
          have Hyl := Lib.hid hyl
          have hwz : IntKind.i64.wrap (44 + z) = 44 + z := IntWalk.i64_in _ (by omega)
          clear hd hd7 hyl hs6 hg6 hz1 HDm
          go_wp2_with fail
          go_roundw
          case rel => exact ⟨m + 1, us, by omega, Hyl.out, by go_num, HE.out.more (by omega)⟩
          case measure => first | (simp [intOf]; done) | (simp [intOf]; omega)
        · obtain rfl : m = L := by omega
          have hlm' : ¬ ((m : Int) < (m : Int)) := by omega
          have Hz := Lib.hid (RetJl.of (n := k + 300) HDm.out (by rw [Hzl.out]; exact hy31) (by omega))
          clear HDm
          go_wp2_with fail
          go_ret
          exact Hz.out
    have hbq4 : (x == 4) = false := by simpa using e4
    have Hz := Lib.hid (RetJl.of (n := k + 300) HD.out hy31 (by omega))
    go_wp2_with fail
    go_ret
    exact Hz.out
  | true =>
    have HN0 := Lib.hid (DrJ.none HD2.out.dr.src HD2.out.dr.gr hlt)
    clear HD2 hy9
    go_wp2_with fail
    refine (pick_any B g _ bs 2 _ HN0.out.dr.src (by omega)).mono ?_; rintro e w3 ⟨x, rfl, ⟨hx0, hx1, _⟩, hs3, hg3⟩
    have HD3 := Lib.hid ((HN0.out.draw hs3 hg3).more (k' := k + 206) (by omega))
    have hx2 := hx1 (by omega)
    obtain ⟨M, hM⟩ : ∃ M : Nat, 30 + x = (M : Int) := ⟨(30 + x).toNat, by omega⟩
    have hM31 : M ≤ 31 := by omega
    clear hs3 hg3 hx1 HN0
    go_wp2_with fail
    (try rw [hM])
    clear hM hx0 hx2
    go_loopw [3, 4] (fun o i wr => ∃ (j : Nat) (ys : List (Jb × Value)), j + ys.length = M ∧ i = .int .i64 (j : Int) ∧ DrJ w wr B g (k + 206) bs o ys) (fun _ i _ => (intOf i).toNat)
    case atStart => exact ⟨M, [], by simp, rfl, HD3.out⟩
    case round =>
      obtain ⟨j, ys, hjm, rfl, hd⟩ := hrel
      obtain ⟨b0, c0, rfl⟩ := hd.nn
      have HD := Lib.hid hd
      clear HD3 hd
      by_cases hj : 0 < j
      · have hj' : (0 : Int) < (j : Int) := by omega
        have hjj : (j : Int) - 1 = ((j - 1 : Nat) : Int) := by omega
        have Hjj := Lib.hid hjj
        have Hjm := Lib.hid hjm
        have hyl : ys.length < 31 := by omega
        have hj31 : (j : Int) ≤ 31 := by omega
        have HDx := HD
        obtain ⟨c1, hc1⟩ : ∃ c : UInt8, (c.toNat : Int) = 97 + (ys.length : Int) / 26 := ⟨UInt8.ofNat (97 + ys.length / 26), by simp; omega⟩
        obtain ⟨c2, hc2⟩ : ∃ c : UInt8, (c.toNat : Int) = 97 + (ys.length : Int) % 26 := ⟨UInt8.ofNat (97 + ys.length % 26), by simp; omega⟩
        have hj0 : (0 : Int) ≤ (ys.length : Int) := by omega
        have htm : (ys.length : Int).tmod 26 = (ys.length : Int) % 26 := Int.tmod_eq_emod_of_nonneg hj0
        have f1 : IntKind.i64.wrap ((ys.length : Int) / 26) = (ys.length : Int) / 26 := IntWalk.i64_in _ (by omega)
        have f2 : IntKind.i64.wrap (97 + (ys.length : Int) / 26) = 97 + (ys.length : Int) / 26 := IntWalk.i64_in _ (by omega)
        have f3 : IntKind.u8.wrap (97 + (ys.length : Int) / 26) = (c1.toNat : Int) := by rw [← hc1]; exact IntWalk.u8_in _ (by omega)
        have f4 : IntKind.i64.wrap (97 + (ys.length : Int).tmod 26) = 97 + (ys.length : Int).tmod 26 := by rw [htm]; exact IntWalk.i64_in _ (by omega)
        have f5 : IntKind.u8.wrap (97 + (ys.length : Int).tmod 26) = (c2.toNat : Int) := by rw [htm, ← hc2]; exact IntWalk.u8_in _ (by omega)
        have hcv := run_convert_bytes_back (P := Tryd.prog) (wr.alloc (.cells #[.int .u8 (c1.toNat : Int), .int .u8 (c2.toNat : Int)] 5)) 22 9 5 ⟨wr.heap.size, 0, none⟩ 2 [c1, c2] Tryd.underlying22 Tryd.underlying5 Tryd.underlying9 (fun i hi => by
          have hi2 : i < 2 := hi
          exact new_cells wr #[.int .u8 (c1.toNat : Int), .int .u8 (c2.toNat : Int)] 5 i _ (by
            rcases (show i = 0 ∨ i = 1 by omega) with rfl | rfl <;> rfl))
        have hcv : (convert 22 9 (.slice (some ⟨wr.heap.size, 0, none⟩) 2 2)).run Tryd.prog (wr.alloc (.cells #[.int .u8 (c1.toNat : Int), .int .u8 (97 + (ys.length : Int) % 26)] 5)) = .ok (.string ⟨#[c1, c2]⟩) (wr.alloc (.cells #[.int .u8 (c1.toNat : Int), .int .u8 (97 + (ys.length : Int) % 26)] 5)) := by rw [← hc2]; exact hcv
        obtain ⟨Z, hZ⟩ : ∃ z : ByteArray, (⟨#[106]⟩ : ByteArray) ++ ⟨#[c1, c2]⟩ = z := ⟨_, rfl⟩
        have hZs : Z.size ≤ 16 := by rw [← hZ]; show 3 ≤ 16; omega
        have HDa := Lib.hid (HDx.out.below ((Below.refl wr.heap.size wr).alloc (Nat.le_refl _) (.cells #[.int .u8 (c1.toNat : Int), .int .u8 (97 + (ys.length : Int) % 26)] 5)))
        have Hra := Lib.hid HDa.out.dr.row
        have Hsa := Lib.hid HDa.out.dr.gr.size
        have Hsz1 := Lib.hid (show (wr.alloc (.cells #[.int .u8 (c1.toNat : Int), .int .u8 (97 + (ys.length : Int) % 26)] 5)).heap.size = wr.heap.size + 1 by simp)
        have Hsn := Lib.hid (fun (v' : Value) (w' : World) hr hg => HDa.out.snoc (w' := w') (v' := v') (nm := Z) (dd := 13) (cc := 0) (by omega) hZs hr hg)
        have Hon := Lib.hid (ones4J Z 13 0 none 0 0)
        clear hc1 hc2 htm hZs HD HDx hjj hjm
        go_wp2_with (at_builtin; refine wpList_apd 47 62 _ 4 56 Tryd.underlying47 infoJ rfl (by omega) _ _ rfl rfl w.heap.size _ ys.length _ rfl Hra.out #[.string Z, .int .i64 13, .int .i64 0, .slice none 0 0] 1 1 (by rw [Hsz1.out]; rfl) rfl Hon.out (by simp [maxLen]; omega) (by omega) Hsa.out ?_; intro v9 w9 hown9 hg9; obtain ⟨zs, hzl, hd9⟩ := Hsn.out v9 w9 hown9 hg9; have Hzl := Lib.hid hzl; obtain ⟨b9, c9, rfl⟩ := hd9.nn; have HM9 := Lib.hid hd9; clear hown9 hg9 hzl hd9)
        go_roundw
        case rel => exact ⟨j - 1, zs, by have := Hjm.out; have := Hzl.out; omega, by rw [Hjj.out], HM9.out⟩
        case measure => simp [intOf]; omega
      · have hj0 : j = 0 := by omega
        subst hj0
        have HD3 := HD
        have hy31 : ys.length ≤ 31 := by omega
        clear HD
        generalize wr = wn at *
        by_cases hn0 : ys.length = 0
        · have Hz := Lib.hid (RetJl.of (n := k + 300) HD3.out hy31 (by omega))
          have hn0' : ((ys.length : Int) == 0) = true := by rw [hn0]; rfl
          have Hn0 := Lib.hid hn0
          clear hn0
          go_wp2_with fail
          go_ret
          exact Hz.out
        have hn0' : ((ys.length : Int) == 0) = false := beq_eq_false_iff_ne.2 (by omega)
        go_wp2_with fail
        refine (pick_any B g _ bs _ _ HD3.out.dr.src (by omega)).mono ?_; rintro e wp ⟨x, rfl, ⟨hx0, hx2, hx3⟩, hs4, hg4⟩
        obtain ⟨i, rfl⟩ : ∃ i : Nat, x = i := ⟨x.toNat, by omega⟩
        have hi : i < ys.length := by
          by_cases h1 : ys.length = 1
          · have := hx3 (by omega); omega
          · have := hx2 (by omega); omega
        have hi' : (i : Int) < (ys.length : Int) := by omega
        have HD4 := Lib.hid (HD3.out.draw hs4 hg4)
        clear hs4 hg4 hx2 hx3 HD3 hn0 hn0'
        go_wp2_with fail
        refine (pick_any B g _ bs 24 _ HD4.out.dr.src (by omega)).mono ?_; rintro e wq ⟨x, rfl, ⟨hx0, hx2, hx3⟩, hs5, hg5⟩
        have HD := Lib.hid (HD4.out.draw hs5 hg5)
        clear hs5 hg5 hx2 hx3 HD4
        by_cases e0 : x = 0
        · subst e0
          go_wp2_with fail
          refine (text_new B g _ 3 bentJ bs wq HD.out.dr.src (by omega) rfl (by omega) (by omega)).mono ?_; rintro e w6 ⟨z, hz, rfl, hs6, hg6⟩
          have HE := Lib.hid (HD.out.draw hs6 hg6)
          obtain ⟨⟨p0, p1, p2, p3⟩, q0, q1, q2, q3⟩ := HE.out.cellsAt i hi
          obtain ⟨zs, hzl, hd7⟩ := HE.out.put i hi 0 (by omega) (.string z) (⟨z, ys[i].1.days, ys[i].1.cost, ys[i].1.needs⟩, ys[i].2) ⟨bentJ_sz z hz, (HE.out.sm ys[i] (List.getElem_mem hi)).2⟩ rfl (HE.out.nds ys[i] (List.getElem_mem hi))
          have Hz := Lib.hid (RetJl.of (n := k + 300) hd7 (by omega) (by omega))
          clear hs6 hg6 hd7 HD HE hzl
          go_wp2_with fail
          go_ret
          exact Hz.out
        have hbq0 : (x == 0) = false := by simpa using e0
        by_cases e1 : x = 1
        · subst e1
          go_wp2_with fail
          refine (among_in B g _ 5 [0, 1, 60, 61, -9223372036854775808] bs wq HD.out.dr.src (by omega) rfl (by omega) (by omega)).mono ?_; rintro e w6 ⟨z, _, rfl, hs6, hg6⟩
          have HE := Lib.hid (HD.out.draw hs6 hg6)
          obtain ⟨⟨p0, p1, p2, p3⟩, q0, q1, q2, q3⟩ := HE.out.cellsAt i hi
          obtain ⟨zs, hzl, hd7⟩ := HE.out.put i hi 1 (by omega) (.int .i64 z) (⟨ys[i].1.nm, z, ys[i].1.cost, ys[i].1.needs⟩, ys[i].2) (HE.out.sm ys[i] (List.getElem_mem hi)) rfl (HE.out.nds ys[i] (List.getElem_mem hi))
          have Hz := Lib.hid (RetJl.of (n := k + 300) hd7 (by omega) (by omega))
          clear hs6 hg6 hd7 HD HE hzl
          go_wp2_with fail
          go_ret
          exact Hz.out
        have hbq1 : (x == 1) = false := by simpa using e1
        by_cases e2 : x = 2
        · subst e2
          go_wp2_with fail
          refine (among_in B g _ 4 [-1, 0, 1000000, 1000001] bs wq HD.out.dr.src (by omega) rfl (by omega) (by omega)).mono ?_; rintro e w6 ⟨z, _, rfl, hs6, hg6⟩
          have HE := Lib.hid (HD.out.draw hs6 hg6)
          obtain ⟨⟨p0, p1, p2, p3⟩, q0, q1, q2, q3⟩ := HE.out.cellsAt i hi
          obtain ⟨zs, hzl, hd7⟩ := HE.out.put i hi 2 (by omega) (.int .i64 z) (⟨ys[i].1.nm, ys[i].1.days, z, ys[i].1.needs⟩, ys[i].2) (HE.out.sm ys[i] (List.getElem_mem hi)) rfl (HE.out.nds ys[i] (List.getElem_mem hi))
          have Hz := Lib.hid (RetJl.of (n := k + 300) hd7 (by omega) (by omega))
          clear hs6 hg6 hd7 HD HE hzl
          go_wp2_with fail
          go_ret
          exact Hz.out
        have hbq2 : (x == 2) = false := by simpa using e2
        by_cases e3 : x = 3
        · subst e3
          go_wp2_with fail
          refine (pick_any B g _ bs 4 _ HD.out.dr.src (by omega)).mono ?_; rintro e w6 ⟨z, rfl, ⟨_, _, _⟩, hs6, hg6⟩
          have HE := Lib.hid (HD.out.draw hs6 hg6)
          have hal := (Below.refl w6.heap.size w6).alloc (Nat.le_refl _) (.cells #[.int .i64 z, .int .i64 (i : Int)] 2)
          have HF := Lib.hid (HE.out.below hal)
          have hrow := World.ownsRow_lit (base := w.heap.size) (e := 2) (size := 1) w6 #[.int .i64 z, .int .i64 (i : Int)] 2 HE.out.dr.gr.size (by simp [maxLen]) rfl
          obtain ⟨⟨p0, p1, p2, p3⟩, q0, q1, q2, q3⟩ := HF.out.cellsAt i hi
          obtain ⟨zs, hzl, hd7⟩ := HF.out.put i hi 3 (by omega) (.slice (some ⟨w6.heap.size, 0, none⟩) 2 2) (⟨ys[i].1.nm, ys[i].1.days, ys[i].1.cost, [z, (i : Int)]⟩, .slice (some ⟨w6.heap.size, 0, none⟩) 2 2) ⟨(HF.out.sm ys[i] (List.getElem_mem hi)).1, by show (2 : Nat) ≤ 62; omega⟩ rfl hrow
          have Hz := Lib.hid (RetJl.of (n := k + 300) hd7 (by omega) (by omega))
          clear hs6 hg6 hd7 HD HE hzl hrow hal HF
          go_wp2_with fail
          go_ret
          exact Hz.out
        have hbq3 : (x == 3) = false := by simpa using e3
        by_cases e4 : x = 4
        · subst e4
          obtain ⟨L, hL⟩ : ∃ L, ys.length = L := ⟨_, rfl⟩
          rw [hL] at HD hi hi' hy31 ⊢
          go_wp2_with fail
          go_loopw [88] (fun o wr => ∃ (m : Nat) (zs : List (Jb × Value)), m ≤ L ∧ zs.length = L ∧ o = .int .i64 (m : Int) ∧ DrJ w wr B g (k + 206 + 2 + 2 + 2 * m) bs (.slice (some ⟨b0, 0, none⟩) L c0) zs) (fun o _ => L - (intOf o).toNat)
          case atStart => exact ⟨0, ys, Nat.zero_le _, hL, rfl, HD.out⟩
          case round =>
            obtain ⟨m, zs, hm, hzl, rfl, hd⟩ := hrel
            have HDm := Lib.hid hd
            have Hzl := Lib.hid hzl
            clear HD hd hzl hL
            by_cases hlm : m < L
            · have hlm' : (m : Int) < (L : Int) := by omega
              go_wp2_with fail
              refine (pick_any B g _ bs 3 _ HDm.out.dr.src (by omega)).mono ?_; rintro e w6 ⟨z, rfl, ⟨hz0, hz1, _⟩, hs6, hg6⟩
              have hz2 := hz1 (by omega)
              have hd := HDm.out.draw hs6 hg6
              have hmz : m < zs.length := by rw [Hzl.out]; exact hlm
              rw [← Hzl.out] at hd
              obtain ⟨⟨p0, p1, p2, p3⟩, q0, q1, q2, q3⟩ := hd.cellsAt m hmz
              obtain ⟨us, hyl, hd7⟩ := hd.put m hmz 1 (by omega) (.int .i64 (44 + z)) (⟨zs[m].1.nm, 44 + z, zs[m].1.cost, zs[m].1.needs⟩, zs[m].2) (hd.sm zs[m] (List.getElem_mem hmz)) rfl (hd.nds zs[m] (List.getElem_mem hmz))
              rw [Hzl.out] at hd7 hyl
              have HE := Lib.hid hd7
              have Hyl := Lib.hid hyl
              have hwz : IntKind.i64.wrap (44 + z) = 44 + z := IntWalk.i64_in _ (by omega)
              clear hd hd7 hyl hs6 hg6 hz1 HDm
              go_wp2_with fail
              go_roundw
              case rel => exact ⟨m + 1, us, by omega, Hyl.out, by go_num, HE.out.more (by omega)⟩
              case measure => first | (simp [intOf]; done) | (simp [intOf]; omega)
            · obtain rfl : m = L := by omega
              have hlm' : ¬ ((m : Int) < (m : Int)) := by omega
              have Hz := Lib.hid (RetJl.of (n := k + 300) HDm.out (by rw [Hzl.out]; exact hy31) (by omega))
              clear HDm
              go_wp2_with fail
              go_ret
              exact Hz.out
        have hbq4 : (x == 4) = false := by simpa using e4
        have Hz := Lib.hid (RetJl.of (n := k + 300) HD.out hy31 (by omega))
        go_wp2_with fail
        go_ret
        exact Hz.out
end Go.Proofs.YtepgfcjfdnakbaaDoor
/- Inventories, part 32: l21At, l21Stocks (gen_pc32.py). -/
namespace Go.Proofs.YtepgfcjfdnakbaaDoor
open Go.RowKit Go.Joins

def RetLa (w : World) (B g k : Nat) (bs : List UInt8) (e : Ending) (w' : World) : Prop := ∃ v xs, ∃ z : Int, e = .returned (.tuple #[v, .int .i64 z]) ∧ DrC w w' B g k bs v xs
set_option maxRecDepth 100000 in
set_option maxHeartbeats 1600000 in
theorem l21At_any (B g k : Nat) (bs : List UInt8) (w : World) (hs : SrcAt w B g k bs) (hk : k + 400 ≤ 4611686018427380000) :
    Calls Tryd.prog 51 #[.pointer (some ⟨g, 0, none⟩)] w (RetLa w B g (k + 130) bs) := by
  have H := Lib.hid hs
  clear hs
  go_enter Tryd.func51, Tryd.ntmps51
  go_wp2_with fail
  refine (l21Bent_any B g _ bs _ H.out (by omega)).mono ?_; rintro e w1 ⟨v, xs, rfl, hd1⟩
  obtain ⟨b0, c0, rfl⟩ := hd1.nn
  have HD1 := Lib.hid hd1
  have hl := hd1.len
  clear hd1 H
  have hwl : IntKind.i64.wrap ((xs.length : Int) + 1) = (xs.length : Int) + 1 := IntWalk.i64_in _ (by omega)
  go_wp2_with fail
  refine (pick_any B g _ bs _ _ HD1.out.dr.src (by omega)).mono ?_; rintro e w2 ⟨x, rfl, ⟨hx0, hx1, hx2⟩, hs2, hg2⟩
  have hxb : x ≤ 62 := by
    by_cases h0 : xs.length = 0
    · have := hx2 (by omega); omega
    · have := hx1 (by omega); omega
  have HD2 := Lib.hid (HD1.out.draw hs2 hg2)
  clear hs2 hg2 hx1 hx2 HD1 hwl
  go_wp2_with fail
  refine (pick_any B g _ bs 16 _ HD2.out.dr.src (by omega)).mono ?_; rintro e w3 ⟨y, rfl, ⟨hy0, hy1, _⟩, hs3, hg3⟩
  have hyb := hy1 (by omega)
  have HD3 := Lib.hid (HD2.out.draw hs3 hg3)
  obtain ⟨q, hq⟩ : ∃ q, y / 15 = q := ⟨_, rfl⟩
  have hqb : 0 ≤ q ∧ q ≤ 1 := by omega
  have hwq : IntKind.i64.wrap q = q := IntWalk.i64_in _ (by omega)
  have hws : IntKind.i64.wrap (x - q) = x - q := IntWalk.i64_in _ (by omega)
  clear hs3 hg3 hy1 HD2
  have Hz := Lib.hid (show RetLa w B g (k + 130) bs (.returned (.tuple #[.slice (some ⟨b0, 0, none⟩) xs.length c0, .int .i64 (x - q)])) w3 from ⟨_, xs, _, rfl, HD3.out.more (by omega)⟩)
  go_wp2_with fail
  go_ret2
  (try rw [hq, hwq, hws])
  exact Hz.out

theorem tab_snocP (n : Nat) (f : Nat → Int) (y : Int) : tab n f ++ (#[Value.int .i64 y] : Array Value).toList = tab (n + 1) (put f n y) := by
  rw [tab_succ]
  congr 1
  · exact tab_congr fun i hi => by unfold put; rw [if_neg (by omega)]
  · unfold put; rw [if_pos rfl]
theorem own_keptA {w w' : World} {b1 b2 s1 s2 n1 n2 : Nat} {e1 e2 : TypeId} {v1 v2 : Value} {x1 x2 : List Value} (h1 : w.ownsRow b1 e1 s1 v1 n1 x1) (h2 : w.ownsRow b2 e2 s2 v2 n2 x2) (he : e1 ≠ e2) (hg : w.grownBy w' v2.ownBlock) : w'.ownsRow b1 e1 s1 v1 n1 x1 :=
  h1.kept hg (apart_p h1 h2 he)
/-- a drawn list of pieces and a drawn stock -/
structure DrS (W w : World) (B g k : Nat) (bs : List UInt8) (v : Value) (xs : List Pc) (vs : Value) (n : Nat) (f : Nat → Int) : Prop extends DrC W w B g k bs v xs where
  st : DrR W w B g k bs 2 1 vs n (tab n f)
theorem DrS.draw {W w w' : World} {B g k k' n : Nat} {bs : List UInt8} {v vs : Value} {xs : List Pc} {f : Nat → Int} (h : DrS W w B g k bs v xs vs n f) (hs : SrcAt w' B g k' bs) (hg : w.grownBy w' (some g)) : DrS W w' B g k' bs v xs vs n f := ⟨h.toDrC.draw hs hg, h.st.draw hs hg⟩
theorem DrS.more {W w : World} {B g k k' n : Nat} {bs : List UInt8} {v vs : Value} {xs : List Pc} {f : Nat → Int} (h : DrS W w B g k bs v xs vs n f) (hk : k ≤ k') : DrS W w B g k' bs v xs vs n f := ⟨h.toDrC.more hk, h.st.more hk⟩
theorem DrS.app {W w w' : World} {B g k n n' : Nat} {bs : List UInt8} {v vs vs' : Value} {xs : List Pc} {f f' : Nat → Int} (h : DrS W w B g k bs v xs vs n f) (hr : w'.ownsRow W.heap.size 2 1 vs' n' (tab n' f')) (hg : w.grownBy w' vs.ownBlock) : DrS W w' B g k bs v xs vs' n' f' := by
  have h2 := h.st.app hr hg
  exact ⟨⟨⟨h2.lt, h2.src, own_keptA h.dr.row h.st.row (by decide) hg, h2.gr⟩, h.len, h.sm, h.nn⟩, h2⟩
theorem DrS.snoc {W w w' : World} {B g k n : Nat} {bs : List UInt8} {v vs vs' : Value} {xs : List Pc} {f : Nat → Int} (h : DrS W w B g k bs v xs vs n f) (y : Int) (hr : w'.ownsRow W.heap.size 2 1 vs' (n + 1) (tab n f ++ (#[Value.int .i64 y] : Array Value).toList)) (hg : w.grownBy w' vs.ownBlock) : DrS W w' B g k bs v xs vs' (n + 1) (put f n y) :=
  h.app (by rw [← tab_snocP]; exact hr) hg
theorem DrS.put {W w : World} {B g k n b c : Nat} {bs : List UInt8} {v : Value} {xs : List Pc} {f : Nat → Int} (h : DrS W w B g k bs v xs (.slice (some ⟨b, 0, none⟩) n c) n f) (i : Nat) (y : Int) : DrS W (w.setCell ⟨b, i, none⟩ (.int .i64 y)) B g k bs v xs (.slice (some ⟨b, 0, none⟩) n c) n (put f i y) := by
  obtain ⟨h1, g1⟩ := h.st.row.stored i (.int .i64 y)
  rw [tab_set] at h1
  exact h.app h1 g1
def RetLs (w : World) (B g k : Nat) (bs : List UInt8) (e : Ending) (w' : World) : Prop := ∃ v xs vs n f, e = .returned (.tuple #[v, vs]) ∧ n ≤ 70 ∧ DrS w w' B g k bs v xs vs n f
end Go.Proofs.YtepgfcjfdnakbaaDoor
/- Inventories, part 33: what the law FnStocks draws (gen_pc33.py). -/
namespace Go.Proofs.YtepgfcjfdnakbaaDoor
open Go.RowKit Go.Joins

theorem below_srcP {W w1 w : World} {g : Nat} (h : Below W.heap.size W w1) (hg : w1.grownBy w (some g)) (hl : W.heap.size ≤ g) : Below W.heap.size W w :=
  h.grown hg h.size (fun x hx => by cases hx; exact hl)
/-- a drawn list of pieces, seen by its caller -/
structure NwC (w w' : World) (v : Value) (xs : List Pc) : Prop where
  row : w'.ownsRow w.heap.size 46 4 v xs.length (xs.flatMap cellsP)
  len : xs.length ≤ 62
  sm : ∀ x ∈ xs, x.name.size ≤ 16
  nn : ∃ b c, v = .slice (some ⟨b, 0, none⟩) xs.length c
  bel : Below w.heap.size w w'
theorem NwC.of {w w1 w' : World} {B g k : Nat} {bs : List UInt8} {v : Value} {xs : List Pc} (h : DrC w1 w' B g k bs v xs) (hb : Below w.heap.size w w1) (hg : w.heap.size ≤ g) : NwC w w' v xs :=
  ⟨ownsRow_le h.dr.row hb.size, h.len, h.sm, h.nn, below_srcP hb h.dr.gr hg⟩
theorem NwC.sz {w w' : World} {v : Value} {xs : List Pc} (h : NwC w w' v xs) : szP xs := fun i hi => by
  rw [pg_at hi]
  exact Nat.le_trans (h.sm _ (List.getElem_mem hi)) (by omega)
def RetDk (w : World) (e : Ending) (w' : World) : Prop := ∃ v xs, ∃ z : Int, e = .returned (.tuple #[v, .int .i64 z]) ∧ NwC w w' v xs
def RetDm2 (w : World) (e : Ending) (w' : World) : Prop := ∃ v xs vs n f, e = .returned (.tuple #[v, vs]) ∧ n ≤ 70 ∧ NwC w w' v xs ∧ w'.ownsRow w.heap.size 2 1 vs n (tab n f)
def RetDm3 (w : World) (e : Ending) (w' : World) : Prop := ∃ v xs vs n f, ∃ z : Int, e = .returned (.tuple #[v, vs, .int .i64 z]) ∧ n ≤ 70 ∧ NwC w w' v xs ∧ w'.ownsRow w.heap.size 2 1 vs n (tab n f)
set_option maxRecDepth 100000 in
set_option maxHeartbeats 1600000 in
theorem drawTO_any (B : Nat) (cv : Value) (bs : List UInt8) (w : World) (h : Rd w B cv bs.length 1 (bs.map byV)) (hB : B ≤ w.heap.size) : Calls Tryd.prog 6 #[cv] w (RetDk w) := by
  have HF := Lib.hid (l00From_any B cv bs w h hB)
  obtain ⟨_, A, c, rfl, _⟩ := h
  go_enter Tryd.func6, Tryd.ntmps6
  go_wp2_with fail
  refine HF.out.mono ?_; rintro e w1 ⟨rfl, hs1, hb1, hl1⟩
  have Hb1 := Lib.hid hb1
  have HL := Lib.hid (l21At_any B _ 0 bs w1 hs1 (by omega))
  clear hs1 hb1 HF
  go_wp2_with fail
  refine HL.out.mono ?_; rintro e w2 ⟨v, xs, z, rfl, hd⟩
  obtain ⟨b0, c0, rfl⟩ := hd.nn
  have Hz := Lib.hid (show RetDk w (.returned (.tuple #[.slice (some ⟨b0, 0, none⟩) xs.length c0, .int .i64 z])) w2 from ⟨_, xs, _, rfl, NwC.of hd Hb1.out (Nat.le_refl _)⟩)
  clear hd HL
  go_wp2_with fail
  go_ret2
  exact Hz.out
end Go.Proofs.YtepgfcjfdnakbaaDoor
/- Jobs, part 25: numbers of workers that are drawn; DrawPlanFor. -/
namespace Go.Proofs.YtepgfcjfdnakbaaDoor
open Go.RowKit Go.Joins

def RetDr (w : World) (B g k : Nat) (bs : List UInt8) (e : Ending) (w' : World) : Prop := ∃ x : Int, e = .returned (.int .i64 x) ∧ SrcAt w' B g k bs ∧ w.grownBy w' (some g)
/-- jobs that were drawn -/
structure NwJ (w w' : World) (v : Value) (xs : List Jb) : Prop where
  rd : RdJ w' w'.heap.size v xs
  len : xs.length ≤ 31
  sz : szJ xs
  bel : Below w.heap.size w w'
theorem NwJ.of {w w1 w' : World} {B g k : Nat} {bs : List UInt8} {v : Value} {ys : List (Jb × Value)} (h : DrJ w1 w' B g k bs v ys) (hb : Below w.heap.size w w1) (hg : w.heap.size ≤ g) (hl : ys.length ≤ 31) : NwJ w w' v (jbsOf ys) :=
  ⟨h.rd, by rw [jbsOf_len]; exact hl, h.sz, below_srcP hb h.dr.gr hg⟩
def RetDw (w : World) (e : Ending) (w' : World) : Prop := ∃ v xs, ∃ z : Int, e = .returned (.tuple #[v, .int .i64 z]) ∧ NwJ w w' v xs
end Go.Proofs.YtepgfcjfdnakbaaDoor
