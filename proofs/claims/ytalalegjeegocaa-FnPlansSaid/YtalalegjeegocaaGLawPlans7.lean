/- Merged texts: Pc22, Pc23, Pc24, Pc25, Pc26, Pc27, Dg1, Pc28, Jb22, Jb23. -/
import Derived.Test.YtalalegjeegocaaGLawPlans4
import Derived.BigRegion
import Derived.Deep.Cut
import Derived.Deep.OwnRows
import Derived.Test.YtalalegjeegocaaGLawPlans3
import Derived.Test.YtalalegjeegocaaGLawPlans1
import Derived.Test.YtalalegjeegocaaGLawPlans6
import Derived.Deep.DeepCutAuto
import Derived.Deep.CutRange
import Derived.Deep.CutBlock
/- Inventories, part 22: CutPiece of the program (gen_pc22.py). -/
namespace Go.Proofs.Ytalalegjeegocaa
open Go.RowKit Go.Joins

/-- the marks behind m pieces of the list of what is under -/
def gnB (xs : List Pc) (k m : Nat) : Nat → Bool := fun i => decide (i = k) || decide (i ∈ (uL xs k xs.length).take m)
theorem gnB_zero (xs : List Pc) (k : Nat) : tabB xs.length (putB (fun _ => false) k true) = tabB xs.length (gnB xs k 0) := tabB_congr fun i _ => by
  unfold putB gnB
  by_cases h : i = k <;> simp [h]
theorem uL_at {xs : List Pc} {k m : Nat} (h : m < (uL xs k xs.length).length) : ∃ i, (uL xs k xs.length)[m]? = some i ∧ k < i ∧ i < xs.length ∧ und xs k i = true := by
  have hm := List.getElem_mem h
  have h2 := (List.mem_filter.1 hm)
  have h3 := List.mem_range.1 h2.1
  have h4 := h2.2
  simp only [Bool.and_eq_true, decide_eq_true_eq] at h4
  exact ⟨_, List.getElem?_eq_getElem h, h4.1, h3, h4.2⟩
theorem natV_at {l : List Nat} {m i : Nat} (h : l[m]? = some i) : (natV l)[m]? = some (.int .i64 (i : Int)) := by
  unfold natV
  rw [List.getElem?_map, h]
  rfl
theorem gnB_step {xs : List Pc} {k m i : Nat} (h : (uL xs k xs.length)[m]? = some i) : tabB xs.length (putB (gnB xs k m) i true) = tabB xs.length (gnB xs k (m + 1)) := tabB_congr fun j _ => by
  have e : (uL xs k xs.length).take (m + 1) = (uL xs k xs.length).take m ++ [i] := by rw [List.take_add_one, h]; rfl
  unfold putB gnB
  rw [e]
  by_cases hj : j = i
  · subst hj; simp
  · rw [if_neg hj]; simp [hj]
theorem gnB_end (xs : List Pc) (k : Nat) : tabB xs.length (gnB xs k (uL xs k xs.length).length) = tabB xs.length (und xs k) := tabB_congr fun i hi => by
  unfold gnB
  rw [List.take_length]
  by_cases h : i = k
  · subst h; rw [und_self]; simp
  · by_cases h2 : i < k
    · rw [und_lt xs h2]
      have : i ∉ uL xs k xs.length := fun hm => by
        have := (List.mem_filter.1 hm).2
        simp only [Bool.and_eq_true, decide_eq_true_eq] at this
        omega
      simp [h, this]
    · have hki : k < i := by omega
      have e : (i ∈ uL xs k xs.length) ↔ und xs k i = true := by
        unfold uL
        rw [List.mem_filter]
        simp [hi, hki]
      cases hu : und xs k i with
      | true => simp [h, e.2 hu]
      | false =>
        have : i ∉ uL xs k xs.length := fun hm => by rw [e.1 hm] at hu; cases hu
        simp [h, this]
abbrev zeroRow (n : Nat) : Obj := .cells (madeCells #[.int .i64 0] n) 2
theorem mk_intsA (n : Nat) (hn : n ≤ 1000) (w : World) : (Instr.makeSlice 27 (.int .i64 (n : Int)) (.int .i64 (n : Int))).run Try.prog w = .ok (.slice (some ⟨w.heap.size, 0, none⟩) n n) (w.alloc (zeroRow n)) ∧
    (w.alloc (zeroRow n)).ownsRow w.heap.size 2 1 (.slice (some ⟨w.heap.size, 0, none⟩) n n) n (tab n (fun _ => 0)) := by
  have h := run_make_row' (P := Try.prog) 27 2 (.int .i64 0) 8 Try.underlying27 infoD rfl .i64 .i64 n (by omega) (by omega) w
  obtain ⟨w', h2, h3, _⟩ := mk_ints n hn w
  have e := h.symm.trans h2
  simp only [Result.ok.injEq, true_and] at e
  exact ⟨h, by rw [← e] at h3; exact h3⟩
/-- a cell of a block that is none of the rows is written -/
theorem CuI.new2 {xs : List Pc} {k cu gU gN m m1 m2 : Nat} {w wr wn : World} {r : Value} (h : CuI xs k cu gU gN w wr r m m1) (ha : CuI xs k cu gU gN w wn r m m2) (i : Nat) (u : Value) : CuI xs k cu gU gN w (wn.setCell ⟨wr.heap.size, i, none⟩ u) r m m2 := by
  have h1 := (h.und.lt gU rfl).2
  have h2 := (h.nam.lt gN rfl).2
  refine ⟨ownsRow_setCell_other ha.und (a := ⟨wr.heap.size, i, none⟩) (fun e => ?_) _, ownsRow_setCell_other ha.nam (a := ⟨wr.heap.size, i, none⟩) (fun e => ?_) _, ownsRow_setCell_other ha.row (a := ⟨wr.heap.size, i, none⟩) (fun e => ?_) _, ha.bel.setCell (p := ⟨wr.heap.size, i, none⟩) h.bel.size _⟩
  · injection e with e
    have e2 : gU = wr.heap.size := e
    omega
  · injection e with e
    have e2 : gN = wr.heap.size := e
    omega
  · have := (h.row.lt _ e).2
    exact Nat.lt_irrefl _ this
set_option maxRecDepth 100000 in
set_option maxHeartbeats 1600000 in
theorem CutI_any (B : Nat) (v : Value) (xs : List Pc) (k : Int) (w : World) (h : RdP w B v xs) (hB : B ≤ w.heap.size) (hn : xs.length ≤ 100000) (hz : szP xs) :
    Calls Try.prog 24 #[v, .int .i64 k] w (RetCu xs k w) := by
  have HC := Lib.hid (codeI_any B v xs k w h hB hn hz)
  have H := Lib.hid h
  obtain ⟨A, c, rfl⟩ := h.slice
  clear h hz
  by_cases h0 : cuC xs k = 0
  · obtain ⟨hok, j, rfl, hj0, hj, hcd⟩ := cuC_ok h0
    obtain ⟨⟨_, hl40⟩, _, hsh, _⟩ := okP_ok hok
    clear h0
    have hmc : cuC xs (j : Int) = 0 := by unfold cuC; rw [if_pos hcd, if_neg (by omega)]
    have hcl : cuL xs (j : Int) = cutL xs j xs.length := by unfold cuL; rw [if_pos hmc, Int.toNat_natCast]
    have Hfin := Lib.hid (fun v w' (ho : w'.ownsRow w.heap.size 79 4 v (plc xs j xs.length) ((cutL xs j xs.length).flatMap cellsP)) (hb : Below w.heap.size w w') => (show RetCu xs (j : Int) w (.returned (.tuple #[v, .int .i64 0])) w' from ⟨v, by rw [hmc], by rw [hcl, cutL_len]; exact ho, hb⟩))
    have HU := Lib.hid (fun wx hx hz => under_any B (.slice A xs.length c) xs j wx hx hz hl40 hsh hj)
    unfold RetUL at HU
    have HS := Lib.hid hsh
    rw [hcd] at HC
    have hj0' : ¬ ((j : Int) = 0) := by omega
    clear hcd hmc hcl hok hsh
    go_enter Try.func24, Try.ntmps24
    go_wp2_with fail
    refine (HC.out).mono ?_; rintro e w2 ⟨rfl, hb2⟩
    have Hb2 := Lib.hid hb2
    have hj0k : ((j : Int) == 0) = false := by simp; omega
    have hjl : (j : Int) < (xs.length : Int) := by omega
    obtain ⟨w3, hmkb, hob, hbb⟩ := mk_bools xs.length (by omega) w2
    obtain ⟨d0, d1⟩ := own_cellB hob j hj
    have hob3 := (hob.stored j (.bool true)).1
    rw [tabB_set, gnB_zero xs] at hob3
    have hbs := hbb.setCell (p := ⟨w2.heap.size, j, none⟩) (Nat.le_refl _) (.bool true)
    obtain ⟨wc, hwc⟩ : ∃ z, w3.setCell ⟨w2.heap.size, j, none⟩ (.bool true) = z := ⟨_, rfl⟩
    rw [hwc] at hob3 hbs
    have Hb3 := Lib.hid (Hb2.out.trans (hbs.mono Hb2.out.size))
    have HU2 := Lib.hid (HU.out wc (H.out.below (Hb3.out.mono hB)) (Nat.le_trans hB Hb3.out.size))
    have Hob3 := Lib.hid hob3
    clear hb2 HU hob hbb hob3 hbs
    go_wp2_with fail
    refine (HU2.out).mono ?_; rintro e w4 ⟨vu, rfl, hou, hbu⟩
    obtain ⟨Au, cu, rfl⟩ := own_sl hou
    have Hou := Lib.hid hou
    have Hob4 := Lib.hid (own_below Hob3.out hbu)
    have Hb4 := Lib.hid (Hb3.out.trans (hbu.mono Hb3.out.size))
    clear HU2 hou hbu HC hmkb d0 d1 hwc Hob3
    have hUl := uL_len xs j xs.length
    go_wp2_with fail
    clear hjl hj0k
    go_loopw [32] (fun i wr => ∃ m : Nat, m ≤ (uL xs j xs.length).length ∧ i = .int .i64 (m : Int) ∧ wr.ownsRow w2.heap.size 4 1 (.slice (some ⟨w2.heap.size, 0, none⟩) xs.length xs.length) xs.length (tabB xs.length (gnB xs j m)) ∧ wr.ownsRow wc.heap.size 2 1 (.slice Au (uL xs j xs.length).length cu) (uL xs j xs.length).length (natV (uL xs j xs.length)) ∧ Below w.heap.size w wr) (fun i _ => (uL xs j xs.length).length - (intOf i).toNat)
    case atStart => exact ⟨0, by omega, rfl, Hob4.out, Hou.out, Hb4.out⟩
    case round =>
      obtain ⟨m, hm, rfl, hob, hou, hbl⟩ := hrel
      clear Hob4 Hou Hb4
      have Hob := Lib.hid hob
      have Hou := Lib.hid hou
      have Hbl := Lib.hid hbl
      by_cases hlt : m < (uL xs j xs.length).length
      · obtain ⟨i, hi, hji, hin, _⟩ := uL_at hlt
        have hv := natV_at hi
        obtain ⟨gu, capu, hAu, _, _⟩ := own_posC hou (by omega)
        injection hAu with hAu
        subst hAu
        have z0 := (hou.cellAt m (by omega)).trans hv
        obtain ⟨y0, y1⟩ := own_cellB hob i hin
        have hob4 := (hob.stored i (.bool true)).1
        rw [tabB_set, gnB_step hi] at hob4
        have Hob4 := Lib.hid hob4
        have Hou4 := Lib.hid (ownsRow_setCell_other hou (a := ⟨w2.heap.size, i, none⟩) (apart_g hou hob (by decide)) (.bool true))
        have Hbl4 := Lib.hid (hbl.setCell (p := ⟨w2.heap.size, i, none⟩) Hb2.out.size (.bool true))
        have hlt' : (m : Int) < ((uL xs j xs.length).length : Int) := by omega
        have hil : (i : Int) < (xs.length : Int) := by omega
        clear hob hou hbl hi hv hob4
        go_wp2_with fail
        go_roundw
        case rel => exact ⟨m + 1, by omega, by go_num, Hob4.out, Hou4.out, Hbl4.out⟩
        case measure => first | (simp [intOf]; done) | (simp [intOf]; omega)
      · obtain rfl : m = (uL xs j xs.length).length := by omega
        rw [gnB_end] at hob
        have hlt' : ¬ (((uL xs j xs.length).length : Int) < ((uL xs j xs.length).length : Int)) := by omega
        have Hob5 := Lib.hid (own_lower hob Hb2.out.size)
        clear Hob Hou hob hou hbl hm hlt
        obtain ⟨wo, rfl⟩ : ∃ z, z = wr := ⟨_, rfl⟩
        go_upto_region 13 with fail
        have hmk := fun wx => (mk_intsA xs.length (by omega) wx).1
        obtain ⟨wd, hwd⟩ : ∃ z, wo.drew = z := ⟨_, rfl⟩
        have hon5 := (mk_intsA xs.length (by omega) wd).2
        have hon6 := (mk_intsA xs.length (by omega) (wd.alloc (.cells #[] 79))).2
        have hoe5 := World.ownsRow_made (base := (wd.alloc (zeroRow xs.length)).heap.size) (e := 79) (size := 4) (wd.alloc (zeroRow xs.length)) #[] 0 (Nat.le_refl _) (by simp [maxLen]) rfl
        have hoe6 := World.ownsRow_made (base := wd.heap.size) (e := 79) (size := 4) wd #[] 0 (Nat.le_refl _) (by simp [maxLen]) rfl
        have e0 : cutL xs j 0 = [] := List.eq_nil_of_length_eq_zero (by rw [cutL_len, plc_zero])
        have hbd : Below w.heap.size w wd := by rw [← hwd]; exact Hbl.out.drew
        have hod : wd.ownsRow w.heap.size 4 1 (.slice (some ⟨w2.heap.size, 0, none⟩) xs.length xs.length) xs.length (tabB xs.length (und xs j)) := by rw [← hwd]; exact Hob5.out.drew
        have hlo := hbd.size
        have hs5 : (wd.alloc (zeroRow xs.length)).heap.size = wd.heap.size + 1 := by simp
        have hs6 : (wd.alloc (.cells #[] 79)).heap.size = wd.heap.size + 1 := by simp
        have HI5 := Lib.hid (show CuI xs j xs.length w2.heap.size wd.heap.size w ((wd.alloc (zeroRow xs.length)).alloc (.cells #[] 79)) (.slice (some ⟨wd.heap.size + 1, 0, none⟩) 0 0) 0 0 from
          ⟨(hod.alloc _).alloc _, (own_lower (by rw [← nmA_zero]; exact hon5) hlo).alloc _, by rw [plc_zero, e0, ← hs5]; exact own_lower hoe5 (by omega), (hbd.alloc hlo _).alloc (by omega) _⟩)
        have HI6 := Lib.hid (show CuI xs j xs.length w2.heap.size (wd.heap.size + 1) w ((wd.alloc (.cells #[] 79)).alloc (zeroRow xs.length)) (.slice (some ⟨wd.heap.size, 0, none⟩) 0 0) 0 0 from
          ⟨(hod.alloc _).alloc _, by rw [← nmA_zero, ← hs6]; exact own_lower hon6 (by omega), by rw [plc_zero, e0]; exact (own_lower hoe6 hlo).alloc _, (hbd.alloc hlo _).alloc (by omega) _⟩)
        clear hon5 hon6 hoe5 hoe6 e0 Hob5 Hbl hlo hbd hod hs5 hs6
        go_cut [10, 11] (fun s10 s11 wx => ∃ gN v, s10 = v ∧ s11 = .slice (some ⟨gN, 0, none⟩) xs.length xs.length ∧ CuI xs j xs.length w2.heap.size gN w wx v 0 0)
        case first =>
          go_region
          all_goals go_wp2_with fail
          all_goals go_meet
          case rel => exact ⟨_, _, rfl, rfl, HI6.out⟩
          case rel => exact ⟨_, _, rfl, rfl, HI5.out⟩
        case rest =>
          obtain ⟨gN, v0, rfl, rfl, hI0⟩ := hcut
          have HI0 := Lib.hid hI0
          clear hI0 hmk hwd HI5 HI6
          go_wp2_with fail
          go_loopw [10, 46] (fun r i wr => ∃ m : Nat, m ≤ xs.length ∧ i = .int .i64 (m : Int) ∧ CuI xs j xs.length w2.heap.size gN w wr r m m) (fun _ i _ => xs.length - (intOf i).toNat)
          case atStart => exact ⟨0, by omega, rfl, HI0.out⟩
          case round =>
            obtain ⟨m, hm, rfl, hI⟩ := hrel
            clear HI0
            obtain ⟨A3, c3, rfl⟩ := own_sl hI.row
            have HI := Lib.hid hI
            by_cases hlt : m < xs.length
            · obtain ⟨gb, ob, hA, hat⟩ := H.out.at m hlt
              subst hA
              have hlt' : (m : Int) < (xs.length : Int) := by omega
              have hatr := hat.below (hI.bel.mono hB)
              have r0 := hatr.c0
              have r1 := hatr.c1
              have r2 := hatr.c2
              have r3 := hatr.c3
              clear hatr
              obtain ⟨y0, y1⟩ := own_cellB hI.und m hlt
              obtain ⟨wa, hwa⟩ : ∃ z, wr.alloc (.cells #[.string (pg xs m).name, .int .i64 (pg xs m).par, .int .i64 (pg xs m).each, .int .i64 (pg xs m).price] 79) = z := ⟨_, rfl⟩
              have HIa := Lib.hid (show CuI xs j xs.length w2.heap.size gN w wa _ m m from by rw [← hwa]; exact HI.out.alloc _)
              obtain ⟨ya0, ya1⟩ := own_cellB HIa.out.und m hlt
              clear hI
              cases hu : und xs j m with
              | true =>
                have HJ := Lib.hid (HIa.out.no hu)
                rw [hu] at ya0
                clear hu hat HI HIa y0 y1
                generalize (pg xs m).name = nm at *
                generalize (pg xs m).par = pp at *
                generalize (pg xs m).each = pe at *
                generalize (pg xs m).price = pq at *
                go_wp2_with fail
                go_roundw
                case rel => exact ⟨m + 1, by omega, by go_num, HJ.out⟩
                case measure => first | (simp [intOf]; done) | (simp [intOf]; omega)
              | false =>
                rw [hu] at ya0
                have HJ := HIa.out.put hu
                have hml := plc_le xs j m
                have hgN := (HI.out.nam.lt gN rfl).2
                obtain ⟨n0, n1⟩ := own_cellI HIa.out.nam m hlt
                obtain ⟨wn, hwn⟩ : ∃ z, wa.setCell ⟨gN, m, none⟩ (.int .i64 (plc xs j m : Int)) = z := ⟨_, rfl⟩
                rw [hwn] at HJ
                have hblk := heap_alloc_new wr (.cells #[.string (pg xs m).name, .int .i64 (pg xs m).par, .int .i64 (pg xs m).each, .int .i64 (pg xs m).price] 79)
                rw [hwa] at hblk
                have hbln : wn.heap[wr.heap.size]? = _ := (show wn.heap[wr.heap.size]? = wa.heap[wr.heap.size]? from by rw [← hwn]; exact Below.heap_setCell _ _ _ _ (by show wr.heap.size ≠ gN; omega)).trans hblk
                by_cases hm0 : m = 0
                · have hp0 : (pg xs m).par = -1 := by rw [hm0]; exact HS.out.par0 (by omega)
                  have hcc : cutP xs j m = pg xs m := by unfold cutP; rw [if_pos hm0, hm0]
                  rw [hp0] at r1 hblk hbln hwa
                  have Hx := Lib.hid (fun (v' : Value) (w' : World) (ho : w'.ownsRow w.heap.size 79 4 v' (plc xs j m + 1) ((cutL xs j m).flatMap cellsP ++ [.string (pg xs m).name, .int .i64 (-1), .int .i64 (pg xs m).each, .int .i64 (pg xs m).price])) hg => HJ.app hu (by rw [hcc]; unfold cellsP; rw [hp0]; exact ho) hg)
                  obtain ⟨⟨a0, a1, a2, a3⟩, -, f1, -⟩ := blk4p hbln
                  have Hoa := Lib.hid HJ.row
                  have hsa := HJ.bel.size
                  clear hat hu hblk hbln hm0 hcc HJ hp0 HI HIa
                  generalize (pg xs m).name = nm at *
                  generalize (pg xs m).each = pe at *
                  generalize (pg xs m).price = pq at *
                  go_wp2_with (at_builtin; refine wpList_apd 38 79 _ 4 40 Try.underlying38 infoP rfl (by omega) _ _ rfl rfl w.heap.size _ (plc xs j m) _ rfl Hoa.out #[.string nm, .int .i64 (-1), .int .i64 pe, .int .i64 pq] 1 1 rfl rfl (ones4 _ _ _ _) (by simp [maxLen]; omega) (by omega) hsa ?_; intro v9 w9 hown9 hg9; have HK := Lib.hid (Hx.out v9 w9 hown9 hg9); clear hown9 hg9)
                  go_roundw
                  case rel => exact ⟨m + 1, by omega, by go_num, HK.out⟩
                  case measure => first | (simp [intOf]; done) | (simp [intOf]; omega)
                · have hp := HS.out.par m (by omega) hlt
                  obtain ⟨p, hpe⟩ : ∃ p : Nat, (pg xs m).par = (p : Int) := ⟨(pg xs m).par.toNat, by omega⟩
                  have hst := par_stays HS.out (show 0 < m by omega) hlt hu
                  have hcc : cellsP (cutP xs j m) = [.string (pg xs m).name, .int .i64 (plc xs j p : Int), .int .i64 (pg xs m).each, .int .i64 (pg xs m).price] := by
                    unfold cutP
                    rw [if_neg hm0, hpe, Int.toNat_natCast]
                    rfl
                  rw [hpe] at hp hst r1 hblk hbln hwa
                  rw [Int.toNat_natCast] at hst
                  obtain ⟨p0, p1⟩ := own_cellI HJ.nam p (by omega)
                  rw [nmA_at (by omega) hst] at p0
                  obtain ⟨wb, hwb⟩ : ∃ z, wn.setCell ⟨wr.heap.size, 1, none⟩ (.int .i64 (plc xs j p : Int)) = z := ⟨_, rfl⟩
                  have HJb := Lib.hid (show CuI xs j xs.length w2.heap.size gN w wb _ m (m + 1) from by rw [← hwb]; exact HI.out.new2 HJ _ _)
                  have hblb := heap_setCell_same wn wr.heap.size 1 _ _ (.int .i64 (plc xs j p : Int)) hbln
                  rw [hwb] at hblb
                  obtain ⟨⟨a0, a1, a2, a3⟩, -, f1, -⟩ := blk4p hbln
                  obtain ⟨⟨b0, b1, b2, b3⟩, -, g1, -⟩ := blk4p (a := .string (pg xs m).name) (b := .int .i64 (plc xs j p : Int)) (c := .int .i64 (pg xs m).each) (d := .int .i64 (pg xs m).price) hblb
                  have Hx := Lib.hid (fun (v' : Value) (w' : World) (ho : w'.ownsRow w.heap.size 79 4 v' (plc xs j m + 1) ((cutL xs j m).flatMap cellsP ++ [.string (pg xs m).name, .int .i64 (plc xs j p : Int), .int .i64 (pg xs m).each, .int .i64 (pg xs m).price])) hg => HJb.out.app hu (by rw [hcc]; exact ho) hg)
                  have Hoa := Lib.hid HJb.out.row
                  have hsa := HJb.out.bel.size
                  have hpl : (p : Int) < (xs.length : Int) := by omega
                  have hp0' : (0 : Int) ≤ (p : Int) := by omega
                  clear hat hu hblk hbln hblb hm0 hcc HJ HJb hst hpe hp HI HIa
                  generalize (pg xs m).name = nm at *
                  generalize (pg xs m).each = pe at *
                  generalize (pg xs m).price = pq at *
                  generalize plc xs j p = pp at *
                  go_wp2_with (at_builtin; refine wpList_apd 38 79 _ 4 40 Try.underlying38 infoP rfl (by omega) _ _ rfl rfl w.heap.size _ (plc xs j m) _ rfl Hoa.out #[.string nm, .int .i64 pp, .int .i64 pe, .int .i64 pq] 1 1 rfl rfl (ones4 _ _ _ _) (by simp [maxLen]; omega) (by omega) hsa ?_; intro v9 w9 hown9 hg9; have HK := Lib.hid (Hx.out v9 w9 hown9 hg9); clear hown9 hg9)
                  go_roundw
                  case rel => exact ⟨m + 1, by omega, by go_num, HK.out⟩
                  case measure => first | (simp [intOf]; done) | (simp [intOf]; omega)
            · obtain rfl : m = xs.length := by omega
              have hlt' : ¬ ((xs.length : Int) < (xs.length : Int)) := by omega
              have Hz := Lib.hid (Hfin.out _ _ hI.row hI.bel)
              clear hI HI
              go_wp2_with fail
              go_ret2
              exact Hz.out
  · obtain ⟨c1, hc1⟩ : ∃ z, cuC xs k = z := ⟨_, rfl⟩
    rw [hc1] at h0
    have HE := Lib.hid (fun w' hb => RetCu.bad (w := w) (w' := w') hc1 h0 hb)
    by_cases hd : cdP xs k = 0
    · rw [hd] at HC
      by_cases hk : k = 0
      · have e : c1 = 6 := by rw [← hc1]; unfold cuC; rw [if_pos hd, if_pos hk]
        subst e
        subst hk
        clear hc1 hd
        go_enter Try.func24, Try.ntmps24
        go_wp2_with fail
        refine (HC.out).mono ?_; rintro e w2 ⟨rfl, hb2⟩
        have Hz := Lib.hid (HE.out w2 hb2)
        clear hb2
        go_wp2_with fail
        go_ret2
        exact Hz.out
      · exact absurd (by rw [← hc1]; unfold cuC; rw [if_pos hd, if_neg hk]) h0
    · have e : cdP xs k = c1 := by rw [← hc1]; unfold cuC; rw [if_neg hd]
      rw [e] at HC
      have hcb : (c1 == 0) = false := by simp [h0]
      have hcb2 : (c1 != 0) = true := by simp [h0]
      clear hc1 hd e
      go_enter Try.func24, Try.ntmps24
      go_wp2_with fail
      refine (HC.out).mono ?_; rintro e w2 ⟨rfl, hb2⟩
      have Hz := Lib.hid (HE.out w2 hb2)
      clear hb2
      go_wp2_with fail
      go_ret2
      exact Hz.out
end Go.Proofs.Ytalalegjeegocaa
/- Inventories, part 23: the price of a piece with all that belongs to it, in plain words. -/
namespace Go.Proofs.Ytalalegjeegocaa

/-- a sum of m numbers -/
def smN (g : Nat → Nat) : Nat → Nat
  | 0 => 0
  | m + 1 => smN g m + g m
theorem smN_congr {g h : Nat → Nat} : ∀ m, (∀ i, i < m → g i = h i) → smN g m = smN h m
  | 0, _ => rfl
  | m + 1, e => by
    show smN g m + g m = smN h m + h m
    rw [smN_congr m (fun i hi => e i (by omega)), e m (by omega)]
theorem smN_zero {g : Nat → Nat} (m : Nat) (h : ∀ i, i < m → g i = 0) : smN g m = 0 := by
  induction m with
  | zero => rfl
  | succ m ih =>
    show smN g m + g m = 0
    rw [ih (fun i hi => h i (by omega)), h m (by omega)]
theorem smN_add (g h : Nat → Nat) : ∀ m, smN (fun i => g i + h i) m = smN g m + smN h m
  | 0 => rfl
  | m + 1 => by
    show smN (fun i => g i + h i) m + (g m + h m) = smN g m + g m + (smN h m + h m)
    rw [smN_add g h m]
    omega
theorem smN_mul (a : Nat) (g : Nat → Nat) : ∀ m, smN (fun i => a * g i) m = a * smN g m
  | 0 => rfl
  | m + 1 => by
    show smN (fun i => a * g i) m + a * g m = a * (smN g m + g m)
    rw [smN_mul a g m, Nat.mul_add]
theorem smN_mono (g : Nat → Nat) {a b : Nat} (h : a ≤ b) : smN g a ≤ smN g b := by
  induction b with
  | zero => rw [Nat.le_zero.1 h]; exact Nat.le_refl _
  | succ b ih =>
    by_cases e : a = b + 1
    · rw [e]; exact Nat.le_refl _
    · exact Nat.le_trans (ih (by omega)) (Nat.le_add_right _ _)
theorem smN_at (g : Nat → Nat) {i m : Nat} (h : i < m) : g i ≤ smN g m :=
  Nat.le_trans (Nat.le_add_left _ _) (smN_mono g (show i + 1 ≤ m from h))
theorem smN_one (a : Nat) {j : Nat} : ∀ m, j < m → smN (fun i => if i = j then a else 0) m = a
  | 0, h => by omega
  | m + 1, h => by
    show smN (fun i => if i = j then a else 0) m + (if m = j then a else 0) = a
    by_cases e : m = j
    · rw [if_pos e, smN_zero m (fun i hi => if_neg (by omega)), Nat.zero_add]
    · rw [if_neg e, smN_one a m (by omega), Nat.add_zero]

/-- what a piece adds to the price of piece x -/
def chT (xs : List Pc) (f : Nat → Nat) (x i : Nat) : Nat := if (pg xs i).par = (x : Int) then (pg xs i).each.toNat * f i else 0
def prF (xs : List Pc) (n : Nat) : Nat → Nat → Nat
  | 0 => fun _ => 0
  | d + 1 => fun k => (pg xs k).price.toNat + smN (chT xs (prF xs n d) k) n
def prN (xs : List Pc) : Nat → Nat := prF xs xs.length xs.length
theorem Shp.lt {xs : List Pc} {n i : Nat} (h : Shp xs n) (hi : i < n) : (pg xs i).par < (i : Int) := by
  by_cases h0 : i = 0
  · subst h0
    rw [h.par0 hi]
    omega
  · exact (h.par i (by omega) hi).2
theorem chT_zero {xs : List Pc} {n : Nat} (h : Shp xs n) (f : Nat → Nat) {x i : Nat} (hi : i < n) (hx : i ≤ x) : chT xs f x i = 0 := by
  have := h.lt hi
  unfold chT
  rw [if_neg (by omega)]
theorem prF_stable {xs : List Pc} {n : Nat} (h : Shp xs n) : ∀ d k, k < n → n - k ≤ d → prF xs n d k = prF xs n (d + 1) k := by
  intro d
  induction d with
  | zero => intro k hk hd; omega
  | succ d ih =>
    intro k hk hd
    show (pg xs k).price.toNat + smN (chT xs (prF xs n d) k) n = (pg xs k).price.toNat + smN (chT xs (prF xs n (d + 1)) k) n
    congr 1
    refine smN_congr n fun i hi => ?_
    unfold chT
    split
    · rename_i hp
      have := h.lt hi
      rw [ih i hi (by omega)]
    · rfl
theorem prN_eq {xs : List Pc} (h : Shp xs xs.length) {k : Nat} (hk : k < xs.length) : prN xs k = (pg xs k).price.toNat + smN (chT xs (prN xs) k) xs.length := by
  have := prF_stable h xs.length k hk (by omega)
  exact this
/-- the pieces at or behind place j that belong to one in front of it -/
def qT (xs : List Pc) (j i : Nat) : Nat := if j ≤ i ∧ (pg xs i).par < (j : Int) then prN xs i * tot xs i else 0
theorem qT_step {xs : List Pc} (h : Shp xs xs.length) {j i : Nat} (hj : j < xs.length) (hi : i < xs.length) :
    qT xs j i + tot xs j * chT xs (prN xs) j i = qT xs (j + 1) i + (if i = j then prN xs j * tot xs j else 0) := by
  have hp := h.lt hi
  rcases Nat.lt_trichotomy i j with h1 | h1 | h1
  · rw [chT_zero h _ hi (by omega)]
    unfold qT
    rw [if_neg (by omega), if_neg (by omega), if_neg (by omega), Nat.mul_zero]
  · subst h1
    rw [chT_zero h _ hi (Nat.le_refl _)]
    unfold qT
    rw [if_pos (by omega), if_neg (by omega), if_pos rfl, Nat.mul_zero, Nat.zero_add, Nat.add_zero]
  · rw [if_neg (show ¬ i = j by omega)]
    by_cases h2 : (pg xs i).par = (j : Int)
    · have ht := tot_step h (show 0 < i by omega) hi
      rw [h2, Int.toNat_natCast] at ht
      unfold qT chT
      rw [if_neg (by omega), if_pos h2, if_pos (by omega), ht]
      generalize (pg xs i).each.toNat = e
      generalize tot xs j = t
      generalize prN xs i = p
      rw [Nat.zero_add, Nat.add_zero, Nat.mul_left_comm, ← Nat.mul_assoc]
      exact Nat.mul_comm _ _
    · unfold chT
      rw [if_neg h2]
      unfold qT
      by_cases h3 : (pg xs i).par < (j : Int)
      · rw [if_pos (by omega), if_pos (by omega), Nat.mul_zero]
      · rw [if_neg (by omega), if_neg (by omega), Nat.mul_zero]
theorem qT_sum {xs : List Pc} (h : Shp xs xs.length) {j : Nat} (hj : j < xs.length) : smN (qT xs j) xs.length = smN (qT xs (j + 1)) xs.length + (pg xs j).price.toNat * tot xs j := by
  have h1 := smN_congr xs.length (fun i hi => qT_step h hj hi)
  rw [smN_add, smN_add, smN_mul, smN_one _ _ hj, prN_eq h hj, Nat.mul_comm (_ + _) (tot xs j), Nat.mul_add] at h1
  rw [Nat.mul_comm (pg xs j).price.toNat]
  omega
theorem qT_bd {xs : List Pc} (h : Shp xs xs.length) (ht : ∀ i, i < xs.length → tot xs i ≤ 1000000) (hp : ∀ i, i < xs.length → (pg xs i).price ≤ 1000000) : ∀ d, d ≤ xs.length → smN (qT xs (xs.length - d)) xs.length ≤ d * 1000000000000 := by
  intro d
  induction d with
  | zero =>
    intro _
    rw [Nat.sub_zero, smN_zero _ (fun i hi => by unfold qT; rw [if_neg (by omega)])]
    exact Nat.zero_le _
  | succ d ih =>
    intro hd
    have h1 := qT_sum h (show xs.length - (d + 1) < xs.length by omega)
    rw [show xs.length - (d + 1) + 1 = xs.length - d by omega] at h1
    have h2 := ih (by omega)
    have h3 : (pg xs (xs.length - (d + 1))).price.toNat * tot xs (xs.length - (d + 1)) ≤ 1000000 * 1000000 := Nat.mul_le_mul (by have := hp (xs.length - (d + 1)) (by omega); omega) (ht _ (by omega))
    omega
theorem prN_bd {xs : List Pc} (hn : xs.length ≤ 40) (h : Shp xs xs.length) (ht : ∀ i, i < xs.length → tot xs i ≤ 1000000) (hp : ∀ i, i < xs.length → (pg xs i).price ≤ 1000000) {k : Nat} (hk : k < xs.length) : prN xs k ≤ 40000000000000 := by
  have h1 := qT_bd h ht hp (xs.length - k) (by omega)
  rw [show xs.length - (xs.length - k) = k by omega] at h1
  have h2 := smN_at (qT xs k) hk
  have h3 : qT xs k k = prN xs k * tot xs k := by unfold qT; rw [if_pos ⟨Nat.le_refl _, h.lt hk⟩]
  rw [h3] at h2
  have h4 := Nat.le_mul_of_pos_right (prN xs k) (tot_pos h k hk)
  have h5 : (xs.length - k) * 1000000000000 ≤ 40 * 1000000000000 := Nat.mul_le_mul_right _ (by omega)
  omega
/-- the table that the program fills from the end: pieces from place j on are done -/
def prA (xs : List Pc) (j x : Nat) : Nat := if j ≤ x then prN xs x else smN (chT xs (prN xs) x) xs.length - smN (chT xs (prN xs) x) j
theorem prA_end (xs : List Pc) {x : Nat} (hx : x < xs.length) : prA xs xs.length x = 0 := by
  unfold prA
  rw [if_neg (by omega), Nat.sub_self]
theorem prA_own {xs : List Pc} (h : Shp xs xs.length) {j : Nat} (hj : j < xs.length) : prA xs (j + 1) j + (pg xs j).price.toNat = prN xs j := by
  unfold prA
  rw [if_neg (by omega), smN_zero (j + 1) (fun i hi => chT_zero h _ (by omega) (by omega)), prN_eq h hj]
  omega
theorem prA_self {xs : List Pc} (j : Nat) : prA xs j j = prN xs j := by unfold prA; rw [if_pos (Nat.le_refl _)]
theorem prA_par {xs : List Pc} {j p : Nat} (hj : j < xs.length) (hp : (pg xs j).par = (p : Int)) (hpj : p < j) : prA xs (j + 1) p + (pg xs j).each.toNat * prN xs j = prA xs j p := by
  have h1 : smN (chT xs (prN xs) p) (j + 1) = smN (chT xs (prN xs) p) j + (pg xs j).each.toNat * prN xs j := by
    show smN (chT xs (prN xs) p) j + chT xs (prN xs) p j = _
    congr 1
    unfold chT
    rw [if_pos hp]
  have h2 := smN_mono (chT xs (prN xs) p) (show j + 1 ≤ xs.length from hj)
  unfold prA
  rw [if_neg (by omega), if_neg (by omega)]
  omega
theorem prA_else {xs : List Pc} {j x : Nat} (hne : x ≠ j) (hp : (pg xs j).par ≠ (x : Int)) : prA xs (j + 1) x = prA xs j x := by
  unfold prA
  by_cases h1 : j + 1 ≤ x
  · rw [if_pos h1, if_pos (by omega)]
  · rw [if_neg h1, if_neg (by omega)]
    congr 1
    show smN (chT xs (prN xs) x) j + chT xs (prN xs) x j = _
    unfold chT
    rw [if_neg hp, Nat.add_zero]
theorem prA_le {xs : List Pc} (h : Shp xs xs.length) {j x : Nat} (hx : x < xs.length) : prA xs j x ≤ prN xs x := by
  unfold prA
  split
  · exact Nat.le_refl _
  · rw [prN_eq h hx]
    omega
end Go.Proofs.Ytalalegjeegocaa
/- Inventories, part 24: PriceOf of the reference. -/
namespace Go.Proofs.Ytalalegjeegocaa
open Go.RowKit Go.Joins

set_option maxRecDepth 100000 in
set_option maxHeartbeats 1600000 in
theorem price_any (B : Nat) (v : Value) (xs : List Pc) (hn : xs.length ≤ 40) (hs : Shp xs xs.length) (ht : ∀ i, i < xs.length → tot xs i ≤ 1000000) (hp : ∀ i, i < xs.length → 0 ≤ (pg xs i).price ∧ (pg xs i).price ≤ 1000000) :
    ∀ (d k : Nat) (w : World), k < xs.length → xs.length - k ≤ d → RdP w B v xs → Calls Try.prog 66 #[v, .int .i64 (k : Int)] w fun e w' => e = .returned (.int .i64 (prN xs k : Int)) ∧ ∃ q, w' = w.drewN q := by
  have HS := Lib.hid hs
  have HBd := Lib.hid (fun k => prN_bd hn hs ht (fun i hi => (hp i hi).2) (k := k))
  have HP := Lib.hid hp
  clear hs ht hp
  intro d
  induction d with
  | zero => intro k w hk hd; omega
  | succ d ih =>
    intro k w hk hd h
    have IH := Lib.hid ih
    have H := Lib.hid h
    obtain ⟨A, c, rfl⟩ := h.slice
    have hq := HP.out k hk
    obtain ⟨gb, ob, hA, hat⟩ := h.at k hk
    subst hA
    have q3 := hat.c3
    have He := Lib.hid (prN_eq HS.out hk)
    have hst : (pg xs k).price = (((pg xs k).price.toNat + smN (chT xs (prN xs) k) (k + 1) : Nat) : Int) := by
      rw [smN_zero (k + 1) (fun i hi => chT_zero HS.out _ (by omega) (by omega))]
      omega
    rw [hst] at q3
    have Hk := Lib.hid (HBd.out k hk)
    have hw1 : IntKind.i64.wrap ((k : Int) + 1) = (k : Int) + 1 := IntWalk.i64_in _ (by omega)
    have hkl : (k : Int) < (xs.length : Int) := by omega
    clear ih h hat hst hq
    obtain ⟨P, hP⟩ : ∃ z, (pg xs k).price.toNat = z := ⟨_, rfl⟩
    rw [hP] at q3 He
    clear hP
    go_enter Try.func66, Try.ntmps66
    go_wp2_with fail
    have Hq3 := Lib.hid q3
    clear q3
    go_loopw [5, 6] (fun s i wy => ∃ m S q : Nat, k + 1 ≤ m ∧ m ≤ xs.length ∧ S = P + smN (chT xs (prN xs) k) m ∧ s = .int .i64 (S : Int) ∧ i = .int .i64 (m : Int) ∧ wy = w.drewN q) (fun _ i _ => xs.length - (intOf i).toNat)
    case atStart => exact ⟨k + 1, _, 0, Nat.le_refl _, by omega, rfl, by go_num, by go_num, rfl⟩
    case round =>
      obtain ⟨m, S, q, hm1, hm2, hS, rfl, rfl, hwy⟩ := hrel
      have HSm := Lib.hid hS
      have hmo := smN_mono (chT xs (prN xs) k) hm2
      have hSb : S ≤ 40000000000000 := by have h1 := Hk.out; have h2 := He.out; omega
      clear hS hmo
      obtain ⟨wq, rfl⟩ : ∃ x, x = wr := ⟨_, rfl⟩
      by_cases hlt : m < xs.length
      · have hlt' : (m : Int) < (xs.length : Int) := by omega
        have hw2 : IntKind.i64.wrap ((m : Int) + 1) = (m : Int) + 1 := IntWalk.i64_in _ (by omega)
        obtain ⟨gb', ob', hA', hat⟩ := H.out.at m hlt
        injection hA' with hA'
        injection hA' with e1 e2
        subst e1 e2
        have hat2 : PcAt wq B gb (ob + m * 4) (pg xs m) := by rw [hwy]; exact ⟨hat.lt, hat.c0, hat.c1, hat.c2, hat.c3⟩
        have q1 := hat2.c1
        have q2 := hat2.c2
        have hstep : smN (chT xs (prN xs) k) (m + 1) = smN (chT xs (prN xs) k) m + chT xs (prN xs) k m := rfl
        by_cases hpk : (pg xs m).par = (k : Int)
        · have he := HS.out.each m hlt
          obtain ⟨E, hE⟩ : ∃ E : Nat, (pg xs m).each = (E : Int) := ⟨(pg xs m).each.toNat, by omega⟩
          have hc : chT xs (prN xs) k m = E * prN xs m := by unfold chT; rw [if_pos hpk, hE, Int.toNat_natCast]
          rw [hc] at hstep
          have hmo := smN_mono (chT xs (prN xs) k) (show m + 1 ≤ xs.length from hlt)
          have hSb2 : S + E * prN xs m ≤ 40000000000000 := by have h1 := Hk.out; have h2 := He.out; have h3 := HSm.out; omega
          have HS2 := Lib.hid (show S + E * prN xs m = P + smN (chT xs (prN xs) k) (m + 1) from by have h3 := HSm.out; omega)
          have HR := Lib.hid (fun n => IH.out m (wq.drewN n) hlt (by omega) (by rw [hwy]; exact H.out))
          rw [hpk] at q1
          rw [hE] at q2
          have hwm : IntKind.i64.wrap ((E : Int) * (prN xs m : Int)) = ((E * prN xs m : Nat) : Int) := by rw [← Int.natCast_mul]; exact IntWalk.i64_in _ (by omega)
          have hws : IntKind.i64.wrap ((S : Int) + ((E * prN xs m : Nat) : Int)) = ((S + E * prN xs m : Nat) : Int) := by rw [← Int.natCast_add]; exact IntWalk.i64_in _ (by omega)
          have Hwy := Lib.hid hwy
          clear hat hat2 hpk he hE hc hstep hmo hwy hSb
          generalize prN xs m = R at *
          obtain ⟨M, hM⟩ : ∃ z, E * R = z := ⟨_, rfl⟩
          rw [hM] at hwm hws HS2 hSb2
          clear hM
          obtain ⟨S2, hS2⟩ : ∃ z, S + M = z := ⟨_, rfl⟩
          rw [hS2] at hws HS2 hSb2
          clear hS2
          go_wp2_with fail
          go_quiet ((go_at_call 66; exact Calls.quiet_of (HR.out _)))
          clear hwm hws
          go_wp2_with fail
          go_roundw
          case rel => exact ⟨m + 1, S2, q + nq, by omega, by omega, HS2.out, by go_num, by go_num, by rw [Hwy.out]; exact World.drewN_drewN _ _ _⟩
          case measure => first | (simp [intOf]; done) | (simp [intOf]; omega)
        · have hc : chT xs (prN xs) k m = 0 := by unfold chT; rw [if_neg hpk]
          rw [hc] at hstep
          have HS2 := Lib.hid (show S = P + smN (chT xs (prN xs) k) (m + 1) from by have h3 := HSm.out; omega)
          have hpk' : ((pg xs m).par == (k : Int)) = false := by simp [hpk]
          have Hwy := Lib.hid hwy
          clear hat hat2 hc hstep hwy
          generalize (pg xs m).par = pp at *
          go_wp2_with fail
          go_roundw
          case rel => exact ⟨m + 1, S, q, by omega, by omega, HS2.out, by go_num, by go_num, Hwy.out⟩
          case measure => first | (simp [intOf]; done) | (simp [intOf]; omega)
      · obtain rfl : m = xs.length := by omega
        have hlt' : ¬ ((xs.length : Int) < (xs.length : Int)) := by omega
        have Hz := Lib.hid (show S = prN xs k from by rw [HSm.out, He.out])
        have Hwy := Lib.hid hwy
        clear hwy
        go_wp2_with fail
        go_ret
        exact ⟨ret_int (by rw [Hz.out]), q, Hwy.out⟩
end Go.Proofs.Ytalalegjeegocaa
/- Inventories, part 25: PriceOf, both sides. -/
namespace Go.Proofs.Ytalalegjeegocaa
open Go.RowKit Go.Joins

def prV (xs : List Pc) (k : Int) : Int := if cdP xs k = 0 then (prN xs k.toNat : Int) else 0
def RetPr (xs : List Pc) (k : Int) (w : World) (e : Ending) (w' : World) : Prop := e = .returned (.tuple #[.int .i64 (prV xs k), .int .i64 (cdP xs k)]) ∧ Below w.heap.size w w'
theorem okP_price {xs : List Pc} (h : allN xs.length (pcB xs) = true) {i : Nat} (hi : i < xs.length) : 0 ≤ (pg xs i).price ∧ (pg xs i).price ≤ 1000000 := (pcB_ok (allN_get h hi)).2.2.2.1
set_option maxRecDepth 100000 in
set_option maxHeartbeats 1600000 in
theorem PriceS_any (B : Nat) (v : Value) (xs : List Pc) (k : Int) (w : World) (h : RdP w B v xs) (hB : B ≤ w.heap.size) (hn : xs.length ≤ 100000) (hz : szP xs) :
    Calls Try.prog 28 #[v, .int .i64 k] w (RetPr xs k w) := by
  have HC := Lib.hid (codeS_any B v xs k w h hB hn hz)
  have H := Lib.hid h
  obtain ⟨A, c, rfl⟩ := h.slice
  clear h hz
  by_cases hd : cdP xs k = 0
  · obtain ⟨hok, j, rfl, hj⟩ := cdP_ok hd
    obtain ⟨⟨_, hl40⟩, hpc, hsh, htt⟩ := okP_ok hok
    have hv : prV xs (j : Int) = (prN xs j : Int) := by unfold prV; rw [if_pos hd, Int.toNat_natCast]
    have Hfin := Lib.hid (fun w' (hb : Below w.heap.size w w') => (show RetPr xs (j : Int) w (.returned (.tuple #[.int .i64 (prN xs j : Int), .int .i64 0])) w' from ⟨by rw [hv, hd], hb⟩))
    have HR := Lib.hid (fun wx hx => price_any B (.slice A xs.length c) xs hl40 hsh htt (fun i hi => okP_price hpc hi) xs.length j wx hj (by omega) hx)
    rw [hd] at HC
    clear hd hok hpc hsh htt hv
    generalize prN xs j = y at *
    go_enter Try.func28, Try.ntmps28
    go_wp2_with fail
    refine (HC.out).mono ?_; rintro e w2 ⟨rfl, hb2⟩
    have Hb2 := Lib.hid hb2
    have HR2 := Lib.hid (HR.out w2 (H.out.below (hb2.mono hB)))
    clear hb2 HR
    go_wp2_with fail
    refine (HR2.out).mono ?_; rintro e w3 ⟨rfl, q, hw3⟩
    have Hz := Lib.hid (Hfin.out w3 (by rw [hw3]; exact below_drewN Hb2.out q))
    clear hw3
    go_wp2_with fail
    go_ret2
    exact Hz.out
  · obtain ⟨c1, hc1⟩ : ∃ z, cdP xs k = z := ⟨_, rfl⟩
    have hv : prV xs k = 0 := by unfold prV; rw [if_neg hd]
    have Hfin := Lib.hid (fun w' (hb : Below w.heap.size w w') => (show RetPr xs k w (.returned (.tuple #[.int .i64 0, .int .i64 c1])) w' from ⟨by rw [hv, hc1], hb⟩))
    rw [hc1] at HC hd
    have hcb : (c1 == 0) = false := by simp [hd]
    have hcb2 : (c1 != 0) = true := by simp [hd]
    clear hc1 hv
    go_enter Try.func28, Try.ntmps28
    go_wp2_with fail
    refine (HC.out).mono ?_; rintro e w2 ⟨rfl, hb2⟩
    have Hz := Lib.hid (Hfin.out w2 hb2)
    clear hb2
    go_wp2_with fail
    go_ret2
    exact Hz.out
end Go.Proofs.Ytalalegjeegocaa
/- Inventories, part 26: PriceOf of the program (gen_pc26.py). -/
namespace Go.Proofs.Ytalalegjeegocaa
open Go.RowKit Go.Joins

theorem prA_store {xs : List Pc} {i p : Nat} (hi : i < xs.length) (hp : (pg xs i).par = (p : Int)) (hpi : p < i) : tab xs.length (put (put (fun x => (prA xs (i + 1) x : Int)) i (prN xs i : Int)) p (prA xs i p : Int)) = tab xs.length (fun x => (prA xs i x : Int)) := tab_congr fun x _ => by
  unfold put
  by_cases h1 : x = p
  · rw [if_pos h1, h1]
  · rw [if_neg h1]
    by_cases h2 : x = i
    · rw [if_pos h2, h2, prA_self]
    · rw [if_neg h2]
      exact congrArg _ (prA_else h2 (by omega))
theorem prA_store0 {xs : List Pc} {i : Nat} (hp : (pg xs i).par = -1) : tab xs.length (put (fun x => (prA xs (i + 1) x : Int)) i (prN xs i : Int)) = tab xs.length (fun x => (prA xs i x : Int)) := tab_congr fun x _ => by
  unfold put
  by_cases h2 : x = i
  · rw [if_pos h2, h2, prA_self]
  · rw [if_neg h2]
    exact congrArg _ (prA_else h2 (by omega))
set_option maxRecDepth 100000 in
set_option maxHeartbeats 1600000 in
theorem PriceI_any (B : Nat) (v : Value) (xs : List Pc) (k : Int) (w : World) (h : RdP w B v xs) (hB : B ≤ w.heap.size) (hn : xs.length ≤ 100000) (hz : szP xs) :
    Calls Try.prog 27 #[v, .int .i64 k] w (RetPr xs k w) := by
  have HC := Lib.hid (codeI_any B v xs k w h hB hn hz)
  have H := Lib.hid h
  obtain ⟨A, c, rfl⟩ := h.slice
  clear h hz
  by_cases hd : cdP xs k = 0
  · obtain ⟨hok, j, rfl, hj⟩ := cdP_ok hd
    obtain ⟨⟨_, hl40⟩, hpc, hsh, htt⟩ := okP_ok hok
    have hv : prV xs (j : Int) = (prN xs j : Int) := by unfold prV; rw [if_pos hd, Int.toNat_natCast]
    have Hfin := Lib.hid (fun w' (hb : Below w.heap.size w w') => (show RetPr xs (j : Int) w (.returned (.tuple #[.int .i64 (prN xs j : Int), .int .i64 0])) w' from ⟨by rw [hv, hd], hb⟩))
    have HBd := Lib.hid (fun i => prN_bd hl40 hsh htt (fun i hi => (okP_price hpc hi).2) (k := i))
    have HPr := Lib.hid (fun i (hi : i < xs.length) => okP_price hpc hi)
    have HS := Lib.hid hsh
    rw [hd] at HC
    have hwn : IntKind.i64.wrap ((xs.length : Int) - 1) = (xs.length : Int) - 1 := IntWalk.i64_in _ (by omega)
    clear hd hok hpc hsh htt hv
    go_enter Try.func27, Try.ntmps27
    go_wp2_with fail
    refine (HC.out).mono ?_; rintro e w2 ⟨rfl, hb2⟩
    have Hb2 := Lib.hid hb2
    obtain ⟨w3, hmk, hon, hbn⟩ := mk_ints xs.length (by omega) w2
    have Hon := Lib.hid hon
    have Hbn := Lib.hid (hb2.trans (hbn.mono hb2.size))
    clear hb2 hon hbn HC
    go_wp2_with fail
    clear hmk hwn
    go_loopw [8, 9] (fun i _ wr => ∃ m : Nat, j ≤ m ∧ m ≤ xs.length ∧ i = .int .i64 ((m : Int) - 1) ∧ wr.ownsRow w2.heap.size 2 1 (.slice (some ⟨w2.heap.size, 0, none⟩) xs.length xs.length) xs.length (tab xs.length (fun x => (prA xs m x : Int))) ∧ Below w.heap.size w wr) (fun i _ _ => (intOf i + 1).toNat)
    case atStart => exact ⟨xs.length, by omega, Nat.le_refl _, rfl, by rw [tab_congr (fun i hi => by rw [prA_end xs hi])]; exact Hon.out, Hbn.out⟩
    case round =>
      obtain ⟨m, hm1, hm2, rfl, hown, hbl⟩ := hrel
      have Hown := Lib.hid hown
      have Hbl := Lib.hid hbl
      clear Hon Hbn
      by_cases hlt : j < m
      · obtain ⟨i, rfl⟩ : ∃ i, m = i + 1 := ⟨m - 1, by omega⟩
        have ei : ((i + 1 : Nat) : Int) - 1 = (i : Int) := by omega
        rw [ei]
        have hil : i < xs.length := by omega
        have hil' : (i : Int) < (xs.length : Int) := by omega
        have hji : (j : Int) ≤ (i : Int) := by omega
        have hw0 : IntKind.i64.wrap ((i : Int) - 1) = (i : Int) - 1 := IntWalk.i64_in _ (by omega)
        obtain ⟨gb, ob, hA, hat⟩ := H.out.at i hil
        subst hA
        have hatr := hat.below (hbl.mono hB)
        have q1 := hatr.c1
        have q2 := hatr.c2
        have q3 := hatr.c3
        obtain ⟨n0, n1⟩ := own_cellI hown i hil
        have hpi := HPr.out i hil
        have hbi := HBd.out i hil
        have how := prA_own HS.out hil
        have hws : IntKind.i64.wrap ((prA xs (i + 1) i : Int) + (pg xs i).price) = (prN xs i : Int) := by
          have e : (prA xs (i + 1) i : Int) + (pg xs i).price = (prN xs i : Int) := by omega
          rw [e]
          exact IntWalk.i64_in _ (by omega)
        have hg := (hown.lt _ rfl)
        have hst := (hown.stored i (.int .i64 (prN xs i : Int))).1
        rw [tab_set] at hst
        have hb4 := hbl.setCell (p := ⟨w2.heap.size, i, none⟩) Hb2.out.size (.int .i64 (prN xs i : Int))
        obtain ⟨wx, hwx⟩ : ∃ z, (wr.setCell ⟨w2.heap.size, i, none⟩ (.int .i64 (prN xs i : Int))).drew = z := ⟨_, rfl⟩
        have hst2 := hst.drew
        rw [hwx] at hst2
        have hb5 : Below w.heap.size w wx := by rw [← hwx]; exact hb4.drew
        have hatx := hat.below (hb5.mono hB)
        have x1 := hatx.c1
        have x2 := hatx.c2
        clear ei hown hbl hatr how hst hb4 hatx hat
        by_cases hp0 : (pg xs i).par = -1
        · rw [hp0] at q1 x1
          have Hrow := Lib.hid (show wx.ownsRow w2.heap.size 2 1 (.slice (some ⟨w2.heap.size, 0, none⟩) xs.length xs.length) xs.length (tab xs.length (fun x => (prA xs i x : Int))) from by rw [← prA_store0 hp0]; exact hst2)
          have Hb5 := Lib.hid hb5
          clear hst2 hb5 hp0
          generalize prN xs i = y at *
          generalize prA xs (i + 1) i = y0 at *
          generalize (pg xs i).price = pq at *
          go_wp2_with fail
          go_region
          go_wp2_with fail
          go_roundw
          case rel => exact ⟨i, by omega, by omega, rfl, Hrow.out, Hb5.out⟩
          case measure => first | (simp [intOf]; done) | (simp [intOf]; omega)
        · obtain ⟨p, hpe, hpi2⟩ : ∃ p : Nat, (pg xs i).par = (p : Int) ∧ p < i := by
            have h1 := HS.out.lt hil
            by_cases h0 : i = 0
            · exact absurd (by rw [h0]; exact HS.out.par0 (by omega)) hp0
            · have h2 := HS.out.par i (by omega) hil
              exact ⟨(pg xs i).par.toNat, by omega, by omega⟩
          have hpar := prA_par hil hpe hpi2
          have hple := prA_le HS.out (j := i) (show p < xs.length by omega)
          have hbp := HBd.out p (by omega)
          obtain ⟨E, hE⟩ : ∃ E : Nat, (pg xs i).each = (E : Int) := ⟨(pg xs i).each.toNat, by have := HS.out.each i hil; omega⟩
          rw [hE, Int.toNat_natCast] at hpar
          obtain ⟨y0', y1'⟩ := own_cellI hst2 p (by omega)
          obtain ⟨z0, z1⟩ := own_cellI hst2 i hil
          have hst3 := (hst2.stored p (.int .i64 (prA xs i p : Int))).1
          rw [tab_set, prA_store hil hpe hpi2] at hst3
          have hb6 := (hb5.setCell (p := ⟨w2.heap.size, p, none⟩) Hb2.out.size (.int .i64 (prA xs i p : Int))).drew
          obtain ⟨wy, hwy⟩ : ∃ z, (wx.setCell ⟨w2.heap.size, p, none⟩ (.int .i64 (prA xs i p : Int))).drew = z := ⟨_, rfl⟩
          rw [hwy] at hb6
          have hst4 := hst3.drew
          rw [hwy] at hst4
          have Hrow := Lib.hid hst4
          have Hb6 := Lib.hid hb6
          have e1 : put (fun x => (prA xs (i + 1) x : Int)) i (prN xs i : Int) p = (prA xs (i + 1) p : Int) := by unfold put; rw [if_neg (by omega)]
          have e2 : put (fun x => (prA xs (i + 1) x : Int)) i (prN xs i : Int) i = (prN xs i : Int) := by unfold put; rw [if_pos rfl]
          rw [e1] at y0'
          rw [e2] at z0
          rw [hpe] at q1 x1
          rw [hE] at q2 x2
          have hwm : IntKind.i64.wrap ((E : Int) * (prN xs i : Int)) = ((E * prN xs i : Nat) : Int) := by rw [← Int.natCast_mul]; exact IntWalk.i64_in _ (by omega)
          have hwa : IntKind.i64.wrap ((prA xs (i + 1) p : Int) + ((E * prN xs i : Nat) : Int)) = (prA xs i p : Int) := by rw [← Int.natCast_add, hpar]; exact IntWalk.i64_in _ (by omega)
          have hpl : (p : Int) < (xs.length : Int) := by omega
          have hp0' : (0 : Int) ≤ (p : Int) := by omega
          clear hst2 hst3 hst4 hb5 hb6 e1 e2 hpar hpe hE hp0 hple
          generalize E * prN xs i = M at *
          generalize prN xs i = y at *
          generalize prA xs (i + 1) i = y0 at *
          generalize prA xs (i + 1) p = yp at *
          generalize prA xs i p = yq at *
          generalize (pg xs i).price = pq at *
          go_wp2_with fail
          go_region
          go_wp2_with fail
          go_region
          go_wp2_with fail
          go_roundw
          case rel => exact ⟨i, by omega, by omega, rfl, Hrow.out, Hb6.out⟩
          case measure => first | (simp [intOf]; done) | (simp [intOf]; omega)
      · obtain rfl : m = j := by omega
        have hlt' : ¬ ((m : Int) ≤ (m : Int) - 1) := by omega
        obtain ⟨n0, n1⟩ := own_cellI hown m hj
        rw [prA_self] at n0
        have Hz := Lib.hid (Hfin.out _ hbl)
        have hml : (m : Int) < (xs.length : Int) := by omega
        clear hown hbl
        generalize prN xs m = y at *
        go_wp2_with fail
        go_ret2
        exact Hz.out
  · obtain ⟨c1, hc1⟩ : ∃ z, cdP xs k = z := ⟨_, rfl⟩
    have hv : prV xs k = 0 := by unfold prV; rw [if_neg hd]
    have Hfin := Lib.hid (fun w' (hb : Below w.heap.size w w') => (show RetPr xs k w (.returned (.tuple #[.int .i64 0, .int .i64 c1])) w' from ⟨by rw [hv, hc1], hb⟩))
    rw [hc1] at HC hd
    have hcb : (c1 == 0) = false := by simp [hd]
    have hcb2 : (c1 != 0) = true := by simp [hd]
    clear hc1 hv
    go_enter Try.func27, Try.ntmps27
    go_wp2_with fail
    refine (HC.out).mono ?_; rintro e w2 ⟨rfl, hb2⟩
    have Hz := Lib.hid (Hfin.out w2 hb2)
    clear hb2
    go_wp2_with fail
    go_ret2
    exact Hz.out
end Go.Proofs.Ytalalegjeegocaa
/- Inventories, part 27: SamePieces, both sides (gen_pc27.py). -/
namespace Go.Proofs.Ytalalegjeegocaa
open Go.RowKit Go.Joins

theorem take_eqP {xs ys : List Pc} (k : Nat) (hx : k < xs.length) (hy : k < ys.length) (h0 : xs.take k = ys.take k) (h : xs[k] = ys[k]) : xs.take (k + 1) = ys.take (k + 1) := by
  rw [List.take_succ_eq_append_getElem hx, List.take_succ_eq_append_getElem hy, h0, h]
theorem ne_ofP {xs ys : List Pc} (k : Nat) (hx : k < xs.length) (hy : k < ys.length) (h : xs[k] ≠ ys[k]) : decide (xs = ys) = false :=
  decide_eq_false fun e => h (by subst e; rfl)

set_option maxRecDepth 100000 in
set_option maxHeartbeats 1600000 in
theorem SamePS_any (B1 B2 : Nat) (v1 v2 : Value) (xs ys : List Pc) (w : World) (h1 : RdP w B1 v1 xs) (h2 : RdP w B2 v2 ys) (hx : xs.length ≤ 1048576) :
    Calls Try.prog 29 #[v1, v2] w fun e w' => e = .returned (.bool (decide (xs = ys))) ∧ ∃ n, w' = w.drewN n := by
  have H1 := Lib.hid h1
  have H2 := Lib.hid h2
  obtain ⟨A1, c1, rfl⟩ := h1.slice
  obtain ⟨A2, c2, rfl⟩ := h2.slice
  clear h1 h2
  by_cases hl : xs.length = ys.length
  · have hl' : ((xs.length : Int) == (ys.length : Int)) = true := by rw [beq_iff_eq]; omega
    have hl2 : ((xs.length : Int) != (ys.length : Int)) = false := by simp [bne, hl']
    have Hl := Lib.hid hl; clear hl
    go_enter Try.func29, Try.ntmps29
    go_wp2_with fail
    go_loopw [5] (fun i wr => ∃ k : Nat, k ≤ xs.length ∧ i = .int .i64 (k : Int) ∧ xs.take k = ys.take k ∧ ∃ n, wr = w.drewN n) (fun i _ => xs.length - (intOf i).toNat)
    case atStart => exact ⟨0, Nat.zero_le _, rfl, rfl, 0, rfl⟩
    case round =>
      obtain ⟨k, hk, rfl, htk, n0, rfl⟩ := hrel
      have Htk := Lib.hid htk
      clear htk
      by_cases hlt : k < xs.length
      · have hlt' : (k : Int) < (xs.length : Int) := by omega
        have hlt2 : (k : Int) < (ys.length : Int) := by have := Hl.out; omega
        have hky : k < ys.length := by have := Hl.out; omega
        obtain ⟨b1, o1, hA1, hE1⟩ := H1.out.at k hlt
        obtain ⟨b2, o2, hA2, hE2⟩ := H2.out.at k hky
        subst hA1 hA2
        rw [pg_at hlt] at hE1
        rw [pg_at hky] at hE2
        have hkz : (0 : Int) ≤ (k : Int) := by omega
        have Hst := Lib.hid (fun h => take_eqP (xs := xs) (ys := ys) k hlt hky Htk.out h)
        have Hbad := Lib.hid (fun h => ne_ofP (xs := xs) (ys := ys) k hlt hky h)
        generalize xs[k] = x at *
        generalize ys[k] = y at *
        obtain ⟨a, b, f, t⟩ := x
        obtain ⟨a2, b2', f2, t2⟩ := y
        obtain ⟨_, p0, p1, p2, p3⟩ := hE1
        obtain ⟨_, q0, q1, q2, q3⟩ := hE2
        dsimp only at p0 p1 p2 p3 q0 q1 q2 q3
        by_cases he : (⟨a, b, f, t⟩ : Pc) = ⟨a2, b2', f2, t2⟩
        · have Hs2 := Lib.hid (Hst.out he)
          injection he with e1 e2 e3 e4
          subst e1 e2 e3 e4
          clear Hst Hbad
          go_wp2_with fail
          go_quiet (fail)
          go_wp2_with fail
          go_roundw
          case rel => exact ⟨k + 1, by omega, by go_num, Hs2.out, _, rfl⟩
          case measure => simp [intOf]; omega
        · have Hb2 := Lib.hid (Hbad.out he)
          clear Hst Hbad
          by_cases h1 : a = a2
          · subst h1
            by_cases h2 : b = b2'
            · subst h2
              by_cases h3 : f = f2
              · subst h3
                have h4 : (t == t2) = false := beq_eq_false_iff_ne.2 fun h => he (by rw [h])
                go_wp2_with fail
                go_quiet (fail)
                go_wp2_with fail
                go_ret
                exact ⟨by rw [Hb2.out]; rfl, _, World.drewN_drewN _ _ _⟩
              · have h4 : (f == f2) = false := beq_eq_false_iff_ne.2 h3
                go_wp2_with fail
                go_quiet (fail)
                go_wp2_with fail
                go_ret
                exact ⟨by rw [Hb2.out]; rfl, _, World.drewN_drewN _ _ _⟩
            · have h4 : (b == b2') = false := beq_eq_false_iff_ne.2 h2
              go_wp2_with fail
              go_quiet (fail)
              go_wp2_with fail
              go_ret
              exact ⟨by rw [Hb2.out]; rfl, _, World.drewN_drewN _ _ _⟩
          · have h4 : (a.toList == a2.toList) = false := beq_eq_false_iff_ne.2 fun h => h1 (ba_inj h)
            go_wp2_with fail
            go_quiet (fail)
            go_wp2_with fail
            go_ret
            exact ⟨by rw [Hb2.out]; rfl, _, World.drewN_drewN _ _ _⟩
      · have hkk : k = xs.length := by omega
        subst hkk
        have hlt' : (xs.length : Int) ≤ (xs.length : Int) := Int.le_refl _
        have he : xs = ys := by
          have h := Htk.out
          have h3 := Hl.out
          rw [List.take_length, h3, List.take_length] at h
          exact h
        have He := Lib.hid (decide_eq_true he)
        clear he
        go_wp2_with fail
        go_ret
        exact ⟨by rw [He.out]; rfl, n0, rfl⟩
  · have hl' : ((xs.length : Int) == (ys.length : Int)) = false := by rw [beq_eq_false_iff_ne]; omega
    have hl2 : ((xs.length : Int) != (ys.length : Int)) = true := by simp [bne, hl']
    have He := Lib.hid (show decide (xs = ys) = false from decide_eq_false (fun h => hl (by rw [h])))
    clear hl
    go_enter Try.func29, Try.ntmps29
    go_wp2_with fail
    go_ret
    exact ⟨by rw [He.out]; rfl, 0, rfl⟩
end Go.Proofs.Ytalalegjeegocaa
/- Draws: a row of the call's own that grows while numbers are drawn; a text is spoilt (l01Spoil). -/
namespace Go.Proofs.Ytalalegjeegocaa
open Go.RowKit Go.Joins

/-- in the world w, reached from W: the source g has done at most k draws, v is a row of the call's own, and of what was there only the source has turned -/
structure DrR (W w : World) (B g k : Nat) (bs : List UInt8) (e : TypeId) (sz : Nat) (v : Value) (n : Nat) (cs : List Value) : Prop where
  lt : g < W.heap.size
  src : SrcAt w B g k bs
  row : w.ownsRow W.heap.size e sz v n cs
  gr : W.grownBy w (some g)
theorem DrR.draw {W w w' : World} {B g k k' : Nat} {bs : List UInt8} {e : TypeId} {sz n : Nat} {v : Value} {cs : List Value} (h : DrR W w B g k bs e sz v n cs) (hs : SrcAt w' B g k' bs) (hg : w.grownBy w' (some g)) : DrR W w' B g k' bs e sz v n cs :=
  ⟨h.lt, hs, h.row.kept hg (by
    cases hv : v.ownBlock with
    | none => exact .inl rfl
    | some x => exact .inr fun e => by have := (h.row.lt x hv).1; have := h.lt; injection e; omega), grown_trans h.gr hg⟩
theorem DrR.below {W w w' : World} {B g k : Nat} {bs : List UInt8} {e : TypeId} {sz n : Nat} {v : Value} {cs : List Value} (h : DrR W w B g k bs e sz v n cs) (hb : Below w.heap.size w w') : DrR W w' B g k bs e sz v n cs :=
  ⟨h.lt, h.src.below hb, own_below h.row hb, grown_below h.gr hb⟩
theorem DrR.more {W w : World} {B g k k' : Nat} {bs : List UInt8} {e : TypeId} {sz n : Nat} {v : Value} {cs : List Value} (h : DrR W w B g k bs e sz v n cs) (hk : k ≤ k') : DrR W w B g k' bs e sz v n cs :=
  ⟨h.lt, h.src.more hk, h.row, h.gr⟩
theorem grownBy_row {W w w' : World} {g : Nat} {ob : Option Nat} (h : W.grownBy w (some g)) (hg : w.grownBy w' ob) (ho : ∀ x, ob = some x → W.heap.size ≤ x) : W.grownBy w' (some g) :=
  ⟨hg.os.trans h.os, hg.tape.trans h.tape, hg.output.trans h.output, Nat.le_trans h.size hg.size, fun i hi hne => (hg.block i (Nat.lt_of_lt_of_le hi h.size) (fun e => by have := ho i e.symm; omega)).trans (h.block i hi hne)⟩
theorem DrR.app {W w w' : World} {B g k : Nat} {bs : List UInt8} {e : TypeId} {sz n n' : Nat} {v v' : Value} {cs cs' : List Value} (h : DrR W w B g k bs e sz v n cs) (hr : w'.ownsRow W.heap.size e sz v' n' cs') (hg : w.grownBy w' v.ownBlock) : DrR W w' B g k bs e sz v' n' cs' :=
  ⟨h.lt, h.src.grown hg (fun x hx => Nat.lt_of_lt_of_le h.lt (h.row.lt x hx).1), hr, grownBy_row h.gr hg (fun x hx => (h.row.lt x hx).1)⟩
theorem DrR.drewN {W w : World} {B g k : Nat} {bs : List UInt8} {e : TypeId} {sz n : Nat} {v : Value} {cs : List Value} (h : DrR W w B g k bs e sz v n cs) (m : Nat) : DrR W (w.drewN m) B g k bs e sz v n cs :=
  ⟨h.lt, h.src.drewN m, h.row.drewN m, grown_below h.gr (below_drewN (Below.refl _ _) m)⟩
theorem DrR.size {W w : World} {B g k : Nat} {bs : List UInt8} {e : TypeId} {sz n : Nat} {v : Value} {cs : List Value} (h : DrR W w B g k bs e sz v n cs) : W.heap.size ≤ w.heap.size := h.gr.size
theorem DrR.nil {W : World} {B g k : Nat} {bs : List UInt8} (h : SrcAt W B g k bs) (e : TypeId) (sz : Nat) : DrR W W B g k bs e sz (.slice none 0 0) 0 [] :=
  ⟨h.lt, h, ⟨by simp, .inl ⟨rfl, rfl⟩⟩, ⟨rfl, rfl, rfl, Nat.le_refl _, fun _ _ _ => rfl⟩⟩
theorem DrR.made {W : World} {B g k : Nat} {bs : List UInt8} (h : SrcAt W B g k bs) (e : TypeId) (sz : Nat) : DrR W (W.alloc (.cells #[] e)) B g k bs e sz (.slice (some ⟨W.heap.size, 0, none⟩) 0 0) 0 [] :=
  have hb := (Below.refl W.heap.size W).alloc (Nat.le_refl _) (.cells #[] e)
  ⟨h.lt, h.below hb, World.ownsRow_made (base := W.heap.size) (e := e) (size := sz) W #[] 0 (Nat.le_refl _) (by simp [maxLen]) (by simp), grown_of_below hb _⟩
/-- what a later call sees: the row's owner has gone on -/
theorem DrR.from {W W' w : World} {B g k : Nat} {bs : List UInt8} {e : TypeId} {sz n : Nat} {v : Value} {cs : List Value} (h : DrR W' w B g k bs e sz v n cs) (hg : W.grownBy W' (some g)) (hl : g < W.heap.size) : DrR W w B g k bs e sz v n cs :=
  ⟨hl, h.src, ownsRow_le h.row hg.size, grown_trans hg h.gr⟩

set_option maxRecDepth 100000 in
set_option maxHeartbeats 400000 in
theorem text_in (B g k b m : Nat) (l : List ByteArray) (bs : List UInt8) (w : World) (h : SrcAt w B g k bs) (hk : k < 4611686018427387800) (hm : l.length = m) (hm2 : 2 ≤ m) (hm3 : m ≤ 200) (hb : b ≠ g) (hbl : b < w.heap.size)
    (hc : ∀ i (hi : i < l.length), w.cell? ⟨b, i, none⟩ = some (.string l[i])) :
    Calls Try.prog 70 #[.pointer (some ⟨g, 0, none⟩), .slice (some ⟨b, 0, none⟩) m m] w fun e w' => ∃ z, z ∈ l ∧ e = .returned (.string z) ∧ SrcAt w' B g (k + 2) bs ∧ w.grownBy w' (some g) := by
  have H := Lib.hid h; clear h
  have Hc := Lib.hid hc; clear hc
  have hm4 : (m : Int) ≤ 200 := by omega
  go_enter Try.func70, Try.ntmps70
  go_wp2_with fail
  refine (pick_any B g k bs m _ H.out (by omega)).mono ?_; rintro e w1 ⟨x, rfl, ⟨hx0, hx1, _⟩, hs1, hg1⟩
  have Hs1 := Lib.hid hs1; clear hs1
  obtain ⟨i, rfl⟩ : ∃ i : Nat, x = i := ⟨x.toNat, by omega⟩
  have hx2 := hx1 (by omega)
  have hi : i < l.length := by omega
  have hcell := (World.cell?_of_block (a := ⟨b, i, none⟩) (hg1.block b hbl (fun e => hb (by injection e)))).trans (Hc.out i hi)
  have hmem := Lib.hid (List.getElem_mem hi)
  generalize l[i] = z at *
  clear hx1
  go_wp2_with fail
  go_ret
  exact ⟨z, hmem.out, rfl, Hs1.out, hg1⟩
theorem alloc_strs (w : World) (l : List ByteArray) (t : TypeId) : ∀ i (hi : i < l.length), (w.alloc (.cells (l.map Value.string).toArray t)).cell? ⟨w.heap.size, i, none⟩ = some (.string l[i]) := fun i hi => by
  have := new_cells w (l.map Value.string).toArray t i (.string l[i]) (by simp [hi])
  rwa [show (⟨w.heap.size, 0, none⟩ : Addr).add i = ⟨w.heap.size, i, none⟩ by unfold Addr.add; split <;> simp_all] at this
/-- .. from texts just laid out, in a region that draws its order -/
theorem text_new (B g k m : Nat) (l : List ByteArray) (bs : List UInt8) (w : World) (h : SrcAt w B g k bs) (hk : k < 4611686018427387800) (hm : l.length = m) (hm2 : 2 ≤ m) (hm3 : m ≤ 200) :
    Calls Try.prog 70 #[.pointer (some ⟨g, 0, none⟩), .slice (some ⟨w.heap.size, 0, none⟩) m m] (w.alloc (.cells (l.map Value.string).toArray 9)) fun e w' => ∃ z, z ∈ l ∧ e = .returned (.string z) ∧ SrcAt w' B g (k + 2) bs ∧ w.grownBy w' (some g) := by
  have hlt := h.lt
  refine (text_in B g k w.heap.size m l bs _ (h.below ((Below.refl w.heap.size w).alloc (Nat.le_refl _) _)) hk hm hm2 hm3 (by omega) (by simp) (alloc_strs w l _)).mono ?_
  rintro e w' ⟨z, h1, h2, h3, h4⟩
  exact ⟨z, h1, h2, h3, grown_from_alloc h4⟩
theorem text_newd (B g k m : Nat) (l : List ByteArray) (bs : List UInt8) (w : World) (h : SrcAt w B g k bs) (hk : k < 4611686018427387800) (hm : l.length = m) (hm2 : 2 ≤ m) (hm3 : m ≤ 200) :
    Calls Try.prog 70 #[.pointer (some ⟨g, 0, none⟩), .slice (some ⟨w.heap.size, 0, none⟩) m m] (w.alloc (.cells (l.map Value.string).toArray 9)).drew fun e w' => ∃ z, z ∈ l ∧ e = .returned (.string z) ∧ SrcAt w' B g (k + 2) bs ∧ w.grownBy w' (some g) := by
  have hlt := h.lt
  refine (text_in B g k w.heap.size m l bs _ (SrcAt.drew (h.below ((Below.refl w.heap.size w).alloc (Nat.le_refl _) _))) hk hm hm2 hm3 (by omega) (by simp) (fun i hi => alloc_strs w l 9 i hi)).mono ?_
  rintro e w' ⟨z, h1, h2, h3, h4⟩
  exact ⟨z, h1, h2, h3, grown_from_alloc (grown_undrew h4)⟩

theorem ne_some0 {s : ByteArray} (h : 0 < s.size) : s.toList.isEmpty = false := by
  rw [ByteArray.toList_eq, List.isEmpty_eq_false_iff]
  intro e
  have h1 : s.data.toList.length = s.size := by simp
  rw [e] at h1
  simp at h1; omega
theorem ne_none0 {s : ByteArray} (h : s.size = 0) : s.toList.isEmpty = true := by
  rw [ByteArray.toList_eq, List.isEmpty_iff]
  exact List.eq_nil_of_length_eq_zero (by simpa using h)
def spoilL : List ByteArray := [⟨#[32]⟩, ⟨#[48]⟩, ⟨#[45]⟩, ⟨#[120]⟩, ⟨#[49]⟩, ⟨#[57]⟩, ⟨#[46]⟩]
theorem spoilL_one : ∀ z ∈ spoilL, z.size = 1 := by decide
def RetSp (w : World) (B g k : Nat) (bs : List UInt8) (n : Nat) (e : Ending) (w' : World) : Prop := ∃ z : ByteArray, e = .returned (.string z) ∧ z.size ≤ n ∧ SrcAt w' B g k bs ∧ w.grownBy w' (some g)

end Go.Proofs.Ytalalegjeegocaa
/- Inventories, part 28: lists of pieces that are drawn. -/
namespace Go.Proofs.Ytalalegjeegocaa
open Go.RowKit Go.Joins

/-- what the text's numbers ask -/
def NmOk (xs : List Pc) (n : Nat) : Prop := ∀ k, k < n → (0 ≤ (pg xs k).each ∧ (pg xs k).each ≤ 1000000000) ∧ 0 ≤ (pg xs k).price ∧ (pg xs k).price ≤ 1000000000
/-- a list whose text can be made -/
structure GoodP (xs : List Pc) : Prop where
  shp : Shp xs xs.length
  nm : NmOk xs xs.length
theorem GoodP.nil : GoodP [] := ⟨⟨fun h => by simp at h, fun k _ h => by simp at h, fun k h => by simp at h⟩, fun k h => by simp at h⟩
theorem pg_left (xs : List Pc) (x : Pc) {k : Nat} (h : k < xs.length) : pg (xs ++ [x]) k = pg xs k := getD_left _ _ _ _ h
theorem pg_last (xs : List Pc) (x : Pc) : pg (xs ++ [x]) xs.length = x := getD_last _ _ _
theorem GoodP.snoc {xs : List Pc} {x : Pc} (h : GoodP xs) (h0 : xs.length = 0 → x.par = -1) (h1 : 0 < xs.length → 0 ≤ x.par ∧ x.par < (xs.length : Int)) (he : 1 ≤ x.each ∧ x.each ≤ 100) (hq : 0 ≤ x.price ∧ x.price ≤ 1000000000) : GoodP (xs ++ [x]) := by
  have hl : (xs ++ [x]).length = xs.length + 1 := by simp
  refine ⟨⟨fun _ => ?_, fun k hk0 hk => ?_, fun k hk => ?_⟩, fun k hk => ?_⟩
  · by_cases e : xs.length = 0
    · have := pg_last xs x
      rw [e] at this
      rw [this]
      exact h0 e
    · rw [pg_left xs x (by omega)]
      exact h.shp.par0 (by omega)
  · by_cases e : k = xs.length
    · rw [e, pg_last]
      exact h1 (by omega)
    · rw [pg_left xs x (by omega)]
      exact h.shp.par k hk0 (by omega)
  · by_cases e : k = xs.length
    · rw [e, pg_last]
      exact he
    · rw [pg_left xs x (by omega)]
      exact h.shp.each k (by omega)
  · by_cases e : k = xs.length
    · rw [e, pg_last]
      exact ⟨by omega, hq⟩
    · rw [pg_left xs x (by omega)]
      exact h.nm k (by omega)
/-- a drawn list of pieces -/
structure DrC (W w : World) (B g k : Nat) (bs : List UInt8) (v : Value) (xs : List Pc) : Prop where
  dr : DrR W w B g k bs 79 4 v xs.length (xs.flatMap cellsP)
  len : xs.length ≤ 62
  sm : ∀ x ∈ xs, x.name.size ≤ 16
  nn : ∃ b c, v = .slice (some ⟨b, 0, none⟩) xs.length c
theorem DrC.draw {W w w' : World} {B g k k' : Nat} {bs : List UInt8} {v : Value} {xs : List Pc} (h : DrC W w B g k bs v xs) (hs : SrcAt w' B g k' bs) (hg : w.grownBy w' (some g)) : DrC W w' B g k' bs v xs := ⟨h.dr.draw hs hg, h.len, h.sm, h.nn⟩
theorem DrC.more {W w : World} {B g k k' : Nat} {bs : List UInt8} {v : Value} {xs : List Pc} (h : DrC W w B g k bs v xs) (hk : k ≤ k') : DrC W w B g k' bs v xs := ⟨h.dr.more hk, h.len, h.sm, h.nn⟩
theorem DrC.below {W w w' : World} {B g k : Nat} {bs : List UInt8} {v : Value} {xs : List Pc} (h : DrC W w B g k bs v xs) (hb : Below w.heap.size w w') : DrC W w' B g k bs v xs := ⟨h.dr.below hb, h.len, h.sm, h.nn⟩
theorem DrC.drew {W w : World} {B g k : Nat} {bs : List UInt8} {v : Value} {xs : List Pc} (h : DrC W w B g k bs v xs) : DrC W w.drew B g k bs v xs := ⟨h.dr.drewN 1, h.len, h.sm, h.nn⟩
theorem DrC.from {W W' w : World} {B g k : Nat} {bs : List UInt8} {v : Value} {xs : List Pc} (h : DrC W' w B g k bs v xs) (hg : W.grownBy W' (some g)) (hl : g < W.heap.size) : DrC W w B g k bs v xs := ⟨h.dr.from hg hl, h.len, h.sm, h.nn⟩
theorem DrC.rd {W w : World} {B g k : Nat} {bs : List UInt8} {v : Value} {xs : List Pc} (h : DrC W w B g k bs v xs) : RdP w w.heap.size v xs := Rd.of_own h.dr.row
theorem DrC.sz {W w : World} {B g k : Nat} {bs : List UInt8} {v : Value} {xs : List Pc} (h : DrC W w B g k bs v xs) : szP xs := fun i hi => by
  rw [pg_at hi]
  exact Nat.le_trans (h.sm _ (List.getElem_mem hi)) (by omega)
/-- .. and a piece under way in block q -/
structure PcQ (W w : World) (B g k : Nat) (bs : List UInt8) (v : Value) (xs : List Pc) (q : Nat) (a b c d : Value) : Prop extends DrC W w B g k bs v xs where
  hq : w.heap[q]? = some (.cells #[a, b, c, d] 79 (0, 0))
  rq : W.heap.size ≤ q
  ne : v.ownBlock ≠ some q
theorem PcQ.draw {W w w' : World} {B g k k' q : Nat} {bs : List UInt8} {v a b c d : Value} {xs : List Pc} (h : PcQ W w B g k bs v xs q a b c d) (hs : SrcAt w' B g k' bs) (hg : w.grownBy w' (some g)) : PcQ W w' B g k' bs v xs q a b c d :=
  ⟨h.toDrC.draw hs hg, (hg.block q (Array.getElem?_eq_some_iff.1 h.hq).1 (fun e => by have := h.dr.lt; have := h.rq; injection e; omega)).trans h.hq, h.rq, h.ne⟩
theorem PcQ.drew {W w : World} {B g k q : Nat} {bs : List UInt8} {v a b c d : Value} {xs : List Pc} (h : PcQ W w B g k bs v xs q a b c d) : PcQ W w.drew B g k bs v xs q a b c d := ⟨h.toDrC.drew, h.hq, h.rq, h.ne⟩
theorem PcQ.new {W w : World} {B g k : Nat} {bs : List UInt8} {v : Value} {xs : List Pc} (h : DrC W w B g k bs v xs) (a b c d : Value) : PcQ W (w.alloc (.cells #[a, b, c, d] 79)) B g k bs v xs w.heap.size a b c d :=
  ⟨h.below ((Below.refl w.heap.size w).alloc (Nat.le_refl _) _), heap_alloc_new w _, h.dr.size, fun e => Nat.lt_irrefl _ (h.dr.row.lt _ e).2⟩
theorem PcQ.set {W w : World} {B g k q : Nat} {bs : List UInt8} {v a b c d : Value} {xs : List Pc} (h : PcQ W w B g k bs v xs q a b c d) (i : Nat) (u : Value) {cs : Array Value} (hc : (#[a, b, c, d] : Array Value).setIfInBounds i u = cs) {a' b' c' d' : Value} (he : cs = #[a', b', c', d']) : PcQ W (w.setCell ⟨q, i, none⟩ u) B g k bs v xs q a' b' c' d' := by
  have h1 := heap_setCell_same w q i _ _ u h.hq
  rw [hc, he] at h1
  have hg : w.grownBy (w.setCell ⟨q, i, none⟩ u) (some q) := grown_setCell (a := w) (p := ⟨q, i, none⟩) ⟨rfl, rfl, rfl, Nat.le_refl _, fun _ _ _ => rfl⟩ (.inl rfl) u
  have hlt := h.dr.lt
  refine ⟨⟨⟨hlt, h.dr.src.grown hg (fun x hx => by cases hx; exact Nat.lt_of_lt_of_le hlt h.rq), ownsRow_setCell_other h.dr.row (a := ⟨q, i, none⟩) h.ne u, grownBy_row h.dr.gr hg (fun x hx => by cases hx; exact h.rq)⟩, h.len, h.sm, h.nn⟩, h1, h.rq, h.ne⟩
abbrev put4P (w : World) (r : Nat) (a b c d : Value) : World := (((w.setCell ⟨r, 0, none⟩ a).setCell ⟨r, 1, none⟩ b).setCell ⟨r, 2, none⟩ c).setCell ⟨r, 3, none⟩ d
theorem PcQ.put {W w : World} {B g k q : Nat} {bs : List UInt8} {v a b c d : Value} {xs : List Pc} (h : PcQ W w B g k bs v xs q a b c d) (a' b' c' d' : Value) : PcQ W (put4P w q a' b' c' d') B g k bs v xs q a' b' c' d' :=
  (((h.set 0 a' rfl rfl).set 1 b' rfl rfl).set 2 c' rfl rfl).set 3 d' rfl rfl
/-- the piece comes to the list's end -/
theorem DrC.snoc {W w w' : World} {B g k : Nat} {bs : List UInt8} {v v' : Value} {xs : List Pc} {x : Pc} (h : DrC W w B g k bs v xs) (hl : xs.length < 62) (hx : x.name.size ≤ 16)
    (hr : w'.ownsRow W.heap.size 79 4 v' (xs.length + 1) (xs.flatMap cellsP ++ (#[Value.string x.name, .int .i64 x.par, .int .i64 x.each, .int .i64 x.price] : Array Value).toList)) (hg : w.grownBy w' v.ownBlock) :
    ∃ zs, zs.length = xs.length + 1 ∧ zs = xs ++ [x] ∧ DrC W w' B g k bs v' zs := by
  have e : xs.flatMap cellsP ++ (#[Value.string x.name, .int .i64 x.par, .int .i64 x.each, .int .i64 x.price] : Array Value).toList = (xs ++ [x]).flatMap cellsP := by
    rw [List.flatMap_append]; simp [cellsP]
  rw [e] at hr
  have hlen : (xs ++ [x]).length = xs.length + 1 := by simp
  refine ⟨_, hlen, rfl, ⟨h.dr.app (by rw [hlen]; exact hr) hg, by rw [hlen]; omega, fun y hy => ?_, ?_⟩⟩
  · rcases List.mem_append.1 hy with hy | hy
    · exact h.sm y hy
    · rw [List.mem_singleton.1 hy]; exact hx
  · obtain ⟨b, c, hv, _⟩ := own_posC hr (by omega)
    exact ⟨b, c, by rw [hv, hlen]⟩
def RetDd (w : World) (B g k : Nat) (bs : List UInt8) (e : Ending) (w' : World) : Prop := ∃ v xs, e = .returned v ∧ 1 ≤ xs.length ∧ xs.length ≤ 10 ∧ GoodP xs ∧ DrC w w' B g k bs v xs
def RetDc (w : World) (B g k : Nat) (bs : List UInt8) (e : Ending) (w' : World) : Prop := ∃ v xs, e = .returned v ∧ DrC w w' B g k bs v xs
def pcL : List ByteArray := [⟨#[109, 97, 99, 104, 105, 110, 101]⟩, ⟨#[100, 114, 117, 109]⟩, ⟨#[119, 104, 101, 101, 108]⟩, ⟨#[108, 101, 118, 101, 114]⟩, ⟨#[97, 120, 108, 101]⟩, ⟨#[116, 111, 111, 116, 104]⟩, ⟨#[115, 112, 114, 105, 110, 103]⟩, ⟨#[98, 101, 108, 108]⟩, ⟨#[99, 114, 97, 110, 107]⟩, ⟨#[112, 105, 110]⟩]
theorem pcL_sz : ∀ z ∈ pcL, z.size ≤ 16 := by decide
end Go.Proofs.Ytalalegjeegocaa
/- Jobs, part 22: lists of jobs that are drawn. -/
namespace Go.Proofs.Ytalalegjeegocaa
open Go.RowKit Go.Joins

/-- a drawn list of jobs: a row of jobs, each with a row of needs of its own -/
structure DrJ (W w : World) (B g k : Nat) (bs : List UInt8) (v : Value) (ys : List (Jb × Value)) : Prop where
  dr : DrR W w B g k bs 37 4 v ys.length (ys.flatMap cellsJ)
  nds : ∀ y ∈ ys, w.ownsRow W.heap.size 2 1 y.2 y.1.needs.length (intV y.1.needs)
  len : ys.length ≤ 62
  sm : ∀ y ∈ ys, y.1.nm.size ≤ 16 ∧ y.1.needs.length ≤ 62
  nn : ∃ b c, v = .slice (some ⟨b, 0, none⟩) ys.length c
theorem DrJ.draw {W w w' : World} {B g k k' : Nat} {bs : List UInt8} {v : Value} {ys : List (Jb × Value)} (h : DrJ W w B g k bs v ys) (hs : SrcAt w' B g k' bs) (hg : w.grownBy w' (some g)) : DrJ W w' B g k' bs v ys :=
  ⟨h.dr.draw hs hg, fun y hy => own_keptJ (h.nds y hy) hg h.dr.lt, h.len, h.sm, h.nn⟩
theorem DrJ.more {W w : World} {B g k k' : Nat} {bs : List UInt8} {v : Value} {ys : List (Jb × Value)} (h : DrJ W w B g k bs v ys) (hk : k ≤ k') : DrJ W w B g k' bs v ys := ⟨h.dr.more hk, h.nds, h.len, h.sm, h.nn⟩
theorem DrJ.below {W w w' : World} {B g k : Nat} {bs : List UInt8} {v : Value} {ys : List (Jb × Value)} (h : DrJ W w B g k bs v ys) (hb : Below w.heap.size w w') : DrJ W w' B g k bs v ys := ⟨h.dr.below hb, fun y hy => own_below (h.nds y hy) hb, h.len, h.sm, h.nn⟩
theorem DrJ.drewN {W w : World} {B g k : Nat} {bs : List UInt8} {v : Value} {ys : List (Jb × Value)} (h : DrJ W w B g k bs v ys) (n : Nat) : DrJ W (w.drewN n) B g k bs v ys := ⟨h.dr.drewN n, fun y hy => World.ownsRow.drewN (h.nds y hy) n, h.len, h.sm, h.nn⟩
theorem DrJ.drew {W w : World} {B g k : Nat} {bs : List UInt8} {v : Value} {ys : List (Jb × Value)} (h : DrJ W w B g k bs v ys) : DrJ W w.drew B g k bs v ys := h.drewN 1
theorem DrJ.from {W W' w : World} {B g k : Nat} {bs : List UInt8} {v : Value} {ys : List (Jb × Value)} (h : DrJ W' w B g k bs v ys) (hg : W.grownBy W' (some g)) (hl : g < W.heap.size) : DrJ W w B g k bs v ys := ⟨h.dr.from hg hl, fun y hy => ownsRow_le (h.nds y hy) hg.size, h.len, h.sm, h.nn⟩
def jbsOf (ys : List (Jb × Value)) : List Jb := ys.map (·.1)
theorem jbsOf_len (ys : List (Jb × Value)) : (jbsOf ys).length = ys.length := by unfold jbsOf; rw [List.length_map]
theorem DrJ.rd {W w : World} {B g k : Nat} {bs : List UInt8} {v : Value} {ys : List (Jb × Value)} (h : DrJ W w B g k bs v ys) : RdJ w w.heap.size v (jbsOf ys) :=
  ⟨ys, rfl, by rw [jbsOf_len]; exact Rd.of_own h.dr.row, fun y hy => Rd.of_own (h.nds y hy)⟩
theorem DrJ.sz {W w : World} {B g k : Nat} {bs : List UInt8} {v : Value} {ys : List (Jb × Value)} (h : DrJ W w B g k bs v ys) : szJ (jbsOf ys) := fun i hi => by
  rw [jg_at hi]
  obtain ⟨y, hy, e⟩ := List.mem_map.1 (List.getElem_mem hi)
  have := h.sm y hy
  have e2 : (jbsOf ys)[i] = y.1 := e.symm
  rw [e2]
  omega
/-- .. and a job under way in block q -/
structure JbQ (W w : World) (B g k : Nat) (bs : List UInt8) (v : Value) (ys : List (Jb × Value)) (q : Nat) (a b c d : Value) (l : List Int) : Prop extends DrJ W w B g k bs v ys where
  hq : w.heap[q]? = some (.cells #[a, b, c, d] 37 (0, 0))
  rq : W.heap.size ≤ q
  ne : v.ownBlock ≠ some q
  old : ∀ y ∈ ys, ∀ x, y.2.ownBlock = some x → x < q
  cur : w.ownsRow (q + 1) 2 1 d l.length (intV l)
theorem JbQ.qlt {W w : World} {B g k q : Nat} {bs : List UInt8} {v a b c d : Value} {ys : List (Jb × Value)} {l : List Int} (h : JbQ W w B g k bs v ys q a b c d l) : q < w.heap.size := (Array.getElem?_eq_some_iff.1 h.hq).1
theorem JbQ.draw {W w w' : World} {B g k k' q : Nat} {bs : List UInt8} {v a b c d : Value} {ys : List (Jb × Value)} {l : List Int} (h : JbQ W w B g k bs v ys q a b c d l) (hs : SrcAt w' B g k' bs) (hg : w.grownBy w' (some g)) : JbQ W w' B g k' bs v ys q a b c d l :=
  ⟨h.toDrJ.draw hs hg, (hg.block q h.qlt (fun e => by have := h.dr.lt; have := h.rq; injection e; omega)).trans h.hq, h.rq, h.ne, h.old, own_keptJ h.cur hg (by have := h.dr.lt; have := h.rq; omega)⟩
theorem JbQ.below {W w w' : World} {B g k q : Nat} {bs : List UInt8} {v a b c d : Value} {ys : List (Jb × Value)} {l : List Int} (h : JbQ W w B g k bs v ys q a b c d l) (hb : Below w.heap.size w w') : JbQ W w' B g k bs v ys q a b c d l :=
  ⟨h.toDrJ.below hb, ((grown_of_below hb none).block q h.qlt (fun e => by cases e)).trans h.hq, h.rq, h.ne, h.old, own_below h.cur hb⟩
theorem JbQ.drew {W w : World} {B g k q : Nat} {bs : List UInt8} {v a b c d : Value} {ys : List (Jb × Value)} {l : List Int} (h : JbQ W w B g k bs v ys q a b c d l) : JbQ W w.drew B g k bs v ys q a b c d l := ⟨h.toDrJ.drew, h.hq, h.rq, h.ne, h.old, World.ownsRow.drewN h.cur 1⟩
theorem JbQ.more {W w : World} {B g k k' q : Nat} {bs : List UInt8} {v a b c d : Value} {ys : List (Jb × Value)} {l : List Int} (h : JbQ W w B g k bs v ys q a b c d l) (hk : k ≤ k') : JbQ W w B g k' bs v ys q a b c d l := ⟨h.toDrJ.more hk, h.hq, h.rq, h.ne, h.old, h.cur⟩
theorem JbQ.new {W w : World} {B g k : Nat} {bs : List UInt8} {v : Value} {ys : List (Jb × Value)} (h : DrJ W w B g k bs v ys) (a b c : Value) : JbQ W (w.alloc (.cells #[a, b, c, .slice none 0 0] 37)) B g k bs v ys w.heap.size a b c (.slice none 0 0) [] :=
  ⟨h.below ((Below.refl w.heap.size w).alloc (Nat.le_refl _) _), heap_alloc_new w _, h.dr.size, fun e => Nat.lt_irrefl _ (h.dr.row.lt _ e).2, fun y hy x hx => ((h.nds y hy).lt x hx).2, ⟨by simp [intV], .inl ⟨rfl, rfl⟩⟩⟩
theorem JbQ.set {W w : World} {B g k q : Nat} {bs : List UInt8} {v a b c d : Value} {ys : List (Jb × Value)} {l : List Int} (h : JbQ W w B g k bs v ys q a b c d l) (i : Nat) (u : Value) {cs : Array Value} (hc : (#[a, b, c, d] : Array Value).setIfInBounds i u = cs) {a' b' c' : Value} (he : cs = #[a', b', c', d]) : JbQ W (w.setCell ⟨q, i, none⟩ u) B g k bs v ys q a' b' c' d l := by
  have h1 := heap_setCell_same w q i _ _ u h.hq
  rw [hc, he] at h1
  have hg : w.grownBy (w.setCell ⟨q, i, none⟩ u) (some q) := grown_setCell (a := w) (p := ⟨q, i, none⟩) ⟨rfl, rfl, rfl, Nat.le_refl _, fun _ _ _ => rfl⟩ (.inl rfl) u
  have hlt := h.dr.lt
  refine ⟨⟨⟨hlt, h.dr.src.grown hg (fun x hx => by cases hx; exact Nat.lt_of_lt_of_le hlt h.rq), ownsRow_setCell_other h.dr.row (a := ⟨q, i, none⟩) h.ne u, grownBy_row h.dr.gr hg (fun x hx => by cases hx; exact h.rq)⟩, fun y hy => ?_, h.len, h.sm, h.nn⟩, h1, h.rq, h.ne, h.old, ?_⟩
  · exact ownsRow_setCell_other (h.nds y hy) (a := ⟨q, i, none⟩) (fun e => Nat.lt_irrefl _ (h.old y hy q e)) u
  · exact ownsRow_setCell_other h.cur (a := ⟨q, i, none⟩) (fun e => by have := (h.cur.lt q e).1; omega) u
/-- a need comes to the job's needs -/
theorem JbQ.app {W w w1 : World} {B g k q : Nat} {bs : List UInt8} {v a b c d d' : Value} {ys : List (Jb × Value)} {l : List Int} {n : Int} (h : JbQ W w B g k bs v ys q a b c d l) (hg : w.grownBy w1 d.ownBlock)
    (hr : w1.ownsRow (q + 1) 2 1 d' (l.length + 1) (intV l ++ (#[Value.int .i64 n] : Array Value).toList)) : JbQ W (w1.setCell ⟨q, 3, none⟩ d') B g k bs v ys q a b c d' (l ++ [n]) ∧ w1.heap[q]? = some (.cells #[a, b, c, d] 37 (0, 0)) := by
  have hlt := h.dr.lt
  have hrq := h.rq
  have hdb : ∀ x, d.ownBlock = some x → q + 1 ≤ x := fun x hx => (h.cur.lt x hx).1
  have hq1 : w1.heap[q]? = some (.cells #[a, b, c, d] 37 (0, 0)) := (hg.block q h.qlt (fun e => by have := hdb q e.symm; omega)).trans h.hq
  have hr2 : w1.ownsRow (q + 1) 2 1 d' (l ++ [n]).length (intV (l ++ [n])) := by
    have e : intV (l ++ [n]) = intV l ++ (#[Value.int .i64 n] : Array Value).toList := by simp [intV]
    rw [e, List.length_append]
    exact hr
  have hg2 : w1.grownBy (w1.setCell ⟨q, 3, none⟩ d') (some q) := grown_setCell (a := w1) (p := ⟨q, 3, none⟩) ⟨rfl, rfl, rfl, Nat.le_refl _, fun _ _ _ => rfl⟩ (.inl rfl) d'
  have hrow := h.dr.row.kept hg (apart_p h.dr.row h.cur (by decide))
  refine ⟨⟨⟨⟨hlt, (h.dr.src.grown hg (fun x hx => by have := hdb x hx; omega)).grown hg2 (fun x hx => by cases hx; omega), ownsRow_setCell_other hrow (a := ⟨q, 3, none⟩) h.ne d', grownBy_row (grownBy_row h.dr.gr hg (fun x hx => by have := hdb x hx; omega)) hg2 (fun x hx => by cases hx; exact hrq)⟩, fun y hy => ?_, h.len, h.sm, h.nn⟩, ?_, hrq, h.ne, h.old, ?_⟩, hq1⟩
  · have h1 : w1.ownsRow W.heap.size 2 1 y.2 y.1.needs.length (intV y.1.needs) := (h.nds y hy).kept hg (by
      cases hv : y.2.ownBlock with
      | none => exact .inl rfl
      | some x => exact .inr fun e => by have h1 := h.old y hy x hv; have h2 := hdb x e.symm; omega)
    exact ownsRow_setCell_other h1 (a := ⟨q, 3, none⟩) (fun e => Nat.lt_irrefl _ (h.old y hy q e)) d'
  · have h1 := heap_setCell_same w1 q 3 _ _ d' hq1
    exact h1
  · exact ownsRow_setCell_other hr2 (a := ⟨q, 3, none⟩) (fun e => by have := (hr2.lt q e).1; omega) d'
/-- the job comes to the list's end -/
theorem JbQ.snoc {W w w' : World} {B g k q : Nat} {bs : List UInt8} {v v' d : Value} {ys : List (Jb × Value)} {nm : ByteArray} {dd cc : Int} {l : List Int} (h : JbQ W w B g k bs v ys q (.string nm) (.int .i64 dd) (.int .i64 cc) d l) (hl : ys.length < 62) (hx : nm.size ≤ 16) (hll : l.length ≤ 62)
    (hr : w'.ownsRow W.heap.size 37 4 v' (ys.length + 1) (ys.flatMap cellsJ ++ (#[Value.string nm, .int .i64 dd, .int .i64 cc, d] : Array Value).toList)) (hg : w.grownBy w' v.ownBlock) :
    ∃ zs, zs.length = ys.length + 1 ∧ zs = ys ++ [(⟨nm, dd, cc, l⟩, d)] ∧ DrJ W w' B g k bs v' zs := by
  have e : ys.flatMap cellsJ ++ (#[Value.string nm, .int .i64 dd, .int .i64 cc, d] : Array Value).toList = (ys ++ [((⟨nm, dd, cc, l⟩ : Jb), d)]).flatMap cellsJ := by
    rw [List.flatMap_append]; simp [cellsJ]
  rw [e] at hr
  have hlen : (ys ++ [((⟨nm, dd, cc, l⟩ : Jb), d)]).length = ys.length + 1 := by simp
  refine ⟨_, hlen, rfl, ⟨h.dr.app (by rw [hlen]; exact hr) hg, fun y hy => ?_, by rw [hlen]; omega, fun y hy => ?_, ?_⟩⟩
  · rcases List.mem_append.1 hy with hy | hy
    · exact (h.nds y hy).kept hg (apart_p (h.nds y hy) h.dr.row (by decide))
    · rw [List.mem_singleton.1 hy]
      exact ownsRow_le (h.cur.kept hg (apart_p h.cur h.dr.row (by decide))) (by have := h.rq; omega)
  · rcases List.mem_append.1 hy with hy | hy
    · exact h.sm y hy
    · rw [List.mem_singleton.1 hy]; exact ⟨hx, hll⟩
  · obtain ⟨b, c, hv, _⟩ := own_posC hr (by omega)
    exact ⟨b, c, by rw [hv, hlen]⟩
end Go.Proofs.Ytalalegjeegocaa
/- Jobs, part 23: l22Draw (gen_jb23.py). -/
namespace Go.Proofs.Ytalalegjeegocaa
open Go.RowKit Go.Joins

theorem JbQ.put {W w : World} {B g k q : Nat} {bs : List UInt8} {v a b c : Value} {ys : List (Jb × Value)} (h : JbQ W w B g k bs v ys q a b c (.slice none 0 0) []) (a' b' c' : Value) : JbQ W (put4P w q a' b' c' (.slice none 0 0)) B g k bs v ys q a' b' c' (.slice none 0 0) [] :=
  (((h.set 0 a' rfl rfl).set 1 b' rfl rfl).set 2 c' rfl rfl).set 3 (.slice none 0 0) rfl rfl
def RetDj (w : World) (B g k : Nat) (bs : List UInt8) (e : Ending) (w' : World) : Prop := ∃ v ys, e = .returned v ∧ ys.length ≤ 9 ∧ DrJ w w' B g k bs v ys
def jbL : List ByteArray := [⟨#[99, 108, 101, 97, 110]⟩, ⟨#[109, 101, 97, 115, 117, 114, 101]⟩, ⟨#[100, 114, 117, 109, 115]⟩, ⟨#[108, 101, 118, 101, 114, 115]⟩, ⟨#[99, 97, 114, 114, 105, 97, 103, 101]⟩, ⟨#[98, 101, 108, 108]⟩, ⟨#[116, 101, 115, 116]⟩, ⟨#[112, 97, 105, 110, 116]⟩, ⟨#[99, 97, 115, 101]⟩]
theorem jbL_sz : ∀ z ∈ jbL, z.size ≤ 16 := by decide
theorem ones4J (a : ByteArray) (b c : Int) (A : Option Addr) (n m : Nat) : ∀ u ∈ (#[Value.string a, .int .i64 b, .int .i64 c, .slice A n m] : Array Value).toList, u.oneCell' = true := by
  intro u hu
  simp only [List.mem_cons, List.not_mem_nil, or_false] at hu
  rcases hu with rfl | rfl | rfl | rfl <;> rfl
set_option maxRecDepth 100000 in
set_option maxHeartbeats 6400000 in
theorem l22Draw_any (B g k : Nat) (bs : List UInt8) (w : World) (hs : SrcAt w B g k bs) (hk : k + 400 ≤ 4611686018427380000) :
    Calls Try.prog 69 #[.pointer (some ⟨g, 0, none⟩)] w (RetDj w B g (k + 202) bs) := by
  have hlt := hs.lt
  have hb0 := (Below.refl w.heap.size w).alloc (Nat.le_refl _) (.cells (jbL.map Value.string).toArray 9)
  have Hg0 := Lib.hid (grown_of_below hb0 (some g))
  have HD0 := Lib.hid (show DrJ (w.alloc (.cells (jbL.map Value.string).toArray 9)) ((w.alloc (.cells (jbL.map Value.string).toArray 9)).alloc (.cells #[] 37)) B g k bs (.slice (some ⟨w.heap.size + 1, 0, none⟩) 0 0) [] from by
    have e : w.heap.size + 1 = (w.alloc (.cells (jbL.map Value.string).toArray 9)).heap.size := by simp
    rw [e]
    exact ⟨DrR.made (hs.below hb0) _ _, fun y hy => (by cases hy), by simp, fun x hx => (by cases hx), _, _, rfl⟩)
  have HNm := Lib.hid (fun i hi => alloc_strs w jbL 9 i hi)
  have Hlt := Lib.hid (show w.heap.size < (w.alloc (.cells (jbL.map Value.string).toArray 9)).heap.size by simp)
  have hng : w.heap.size ≠ g := by omega
  clear hs hb0
  go_enter Try.func69, Try.ntmps69
  go_wp2_with fail
  refine (pick_any B g k bs 10 _ HD0.out.dr.src (by omega)).mono ?_; rintro e w1 ⟨x, rfl, ⟨hx0, hx1, _⟩, hs1, hg1⟩
  have HD1 := Lib.hid (HD0.out.draw hs1 hg1)
  have hx9 := hx1 (by omega)
  obtain ⟨c, hc⟩ : ∃ c : Nat, x = (c : Int) := ⟨x.toNat, by omega⟩
  have hc10 : c ≤ 9 := by omega
  clear hs1 hg1 hx1 HD0
  obtain ⟨W1, hW1⟩ : ∃ z, w.alloc (.cells (jbL.map Value.string).toArray 9) = z := ⟨_, rfl⟩
  rw [hW1] at HD1 Hlt Hg0 HNm
  clear hW1
  go_wp2_with fail
  (try rw [hc])
  clear hc hx0 hx9
  go_loopw [4, 5] (fun o i wr => ∃ (j : Nat) (ys : List (Jb × Value)), j + ys.length = c ∧ i = .int .i64 (j : Int) ∧ DrJ W1 wr B g (k + 2 + 22 * ys.length) bs o ys) (fun _ i _ => (intOf i).toNat)
  case atStart => exact ⟨c, [], by simp, rfl, HD1.out⟩
  case round =>
    obtain ⟨j, ys, hjc, rfl, hd⟩ := hrel
    obtain ⟨b0, c0, rfl⟩ := hd.nn
    have HD := Lib.hid hd
    have Hjc := Lib.hid hjc
    have hxl : ys.length ≤ 9 := by omega
    clear HD1
    by_cases hj : 0 < j
    · have hj' : (0 : Int) < (j : Int) := by omega
      have hjj : (j : Int) - 1 = ((j - 1 : Nat) : Int) := by omega
      have Hjj := Lib.hid hjj
      have hj10 : (j : Int) ≤ 9 := by omega
      have hx10 : ys.length < 9 := by omega
      have hx10' : (ys.length : Int) < 9 := by omega
      have hz16 := jbL_sz (jbL[ys.length]'(by show ys.length < 9; omega)) (List.getElem_mem _)
      have HNx := Lib.hid (fun wy (hg : W1.grownBy wy (some g)) => (World.cell?_of_block (a := ⟨w.heap.size, ys.length, none⟩) (hg.block w.heap.size Hlt.out (fun e => hng (by injection e)))).trans (HNm.out ys.length (by show ys.length < 9; omega)))
      generalize (jbL[ys.length]'(by show ys.length < 9; omega)) = z at *
      have hn := HNx.out wr.drew hd.drew.dr.gr
      have HDd := Lib.hid hd.drew
      clear hd hjc hjj
      go_upto_region 7 with (fail)
      go_cut [7] (fun s7 wx => ∃ (q : Nat) (y2 y3 : Int), s7 = .pointer (some ⟨q, 0, none⟩) ∧ (1 ≤ y2 ∧ y2 ≤ 9) ∧ (0 ≤ y3 ∧ y3 ≤ 50) ∧ JbQ W1 wx B g (k + 2 + 22 * ys.length + 4) bs (.slice (some ⟨b0, 0, none⟩) ys.length c0) ys q (.string z) (.int .i64 y2) (.int .i64 y3) (.slice none 0 0) [])
      case first =>
        refine wp_region_noPanic ?_
        refine wp_region_L [] (fun w' => w'.cell? ⟨w.heap.size, ys.length, none⟩ = some (.string z)) (by kernel_rfl) (hn) (fun hHeld => ?_)
        refine take_F (i := 0) (d := some 22) (v := ?_) (by kernel_rfl) (by kernel_rfl) rfl rfl (by kernel_rfl) (by kernel_rfl) (by kernel_rfl) (fun _ _ _ h => h) (Or.inl ⟨by rfl, ?_⟩) (by assumption) ?_
        rotate_left
        · (intro w hSw; (try dsimp only at hSw); go_simp; (try rw [if_neg (by omega)]); (try (with_reducible rfl)))
        simp only [Act.put, List.setIfInBounds_toArray, List.set_cons_zero, List.set_cons_succ]
        refine take_F (i := 1) (d := some 23) (v := ?_) (by kernel_rfl) (by kernel_rfl) rfl rfl (by kernel_rfl) (by kernel_rfl) (by kernel_rfl) (fun _ _ _ h => h) (Or.inl ⟨by rfl, ?_⟩) (by assumption) ?_
        rotate_left
        · (intro w hSw; (try dsimp only at hSw); go_simp; (try rw [if_neg (by omega)]); (try (with_reducible rfl)))
        simp only [Act.put, List.setIfInBounds_toArray, List.set_cons_zero, List.set_cons_succ]
        refine take_F (i := 2) (d := some 24) (v := ?_) (by kernel_rfl) (by kernel_rfl) rfl rfl (by kernel_rfl) (by kernel_rfl) (by kernel_rfl) (fun _ _ _ h => h) (Or.inl ⟨by rfl, ?_⟩) (by assumption) ?_
        rotate_left
        · (intro w hSw; (try dsimp only at hSw); go_simp; (try rw [if_neg (by omega)]); (try (with_reducible rfl)))
        simp only [Act.put, List.setIfInBounds_toArray, List.set_cons_zero, List.set_cons_succ]
        refine take_L [3] (i := 3) (d := some 25) (v := ?_) (by kernel_rfl) (by kernel_rfl) (by kernel_rfl) (by kernel_rfl) rfl rfl (by kernel_rfl) (by kernel_rfl) (by kernel_rfl) (fun _ _ _ h => h) (Or.inl ⟨by rfl, ?_⟩) (by assumption) ?_
        rotate_left
        · (intro w hSw; (try dsimp only at hSw); go_simp; (try rw [if_neg (by omega)]); (try (with_reducible rfl)))
        simp only [Act.put, List.setIfInBounds_toArray, List.set_cons_zero, List.set_cons_succ]
        refine take_F (i := 4) (d := some 26) (v := ?_) (by kernel_rfl) (by kernel_rfl) rfl rfl (by kernel_rfl) (by kernel_rfl) (by kernel_rfl) (fun _ _ _ h => h) (Or.inl ⟨by rfl, ?_⟩) (by assumption) ?_
        rotate_left
        · (intro w hSw; (try dsimp only at hSw); go_simp; (try rw [if_neg (by omega)]); (try (with_reducible rfl)))
        simp only [Act.put, List.setIfInBounds_toArray, List.set_cons_zero, List.set_cons_succ]
        refine take_F (i := 7) (d := some 29) (v := ?_) (by kernel_rfl) (by kernel_rfl) rfl rfl (by kernel_rfl) (by kernel_rfl) (by kernel_rfl) (fun _ _ _ h => h) (Or.inl ⟨by rfl, ?_⟩) (by assumption) ?_
        rotate_left
        · (intro w hSw; (try dsimp only at hSw); go_simp; (try rw [if_neg (by omega)]); (try (with_reducible rfl)))
        simp only [Act.put, List.setIfInBounds_toArray, List.set_cons_zero, List.set_cons_succ]
        refine both_L (i := 5) (j := 10) (di := (some 27)) (dj := (some 7)) rfl rfl rfl rfl (by kernel_rfl) (fun Kq hKq => ?_) (fun Kq hKq => ?_)
        · go_simp
          go_at_call 49
          refine (pick_any B g _ bs 9 _ HDd.out.dr.src (by omega)).mono ?_; rintro e wz11 ⟨xa, rfl, ⟨hxa0, hxa1, _⟩, hs11, hg11⟩
          have hxa2 := hxa1 (by omega)
          have HA1 := Lib.hid (HDd.out.draw hs11 hg11)
          have hn11 := HNx.out wz11 HA1.out.dr.gr
          have hwz11 : IntKind.i64.wrap (1 + xa) = 1 + xa := IntWalk.i64_in _ (by omega)
          clear hs11 hg11 hxa1
          (try go_wp2_with fail)
          refine hKq.out _ _ (hn11) (fun hHeld => ?_)
          clear hKq Kq
          (try simp only [Act.put, List.setIfInBounds_toArray, List.set_cons_zero, List.set_cons_succ])
          refine take_F (i := 6) (d := some 28) (v := ?_) (by kernel_rfl) (by kernel_rfl) rfl rfl (by kernel_rfl) (by kernel_rfl) (by kernel_rfl) (fun _ _ _ h => h) (Or.inl ⟨by rfl, ?_⟩) (by assumption) ?_
          rotate_left
          · (intro w hSw; (try dsimp only at hSw); go_simp; (try rw [if_neg (by omega)]); (try (with_reducible rfl)))
          simp only [Act.put, List.setIfInBounds_toArray, List.set_cons_zero, List.set_cons_succ]
          refine both_L (i := 8) (j := 10) (di := (some 30)) (dj := (some 7)) rfl rfl rfl rfl (by kernel_rfl) (fun Kq hKq => ?_) (fun Kq hKq => ?_)
          · go_simp
            go_at_call 49
            refine (pick_any B g _ bs 50 _ HA1.out.dr.src (by omega)).mono ?_; rintro e wz12 ⟨ya, rfl, ⟨hya0, hya1, _⟩, hs12, hg12⟩
            have hya2 := hya1 (by omega)
            have HA2 := Lib.hid (HA1.out.draw hs12 hg12)
            have hn12 := HNx.out wz12 HA2.out.dr.gr
            have hwz12 : IntKind.i64.wrap (1 + ya) = 1 + ya := IntWalk.i64_in _ (by omega)
            clear hs12 hg12 hya1
            (try go_wp2_with fail)
            refine hKq.out _ _ (hn12) (fun hHeld => ?_)
            clear hKq Kq
            (try simp only [Act.put, List.setIfInBounds_toArray, List.set_cons_zero, List.set_cons_succ])
            refine take_F (i := 9) (d := some 31) (v := ?_) (by kernel_rfl) (by kernel_rfl) rfl rfl (by kernel_rfl) (by kernel_rfl) (by kernel_rfl) (fun _ _ _ h => h) (Or.inl ⟨by rfl, ?_⟩) (by assumption) ?_
            rotate_left
            · (intro w hSw; (try dsimp only at hSw); go_simp; (try rw [if_neg (by omega)]); (try (with_reducible rfl)))
            simp only [Act.put, List.setIfInBounds_toArray, List.set_cons_zero, List.set_cons_succ]
            have hnq := HNx.out _ (JbQ.new HA2.out (.string ⟨#[]⟩) (.int .i64 0) (.int .i64 0)).dr.gr
            refine call_L (i := 10) (d := (some 7)) rfl rfl (by kernel_rfl) (fun Kq hKq => ?_)
            go_simp
            refine hKq.out _ _ (hnq) (fun hHeld => ?_)
            clear hKq Kq
            (try simp only [Act.put, List.setIfInBounds_toArray, List.set_cons_zero, List.set_cons_succ])
            refine call_L (i := 11) (d := none) rfl rfl (by kernel_rfl) (fun Kq hKq => ?_)
            go_simp
            have HA4 := Lib.hid (JbQ.new HA2.out (.string z) (.int .i64 (1 + xa)) (.int .i64 ya))
            have hn13 := HNx.out _ HA4.out.dr.gr
            refine hKq.out _ _ (hn13) (fun hHeld => ?_)
            clear hKq Kq
            (try simp only [Act.put, List.setIfInBounds_toArray, List.set_cons_zero, List.set_cons_succ])
            refine done_L (by kernel_rfl) ?_ _
            refine NoPanic.normal ?_
            (try go_wp2_with fail)
            go_meet
            exact ⟨_, _, _, rfl, by omega, by omega, HA4.out⟩
          · go_simp
            have HB2 := Lib.hid (JbQ.new HA1.out (.string ⟨#[]⟩) (.int .i64 0) (.int .i64 0))
            have hn14 := HNx.out _ HB2.out.dr.gr
            refine hKq.out _ _ (hn14) (fun hHeld => ?_)
            clear hKq Kq
            (try simp only [Act.put, List.setIfInBounds_toArray, List.set_cons_zero, List.set_cons_succ])
            refine call_L (i := 8) (d := (some 30)) rfl rfl (by kernel_rfl) (fun Kq hKq => ?_)
            go_simp
            go_at_call 49
            refine (pick_any B g _ bs 50 _ HB2.out.dr.src (by omega)).mono ?_; rintro e wz15 ⟨yb, rfl, ⟨hyb0, hyb1, _⟩, hs15, hg15⟩
            have hyb2 := hyb1 (by omega)
            have HB3 := Lib.hid (HB2.out.draw hs15 hg15)
            have hn15 := HNx.out wz15 HB3.out.dr.gr
            have hwz15 : IntKind.i64.wrap (1 + yb) = 1 + yb := IntWalk.i64_in _ (by omega)
            clear hs15 hg15 hyb1
            (try go_wp2_with fail)
            refine hKq.out _ _ (hn15) (fun hHeld => ?_)
            clear hKq Kq
            (try simp only [Act.put, List.setIfInBounds_toArray, List.set_cons_zero, List.set_cons_succ])
            refine take_F (i := 9) (d := some 31) (v := ?_) (by kernel_rfl) (by kernel_rfl) rfl rfl (by kernel_rfl) (by kernel_rfl) (by kernel_rfl) (fun _ _ _ h => h) (Or.inl ⟨by rfl, ?_⟩) (by assumption) ?_
            rotate_left
            · (intro w hSw; (try dsimp only at hSw); go_simp; (try rw [if_neg (by omega)]); (try (with_reducible rfl)))
            simp only [Act.put, List.setIfInBounds_toArray, List.set_cons_zero, List.set_cons_succ]
            refine call_L (i := 11) (d := none) rfl rfl (by kernel_rfl) (fun Kq hKq => ?_)
            obtain ⟨⟨c016, c116, c216, c316⟩, f016, f116, f216, f316⟩ := blk4p HB3.out.hq
            go_simp
            have HB4 := Lib.hid (HB3.out.put (.string z) (.int .i64 (1 + xa)) (.int .i64 yb))
            have hn16 := HNx.out _ HB4.out.dr.gr
            refine hKq.out _ _ (hn16) (fun hHeld => ?_)
            clear hKq Kq
            (try simp only [Act.put, List.setIfInBounds_toArray, List.set_cons_zero, List.set_cons_succ])
            refine done_L (by kernel_rfl) ?_ _
            refine NoPanic.normal ?_
            (try go_wp2_with fail)
            go_meet
            exact ⟨_, _, _, rfl, by omega, by omega, HB4.out⟩
        · go_simp
          have HC1 := Lib.hid (show JbQ W1 (wr.drew.alloc (.cells #[.string ⟨#[]⟩, .int .i64 0, .int .i64 0, .slice none 0 0] 37)) B g (k + 2 + 22 * ys.length) bs (.slice (some ⟨b0, 0, none⟩) ys.length c0) ys wr.heap.size (.string ⟨#[]⟩) (.int .i64 0) (.int .i64 0) (.slice none 0 0) [] from JbQ.new HDd.out (.string ⟨#[]⟩) (.int .i64 0) (.int .i64 0))
          have hn17 := HNx.out _ HC1.out.dr.gr
          refine hKq.out _ _ (hn17) (fun hHeld => ?_)
          clear hKq Kq
          (try simp only [Act.put, List.setIfInBounds_toArray, List.set_cons_zero, List.set_cons_succ])
          refine call_L (i := 5) (d := (some 27)) rfl rfl (by kernel_rfl) (fun Kq hKq => ?_)
          go_simp
          go_at_call 49
          refine (pick_any B g _ bs 9 _ HC1.out.dr.src (by omega)).mono ?_; rintro e wz18 ⟨xc, rfl, ⟨hxc0, hxc1, _⟩, hs18, hg18⟩
          have hxc2 := hxc1 (by omega)
          have HC2 := Lib.hid (HC1.out.draw hs18 hg18)
          have hn18 := HNx.out wz18 HC2.out.dr.gr
          have hwz18 : IntKind.i64.wrap (1 + xc) = 1 + xc := IntWalk.i64_in _ (by omega)
          clear hs18 hg18 hxc1
          (try go_wp2_with fail)
          refine hKq.out _ _ (hn18) (fun hHeld => ?_)
          clear hKq Kq
          (try simp only [Act.put, List.setIfInBounds_toArray, List.set_cons_zero, List.set_cons_succ])
          refine take_F (i := 6) (d := some 28) (v := ?_) (by kernel_rfl) (by kernel_rfl) rfl rfl (by kernel_rfl) (by kernel_rfl) (by kernel_rfl) (fun _ _ _ h => h) (Or.inl ⟨by rfl, ?_⟩) (by assumption) ?_
          rotate_left
          · (intro w hSw; (try dsimp only at hSw); go_simp; (try rw [if_neg (by omega)]); (try (with_reducible rfl)))
          simp only [Act.put, List.setIfInBounds_toArray, List.set_cons_zero, List.set_cons_succ]
          refine call_L (i := 8) (d := (some 30)) rfl rfl (by kernel_rfl) (fun Kq hKq => ?_)
          go_simp
          go_at_call 49
          refine (pick_any B g _ bs 50 _ HC2.out.dr.src (by omega)).mono ?_; rintro e wz19 ⟨yc, rfl, ⟨hyc0, hyc1, _⟩, hs19, hg19⟩
          have hyc2 := hyc1 (by omega)
          have HC3 := Lib.hid (HC2.out.draw hs19 hg19)
          have hn19 := HNx.out wz19 HC3.out.dr.gr
          have hwz19 : IntKind.i64.wrap (1 + yc) = 1 + yc := IntWalk.i64_in _ (by omega)
          clear hs19 hg19 hyc1
          (try go_wp2_with fail)
          refine hKq.out _ _ (hn19) (fun hHeld => ?_)
          clear hKq Kq
          (try simp only [Act.put, List.setIfInBounds_toArray, List.set_cons_zero, List.set_cons_succ])
          refine take_F (i := 9) (d := some 31) (v := ?_) (by kernel_rfl) (by kernel_rfl) rfl rfl (by kernel_rfl) (by kernel_rfl) (by kernel_rfl) (fun _ _ _ h => h) (Or.inl ⟨by rfl, ?_⟩) (by assumption) ?_
          rotate_left
          · (intro w hSw; (try dsimp only at hSw); go_simp; (try rw [if_neg (by omega)]); (try (with_reducible rfl)))
          simp only [Act.put, List.setIfInBounds_toArray, List.set_cons_zero, List.set_cons_succ]
          refine call_L (i := 11) (d := none) rfl rfl (by kernel_rfl) (fun Kq hKq => ?_)
          obtain ⟨⟨c020, c120, c220, c320⟩, f020, f120, f220, f320⟩ := blk4p HC3.out.hq
          go_simp
          have HC4 := Lib.hid (HC3.out.put (.string z) (.int .i64 (1 + xc)) (.int .i64 yc))
          have hn20 := HNx.out _ HC4.out.dr.gr
          refine hKq.out _ _ (hn20) (fun hHeld => ?_)
          clear hKq Kq
          (try simp only [Act.put, List.setIfInBounds_toArray, List.set_cons_zero, List.set_cons_succ])
          refine done_L (by kernel_rfl) ?_ _
          refine NoPanic.normal ?_
          (try go_wp2_with fail)
          go_meet
          exact ⟨_, _, _, rfl, by omega, by omega, HC4.out⟩
      case rest =>
        obtain ⟨q, y2, y3, rfl, hy2, hy3, hQ⟩ := hcut
        have HQ := Lib.hid hQ
        clear hQ HD HDd hn HNx
        go_wp2_with fail
        go_loopw [8] (fun x wr => ∃ (i : Nat) (l : List Int) (d : Value), i ≤ ys.length ∧ x = .int .i64 (i : Int) ∧ l.length ≤ i ∧ JbQ W1 wr B g (k + 2 + 22 * ys.length + 4 + 2 * i) bs (.slice (some ⟨b0, 0, none⟩) ys.length c0) ys q (.string z) (.int .i64 y2) (.int .i64 y3) d l) (fun x _ => ys.length - (intOf x).toNat)
        case atStart => exact ⟨0, [], _, Nat.zero_le _, rfl, Nat.le_refl _, HQ.out⟩
        case round =>
          clear HQ
          obtain ⟨i, l, d, hi, rfl, hll, hQ⟩ := hrel
          obtain ⟨Ad, cd, rfl⟩ := own_sl hQ.cur
          have HQ := Lib.hid hQ
          have Hll := Lib.hid hll
          clear hQ hll
          by_cases hil : i < ys.length
          · have hil' : (i : Int) < (ys.length : Int) := by omega
            go_wp2_with fail
            refine (one_any B g _ bs 3 _ HQ.out.dr.src (by omega)).mono ?_; rintro e wy1 ⟨tb, rfl, hs1, hg1⟩
            have HQ1 := Lib.hid (HQ.out.draw hs1 hg1)
            clear hs1 hg1 HQ
            cases tb with
            | false =>
              go_wp2_with fail
              go_roundw
              case rel => exact ⟨i + 1, l, _, by omega, by go_num, by have := Hll.out; omega, HQ1.out.more (by omega)⟩
              case measure => first | (simp [intOf]; done) | (simp [intOf]; omega)
            | true =>
              obtain ⟨⟨_, _, _, e3⟩, _, _, _, f3⟩ := blk4p HQ1.out.hq
              have Hcur := Lib.hid HQ1.out.cur
              have Hqb := Lib.hid (show q + 1 ≤ wy1.heap.size from HQ1.out.qlt)
              have hl62 : l.length ≤ 62 := by have := Hll.out; omega
              go_wp2_with (at_builtin; refine wpList_apd 27 2 _ 1 8 Try.underlying27 infoD rfl (by omega) _ _ rfl rfl (q + 1) _ l.length _ rfl Hcur.out #[.int .i64 (i : Int)] 1 1 rfl rfl (by simp [Value.oneCell']) (by simp [maxLen]; omega) (by omega) Hqb.out ?_; intro v7 w7 hown7 hg7; obtain ⟨A7, c7, rfl⟩ := own_sl hown7; obtain ⟨hQ7, hq7⟩ := HQ1.out.app hg7 hown7; have HQ7 := Lib.hid hQ7; obtain ⟨⟨_, _, _, z3⟩, _, _, _, g3⟩ := blk4p hq7; clear hown7 hg7 hQ7 hq7 e3 f3)
              go_roundw
              case rel => exact ⟨i + 1, _, _, by omega, by go_num, by have := Hll.out; simp; omega, HQ7.out.more (by omega)⟩
              case measure => first | (simp [intOf]; done) | (simp [intOf]; omega)
          · obtain rfl : i = ys.length := by omega
            have hil' : ¬ ((ys.length : Int) < (ys.length : Int)) := by omega
            have hl62 : l.length ≤ 62 := by have := Hll.out; omega
            have Hon := Lib.hid (ones4J z y2 y3 Ad l.length cd)
            obtain ⟨⟨d0, d1, d2, d3⟩, -⟩ := blk4p HQ.out.hq
            have Hsn := Lib.hid (fun (v' : Value) (w' : World) hr hg => HQ.out.snoc (w' := w') (v' := v') (by omega) hz16 hl62 hr hg)
            have Hro := Lib.hid HQ.out.dr.row
            have Hsz := Lib.hid HQ.out.dr.size
            go_wp2_with (at_builtin; refine wpList_apd 24 37 _ 4 56 Try.underlying24 infoJ rfl (by omega) _ _ rfl rfl W1.heap.size _ _ _ rfl Hro.out #[.string z, .int .i64 y2, .int .i64 y3, .slice Ad l.length cd] 1 1 rfl rfl Hon.out (by simp [maxLen]; omega) (by omega) Hsz.out ?_; intro v9 w9 hown9 hg9; obtain ⟨zs, hzl, _, hd9⟩ := Hsn.out v9 w9 hown9 hg9; have Hzl := Lib.hid hzl; obtain ⟨b9, c9, rfl⟩ := hd9.nn; have HM9 := Lib.hid (show DrJ W1 w9 B g (k + 2 + 22 * zs.length) bs (.slice (some ⟨b9, 0, none⟩) (ys.length + 1) c9) zs from by rw [← Hzl.out]; exact hd9.more (k' := k + 2 + 22 * zs.length) (by omega)); clear hown9 hg9 hzl hd9)
            go_roundw
            case rel => exact ⟨j - 1, zs, by have := Hjc.out; have := Hzl.out; omega, by rw [Hjj.out], HM9.out⟩
            case measure => simp [intOf]; omega
    · have hj0 : j = 0 := by omega
      subst hj0
      have Hz := Lib.hid (HD.out.from Hg0.out hlt)
      clear HD hd hjc
      go_wp2_with fail
      go_ret
      exact ⟨_, ys, rfl, hxl, Hz.out.more (by omega)⟩
end Go.Proofs.Ytalalegjeegocaa
