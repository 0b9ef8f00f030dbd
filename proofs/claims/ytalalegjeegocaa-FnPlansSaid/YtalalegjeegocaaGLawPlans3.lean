/- Merged texts: Jb3, Jb4, Pc5, U3, Bo1, U4, U5, One, Dr1, U6, Pc6, Pc7, Pc8, Pc9, Jb5. -/
import Derived.Test.YtalalegjeegocaaGLawPlans2
import Derived.Test.YtalalegjeegocaaGLawPlans1
/- Jobs, part 3: l22Ok (gen_jb3.py). -/
namespace Go.Proofs.Ytalalegjeegocaa
open Go.RowKit Go.Joins

/-- names that are not too long, needs that are not too many -/
def szJ (xs : List Jb) : Prop := ∀ k, k < xs.length → (jg xs k).nm.size ≤ 1048576 ∧ (jg xs k).needs.length ≤ 1048576
theorem okJ_jb {xs : List Jb} {k : Nat} (hk : k < xs.length) (h : jbB xs k = false) : okJ xs = false := by
  unfold okJ
  rw [allN_bad k hk h, Bool.false_and, Bool.and_false]
theorem jb_nm {xs : List Jb} {k : Nat} (h : isNm (jg xs k).nm.data.toList = false) : jbB xs k = false := by unfold jbB; rw [h]; rfl
theorem jb_new {xs : List Jb} {k : Nat} (h : newJ xs k = false) : jbB xs k = false := by unfold jbB; rw [h]; simp
theorem jb_days {xs : List Jb} {k : Nat} (h : inB (jg xs k).days 1 60 = false) : jbB xs k = false := by unfold jbB; rw [h]; simp
theorem jb_cost {xs : List Jb} {k : Nat} (h : inB (jg xs k).cost 0 1000000 = false) : jbB xs k = false := by unfold jbB; rw [h]; simp
theorem jb_need {xs : List Jb} {k : Nat} (h : needB (jg xs k).needs k = false) : jbB xs k = false := by unfold jbB; rw [h]; simp
theorem jb_yes {xs : List Jb} {k : Nat} (h1 : isNm (jg xs k).nm.data.toList = true) (h2 : newJ xs k = true) (h3 : inB (jg xs k).days 1 60 = true) (h4 : inB (jg xs k).cost 0 1000000 = true) (h5 : needB (jg xs k).needs k = true) : jbB xs k = true := by unfold jbB; rw [h1, h2, h3, h4, h5]; rfl
theorem allN_of {n : Nat} {f : Nat → Bool} (h : ∀ i, i < n → f i = true) : allN n f = true := List.all_eq_true.2 fun i hi => h i (List.mem_range.1 hi)
theorem sumD_all {xs : List Jb} : ∀ k, allN k (jbB xs) = true → (k : Int) ≤ sumD xs k ∧ sumD xs k ≤ 60 * (k : Int)
  | 0, _ => by unfold sumD; omega
  | k + 1, h => by
    have h1 := sumD_all k (allN_of fun i hi => allN_get h (by omega))
    have h2 := (jbB_ok (allN_get h (Nat.lt_succ_self k))).2.2.1
    show ((k + 1 : Nat) : Int) ≤ sumD xs k + (jg xs k).days ∧ sumD xs k + (jg xs k).days ≤ 60 * ((k + 1 : Nat) : Int)
    omega
set_option maxRecDepth 100000 in
set_option maxHeartbeats 6400000 in
theorem OkJS_any (B : Nat) (v : Value) (xs : List Jb) (w : World) (h : RdJ w B v xs) (hB : B ≤ w.heap.size) (hn : xs.length ≤ 100000) (hz : szJ xs) :
    Calls Try.prog 50 #[v] w fun e w' => e = .returned (.bool (okJ xs)) ∧ Below w.heap.size w w' := by
  have H := Lib.hid h
  obtain ⟨A, c, rfl⟩ := h.slice
  have HZ := Lib.hid hz
  clear h hz
  go_enter Try.func50, Try.ntmps50
  go_wp2_with fail
  go_loopw [3, 4] (fun s i wr => ∃ k : Nat, k ≤ xs.length ∧ i = .int .i64 (k : Int) ∧ s = .int .i64 (sumD xs k) ∧ allN k (jbB xs) = true ∧ Below w.heap.size w wr) (fun _ i _ => xs.length - (intOf i).toNat)
  case atStart => exact ⟨0, Nat.zero_le _, rfl, rfl, rfl, Below.refl _ _⟩
  case round =>
    obtain ⟨k, hk, rfl, rfl, hall, hbl⟩ := hrel
    have Hall := Lib.hid hall
    have Hbl := Lib.hid hbl
    have hsb := sumD_all k hall
    clear hall hbl
    by_cases hlt : k < xs.length
    · obtain ⟨gb, ob, A', c', hA, hat⟩ := (H.out.below (Hbl.out.mono hB)).at k hlt
      subst hA
      have hlt' : (k : Int) < (xs.length : Int) := by omega
      obtain ⟨hsz, hsn⟩ := HZ.out k hlt
      have HE1 := Lib.hid (fun h => okJ_jb hlt (jb_nm h))
      have HE2 := Lib.hid (fun h => okJ_jb hlt (jb_new h))
      have HE3 := Lib.hid (fun h => okJ_jb hlt (jb_days h))
      have HE4 := Lib.hid (fun h => okJ_jb hlt (jb_cost h))
      have HE5 := Lib.hid (fun h => okJ_jb hlt (jb_need h))
      have HYs := Lib.hid (fun h1 h2 h3 h4 h5 => allN_step Hall.out (jb_yes (xs := xs) (k := k) h1 h2 h3 h4 h5))
      have HR := Lib.hid (fun wx hx => Rises_any B k (jg xs k).needs.length (.slice A' (jg xs k).needs.length c') (jg xs k).needs wx hx rfl hsn)
      have HRd := Lib.hid hat.needs
      have Hsu := Lib.hid (show sumD xs (k + 1) = sumD xs k + (jg xs k).days from rfl)
      obtain ⟨_, p0, p1, p2, p3, _⟩ := hat
      obtain ⟨nm, hnm⟩ : ∃ z, (jg xs k).nm = z := ⟨_, rfl⟩
      rw [hnm] at p0 hsz HE1 HYs
      have Hnm := Lib.hid hnm
      clear hnm
      generalize (jg xs k).days = dd at *
      generalize (jg xs k).cost = cc at *
      generalize (jg xs k).needs = nd at *
      have HN := Lib.hid (fun wx => IsNameS_any nm wx hsz)
      have HX1 := Lib.hid (fun wx => l00In_any dd 1 60 wx)
      have HX2 := Lib.hid (fun wx => l00In_any cc 0 1000000 wx)
      have hkw : IntKind.i64.wrap ((k : Int) - 1) = (k : Int) - 1 := IntWalk.i64_in _ (by omega)
      cases h1 : isNm nm.data.toList with
      | false =>
        have Hr := Lib.hid (HE1.out h1)
        rw [h1] at HN
        clear h1
        go_wp2_with fail
        refine (HN.out _).mono ?_; rintro e w1 ⟨rfl, rfl⟩
        go_wp2_with fail
        go_ret
        exact ⟨ret_bool Hr.out.symm, Hbl.out⟩
      | true =>
        rw [h1] at HN
        cases h3 : inB dd 1 60 with
        | false =>
          have Hr := Lib.hid (HE3.out h3)
          rw [h3] at HX1
          clear h3
          go_wp2_with fail
          refine (HN.out _).mono ?_; rintro e w1 ⟨rfl, rfl⟩
          go_wp2_with fail
          refine (HX1.out _).mono ?_; rintro e w1 ⟨rfl, rfl⟩
          go_wp2_with fail
          go_ret
          exact ⟨ret_bool Hr.out.symm, Hbl.out⟩
        | true =>
          rw [h3] at HX1
          cases h4 : inB cc 0 1000000 with
          | false =>
            have Hr := Lib.hid (HE4.out h4)
            rw [h4] at HX2
            clear h4
            go_wp2_with fail
            refine (HN.out _).mono ?_; rintro e w1 ⟨rfl, rfl⟩
            go_wp2_with fail
            refine (HX1.out _).mono ?_; rintro e w1 ⟨rfl, rfl⟩
            go_wp2_with fail
            refine (HX2.out _).mono ?_; rintro e w1 ⟨rfl, rfl⟩
            go_wp2_with fail
            go_ret
            exact ⟨ret_bool Hr.out.symm, Hbl.out⟩
          | true =>
            rw [h4] at HX2
            have HRx := Lib.hid (HR.out wr HRd.out)
            cases h5 : needB nd k with
            | false =>
              have Hr := Lib.hid (HE5.out h5)
              rw [h5] at HRx
              clear h5 HR
              go_wp2_with fail
              refine (HN.out _).mono ?_; rintro e w1 ⟨rfl, rfl⟩
              go_wp2_with fail
              refine (HX1.out _).mono ?_; rintro e w1 ⟨rfl, rfl⟩
              go_wp2_with fail
              refine (HX2.out _).mono ?_; rintro e w1 ⟨rfl, rfl⟩
              go_wp2_with fail
              refine HRx.out.mono ?_; rintro e wq ⟨rfl, d, hwq⟩
              have Hz := Lib.hid (show Below w.heap.size w wq by rw [hwq]; exact below_drewN Hbl.out d)
              clear hwq
              go_wp2_with fail
              go_ret
              exact ⟨ret_bool Hr.out.symm, Hz.out⟩
            | true =>
              rw [h5] at HRx
              have hdb := inB_iff.1 h3
              have hws : IntKind.i64.wrap (sumD xs k + dd) = sumD xs k + dd := IntWalk.i64_in _ (by omega)
              have HYn := Lib.hid (fun h2 => HYs.out h1 h2 h3 h4 h5)
              clear HR HYs
              go_wp2_with fail
              refine (HN.out _).mono ?_; rintro e w1 ⟨rfl, rfl⟩
              go_wp2_with fail
              refine (HX1.out _).mono ?_; rintro e w1 ⟨rfl, rfl⟩
              go_wp2_with fail
              refine (HX2.out _).mono ?_; rintro e w1 ⟨rfl, rfl⟩
              go_wp2_with fail
              refine HRx.out.mono ?_; rintro e wq ⟨rfl, d, hwq⟩
              have hbq : Below w.heap.size w wq := by rw [hwq]; exact below_drewN Hbl.out d
              have Hbq := Lib.hid hbq
              have r1 : wq.cell? ⟨gb, ob + k * 4 + 1, none⟩ = some (.int .i64 dd) := by rw [hwq]; exact p1
              have R0 := Lib.hid (show wq.cell? ⟨gb, ob + k * 4, none⟩ = some (.string nm) by rw [hwq]; exact p0)
              clear hwq hbq p0 p1 p2 p3 HN HX1 HX2 HRx
              go_wp2_with fail
              clear r1
              go_loopw [6] (fun i wr => ∃ (i' d : Nat), i' ≤ k ∧ i = .int .i64 (i' : Int) ∧ allN i' (fun i => !(decide ((jg xs i).nm = (jg xs k).nm))) = true ∧ wr = wq.drewN d) (fun i _ => k - (intOf i).toNat)
              case atStart => exact ⟨0, 0, Nat.zero_le _, rfl, rfl, rfl⟩
              case round =>
                obtain ⟨i', d, hi, rfl, hai, hwx⟩ := hrel
                have Hai := Lib.hid hai
                have Hwx := Lib.hid hwx
                have Hbx := Lib.hid (show Below w.heap.size w wr by rw [hwx]; exact below_drewN Hbq.out d)
                have y1 : wr.cell? ⟨gb, ob + k * 4, none⟩ = some (.string nm) := by rw [hwx]; exact R0.out
                clear hai hwx
                by_cases hlti : i' < k
                · have hlti' : (i' : Int) < (k : Int) := by omega
                  obtain ⟨gb', ob', A2, c2, hA', hat'⟩ := (H.out.below (Hbx.out.mono hB)).at i' (by omega)
                  obtain ⟨rfl, rfl⟩ : gb = gb' ∧ ob = ob' := by simpa using hA'
                  have y0 := hat'.c0
                  have hq := ba_beqP (x := (jg xs i').nm) (y := (jg xs k).nm)
                  have HBd := Lib.hid (fun h => HE2.out (show newJ xs k = false from allN_bad (f := fun i => !(decide ((jg xs i).nm = (jg xs k).nm))) i' hlti h))
                  have HGd := Lib.hid (fun h => allN_step (f := fun i => !(decide ((jg xs i).nm = (jg xs k).nm))) Hai.out h)
                  have hil : (i' : Int) < (xs.length : Int) := by omega
                  rw [Hnm.out] at hq HBd HGd
                  obtain ⟨wz, hwz⟩ : ∃ z, z = wr := ⟨_, rfl⟩
                  rw [← hwz] at y0 y1 Hwx Hbx ⊢
                  clear hwz hat'
                  generalize (jg xs i').nm = ni at *
                  cases hqe : decide (ni = nm) with
                  | true =>
                    have Hr := Lib.hid (HBd.out (by rw [hqe]; rfl))
                    rw [hqe] at hq
                    clear hqe
                    go_wp2_with fail
                    go_quiet (fail)
                    have Hbz := Lib.hid (below_drewN Hbx.out nq)
                    go_wp2_with fail
                    go_ret
                    exact ⟨ret_bool Hr.out.symm, Hbz.out⟩
                  | false =>
                    have Hr := Lib.hid (HGd.out (by rw [hqe]; rfl))
                    rw [hqe] at hq
                    clear hqe
                    go_wp2_with fail
                    go_quiet (fail)
                    go_wp2_with fail
                    go_roundw
                    case rel => exact ⟨i' + 1, d + nq, by omega, by go_num, by rw [Hnm.out]; exact Hr.out, by rw [Hwx.out]; first | rfl | exact World.drewN_drewN _ _ _⟩
                    case measure => first | (simp [intOf]; done) | (simp [intOf]; omega)
                · obtain rfl : k = i' := by omega
                  have hlti' : ¬ ((k : Int) < (k : Int)) := by omega
                  have Hyy := Lib.hid (HYn.out Hai.out)
                  go_wp2_with fail
                  go_roundw
                  case rel => exact ⟨k + 1, by omega, by go_num, by rw [Hsu.out], Hyy.out, Hbx.out⟩
                  case measure => first | (simp [intOf]; done) | (simp [intOf]; omega)
    · obtain rfl : k = xs.length := by omega
      have hlt' : ¬ ((xs.length : Int) < (xs.length : Int)) := by omega
      have Hr := Lib.hid (show okJ xs = (decide (xs.length ≤ 30) && decide (sumD xs xs.length ≤ 400)) from by unfold okJ; rw [Hall.out, Bool.true_and])
      by_cases h30 : xs.length ≤ 30
      · have h30' : (xs.length : Int) ≤ 30 := by omega
        by_cases hs4 : sumD xs xs.length ≤ 400
        · rw [decide_eq_true h30, decide_eq_true hs4] at Hr
          generalize sumD xs xs.length = sd at *
          go_wp2_with fail
          go_ret
          exact ⟨ret_bool Hr.out.symm, Hbl.out⟩
        · rw [decide_eq_true h30, decide_eq_false hs4] at Hr
          have hs4' : ¬ (sumD xs xs.length ≤ 400) := hs4
          generalize sumD xs xs.length = sd at *
          go_wp2_with fail
          go_ret
          exact ⟨ret_bool (by rw [Hr.out]; first | rfl | (simp; omega)), Hbl.out⟩
      · have h30' : ¬ ((xs.length : Int) ≤ 30) := by omega
        rw [decide_eq_false h30] at Hr
        generalize sumD xs xs.length = sd at *
        go_wp2_with fail
        go_ret
        exact ⟨ret_bool (by rw [Hr.out]; first | rfl | (simp; omega)), Hbl.out⟩
end Go.Proofs.Ytalalegjeegocaa
/- Jobs, part 4: ValidJobs of the program (gen_jb4.py). -/
namespace Go.Proofs.Ytalalegjeegocaa
open Go.RowKit Go.Joins

def nmsJ (xs : List Jb) (k : Nat) : List ByteArray := (List.range k).map fun i => (jg xs i).nm
theorem nmsJ_succ (xs : List Jb) (k : Nat) : nmsJ xs (k + 1) = nmsJ xs k ++ [(jg xs k).nm] := by simp [nmsJ, List.range_succ]
theorem nmsJ_len (xs : List Jb) (k : Nat) : (nmsJ xs k).length = k := by simp [nmsJ]
theorem nmsJ_has (xs : List Jb) (k : Nat) : hasNm (nmsJ xs k) (jg xs k).nm = !(newJ xs k) := by
  unfold hasNm nmsJ newJ allN
  rw [List.any_map, List.all_eq_not_any_not, Bool.not_not]
  congr 1
  funext i
  simp
theorem okJ_len {xs : List Jb} (h : ¬ xs.length ≤ 30) : okJ xs = false := by unfold okJ; rw [decide_eq_false h]; rfl
theorem okJ_end {xs : List Jb} (h : xs.length ≤ 30) (h1 : allN xs.length (jbB xs) = true) : okJ xs = decide (sumD xs xs.length ≤ 400) := by unfold okJ; rw [decide_eq_true h, h1, Bool.true_and, Bool.true_and]
set_option maxRecDepth 100000 in
set_option maxHeartbeats 6400000 in
theorem ValidJI_any (B : Nat) (v : Value) (xs : List Jb) (w : World) (h : RdJ w B v xs) (hB : B ≤ w.heap.size) (hn : xs.length ≤ 100000) (hz : szJ xs) :
    Calls Try.prog 35 #[v] w fun e w' => e = .returned (.bool (okJ xs)) ∧ Below w.heap.size w w' := by
  have H := Lib.hid h
  obtain ⟨A, c, rfl⟩ := h.slice
  have HZ := Lib.hid hz
  have hmm := @run_makeMap Try.prog
  have HbM := Lib.hid ((Below.refl w.heap.size w).alloc (Nat.le_refl _) (.map #[] 0))
  have HmM := Lib.hid (NmMap.made w)
  clear h hz
  by_cases h30 : xs.length ≤ 30
  rotate_left
  · have Hr := Lib.hid (okJ_len h30)
    have h30' : (30 : Int) < (xs.length : Int) := by omega
    clear h30
    go_enter Try.func35, Try.ntmps35
    go_wp2_with fail
    go_ret
    exact ⟨ret_bool Hr.out.symm, Below.refl _ _⟩
  · have h30' : ¬ ((30 : Int) < (xs.length : Int)) := by omega
    have Hend := Lib.hid (fun h => okJ_end h30 h)
    go_enter Try.func35, Try.ntmps35
    go_wp2_with fail
    go_loopw [4, 15] (fun s i wr => ∃ k : Nat, k ≤ xs.length ∧ i = .int .i64 (k : Int) ∧ s = .int .i64 (sumD xs k) ∧ allN k (jbB xs) = true ∧ NmMap wr w.heap.size (nmsJ xs k) ∧ Below w.heap.size w wr) (fun _ i _ => xs.length - (intOf i).toNat)
    case atStart => exact ⟨0, Nat.zero_le _, rfl, rfl, rfl, HmM.out, HbM.out⟩
    case round =>
      obtain ⟨k, hk, rfl, rfl, hall, hm, hbl⟩ := hrel
      have Hall := Lib.hid hall
      have Hm := Lib.hid hm
      have Hbl := Lib.hid hbl
      have hsb := sumD_all k hall
      clear hall hm hbl HmM HbM
      by_cases hlt : k < xs.length
      · obtain ⟨gb, ob, A', c', hA, hat⟩ := (H.out.below (Hbl.out.mono hB)).at k hlt
        subst hA
        have hlt' : (k : Int) < (xs.length : Int) := by omega
        obtain ⟨hsz, hsn⟩ := HZ.out k hlt
        have HRd := Lib.hid hat.needs
        obtain ⟨_, p0, p1, p2, p3, _⟩ := hat
        have HE1 := Lib.hid (fun h => okJ_jb hlt (jb_nm h))
        have HE2 := Lib.hid (fun h => okJ_jb hlt (jb_new h))
        have HE3 := Lib.hid (fun h => okJ_jb hlt (jb_days h))
        have HE4 := Lib.hid (fun h => okJ_jb hlt (jb_cost h))
        have HE5 := Lib.hid (fun h => okJ_jb hlt (jb_need h))
        have HY := Lib.hid (fun h1 h2 h3 h4 h5 => allN_step Hall.out (jb_yes (xs := xs) (k := k) h1 h2 h3 h4 h5))
        have Hhas := Lib.hid (nmsJ_has xs k)
        have Hsu := Lib.hid (nmsJ_succ xs k)
        have Hsd := Lib.hid (show sumD xs (k + 1) = sumD xs k + (jg xs k).days from rfl)
        generalize newJ xs k = nb at *
        generalize (jg xs k).nm = nm at *
        generalize (jg xs k).days = dd at *
        generalize (jg xs k).cost = cc at *
        generalize (jg xs k).needs = nd at *
        have hba := (Below.refl wr.heap.size wr).alloc (Nat.le_refl _) (.cells #[.string nm, .int .i64 dd, .int .i64 cc, .slice A' nd.length c'] 37)
        have Hba := Lib.hid (Hbl.out.trans (hba.mono Hbl.out.size))
        have HCa := Lib.hid (heap_alloc_new wr (.cells #[.string nm, .int .i64 dd, .int .i64 cc, .slice A' nd.length c'] 37))
        have HMa := Lib.hid (Hm.out.below hba)
        have HRa := Lib.hid (HRd.out.below (hba.mono (Nat.le_trans hB Hbl.out.size)))
        have hgaw : w.heap.size < wr.heap.size := Hm.out.lt
        have HN := Lib.hid (fun wx => IsNameI_any nm wx hsz)
        have HX1 := Lib.hid (fun wx => between_any dd 1 60 wx)
        have HX2 := Lib.hid (fun wx => between_any cc 0 1000000 wx)
        have hkw : IntKind.i64.wrap ((k : Int) - 1) = (k : Int) - 1 := IntWalk.i64_in _ (by omega)
        clear hba Hm HRd
        go_upto_region 7 with (fail)
        generalize wr.alloc (.cells #[.string nm, .int .i64 dd, .int .i64 cc, .slice A' nd.length c'] 37) = wa at *
        generalize wr.heap.size = ga at *
        clear p0 p1 p2 p3
        obtain ⟨y0, y1, y2, y3⟩ := cells4 HCa.out
        have hlook := HMa.out.look nm (by simp [maxLen]; omega)
        rw [Hhas.out] at hlook
        cases h1 : isNm nm.data.toList with
        | false =>
          have Hr := Lib.hid (HE1.out h1)
          rw [h1] at HN
          clear h1
          go_wp2_with fail
          refine (HN.out _).mono ?_; rintro e w1 ⟨rfl, rfl⟩
          go_wp2_with fail
          go_ret
          exact ⟨ret_bool Hr.out.symm, Hba.out⟩
        | true =>
          rw [h1] at HN
          cases nb with
          | false =>
            have Hr := Lib.hid (HE2.out rfl)
            go_wp2_with fail
            refine (HN.out _).mono ?_; rintro e w1 ⟨rfl, rfl⟩
            go_wp2_with fail
            go_ret
            exact ⟨ret_bool Hr.out.symm, Hba.out⟩
          | true =>
            cases h3 : inB dd 1 60 with
            | false =>
              have Hr := Lib.hid (HE3.out h3)
              rw [h3] at HX1
              clear h3
              go_wp2_with fail
              refine (HN.out _).mono ?_; rintro e w1 ⟨rfl, rfl⟩
              go_wp2_with fail
              refine (HX1.out _).mono ?_; rintro e w1 ⟨rfl, rfl⟩
              go_wp2_with fail
              go_ret
              exact ⟨ret_bool Hr.out.symm, Hba.out⟩
            | true =>
              rw [h3] at HX1
              cases h4 : inB cc 0 1000000 with
              | false =>
                have Hr := Lib.hid (HE4.out h4)
                rw [h4] at HX2
                clear h4
                go_wp2_with fail
                refine (HN.out _).mono ?_; rintro e w1 ⟨rfl, rfl⟩
                go_wp2_with fail
                refine (HX1.out _).mono ?_; rintro e w1 ⟨rfl, rfl⟩
                go_wp2_with fail
                refine (HX2.out _).mono ?_; rintro e w1 ⟨rfl, rfl⟩
                go_wp2_with fail
                go_ret
                exact ⟨ret_bool Hr.out.symm, Hba.out⟩
              | true =>
                rw [h4] at HX2
                obtain ⟨w1, hupd, hm1, hgrow1⟩ := HMa.out.upd nm (by simp [maxLen]; omega) (by rw [nmsJ_len]; simp [maxLen]; omega)
                have Hm1 := Lib.hid hm1
                have hres := (hgrow1.block ga ((Array.getElem?_eq_some_iff.1 HCa.out).1) (fun e => by injection e with e; omega)).trans HCa.out
                obtain ⟨x0, x1, x2, x3⟩ := cells4 hres
                have Hb1 := Lib.hid (Hba.out.grown hgrow1 Hba.out.size (fun j hj => by cases hj; exact Nat.le_refl _))
                have hb1 := Below.grown (Below.refl B wa) hgrow1 (Nat.le_trans hB Hba.out.size) (fun j hj => by cases hj; exact hB)
                have HR1 := Lib.hid (HRa.out.below hb1)
                have hdb := inB_iff.1 h3
                have hws : IntKind.i64.wrap (sumD xs k + dd) = sumD xs k + dd := IntWalk.i64_in _ (by omega)
                have HYn := Lib.hid (fun h5 => HY.out h1 rfl h3 h4 h5)
                obtain ⟨nl, hnl⟩ : ∃ z, nd.length = z := ⟨_, rfl⟩
                have Hnl := Lib.hid hnl
                rw [hnl] at y3 x3 HR1 hsn
                clear hm1 hgrow1 hres hb1 hnl h1 h3 h4 HRa HCa HY HE1 HE2 HE3 HE4
                go_wp2_with fail
                refine (HN.out _).mono ?_; rintro e w1 ⟨rfl, rfl⟩
                go_wp2_with fail
                refine (HX1.out _).mono ?_; rintro e w1 ⟨rfl, rfl⟩
                go_wp2_with fail
                refine (HX2.out _).mono ?_; rintro e w1 ⟨rfl, rfl⟩
                go_wp2_with fail
                clear HN HX1 HX2 hlook hupd
                go_loop [52] (fun i => ∃ i' : Nat, i' ≤ nl ∧ i = .int .i64 (i' : Int) ∧ allN i' (risB nd k) = true) (fun i => nl - (intOf i).toNat)
                case atStart => exact ⟨0, Nat.zero_le _, rfl, rfl⟩
                case round =>
                  obtain ⟨i, hi, rfl, hai⟩ := hrel
                  have Hai := Lib.hid hai
                  clear hai
                  by_cases hil : i < nl
                  · have hil' : (i : Int) < (nl : Int) := by omega
                    have hid : i < nd.length := by rw [Hnl.out]; exact hil
                    obtain ⟨b2, o2, hA2, _, hcc⟩ := rdI_at HR1.out Hnl.out (by omega)
                    subst hA2
                    have q1 := hcc i hid
                    have hg := getD_getI hid
                    have Hbad := Lib.hid (fun (hb : risB nd k i = false) => HE5.out (show needB nd k = false from allN_bad i hid hb))
                    have Hok := Lib.hid (fun (hb : risB nd k i = true) => allN_step Hai.out hb)
                    have HX := Lib.hid (fun wx => between_any nd[i] 0 ((k : Int) - 1) wx)
                    have Hb1' := Lib.hid (@risB_bad1 nd k i)
                    have Hb2' := Lib.hid (@risB_bad2 nd k i)
                    have Hy := Lib.hid (@risB_yes nd k i)
                    rw [hg] at Hb1' Hb2' Hy
                    cases h5 : inB nd[i] 0 ((k : Int) - 1) with
                    | false =>
                      have Hr := Lib.hid (Hbad.out (Hb1'.out h5))
                      rw [h5] at HX
                      clear h5 hcc hg
                      generalize nd[i] = x at *
                      go_wp2_with fail
                      refine (HX.out _).mono ?_; rintro e w1 ⟨rfl, rfl⟩
                      go_wp2_with fail
                      go_ret
                      exact ⟨ret_bool Hr.out.symm, Hb1.out⟩
                    | true =>
                      rw [h5] at HX
                      by_cases h0 : i = 0
                      · have Hst := Lib.hid (Hok.out (by subst h0; exact risB_zero (by rw [hg]; exact h5)))
                        have hi0 : ¬ ((0 : Int) < (i : Int)) := by omega
                        clear h5 hcc hg h0
                        generalize nd[i] = x at *
                        go_wp2_with fail
                        refine (HX.out _).mono ?_; rintro e w1 ⟨rfl, rfl⟩
                        go_wp2_with fail
                        go_round
                        case rel => exact ⟨i + 1, by omega, by go_num, Hst.out⟩
                        case measure => first | (simp [intOf]; done) | (simp [intOf]; omega)
                      · obtain ⟨j, rfl⟩ : ∃ j, i = j + 1 := ⟨i - 1, by omega⟩
                        have q2 := hcc j (by omega)
                        have hg2 := getD_getI (show j < nd.length by omega)
                        rw [show j + 1 - 1 = j by omega, hg2] at Hb2' Hy
                        have hwj : IntKind.i64.wrap (((j + 1 : Nat) : Int) - 1) = (j : Int) := (IntWalk.i64_in _ (by omega)).trans (by omega)
                        have hjl : (j : Int) < (nl : Int) := by omega
                        have hi0 : (0 : Int) < ((j + 1 : Nat) : Int) := by omega
                        by_cases hc : nd[j] < nd[j + 1]
                        · have Hst := Lib.hid (Hok.out (Hy.out h5 hc))
                          have hc' : ¬ (nd[j + 1] ≤ nd[j]) := by omega
                          clear h5 hcc hg hg2 h0 Hy Hb2' hc Hb1' Hbad Hok
                          generalize nd[j + 1] = x at *
                          generalize nd[j] = y at *
                          go_wp2_with fail
                          refine (HX.out _).mono ?_; rintro e w1 ⟨rfl, rfl⟩
                          go_wp2_with fail
                          go_round
                          case rel => exact ⟨j + 1 + 1, by omega, by go_num, Hst.out⟩
                          case measure => first | (simp [intOf]; done) | (simp [intOf]; omega)
                        · have Hr := Lib.hid (Hbad.out (Hb2'.out (by omega) hc))
                          have hc' : nd[j + 1] ≤ nd[j] := by omega
                          clear h5 hcc hg hg2 h0 Hy Hb2' hc Hb1' Hbad Hok
                          generalize nd[j + 1] = x at *
                          generalize nd[j] = y at *
                          go_wp2_with fail
                          refine (HX.out _).mono ?_; rintro e w1 ⟨rfl, rfl⟩
                          go_wp2_with fail
                          go_ret
                          exact ⟨ret_bool Hr.out.symm, Hb1.out⟩
                  · obtain rfl : i = nl := by omega
                    have hil' : ¬ ((i : Int) < (i : Int)) := by omega
                    have Hst := Lib.hid (HYn.out (show needB nd k = true by unfold needB; rw [Hnl.out]; exact Hai.out))
                    go_wp2_with fail
                    go_roundw
                    case rel => exact ⟨k + 1, by omega, by go_num, by rw [Hsd.out], Hst.out, by rw [Hsu.out]; exact Hm1.out, Hb1.out⟩
                    case measure => first | (simp [intOf]; done) | (simp [intOf]; omega)
      · obtain rfl : k = xs.length := by omega
        have hlt' : ¬ ((xs.length : Int) < (xs.length : Int)) := by omega
        have Hr := Lib.hid (Hend.out Hall.out)
        generalize sumD xs xs.length = sd at *
        go_wp2_with fail
        go_ret
        exact ⟨ret_bool (by rw [Hr.out]), Hbl.out⟩
end Go.Proofs.Ytalalegjeegocaa
/- Inventories, part 5: codes of a piece; rows of truth values; what belongs to a piece, in plain words. -/
namespace Go.Proofs.Ytalalegjeegocaa
open Go.RowKit Go.Joins

def cdP (xs : List Pc) (k : Int) : Int := if okP xs then (if inB k 0 ((xs.length : Int) - 1) then 0 else 2) else 1
theorem cdP_bad {xs : List Pc} {k : Int} (h : okP xs = false) : cdP xs k = 1 := by unfold cdP; rw [h]; rfl
theorem cdP_rng {xs : List Pc} {k : Int} (h : okP xs = true) (h2 : inB k 0 ((xs.length : Int) - 1) = false) : cdP xs k = 2 := by unfold cdP; rw [h, h2]; rfl
theorem cdP_yes {xs : List Pc} {k : Int} (h : okP xs = true) (h2 : inB k 0 ((xs.length : Int) - 1) = true) : cdP xs k = 0 := by unfold cdP; rw [h, h2]; rfl
theorem cdP_ok {xs : List Pc} {k : Int} (h : cdP xs k = 0) : okP xs = true ∧ ∃ j : Nat, k = (j : Int) ∧ j < xs.length := by
  cases h1 : okP xs with
  | false => rw [cdP_bad h1] at h; cases h
  | true =>
    cases h2 : inB k 0 ((xs.length : Int) - 1) with
    | false => rw [cdP_rng h1 h2] at h; cases h
    | true =>
      have := inB_iff.1 h2
      exact ⟨rfl, k.toNat, by omega, by omega⟩
theorem codeI_any (B : Nat) (v : Value) (xs : List Pc) (k : Int) (w : World) (h : RdP w B v xs) (hB : B ≤ w.heap.size) (hn : xs.length ≤ 100000) (hz : szP xs) :
    Calls Try.prog 62 #[v, .int .i64 k] w fun e w' => e = .returned (.int .i64 (cdP xs k)) ∧ Below w.heap.size w w' := by
  have HV := Lib.hid (ValidPI_any B v xs w h hB hn hz)
  have HX := Lib.hid (fun wx => between_any k 0 ((xs.length : Int) - 1) wx)
  obtain ⟨A, c, rfl⟩ := h.slice
  have hw : IntKind.i64.wrap ((xs.length : Int) - 1) = (xs.length : Int) - 1 := IntWalk.i64_in _ (by omega)
  clear h hz
  cases h1 : okP xs with
  | false =>
    have Hr := Lib.hid (cdP_bad (k := k) h1)
    rw [h1] at HV
    clear h1
    go_enter Try.func62, Try.ntmps62
    go_wp2_with fail
    refine (HV.out).mono ?_; rintro e w2 ⟨rfl, hb2⟩
    have Hb := Lib.hid hb2
    clear hb2
    go_wp2_with fail
    go_ret
    exact ⟨ret_int Hr.out.symm, Hb.out⟩
  | true =>
    rw [h1] at HV
    cases h2 : inB k 0 ((xs.length : Int) - 1) with
    | false =>
      have Hr := Lib.hid (cdP_rng h1 h2)
      rw [h2] at HX
      clear h1 h2
      go_enter Try.func62, Try.ntmps62
      go_wp2_with fail
      refine (HV.out).mono ?_; rintro e w2 ⟨rfl, hb2⟩
      have Hb := Lib.hid hb2
      clear hb2
      go_wp2_with fail
      refine (HX.out _).mono ?_; rintro e w1 ⟨rfl, rfl⟩
      go_wp2_with fail
      go_ret
      exact ⟨ret_int Hr.out.symm, Hb.out⟩
    | true =>
      have Hr := Lib.hid (cdP_yes h1 h2)
      rw [h2] at HX
      clear h1 h2
      go_enter Try.func62, Try.ntmps62
      go_wp2_with fail
      refine (HV.out).mono ?_; rintro e w2 ⟨rfl, hb2⟩
      have Hb := Lib.hid hb2
      clear hb2
      go_wp2_with fail
      refine (HX.out _).mono ?_; rintro e w1 ⟨rfl, rfl⟩
      go_wp2_with fail
      go_ret
      exact ⟨ret_int Hr.out.symm, Hb.out⟩
theorem codeS_any (B : Nat) (v : Value) (xs : List Pc) (k : Int) (w : World) (h : RdP w B v xs) (hB : B ≤ w.heap.size) (hn : xs.length ≤ 100000) (hz : szP xs) :
    Calls Try.prog 64 #[v, .int .i64 k] w fun e w' => e = .returned (.int .i64 (cdP xs k)) ∧ Below w.heap.size w w' := by
  have HV := Lib.hid (ValidPS_any B v xs w h hB hn hz)
  have HX := Lib.hid (fun wx => l00In_any k 0 ((xs.length : Int) - 1) wx)
  obtain ⟨A, c, rfl⟩ := h.slice
  have hw : IntKind.i64.wrap ((xs.length : Int) - 1) = (xs.length : Int) - 1 := IntWalk.i64_in _ (by omega)
  clear h hz
  cases h1 : okP xs with
  | false =>
    have Hr := Lib.hid (cdP_bad (k := k) h1)
    rw [h1] at HV
    clear h1
    go_enter Try.func64, Try.ntmps64
    go_wp2_with fail
    refine (HV.out).mono ?_; rintro e w2 ⟨rfl, hb2⟩
    have Hb := Lib.hid hb2
    clear hb2
    go_wp2_with fail
    go_ret
    exact ⟨ret_int Hr.out.symm, Hb.out⟩
  | true =>
    rw [h1] at HV
    cases h2 : inB k 0 ((xs.length : Int) - 1) with
    | false =>
      have Hr := Lib.hid (cdP_rng h1 h2)
      rw [h2] at HX
      clear h1 h2
      go_enter Try.func64, Try.ntmps64
      go_wp2_with fail
      refine (HV.out).mono ?_; rintro e w2 ⟨rfl, hb2⟩
      have Hb := Lib.hid hb2
      clear hb2
      go_wp2_with fail
      refine (HX.out _).mono ?_; rintro e w1 ⟨rfl, rfl⟩
      go_wp2_with fail
      go_ret
      exact ⟨ret_int Hr.out.symm, Hb.out⟩
    | true =>
      have Hr := Lib.hid (cdP_yes h1 h2)
      rw [h2] at HX
      clear h1 h2
      go_enter Try.func64, Try.ntmps64
      go_wp2_with fail
      refine (HV.out).mono ?_; rintro e w2 ⟨rfl, hb2⟩
      have Hb := Lib.hid hb2
      clear hb2
      go_wp2_with fail
      refine (HX.out _).mono ?_; rintro e w1 ⟨rfl, rfl⟩
      go_wp2_with fail
      go_ret
      exact ⟨ret_int Hr.out.symm, Hb.out⟩
/-! rows of truth values -/
def tabB (n : Nat) (f : Nat → Bool) : List Value := (List.range n).map fun i => .bool (f i)
theorem tabB_len (n : Nat) (f : Nat → Bool) : (tabB n f).length = n := by simp [tabB]
theorem tabB_at {n i : Nat} (f : Nat → Bool) (h : i < n) : (tabB n f)[i]? = some (.bool (f i)) := by simp [tabB, h]
theorem tabB_congr {n : Nat} {f g : Nat → Bool} (h : ∀ i, i < n → f i = g i) : tabB n f = tabB n g := by
  unfold tabB
  exact List.map_congr_left fun i hi => by rw [h i (List.mem_range.1 hi)]
def putB (f : Nat → Bool) (a : Nat) (y : Bool) : Nat → Bool := fun x => if x = a then y else f x
theorem tabB_set (n : Nat) (f : Nat → Bool) (a : Nat) (y : Bool) : (tabB n f).set a (.bool y) = tabB n (putB f a y) := by
  refine List.ext_getElem (by simp [tabB]) fun i h1 h2 => ?_
  rw [List.getElem_set]
  simp only [tabB, List.getElem_map, List.getElem_range, putB]
  by_cases h : a = i
  · simp [h]
  · rw [if_neg h, if_neg (fun e => h e.symm)]
theorem infoBo : (Try.prog.info? 4).map (fun i => (i.zero, i.size, i.bytes)) = some (some (.bool false), 1, 1) := by kernel_rfl
theorem mk_bools (n : Nat) (hn : n ≤ 1000) (w : World) : ∃ w', (Instr.makeSlice 77 (.int .i64 (n : Int)) (.int .i64 (n : Int))).run Try.prog w = .ok (.slice (some ⟨w.heap.size, 0, none⟩) n n) w' ∧
    w'.ownsRow w.heap.size 4 1 (.slice (some ⟨w.heap.size, 0, none⟩) n n) n (tabB n (fun _ => false)) ∧ Below w.heap.size w w' := by
  obtain ⟨i, hi, hz, h2, h3⟩ := info_parts infoBo
  obtain ⟨w1, hr, hown, hg⟩ := run_makeSlice_full (P := Try.prog) (w := w) w.heap.size 77 4 i _ 1 Try.underlying77 hi hz h2 .i64 .i64 n (by omega) (by rw [h3]; omega) (by simp [maxLen]; omega) (Nat.le_refl _)
  refine ⟨w1, hr, ?_, below_of_grown hg (Nat.le_refl _) (fun x hx => by cases hx)⟩
  have e : (madeCells (Value.cells (.bool false)) (n * 1)).toList = tabB n (fun _ => false) := by
    rw [Nat.mul_one]
    refine List.ext_getElem (by simp [madeCells, tabB]) fun i h1 h2 => ?_
    simp [madeCells, tabB, Value.cells]
    rw [Nat.mod_one]; rfl
  rw [← e]
  exact hown
theorem own_cellB {w : World} {base n g cap : Nat} {e : TypeId} {f : Nat → Bool} (h : w.ownsRow base e 1 (.slice (some ⟨g, 0, none⟩) n cap) n (tabB n f)) (j : Nat) (hj : j < n) : w.cell? ⟨g, j, none⟩ = some (.bool (f j)) ∧ w.frozen? ⟨g, j, none⟩ = false :=
  ⟨(h.cellAt j (by omega)).trans (tabB_at f hj), h.frozenAt j⟩
/-! what belongs to a piece -/
def undS (xs : List Pc) (k : Nat) (U : Nat → Bool) (i : Nat) : Bool := if i = k then true else if k < i then U (pg xs i).par.toNat else false
def und (xs : List Pc) (k : Nat) : Nat → Bool := tv false (undS xs k)
theorem und_self (xs : List Pc) (k : Nat) : und xs k k = true := by
  unfold und
  rw [tv_eq]
  show (if k = k then true else _) = true
  rw [if_pos rfl]
theorem und_lt (xs : List Pc) {k i : Nat} (h : i < k) : und xs k i = false := by
  unfold und
  rw [tv_eq]
  show (if i = k then true else if k < i then _ else false) = false
  rw [if_neg (by omega), if_neg (by omega)]
theorem und_step {xs : List Pc} {n k i : Nat} (hs : Shp xs n) (h : k < i) (hi : i < n) : und xs k i = und xs k (pg xs i).par.toNat := by
  have hp := hs.par i (by omega) hi
  unfold und
  rw [tv_eq]
  show (if i = k then true else if k < i then (if (pg xs i).par.toNat < i then tv false (undS xs k) (pg xs i).par.toNat else false) else false) = _
  rw [if_neg (by omega), if_pos h, if_pos (by omega)]
end Go.Proofs.Ytalalegjeegocaa
/- Errors of tables, part 3: rounded tables. -/
namespace Go.Proofs.Ytalalegjeegocaa
open Go.RowKit Go.Joins

set_option maxRecDepth 100000 in
set_option maxHeartbeats 1600000 in
theorem f6ints_same (B1 B2 : Nat) (v1 v2 : Value) (n : Nat) (f g : Nat → Int) (w : World) (h : Rd w B1 v1 n 1 (tab n f)) (h' : Rd w B2 v2 n 1 (tab n g)) (hn : n ≤ 1000) (he : ∀ i, i < n → f i = g i) :
    Calls Try.prog 15 #[v1, v2] w fun e w' => e = .returned (.bool true) ∧ ∃ k, w' = w.drewN k := by
  have H := Lib.hid h
  have H' := Lib.hid h'
  have HE := Lib.hid he
  obtain ⟨A, c, rfl⟩ := rd_sl h
  obtain ⟨A', c', rfl⟩ := rd_sl h'
  clear h h' he
  go_enter Try.func15, Try.ntmps15
  go_wp2_with fail
  go_loopw [5] (fun i wr => ∃ (k d : Nat), k ≤ n ∧ i = .int .i64 (k : Int) ∧ wr = w.drewN d) (fun i _ => n - (intOf i).toNat)
  case atStart => exact ⟨0, 0, Nat.zero_le _, rfl, rfl⟩
  case round =>
    obtain ⟨k, d, hk, rfl, rfl⟩ := hrel
    by_cases hlt : k < n
    · obtain ⟨b1, o1, hA, _, hcc⟩ := rdF_all H.out (by omega)
      obtain ⟨b2, o2, hA', _, hcc'⟩ := rdF_all H'.out (by omega)
      subst hA hA'
      have q0 := hcc k hlt
      have q1 := hcc' k hlt
      rw [← HE.out k hlt] at q1
      have hlt' : (k : Int) < (n : Int) := by omega
      generalize f k = x at *
      clear hcc hcc'
      go_wp2_with fail
      go_quiet (fail)
      go_wp2_with fail
      go_roundw
      case rel => exact ⟨k + 1, d + _, by omega, by go_num, rfl⟩
      case measure => first | (simp [intOf]; done) | (simp [intOf]; omega)
    · have hlt' : (n : Int) ≤ (k : Int) := by omega
      go_wp2_with fail
      go_ret
      exact ⟨rfl, d, rfl⟩
theorem f6big_c (B n : Nat) (v : Value) (xs : List Value) (w : World) (h : Rd w B v n 1 xs) : Calls Try.prog 5 #[v] w fun e w' => e = .returned (.bool (decide (4096 < n))) ∧ w = w' := by
  obtain ⟨A, c, rfl⟩ := rd_sl h
  clear h
  by_cases hc : 4096 < n
  · have h1 : (4096 : Int) < (n : Int) := by omega
    go_enter Try.func5, Try.ntmps5
    go_wp2_with fail
    go_ret
    exact ⟨ret_bool (by simp [hc]), rfl⟩
  · have h1 : ¬ (4096 : Int) < (n : Int) := by omega
    go_enter Try.func5, Try.ntmps5
    go_wp2_with fail
    go_ret
    exact ⟨ret_bool (by simp [hc]), rfl⟩
/-- a table, or none and a code -/
def RetTab (w : World) (code : Int) (n : Nat) (f : Nat → Int) (e : Ending) (w' : World) : Prop :=
  ∃ v m, e = .returned (.tuple #[v, .int .i64 code]) ∧ (code = 0 → m = n) ∧ (code ≠ 0 → m = 0) ∧ w'.ownsRow w.heap.size 2 1 v m (tab m f) ∧ Below w.heap.size w w'
theorem RetTab.no {w w' : World} {code : Int} {n : Nat} {f : Nat → Int} (h : code ≠ 0) (hb : Below w.heap.size w w') : RetTab w code n f (.returned (.tuple #[.slice none 0 0, .int .i64 code])) w' :=
  ⟨_, 0, rfl, fun e => absurd e h, fun _ => rfl, World.ownsRow_nil _ _ _ _, hb⟩
theorem RetTab.yes {w w' : World} {n : Nat} {f : Nat → Int} {v : Value} (h : w'.ownsRow w.heap.size 2 1 v n (tab n f)) (hb : Below w.heap.size w w') : RetTab w 0 n f (.returned (.tuple #[v, .int .i64 0])) w' :=
  ⟨_, n, rfl, fun _ => rfl, fun e => absurd rfl e, h, hb⟩
/-- .. with the code by its equation -/
theorem RetTab.no' {w w' : World} {code c : Int} {n : Nat} {f : Nat → Int} (he : code = c) (h : c ≠ 0) (hb : Below w.heap.size w w') : RetTab w code n f (.returned (.tuple #[.slice none 0 0, .int .i64 c])) w' := by
  subst he; exact RetTab.no h hb
theorem RetTab.yes' {w w' : World} {code : Int} {n : Nat} {f : Nat → Int} {v : Value} (he : code = 0) (h : w'.ownsRow w.heap.size 2 1 v n (tab n f)) (hb : Below w.heap.size w w') : RetTab w code n f (.returned (.tuple #[v, .int .i64 0])) w' := by
  subst he; exact RetTab.yes h hb

/-- the greatest error of the first k values -/
def wmx (f : Nat → Int) (u : Int) : Nat → Int
  | 0 => 0
  | k + 1 => max (wmx f u k) (((f k - ru (f k) u * u).natAbs : Nat) : Int)
theorem wmx_bd {f : Nat → Int} {u : Int} {n : Nat} (hu : 1 ≤ u ∧ u ≤ 1000000) : ∀ k, 0 ≤ wmx f u k ∧ wmx f u k ≤ 1000000 ∧ 2 * wmx f u k ≤ u
  | 0 => by show (0 : Int) ≤ 0 ∧ (0 : Int) ≤ 1000000 ∧ 2 * (0 : Int) ≤ u; omega
  | k + 1 => by
    have h1 := wmx_bd (f := f) (n := n) hu k
    have h2 := ru_bd (v := f k) (u := u) (by omega)
    have e : wmx f u (k + 1) = max (wmx f u k) (((f k - ru (f k) u * u).natAbs : Nat) : Int) := rfl
    omega
end Go.Proofs.Ytalalegjeegocaa
/- Bounds of errors, part 1: binomial coefficients and sums in plain words. -/
namespace Go.Proofs.Ytalalegjeegocaa

def ch : Nat → Nat → Nat
  | _, 0 => 1
  | 0, _ + 1 => 0
  | n + 1, k + 1 => ch n k + ch n (k + 1)
theorem ch_0 (n : Nat) : ch n 0 = 1 := by cases n <;> rfl
theorem ch_gt : ∀ n k, n < k → ch n k = 0
  | _, 0, h => by omega
  | 0, _ + 1, _ => rfl
  | n + 1, k + 1, h => by show ch n k + ch n (k + 1) = 0; rw [ch_gt n k (by omega), ch_gt n (k + 1) (by omega)]
theorem ch_both : ∀ n k, ch n (k + 1) * (k + 1) = ch n k * (n - k) ∧ ch (n + 1) (k + 1) * (k + 1) = ch n k * (n + 1)
  | 0, k => by
    refine ⟨by show 0 * (k + 1) = _; rw [Nat.zero_sub, Nat.mul_zero, Nat.zero_mul], ?_⟩
    show (ch 0 k + ch 0 (k + 1)) * (k + 1) = _
    cases k with
    | zero => rfl
    | succ k => show (0 + 0) * _ = 0 * _; simp
  | n + 1, k => by
    have h1 := ch_both n k
    have h2 : ch (n + 1) (k + 1) * (k + 1) = ch (n + 1) k * (n + 1 - k) := by
      cases k with
      | zero => rw [h1.2, ch_0, ch_0]; simp
      | succ j =>
        have h3 := (ch_both n j).1
        rw [h1.2]
        show ch n (j + 1) * (n + 1) = (ch n j + ch n (j + 1)) * (n + 1 - (j + 1))
        by_cases hj : j ≤ n
        · rw [Nat.add_mul, show n + 1 - (j + 1) = n - j by omega, ← h3, ← Nat.mul_add]
          congr 1; omega
        · rw [ch_gt n j (by omega), ch_gt n (j + 1) (by omega)]; simp
    refine ⟨h2, ?_⟩
    show (ch (n + 1) k + ch (n + 1) (k + 1)) * (k + 1) = _
    rw [Nat.add_mul, h2, ← Nat.mul_add]
    by_cases hk : k ≤ n + 1
    · congr 1; omega
    · rw [ch_gt (n + 1) k (by omega)]; simp
theorem ch_next (n k : Nat) : ch n k * (n - k) / (k + 1) = ch n (k + 1) := by
  rw [← (ch_both n k).1]; exact Nat.mul_div_cancel _ (by omega)
theorem ch_diag (n k : Nat) : ch n k * (n + 1) / (k + 1) = ch (n + 1) (k + 1) := by
  rw [← (ch_both n k).2]; exact Nat.mul_div_cancel _ (by omega)
theorem ch_up (n k : Nat) : ch n k ≤ ch (n + 1) k := by
  cases k with
  | zero => rw [ch_0, ch_0]; exact Nat.le_refl _
  | succ k => show _ ≤ ch n k + ch n (k + 1); omega
theorem ch_dg (n k : Nat) : ch n k ≤ ch (n + 1) (k + 1) := by show _ ≤ ch n k + ch n (k + 1); omega
theorem ch_pow : ∀ n k, ch n k ≤ 2 ^ n
  | n, 0 => by rw [ch_0]; exact Nat.one_le_two_pow
  | 0, _ + 1 => by simp [ch]
  | n + 1, k + 1 => by
    have h1 := ch_pow n k
    have h2 := ch_pow n (k + 1)
    show ch n k + ch n (k + 1) ≤ _
    rw [Nat.pow_succ]; omega
theorem ch_big {n k : Nat} (h : 1000000000000 < ch n k) : 20 ≤ n := by
  refine Nat.le_of_not_lt fun hn => ?_
  have h1 := ch_pow n k
  have h2 : 2 ^ n ≤ 2 ^ 20 := Nat.pow_le_pow_right (by omega) (by omega)
  have : (2 : Nat) ^ 20 = 1048576 := by decide
  omega
/-- a great coefficient stays great -/
theorem ch_stay {n k : Nat} (h : 1000000000000 < ch n k) (hk : k ≤ 8) : 1000000000000 < ch n (k + 1) := by
  have h1 := ch_big h
  have h2 := (ch_both n k).1
  refine Nat.lt_of_lt_of_le h ?_
  have h3 : ch n k * (k + 1) ≤ ch n (k + 1) * (k + 1) := by rw [h2]; exact Nat.mul_le_mul_left _ (by omega)
  exact Nat.le_of_mul_le_mul_right h3 (by omega)
/-- the greatest value and one more -/
def top : Nat := 1000000000001
def cp (x : Nat) : Nat := min x top
theorem cp_le (x : Nat) : cp x ≤ top := Nat.min_le_right _ _
theorem cp_step (n k : Nat) (hk : k ≤ 8) : cp (ch n (k + 1)) = if cp (ch n k) ≤ 1000000000000 then min (cp (ch n k) * (n - k) / (k + 1)) top else cp (ch n k) := by
  unfold cp
  split
  · rename_i h
    have e : min (ch n k) top = ch n k := by unfold top at h ⊢; omega
    rw [e, ch_next]
  · rename_i h
    have h1 : 1000000000000 < ch n k := by unfold top at h; omega
    have h2 := ch_stay h1 hk
    unfold top; omega
/-- the errors of the first k differences after n steps -/
def sm (s : Nat → Nat) (n : Nat) : Nat → Nat
  | 0 => 0
  | k + 1 => sm s n k + s k * ch n k
theorem sm_mono (s : Nat → Nat) (n : Nat) : ∀ k, sm s n k ≤ sm s (n + 1) k
  | 0 => Nat.le_refl _
  | k + 1 => Nat.add_le_add (sm_mono s n k) (Nat.mul_le_mul_left _ (ch_up n k))
theorem sm_le (s : Nat → Nat) (n k : Nat) : ∀ j, sm s n k ≤ sm s n (k + j)
  | 0 => Nat.le_refl _
  | j + 1 => Nat.le_trans (sm_le s n k j) (Nat.le_add_right _ _)
def sb (s : Nat → Nat) (m n : Nat) : Nat := cp (sm s n m)
theorem sb_mono (s : Nat → Nat) (m n : Nat) : sb s m n ≤ sb s m (n + 1) := by
  have := sm_mono s n m
  unfold sb cp; omega
theorem sb_mono2 (s : Nat → Nat) (m n : Nat) : ∀ j, sb s m n ≤ sb s m (n + j)
  | 0 => Nat.le_refl _
  | j + 1 => Nat.le_trans (sb_mono2 s m n j) (sb_mono s m (n + j))
/-- a summand that is too great -/
theorem sb_over {s : Nat → Nat} {m n k : Nat} (hk : k < m) (h : 1000000000000 < sm s n k + s k * ch n k) : sb s m n = top := by
  have := sm_le s n (k + 1) (m - (k + 1))
  rw [show k + 1 + (m - (k + 1)) = m by omega] at this
  have e : sm s n (k + 1) = sm s n k + s k * ch n k := rfl
  unfold sb cp top; omega
theorem quo_gt {a c M : Nat} (ha : 0 < a) (h : M / a < c) : M < a * c := by
  rw [Nat.mul_comm]
  exact (Nat.div_lt_iff_lt_mul ha).1 h
theorem quo_le {a c M : Nat} (h : c ≤ M / a) : a * c ≤ M := by
  rw [Nat.mul_comm]
  by_cases ha : 0 < a
  · exact (Nat.le_div_iff_mul_le ha).1 h
  · obtain rfl : a = 0 := by omega
    simp
/-- the product with a capped coefficient -/
theorem cp_over {a x : Nat} (ha : 0 < a) (h : 1000000000000 / a < cp x) : 1000000000000 < a * x := by
  have h1 := quo_gt ha h
  exact Nat.lt_of_lt_of_le h1 (Nat.mul_le_mul_left _ (Nat.min_le_left _ _))
theorem cp_under {a x : Nat} (_ha : 0 < a) (h : cp x ≤ 1000000000000 / a) : cp x = x ∧ a * x ≤ 1000000000000 := by
  have h1 := quo_le h
  have h2 : cp x ≤ 1000000000000 := Nat.le_trans h (Nat.div_le_self _ _)
  have h3 : cp x = x := by unfold cp top at *; omega
  rw [h3] at h1
  exact ⟨h3, h1⟩
/-- the reference's step -/
def rs (s : Nat → Nat) (n : Nat) : Nat → Nat
  | 0 => 0
  | k + 1 => if 0 < s k then min top (rs s n k + s k * min (cp (ch n k)) (1000000000000 / s k + 1)) else rs s n k
theorem rs_eq (s : Nat → Nat) (n : Nat) : ∀ k, rs s n k = cp (sm s n k)
  | 0 => by simp [rs, sm, cp]
  | k + 1 => by
    have ih := rs_eq s n k
    show (if 0 < s k then min top (rs s n k + s k * min (cp (ch n k)) (1000000000000 / s k + 1)) else rs s n k) = cp (sm s n k + s k * ch n k)
    rw [ih]
    by_cases h : 0 < s k
    · rw [if_pos h]
      by_cases h2 : cp (ch n k) ≤ 1000000000000 / s k
      · obtain ⟨h3, h4⟩ := cp_under h h2
        rw [h3]
        rw [h3] at h2
        rw [show min (ch n k) (1000000000000 / s k + 1) = ch n k by omega]
        generalize s k * ch n k = x at *
        unfold cp top; omega
      · have h3 := cp_over h (Nat.lt_of_not_le h2)
        rw [show min (cp (ch n k)) (1000000000000 / s k + 1) = 1000000000000 / s k + 1 by omega]
        have h4 := quo_gt (c := 1000000000000 / s k + 1) h (Nat.lt_succ_self _)
        generalize s k * ch n k = x at *
        generalize s k * (1000000000000 / s k + 1) = y at *
        unfold cp top; omega
    · rw [if_neg h, show s k = 0 by omega]; simp
/-- the greatest number of steps -/
def SafeAt (s : Nat → Nat) (m limit r : Nat) : Prop := r ≤ 100000 ∧ sb s m r ≤ limit ∧ (r = 100000 ∨ limit < sb s m (r + 1))
theorem safe_one {s : Nat → Nat} {m limit r r' : Nat} (h : SafeAt s m limit r) (h' : SafeAt s m limit r') : r = r' := by
  obtain ⟨a, b, c⟩ := h
  obtain ⟨a', b', c'⟩ := h'
  by_cases h1 : r < r'
  · have := sb_mono2 s m (r + 1) (r' - (r + 1))
    rw [show r + 1 + (r' - (r + 1)) = r' by omega] at this
    omega
  · by_cases h2 : r' < r
    · have := sb_mono2 s m (r' + 1) (r - (r' + 1))
      rw [show r' + 1 + (r - (r' + 1)) = r by omega] at this
      omega
    · omega
end Go.Proofs.Ytalalegjeegocaa
/- Errors of tables, part 4: binomial coefficients, patterns of errors. -/
namespace Go.Proofs.Ytalalegjeegocaa
open Go.RowKit Go.Joins

theorem ch_along (m j : Nat) : ∀ d, ch (m + j) j ≤ ch (m + (j + d)) (j + d)
  | 0 => Nat.le_refl _
  | d + 1 => Nat.le_trans (ch_along m j d) (ch_dg (m + (j + d)) (j + d))
theorem cp_small {x : Nat} (h : x ≤ 1000000000000) : cp x = x := by unfold cp top; omega
theorem cp_great {x : Nat} (h : 1000000000000 < x) : cp x = top := by unfold cp top; omega
theorem bin_ch : ∀ n, n < 9 → ∀ k, k < 9 → binV n k = ch n k ∧ cp (ch n k) = ch n k ∧ ch n k ≤ 70 := by decide +kernel

/-- the code of an order and an error -/
def oc (a b : Int) : Int := if inB a 0 8 && inB b 0 1000000 then 0 else 2
theorem oc_ok {a b : Int} (h : oc a b = 0) : (0 ≤ a ∧ a ≤ 8) ∧ 0 ≤ b ∧ b ≤ 1000000 := by
  unfold oc at h
  split at h
  · rename_i h1
    rw [Bool.and_eq_true] at h1
    exact ⟨inB_iff.1 h1.1, inB_iff.1 h1.2⟩
  · cases h
theorem oc_cases (a b : Int) : oc a b = 0 ∨ oc a b = 2 := by
  unfold oc
  split
  · exact .inl rfl
  · exact .inr rfl
theorem oc_fst {a b : Int} (h : inB a 0 8 = false) : oc a b = 2 := by unfold oc; rw [h]; rfl
theorem oc_snd {a b : Int} (h : inB b 0 1000000 = false) : oc a b = 2 := by unfold oc; rw [h, Bool.and_false]; rfl
theorem oc_both {a b : Int} (h : inB a 0 8 = true) (h2 : inB b 0 1000000 = true) : oc a b = 0 := by unfold oc; rw [h, h2]; rfl

/-- how great the error of a difference can be -/
def dbV (a b : Int) : Int := if oc a b = 0 then b * ((2 ^ a.toNat : Nat) : Int) else 0
theorem shl_small (b : Int) (h0 : 0 ≤ b) (h1 : b ≤ 1000000) : ∀ n : Nat, n < 9 → wrap64 (b * 2 ^ n) = b * ((2 ^ n : Nat) : Int) := by
  intro n hn
  have e : (b * 2 ^ n : Int) = b * ((2 ^ n : Nat) : Int) := by rw [Int.natCast_pow]; rfl
  rw [e]
  have h2 : (2 : Nat) ^ n ≤ 256 := Nat.le_trans (Nat.pow_le_pow_right (by omega) (show n ≤ 8 by omega)) (by decide)
  generalize (2 : Nat) ^ n = x at *
  have h3 := abs_mul (a := b) (b := (x : Int)) (A := 1000000) (B := 256) (by omega) (by omega)
  exact IntWalk.wrap64_in _ ⟨by omega, by omega⟩
theorem ret2_int {a b : Int} {c : Value} (h : a = b) : Ending.returned (.tuple #[.int .i64 a, c]) = .returned (.tuple #[.int .i64 b, c]) := by rw [h]
/-- errors that make the error of a difference greatest -/
def wpf (n : Nat) (s : Int) (k : Nat) : Int := if (n - k) % 2 = 1 then -s else s
theorem wpf_wp (n : Nat) (s : Int) : wpf n s = fun k => s * wp n k := by
  funext k
  unfold wpf wp
  split <;> simp
theorem put_put (f : Nat → Int) (a : Nat) (x y : Int) : put (put f a x) a y = put f a y := by
  funext i
  show (if i = a then y else if i = a then x else f i) = if i = a then y else f i
  split <;> rfl
def upTo (k : Nat) (f : Nat → Int) : Nat → Int := fun i => if i < k then f i else 0
theorem upTo_put (k : Nat) (f : Nat → Int) (x : Int) (h : f k = x) : put (upTo k f) k x = upTo (k + 1) f := by
  funext i
  show (if i = k then x else if i < k then f i else 0) = if i < k + 1 then f i else 0
  by_cases e : i = k
  · subst e; rw [if_pos rfl, if_pos (by omega), h]
  · rw [if_neg e]
    by_cases e2 : i < k
    · rw [if_pos e2, if_pos (by omega)]
    · rw [if_neg e2, if_neg (by omega)]
end Go.Proofs.Ytalalegjeegocaa
/- Errors of tables, part 5: patterns of errors. -/
namespace Go.Proofs.Ytalalegjeegocaa
open Go.RowKit Go.Joins

/-- how an error spreads -/
def spf (n : Nat) (s : Int) (k : Nat) : Int := if k % 2 = 1 then -(s * ((ch n k : Nat) : Int)) else s * ((ch n k : Nat) : Int)
end Go.Proofs.Ytalalegjeegocaa
/- The draw 'one'. -/
namespace Go.Proofs.Ytalalegjeegocaa
open Go.RowKit Go.Joins

set_option maxHeartbeats 400000 in
theorem one_any (B g k : Nat) (bs : List UInt8) (n : Int) (w : World) (h : SrcAt w B g k bs) (hk : k < 4611686018427387900) :
    Calls Try.prog 53 #[.pointer (some ⟨g, 0, none⟩), .int .i64 n] w (DrawnB w B g (k + 2) bs) := by
  have H := Lib.hid h; clear h
  go_enter Try.func53, Try.ntmps53
  go_wp2_with fail
  refine (pick_any B g k bs n _ H.out (by omega)).mono ?_; rintro e w1 ⟨x, rfl, _, hs1, hg1⟩
  have Hs1 := Lib.hid hs1; clear hs1
  go_wp2_with fail
  go_ret
  exact ⟨_, rfl, Hs1.out, hg1⟩

end Go.Proofs.Ytalalegjeegocaa
/- Draws: one of some numbers is drawn. -/
namespace Go.Proofs.Ytalalegjeegocaa
open Go.RowKit Go.Joins

set_option maxHeartbeats 400000 in
theorem among_in (B g k m : Nat) (l : List Int) (bs : List UInt8) (w : World) (h : SrcAt w B g k bs) (hk : k < 4611686018427387800) (hm : l.length = m) (hm2 : 2 ≤ m) (hm3 : m ≤ 200) :
    Calls Try.prog 54 #[.pointer (some ⟨g, 0, none⟩), .slice (some ⟨w.heap.size, 0, none⟩) m m] (w.alloc (.cells (l.map (Value.int .i64)).toArray 2)) fun e w' => ∃ x : Int, x ∈ l ∧ e = .returned (.int .i64 x) ∧ SrcAt w' B g (k + 2) bs ∧ w.grownBy w' (some g) := by
  have hlt := h.lt
  have hbk := (Below.refl w.heap.size w).alloc (Nat.le_refl _) (.cells (l.map (Value.int .i64)).toArray 2)
  have hnc : ∀ i (hi : i < l.length), (w.alloc (.cells (l.map (Value.int .i64)).toArray 2)).cell? ⟨w.heap.size, i, none⟩ = some (.int .i64 l[i]) := fun i hi => by
    have := new_cells w (l.map (Value.int .i64)).toArray 2 i (.int .i64 l[i]) (by simp [hi])
    rwa [show (⟨w.heap.size, 0, none⟩ : Addr).add i = ⟨w.heap.size, i, none⟩ by unfold Addr.add; split <;> simp_all] at this
  have H := Lib.hid (h.below hbk); clear h
  have Hc := Lib.hid hnc; clear hnc
  have Hg := Lib.hid (fun w' (h : (w.alloc (.cells (l.map (Value.int .i64)).toArray 2)).grownBy w' (some g)) => grown_from_alloc h)
  have hsz : w.heap.size < (w.alloc (.cells (l.map (Value.int .i64)).toArray 2)).heap.size := by simp
  have hm4 : (m : Int) ≤ 200 := by omega
  clear hbk
  generalize w.alloc (.cells (l.map (Value.int .i64)).toArray 2) = wl at *
  go_enter Try.func54, Try.ntmps54
  go_wp2_with fail
  refine (pick_any B g k bs m _ H.out (by omega)).mono ?_; rintro e w1 ⟨x, rfl, ⟨hx0, hx1, _⟩, hs1, hg1⟩
  have Hs1 := Lib.hid hs1; clear hs1
  obtain ⟨i, rfl⟩ : ∃ i : Nat, x = i := ⟨x.toNat, by omega⟩
  have hx2 := hx1 (by omega)
  have hi : i < l.length := by omega
  have hcell := (World.cell?_of_block (a := ⟨w.heap.size, i, none⟩) (hg1.block w.heap.size hsz (fun e => by injection e; omega))).trans (Hc.out i hi)
  have hg2 := Hg.out _ hg1
  have hin := Lib.hid (show l[i] ∈ l from List.getElem_mem hi)
  generalize l[i] = z at *
  clear hx1 hg1
  go_wp2_with fail
  go_ret
  exact ⟨z, hin.out, rfl, Hs1.out, hg2⟩
end Go.Proofs.Ytalalegjeegocaa
/- Errors of tables, part 6: draws. -/
namespace Go.Proofs.Ytalalegjeegocaa
open Go.RowKit Go.Joins

theorem own_gs {wr w2 : World} {gs B n sz : Nat} {e : TypeId} {v : Value} {xs : List Value} (h : wr.ownsRow B e sz v n xs) (h2 : wr.grownBy w2 (some gs)) (hgs : gs < B) : w2.ownsRow B e sz v n xs :=
  h.kept h2 (.inr (fun e => by have := (h.lt gs e).1; omega))
theorem grown_own {w w1 w2 : World} {g n sz : Nat} {e : TypeId} {v : Value} {xs : List Value} (h : w.grownBy w1 (some g)) (ho : w1.ownsRow w.heap.size e sz v n xs) (h2 : w1.grownBy w2 v.ownBlock) : w.grownBy w2 (some g) :=
  ⟨h2.os.trans h.os, h2.tape.trans h.tape, h2.output.trans h.output, Nat.le_trans h.size h2.size, fun i hi hne => (h2.block i (Nat.lt_of_lt_of_le hi h.size) (fun e => by have := (ho.lt i e.symm).1; omega)).trans (h.block i hi hne)⟩
theorem grown_set (w' : World) (g i : Nat) (v : Value) : w'.grownBy (w'.setCell ⟨g, i, none⟩ v) (some g) :=
  ⟨rfl, rfl, rfl, by simp [World.setCell], fun i _ hi => Below.heap_setCell _ _ _ _ (fun e => hi (by rw [e]))⟩
theorem grown_refl (w : World) (r : Option Nat) : w.grownBy w r := ⟨rfl, rfl, rfl, Nat.le_refl _, fun _ _ _ => rfl⟩

def Drawn2 (w : World) (B g k : Nat) (bs : List UInt8) (e : Ending) (w' : World) : Prop :=
  ∃ x y, e = .returned (.tuple #[.int .i64 x, .int .i64 y]) ∧ SrcAt w' B g k bs ∧ w.grownBy w' (some g)
/-- a list is drawn -/
def DrawnL (M : Nat) (w : World) (B g k : Nat) (bs : List UInt8) (e : Ending) (w' : World) : Prop :=
  ∃ v n f, e = .returned v ∧ n ≤ M ∧ w'.ownsRow w.heap.size 2 1 v n (tab n f) ∧ SrcAt w' B g k bs ∧ w.grownBy w' (some g)
theorem tab_more (n : Nat) (f : Nat → Int) (x : Int) : ∃ f', tab (n + 1) f' = tab n f ++ [.int .i64 x] := ⟨fun i => if i < n then f i else x, by
  rw [tab_succ, if_neg (by omega)]
  congr 1
  exact tab_congr fun i hi => by rw [if_pos hi]⟩
end Go.Proofs.Ytalalegjeegocaa
/- Inventories, part 6: the pieces that belong to a piece, both sides. -/
namespace Go.Proofs.Ytalalegjeegocaa
open Go.RowKit Go.Joins

/-- numbers as cells -/
def natV (l : List Nat) : List Value := l.map fun (i : Nat) => .int .i64 (i : Int)
theorem natV_snoc (l : List Nat) (x : Nat) : natV (l ++ [x]) = natV l ++ [.int .i64 (x : Int)] := by simp [natV]
theorem natV_len (l : List Nat) : (natV l).length = l.length := by simp [natV]
def uL (xs : List Pc) (k n : Nat) : List Nat := (List.range n).filter fun i => decide (k < i) && und xs k i
theorem uL_yes {xs : List Pc} {k n : Nat} (h : k < n) (hu : und xs k n = true) : uL xs k (n + 1) = uL xs k n ++ [n] := by
  unfold uL
  rw [List.range_succ, List.filter_append]
  congr 1
  simp [h, hu]
theorem uL_no {xs : List Pc} {k n : Nat} (hu : und xs k n = false) : uL xs k (n + 1) = uL xs k n := by
  unfold uL
  rw [List.range_succ, List.filter_append]
  simp [hu]
theorem uL_start (xs : List Pc) (k : Nat) : uL xs k (k + 1) = [] := by
  unfold uL
  rw [List.filter_eq_nil_iff]
  intro i hi
  have := List.mem_range.1 hi
  simp; omega
theorem uL_len (xs : List Pc) (k n : Nat) : (uL xs k n).length ≤ n := by
  unfold uL
  exact Nat.le_trans (List.length_filter_le _ _) (by simp)
/-- the marks in front of place m -/
def mkU (xs : List Pc) (k m : Nat) : Nat → Bool := fun j => decide (j < m) && und xs k j
theorem mkU_at {xs : List Pc} {k m j : Nat} (h : j < m) : mkU xs k m j = und xs k j := by unfold mkU; rw [decide_eq_true h, Bool.true_and]
theorem mkU_start (xs : List Pc) (k n : Nat) : tabB n (putB (fun _ => false) k true) = tabB n (mkU xs k (k + 1)) := tabB_congr fun i _ => by
  unfold putB mkU
  by_cases h : i = k
  · subst h; rw [if_pos rfl, und_self]; simp
  · rw [if_neg h]
    by_cases h2 : i < k
    · rw [und_lt xs h2]; simp
    · rw [decide_eq_false (by omega)]; rfl
theorem mkU_yes {xs : List Pc} {k n m : Nat} (hu : und xs k m = true) : tabB n (putB (mkU xs k m) m true) = tabB n (mkU xs k (m + 1)) := tabB_congr fun i _ => by
  unfold putB mkU
  by_cases h : i = m
  · subst h; rw [if_pos rfl, hu]; simp
  · rw [if_neg h]
    have : decide (i < m) = decide (i < m + 1) := by by_cases h2 : i < m <;> simp [h2] <;> omega
    rw [this]
theorem mkU_no {xs : List Pc} {k n m : Nat} (hu : und xs k m = false) : tabB n (mkU xs k m) = tabB n (mkU xs k (m + 1)) := tabB_congr fun i _ => by
  unfold mkU
  by_cases h : i = m
  · subst h; rw [hu]; simp
  · have : decide (i < m) = decide (i < m + 1) := by by_cases h2 : i < m <;> simp [h2] <;> omega
    rw [this]
/-- a row of numbers of the call's own -/
def RetUL (l : List Nat) (w : World) (e : Ending) (w' : World) : Prop := ∃ v, e = .returned v ∧ w'.ownsRow w.heap.size 2 1 v l.length (natV l) ∧ Below w.heap.size w w'
set_option maxRecDepth 100000 in
set_option maxHeartbeats 3200000 in
theorem under_any (B : Nat) (v : Value) (xs : List Pc) (k : Nat) (w : World) (h : RdP w B v xs) (hB : B ≤ w.heap.size) (hn : xs.length ≤ 40) (hs : Shp xs xs.length) (hk : k < xs.length) :
    Calls Try.prog 63 #[v, .int .i64 (k : Int)] w (RetUL (uL xs k xs.length) w) := by
  have H := Lib.hid h
  have HS := Lib.hid hs
  obtain ⟨A, c, rfl⟩ := h.slice
  clear h hs
  obtain ⟨wB, hmk, hob, hbb⟩ := mk_bools xs.length (by omega) w
  have hwB : w.heap.size < wB.heap.size := (hob.lt w.heap.size rfl).2
  obtain ⟨d0, d1⟩ := own_cellB hob k hk
  have hob3 := (hob.stored k (.bool true)).1
  rw [tabB_set, mkU_start xs] at hob3
  have hbs := hbb.setCell (p := ⟨w.heap.size, k, none⟩) (Nat.le_refl _) (.bool true)
  have hsS : (wB.setCell ⟨w.heap.size, k, none⟩ (.bool true)).heap.size = wB.heap.size := by simp [World.setCell]
  have hal := (Below.refl (wB.setCell ⟨w.heap.size, k, none⟩ (.bool true)).heap.size (wB.setCell ⟨w.heap.size, k, none⟩ (.bool true))).alloc (Nat.le_refl _) (.cells #[] 2)
  have HoB := Lib.hid (own_below hob3 hal)
  have hon := World.ownsRow_made (base := (wB.setCell ⟨w.heap.size, k, none⟩ (.bool true)).heap.size) (e := 2) (size := 1) (wB.setCell ⟨w.heap.size, k, none⟩ (.bool true)) #[] 0 (Nat.le_refl _) (by simp [maxLen]) rfl
  rw [hsS] at hon
  have HoN := Lib.hid hon
  have HbN := Lib.hid (hbs.trans (hal.mono hbs.size))
  have HsN := Lib.hid (show wB.heap.size ≤ ((wB.setCell ⟨w.heap.size, k, none⟩ (.bool true)).alloc (.cells #[] 2)).heap.size from by rw [← hsS]; exact hal.size)
  have hkl : (k : Int) < (xs.length : Int) := by omega
  clear hob hbb hob3 hbs hsS hal hon
  go_enter Try.func63, Try.ntmps63
  go_wp2_with fail
  go_loopw [6, 7] (fun r i wr => ∃ m : Nat, k + 1 ≤ m ∧ m ≤ xs.length ∧ i = .int .i64 (m : Int) ∧ wr.ownsRow w.heap.size 4 1 (.slice (some ⟨w.heap.size, 0, none⟩) xs.length xs.length) xs.length (tabB xs.length (mkU xs k m)) ∧ wr.ownsRow wB.heap.size 2 1 r (uL xs k m).length (natV (uL xs k m)) ∧ Below w.heap.size w wr ∧ wB.heap.size ≤ wr.heap.size) (fun _ i _ => xs.length - (intOf i).toNat)
  case atStart => exact ⟨k + 1, Nat.le_refl _, by omega, by first | rfl | (congr 1; omega), HoB.out, by rw [uL_start]; exact HoN.out, HbN.out, HsN.out⟩
  case round =>
    obtain ⟨m, hm1, hm2, rfl, hob, hor, hbl, hsz⟩ := hrel
    have Hsz := Lib.hid hsz
    obtain ⟨A3, c3, rfl⟩ := own_sl hor
    have Hob := Lib.hid hob
    have Hor := Lib.hid hor
    have Hbl := Lib.hid hbl
    clear HoB HoN HbN HsN hsz
    by_cases hlt : m < xs.length
    · obtain ⟨gb, ob, hA, hat⟩ := (H.out.below (hbl.mono hB)).at m hlt
      subst hA
      have q1 := hat.c1
      have hp := HS.out.par m (by omega) hlt
      have hst := und_step HS.out (k := k) (show k < m by omega) hlt
      obtain ⟨p, hpe⟩ : ∃ p : Nat, (pg xs m).par = (p : Int) := ⟨(pg xs m).par.toNat, by omega⟩
      rw [hpe] at q1 hp hst
      rw [Int.toNat_natCast] at hst
      obtain ⟨y0, y1⟩ := own_cellB hob p (by omega)
      rw [mkU_at (by omega), ← hst] at y0
      obtain ⟨z0, z1⟩ := own_cellB hob m hlt
      have hlt' : (m : Int) < (xs.length : Int) := by omega
      have hpl : (p : Int) < (xs.length : Int) := by omega
      have hll := uL_len xs k m
      clear hat hst hpe hob hor hbl
      cases hu : und xs k m with
      | false =>
        have E1 := Lib.hid (mkU_no (n := xs.length) hu)
        have E2 := Lib.hid (uL_no hu)
        rw [hu] at y0
        clear hu
        go_wp2_with fail
        go_roundw
        case rel => exact ⟨m + 1, by omega, by omega, by go_num, by rw [← E1.out]; exact Hob.out, by rw [E2.out]; exact Hor.out, Hbl.out, Hsz.out⟩
        case measure => first | (simp [intOf]; done) | (simp [intOf]; omega)
      | true =>
        have E1 := Lib.hid (mkU_yes (n := xs.length) hu)
        have E2 := Lib.hid (uL_yes (show k < m by omega) hu)
        have hob4 := (Hob.out.stored m (.bool true)).1
        rw [tabB_set, E1.out] at hob4
        have Hob4 := Lib.hid hob4
        have Hor4 := Lib.hid (ownsRow_setCell_below Hor.out (a := ⟨w.heap.size, m, none⟩) hwB (.bool true))
        have Hbl4 := Lib.hid (Hbl.out.setCell (p := ⟨w.heap.size, m, none⟩) (Nat.le_refl _) (.bool true))
        rw [hu] at y0
        clear hu hob4
        have hw5 : wB.heap.size ≤ (wr.setCell ⟨w.heap.size, m, none⟩ (.bool true)).heap.size := by have := Hsz.out; simpa [World.setCell] using this
        go_upto_region 8 with (fail)
        generalize wr.setCell ⟨w.heap.size, m, none⟩ (.bool true) = w4 at *
        have Hsn := Lib.hid (natV_snoc (uL xs k m) m)
        have hw4 := Hbl4.out.size
        clear y0 y1 z0 z1 q1
        generalize hL : uL xs k m = L at *
        go_wp2_with (at_builtin; refine wpList_apd 27 2 _ 1 8 Try.underlying27 infoD rfl (by omega) _ _ rfl rfl wB.heap.size _ L.length _ rfl Hor4.out #[.int .i64 (m : Int)] 1 1 rfl rfl (by simp [Value.oneCell']) (by simp [maxLen]; omega) (by omega) hw5 ?_; intro v8 w8 hown8 hg8; have Hb8 := Lib.hid (Hbl4.out.grown hg8 hw4 (fun x hx => by have := (Hor4.out.lt x hx).1; omega)); have Hob8 := Lib.hid (Hob4.out.kept hg8 (.inr (fun e => by have := (Hor4.out.lt w.heap.size e.symm).1; omega))); have Hs8 := Lib.hid (Nat.le_trans hw5 hg8.size); obtain ⟨A8, c8, rfl⟩ := own_sl hown8; have Hown8 := Lib.hid hown8; clear hown8 hg8)
        go_roundw
        case rel => exact ⟨m + 1, by omega, by omega, by go_num, Hob8.out, by rw [E2.out, Hsn.out, List.length_append]; exact Hown8.out, Hb8.out, Hs8.out⟩
        case measure => first | (simp [intOf]; done) | (simp [intOf]; omega)
    · obtain rfl : m = xs.length := by omega
      have hlt' : ¬ ((xs.length : Int) < (xs.length : Int)) := by omega
      have Hfin := Lib.hid (ownsRow_le Hor.out (Nat.le_of_lt hwB))
      go_wp2_with fail
      go_ret
      exact ⟨_, rfl, Hfin.out, Hbl.out⟩
end Go.Proofs.Ytalalegjeegocaa
/- Inventories, part 7: l21Under (reference) and PiecesUnder (program). -/
namespace Go.Proofs.Ytalalegjeegocaa
open Go.RowKit Go.Joins

theorem mkU_put (xs : List Pc) (k m n : Nat) : tabB n (putB (mkU xs k m) m (und xs k m)) = tabB n (mkU xs k (m + 1)) := by
  cases hu : und xs k m with
  | true => exact mkU_yes hu
  | false =>
    rw [← mkU_no hu]
    refine tabB_congr fun i _ => ?_
    unfold putB
    by_cases h : i = m
    · subst h; rw [if_pos rfl]; unfold mkU; rw [hu, Bool.and_false]
    · rw [if_neg h]
/-- a row of truth values of the call's own -/
def RetBo (n : Nat) (f : Nat → Bool) (w : World) (e : Ending) (w' : World) : Prop := ∃ cap, e = .returned (.slice (some ⟨w.heap.size, 0, none⟩) n cap) ∧ w'.ownsRow w.heap.size 4 1 (.slice (some ⟨w.heap.size, 0, none⟩) n cap) n (tabB n f) ∧ Below w.heap.size w w'
set_option maxRecDepth 100000 in
set_option maxHeartbeats 3200000 in
theorem l21Under_any (B : Nat) (v : Value) (xs : List Pc) (k : Nat) (w : World) (h : RdP w B v xs) (hB : B ≤ w.heap.size) (hn : xs.length ≤ 40) (hs : Shp xs xs.length) (hk : k < xs.length) :
    Calls Try.prog 65 #[v, .int .i64 (k : Int)] w (RetBo xs.length (und xs k) w) := by
  have H := Lib.hid h
  have HS := Lib.hid hs
  obtain ⟨A, c, rfl⟩ := h.slice
  clear h hs
  obtain ⟨wB, hmk, hob, hbb⟩ := mk_bools xs.length (by omega) w
  obtain ⟨d0, d1⟩ := own_cellB hob k hk
  have hob3 := (hob.stored k (.bool true)).1
  rw [tabB_set, mkU_start xs] at hob3
  have HoB := Lib.hid hob3
  have HbN := Lib.hid (hbb.setCell (p := ⟨w.heap.size, k, none⟩) (Nat.le_refl _) (.bool true))
  have hkl : (k : Int) < (xs.length : Int) := by omega
  clear hob hbb hob3
  go_enter Try.func65, Try.ntmps65
  go_wp2_with fail
  go_loopw [6] (fun i wr => ∃ m : Nat, k + 1 ≤ m ∧ m ≤ xs.length ∧ i = .int .i64 (m : Int) ∧ wr.ownsRow w.heap.size 4 1 (.slice (some ⟨w.heap.size, 0, none⟩) xs.length xs.length) xs.length (tabB xs.length (mkU xs k m)) ∧ Below w.heap.size w wr) (fun i _ => xs.length - (intOf i).toNat)
  case atStart => exact ⟨k + 1, Nat.le_refl _, by omega, by first | rfl | (congr 1; omega), HoB.out, HbN.out⟩
  case round =>
    obtain ⟨m, hm1, hm2, rfl, hob, hbl⟩ := hrel
    have Hbl := Lib.hid hbl
    have Hob := Lib.hid hob
    clear HoB HbN
    by_cases hlt : m < xs.length
    · obtain ⟨gb, ob, hA, hat⟩ := (H.out.below (hbl.mono hB)).at m hlt
      subst hA
      have q1 := hat.c1
      have hp := HS.out.par m (by omega) hlt
      have hst := und_step HS.out (k := k) (show k < m by omega) hlt
      obtain ⟨p, hpe⟩ : ∃ p : Nat, (pg xs m).par = (p : Int) := ⟨(pg xs m).par.toNat, by omega⟩
      rw [hpe] at q1 hp hst
      rw [Int.toNat_natCast] at hst
      obtain ⟨y0, y1⟩ := own_cellB hob p (by omega)
      rw [mkU_at (by omega), ← hst] at y0
      obtain ⟨z0, z1⟩ := own_cellB hob m hlt
      have hob4 := (hob.stored m (.bool (und xs k m))).1
      rw [tabB_set, mkU_put] at hob4
      have Hob4 := Lib.hid hob4
      have Hbl4 := Lib.hid (Hbl.out.setCell (p := ⟨w.heap.size, m, none⟩) (Nat.le_refl _) (.bool (und xs k m)))
      have hlt' : (m : Int) < (xs.length : Int) := by omega
      have hpl : (p : Int) < (xs.length : Int) := by omega
      clear hat hst hpe hob hbl hob4
      generalize und xs k m = u at *
      go_wp2_with fail
      go_roundw
      case rel => exact ⟨m + 1, by omega, by omega, by go_num, Hob4.out, Hbl4.out⟩
      case measure => first | (simp [intOf]; done) | (simp [intOf]; omega)
    · obtain rfl : m = xs.length := by omega
      have hlt' : ¬ ((xs.length : Int) < (xs.length : Int)) := by omega
      have he : tabB xs.length (mkU xs k xs.length) = tabB xs.length (und xs k) := tabB_congr fun i hi => mkU_at hi
      rw [he] at hob
      have Hfin := Lib.hid hob
      clear hob he
      go_wp2_with fail
      go_ret
      exact ⟨_, rfl, Hfin.out, Hbl.out⟩
/-- numbers and a code -/
def uC (xs : List Pc) (k : Int) : List Nat := if cdP xs k = 0 then uL xs k.toNat xs.length else []
def RetUC (xs : List Pc) (k : Int) (w : World) (e : Ending) (w' : World) : Prop := ∃ v, e = .returned (.tuple #[v, .int .i64 (cdP xs k)]) ∧ w'.ownsRow w.heap.size 2 1 v (uC xs k).length (natV (uC xs k)) ∧ Below w.heap.size w w'
theorem RetUC.bad {xs : List Pc} {k c : Int} {w w' : World} (h : cdP xs k = c) (hc : c ≠ 0) (hb : Below w.heap.size w w') : RetUC xs k w (.returned (.tuple #[.slice none 0 0, .int .i64 c])) w' := by
  have e : uC xs k = [] := by unfold uC; rw [h, if_neg hc]
  refine ⟨_, by rw [h], ?_, hb⟩
  rw [e]
  exact ⟨by simp [natV], .inl ⟨rfl, rfl⟩⟩
theorem cdP_cases (xs : List Pc) (k : Int) : cdP xs k = 0 ∨ cdP xs k = 1 ∨ cdP xs k = 2 := by
  unfold cdP
  split
  · split
    · exact .inl rfl
    · exact .inr (.inr rfl)
  · exact .inr (.inl rfl)
set_option maxRecDepth 100000 in
set_option maxHeartbeats 1600000 in
theorem PUnderI_any (B : Nat) (v : Value) (xs : List Pc) (k : Int) (w : World) (h : RdP w B v xs) (hB : B ≤ w.heap.size) (hn : xs.length ≤ 100000) (hz : szP xs) :
    Calls Try.prog 30 #[v, .int .i64 k] w (RetUC xs k w) := by
  have HC := Lib.hid (codeI_any B v xs k w h hB hn hz)
  have H := Lib.hid h
  obtain ⟨A, c, rfl⟩ := h.slice
  clear h hz
  by_cases h0 : cdP xs k = 0
  · obtain ⟨hok, j, rfl, hj⟩ := cdP_ok h0
    obtain ⟨⟨_, hl40⟩, _, hsh, _⟩ := okP_ok hok
    have HU := Lib.hid (fun wx hx hz => under_any B (.slice A xs.length c) xs j wx hx hz hl40 hsh hj)
    have Hfin := Lib.hid (fun v w' (ho : w'.ownsRow w.heap.size 2 1 v (uL xs j xs.length).length (natV (uL xs j xs.length))) (hb : Below w.heap.size w w') => (show RetUC xs (j : Int) w (.returned (.tuple #[v, .int .i64 0])) w' from by
      have e : uC xs (j : Int) = uL xs j xs.length := by unfold uC; rw [if_pos h0, Int.toNat_natCast]
      exact ⟨v, by rw [h0], by rw [e]; exact ho, hb⟩))
    unfold RetUL at HU
    rw [h0] at HC
    clear h0 hok hsh
    go_enter Try.func30, Try.ntmps30
    go_wp2_with fail
    refine (HC.out).mono ?_; rintro e w2 ⟨rfl, hb2⟩
    have Hb2 := Lib.hid hb2
    have HU2 := Lib.hid (HU.out w2 (H.out.below (hb2.mono hB)) (Nat.le_trans hB hb2.size))
    clear hb2 HU
    go_wp2_with fail
    refine (HU2.out).mono ?_; rintro e w3 ⟨v3, rfl, ho3, hb3⟩
    have Hz := Lib.hid (Hfin.out v3 w3 (ownsRow_le ho3 Hb2.out.size) (Hb2.out.trans (hb3.mono Hb2.out.size)))
    obtain ⟨A3, c3, rfl⟩ := own_sl ho3
    clear ho3 hb3
    go_wp2_with fail
    go_ret2
    exact Hz.out
  · obtain ⟨c1, hc1⟩ : ∃ z, cdP xs k = z := ⟨_, rfl⟩
    rw [hc1] at HC h0
    have HE := Lib.hid (fun w' hb => RetUC.bad (w := w) (w' := w') hc1 h0 hb)
    have hcb : (c1 == 0) = false := by simp [h0]
    have hcb2 : (c1 != 0) = true := by simp [h0]
    clear hc1
    go_enter Try.func30, Try.ntmps30
    go_wp2_with fail
    refine (HC.out).mono ?_; rintro e w2 ⟨rfl, hb2⟩
    have Hz := Lib.hid (HE.out w2 hb2)
    clear hb2
    go_wp2_with fail
    go_ret2
    exact Hz.out
end Go.Proofs.Ytalalegjeegocaa
/- Inventories, part 8: codes of a stock (gen_pc8.py). -/
namespace Go.Proofs.Ytalalegjeegocaa
open Go.RowKit Go.Joins

def stkB (n : Nat) (f : Nat → Int) : Bool := allN n (fun i => inB (f i) 0 1000000000000)
def stC (xs : List Pc) (n : Nat) (f : Nat → Int) : Int := if okP xs then (if stkB n f then (if n = xs.length then 0 else 6) else 2) else 1
theorem stC_bad {xs : List Pc} {n : Nat} {f : Nat → Int} (h : okP xs = false) : stC xs n f = 1 := by unfold stC; rw [h]; rfl
theorem stC_rng {xs : List Pc} {n : Nat} {f : Nat → Int} (h : okP xs = true) (h2 : stkB n f = false) : stC xs n f = 2 := by unfold stC; rw [h, h2]; rfl
theorem stC_len {xs : List Pc} {n : Nat} {f : Nat → Int} (h : okP xs = true) (h2 : stkB n f = true) (h3 : n ≠ xs.length) : stC xs n f = 6 := by unfold stC; rw [h, h2, if_pos rfl, if_pos rfl, if_neg h3]
theorem stC_yes {xs : List Pc} {n : Nat} {f : Nat → Int} (h : okP xs = true) (h2 : stkB n f = true) (h3 : n = xs.length) : stC xs n f = 0 := by unfold stC; rw [h, h2, if_pos rfl, if_pos rfl, if_pos h3]
theorem stC_ok {xs : List Pc} {n : Nat} {f : Nat → Int} (h : stC xs n f = 0) : okP xs = true ∧ n = xs.length ∧ ∀ i, i < n → 0 ≤ f i ∧ f i ≤ 1000000000000 := by
  cases h1 : okP xs with
  | false => rw [stC_bad h1] at h; cases h
  | true =>
    cases h2 : stkB n f with
    | false => rw [stC_rng h1 h2] at h; cases h
    | true =>
      by_cases h3 : n = xs.length
      · exact ⟨rfl, h3, fun i hi => inB_iff.1 (allN_get h2 hi)⟩
      · rw [stC_len h1 h2 h3] at h; cases h
theorem stC_cases (xs : List Pc) (n : Nat) (f : Nat → Int) : stC xs n f = 0 ∨ stC xs n f = 1 ∨ stC xs n f = 2 ∨ stC xs n f = 6 := by
  unfold stC
  split
  · split
    · split
      · exact .inl rfl
      · exact .inr (.inr (.inr rfl))
    · exact .inr (.inr (.inl rfl))
  · exact .inr (.inl rfl)
theorem RdF_below {w w' : World} {B : Nat} {v : Value} {n : Nat} {f : Nat → Int} (h : Rd w B v n 1 (tab n f)) (hb : Below B w w') : Rd w' B v n 1 (tab n f) := Rd.below h hb
set_option maxRecDepth 100000 in
set_option maxHeartbeats 1600000 in
theorem stkI_any (B : Nat) (v vs : Value) (xs : List Pc) (n : Nat) (f : Nat → Int) (w : World) (h : RdP w B v xs) (hst : Rd w B vs n 1 (tab n f)) (hB : B ≤ w.heap.size) (hn : xs.length ≤ 100000) (hn2 : n ≤ 1000) (hz : szP xs) :
    Calls Try.prog 55 #[v, vs] w fun e w' => e = .returned (.int .i64 (stC xs n f)) ∧ Below w.heap.size w w' := by
  have HV := Lib.hid (ValidPI_any B v xs w h hB hn hz)
  have HS := Lib.hid hst
  obtain ⟨A, c, rfl⟩ := h.slice
  obtain ⟨A2, c2, rfl⟩ := rd_sl hst
  clear h hz hst
  cases h1 : okP xs with
  | false =>
    have Hr := Lib.hid (stC_bad (n := n) (f := f) h1)
    rw [h1] at HV
    clear h1
    go_enter Try.func55, Try.ntmps55
    go_wp2_with fail
    refine (HV.out).mono ?_; rintro e w2 ⟨rfl, hb2⟩
    have Hb := Lib.hid hb2
    clear hb2
    go_wp2_with fail
    go_ret
    exact ⟨ret_int Hr.out.symm, Hb.out⟩
  | true =>
    rw [h1] at HV
    have H1 := Lib.hid h1
    clear h1
    go_enter Try.func55, Try.ntmps55
    go_wp2_with fail
    refine (HV.out).mono ?_; rintro e w2 ⟨rfl, hb2⟩
    have Hb := Lib.hid hb2
    have HS2 := Lib.hid (RdF_below HS.out (hb2.mono hB))
    clear hb2
    go_wp2_with fail
    go_loop [12] (fun i => ∃ k : Nat, k ≤ n ∧ i = .int .i64 (k : Int) ∧ allN k (fun i => inB (f i) 0 1000000000000) = true) (fun i => n - (intOf i).toNat)
    case atStart => exact ⟨0, Nat.zero_le _, rfl, rfl⟩
    case round =>
      obtain ⟨k, hk, rfl, hall⟩ := hrel
      have Hall := Lib.hid hall
      clear hall
      by_cases hlt : k < n
      · obtain ⟨b1, o1, hA, _, hcc⟩ := rdF_all HS2.out (show 0 < n by omega)
        subst hA
        have q0 := hcc k hlt
        have hlt' : (k : Int) < (n : Int) := by omega
        have HX := Lib.hid (fun wx => between_any (f k) 0 1000000000000 wx)
        clear hcc
        cases hb : inB (f k) 0 1000000000000 with
        | false =>
          have Hr := Lib.hid (stC_rng H1.out (allN_bad k hlt hb))
          rw [hb] at HX
          clear hb
          generalize f k = x at *
          go_wp2_with fail
          refine (HX.out _).mono ?_; rintro e w1 ⟨rfl, rfl⟩
          go_wp2_with fail
          go_ret
          exact ⟨ret_int Hr.out.symm, Hb.out⟩
        | true =>
          have Hst := Lib.hid (allN_step Hall.out hb)
          rw [hb] at HX
          clear hb
          generalize f k = x at *
          go_wp2_with fail
          refine (HX.out _).mono ?_; rintro e w1 ⟨rfl, rfl⟩
          go_wp2_with fail
          go_round
          case rel => exact ⟨k + 1, by omega, by go_num, Hst.out⟩
          case measure => first | (simp [intOf]; done) | (simp [intOf]; omega)
      · obtain rfl : k = n := by omega
        have hlt' : ¬ ((k : Int) < (k : Int)) := by omega
        by_cases h3 : k = xs.length
        · have Hr := Lib.hid (stC_yes H1.out Hall.out h3)
          have h3' : (k : Int) = (xs.length : Int) := by omega
          clear h3
          go_wp2_with fail
          go_ret
          exact ⟨ret_int Hr.out.symm, Hb.out⟩
        · have Hr := Lib.hid (stC_len H1.out Hall.out h3)
          have h3' : ¬ ((k : Int) = (xs.length : Int)) := by omega
          clear h3
          go_wp2_with fail
          go_ret
          exact ⟨ret_int Hr.out.symm, Hb.out⟩
set_option maxRecDepth 100000 in
set_option maxHeartbeats 1600000 in
theorem stkS_any (B : Nat) (v vs : Value) (xs : List Pc) (n : Nat) (f : Nat → Int) (w : World) (h : RdP w B v xs) (hst : Rd w B vs n 1 (tab n f)) (hB : B ≤ w.heap.size) (hn : xs.length ≤ 100000) (hn2 : n ≤ 1000) (hz : szP xs) :
    Calls Try.prog 57 #[v, vs] w fun e w' => e = .returned (.int .i64 (stC xs n f)) ∧ Below w.heap.size w w' := by
  have HV := Lib.hid (ValidPS_any B v xs w h hB hn hz)
  have HS := Lib.hid hst
  obtain ⟨A, c, rfl⟩ := h.slice
  obtain ⟨A2, c2, rfl⟩ := rd_sl hst
  clear h hz hst
  cases h1 : okP xs with
  | false =>
    have Hr := Lib.hid (stC_bad (n := n) (f := f) h1)
    rw [h1] at HV
    clear h1
    go_enter Try.func57, Try.ntmps57
    go_wp2_with fail
    refine (HV.out).mono ?_; rintro e w2 ⟨rfl, hb2⟩
    have Hb := Lib.hid hb2
    clear hb2
    go_wp2_with fail
    go_ret
    exact ⟨ret_int Hr.out.symm, Hb.out⟩
  | true =>
    rw [h1] at HV
    have H1 := Lib.hid h1
    clear h1
    go_enter Try.func57, Try.ntmps57
    go_wp2_with fail
    refine (HV.out).mono ?_; rintro e w2 ⟨rfl, hb2⟩
    have Hb := Lib.hid hb2
    have HS2 := Lib.hid (RdF_below HS.out (hb2.mono hB))
    clear hb2
    go_wp2_with fail
    go_loop [5] (fun i => ∃ k : Nat, k ≤ n ∧ i = .int .i64 (k : Int) ∧ allN k (fun i => inB (f i) 0 1000000000000) = true) (fun i => n - (intOf i).toNat)
    case atStart => exact ⟨0, Nat.zero_le _, rfl, rfl⟩
    case round =>
      obtain ⟨k, hk, rfl, hall⟩ := hrel
      have Hall := Lib.hid hall
      clear hall
      by_cases hlt : k < n
      · obtain ⟨b1, o1, hA, _, hcc⟩ := rdF_all HS2.out (show 0 < n by omega)
        subst hA
        have q0 := hcc k hlt
        have hlt' : (k : Int) < (n : Int) := by omega
        have HX := Lib.hid (fun wx => l00In_any (f k) 0 1000000000000 wx)
        clear hcc
        cases hb : inB (f k) 0 1000000000000 with
        | false =>
          have Hr := Lib.hid (stC_rng H1.out (allN_bad k hlt hb))
          rw [hb] at HX
          clear hb
          generalize f k = x at *
          go_wp2_with fail
          refine (HX.out _).mono ?_; rintro e w1 ⟨rfl, rfl⟩
          go_wp2_with fail
          go_ret
          exact ⟨ret_int Hr.out.symm, Hb.out⟩
        | true =>
          have Hst := Lib.hid (allN_step Hall.out hb)
          rw [hb] at HX
          clear hb
          generalize f k = x at *
          go_wp2_with fail
          refine (HX.out _).mono ?_; rintro e w1 ⟨rfl, rfl⟩
          go_wp2_with fail
          go_round
          case rel => exact ⟨k + 1, by omega, by go_num, Hst.out⟩
          case measure => first | (simp [intOf]; done) | (simp [intOf]; omega)
      · obtain rfl : k = n := by omega
        have hlt' : ¬ ((k : Int) < (k : Int)) := by omega
        by_cases h3 : k = xs.length
        · have Hr := Lib.hid (stC_yes H1.out Hall.out h3)
          have h3' : (k : Int) = (xs.length : Int) := by omega
          clear h3
          go_wp2_with fail
          go_ret
          exact ⟨ret_int Hr.out.symm, Hb.out⟩
        · have Hr := Lib.hid (stC_len H1.out Hall.out h3)
          have h3' : ¬ ((k : Int) = (xs.length : Int)) := by omega
          clear h3
          go_wp2_with fail
          go_ret
          exact ⟨ret_int Hr.out.symm, Hb.out⟩
end Go.Proofs.Ytalalegjeegocaa
/- Inventories, part 9: what is missing for some machines, both sides (gen_pc9.py). -/
namespace Go.Proofs.Ytalalegjeegocaa
open Go.RowKit Go.Joins

def needS (xs : List Pc) (mm : Int) (T : Nat → Int) (k : Nat) : Int := if k = 0 then mm * (pg xs 0).each else (pg xs k).each * T (pg xs k).par.toNat
def msS (xs : List Pc) (st : Nat → Int) (mm : Int) (T : Nat → Int) (k : Nat) : Int := max 0 (needS xs mm T k - st k)
def ms (xs : List Pc) (st : Nat → Int) (mm : Int) : Nat → Int := tv 0 (msS xs st mm)
def need (xs : List Pc) (st : Nat → Int) (mm : Int) (k : Nat) : Int := needS xs mm (ms xs st mm) k
theorem ms_eq {xs : List Pc} {n : Nat} (hs : Shp xs n) (st : Nat → Int) (mm : Int) {k : Nat} (hk : k < n) : ms xs st mm k = max 0 (need xs st mm k - st k) := by
  unfold ms need
  rw [tv_eq]
  show max 0 (needS xs mm (fun i => if i < k then tv 0 (msS xs st mm) i else 0) k - st k) = _
  unfold needS
  by_cases h0 : k = 0
  · rw [if_pos h0, if_pos h0]
  · have hp := hs.par k (by omega) hk
    rw [if_neg h0, if_neg h0]
    show max 0 ((pg xs k).each * (if (pg xs k).par.toNat < k then tv 0 (msS xs st mm) (pg xs k).par.toNat else 0) - st k) = _
    rw [if_pos (by omega)]
    rfl
theorem ms_bd {xs : List Pc} {n : Nat} (hs : Shp xs n) {st : Nat → Int} {M : Nat} (hst : ∀ i, i < n → 0 ≤ st i) : ∀ k, k < n → 0 ≤ ms xs st (M : Int) k ∧ ms xs st (M : Int) k ≤ ((M * tot xs k : Nat) : Int) ∧ 0 ≤ need xs st (M : Int) k ∧ need xs st (M : Int) k ≤ ((M * tot xs k : Nat) : Int) := by
  intro k
  induction k using Nat.strongRecOn with
  | ind k ih =>
    intro hk
    have he := hs.each k hk
    have hq := hst k hk
    have hnd : 0 ≤ need xs st (M : Int) k ∧ need xs st (M : Int) k ≤ ((M * tot xs k : Nat) : Int) := by
      unfold need needS
      by_cases h0 : k = 0
      · subst h0
        rw [if_pos rfl, tot_zero hs hk]
        have e : (M : Int) * (pg xs 0).each = ((M * (pg xs 0).each.toNat : Nat) : Int) := by rw [Int.natCast_mul]; congr 1; omega
        rw [e]
        omega
      · have hp := hs.par k (by omega) hk
        have hi := ih (pg xs k).par.toNat (by omega) (by omega)
        rw [if_neg h0, tot_step hs (by omega) hk]
        obtain ⟨y, hy⟩ : ∃ y : Nat, ms xs st (M : Int) (pg xs k).par.toNat = (y : Int) := ⟨(ms xs st (M : Int) (pg xs k).par.toNat).toNat, by omega⟩
        rw [hy] at hi ⊢
        have e : (pg xs k).each * (y : Int) = (((pg xs k).each.toNat * y : Nat) : Int) := by rw [Int.natCast_mul]; congr 1; omega
        rw [e]
        have := Nat.mul_le_mul_left (pg xs k).each.toNat (show y ≤ M * tot xs (pg xs k).par.toNat by omega)
        have e2 : M * ((pg xs k).each.toNat * tot xs (pg xs k).par.toNat) = (pg xs k).each.toNat * (M * tot xs (pg xs k).par.toNat) := by rw [Nat.mul_left_comm]
        rw [e2]
        omega
    rw [ms_eq hs st _ hk]
    omega
theorem ms_big {xs : List Pc} {n M : Nat} (hs : Shp xs n) {st : Nat → Int} (hst : ∀ i, i < n → 0 ≤ st i) (ht : ∀ i, i < n → tot xs i ≤ 1000000) (hM : M ≤ 1000000) {k : Nat} (hk : k < n) :
    (0 ≤ ms xs st (M : Int) k ∧ ms xs st (M : Int) k ≤ 1000000000000) ∧ 0 ≤ need xs st (M : Int) k ∧ need xs st (M : Int) k ≤ 1000000000000 := by
  have h := ms_bd hs (M := M) hst k hk
  have := Nat.mul_le_mul hM (ht k hk)
  omega
theorem tab_sn (n : Nat) (F : Nat → Int) : tab n F ++ (#[Value.int .i64 (F n)] : Array Value).toList = tab (n + 1) F := (tab_succ n F).symm
theorem own_cellsI {w : World} {base n c : Nat} {A : Option Addr} {f : Nat → Int} (h : w.ownsRow base 2 1 (.slice A n c) n (tab n f)) (hn : 0 < n) :
    ∃ b, A = some ⟨b, 0, none⟩ ∧ base ≤ b ∧ b < w.heap.size ∧ ∀ j, j < n → w.cell? ⟨b, j, none⟩ = some (.int .i64 (f j)) := by
  obtain ⟨b, cap, hv, _⟩ := own_posC h hn
  injection hv with hA
  subst hA
  have hl := h.lt b rfl
  obtain ⟨bb, oo, hA2, _, hc⟩ := rdF_all (Rd.of_own h) hn
  injection hA2 with hA2
  injection hA2 with e1 e2
  subst e1
  subst e2
  exact ⟨b, rfl, hl.1, hl.2, fun j hj => by have := hc j hj; rwa [Nat.zero_add] at this⟩
/-- a row of numbers of the call's own -/
def RetTb (n : Nat) (f : Nat → Int) (w : World) (e : Ending) (w' : World) : Prop := ∃ v, e = .returned v ∧ w'.ownsRow w.heap.size 2 1 v n (tab n f) ∧ Below w.heap.size w w'
set_option maxRecDepth 100000 in
set_option maxHeartbeats 3200000 in
theorem msS_any (B : Nat) (v vs : Value) (xs : List Pc) (st : Nat → Int) (mm : Nat) (w : World) (h : RdP w B v xs) (hst : Rd w B vs xs.length 1 (tab xs.length st)) (hB : B ≤ w.heap.size) (hs : Shp xs xs.length) (hn : xs.length ≤ 40) (h1 : 1 ≤ xs.length)
    (ht : ∀ i, i < xs.length → tot xs i ≤ 1000000) (hq : ∀ i, i < xs.length → 0 ≤ st i ∧ st i ≤ 1000000000000) (hm : mm ≤ 1000000) :
    Calls Try.prog 59 #[v, vs, .int .i64 (mm : Int)] w (RetTb xs.length (ms xs st (mm : Int)) w) := by
  have H := Lib.hid h
  have HS := Lib.hid hs
  have HT := Lib.hid ht
  have HQ := Lib.hid hq
  have HR := Lib.hid hst
  obtain ⟨A, c, rfl⟩ := h.slice
  obtain ⟨A2, c2, rfl⟩ := rd_sl hst
  have hon := Lib.hid (World.ownsRow_made (base := w.heap.size) (e := 2) (size := 1) w #[] 0 (Nat.le_refl _) (by simp [maxLen]) rfl)
  have hal := Lib.hid ((Below.refl w.heap.size w).alloc (Nat.le_refl _) (.cells #[] 2))
  clear h hs ht hq hst
  go_enter Try.func59, Try.ntmps59
  go_wp2_with fail
  go_loopw [7, 8] (fun r i wr => ∃ k : Nat, k ≤ xs.length ∧ i = .int .i64 (k : Int) ∧ wr.ownsRow w.heap.size 2 1 r k (tab k (ms xs st (mm : Int))) ∧ Below w.heap.size w wr) (fun _ i _ => xs.length - (intOf i).toNat)
  case atStart => exact ⟨0, by omega, rfl, hon.out, hal.out⟩
  case round =>
    obtain ⟨k, hk, rfl, hown, hbl⟩ := hrel
    have Hbl := Lib.hid hbl
    obtain ⟨A3, c3, rfl⟩ := own_sl hown
    have Hown := Lib.hid hown
    clear hon hal hown hbl
    by_cases hlt : k < xs.length
    · have hlt' : (k : Int) < (xs.length : Int) := by omega
      have h0l : (0 : Int) < (xs.length : Int) := by omega
      have HX := Lib.hid (H.out.below (Hbl.out.mono hB))
      obtain ⟨gb, ob, hA, hat0⟩ := HX.out.at 0 (by omega)
      subst hA
      obtain ⟨gb', ob', hA', hat⟩ := HX.out.at k hlt
      injection hA' with hA'
      injection hA' with e1 e2
      subst e1 e2
      have z2 := hat0.c2
      have q1 := hat.c1
      have q2 := hat.c2
      obtain ⟨b1, o1, hA2, _, hcc⟩ := rdF_all (RdF_below HR.out (Hbl.out.mono hB)) (show 0 < xs.length by omega)
      subst hA2
      have s0 := hcc k hlt
      have hbd := ms_big HS.out (fun i hi => (HQ.out i hi).1) HT.out hm hlt
      have hsq := HQ.out k hlt
      have Hme := Lib.hid (ms_eq HS.out st (mm : Int) hlt)
      have HAp := Lib.hid (tab_sn k (ms xs st (mm : Int)))
      have he0 := HS.out.each 0 (by omega)
      have he := HS.out.each k hlt
      by_cases h0 : k = 0
      · have hne : need xs st (mm : Int) k = (mm : Int) * (pg xs 0).each := by unfold need needS; rw [if_pos h0]
        have hb0 := ms_big HS.out (fun i hi => (HQ.out i hi).1) HT.out hm hlt
        have HMx := Lib.hid (fun wx => l00Max_c 0 (need xs st (mm : Int) k - st k) wx)
        rw [← Hme.out] at HMx
        obtain ⟨y, hy⟩ : ∃ y, ms xs st (mm : Int) k = y := ⟨_, rfl⟩
        rw [hy] at HMx HAp
        have hw1 : IntKind.i64.wrap ((mm : Int) * (pg xs 0).each) = need xs st (mm : Int) k := by rw [← hne]; exact IntWalk.i64_in _ (by omega)
        have hw2 : IntKind.i64.wrap (need xs st (mm : Int) k - st k) = need xs st (mm : Int) k - st k := IntWalk.i64_in _ (by omega)
        have h0k : ¬ ((0 : Int) < (k : Int)) := by omega
        clear hcc hat hat0 h0 hne Hme hbd hy
        generalize need xs st (mm : Int) k = nd at *
        generalize st k = sk at *
        generalize (pg xs 0).each = e0 at *
        go_wp2_with fail
        refine (HMx.out _).mono ?_; rintro e w1 ⟨rfl, rfl⟩
        go_wp2_with (at_builtin; refine wpList_apd 27 2 _ 1 8 Try.underlying27 infoD rfl (by omega) _ _ rfl rfl w.heap.size _ k _ rfl Hown.out #[.int .i64 y] 1 1 rfl rfl (by simp [Value.oneCell']) (by simp [maxLen]; omega) (by omega) Hbl.out.size ?_; intro v7 w7 hown7 hg7; have Hb7 := Lib.hid (below_apd Hbl.out Hown.out hg7 (Nat.le_refl _) Hbl.out.size); obtain ⟨A7, c7, rfl⟩ := own_sl hown7; have Hown7 := Lib.hid (show w7.ownsRow w.heap.size 2 1 (.slice A7 (k + 1) c7) (k + 1) (tab (k + 1) (ms xs st (mm : Int))) by rw [← HAp.out]; exact hown7); clear hown7 hg7)
        go_roundw
        case rel => exact ⟨k + 1, by omega, by go_num, Hown7.out, Hb7.out⟩
        case measure => first | (simp [intOf]; done) | (simp [intOf]; omega)
      · have hp := HS.out.par k (by omega) hlt
        obtain ⟨p, hpe⟩ : ∃ p : Nat, (pg xs k).par = (p : Int) := ⟨(pg xs k).par.toNat, by omega⟩
        have hne : need xs st (mm : Int) k = (pg xs k).each * ms xs st (mm : Int) p := by unfold need needS; rw [if_neg h0, hpe, Int.toNat_natCast]
        rw [hpe] at hp q1
        obtain ⟨g3, hA3, _, _, hc3⟩ := own_cellsI Hown.out (show 0 < k by omega)
        subst hA3
        have y0 := hc3 p (by omega)
        have hpk : (p : Int) < (k : Int) := by omega
        have h0k : (0 : Int) < (k : Int) := by omega
        have hb0 := ms_big HS.out (fun i hi => (HQ.out i hi).1) HT.out hm (show 0 < xs.length by omega)
        have hne0 : need xs st (mm : Int) 0 = (mm : Int) * (pg xs 0).each := by unfold need needS; rw [if_pos rfl]
        have HMx := Lib.hid (fun wx => l00Max_c 0 (need xs st (mm : Int) k - st k) wx)
        rw [← Hme.out] at HMx
        obtain ⟨y, hy⟩ : ∃ y, ms xs st (mm : Int) k = y := ⟨_, rfl⟩
        rw [hy] at HMx HAp
        have hw1 : IntKind.i64.wrap ((pg xs k).each * ms xs st (mm : Int) p) = need xs st (mm : Int) k := by rw [← hne]; exact IntWalk.i64_in _ (by omega)
        have hw2 : IntKind.i64.wrap (need xs st (mm : Int) k - st k) = need xs st (mm : Int) k - st k := IntWalk.i64_in _ (by omega)
        have hw0 : IntKind.i64.wrap ((mm : Int) * (pg xs 0).each) = (mm : Int) * (pg xs 0).each := by rw [← hne0]; exact IntWalk.i64_in _ (by omega)
        obtain ⟨wz, hwz⟩ : ∃ z, z = wr := ⟨_, rfl⟩
        clear hcc hat hat0 hne hne0 Hme hbd hy hb0 hpe hc3
        generalize need xs st (mm : Int) k = nd at *
        generalize st k = sk at *
        generalize hE0 : (mm : Int) * (pg xs 0).each = n0 at *
        generalize (pg xs 0).each = e0 at *
        generalize (pg xs k).each = ek at *
        generalize hM1 : ms xs st (mm : Int) p = mp at *
        clear hE0 hM1
        go_upto_region 7 with (fail)
        go_quiet (fail)
        have Hbl := Lib.hid (below_drewN Hbl.out nq)
        have Hown := Lib.hid (World.ownsRow.drewN Hown.out nq)
        go_wp2_with fail
        refine (HMx.out _).mono ?_; rintro e w1 ⟨rfl, rfl⟩
        go_wp2_with (at_builtin; refine wpList_apd 27 2 _ 1 8 Try.underlying27 infoD rfl (by omega) _ _ rfl rfl w.heap.size _ k _ rfl Hown.out #[.int .i64 y] 1 1 rfl rfl (by simp [Value.oneCell']) (by simp [maxLen]; omega) (by omega) Hbl.out.size ?_; intro v7 w7 hown7 hg7; have Hb7 := Lib.hid (below_apd Hbl.out Hown.out hg7 (Nat.le_refl _) Hbl.out.size); obtain ⟨A7, c7, rfl⟩ := own_sl hown7; have Hown7 := Lib.hid (show w7.ownsRow w.heap.size 2 1 (.slice A7 (k + 1) c7) (k + 1) (tab (k + 1) (ms xs st (mm : Int))) by rw [← HAp.out]; exact hown7); clear hown7 hg7)
        go_roundw
        case rel => exact ⟨k + 1, by omega, by go_num, Hown7.out, Hb7.out⟩
        case measure => first | (simp [intOf]; done) | (simp [intOf]; omega)
    · obtain rfl : k = xs.length := by omega
      have hlt' : ¬ ((xs.length : Int) < (xs.length : Int)) := by omega
      go_wp2_with fail
      go_ret
      exact ⟨_, rfl, Hown.out, Hbl.out⟩
end Go.Proofs.Ytalalegjeegocaa
/- Jobs, part 5: the earliest days, in plain words. -/
namespace Go.Proofs.Ytalalegjeegocaa
open Go.RowKit Go.Joins

theorem sumD_mono {xs : List Jb} (h : OkJ xs) {i : Nat} : ∀ {j}, i ≤ j → j ≤ xs.length → sumD xs i ≤ sumD xs j
  | 0, hi, _ => by obtain rfl : i = 0 := by omega
                   exact Int.le_refl _
  | j + 1, hi, hj => by
    by_cases e : i = j + 1
    · subst e; exact Int.le_refl _
    · have h1 := sumD_mono h (i := i) (j := j) (by omega) (by omega)
      have h2 := h.days j (by omega)
      show _ ≤ sumD xs j + (jg xs j).days
      omega
theorem sumD_lt {xs : List Jb} (h : OkJ xs) {n k : Nat} (hn : n < k) (hk : k ≤ xs.length) : sumD xs n + (jg xs n).days ≤ sumD xs k := sumD_mono h (i := n + 1) (j := k) hn hk
/-- the greatest end among the first i needs -/
def erP (xs : List Jb) (e : Nat → Int) (nd : List Int) : Nat → Int
  | 0 => 0
  | i + 1 => max (erP xs e nd i) (e (nd.getD i 0).toNat + (jg xs (nd.getD i 0).toNat).days)
def erl (xs : List Jb) : Nat → Int := tv 0 (fun e k => erP xs e (jg xs k).needs (jg xs k).needs.length)
def allD (xs : List Jb) : Nat → Int
  | 0 => 0
  | k + 1 => max (allD xs k) (erl xs k + (jg xs k).days)
theorem nd_at {xs : List Jb} (h : OkJ xs) {k i : Nat} (hk : k < xs.length) (hi : i < (jg xs k).needs.length) : ∃ p : Nat, p < k ∧ (jg xs k).needs.getD i 0 = (p : Int) ∧ (jg xs k).needs[i] = (p : Int) := by
  have := h.need k hk _ (List.getElem_mem hi)
  exact ⟨((jg xs k).needs[i]).toNat, by omega, by rw [getD_getI hi]; omega, by omega⟩
theorem erP_congr {xs : List Jb} {e e' : Nat → Int} {nd : List Int} : ∀ i, i ≤ nd.length → (∀ j, j < nd.length → e (nd.getD j 0).toNat = e' (nd.getD j 0).toNat) → erP xs e nd i = erP xs e' nd i
  | 0, _, _ => rfl
  | i + 1, hi, h => by
    show max (erP xs e nd i) _ = max (erP xs e' nd i) _
    rw [erP_congr i (by omega) h, h i (by omega)]
theorem erl_eq {xs : List Jb} (h : OkJ xs) {k : Nat} (hk : k < xs.length) : erl xs k = erP xs (erl xs) (jg xs k).needs (jg xs k).needs.length := by
  unfold erl
  rw [tv_eq]
  refine erP_congr _ (Nat.le_refl _) fun j hj => ?_
  obtain ⟨p, hp, he, _⟩ := nd_at h hk hj
  show (if ((jg xs k).needs.getD j 0).toNat < k then _ else _) = _
  rw [he, if_pos (by omega)]
theorem erP_bd {xs : List Jb} {e : Nat → Int} {nd : List Int} {M : Int} (h0 : 0 ≤ M) (h : ∀ j, j < nd.length → e (nd.getD j 0).toNat + (jg xs (nd.getD j 0).toNat).days ≤ M) : ∀ i, i ≤ nd.length → 0 ≤ erP xs e nd i ∧ erP xs e nd i ≤ M
  | 0, _ => ⟨Int.le_refl _, h0⟩
  | i + 1, hi => by
    have h1 := erP_bd h0 h i (by omega)
    have h2 := h i (by omega)
    show 0 ≤ max _ _ ∧ max _ _ ≤ M
    omega
theorem erP_ge {xs : List Jb} {e : Nat → Int} {nd : List Int} : ∀ {j i : Nat}, i < j → e (nd.getD i 0).toNat + (jg xs (nd.getD i 0).toNat).days ≤ erP xs e nd j
  | 0, i, h => by omega
  | j + 1, i, h => by
    show _ ≤ max _ _
    by_cases e : i = j
    · subst e; omega
    · have := erP_ge (xs := xs) (e := ‹Nat → Int›) (nd := nd) (j := j) (i := i) (by omega)
      omega
theorem erl_bd {xs : List Jb} (h : OkJ xs) : ∀ k, k < xs.length → 0 ≤ erl xs k ∧ erl xs k ≤ sumD xs k := by
  intro k
  induction k using Nat.strongRecOn with
  | ind k ih =>
    intro hk
    rw [erl_eq h hk]
    refine erP_bd ?_ (fun j hj => ?_) _ (Nat.le_refl _)
    · have := sumD_bd h k (by omega)
      omega
    · obtain ⟨p, hp, he, _⟩ := nd_at h hk hj
      rw [he, Int.toNat_natCast]
      have h1 := ih p hp (by omega)
      have h2 := sumD_lt h hp (by omega)
      omega
/-- the same of the first i needs -/
theorem erP_bdk {xs : List Jb} (h : OkJ xs) {k : Nat} (hk : k < xs.length) (i : Nat) (hi : i ≤ (jg xs k).needs.length) : 0 ≤ erP xs (erl xs) (jg xs k).needs i ∧ erP xs (erl xs) (jg xs k).needs i ≤ 400 := by
  have hs := sumD_mono h (i := k) (j := xs.length) (by omega) (Nat.le_refl _)
  have h4 := h.sum
  refine erP_bd (by omega) (fun j hj => ?_) _ hi
  obtain ⟨p, hp, he, _⟩ := nd_at h hk hj
  rw [he, Int.toNat_natCast]
  have h1 := erl_bd h p (by omega)
  have h2 := sumD_lt h hp (by omega)
  omega
theorem allD_bd {xs : List Jb} (h : OkJ xs) : ∀ k, k ≤ xs.length → 0 ≤ allD xs k ∧ allD xs k ≤ sumD xs k
  | 0, _ => ⟨Int.le_refl _, Int.le_refl _⟩
  | k + 1, hk => by
    have h1 := allD_bd h k (by omega)
    have h2 := erl_bd h k (by omega)
    have h3 := h.days k (by omega)
    show 0 ≤ max (allD xs k) (erl xs k + (jg xs k).days) ∧ max (allD xs k) (erl xs k + (jg xs k).days) ≤ sumD xs k + (jg xs k).days
    omega
theorem allD_ge {xs : List Jb} : ∀ {k i : Nat}, i < k → erl xs i + (jg xs i).days ≤ allD xs k
  | 0, i, h => by omega
  | k + 1, i, h => by
    show _ ≤ max _ _
    by_cases e : i = k
    · subst e; omega
    · have := allD_ge (xs := xs) (k := k) (i := i) (by omega)
      omega
end Go.Proofs.Ytalalegjeegocaa
