/- Merged texts: Jb6, Pc10, Pc11, Pc12, Pc13, Pc14, Pc15, Pc16, Pc17, Pc18, Pc19, Pc20, Pc21. -/
import Derived.Test.YtalalegjeegocaaGLawPlans3
/- Jobs, part 6: the earliest days, both sides. -/
namespace Go.Proofs.Ytalalegjeegocaa
open Go.RowKit Go.Joins

theorem flipJ {P : Program} {f : FuncId} {args : Array Value} {w : World} {v : Value} (h : Calls P f args w fun e w' => e = .returned v ∧ w = w') : Calls P f args w fun e w' => e = .returned v ∧ w' = w := h.mono fun _ _ ⟨a, b⟩ => ⟨a, b.symm⟩
set_option maxRecDepth 100000 in
set_option maxHeartbeats 3200000 in
theorem earliest_any (B : Nat) (v : Value) (xs : List Jb) (w : World) (h : RdJ w B v xs) (hB : B ≤ w.heap.size) (hk : OkJ xs) (hz : szJ xs) :
    Calls Try.prog 76 #[v] w (RetTb xs.length (erl xs) w) := by
  have H := Lib.hid h
  have HK := Lib.hid hk
  have HZ := Lib.hid hz
  have hl30 := hk.len
  obtain ⟨A, c, rfl⟩ := h.slice
  have hon := Lib.hid (World.ownsRow_made (base := w.heap.size) (e := 2) (size := 1) w #[] 0 (Nat.le_refl _) (by simp [maxLen]) rfl)
  have hal := Lib.hid ((Below.refl w.heap.size w).alloc (Nat.le_refl _) (.cells #[] 2))
  clear h hk hz
  go_enter Try.func76, Try.ntmps76
  go_wp2_with fail
  go_loopw [3, 12] (fun r i wr => ∃ k : Nat, k ≤ xs.length ∧ i = .int .i64 (k : Int) ∧ wr.ownsRow w.heap.size 2 1 r k (tab k (erl xs)) ∧ Below w.heap.size w wr) (fun _ i _ => xs.length - (intOf i).toNat)
  case atStart => exact ⟨0, by omega, rfl, hon.out, hal.out⟩
  case round =>
    obtain ⟨k, hk, rfl, hown, hbl⟩ := hrel
    have Hbl := Lib.hid hbl
    obtain ⟨A3, c3, rfl⟩ := own_sl hown
    have Hown := Lib.hid hown
    clear hon hal hown hbl
    by_cases hlt : k < xs.length
    · have hlt' : (k : Int) < (xs.length : Int) := by omega
      obtain ⟨gb, ob, A', c', hA, hat⟩ := (H.out.below (Hbl.out.mono hB)).at k hlt
      subst hA
      obtain ⟨hsz, hsn⟩ := HZ.out k hlt
      have HRd := Lib.hid hat.needs
      obtain ⟨_, p0, p1, p2, p3, _⟩ := hat
      have Hnd := Lib.hid (fun i hi => nd_at HK.out (k := k) (i := i) hlt hi)
      have Hbd := Lib.hid (fun i hi => erP_bdk HK.out hlt i hi)
      have Heq := Lib.hid (erl_eq HK.out hlt)
      have HAp := Lib.hid (tab_sn k (erl xs))
      generalize (jg xs k).nm = nm at *
      generalize (jg xs k).days = dd at *
      generalize (jg xs k).cost = cc at *
      generalize (jg xs k).needs = nd at *
      have hba := (Below.refl wr.heap.size wr).alloc (Nat.le_refl _) (.cells #[.string nm, .int .i64 dd, .int .i64 cc, .slice A' nd.length c'] 37)
      have Hba := Lib.hid (Hbl.out.trans (hba.mono Hbl.out.size))
      have HCa := Lib.hid (heap_alloc_new wr (.cells #[.string nm, .int .i64 dd, .int .i64 cc, .slice A' nd.length c'] 37))
      have HRa := Lib.hid (HRd.out.below (hba.mono (Nat.le_trans hB Hbl.out.size)))
      have Howa := Lib.hid (own_below Hown.out hba)
      clear hba HRd Hbl Hown
      go_upto_region 6 with (fail)
      generalize wr.alloc (.cells #[.string nm, .int .i64 dd, .int .i64 cc, .slice A' nd.length c'] 37) = wa at *
      generalize wr.heap.size = ga at *
      clear p0 p1 p2 p3
      obtain ⟨y0, y1, y2, y3⟩ := cells4 HCa.out
      obtain ⟨nl, hnl⟩ : ∃ z, nd.length = z := ⟨_, rfl⟩
      have Hnl := Lib.hid hnl
      rw [hnl] at y3 HRa hsn Heq
      clear hnl HCa
      go_wp2_with fail
      go_loopw [6, 19] (fun d i wr => ∃ i' : Nat, i' ≤ nl ∧ i = .int .i64 (i' : Int) ∧ d = .int .i64 (erP xs (erl xs) nd i') ∧ ∃ n, wr = wa.drewN n) (fun _ i _ => nl - (intOf i).toNat)
      case atStart => exact ⟨0, Nat.zero_le _, rfl, rfl, 0, rfl⟩
      case round =>
        obtain ⟨i, hi, rfl, rfl, n, rfl⟩ := hrel
        replace Hba := Lib.hid (below_drewN Hba.out n)
        replace Howa := Lib.hid (World.ownsRow.drewN Howa.out n)
        replace HRa : Hid (Rd (wa.drewN n) B (.slice A' nl c') nl 1 (intV nd)) := Lib.hid HRa.out
        replace y3 : (wa.drewN n).cell? ⟨ga, 3, none⟩ = some (.slice A' nl c') := y3
        have Hwr := Lib.hid (show ∃ m, (wa.drewN n).drew = wa.drewN m from ⟨n + 1, rfl⟩)
        generalize wa.drewN n = wr2 at *
        by_cases hil : i < nl
        · have hil' : (i : Int) < (nl : Int) := by omega
          have hid : i < nd.length := by rw [Hnl.out]; exact hil
          obtain ⟨b2, o2, hA2, _, hcc⟩ := rdI_at HRa.out Hnl.out (by omega)
          subst hA2
          have q1 := hcc i hid
          obtain ⟨p, hp, hge, hne⟩ := Hnd.out i hid
          rw [hne] at q1
          obtain ⟨g3, hA3, _, _, hc3⟩ := own_cellsI Howa.out (show 0 < k by omega)
          subst hA3
          have s0 := hc3 p hp
          obtain ⟨gb', ob', A4, c4, hA4, hat4⟩ := (H.out.below (Hba.out.mono hB)).at p (by omega)
          injection hA4 with hA4
          injection hA4 with e1 e2
          subst e1 e2
          have t1 := hat4.c1
          have hpk : (p : Int) < (k : Int) := by omega
          have hpl : (p : Int) < (xs.length : Int) := by omega
          have b0 := Hbd.out i (by omega)
          have b1 := Hbd.out (i + 1) (by omega)
          have hst : erP xs (erl xs) nd (i + 1) = max (erP xs (erl xs) nd i) (erl xs p + (jg xs p).days) := by
            show max _ _ = _
            rw [hge, Int.toNat_natCast]
          have hEb := erl_bd HK.out p (by omega)
          have hDb := HK.out.days p (by omega)
          rw [hst] at b1
          have hws : IntKind.i64.wrap (erl xs p + (jg xs p).days) = erl xs p + (jg xs p).days := IntWalk.i64_in _ (by omega)
          have Hst := Lib.hid hst
          clear hcc hc3 hat4 hst hge hne
          generalize erP xs (erl xs) nd i = y1 at *
          generalize erl xs p = ep at *
          generalize (jg xs p).days = dp at *
          go_wp2_with fail
          go_region
          all_goals go_wp2_with fail
          all_goals go_roundw
          case rel => exact ⟨i + 1, by omega, by go_num, (by rw [Hst.out]; congr 1; omega), Hwr.out⟩
          all_goals first | (simp [intOf]; done) | (simp [intOf]; omega)
        · obtain rfl : nl = i := by omega
          have hil' : ¬ ((nl : Int) < (nl : Int)) := by omega
          rw [← Heq.out]
          obtain ⟨y, hy⟩ : ∃ y, erl xs k = y := ⟨_, rfl⟩
          rw [hy] at HAp ⊢
          clear hy Heq
          go_wp2_with (at_builtin; refine wpList_apd 27 2 _ 1 8 Try.underlying27 infoD rfl (by omega) _ _ rfl rfl w.heap.size _ k _ rfl Howa.out #[.int .i64 y] 1 1 rfl rfl (by simp [Value.oneCell']) (by simp [maxLen]; omega) (by omega) Hba.out.size ?_; intro v7 w7 hown7 hg7; have Hb7 := Lib.hid (below_apd Hba.out Howa.out hg7 (Nat.le_refl _) Hba.out.size); obtain ⟨A7, c7, rfl⟩ := own_sl hown7; have Hown7 := Lib.hid (show w7.ownsRow w.heap.size 2 1 (.slice A7 (k + 1) c7) (k + 1) (tab (k + 1) (erl xs)) by rw [← HAp.out]; exact hown7); clear hown7 hg7)
          go_roundw
          case rel => exact ⟨k + 1, by omega, by go_num, Hown7.out, Hb7.out⟩
          case measure => first | (simp [intOf]; done) | (simp [intOf]; omega)
    · obtain rfl : k = xs.length := by omega
      have hlt' : ¬ ((xs.length : Int) < (xs.length : Int)) := by omega
      go_wp2_with fail
      go_ret
      exact ⟨_, rfl, Hown.out, Hbl.out⟩
/-- a number; the world grew -/
def RetN1 (x : Int) (w : World) (e : Ending) (w' : World) : Prop := e = .returned (.int .i64 x) ∧ Below w.heap.size w w'
set_option maxRecDepth 100000 in
set_option maxHeartbeats 3200000 in
theorem daysN_any (B : Nat) (v : Value) (xs : List Jb) (w : World) (h : RdJ w B v xs) (hB : B ≤ w.heap.size) (hk : OkJ xs) (hz : szJ xs) :
    Calls Try.prog 51 #[v] w (RetN1 (allD xs xs.length) w) := by
  have HC := Lib.hid (earliest_any B v xs w h hB hk hz)
  have H := Lib.hid h
  have HK := Lib.hid hk
  have hl30 := hk.len
  obtain ⟨A, c, rfl⟩ := h.slice
  clear h hk hz
  go_enter Try.func51, Try.ntmps51
  go_wp2_with fail
  refine (HC.out).mono ?_; rintro e w2 ⟨v2, rfl, ho2, hb2⟩
  have Ho2 := Lib.hid ho2
  have Hb2 := Lib.hid hb2
  obtain ⟨A2, c2, rfl⟩ := own_sl ho2
  clear ho2 hb2 HC
  go_wp2_with fail
  go_loop [3, 9] (fun d i => ∃ k : Nat, k ≤ xs.length ∧ i = .int .i64 (k : Int) ∧ d = .int .i64 (allD xs k)) (fun _ i => xs.length - (intOf i).toNat)
  case atStart => exact ⟨0, Nat.zero_le _, rfl, rfl⟩
  case round =>
    obtain ⟨k, hk, rfl, rfl⟩ := hrel
    by_cases hlt : k < xs.length
    · have hlt' : (k : Int) < (xs.length : Int) := by omega
      obtain ⟨g3, hA3, _, _, hc3⟩ := own_cellsI Ho2.out (show 0 < xs.length by omega)
      subst hA3
      have s0 := hc3 k hlt
      obtain ⟨gb, ob, A', c', hA, hat⟩ := (H.out.below (Hb2.out.mono hB)).at k hlt
      subst hA
      have t1 := hat.c1
      have hEb := erl_bd HK.out k hlt
      have hDb := HK.out.days k hlt
      have hSb := sumD_mono HK.out (i := k) (j := xs.length) (by omega) (Nat.le_refl _)
      have hs4 := HK.out.sum
      have hst : allD xs (k + 1) = max (allD xs k) (erl xs k + (jg xs k).days) := rfl
      have b1 := allD_bd HK.out (k + 1) (by omega)
      have hSb1 := sumD_mono HK.out (i := k + 1) (j := xs.length) (by omega) (Nat.le_refl _)
      have b0 := allD_bd HK.out k (by omega)
      rw [hst] at b1
      have hws : IntKind.i64.wrap (erl xs k + (jg xs k).days) = erl xs k + (jg xs k).days := IntWalk.i64_in _ (by omega)
      have Hst := Lib.hid hst
      clear hc3 hat hst
      generalize allD xs k = y1 at *
      generalize erl xs k = ep at *
      generalize (jg xs k).days = dp at *
      go_wp2_with fail
      go_round
      case rel => exact ⟨k + 1, by omega, by go_num, (by rw [Hst.out]; first | rfl | (congr 1; omega))⟩
      case measure => first | (simp [intOf]; done) | (simp [intOf]; omega)
    · obtain rfl : k = xs.length := by omega
      have hlt' : ¬ ((xs.length : Int) < (xs.length : Int)) := by omega
      go_wp2_with fail
      go_ret
      exact ⟨rfl, Hb2.out⟩
/-- a number and a code -/
def dnC (xs : List Jb) : Int := if okJ xs = true then 0 else 1
def dnV (xs : List Jb) : Int := if okJ xs = true then allD xs xs.length else 0
set_option maxRecDepth 100000 in
set_option maxHeartbeats 3200000 in
theorem DaysI_any (B : Nat) (v : Value) (xs : List Jb) (w : World) (h : RdJ w B v xs) (hB : B ≤ w.heap.size) (hn : xs.length ≤ 100000) (hz : szJ xs) :
    Calls Try.prog 16 #[v] w (fun e w' => e = .returned (.tuple #[.int .i64 (dnV xs), .int .i64 (dnC xs)]) ∧ Below w.heap.size w w') := by
  have HC := Lib.hid (ValidJI_any B v xs w h hB hn hz)
  have HD := Lib.hid (fun hk wx (hb : Below w.heap.size w wx) => daysN_any B v xs wx (h.below (hb.mono hB)) (Nat.le_trans hB hb.size) hk hz)
  have H := Lib.hid h
  obtain ⟨A, c, rfl⟩ := h.slice
  clear h hz
  have e1 := Lib.hid (show dnC xs = if okJ xs = true then 0 else 1 from rfl)
  have e2 := Lib.hid (show dnV xs = if okJ xs = true then allD xs xs.length else 0 from rfl)
  cases hv : okJ xs with
  | false =>
    rw [hv] at HC e1 e2
    go_enter Try.func16, Try.ntmps16
    go_wp2_with fail
    refine (HC.out).mono ?_; rintro e w2 ⟨rfl, hb2⟩
    have Hb2 := Lib.hid hb2
    clear hb2
    go_wp2_with fail
    go_ret2
    exact ⟨by rw [e1.out, e2.out]; rfl, Hb2.out⟩
  | true =>
    have HK := Lib.hid (okJ_ok hv)
    rw [hv] at HC e1 e2
    go_enter Try.func16, Try.ntmps16
    go_wp2_with fail
    refine (HC.out).mono ?_; rintro e w2 ⟨rfl, hb2⟩
    have Hb2 := Lib.hid hb2
    have HD2 := Lib.hid (HD.out HK.out w2 hb2)
    clear hb2 HD
    go_wp2_with fail
    refine (HD2.out).mono ?_; rintro e w3 ⟨rfl, hb3⟩
    have Hb3 := Lib.hid (Hb2.out.trans (hb3.mono Hb2.out.size))
    clear hb3
    go_wp2_with fail
    go_ret2
    exact ⟨by rw [e1.out, e2.out]; rfl, Hb3.out⟩
/-- a row of numbers and a number -/
def RetE2 (n : Nat) (f : Nat → Int) (x : Int) (w : World) (e : Ending) (w' : World) : Prop := ∃ v, e = .returned (.tuple #[v, .int .i64 x]) ∧ w'.ownsRow w.heap.size 2 1 v n (tab n f) ∧ Below w.heap.size w w'
set_option maxRecDepth 100000 in
set_option maxHeartbeats 3200000 in
theorem l22Early_any (B : Nat) (v : Value) (xs : List Jb) (w : World) (h : RdJ w B v xs) (hB : B ≤ w.heap.size) (hk : OkJ xs) (hz : szJ xs) :
    Calls Try.prog 80 #[v] w (RetE2 xs.length (erl xs) (allD xs xs.length) w) := by
  have H := Lib.hid h
  have HK := Lib.hid hk
  have HZ := Lib.hid hz
  have hl30 := hk.len
  obtain ⟨A, c, rfl⟩ := h.slice
  have hon := Lib.hid (World.ownsRow_made (base := w.heap.size) (e := 2) (size := 1) w #[] 0 (Nat.le_refl _) (by simp [maxLen]) rfl)
  have hal := Lib.hid ((Below.refl w.heap.size w).alloc (Nat.le_refl _) (.cells #[] 2))
  clear h hk hz
  go_enter Try.func80, Try.ntmps80
  go_wp2_with fail
  go_loopw [4, 5, 6] (fun r d i wr => ∃ k : Nat, k ≤ xs.length ∧ i = .int .i64 (k : Int) ∧ d = .int .i64 (allD xs k) ∧ wr.ownsRow w.heap.size 2 1 r k (tab k (erl xs)) ∧ Below w.heap.size w wr) (fun _ _ i _ => xs.length - (intOf i).toNat)
  case atStart => exact ⟨0, by omega, rfl, rfl, hon.out, hal.out⟩
  case round =>
    obtain ⟨k, hk, rfl, rfl, hown, hbl⟩ := hrel
    have Hbl := Lib.hid hbl
    obtain ⟨A3, c3, rfl⟩ := own_sl hown
    have Hown := Lib.hid hown
    clear hon hal hown hbl
    by_cases hlt : k < xs.length
    · have hlt' : (k : Int) < (xs.length : Int) := by omega
      obtain ⟨gb, ob, A', c', hA, hat⟩ := (H.out.below (Hbl.out.mono hB)).at k hlt
      subst hA
      obtain ⟨hsz, hsn⟩ := HZ.out k hlt
      have HRa := Lib.hid hat.needs
      have y3 := hat.c3
      have t1 := hat.c1
      have Hnd := Lib.hid (fun i hi => nd_at HK.out (k := k) (i := i) hlt hi)
      have Hbd := Lib.hid (fun i hi => erP_bdk HK.out hlt i hi)
      have Heq := Lib.hid (erl_eq HK.out hlt)
      have HAp := Lib.hid (tab_sn k (erl xs))
      have Hal := Lib.hid (show allD xs (k + 1) = max (allD xs k) (erl xs k + (jg xs k).days) from rfl)
      have Hdd := Lib.hid (HK.out.days k hlt)
      generalize (jg xs k).nm = nm at *
      generalize (jg xs k).needs = nd at *
      obtain ⟨nl, hnl⟩ : ∃ z, nd.length = z := ⟨_, rfl⟩
      have Hnl := Lib.hid hnl
      rw [hnl] at y3 HRa hsn Heq
      clear hnl hat
      go_wp2_with fail
      go_loopw [7, 8] (fun d i w2 => ∃ i' : Nat, i' ≤ nl ∧ i = .int .i64 (i' : Int) ∧ d = .int .i64 (erP xs (erl xs) nd i') ∧ ∃ n, w2 = wr.drewN n) (fun _ i _ => nl - (intOf i).toNat)
      case atStart => exact ⟨0, Nat.zero_le _, rfl, rfl, 0, rfl⟩
      case round =>
        obtain ⟨i, hi, rfl, rfl, n, rfl⟩ := hrel
        replace Hbl := Lib.hid (below_drewN Hbl.out n)
        replace Hown := Lib.hid (World.ownsRow.drewN Hown.out n)
        replace HRa : Hid (Rd (wr.drewN n) B (.slice A' nl c') nl 1 (intV nd)) := Lib.hid HRa.out
        replace y3 : (wr.drewN n).cell? _ = some (.slice A' nl c') := y3
        replace t1 : (wr.drewN n).cell? _ = some (.int .i64 (jg xs k).days) := t1
        have Hwr := Lib.hid (show ∀ q, ∃ m, (wr.drewN n).drewN q = wr.drewN m from fun q => ⟨n + q, by rw [World.drewN_drewN]⟩)
        generalize wr.drewN n = wr2 at *
        by_cases hil : i < nl
        · have hil' : (i : Int) < (nl : Int) := by omega
          have hid : i < nd.length := by rw [Hnl.out]; exact hil
          obtain ⟨b2, o2, hA2, _, hcc⟩ := rdI_at HRa.out Hnl.out (by omega)
          subst hA2
          have q1 := hcc i hid
          obtain ⟨p, hp, hge, hne⟩ := Hnd.out i hid
          rw [hne] at q1
          obtain ⟨g3, hA3, _, _, hc3⟩ := own_cellsI Hown.out (show 0 < k by omega)
          subst hA3
          have s0 := hc3 p hp
          obtain ⟨gb', ob', A4, c4, hA4, hat4⟩ := (H.out.below (Hbl.out.mono hB)).at p (by omega)
          injection hA4 with hA4
          injection hA4 with e1 e2
          subst e1 e2
          have t2 := hat4.c1
          have hpk : (p : Int) < (k : Int) := by omega
          have hpl : (p : Int) < (xs.length : Int) := by omega
          have b0 := Hbd.out i (by omega)
          have hst : erP xs (erl xs) nd (i + 1) = max (erP xs (erl xs) nd i) (erl xs p + (jg xs p).days) := by
            show max _ _ = _
            rw [hge, Int.toNat_natCast]
          have hEb := erl_bd HK.out p (by omega)
          have hDb := HK.out.days p (by omega)
          have b1 := Hbd.out (i + 1) (by omega)
          rw [hst] at b1
          have hws : IntKind.i64.wrap (erl xs p + (jg xs p).days) = erl xs p + (jg xs p).days := IntWalk.i64_in _ (by omega)
          have HMx := Lib.hid (fun wx => flipJ (l00Max_c (erP xs (erl xs) nd i) (erl xs p + (jg xs p).days) wx))
          rw [← hst] at HMx
          clear hcc hc3 hat4 hst hge hne b1
          generalize hy2 : erP xs (erl xs) nd (i + 1) = y2 at *
          have Hy2 := Lib.hid hy2
          clear hy2
          generalize erP xs (erl xs) nd i = y1 at *
          generalize erl xs p = ep at *
          generalize (jg xs p).days = dp at *
          go_wp2_with fail
          go_quiet ((go_at_call 72; exact Calls.quiet_of_same (HMx.out _)))
          go_wp2_with fail
          go_roundw
          case rel => exact ⟨i + 1, by omega, by go_num, (by rw [Hy2.out]), Hwr.out _⟩
          case measure => first | (simp [intOf]; done) | (simp [intOf]; omega)
        · obtain rfl : nl = i := by omega
          have hil' : ¬ ((nl : Int) < (nl : Int)) := by omega
          rw [← Heq.out]
          have b2 := allD_bd HK.out k (by omega)
          have b3 := erl_bd HK.out k hlt
          have b4 := Hdd.out
          have b5 := sumD_mono HK.out (i := k) (j := xs.length) (by omega) (Nat.le_refl _)
          have b6 := HK.out.sum
          have hws : IntKind.i64.wrap (erl xs k + (jg xs k).days) = erl xs k + (jg xs k).days := IntWalk.i64_in _ (by omega)
          have HMx := Lib.hid (fun wx => l00Max_c (allD xs k) (erl xs k + (jg xs k).days) wx)
          rw [← Hal.out] at HMx
          obtain ⟨y, hy⟩ : ∃ y, erl xs k = y := ⟨_, rfl⟩
          rw [hy] at HAp ⊢
          rw [hy] at hws HMx
          clear hy Heq
          go_wp2_with (at_builtin; refine wpList_apd 27 2 _ 1 8 Try.underlying27 infoD rfl (by omega) _ _ rfl rfl w.heap.size _ k _ rfl Hown.out #[.int .i64 y] 1 1 rfl rfl (by simp [Value.oneCell']) (by simp [maxLen]; omega) (by omega) Hbl.out.size ?_; intro v7 w7 hown7 hg7; have Hb7 := Lib.hid (below_apd Hbl.out Hown.out hg7 (Nat.le_refl _) Hbl.out.size); obtain ⟨A7, c7, rfl⟩ := own_sl hown7; have Hown7 := Lib.hid (show w7.ownsRow w.heap.size 2 1 (.slice A7 (k + 1) c7) (k + 1) (tab (k + 1) (erl xs)) by rw [← HAp.out]; exact hown7); clear hown7 hg7; obtain ⟨gz, oz, Az, cz, hAz, hatz⟩ := (H.out.below (Hb7.out.mono hB)).at k hlt; injection hAz with hAz; injection hAz with e1 e2; subst e1 e2; have tz := hatz.c1; clear hatz)
          refine (HMx.out _).mono ?_; rintro e w1 ⟨rfl, rfl⟩
          go_wp2_with fail
          go_roundw
          case rel => exact ⟨k + 1, by omega, by go_num, rfl, Hown7.out, Hb7.out⟩
          case measure => first | (simp [intOf]; done) | (simp [intOf]; omega)
    · obtain rfl : k = xs.length := by omega
      have hlt' : ¬ ((xs.length : Int) < (xs.length : Int)) := by omega
      go_wp2_with fail
      go_ret2
      exact ⟨_, rfl, Hown.out, Hbl.out⟩
end Go.Proofs.Ytalalegjeegocaa
/- Inventories, part 10: what is missing for some machines, the program (gen_pc9.py). -/
namespace Go.Proofs.Ytalalegjeegocaa
open Go.RowKit Go.Joins

set_option maxRecDepth 100000 in
set_option maxHeartbeats 3200000 in
theorem msI_any (B : Nat) (v vs : Value) (xs : List Pc) (st : Nat → Int) (mm : Nat) (w : World) (h : RdP w B v xs) (hst : Rd w B vs xs.length 1 (tab xs.length st)) (hB : B ≤ w.heap.size) (hs : Shp xs xs.length) (hn : xs.length ≤ 40) (h1 : 1 ≤ xs.length)
    (ht : ∀ i, i < xs.length → tot xs i ≤ 1000000) (hq : ∀ i, i < xs.length → 0 ≤ st i ∧ st i ≤ 1000000000000) (hm : mm ≤ 1000000) :
    Calls Try.prog 56 #[v, vs, .int .i64 (mm : Int)] w (RetTb xs.length (ms xs st (mm : Int)) w) := by
  have H := Lib.hid h
  have HS := Lib.hid hs
  have HT := Lib.hid ht
  have HQ := Lib.hid hq
  have HR := Lib.hid hst
  obtain ⟨A, c, rfl⟩ := h.slice
  obtain ⟨A2, c2, rfl⟩ := rd_sl hst
  have hon := Lib.hid (World.ownsRow_made (base := w.heap.size) (e := 2) (size := 1) w #[] 0 (Nat.le_refl _) (by simp [maxLen]) rfl)
  have hal := Lib.hid ((Below.refl w.heap.size w).alloc (Nat.le_refl _) (.cells #[] 2))
  clear h hs ht hq hst
  go_enter Try.func56, Try.ntmps56
  go_wp2_with fail
  go_loopw [7, 14] (fun r i wr => ∃ k : Nat, k ≤ xs.length ∧ i = .int .i64 (k : Int) ∧ wr.ownsRow w.heap.size 2 1 r k (tab k (ms xs st (mm : Int))) ∧ Below w.heap.size w wr) (fun _ i _ => xs.length - (intOf i).toNat)
  case atStart => exact ⟨0, by omega, rfl, hon.out, hal.out⟩
  case round =>
    obtain ⟨k, hk, rfl, hown, hbl⟩ := hrel
    have Hbl := Lib.hid hbl
    obtain ⟨A3, c3, rfl⟩ := own_sl hown
    have Hown := Lib.hid hown
    clear hon hal hown hbl
    by_cases hlt : k < xs.length
    · have hlt' : (k : Int) < (xs.length : Int) := by omega
      have HX := Lib.hid (H.out.below (Hbl.out.mono hB))
      obtain ⟨gb, ob, hA, hat⟩ := HX.out.at k hlt
      subst hA
      have p0 := hat.c0
      have p1 := hat.c1
      have p2 := hat.c2
      have p3 := hat.c3
      have hbd := ms_big HS.out (fun i hi => (HQ.out i hi).1) HT.out hm hlt
      have hsq := HQ.out k hlt
      have Hme := Lib.hid (ms_eq HS.out st (mm : Int) hlt)
      have HAp := Lib.hid (tab_sn k (ms xs st (mm : Int)))
      have he := HS.out.each k hlt
      have Hne := Lib.hid (show need xs st (mm : Int) k = if k = 0 then (mm : Int) * (pg xs k).each else (pg xs k).each * ms xs st (mm : Int) (pg xs k).par.toNat from by unfold need needS; by_cases e : k = 0 <;> simp [e])
      have Hpar := Lib.hid (HS.out.par k)
      obtain ⟨y, hy⟩ : ∃ y, ms xs st (mm : Int) k = y := ⟨_, rfl⟩
      rw [hy] at HAp Hme hbd
      have hba := (Below.refl wr.heap.size wr).alloc (Nat.le_refl _) (.cells #[.string (pg xs k).name, .int .i64 (pg xs k).par, .int .i64 (pg xs k).each, .int .i64 (pg xs k).price] 79)
      have Hbl := Lib.hid (Hbl.out.trans (hba.mono Hbl.out.size))
      have Hown := Lib.hid (own_below Hown.out hba)
      have HCa := Lib.hid (heap_alloc_new wr (.cells #[.string (pg xs k).name, .int .i64 (pg xs k).par, .int .i64 (pg xs k).each, .int .i64 (pg xs k).price] 79))
      have hmw0 : (mm : Int) * (pg xs k).each ≤ 1000000 * 100 := Int.mul_le_mul (by omega) (by omega) (by omega) (by omega)
      have hmw1 : 0 ≤ (mm : Int) * (pg xs k).each := Int.mul_nonneg (by omega) (by omega)
      have hw0 : IntKind.i64.wrap ((mm : Int) * (pg xs k).each) = (mm : Int) * (pg xs k).each := IntWalk.i64_in _ (by omega)
      clear hy hat hba hmw0 hmw1
      generalize (pg xs k).name = nm at *
      generalize (pg xs k).par = pa at *
      generalize (pg xs k).each = ek at *
      generalize (pg xs k).price = pr at *
      go_upto_region 5 with (fail)
      generalize wr.alloc (.cells #[.string nm, .int .i64 pa, .int .i64 ek, .int .i64 pr] 79) = wa at *
      generalize wr.heap.size = ga at *
      clear p0 p1 p2 p3
      obtain ⟨y0, y1, y2, y3⟩ := cells4 HCa.out
      obtain ⟨b1, o1, hA2, _, hcc⟩ := rdF_all (RdF_below HR.out (Hbl.out.mono hB)) (show 0 < xs.length by omega)
      subst hA2
      have s0 := hcc k hlt
      have HMx := Lib.hid (show max (need xs st (mm : Int) k - st k) 0 = y from by rw [Hme.out, Int.max_comm])
      have hw2 : IntKind.i64.wrap (need xs st (mm : Int) k - st k) = need xs st (mm : Int) k - st k := IntWalk.i64_in _ (by omega)
      clear hcc
      by_cases h0 : k = 0
      · have hne := Hne.out
        rw [if_pos h0] at hne
        have h0k : ¬ ((0 : Int) < (k : Int)) := by omega
        replace hw0 := hw0.trans hne.symm
        clear Hne Hme h0 hne hbd y1
        generalize need xs st (mm : Int) k = nd at *
        generalize st k = sk at *
        by_cases hsg : nd - sk < 0
        · have Hy := Lib.hid (show y = 0 from by rw [← HMx.out]; omega)
          go_upto_region 8 with (fail)
          go_wp2_with (at_builtin; refine wpList_apd 27 2 _ 1 8 Try.underlying27 infoD rfl (by omega) _ _ rfl rfl w.heap.size _ k _ rfl Hown.out #[.int .i64 0] 1 1 rfl rfl (by simp [Value.oneCell']) (by simp [maxLen]; omega) (by omega) Hbl.out.size ?_; intro v7 w7 hown7 hg7; have Hb7 := Lib.hid (below_apd Hbl.out Hown.out hg7 (Nat.le_refl _) Hbl.out.size); obtain ⟨A7, c7, rfl⟩ := own_sl hown7; have Hown7 := Lib.hid (show w7.ownsRow w.heap.size 2 1 (.slice A7 (k + 1) c7) (k + 1) (tab (k + 1) (ms xs st (mm : Int))) by rw [← HAp.out, Hy.out]; exact hown7); clear hown7 hg7)
          go_roundw
          case rel => exact ⟨k + 1, by omega, by go_num, Hown7.out, Hb7.out⟩
          case measure => first | (simp [intOf]; done) | (simp [intOf]; omega)
        · have Hy := Lib.hid (show y = nd - sk from by rw [← HMx.out]; omega)
          have hsg' : 0 ≤ nd - sk := by omega
          go_upto_region 8 with (fail)
          go_wp2_with (at_builtin; refine wpList_apd 27 2 _ 1 8 Try.underlying27 infoD rfl (by omega) _ _ rfl rfl w.heap.size _ k _ rfl Hown.out #[.int .i64 (nd - sk)] 1 1 rfl rfl (by simp [Value.oneCell']) (by simp [maxLen]; omega) (by omega) Hbl.out.size ?_; intro v7 w7 hown7 hg7; have Hb7 := Lib.hid (below_apd Hbl.out Hown.out hg7 (Nat.le_refl _) Hbl.out.size); obtain ⟨A7, c7, rfl⟩ := own_sl hown7; have Hown7 := Lib.hid (show w7.ownsRow w.heap.size 2 1 (.slice A7 (k + 1) c7) (k + 1) (tab (k + 1) (ms xs st (mm : Int))) by rw [← HAp.out, Hy.out]; exact hown7); clear hown7 hg7)
          go_roundw
          case rel => exact ⟨k + 1, by omega, by go_num, Hown7.out, Hb7.out⟩
          case measure => first | (simp [intOf]; done) | (simp [intOf]; omega)
      · have hp := Hpar.out (by omega) hlt
        obtain ⟨p, rfl⟩ : ∃ p : Nat, pa = (p : Int) := ⟨pa.toNat, by omega⟩
        have hne := Hne.out
        rw [if_neg h0, Int.toNat_natCast] at hne
        obtain ⟨g3, hA3, _, _, hc3⟩ := own_cellsI Hown.out (show 0 < k by omega)
        subst hA3
        have z0 := hc3 p (by omega)
        have hpk : (p : Int) < (k : Int) := by omega
        have h0k : (0 : Int) < (k : Int) := by omega
        have hw1 : IntKind.i64.wrap (ms xs st (mm : Int) p * ek) = need xs st (mm : Int) k := by rw [Int.mul_comm, ← hne]; exact IntWalk.i64_in _ (by omega)
        clear Hne Hme hne hbd hc3
        generalize need xs st (mm : Int) k = nd at *
        generalize st k = sk at *
        generalize hM1 : ms xs st (mm : Int) p = mp at *
        generalize hE0 : (mm : Int) * ek = n0 at *
        clear hE0 hM1
        go_upto_region 7 with (fail)
        go_quiet (fail)
        have Hbl := Lib.hid (below_drewN Hbl.out nq)
        have Hown := Lib.hid (World.ownsRow.drewN Hown.out nq)
        by_cases hsg : nd - sk < 0
        · have Hy := Lib.hid (show y = 0 from by rw [← HMx.out]; omega)
          go_upto_region 8 with (fail)
          go_wp2_with (at_builtin; refine wpList_apd 27 2 _ 1 8 Try.underlying27 infoD rfl (by omega) _ _ rfl rfl w.heap.size _ k _ rfl Hown.out #[.int .i64 0] 1 1 rfl rfl (by simp [Value.oneCell']) (by simp [maxLen]; omega) (by omega) Hbl.out.size ?_; intro v7 w7 hown7 hg7; have Hb7 := Lib.hid (below_apd Hbl.out Hown.out hg7 (Nat.le_refl _) Hbl.out.size); obtain ⟨A7, c7, rfl⟩ := own_sl hown7; have Hown7 := Lib.hid (show w7.ownsRow w.heap.size 2 1 (.slice A7 (k + 1) c7) (k + 1) (tab (k + 1) (ms xs st (mm : Int))) by rw [← HAp.out, Hy.out]; exact hown7); clear hown7 hg7)
          go_roundw
          case rel => exact ⟨k + 1, by omega, by go_num, Hown7.out, Hb7.out⟩
          case measure => first | (simp [intOf]; done) | (simp [intOf]; omega)
        · have Hy := Lib.hid (show y = nd - sk from by rw [← HMx.out]; omega)
          have hsg' : 0 ≤ nd - sk := by omega
          go_upto_region 8 with (fail)
          go_wp2_with (at_builtin; refine wpList_apd 27 2 _ 1 8 Try.underlying27 infoD rfl (by omega) _ _ rfl rfl w.heap.size _ k _ rfl Hown.out #[.int .i64 (nd - sk)] 1 1 rfl rfl (by simp [Value.oneCell']) (by simp [maxLen]; omega) (by omega) Hbl.out.size ?_; intro v7 w7 hown7 hg7; have Hb7 := Lib.hid (below_apd Hbl.out Hown.out hg7 (Nat.le_refl _) Hbl.out.size); obtain ⟨A7, c7, rfl⟩ := own_sl hown7; have Hown7 := Lib.hid (show w7.ownsRow w.heap.size 2 1 (.slice A7 (k + 1) c7) (k + 1) (tab (k + 1) (ms xs st (mm : Int))) by rw [← HAp.out, Hy.out]; exact hown7); clear hown7 hg7)
          go_roundw
          case rel => exact ⟨k + 1, by omega, by go_num, Hown7.out, Hb7.out⟩
          case measure => first | (simp [intOf]; done) | (simp [intOf]; omega)
    · obtain rfl : k = xs.length := by omega
      have hlt' : ¬ ((xs.length : Int) < (xs.length : Int)) := by omega
      go_wp2_with fail
      go_ret
      exact ⟨_, rfl, Hown.out, Hbl.out⟩
end Go.Proofs.Ytalalegjeegocaa
/- Inventories, part 11: MissingPieces, both sides (gen_pc11.py). -/
namespace Go.Proofs.Ytalalegjeegocaa
open Go.RowKit Go.Joins

def mpC (xs : List Pc) (n : Nat) (f : Nat → Int) (mm : Int) : Int := if stC xs n f = 0 then (if inB mm 0 1000000 then 0 else 2) else stC xs n f
def mpN (xs : List Pc) (n : Nat) (f : Nat → Int) (mm : Int) : Nat := if mpC xs n f mm = 0 then xs.length else 0
theorem mpC_ok {xs : List Pc} {n : Nat} {f : Nat → Int} {mm : Int} (h : mpC xs n f mm = 0) : stC xs n f = 0 ∧ 0 ≤ mm ∧ mm ≤ 1000000 := by
  unfold mpC at h
  split at h
  · rename_i h1
    split at h
    · rename_i h2
      exact ⟨h1, inB_iff.1 h2⟩
    · cases h
  · rename_i h1
    exact absurd h h1
def RetMp (xs : List Pc) (n : Nat) (f : Nat → Int) (mm : Int) (w : World) (e : Ending) (w' : World) : Prop := ∃ v, e = .returned (.tuple #[v, .int .i64 (mpC xs n f mm)]) ∧ w'.ownsRow w.heap.size 2 1 v (mpN xs n f mm) (tab (mpN xs n f mm) (ms xs f mm)) ∧ Below w.heap.size w w'
theorem RetMp.bad {xs : List Pc} {n : Nat} {f : Nat → Int} {mm c : Int} {w w' : World} (h : mpC xs n f mm = c) (hc : c ≠ 0) (hb : Below w.heap.size w w') : RetMp xs n f mm w (.returned (.tuple #[.slice none 0 0, .int .i64 c])) w' := by
  have e : mpN xs n f mm = 0 := by unfold mpN; rw [h, if_neg hc]
  refine ⟨_, by rw [h], ?_, hb⟩
  rw [e]
  exact ⟨by simp [tab], .inl ⟨rfl, rfl⟩⟩
set_option maxRecDepth 100000 in
set_option maxHeartbeats 1600000 in
theorem MissI_any (B : Nat) (v vs : Value) (xs : List Pc) (n : Nat) (f : Nat → Int) (mm : Int) (w : World) (h : RdP w B v xs) (hst : Rd w B vs n 1 (tab n f)) (hB : B ≤ w.heap.size) (hn : xs.length ≤ 100000) (hn2 : n ≤ 1000) (hz : szP xs) :
    Calls Try.prog 18 #[v, vs, .int .i64 mm] w (RetMp xs n f mm w) := by
  have HC := Lib.hid (stkI_any B v vs xs n f w h hst hB hn hn2 hz)
  have H := Lib.hid h
  have HS := Lib.hid hst
  obtain ⟨A, c, rfl⟩ := h.slice
  obtain ⟨A2, c2, rfl⟩ := rd_sl hst
  have HX := Lib.hid (fun wx => between_any mm 0 1000000 wx)
  clear h hz hst
  by_cases h0 : stC xs n f = 0
  · rw [h0] at HC
    cases hb : inB mm 0 1000000 with
    | false =>
      have hmc : mpC xs n f mm = 2 := by unfold mpC; rw [if_pos h0, hb]; rfl
      have HE := Lib.hid (fun w' hb => RetMp.bad (w := w) (w' := w') hmc (by omega) hb)
      rw [hb] at HX
      clear hb h0 hmc
      go_enter Try.func18, Try.ntmps18
      go_wp2_with fail
      refine (HC.out).mono ?_; rintro e w2 ⟨rfl, hb2⟩
      have Hz := Lib.hid (HE.out w2 hb2)
      clear hb2
      go_wp2_with fail
      refine (HX.out _).mono ?_; rintro e w1 ⟨rfl, rfl⟩
      go_wp2_with fail
      go_ret2
      exact Hz.out
    | true =>
      have hmc : mpC xs n f mm = 0 := by unfold mpC; rw [if_pos h0, hb]; rfl
      have hmn : mpN xs n f mm = xs.length := by unfold mpN; rw [if_pos hmc]
      have hmb := inB_iff.1 hb
      obtain ⟨hok, hnl, hq⟩ := stC_ok h0
      obtain ⟨⟨hl1, hl40⟩, _, hsh, htt⟩ := okP_ok hok
      subst hnl
      obtain ⟨m, rfl⟩ : ∃ m : Nat, mm = (m : Int) := ⟨mm.toNat, by omega⟩
      have HM := Lib.hid (fun wx hx hy hz => msI_any B (.slice A xs.length c) (.slice A2 xs.length c2) xs f m wx hx hy hz hsh hl40 hl1 htt hq (by omega))
      have Hfin := Lib.hid (fun v w' (ho : w'.ownsRow w.heap.size 2 1 v xs.length (tab xs.length (ms xs f (m : Int)))) (hb : Below w.heap.size w w') => (show RetMp xs xs.length f (m : Int) w (.returned (.tuple #[v, .int .i64 0])) w' from ⟨v, by rw [hmc], by rw [hmn]; exact ho, hb⟩))
      unfold RetTb at HM
      rw [hb] at HX
      clear hb h0 hmc hmn hmb hok hsh htt hq
      go_enter Try.func18, Try.ntmps18
      go_wp2_with fail
      refine (HC.out).mono ?_; rintro e w2 ⟨rfl, hb2⟩
      have Hb2 := Lib.hid hb2
      have HM2 := Lib.hid (HM.out w2 (H.out.below (hb2.mono hB)) (RdF_below HS.out (hb2.mono hB)) (Nat.le_trans hB hb2.size))
      clear hb2 HM
      go_wp2_with fail
      refine (HX.out _).mono ?_; rintro e w1 ⟨rfl, rfl⟩
      go_wp2_with fail
      refine (HM2.out).mono ?_; rintro e w3 ⟨v3, rfl, ho3, hb3⟩
      have Hz := Lib.hid (Hfin.out v3 w3 (ownsRow_le ho3 Hb2.out.size) (Hb2.out.trans (hb3.mono Hb2.out.size)))
      obtain ⟨A3, c3, rfl⟩ := own_sl ho3
      clear ho3 hb3
      go_wp2_with fail
      go_ret2
      exact Hz.out
  · obtain ⟨c1, hc1⟩ : ∃ z, stC xs n f = z := ⟨_, rfl⟩
    have hmc : mpC xs n f mm = c1 := by unfold mpC; rw [if_neg h0, hc1]
    rw [hc1] at HC h0
    have HE := Lib.hid (fun w' hb => RetMp.bad (w := w) (w' := w') hmc h0 hb)
    have hcb : (c1 == 0) = false := by simp [h0]
    have hcb2 : (c1 != 0) = true := by simp [h0]
    clear hc1 hmc
    go_enter Try.func18, Try.ntmps18
    go_wp2_with fail
    refine (HC.out).mono ?_; rintro e w2 ⟨rfl, hb2⟩
    have Hz := Lib.hid (HE.out w2 hb2)
    clear hb2
    go_wp2_with fail
    go_ret2
    exact Hz.out
set_option maxRecDepth 100000 in
set_option maxHeartbeats 1600000 in
theorem MissS_any (B : Nat) (v vs : Value) (xs : List Pc) (n : Nat) (f : Nat → Int) (mm : Int) (w : World) (h : RdP w B v xs) (hst : Rd w B vs n 1 (tab n f)) (hB : B ≤ w.heap.size) (hn : xs.length ≤ 100000) (hn2 : n ≤ 1000) (hz : szP xs) :
    Calls Try.prog 19 #[v, vs, .int .i64 mm] w (RetMp xs n f mm w) := by
  have HC := Lib.hid (stkS_any B v vs xs n f w h hst hB hn hn2 hz)
  have H := Lib.hid h
  have HS := Lib.hid hst
  obtain ⟨A, c, rfl⟩ := h.slice
  obtain ⟨A2, c2, rfl⟩ := rd_sl hst
  have HX := Lib.hid (fun wx => l00In_any mm 0 1000000 wx)
  clear h hz hst
  by_cases h0 : stC xs n f = 0
  · rw [h0] at HC
    cases hb : inB mm 0 1000000 with
    | false =>
      have hmc : mpC xs n f mm = 2 := by unfold mpC; rw [if_pos h0, hb]; rfl
      have HE := Lib.hid (fun w' hb => RetMp.bad (w := w) (w' := w') hmc (by omega) hb)
      rw [hb] at HX
      clear hb h0 hmc
      go_enter Try.func19, Try.ntmps19
      go_wp2_with fail
      refine (HC.out).mono ?_; rintro e w2 ⟨rfl, hb2⟩
      have Hz := Lib.hid (HE.out w2 hb2)
      clear hb2
      go_wp2_with fail
      refine (HX.out _).mono ?_; rintro e w1 ⟨rfl, rfl⟩
      go_wp2_with fail
      go_ret2
      exact Hz.out
    | true =>
      have hmc : mpC xs n f mm = 0 := by unfold mpC; rw [if_pos h0, hb]; rfl
      have hmn : mpN xs n f mm = xs.length := by unfold mpN; rw [if_pos hmc]
      have hmb := inB_iff.1 hb
      obtain ⟨hok, hnl, hq⟩ := stC_ok h0
      obtain ⟨⟨hl1, hl40⟩, _, hsh, htt⟩ := okP_ok hok
      subst hnl
      obtain ⟨m, rfl⟩ : ∃ m : Nat, mm = (m : Int) := ⟨mm.toNat, by omega⟩
      have HM := Lib.hid (fun wx hx hy hz => msS_any B (.slice A xs.length c) (.slice A2 xs.length c2) xs f m wx hx hy hz hsh hl40 hl1 htt hq (by omega))
      have Hfin := Lib.hid (fun v w' (ho : w'.ownsRow w.heap.size 2 1 v xs.length (tab xs.length (ms xs f (m : Int)))) (hb : Below w.heap.size w w') => (show RetMp xs xs.length f (m : Int) w (.returned (.tuple #[v, .int .i64 0])) w' from ⟨v, by rw [hmc], by rw [hmn]; exact ho, hb⟩))
      unfold RetTb at HM
      rw [hb] at HX
      clear hb h0 hmc hmn hmb hok hsh htt hq
      go_enter Try.func19, Try.ntmps19
      go_wp2_with fail
      refine (HC.out).mono ?_; rintro e w2 ⟨rfl, hb2⟩
      have Hb2 := Lib.hid hb2
      have HM2 := Lib.hid (HM.out w2 (H.out.below (hb2.mono hB)) (RdF_below HS.out (hb2.mono hB)) (Nat.le_trans hB hb2.size))
      clear hb2 HM
      go_wp2_with fail
      refine (HX.out _).mono ?_; rintro e w1 ⟨rfl, rfl⟩
      go_wp2_with fail
      refine (HM2.out).mono ?_; rintro e w3 ⟨v3, rfl, ho3, hb3⟩
      have Hz := Lib.hid (Hfin.out v3 w3 (ownsRow_le ho3 Hb2.out.size) (Hb2.out.trans (hb3.mono Hb2.out.size)))
      obtain ⟨A3, c3, rfl⟩ := own_sl ho3
      clear ho3 hb3
      go_wp2_with fail
      go_ret2
      exact Hz.out
  · obtain ⟨c1, hc1⟩ : ∃ z, stC xs n f = z := ⟨_, rfl⟩
    have hmc : mpC xs n f mm = c1 := by unfold mpC; rw [if_neg h0, hc1]
    rw [hc1] at HC h0
    have HE := Lib.hid (fun w' hb => RetMp.bad (w := w) (w' := w') hmc h0 hb)
    have hcb : (c1 == 0) = false := by simp [h0]
    have hcb2 : (c1 != 0) = true := by simp [h0]
    clear hc1 hmc
    go_enter Try.func19, Try.ntmps19
    go_wp2_with fail
    refine (HC.out).mono ?_; rintro e w2 ⟨rfl, hb2⟩
    have Hz := Lib.hid (HE.out w2 hb2)
    clear hb2
    go_wp2_with fail
    go_ret2
    exact Hz.out
end Go.Proofs.Ytalalegjeegocaa
/- Inventories, part 12: how many machines can be made, in plain words. -/
namespace Go.Proofs.Ytalalegjeegocaa
open Go.RowKit Go.Joins

/-- some piece in front of place m, not the first, belongs to piece j -/
def whoS (xs : List Pc) (m j : Nat) : Bool := (List.range m).any fun k => decide (0 < k) && ((pg xs k).par == (j : Int))
theorem whoS_one (xs : List Pc) (j : Nat) : whoS xs 1 j = false := rfl
theorem whoS_succ (xs : List Pc) {m j : Nat} (h0 : 0 < m) : whoS xs (m + 1) j = (whoS xs m j || ((pg xs m).par == (j : Int))) := by
  unfold whoS
  rw [List.range_succ, List.any_append]
  simp [h0]
theorem whoS_put (xs : List Pc) {m p : Nat} (h0 : 0 < m) (hp : (pg xs m).par = (p : Int)) (n : Nat) : tabB n (putB (whoS xs m) p true) = tabB n (whoS xs (m + 1)) := tabB_congr fun i _ => by
  rw [whoS_succ xs h0, hp]
  unfold putB
  by_cases h : i = p
  · subst h; simp
  · rw [if_neg h]
    have : ((p : Int) == (i : Int)) = false := by simp; omega
    rw [this, Bool.or_false]
/-- the pieces without others are all there -/
def mkB (xs : List Pc) (st : Nat → Int) (n : Nat) (mm : Int) : Bool := allN n fun k => whoS xs n k || (ms xs st mm k == 0)
theorem need_zero {xs : List Pc} {n : Nat} (hs : Shp xs n) {st : Nat → Int} (hst : ∀ i, i < n → 0 ≤ st i) {k : Nat} (hk : k < n) : ms xs st 0 k = 0 := by
  have h := ms_bd hs (M := 0) hst k hk
  rw [Nat.zero_mul] at h
  have e : ((0 : Nat) : Int) = 0 := rfl
  rw [e] at h
  omega
theorem mkB_zero {xs : List Pc} {n : Nat} (hs : Shp xs n) {st : Nat → Int} (hst : ∀ i, i < n → 0 ≤ st i) : mkB xs st n 0 = true := by
  unfold mkB allN
  rw [List.all_eq_true]
  intro k hk
  rw [need_zero hs hst (List.mem_range.1 hk)]
  simp
theorem ms_mono {xs : List Pc} {n : Nat} (hs : Shp xs n) {st : Nat → Int} {a b : Int} (hab : a ≤ b) : ∀ k, k < n → ms xs st a k ≤ ms xs st b k := by
  intro k
  induction k using Nat.strongRecOn with
  | ind k ih =>
    intro hk
    have he := hs.each k hk
    rw [ms_eq hs st a hk, ms_eq hs st b hk]
    have : need xs st a k ≤ need xs st b k := by
      unfold need needS
      by_cases h0 : k = 0
      · subst h0
        rw [if_pos rfl, if_pos rfl]
        exact Int.mul_le_mul_of_nonneg_right hab (by omega)
      · have hp := hs.par k (by omega) hk
        rw [if_neg h0, if_neg h0]
        exact Int.mul_le_mul_of_nonneg_left (ih _ (by omega) (by omega)) (by omega)
    omega
theorem ms_nn {xs : List Pc} {n : Nat} (hs : Shp xs n) (st : Nat → Int) (a : Int) {k : Nat} (hk : k < n) : 0 ≤ ms xs st a k := by
  rw [ms_eq hs st a hk]; omega
theorem mkB_mono {xs : List Pc} {n : Nat} (hs : Shp xs n) {st : Nat → Int} {a b : Int} (hab : a ≤ b) (h : mkB xs st n b = true) : mkB xs st n a = true := by
  unfold mkB at h ⊢
  unfold allN at h ⊢
  rw [List.all_eq_true] at h ⊢
  intro k hk
  have h1 := h k hk
  have hk' := List.mem_range.1 hk
  have h2 := ms_mono hs (st := st) hab k hk'
  have h3 := ms_nn hs st a hk'
  cases hw : whoS xs n k with
  | true => rfl
  | false =>
    rw [hw, Bool.false_or] at h1
    have h1 := eq_of_beq h1
    have : ms xs st a k = 0 := by omega
    rw [this]; rfl
/-- the greatest number of machines that can be made -/
structure BestM (xs : List Pc) (st : Nat → Int) (n r : Nat) : Prop where
  le : r ≤ 1000000
  can : mkB xs st n (r : Int) = true
  top : r = 1000000 ∨ mkB xs st n ((r : Int) + 1) = false
theorem BestM.uniq {xs : List Pc} {st : Nat → Int} {n a b : Nat} (hs : Shp xs n) (ha : BestM xs st n a) (hb : BestM xs st n b) : a = b := by
  have key : ∀ {p q : Nat}, BestM xs st n p → BestM xs st n q → q ≤ p := by
    intro p q hp hq
    rcases hp.top with h | h
    · have := hq.le; omega
    · apply Classical.byContradiction
      intro hn
      have := mkB_mono hs (a := (p : Int) + 1) (b := (q : Int)) (by omega) hq.can
      rw [this] at h
      cases h
  have := key ha hb
  have := key hb ha
  omega
end Go.Proofs.Ytalalegjeegocaa
/- Inventories, part 13: l21Makes. -/
namespace Go.Proofs.Ytalalegjeegocaa
open Go.RowKit Go.Joins

theorem mkB_no {xs : List Pc} {st : Nat → Int} {n : Nat} {mm : Int} {k : Nat} (hk : k < n) (hw : whoS xs n k = false) (h : 0 < ms xs st mm k) : mkB xs st n mm = false :=
  allN_bad k hk (by rw [hw, Bool.false_or]; simp; omega)
set_option maxRecDepth 100000 in
set_option maxHeartbeats 3200000 in
theorem makes_any (B : Nat) (v vs : Value) (xs : List Pc) (st : Nat → Int) (mm : Nat) (w : World) (h : RdP w B v xs) (hst : Rd w B vs xs.length 1 (tab xs.length st)) (hB : B ≤ w.heap.size) (hs : Shp xs xs.length) (hn : xs.length ≤ 40) (h1 : 1 ≤ xs.length)
    (ht : ∀ i, i < xs.length → tot xs i ≤ 1000000) (hq : ∀ i, i < xs.length → 0 ≤ st i ∧ st i ≤ 1000000000000) (hm : mm ≤ 1000000) :
    Calls Try.prog 60 #[v, vs, .int .i64 (mm : Int)] w fun e w' => e = .returned (.bool (mkB xs st xs.length (mm : Int))) ∧ Below w.heap.size w w' := by
  have HM := Lib.hid (msS_any B v vs xs st mm w h hst hB hs hn h1 ht hq hm)
  unfold RetTb at HM
  have H := Lib.hid h
  have HS := Lib.hid hs
  have HNn := Lib.hid (fun k => ms_nn (n := xs.length) hs st (mm : Int) (k := k))
  obtain ⟨A, c, rfl⟩ := h.slice
  obtain ⟨A2, c2, rfl⟩ := rd_sl hst
  clear h hs ht hq hst
  go_enter Try.func60, Try.ntmps60
  go_wp2_with fail
  refine (HM.out).mono ?_; rintro e w2 ⟨v3, rfl, ho3, hb3⟩
  clear HM
  obtain ⟨A3, c3, rfl⟩ := own_sl ho3
  have Ho3 := Lib.hid ho3
  have Hb3 := Lib.hid hb3
  have hle := hb3.size
  obtain ⟨wB, hmk, hob, hbb⟩ := mk_bools xs.length (by omega) w2
  have HoB := Lib.hid hob
  have HbB := Lib.hid hbb
  clear ho3 hb3 hob hbb
  go_wp2_with fail
  clear hmk
  go_loopw [9] (fun i wr => ∃ m : Nat, 1 ≤ m ∧ m ≤ xs.length ∧ i = .int .i64 (m : Int) ∧ wr.ownsRow w2.heap.size 4 1 (.slice (some ⟨w2.heap.size, 0, none⟩) xs.length xs.length) xs.length (tabB xs.length (whoS xs m)) ∧ Below w2.heap.size w2 wr) (fun i _ => xs.length - (intOf i).toNat)
  case atStart => exact ⟨1, by omega, by omega, rfl, by rw [tabB_congr (fun i _ => whoS_one xs i)]; exact HoB.out, HbB.out⟩
  case round =>
    obtain ⟨m, hm1, hm2, rfl, hob, hbl⟩ := hrel
    have Hbl := Lib.hid hbl
    have Hob := Lib.hid hob
    clear HoB HbB
    by_cases hlt : m < xs.length
    · obtain ⟨gb, ob, hA, hat⟩ := (H.out.below ((Hb3.out.mono hB).trans (hbl.mono (Nat.le_trans hB hle)))).at m hlt
      subst hA
      have q1 := hat.c1
      have hp := HS.out.par m (by omega) hlt
      obtain ⟨p, hpe⟩ : ∃ p : Nat, (pg xs m).par = (p : Int) := ⟨(pg xs m).par.toNat, by omega⟩
      have hpu := whoS_put xs (show 0 < m by omega) hpe xs.length
      rw [hpe] at q1 hp
      obtain ⟨y0, y1⟩ := own_cellB hob p (by omega)
      have hob4 := (hob.stored p (.bool true)).1
      rw [tabB_set, hpu] at hob4
      have Hob4 := Lib.hid hob4
      have Hbl4 := Lib.hid (Hbl.out.setCell (p := ⟨w2.heap.size, p, none⟩) (Nat.le_refl _) (.bool true))
      have hlt' : (m : Int) < (xs.length : Int) := by omega
      have hpl : (p : Int) < (xs.length : Int) := by omega
      clear hat hpe hpu hob hbl hob4
      go_wp2_with fail
      go_roundw
      case rel => exact ⟨m + 1, by omega, by omega, by go_num, Hob4.out, Hbl4.out⟩
      case measure => first | (simp [intOf]; done) | (simp [intOf]; omega)
    · obtain rfl : m = xs.length := by omega
      have hlt' : ¬ ((xs.length : Int) < (xs.length : Int)) := by omega
      have Hbf := Lib.hid (Hb3.out.trans (hbl.mono hle))
      obtain ⟨g3, hA3, _, _, hc3⟩ := own_cellsI (own_below Ho3.out hbl) (show 0 < xs.length by omega)
      subst hA3
      have HC3 := Lib.hid hc3
      clear hob hbl hc3
      obtain ⟨wq, rfl⟩ : ∃ z, z = wr := ⟨_, rfl⟩
      go_wp2_with fail
      go_loop [10] (fun i => ∃ k : Nat, k ≤ xs.length ∧ i = .int .i64 (k : Int) ∧ allN k (fun k => whoS xs xs.length k || (ms xs st (mm : Int) k == 0)) = true) (fun i => xs.length - (intOf i).toNat)
      case atStart => exact ⟨0, by omega, rfl, rfl⟩
      case round =>
        obtain ⟨k, hk, rfl, hall⟩ := hrel
        have Hall := Lib.hid hall
        clear hall
        by_cases hlk : k < xs.length
        · have hlk' : (k : Int) < (xs.length : Int) := by omega
          obtain ⟨y0, y1⟩ := own_cellB Hob.out k hlk
          have z0 := HC3.out k hlk
          have hnn := HNn.out k hlk
          cases hw : whoS xs xs.length k with
          | true =>
            have Hst := Lib.hid (allN_step Hall.out (show (whoS xs xs.length k || (ms xs st (mm : Int) k == 0)) = true by rw [hw]; rfl))
            rw [hw] at y0
            clear hw
            go_wp2_with fail
            go_round
            case rel => exact ⟨k + 1, by omega, by go_num, Hst.out⟩
            case measure => first | (simp [intOf]; done) | (simp [intOf]; omega)
          | false =>
            rw [hw] at y0
            by_cases hz : ms xs st (mm : Int) k = 0
            · have Hst := Lib.hid (allN_step Hall.out (show (whoS xs xs.length k || (ms xs st (mm : Int) k == 0)) = true by rw [hz]; simp))
              rw [hz] at z0
              clear hw hz hnn
              go_wp2_with fail
              go_round
              case rel => exact ⟨k + 1, by omega, by go_num, Hst.out⟩
              case measure => first | (simp [intOf]; done) | (simp [intOf]; omega)
            · have hp0 : 0 < ms xs st (mm : Int) k := by omega
              have Hr := Lib.hid (mkB_no hlk hw hp0)
              clear hw hz
              generalize ms xs st (mm : Int) k = y at *
              go_wp2_with fail
              go_ret
              exact ⟨ret_bool Hr.out.symm, Hbf.out⟩
        · obtain rfl : k = xs.length := by omega
          have hlk' : ¬ ((xs.length : Int) < (xs.length : Int)) := by omega
          have Hr := Lib.hid (show mkB xs st xs.length (mm : Int) = true from Hall.out)
          go_wp2_with fail
          go_ret
          exact ⟨ret_bool Hr.out.symm, Hbf.out⟩
end Go.Proofs.Ytalalegjeegocaa
/- Inventories, part 14: MostMachines of the reference. -/
namespace Go.Proofs.Ytalalegjeegocaa
open Go.RowKit Go.Joins

def RetMM (xs : List Pc) (n : Nat) (f : Nat → Int) (w : World) (e : Ending) (w' : World) : Prop := ∃ r : Nat, e = .returned (.tuple #[.int .i64 (r : Int), .int .i64 (stC xs n f)]) ∧ (stC xs n f = 0 → BestM xs f xs.length r) ∧ (stC xs n f ≠ 0 → r = 0) ∧ Below w.heap.size w w'
theorem RetMM.bad {xs : List Pc} {n : Nat} {f : Nat → Int} {c : Int} {w w' : World} (h : stC xs n f = c) (hc : c ≠ 0) (hb : Below w.heap.size w w') : RetMM xs n f w (.returned (.tuple #[.int .i64 0, .int .i64 c])) w' :=
  ⟨0, by rw [h]; rfl, fun h0 => absurd (h.symm.trans h0) hc, fun _ => rfl, hb⟩
theorem RetMM.good {xs : List Pc} {n r : Nat} {f : Nat → Int} {w w' : World} (h : stC xs n f = 0) (hr : BestM xs f xs.length r) (hb : Below w.heap.size w w') : RetMM xs n f w (.returned (.tuple #[.int .i64 (r : Int), .int .i64 0])) w' :=
  ⟨r, by rw [h], fun _ => hr, fun h0 => absurd h h0, hb⟩
set_option maxRecDepth 100000 in
set_option maxHeartbeats 3200000 in
theorem MostS_any (B : Nat) (v vs : Value) (xs : List Pc) (n : Nat) (f : Nat → Int) (w : World) (h : RdP w B v xs) (hst : Rd w B vs n 1 (tab n f)) (hB : B ≤ w.heap.size) (hn : xs.length ≤ 100000) (hn2 : n ≤ 1000) (hz : szP xs) :
    Calls Try.prog 22 #[v, vs] w (RetMM xs n f w) := by
  have HC := Lib.hid (stkS_any B v vs xs n f w h hst hB hn hn2 hz)
  have H := Lib.hid h
  have HS := Lib.hid hst
  obtain ⟨A, c, rfl⟩ := h.slice
  obtain ⟨A2, c2, rfl⟩ := rd_sl hst
  clear h hz hst
  by_cases h0 : stC xs n f = 0
  · obtain ⟨hok, hnl, hq⟩ := stC_ok h0
    obtain ⟨⟨hl1, hl40⟩, _, hsh, htt⟩ := okP_ok hok
    subst hnl
    have HG := Lib.hid (fun r w' hr hb => RetMM.good (r := r) (w := w) (w' := w') h0 hr hb)
    have HM := Lib.hid (fun m wx hx hy hz hm => makes_any B (.slice A xs.length c) (.slice A2 xs.length c2) xs f m wx hx hy hz hsh hl40 hl1 htt hq hm)
    have H0 := Lib.hid (mkB_zero (st := f) hsh (fun i hi => (hq i hi).1))
    rw [h0] at HC
    clear h0 hok hsh htt hq
    go_enter Try.func22, Try.ntmps22
    go_wp2_with fail
    refine (HC.out).mono ?_; rintro e w2 ⟨rfl, hb2⟩
    have Hb2 := Lib.hid hb2
    clear hb2
    go_wp2_with fail
    go_loopw [7, 8] (fun a b wr => ∃ lo hi : Nat, lo < hi ∧ hi ≤ 1000001 ∧ a = .int .i64 (lo : Int) ∧ b = .int .i64 (hi : Int) ∧ mkB xs f xs.length (lo : Int) = true ∧ (hi = 1000001 ∨ mkB xs f xs.length (hi : Int) = false) ∧ Below w.heap.size w wr) (fun a b _ => (intOf b - intOf a).toNat)
    case atStart => exact ⟨0, 1000001, by omega, by omega, rfl, rfl, H0.out, .inl rfl, Hb2.out⟩
    case round =>
      obtain ⟨lo, hi, hlh, hhi, rfl, rfl, hlo, hhi2, hbl⟩ := hrel
      have Hlo := Lib.hid hlo
      have Hhi := Lib.hid hhi2
      have Hbl := Lib.hid hbl
      have hw1 : IntKind.i64.wrap ((hi : Int) - (lo : Int)) = (hi : Int) - (lo : Int) := IntWalk.i64_in _ (by omega)
      clear hlo hhi2
      by_cases hgo : 1 < (hi : Int) - (lo : Int)
      · obtain ⟨mid, hmid⟩ : ∃ mid : Nat, mid = (lo + hi) / 2 := ⟨_, rfl⟩
        have hmd : lo < mid ∧ mid < hi := by omega
        have hw2 : IntKind.i64.wrap ((lo : Int) + (hi : Int)) = (lo : Int) + (hi : Int) := IntWalk.i64_in _ (by omega)
        have hq2 : ((lo : Int) + (hi : Int)).tdiv 2 = (mid : Int) := by rw [Int.tdiv_eq_ediv_of_nonneg (by omega)]; omega
        have hw3 : IntKind.i64.wrap (mid : Int) = (mid : Int) := IntWalk.i64_in _ (by omega)
        have HK := Lib.hid (HM.out mid wr (H.out.below (hbl.mono hB)) (RdF_below HS.out (hbl.mono hB)) (Nat.le_trans hB hbl.size) (by omega))
        clear hmid hbl
        cases hk : mkB xs f xs.length (mid : Int) with
        | true =>
          rw [hk] at HK
          have Hk := Lib.hid hk
          clear hk
          go_wp2_with fail
          refine (HK.out).mono ?_; rintro e w4 ⟨rfl, hb4⟩
          have Hb4 := Lib.hid (Hbl.out.trans (hb4.mono Hbl.out.size))
          clear hb4
          go_wp2_with fail
          go_roundw
          case rel => exact ⟨mid, hi, hmd.2, hhi, rfl, rfl, Hk.out, Hhi.out, Hb4.out⟩
          case measure => simp [intOf]; omega
        | false =>
          rw [hk] at HK
          have Hk := Lib.hid hk
          clear hk
          go_wp2_with fail
          refine (HK.out).mono ?_; rintro e w4 ⟨rfl, hb4⟩
          have Hb4 := Lib.hid (Hbl.out.trans (hb4.mono Hbl.out.size))
          clear hb4
          go_wp2_with fail
          go_roundw
          case rel => exact ⟨lo, mid, hmd.1, by omega, rfl, rfl, Hlo.out, .inr Hk.out, Hb4.out⟩
          case measure => simp [intOf]; omega
      · have hbest : BestM xs f xs.length lo := ⟨by omega, Hlo.out, by
          rcases Hhi.out with h | h
          · exact .inl (by omega)
          · refine .inr ?_
            have e : (lo : Int) + 1 = (hi : Int) := by omega
            rw [e]; exact h⟩
        have Hz := Lib.hid (HG.out lo wr hbest hbl)
        clear hbest hbl
        go_wp2_with fail
        go_ret2
        exact Hz.out
  · obtain ⟨c1, hc1⟩ : ∃ z, stC xs n f = z := ⟨_, rfl⟩
    rw [hc1] at HC h0
    have HE := Lib.hid (fun w' hb => RetMM.bad (w := w) (w' := w') hc1 h0 hb)
    have hcb : (c1 == 0) = false := by simp [h0]
    have hcb2 : (c1 != 0) = true := by simp [h0]
    clear hc1
    go_enter Try.func22, Try.ntmps22
    go_wp2_with fail
    refine (HC.out).mono ?_; rintro e w2 ⟨rfl, hb2⟩
    have Hz := Lib.hid (HE.out w2 hb2)
    clear hb2
    go_wp2_with fail
    go_ret2
    exact Hz.out
end Go.Proofs.Ytalalegjeegocaa
/- Inventories, part 15: MostMachines of the program. -/
namespace Go.Proofs.Ytalalegjeegocaa
open Go.RowKit Go.Joins

set_option maxRecDepth 100000 in
set_option maxHeartbeats 6400000 in
theorem MostI_any (B : Nat) (v vs : Value) (xs : List Pc) (n : Nat) (f : Nat → Int) (w : World) (h : RdP w B v xs) (hst : Rd w B vs n 1 (tab n f)) (hB : B ≤ w.heap.size) (hn : xs.length ≤ 100000) (hn2 : n ≤ 1000) (hz : szP xs) (hcp : ∀ A c, v = .slice A xs.length c → xs.length ≤ c) :
    Calls Try.prog 21 #[v, vs] w (RetMM xs n f w) := by
  have HC := Lib.hid (stkI_any B v vs xs n f w h hst hB hn hn2 hz)
  have H := Lib.hid h
  have HR := Lib.hid hst
  obtain ⟨A, c, rfl⟩ := h.slice
  obtain ⟨A2, c2, rfl⟩ := rd_sl hst
  have hcap := hcp _ _ rfl
  clear h hz hst hcp
  by_cases h0 : stC xs n f = 0
  · obtain ⟨hok, hnl, hq⟩ := stC_ok h0
    obtain ⟨⟨hl1, hl40⟩, _, hsh, htt⟩ := okP_ok hok
    subst hnl
    have HG := Lib.hid (fun r w' hr hb => RetMM.good (r := r) (w := w) (w' := w') h0 hr hb)
    have HM := Lib.hid (fun m wx hx hy hz hm => msI_any B (.slice A xs.length c) (.slice A2 xs.length c2) xs f m wx hx hy hz hsh hl40 hl1 htt hq hm)
    have H0 := Lib.hid (mkB_zero (st := f) hsh (fun i hi => (hq i hi).1))
    have HS := Lib.hid hsh
    rw [h0] at HC
    clear h0 hok hsh htt hq
    obtain ⟨gb, ob, hA, _⟩ := H.out.at 0 (by omega)
    subst hA
    go_enter Try.func21, Try.ntmps21
    go_wp2_with fail
    refine (HC.out).mono ?_; rintro e w2 ⟨rfl, hb2⟩
    have Hb2 := Lib.hid hb2
    have hle := hb2.size
    obtain ⟨wB, hmk, hob, hbb⟩ := mk_bools xs.length (by omega) w2
    have HoB := Lib.hid hob
    have HbB := Lib.hid hbb
    have hl1' : (1 : Int) ≤ (xs.length : Int) := by omega
    clear hb2 hob hbb
    by_cases hc1 : c = 1
    · have Hx1 := Lib.hid (show xs.length = 1 by omega)
      have hcc : ¬ (1 < c) := by omega
      clear hc1
      go_wp2_with fail
      clear hmk
      go_loopw [28] (fun i wr => ∃ j : Nat, j + 1 ≤ xs.length ∧ i = .int .i64 (j : Int) ∧ wr.ownsRow w2.heap.size 4 1 (.slice (some ⟨w2.heap.size, 0, none⟩) xs.length xs.length) xs.length (tabB xs.length (whoS xs (j + 1))) ∧ Below w2.heap.size w2 wr) (fun i _ => xs.length - (intOf i).toNat)
      case atStart => exact ⟨0, by omega, rfl, by rw [tabB_congr (fun i _ => whoS_one xs i)]; exact HoB.out, HbB.out⟩
      case round =>
        obtain ⟨j, hj, rfl, hob, hbl⟩ := hrel
        have Hbl := Lib.hid hbl
        have Hob := Lib.hid hob
        clear HoB HbB
        by_cases hlt : j + 1 < xs.length
        · exact absurd hlt (by have := Hx1.out; omega)
        · have hlt' : ¬ ((j : Int) < ((xs.length - 1 : Nat) : Int)) := by omega
          have hje : j + 1 = xs.length := by omega
          rw [hje] at hob
          have HoQ := Lib.hid hob
          have HbQ := Lib.hid (Hb2.out.trans (hbl.mono hle))
          clear hob hbl Hob Hbl
          go_wp2_with fail
          go_loopw [10, 11] (fun a b wr => ∃ lo hi : Nat, lo ≤ hi ∧ hi ≤ 1000000 ∧ a = .int .i64 (lo : Int) ∧ b = .int .i64 (hi : Int) ∧ mkB xs f xs.length (lo : Int) = true ∧ (hi = 1000000 ∨ mkB xs f xs.length ((hi : Int) + 1) = false) ∧ wr.ownsRow w2.heap.size 4 1 (.slice (some ⟨w2.heap.size, 0, none⟩) xs.length xs.length) xs.length (tabB xs.length (whoS xs xs.length)) ∧ Below w.heap.size w wr) (fun a b _ => (intOf b - intOf a).toNat)
          case atStart => exact ⟨0, 1000000, by omega, by omega, rfl, rfl, H0.out, .inl rfl, HoQ.out, HbQ.out⟩
          case round =>
            obtain ⟨lo, hi, hlh, hhi, rfl, rfl, hlo, hhi2, hob, hbl⟩ := hrel
            have Hlo := Lib.hid hlo
            have Hhi := Lib.hid hhi2
            have Hbl := Lib.hid hbl
            clear hlo hhi2 HoQ HbQ
            obtain ⟨wo, rfl⟩ : ∃ z, z = wr := ⟨_, rfl⟩
            by_cases hgo : (lo : Int) < (hi : Int)
            · obtain ⟨mid, hmid⟩ : ∃ mid : Nat, mid = (lo + hi + 1) / 2 := ⟨_, rfl⟩
              have hmd : lo < mid ∧ mid ≤ hi := by omega
              have hw1 : IntKind.i64.wrap ((lo : Int) + (hi : Int)) = (lo : Int) + (hi : Int) := IntWalk.i64_in _ (by omega)
              have hw2 : IntKind.i64.wrap ((lo : Int) + (hi : Int) + 1) = (lo : Int) + (hi : Int) + 1 := IntWalk.i64_in _ (by omega)
              have hq2 : ((lo : Int) + (hi : Int) + 1).tdiv 2 = (mid : Int) := by rw [Int.tdiv_eq_ediv_of_nonneg (by omega)]; omega
              have hw3 : IntKind.i64.wrap (mid : Int) = (mid : Int) := IntWalk.i64_in _ (by omega)
              have hw4 : IntKind.i64.wrap ((mid : Int) - 1) = ((mid - 1 : Nat) : Int) := by rw [IntWalk.i64_in _ (by omega)]; omega
              have HK := Lib.hid (HM.out mid wo (H.out.below (hbl.mono hB)) (RdF_below HR.out (hbl.mono hB)) (Nat.le_trans hB hbl.size) (by omega))
              unfold RetTb at HK
              have Hob := Lib.hid hob
              clear hmid hbl hob
              go_wp2_with fail
              refine (HK.out).mono ?_; rintro e w4 ⟨v4, rfl, ho4, hb4⟩
              have Hbl4 := Lib.hid (Hbl.out.trans (hb4.mono Hbl.out.size))
              have Hob4 := Lib.hid (own_below Hob.out hb4)
              obtain ⟨A4, c4, rfl⟩ := own_sl ho4
              obtain ⟨g4, hA4, _, _, hc4⟩ := own_cellsI ho4 (show 0 < xs.length by omega)
              subst hA4
              have HC4 := Lib.hid hc4
              clear hb4 ho4 hc4 HK Hob
              go_wp2_with fail
              go_loop [13, 50] (fun e i => ∃ k : Nat, k ≤ xs.length ∧ i = .int .i64 (k : Int) ∧ e = .bool (allN k (fun k => whoS xs xs.length k || (ms xs f (mid : Int) k == 0)))) (fun _ i => xs.length - (intOf i).toNat)
              case atStart => exact ⟨0, by omega, rfl, rfl⟩
              case round =>
                obtain ⟨k, hk, rfl, rfl⟩ := hrel
                by_cases hlk : k < xs.length
                · have hlk' : (k : Int) < (xs.length : Int) := by omega
                  obtain ⟨y0, y1⟩ := own_cellB Hob4.out k hlk
                  have z0 := HC4.out k hlk
                  have Hst := Lib.hid (show allN (k + 1) (fun k => whoS xs xs.length k || (ms xs f (mid : Int) k == 0)) = (allN k (fun k => whoS xs xs.length k || (ms xs f (mid : Int) k == 0)) && (whoS xs xs.length k || (ms xs f (mid : Int) k == 0))) from by unfold allN; rw [List.range_succ, List.all_append]; simp)
                  generalize whoS xs xs.length k = wh at *
                  generalize ms xs f (mid : Int) k = y at *
                  cases hal : allN k (fun k => whoS xs xs.length k || (ms xs f (mid : Int) k == 0)) with
                  | false =>
                    rw [hal] at Hst
                    clear hal
                    go_wp2_with fail
                    go_round
                    case rel => exact ⟨k + 1, by omega, by go_num, by rw [Hst.out]; rfl⟩
                    case measure => first | (simp [intOf]; done) | (simp [intOf]; omega)
                  | true =>
                    rw [hal] at Hst
                    clear hal
                    cases wh with
                    | true =>
                      go_wp2_with fail
                      go_round
                      case rel => exact ⟨k + 1, by omega, by go_num, by rw [Hst.out]; rfl⟩
                      case measure => first | (simp [intOf]; done) | (simp [intOf]; omega)
                    | false =>
                      go_wp2_with fail
                      go_round
                      case rel => exact ⟨k + 1, by omega, by go_num, by rw [Hst.out]; rfl⟩
                      case measure => first | (simp [intOf]; done) | (simp [intOf]; omega)
                · obtain rfl : k = xs.length := by omega
                  have hlk' : ¬ ((xs.length : Int) < (xs.length : Int)) := by omega
                  cases hk : allN xs.length (fun k => whoS xs xs.length k || (ms xs f (mid : Int) k == 0)) with
                  | true =>
                    have Hk := Lib.hid (show mkB xs f xs.length (mid : Int) = true from hk)
                    clear hk
                    go_wp2_with fail
                    go_roundw
                    case rel => exact ⟨mid, hi, hmd.2, hhi, rfl, rfl, Hk.out, Hhi.out, Hob4.out, Hbl4.out⟩
                    case measure => simp [intOf]; omega
                  | false =>
                    have Hk := Lib.hid (show mkB xs f xs.length (mid : Int) = false from hk)
                    clear hk
                    go_wp2_with fail
                    go_roundw
                    case rel => exact ⟨lo, mid - 1, by omega, by omega, rfl, rfl, Hlo.out, .inr (by rw [show ((mid - 1 : Nat) : Int) + 1 = (mid : Int) by omega]; exact Hk.out), Hob4.out, Hbl4.out⟩
                    case measure => simp [intOf]; omega
            · have hbest : BestM xs f xs.length lo := ⟨by omega, Hlo.out, by
                have e : lo = hi := by omega
                rcases Hhi.out with h | h
                · exact .inl (by omega)
                · refine .inr ?_
                  rw [e]; exact h⟩
              have Hz := Lib.hid (HG.out lo wo hbest hbl)
              clear hbest hbl hob
              go_wp2_with fail
              go_ret2
              exact Hz.out
    · have hcc : 1 < c := by omega
      go_wp2_with fail
      clear hmk
      go_loopw [28] (fun i wr => ∃ j : Nat, j + 1 ≤ xs.length ∧ i = .int .i64 (j : Int) ∧ wr.ownsRow w2.heap.size 4 1 (.slice (some ⟨w2.heap.size, 0, none⟩) xs.length xs.length) xs.length (tabB xs.length (whoS xs (j + 1))) ∧ Below w2.heap.size w2 wr) (fun i _ => xs.length - (intOf i).toNat)
      case atStart => exact ⟨0, by omega, rfl, by rw [tabB_congr (fun i _ => whoS_one xs i)]; exact HoB.out, HbB.out⟩
      case round =>
        obtain ⟨j, hj, rfl, hob, hbl⟩ := hrel
        have Hbl := Lib.hid hbl
        have Hob := Lib.hid hob
        clear HoB HbB
        by_cases hlt : j + 1 < xs.length
        · obtain ⟨gb', ob', hA', hat⟩ := (H.out.below ((Hb2.out.mono hB).trans (hbl.mono (Nat.le_trans hB hle)))).at (j + 1) hlt
          injection hA' with hA'
          injection hA' with e1 e2
          subst e1 e2
          rw [show ob + (j + 1) * 4 = ob + 4 + j * 4 by omega] at hat
          have p0 := hat.c0
          have p1 := hat.c1
          have p2 := hat.c2
          have p3 := hat.c3
          have hlt' : (j : Int) < ((xs.length - 1 : Nat) : Int) := by omega
          have hp := HS.out.par (j + 1) (by omega) hlt
          obtain ⟨p, hpe⟩ : ∃ p : Nat, (pg xs (j + 1)).par = (p : Int) := ⟨(pg xs (j + 1)).par.toNat, by omega⟩
          have hpu := whoS_put xs (show 0 < j + 1 by omega) hpe xs.length
          rw [hpe] at p1 hp
          have hba := (Below.refl wr.heap.size wr).alloc (Nat.le_refl _) (.cells #[.string (pg xs (j + 1)).name, .int .i64 (p : Int), .int .i64 (pg xs (j + 1)).each, .int .i64 (pg xs (j + 1)).price] 79)
          have Hbl := Lib.hid (Hbl.out.trans (hba.mono Hbl.out.size))
          have hob := own_below hob hba
          have HCa := Lib.hid (heap_alloc_new wr (.cells #[.string (pg xs (j + 1)).name, .int .i64 (p : Int), .int .i64 (pg xs (j + 1)).each, .int .i64 (pg xs (j + 1)).price] 79))
          clear hat hpe hba hbl
          generalize (pg xs (j + 1)).name = nm at *
          generalize (pg xs (j + 1)).each = ek at *
          generalize (pg xs (j + 1)).price = pr at *
          go_upto_region 8 with (fail)
          generalize wr.alloc (.cells #[.string nm, .int .i64 (p : Int), .int .i64 ek, .int .i64 pr] 79) = wa at *
          generalize wr.heap.size = ga at *
          clear p0 p1 p2 p3
          obtain ⟨y0, y1, y2, y3⟩ := cells4 HCa.out
          obtain ⟨x0, x1⟩ := own_cellB hob p (by omega)
          have hob4 := (hob.stored p (.bool true)).1
          rw [tabB_set, hpu] at hob4
          have Hob4 := Lib.hid hob4
          have Hbl4 := Lib.hid (Hbl.out.setCell (p := ⟨w2.heap.size, p, none⟩) (Nat.le_refl _) (.bool true))
          have hpl : (p : Int) < (xs.length : Int) := by omega
          clear hpu hob hob4 Hob
          go_wp2_with fail
          go_roundw
          case rel => exact ⟨j + 1, by omega, by go_num, Hob4.out, Hbl4.out⟩
          case measure => first | (simp [intOf]; done) | (simp [intOf]; omega)
        · have hlt' : ¬ ((j : Int) < ((xs.length - 1 : Nat) : Int)) := by omega
          have hje : j + 1 = xs.length := by omega
          rw [hje] at hob
          have HoQ := Lib.hid hob
          have HbQ := Lib.hid (Hb2.out.trans (hbl.mono hle))
          clear hob hbl Hob Hbl
          go_wp2_with fail
          go_loopw [10, 11] (fun a b wr => ∃ lo hi : Nat, lo ≤ hi ∧ hi ≤ 1000000 ∧ a = .int .i64 (lo : Int) ∧ b = .int .i64 (hi : Int) ∧ mkB xs f xs.length (lo : Int) = true ∧ (hi = 1000000 ∨ mkB xs f xs.length ((hi : Int) + 1) = false) ∧ wr.ownsRow w2.heap.size 4 1 (.slice (some ⟨w2.heap.size, 0, none⟩) xs.length xs.length) xs.length (tabB xs.length (whoS xs xs.length)) ∧ Below w.heap.size w wr) (fun a b _ => (intOf b - intOf a).toNat)
          case atStart => exact ⟨0, 1000000, by omega, by omega, rfl, rfl, H0.out, .inl rfl, HoQ.out, HbQ.out⟩
          case round =>
            obtain ⟨lo, hi, hlh, hhi, rfl, rfl, hlo, hhi2, hob, hbl⟩ := hrel
            have Hlo := Lib.hid hlo
            have Hhi := Lib.hid hhi2
            have Hbl := Lib.hid hbl
            clear hlo hhi2 HoQ HbQ
            obtain ⟨wo, rfl⟩ : ∃ z, z = wr := ⟨_, rfl⟩
            by_cases hgo : (lo : Int) < (hi : Int)
            · obtain ⟨mid, hmid⟩ : ∃ mid : Nat, mid = (lo + hi + 1) / 2 := ⟨_, rfl⟩
              have hmd : lo < mid ∧ mid ≤ hi := by omega
              have hw1 : IntKind.i64.wrap ((lo : Int) + (hi : Int)) = (lo : Int) + (hi : Int) := IntWalk.i64_in _ (by omega)
              have hw2 : IntKind.i64.wrap ((lo : Int) + (hi : Int) + 1) = (lo : Int) + (hi : Int) + 1 := IntWalk.i64_in _ (by omega)
              have hq2 : ((lo : Int) + (hi : Int) + 1).tdiv 2 = (mid : Int) := by rw [Int.tdiv_eq_ediv_of_nonneg (by omega)]; omega
              have hw3 : IntKind.i64.wrap (mid : Int) = (mid : Int) := IntWalk.i64_in _ (by omega)
              have hw4 : IntKind.i64.wrap ((mid : Int) - 1) = ((mid - 1 : Nat) : Int) := by rw [IntWalk.i64_in _ (by omega)]; omega
              have HK := Lib.hid (HM.out mid wo (H.out.below (hbl.mono hB)) (RdF_below HR.out (hbl.mono hB)) (Nat.le_trans hB hbl.size) (by omega))
              unfold RetTb at HK
              have Hob := Lib.hid hob
              clear hmid hbl hob
              go_wp2_with fail
              refine (HK.out).mono ?_; rintro e w4 ⟨v4, rfl, ho4, hb4⟩
              have Hbl4 := Lib.hid (Hbl.out.trans (hb4.mono Hbl.out.size))
              have Hob4 := Lib.hid (own_below Hob.out hb4)
              obtain ⟨A4, c4, rfl⟩ := own_sl ho4
              obtain ⟨g4, hA4, _, _, hc4⟩ := own_cellsI ho4 (show 0 < xs.length by omega)
              subst hA4
              have HC4 := Lib.hid hc4
              clear hb4 ho4 hc4 HK Hob
              go_wp2_with fail
              go_loop [13, 50] (fun e i => ∃ k : Nat, k ≤ xs.length ∧ i = .int .i64 (k : Int) ∧ e = .bool (allN k (fun k => whoS xs xs.length k || (ms xs f (mid : Int) k == 0)))) (fun _ i => xs.length - (intOf i).toNat)
              case atStart => exact ⟨0, by omega, rfl, rfl⟩
              case round =>
                obtain ⟨k, hk, rfl, rfl⟩ := hrel
                by_cases hlk : k < xs.length
                · have hlk' : (k : Int) < (xs.length : Int) := by omega
                  obtain ⟨y0, y1⟩ := own_cellB Hob4.out k hlk
                  have z0 := HC4.out k hlk
                  have Hst := Lib.hid (show allN (k + 1) (fun k => whoS xs xs.length k || (ms xs f (mid : Int) k == 0)) = (allN k (fun k => whoS xs xs.length k || (ms xs f (mid : Int) k == 0)) && (whoS xs xs.length k || (ms xs f (mid : Int) k == 0))) from by unfold allN; rw [List.range_succ, List.all_append]; simp)
                  generalize whoS xs xs.length k = wh at *
                  generalize ms xs f (mid : Int) k = y at *
                  cases hal : allN k (fun k => whoS xs xs.length k || (ms xs f (mid : Int) k == 0)) with
                  | false =>
                    rw [hal] at Hst
                    clear hal
                    go_wp2_with fail
                    go_round
                    case rel => exact ⟨k + 1, by omega, by go_num, by rw [Hst.out]; rfl⟩
                    case measure => first | (simp [intOf]; done) | (simp [intOf]; omega)
                  | true =>
                    rw [hal] at Hst
                    clear hal
                    cases wh with
                    | true =>
                      go_wp2_with fail
                      go_round
                      case rel => exact ⟨k + 1, by omega, by go_num, by rw [Hst.out]; rfl⟩
                      case measure => first | (simp [intOf]; done) | (simp [intOf]; omega)
                    | false =>
                      go_wp2_with fail
                      go_round
                      case rel => exact ⟨k + 1, by omega, by go_num, by rw [Hst.out]; rfl⟩
                      case measure => first | (simp [intOf]; done) | (simp [intOf]; omega)
                · obtain rfl : k = xs.length := by omega
                  have hlk' : ¬ ((xs.length : Int) < (xs.length : Int)) := by omega
                  cases hk : allN xs.length (fun k => whoS xs xs.length k || (ms xs f (mid : Int) k == 0)) with
                  | true =>
                    have Hk := Lib.hid (show mkB xs f xs.length (mid : Int) = true from hk)
                    clear hk
                    go_wp2_with fail
                    go_roundw
                    case rel => exact ⟨mid, hi, hmd.2, hhi, rfl, rfl, Hk.out, Hhi.out, Hob4.out, Hbl4.out⟩
                    case measure => simp [intOf]; omega
                  | false =>
                    have Hk := Lib.hid (show mkB xs f xs.length (mid : Int) = false from hk)
                    clear hk
                    go_wp2_with fail
                    go_roundw
                    case rel => exact ⟨lo, mid - 1, by omega, by omega, rfl, rfl, Hlo.out, .inr (by rw [show ((mid - 1 : Nat) : Int) + 1 = (mid : Int) by omega]; exact Hk.out), Hob4.out, Hbl4.out⟩
                    case measure => simp [intOf]; omega
            · have hbest : BestM xs f xs.length lo := ⟨by omega, Hlo.out, by
                have e : lo = hi := by omega
                rcases Hhi.out with h | h
                · exact .inl (by omega)
                · refine .inr ?_
                  rw [e]; exact h⟩
              have Hz := Lib.hid (HG.out lo wo hbest hbl)
              clear hbest hbl hob
              go_wp2_with fail
              go_ret2
              exact Hz.out
  · obtain ⟨c1, hc1⟩ : ∃ z, stC xs n f = z := ⟨_, rfl⟩
    rw [hc1] at HC h0
    have HE := Lib.hid (fun w' hb => RetMM.bad (w := w) (w' := w') hc1 h0 hb)
    have hcb : (c1 == 0) = false := by simp [h0]
    have hcb2 : (c1 != 0) = true := by simp [h0]
    clear hc1
    go_enter Try.func21, Try.ntmps21
    go_wp2_with fail
    refine (HC.out).mono ?_; rintro e w2 ⟨rfl, hb2⟩
    have Hz := Lib.hid (HE.out w2 hb2)
    clear hb2
    go_wp2_with fail
    go_ret2
    exact Hz.out
end Go.Proofs.Ytalalegjeegocaa
/- Inventories, part 16: a list without a piece and all that belongs to it, in plain words. -/
namespace Go.Proofs.Ytalalegjeegocaa

/-- the places that stay -/
def kpt (xs : List Pc) (k m : Nat) : List Nat := (List.range m).filter fun i => !(und xs k i)
/-- the new place of a piece -/
def plc (xs : List Pc) (k i : Nat) : Nat := (kpt xs k i).length
def cutP (xs : List Pc) (k i : Nat) : Pc := if i = 0 then pg xs 0 else { pg xs i with par := (plc xs k (pg xs i).par.toNat : Int) }
def cutL (xs : List Pc) (k m : Nat) : List Pc := (kpt xs k m).map (cutP xs k)
theorem kpt_no {xs : List Pc} {k m : Nat} (h : und xs k m = true) : kpt xs k (m + 1) = kpt xs k m := by
  unfold kpt
  rw [List.range_succ, List.filter_append]
  simp [h]
theorem kpt_yes {xs : List Pc} {k m : Nat} (h : und xs k m = false) : kpt xs k (m + 1) = kpt xs k m ++ [m] := by
  unfold kpt
  rw [List.range_succ, List.filter_append]
  simp [h]
theorem cutL_no {xs : List Pc} {k m : Nat} (h : und xs k m = true) : cutL xs k (m + 1) = cutL xs k m := by unfold cutL; rw [kpt_no h]
theorem cutL_yes {xs : List Pc} {k m : Nat} (h : und xs k m = false) : cutL xs k (m + 1) = cutL xs k m ++ [cutP xs k m] := by unfold cutL; rw [kpt_yes h, List.map_append]; rfl
theorem cutL_len (xs : List Pc) (k m : Nat) : (cutL xs k m).length = plc xs k m := by unfold cutL plc; rw [List.length_map]
theorem plc_le (xs : List Pc) (k m : Nat) : plc xs k m ≤ m := by
  unfold plc kpt
  exact Nat.le_trans (List.length_filter_le _ _) (by simp)
theorem plc_no {xs : List Pc} {k m : Nat} (h : und xs k m = true) : plc xs k (m + 1) = plc xs k m := by unfold plc; rw [kpt_no h]
theorem plc_yes {xs : List Pc} {k m : Nat} (h : und xs k m = false) : plc xs k (m + 1) = plc xs k m + 1 := by unfold plc; rw [kpt_yes h, List.length_append]; rfl
theorem plc_step (xs : List Pc) (k m : Nat) : plc xs k m ≤ plc xs k (m + 1) := by
  cases h : und xs k m with
  | true => rw [plc_no h]; exact Nat.le_refl _
  | false => rw [plc_yes h]; omega
theorem plc_mono (xs : List Pc) (k : Nat) {a : Nat} : ∀ {b : Nat}, a ≤ b → plc xs k a ≤ plc xs k b := by
  intro b
  induction b with
  | zero => intro h; rw [Nat.le_zero.1 h]; exact Nat.le_refl _
  | succ b ih =>
    intro h
    by_cases e : a = b + 1
    · rw [e]; exact Nat.le_refl _
    · exact Nat.le_trans (ih (by omega)) (plc_step xs k b)
/-- a piece that stays: its parent stays -/
theorem par_stays {xs : List Pc} {n k i : Nat} (hs : Shp xs n) (h0 : 0 < i) (hi : i < n) (h : und xs k i = false) : und xs k (pg xs i).par.toNat = false := by
  have hp := hs.par i h0 hi
  by_cases h1 : k < i
  · rw [← und_step hs h1 hi]; exact h
  · by_cases h2 : i = k
    · subst h2; rw [und_self] at h; cases h
    · exact und_lt xs (by omega)
theorem plc_lt {xs : List Pc} {k i m : Nat} (h : i < m) (hu : und xs k i = false) : plc xs k i < plc xs k m := by
  have := plc_mono xs k (show i + 1 ≤ m from h)
  rw [plc_yes hu] at this
  omega
/-- a piece that stays, at its new place -/
theorem cutL_at {xs : List Pc} {k i : Nat} (hu : und xs k i = false) : ∀ m, i < m → pg (cutL xs k m) (plc xs k i) = cutP xs k i
  | 0, h => by omega
  | m + 1, h => by
    have hl := cutL_len xs k m
    cases hm : und xs k m with
    | true =>
      have hne : i ≠ m := fun e => by rw [e, hm] at hu; cases hu
      rw [cutL_no hm]
      exact cutL_at hu m (by omega)
    | false =>
      rw [cutL_yes hm]
      unfold pg
      by_cases e : i = m
      · subst e
        rw [← hl]
        exact getD_last _ _ _
      · have := plc_lt (show i < m by omega) hu
        rw [getD_left _ _ _ _ (by omega)]
        exact cutL_at hu m (by omega)
/-- a place of the list that is left is the new place of a piece that stays -/
theorem plc_onto (xs : List Pc) (k : Nat) : ∀ m j, j < plc xs k m → ∃ i, i < m ∧ und xs k i = false ∧ plc xs k i = j
  | 0, j, h => by
    have := plc_le xs k 0
    omega
  | m + 1, j, h => by
    cases hm : und xs k m with
    | true =>
      rw [plc_no hm] at h
      obtain ⟨i, h1, h2, h3⟩ := plc_onto xs k m j h
      exact ⟨i, by omega, h2, h3⟩
    | false =>
      rw [plc_yes hm] at h
      by_cases e : j = plc xs k m
      · exact ⟨m, by omega, hm, e.symm⟩
      · obtain ⟨i, h1, h2, h3⟩ := plc_onto xs k m j (by omega)
        exact ⟨i, by omega, h2, h3⟩
theorem plc_inj {xs : List Pc} {k i j : Nat} (hi : und xs k i = false) (hj : und xs k j = false) (h : plc xs k i = plc xs k j) : i = j := by
  rcases Nat.lt_trichotomy i j with h1 | h1 | h1
  · have := plc_lt h1 hi; omega
  · exact h1
  · have := plc_lt h1 hj; omega
theorem plc_zero (xs : List Pc) (k : Nat) : plc xs k 0 = 0 := Nat.le_zero.1 (plc_le xs k 0)
/-- the list that is left has the shape of pieces -/
theorem cut_shp {xs : List Pc} {n k : Nat} (hs : Shp xs n) (hk : 0 < k) : Shp (cutL xs k n) (plc xs k n) := by
  refine ⟨fun h0 => ?_, fun j h0 hj => ?_, fun j hj => ?_⟩
  · have hn : 0 < n := by have := plc_le xs k n; omega
    have h := cutL_at (und_lt xs hk) n hn
    rw [plc_zero] at h
    rw [h]
    exact hs.par0 hn
  · obtain ⟨i, h1, h2, h3⟩ := plc_onto xs k n j hj
    have hi : i ≠ 0 := fun e => by subst e; rw [plc_zero] at h3; omega
    have h := cutL_at h2 n h1
    rw [h3] at h
    rw [h]
    unfold cutP
    rw [if_neg hi]
    have hp := hs.par i (by omega) h1
    have := plc_lt (show (pg xs i).par.toNat < i by omega) (par_stays hs (by omega) h1 h2)
    show (0 : Int) ≤ (plc xs k (pg xs i).par.toNat : Int) ∧ (plc xs k (pg xs i).par.toNat : Int) < (j : Int)
    omega
  · obtain ⟨i, h1, h2, h3⟩ := plc_onto xs k n j hj
    have h := cutL_at h2 n h1
    rw [h3] at h
    rw [h]
    have he := hs.each i h1
    unfold cutP
    split
    · rename_i e
      subst e
      exact he
    · exact he
theorem cut_tot {xs : List Pc} {n k : Nat} (hs : Shp xs n) (hk : 0 < k) : ∀ i, i < n → und xs k i = false → tot (cutL xs k n) (plc xs k i) = tot xs i := by
  intro i
  induction i using Nat.strongRecOn with
  | ind i ih =>
    intro hi hu
    have hsc := cut_shp hs hk
    have h := cutL_at hu n hi
    have hl := plc_lt hi hu
    by_cases h0 : i = 0
    · subst h0
      rw [plc_zero] at h hl ⊢
      rw [tot_zero hsc hl, tot_zero hs hi, h]
      rfl
    · have hp := hs.par i (by omega) hi
      have hlt : (pg xs i).par.toNat < i := by omega
      have h0l := plc_lt (show 0 < i by omega) (und_lt xs hk)
      rw [tot_step hsc (by omega) hl, tot_step hs (by omega) hi, h]
      have e : (cutP xs k i).par = (plc xs k (pg xs i).par.toNat : Int) := by unfold cutP; rw [if_neg h0]
      have e2 : (cutP xs k i).each = (pg xs i).each := by unfold cutP; rw [if_neg h0]
      rw [e, e2, Int.toNat_natCast, ih _ hlt (by omega) (par_stays hs (by omega) hi hu)]
end Go.Proofs.Ytalalegjeegocaa
/- Inventories, part 17: the list that is left is a valid one. -/
namespace Go.Proofs.Ytalalegjeegocaa

theorem cutP_name (xs : List Pc) (k i : Nat) : (cutP xs k i).name = (pg xs i).name := by
  unfold cutP; split
  · rename_i e; subst e; rfl
  · rfl
theorem cutP_each (xs : List Pc) (k i : Nat) : (cutP xs k i).each = (pg xs i).each := by
  unfold cutP; split
  · rename_i e; subst e; rfl
  · rfl
theorem cutP_price (xs : List Pc) (k i : Nat) : (cutP xs k i).price = (pg xs i).price := by
  unfold cutP; split
  · rename_i e; subst e; rfl
  · rfl
theorem cut_ok {xs : List Pc} {k : Nat} (h : okP xs = true) (hk : 0 < k) : okP (cutL xs k xs.length) = true := by
  obtain ⟨⟨hl1, hl40⟩, hall, hsh, htt⟩ := okP_ok h
  have hsc := cut_shp hsh hk
  have hlen := cutL_len xs k xs.length
  have hle := plc_le xs k xs.length
  have h0l := plc_lt (show 0 < xs.length by omega) (und_lt xs hk)
  rw [plc_zero] at h0l
  refine okP_yes (inB_true (by omega) (by omega)) ?_ ?_
  · refine List.all_eq_true.2 fun j hj => ?_
    have hj := List.mem_range.1 hj
    rw [hlen] at hj
    obtain ⟨i, h1, h2, h3⟩ := plc_onto xs k _ j hj
    have hat := cutL_at h2 _ h1
    rw [h3] at hat
    have hp := pcB_ok (allN_get hall h1)
    refine pc_yes ?_ ?_ ?_ ?_ ?_
    · rw [hat, cutP_name]; exact hp.1
    · refine List.all_eq_true.2 fun a ha => ?_
      have ha := List.mem_range.1 ha
      obtain ⟨b, b1, b2, b3⟩ := plc_onto xs k _ a (by omega : a < plc xs k xs.length)
      have hbt := cutL_at b2 _ b1
      rw [b3] at hbt
      have hbi : b < i := by
        apply Classical.byContradiction
        intro hn
        have := plc_mono xs k (show i ≤ b by omega)
        omega
      have hnn := List.all_eq_true.1 hp.2.1 b (List.mem_range.2 hbi)
      rw [hat, hbt, cutP_name, cutP_name]
      exact hnn
    · rw [hat, cutP_each]; exact inB_true hp.2.2.1.1 hp.2.2.1.2
    · rw [hat, cutP_price]; exact inB_true hp.2.2.2.1.1 hp.2.2.2.1.2
    · unfold parB
      by_cases e : j = 0
      · rw [if_pos e]
        exact decide_eq_true (hsc.par0 h0l)
      · rw [if_neg e]
        have := hsc.par j (by omega) hj
        exact inB_true (by omega) (by omega)
  · refine List.all_eq_true.2 fun j hj => ?_
    have hj := List.mem_range.1 hj
    rw [hlen] at hj
    obtain ⟨i, h1, h2, h3⟩ := plc_onto xs k _ j hj
    have ht := cut_tot hsh hk i h1 h2
    rw [h3] at ht
    unfold totB
    rw [ht]
    exact decide_eq_true (htt i h1)
/-- the lengths: what is left, what belongs to the piece, the piece itself -/
theorem cut_lens (xs : List Pc) (k : Nat) : ∀ m, plc xs k m + (uL xs k m).length + (if k < m then 1 else 0) = m
  | 0 => by
    have := plc_le xs k 0
    have := uL_len xs k 0
    rw [if_neg (by omega)]
    omega
  | m + 1 => by
    have ih := cut_lens xs k m
    cases hm : und xs k m with
    | true =>
      rw [plc_no hm]
      by_cases h1 : k < m
      · rw [uL_yes h1 hm, List.length_append, if_pos (by omega)]
        rw [if_pos h1] at ih
        show _ + (_ + 1) + 1 = _
        omega
      · have e : m = k := by
          apply Classical.byContradiction
          intro hn
          have := und_lt xs (show m < k by omega)
          rw [this] at hm
          cases hm
        subst e
        rw [uL_start, if_pos (by omega)]
        rw [if_neg (by omega)] at ih
        have : (uL xs m m).length = 0 := by
          unfold uL
          rw [List.length_eq_zero_iff, List.filter_eq_nil_iff]
          intro i hi
          have := List.mem_range.1 hi
          simp; omega
        show _ + 0 + 1 = _
        omega
    | false =>
      rw [plc_yes hm, uL_no hm]
      have hne : m ≠ k := fun e => by subst e; rw [und_self] at hm; cases hm
      by_cases h1 : k < m
      · rw [if_pos (by omega)]
        rw [if_pos h1] at ih
        omega
      · rw [if_neg (by omega)]
        rw [if_neg h1] at ih
        omega
end Go.Proofs.Ytalalegjeegocaa
/- Inventories, part 18: codes of a cut; how the list that is left is given. -/
namespace Go.Proofs.Ytalalegjeegocaa
open Go.RowKit Go.Joins

def cuC (xs : List Pc) (k : Int) : Int := if cdP xs k = 0 then (if k = 0 then 6 else 0) else cdP xs k
def cuL (xs : List Pc) (k : Int) : List Pc := if cuC xs k = 0 then cutL xs k.toNat xs.length else []
theorem cuC_ok {xs : List Pc} {k : Int} (h : cuC xs k = 0) : okP xs = true ∧ ∃ j : Nat, k = (j : Int) ∧ 0 < j ∧ j < xs.length ∧ cdP xs k = 0 := by
  unfold cuC at h
  split at h
  · rename_i h1
    split at h
    · cases h
    · rename_i h2
      obtain ⟨hok, j, rfl, hj⟩ := cdP_ok h1
      exact ⟨hok, j, rfl, by omega, hj, h1⟩
  · rename_i h1
    exact absurd h h1
/-- a row of pieces of the call's own, and a code -/
def RetCu (xs : List Pc) (k : Int) (w : World) (e : Ending) (w' : World) : Prop := ∃ v, e = .returned (.tuple #[v, .int .i64 (cuC xs k)]) ∧ w'.ownsRow w.heap.size 79 4 v (cuL xs k).length ((cuL xs k).flatMap cellsP) ∧ Below w.heap.size w w'
theorem RetCu.bad {xs : List Pc} {k c : Int} {w w' : World} (h : cuC xs k = c) (hc : c ≠ 0) (hb : Below w.heap.size w w') : RetCu xs k w (.returned (.tuple #[.slice none 0 0, .int .i64 c])) w' := by
  have e : cuL xs k = [] := by unfold cuL; rw [h, if_neg hc]
  refine ⟨_, by rw [h], ?_, hb⟩
  rw [e]
  exact ⟨by simp, .inl ⟨rfl, rfl⟩⟩
end Go.Proofs.Ytalalegjeegocaa
/- Inventories, part 19: rows of numbers made by 'make'; the places of the pieces that stay. -/
namespace Go.Proofs.Ytalalegjeegocaa
open Go.RowKit Go.Joins

/-- the places that are written in front of place m -/
def nmA (xs : List Pc) (k m j : Nat) : Int := if j < m ∧ und xs k j = false then (plc xs k j : Int) else 0
theorem nmA_zero (xs : List Pc) (k n : Nat) : tab n (fun _ => 0) = tab n (nmA xs k 0) := tab_congr fun i _ => by unfold nmA; rw [if_neg (by omega)]
theorem nmA_at {xs : List Pc} {k m j : Nat} (h : j < m) (hu : und xs k j = false) : nmA xs k m j = (plc xs k j : Int) := by unfold nmA; rw [if_pos ⟨h, hu⟩]
theorem nmA_no {xs : List Pc} {k m : Nat} (n : Nat) (hu : und xs k m = true) : tab n (nmA xs k m) = tab n (nmA xs k (m + 1)) := tab_congr fun i _ => by
  unfold nmA
  by_cases e : i = m
  · subst e; simp [hu]
  · by_cases h : i < m
    · have h' : i < m + 1 := by omega
      simp [h, h']
    · have h' : ¬ (i < m + 1) := by omega
      simp [h, h']
theorem nmA_yes {xs : List Pc} {k m : Nat} (n : Nat) (hu : und xs k m = false) : (tab n (nmA xs k m)).set m (.int .i64 (plc xs k m : Int)) = tab n (nmA xs k (m + 1)) := by
  refine List.ext_getElem (by simp [tab]) fun i h1 h2 => ?_
  rw [List.getElem_set]
  simp only [tab, List.getElem_map, List.getElem_range]
  by_cases e : m = i
  · subst e
    rw [if_pos rfl, nmA_at (by omega) hu]
  · rw [if_neg e]
    unfold nmA
    by_cases h : i < m
    · have h' : i < m + 1 := by omega
      simp [h, h']
    · have h' : ¬ (i < m + 1) := by omega
      simp [h, h']
end Go.Proofs.Ytalalegjeegocaa
/- Inventories, part 20: the rows that CutPiece fills. -/
namespace Go.Proofs.Ytalalegjeegocaa
open Go.RowKit Go.Joins

theorem apart_p {w : World} {b1 b2 s1 s2 n1 n2 : Nat} {e1 e2 : TypeId} {v1 v2 : Value} {x1 x2 : List Value} (h1 : w.ownsRow b1 e1 s1 v1 n1 x1) (h2 : w.ownsRow b2 e2 s2 v2 n2 x2) (he : e1 ≠ e2) : v1.ownBlock = none ∨ v1.ownBlock ≠ v2.ownBlock := by
  rcases h1.2 with ⟨rfl, _⟩ | ⟨g1, cap1, cur1, rfl, _, hg1, _⟩
  · exact .inl rfl
  rcases h2.2 with ⟨rfl, _⟩ | ⟨g2, cap2, cur2, rfl, _, hg2, _⟩
  · exact .inr (by simp [Value.ownBlock])
  refine .inr fun h => ?_
  obtain rfl : g1 = g2 := by simpa [Value.ownBlock] using h
  rw [hg1] at hg2
  injection hg2 with h3
  injection h3 with _ h4
  exact he h4
theorem apart_g {w : World} {b1 b2 s1 s2 n1 n2 g c2 : Nat} {e1 e2 : TypeId} {v1 : Value} {x1 x2 : List Value} (h1 : w.ownsRow b1 e1 s1 v1 n1 x1) (h2 : w.ownsRow b2 e2 s2 (.slice (some ⟨g, 0, none⟩) n2 c2) n2 x2) (he : e1 ≠ e2) : v1.ownBlock ≠ some g := by
  rcases apart_p h1 h2 he with h | h
  · rw [h]; simp
  · exact h
theorem own_lower {w : World} {b b' sz n : Nat} {e : TypeId} {v : Value} {xs : List Value} (h : w.ownsRow b e sz v n xs) (hb : b' ≤ b) : w.ownsRow b' e sz v n xs := by
  refine ⟨h.1, ?_⟩
  rcases h.2 with h2 | ⟨g, cap, cur, hv, hg, r⟩
  · exact .inl h2
  · exact .inr ⟨g, cap, cur, hv, Nat.le_trans hb hg, r⟩
/-- a row stays where a row of another type is appended to -/
theorem own_keptT {w w' : World} {b1 b2 s1 s2 n1 n2 g c : Nat} {e1 e2 : TypeId} {v2 : Value} {x1 x2 : List Value} (h1 : w.ownsRow b1 e1 s1 (.slice (some ⟨g, 0, none⟩) n1 c) n1 x1) (h2 : w.ownsRow b2 e2 s2 v2 n2 x2) (he : e1 ≠ e2) (hg : w.grownBy w' v2.ownBlock) : w'.ownsRow b1 e1 s1 (.slice (some ⟨g, 0, none⟩) n1 c) n1 x1 := by
  refine h1.kept hg ?_
  rcases apart_p h1 h2 he with h | h
  · exact .inl h
  · exact .inr h
/-- the rows of a cut: marks, places, pieces that are left -/
structure CuI (xs : List Pc) (k cu gU gN : Nat) (w wr : World) (r : Value) (m m2 : Nat) : Prop where
  und : wr.ownsRow w.heap.size 4 1 (.slice (some ⟨gU, 0, none⟩) xs.length cu) xs.length (tabB xs.length (und xs k))
  nam : wr.ownsRow w.heap.size 2 1 (.slice (some ⟨gN, 0, none⟩) xs.length xs.length) xs.length (tab xs.length (nmA xs k m2))
  row : wr.ownsRow w.heap.size 79 4 r (plc xs k m) ((cutL xs k m).flatMap cellsP)
  bel : Below w.heap.size w wr
theorem CuI.no {xs : List Pc} {k cu gU gN m : Nat} {w wr : World} {r : Value} (h : CuI xs k cu gU gN w wr r m m) (hu : Go.Proofs.Ytalalegjeegocaa.und xs k m = true) : CuI xs k cu gU gN w wr r (m + 1) (m + 1) :=
  ⟨h.und, by rw [← nmA_no xs.length hu]; exact h.nam, by rw [plc_no hu, cutL_no hu]; exact h.row, h.bel⟩
theorem CuI.put {xs : List Pc} {k cu gU gN m : Nat} {w wr : World} {r : Value} (h : CuI xs k cu gU gN w wr r m m) (hu : Go.Proofs.Ytalalegjeegocaa.und xs k m = false) : CuI xs k cu gU gN w (wr.setCell ⟨gN, m, none⟩ (.int .i64 (plc xs k m : Int))) r m (m + 1) := by
  have hlt := h.nam.lt gN rfl
  refine ⟨ownsRow_setCell_other h.und (a := ⟨gN, m, none⟩) (apart_g h.und h.nam (by decide)) _, ?_, ownsRow_setCell_other h.row (a := ⟨gN, m, none⟩) (apart_g h.row h.nam (by decide)) _, h.bel.setCell (p := ⟨gN, m, none⟩) hlt.1 _⟩
  rw [← nmA_yes xs.length hu]
  exact (h.nam.stored m _).1
theorem CuI.alloc {xs : List Pc} {k cu gU gN m m2 : Nat} {w wr : World} {r : Value} (h : CuI xs k cu gU gN w wr r m m2) (o : Obj) : CuI xs k cu gU gN w (wr.alloc o) r m m2 :=
  ⟨h.und.alloc o, h.nam.alloc o, h.row.alloc o, h.bel.alloc h.bel.size o⟩
/-- a cell of a block of pieces that is none of the rows is written -/
theorem CuI.new {xs : List Pc} {k cu gU gN m m2 : Nat} {w wr : World} {r : Value} (h : CuI xs k cu gU gN w wr r m m2) (o : Obj) (i : Nat) (u : Value) : CuI xs k cu gU gN w ((wr.alloc o).setCell ⟨wr.heap.size, i, none⟩ u) r m m2 := by
  have ha := h.alloc o
  have h1 := (h.und.lt gU rfl).2
  have h2 := (h.nam.lt gN rfl).2
  refine ⟨ownsRow_setCell_other ha.und (a := ⟨wr.heap.size, i, none⟩) (fun e => ?_) _, ownsRow_setCell_other ha.nam (a := ⟨wr.heap.size, i, none⟩) (fun e => ?_) _, ownsRow_setCell_other ha.row (a := ⟨wr.heap.size, i, none⟩) (fun e => ?_) _, ha.bel.setCell (p := ⟨wr.heap.size, i, none⟩) h.bel.size _⟩
  · injection e with e
    have e2 : gU = wr.heap.size := e
    omega
  · injection e with e
    have e2 : gN = wr.heap.size := e
    omega
  · have := (h.row.lt _ e).2
    exact Nat.lt_irrefl _ this
theorem CuI.app {xs : List Pc} {k cu gU gN m : Nat} {w wr w' : World} {r v' : Value} (h : CuI xs k cu gU gN w wr r m (m + 1)) (hu : Go.Proofs.Ytalalegjeegocaa.und xs k m = false)
    (ho : w'.ownsRow w.heap.size 79 4 v' (plc xs k m + 1) ((cutL xs k m).flatMap cellsP ++ cellsP (cutP xs k m))) (hg : wr.grownBy w' r.ownBlock) : CuI xs k cu gU gN w w' v' (m + 1) (m + 1) := by
  refine ⟨own_keptT h.und h.row (by decide) hg, own_keptT h.nam h.row (by decide) hg, ?_, h.bel.grown hg h.bel.size (fun x hx => (h.row.lt x hx).1)⟩
  rw [plc_yes hu, cutL_yes hu, List.flatMap_append]
  simpa using ho
end Go.Proofs.Ytalalegjeegocaa
/- Inventories, part 21: CutPiece of the reference (gen_pc21.py). -/
namespace Go.Proofs.Ytalalegjeegocaa
open Go.RowKit Go.Joins

theorem own_cellI {w : World} {base n g cap : Nat} {e : TypeId} {f : Nat → Int} (h : w.ownsRow base e 1 (.slice (some ⟨g, 0, none⟩) n cap) n (tab n f)) (j : Nat) (hj : j < n) : w.cell? ⟨g, j, none⟩ = some (.int .i64 (f j)) ∧ w.frozen? ⟨g, j, none⟩ = false :=
  ⟨(h.cellAt j (by omega)).trans (tab_at f hj), h.frozenAt j⟩
theorem blk4p {w : World} {g : Nat} {a b c d : Value} {t : TypeId} (h : w.heap[g]? = some (.cells #[a, b, c, d] t (0, 0))) :
    (w.cell? ⟨g, 0, none⟩ = some a ∧ w.cell? ⟨g, 1, none⟩ = some b ∧ w.cell? ⟨g, 2, none⟩ = some c ∧ w.cell? ⟨g, 3, none⟩ = some d) ∧
    (w.frozen? ⟨g, 0, none⟩ = false ∧ w.frozen? ⟨g, 1, none⟩ = false ∧ w.frozen? ⟨g, 2, none⟩ = false ∧ w.frozen? ⟨g, 3, none⟩ = false) :=
  ⟨⟨by rw [cell_of_row w g 0 _ _ _ h]; rfl, by rw [cell_of_row w g 1 _ _ _ h]; rfl, by rw [cell_of_row w g 2 _ _ _ h]; rfl, by rw [cell_of_row w g 3 _ _ _ h]; rfl⟩, frozen_of_row w g 0 _ _ h, frozen_of_row w g 1 _ _ h, frozen_of_row w g 2 _ _ h, frozen_of_row w g 3 _ _ h⟩
theorem ones4 (a : ByteArray) (b c d : Int) : ∀ u ∈ (#[Value.string a, .int .i64 b, .int .i64 c, .int .i64 d] : Array Value).toList, u.oneCell' = true := by
  intro u hu
  simp at hu
  rcases hu with rfl | rfl | rfl | rfl <;> rfl
set_option maxRecDepth 100000 in
set_option maxHeartbeats 1600000 in
theorem CutS_any (B : Nat) (v : Value) (xs : List Pc) (k : Int) (w : World) (h : RdP w B v xs) (hB : B ≤ w.heap.size) (hn : xs.length ≤ 100000) (hz : szP xs) :
    Calls Try.prog 25 #[v, .int .i64 k] w (RetCu xs k w) := by
  have HC := Lib.hid (codeS_any B v xs k w h hB hn hz)
  have H := Lib.hid h
  obtain ⟨A, c, rfl⟩ := h.slice
  clear h hz
  by_cases h0 : cuC xs k = 0
  · obtain ⟨hok, j, rfl, hj0, hj, hcd⟩ := cuC_ok h0
    obtain ⟨⟨_, hl40⟩, _, hsh, _⟩ := okP_ok hok
    clear h0
    have hmc : cuC xs (j : Int) = 0 := by unfold cuC; rw [if_pos hcd, if_neg (by omega)]
    have hcl : cuL xs (j : Int) = cutL xs j xs.length := by unfold cuL; rw [if_pos hmc, Int.toNat_natCast]
    have Hfin := Lib.hid (fun v w' (ho : w'.ownsRow w.heap.size 79 4 v (plc xs j xs.length) ((cutL xs j xs.length).flatMap cellsP)) (hb : Below w.heap.size w w') => (show RetCu xs (j : Int) w (.returned (.tuple #[v, .int .i64 0])) w' from ⟨v, by rw [hmc], by rw [hcl, cutL_len]; exact ho, hb⟩))
    have HU := Lib.hid (fun wx hx hz => l21Under_any B (.slice A xs.length c) xs j wx hx hz hl40 hsh hj)
    unfold RetBo at HU
    have HS := Lib.hid hsh
    rw [hcd] at HC
    have hj0' : ¬ ((j : Int) = 0) := by omega
    clear hcd hmc hcl hok hsh
    go_enter Try.func25, Try.ntmps25
    go_wp2_with fail
    refine (HC.out).mono ?_; rintro e w2 ⟨rfl, hb2⟩
    have Hb2 := Lib.hid hb2
    have HU2 := Lib.hid (HU.out w2 (H.out.below (hb2.mono hB)) (Nat.le_trans hB hb2.size))
    clear hb2 HU
    go_wp2_with fail
    refine (HU2.out).mono ?_; rintro e w3 ⟨cu, rfl, hou, hbu⟩
    obtain ⟨w4, hmk, hon, hbn⟩ := mk_ints xs.length (by omega) w3
    have hoe := World.ownsRow_made (base := w4.heap.size) (e := 79) (size := 4) w4 #[] 0 (Nat.le_refl _) (by simp [maxLen]) rfl
    have HI0 := Lib.hid (show CuI xs j cu w2.heap.size w3.heap.size w (w4.alloc (.cells #[] 79)) (.slice (some ⟨w4.heap.size, 0, none⟩) 0 0) 0 0 from by
      have l2 := Hb2.out.size
      have l3 := hbu.size
      have l4 := hbn.size
      have hb3 : Below w.heap.size w w4 := (Hb2.out.trans (hbu.mono l2)).trans (hbn.mono (by omega))
      refine ⟨(own_lower (own_below hou hbn) l2).alloc _, (own_lower (by rw [← nmA_zero]; exact hon) (by omega)).alloc _, ?_, hb3.alloc (by omega) _⟩
      have e : cutL xs j 0 = [] := List.eq_nil_of_length_eq_zero (by rw [cutL_len, plc_zero])
      rw [plc_zero, e]
      exact own_lower hoe (by omega))
    clear hou hbu hon hbn hoe HU2 HC
    go_wp2_with fail
    clear hmk
    go_loopw [9, 10] (fun r i wr => ∃ m : Nat, m ≤ xs.length ∧ i = .int .i64 (m : Int) ∧ CuI xs j cu w2.heap.size w3.heap.size w wr r m m) (fun _ i _ => xs.length - (intOf i).toNat)
    case atStart => exact ⟨0, by omega, rfl, HI0.out⟩
    case round =>
      obtain ⟨m, hm, rfl, hI⟩ := hrel
      clear HI0
      obtain ⟨A3, c3, rfl⟩ := own_sl hI.row
      have HI := Lib.hid hI
      by_cases hlt : m < xs.length
      · obtain ⟨gb, ob, hA, hat⟩ := H.out.at m hlt
        subst hA
        have hlt' : (m : Int) < (xs.length : Int) := by omega
        obtain ⟨y0, y1⟩ := own_cellB hI.und m hlt
        clear hI
        cases hu : und xs j m with
        | true =>
          have HJ := Lib.hid (HI.out.no hu)
          rw [hu] at y0
          clear hu hat
          go_wp2_with fail
          go_roundw
          case rel => exact ⟨m + 1, by omega, by go_num, HJ.out⟩
          case measure => first | (simp [intOf]; done) | (simp [intOf]; omega)
        | false =>
          rw [hu] at y0
          have HJ := Lib.hid (HI.out.put hu)
          have HA := Lib.hid HI.out.nam
          have hml := plc_le xs j m
          have hgN := (HI.out.nam.lt _ rfl).2
          obtain ⟨n0, n1⟩ := own_cellI HI.out.nam m hlt
          obtain ⟨wn, hwn⟩ : ∃ z, wr.setCell ⟨w3.heap.size, m, none⟩ (.int .i64 (plc xs j m : Int)) = z := ⟨_, rfl⟩
          have hsz : wn.heap.size = wr.heap.size := by rw [← hwn]; simp [World.setCell]
          have HJ := Lib.hid (show CuI xs j cu w2.heap.size w3.heap.size w wn _ m (m + 1) from by rw [← hwn]; exact HJ.out)
          have hat' := hat.below (HJ.out.bel.mono hB)
          have q0 := hat'.c0
          have q1 := hat'.c1
          have q2 := hat'.c2
          have q3 := hat'.c3
          obtain ⟨wa, hwa⟩ : ∃ z, wn.alloc (.cells #[.string (pg xs m).name, .int .i64 (pg xs m).par, .int .i64 (pg xs m).each, .int .i64 (pg xs m).price] 79) = z := ⟨_, rfl⟩
          have HJa := Lib.hid (show CuI xs j cu w2.heap.size w3.heap.size w wa _ m (m + 1) from by rw [← hwa]; exact HJ.out.alloc _)
          have hblk := heap_alloc_new wn (.cells #[.string (pg xs m).name, .int .i64 (pg xs m).par, .int .i64 (pg xs m).each, .int .i64 (pg xs m).price] 79)
          rw [hwa, hsz] at hblk
          have HWA := Lib.hid hwa
          by_cases hm0 : m = 0
          · have hnp : ¬ ((0 : Int) < (m : Int)) := by omega
            have hcc : cutP xs j m = pg xs m := by unfold cutP; rw [if_pos hm0, hm0]
            have Hx := Lib.hid (fun (v' : Value) (w' : World) (ho : w'.ownsRow w.heap.size 79 4 v' (plc xs j m + 1) ((cutL xs j m).flatMap cellsP ++ [.string (pg xs m).name, .int .i64 (pg xs m).par, .int .i64 (pg xs m).each, .int .i64 (pg xs m).price])) hg => HJa.out.app hu (by rw [hcc]; exact ho) hg)
            obtain ⟨⟨a0, a1, a2, a3⟩, -, f1, -⟩ := blk4p hblk
            have Hoa := Lib.hid HJa.out.row
            have hsa := HJa.out.bel.size
            clear hat hat' HA hu hblk hm0 hcc HJ
            generalize (pg xs m).name = nm at *
            generalize (pg xs m).par = pp at *
            generalize (pg xs m).each = pe at *
            generalize (pg xs m).price = pq at *
            go_wp2_with (at_builtin; refine wpList_apd 38 79 _ 4 40 Try.underlying38 infoP rfl (by omega) _ _ rfl rfl w.heap.size _ (plc xs j m) _ rfl Hoa.out #[.string nm, .int .i64 pp, .int .i64 pe, .int .i64 pq] 1 1 rfl rfl (ones4 _ _ _ _) (by simp [maxLen]; omega) (by omega) hsa ?_; intro v9 w9 hown9 hg9; have HK := Lib.hid (Hx.out v9 w9 hown9 hg9); clear hown9 hg9)
            go_roundw
            case rel => exact ⟨m + 1, by omega, by go_num, HK.out⟩
            case measure => first | (simp [intOf]; done) | (simp [intOf]; omega)
          · have hp0 : (0 : Int) < (m : Int) := by omega
            have hp := HS.out.par m (by omega) hlt
            obtain ⟨p, hpe⟩ : ∃ p : Nat, (pg xs m).par = (p : Int) := ⟨(pg xs m).par.toNat, by omega⟩
            have hst := par_stays HS.out (show 0 < m by omega) hlt hu
            have hcc : cellsP (cutP xs j m) = [.string (pg xs m).name, .int .i64 (plc xs j p : Int), .int .i64 (pg xs m).each, .int .i64 (pg xs m).price] := by
              unfold cutP
              rw [if_neg hm0, hpe, Int.toNat_natCast]
              rfl
            rw [hpe] at hp hst q1 hblk hwa HWA
            rw [Int.toNat_natCast] at hst
            obtain ⟨p0, p1⟩ := own_cellI HJa.out.nam p (by omega)
            rw [nmA_at (by omega) hst] at p0
            obtain ⟨wb, hwb⟩ : ∃ z, wa.setCell ⟨wr.heap.size, 1, none⟩ (.int .i64 (plc xs j p : Int)) = z := ⟨_, rfl⟩
            have HJb := Lib.hid (show CuI xs j cu w2.heap.size w3.heap.size w wb _ m (m + 1) from by rw [← hwb, ← hwa, ← hsz]; exact HJ.out.new _ _ _)
            have hblb := heap_setCell_same wa wr.heap.size 1 _ _ (.int .i64 (plc xs j p : Int)) hblk
            rw [hwb] at hblb
            obtain ⟨⟨a0, a1, a2, a3⟩, -, f1, -⟩ := blk4p hblk
            obtain ⟨⟨b0, b1, b2, b3⟩, -, g1, -⟩ := blk4p (a := .string (pg xs m).name) (b := .int .i64 (plc xs j p : Int)) (c := .int .i64 (pg xs m).each) (d := .int .i64 (pg xs m).price) hblb
            have Hx := Lib.hid (fun (v' : Value) (w' : World) (ho : w'.ownsRow w.heap.size 79 4 v' (plc xs j m + 1) ((cutL xs j m).flatMap cellsP ++ [.string (pg xs m).name, .int .i64 (plc xs j p : Int), .int .i64 (pg xs m).each, .int .i64 (pg xs m).price])) hg => HJb.out.app hu (by rw [hcc]; exact ho) hg)
            have Hoa := Lib.hid HJb.out.row
            have hsa := HJb.out.bel.size
            have hpl : (p : Int) < (xs.length : Int) := by omega
            have hp0' : (0 : Int) ≤ (p : Int) := by omega
            clear hat hat' HA hu hblk hblb hm0 hcc HJ HJa hst hpe hp
            generalize (pg xs m).name = nm at *
            generalize (pg xs m).each = pe at *
            generalize (pg xs m).price = pq at *
            generalize plc xs j p = pp at *
            go_wp2_with (at_builtin; refine wpList_apd 38 79 _ 4 40 Try.underlying38 infoP rfl (by omega) _ _ rfl rfl w.heap.size _ (plc xs j m) _ rfl Hoa.out #[.string nm, .int .i64 pp, .int .i64 pe, .int .i64 pq] 1 1 rfl rfl (ones4 _ _ _ _) (by simp [maxLen]; omega) (by omega) hsa ?_; intro v9 w9 hown9 hg9; have HK := Lib.hid (Hx.out v9 w9 hown9 hg9); clear hown9 hg9)
            go_roundw
            case rel => exact ⟨m + 1, by omega, by go_num, HK.out⟩
            case measure => first | (simp [intOf]; done) | (simp [intOf]; omega)
      · obtain rfl : m = xs.length := by omega
        have hlt' : ¬ ((xs.length : Int) < (xs.length : Int)) := by omega
        have Hz := Lib.hid (Hfin.out _ _ hI.row hI.bel)
        clear hI HI
        go_wp2_with fail
        go_ret2
        exact Hz.out
  · obtain ⟨c1, hc1⟩ : ∃ z, cuC xs k = z := ⟨_, rfl⟩
    rw [hc1] at h0
    have HE := Lib.hid (fun w' hb => RetCu.bad (w := w) (w' := w') hc1 h0 hb)
    by_cases hd : cdP xs k = 0
    · rw [hd] at HC
      by_cases hk : k = 0
      · have e : c1 = 6 := by rw [← hc1]; unfold cuC; rw [if_pos hd, if_pos hk]
        subst e
        subst hk
        clear hc1 hd
        go_enter Try.func25, Try.ntmps25
        go_wp2_with fail
        refine (HC.out).mono ?_; rintro e w2 ⟨rfl, hb2⟩
        have Hz := Lib.hid (HE.out w2 hb2)
        clear hb2
        go_wp2_with fail
        go_ret2
        exact Hz.out
      · exact absurd (by rw [← hc1]; unfold cuC; rw [if_pos hd, if_neg hk]) h0
    · have e : cdP xs k = c1 := by rw [← hc1]; unfold cuC; rw [if_neg hd]
      rw [e] at HC
      have hcb : (c1 == 0) = false := by simp [h0]
      have hcb2 : (c1 != 0) = true := by simp [h0]
      clear hc1 hd e
      go_enter Try.func25, Try.ntmps25
      go_wp2_with fail
      refine (HC.out).mono ?_; rintro e w2 ⟨rfl, hb2⟩
      have Hz := Lib.hid (HE.out w2 hb2)
      clear hb2
      go_wp2_with fail
      go_ret2
      exact Hz.out
end Go.Proofs.Ytalalegjeegocaa
