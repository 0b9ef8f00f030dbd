/- Merged texts: Pq9, Jc12, Jc13, Jc1, Jc2. -/
import Derived.Test.YtepgfcjfdnakbaaDoorGCardJobs9
import Derived.Test.YtepgfcjfdnakbaaDoorGCardJobs10
import Derived.Test.YtepgfcjfdnakbaaDoorGCardJobs1
import Derived.Test.YtepgfcjfdnakbaaDoorGCardJobs4
/- Inventories, texts, part 9: what the law FnPieces draws (gen_pq9.py). -/
namespace Go.Proofs.YtepgfcjfdnakbaaDoor
open Go.RowKit Go.Joins

theorem below_srcQ {W w1 w : World} {g : Nat} (h : Below W.heap.size W w1) (hg : w1.grownBy w (some g)) (hl : W.heap.size ≤ g) : Below W.heap.size W w :=
  h.grown hg h.size (fun x hx => by cases hx; exact hl)
theorem lineP_small {xs : List Pc} {n : Nat} (hs : Shp xs n) (hn : n ≤ xs.length) (hz : ∀ x ∈ xs, x.name.size ≤ 16) (hm : NmOk xs n) {k : Nat} (hk : k < n) : (lineP xs k).size ≤ 80 := by
  obtain ⟨h1, h2⟩ := hm k hk
  have hz' : ∀ i, i < xs.length → (pg xs i).name.size ≤ 16 := fun i hi => by rw [pg_at hi]; exact hz _ (List.getElem_mem hi)
  have hof : (ofP xs k).size ≤ 16 := by
    have hp := hs.par_in hk
    unfold ofP
    split
    · show 1 ≤ 16; omega
    · exact hz' _ (by omega)
  have a := hz' k (by omega)
  have c := decS_size (pg xs k).each (by omega) (by omega)
  have d := decS_size (pg xs k).price (by omega) (by omega)
  have := (lineP_sizes (a := (pg xs k).name) (o := ofP xs k) (by omega) (by omega) c d).2.2.2.2.2.2
  unfold lineP bodyP
  rw [this]
  omega
theorem textP_small {xs : List Pc} {n : Nat} (hs : Shp xs n) (hn : n ≤ xs.length) (hz : ∀ x ∈ xs, x.name.size ≤ 16) (hm : NmOk xs n) : ∀ k, k ≤ n → (textP xs k).size ≤ k * 80
  | 0, _ => Nat.le_refl _
  | k + 1, hk => by
    show (textP xs k ++ lineP xs k).size ≤ _
    rw [ByteArray.size_append]
    have h1 := textP_small hs hn hz hm k (by omega)
    have h2 := lineP_small hs hn hz hm (show k < n by omega)
    omega
def RetDp (w : World) (e : Ending) (w' : World) : Prop := ∃ v xs, e = .returned v ∧ NwC w w' v xs
set_option maxRecDepth 100000 in
set_option maxHeartbeats 1600000 in
theorem drawPT_any (B : Nat) (cv : Value) (bs : List UInt8) (w : World) (h : Rd w B cv bs.length 1 (bs.map byV)) (hB : B ≤ w.heap.size) : Calls Tryd.prog 13 #[cv] w (RetDp w) := by
  have HF := Lib.hid (l00From_any B cv bs w h hB)
  obtain ⟨_, A, c, rfl, _⟩ := h
  go_enter Tryd.func13, Tryd.ntmps13
  go_wp2_with fail
  refine HF.out.mono ?_; rintro e w1 ⟨rfl, hs1, hb1, hl1⟩
  have Hb1 := Lib.hid hb1
  have HL := Lib.hid (l21Bent_any B _ 0 bs w1 hs1 (by omega))
  clear hs1 hb1 HF
  go_wp2_with fail
  refine HL.out.mono ?_; rintro e w2 ⟨v, xs, rfl, hd⟩
  obtain ⟨b0, c0, rfl⟩ := hd.nn
  have Hz := Lib.hid (show RetDp w (.returned (.slice (some ⟨b0, 0, none⟩) xs.length c0)) w2 from ⟨_, xs, rfl, NwC.of hd Hb1.out (Nat.le_refl _)⟩)
  clear hd HL
  go_wp2_with fail
  go_ret
  exact Hz.out
def nmL : List ByteArray := [⟨#[119, 104, 101, 101, 108]⟩, ⟨#[97, 120, 108, 101]⟩, ⟨#[98, 101, 108, 108]⟩, ⟨#[109, 97, 99, 104, 105, 110, 101]⟩, ⟨#[110, 117, 116]⟩]
def RetDn (w : World) (e : Ending) (w' : World) : Prop := ∃ v xs, ∃ s : ByteArray, e = .returned (.tuple #[v, .string s]) ∧ NwC w w' v xs
set_option maxRecDepth 100000 in
set_option maxHeartbeats 1600000 in
theorem drawPN_any (B : Nat) (cv : Value) (bs : List UInt8) (w : World) (h : Rd w B cv bs.length 1 (bs.map byV)) (hB : B ≤ w.heap.size) : Calls Tryd.prog 18 #[cv] w (RetDn w) := by
  have HF := Lib.hid (l00From_any B cv bs w h hB)
  obtain ⟨_, A, c, rfl, _⟩ := h
  go_enter Tryd.func18, Tryd.ntmps18
  go_wp2_with fail
  refine HF.out.mono ?_; rintro e w1 ⟨rfl, hs1, hb1, hl1⟩
  have Hb1 := Lib.hid hb1
  have HL := Lib.hid (l21Bent_any B _ 0 bs w1 hs1 (by omega))
  clear hs1 hb1 HF
  go_wp2_with fail
  refine HL.out.mono ?_; rintro e w2 ⟨v, xs, rfl, hd⟩
  obtain ⟨b0, c0, rfl⟩ := hd.nn
  have HD := Lib.hid hd
  clear hd HL
  go_wp2_with fail
  refine (text_new B _ _ 5 nmL bs w2 HD.out.dr.src (by omega) rfl (by omega) (by omega)).mono ?_; rintro e w3 ⟨z, _, rfl, hs3, hg3⟩
  have Hz := Lib.hid (show RetDn w (.returned (.tuple #[.slice (some ⟨b0, 0, none⟩) xs.length c0, .string z])) w3 from ⟨_, xs, _, rfl, NwC.of (HD.out.draw hs3 hg3) Hb1.out (Nat.le_refl _)⟩)
  clear hs3 hg3 HD
  go_wp2_with fail
  go_ret2
  exact Hz.out
def RetDt (w : World) (e : Ending) (w' : World) : Prop := ∃ s : ByteArray, e = .returned (.string s) ∧ s.size ≤ 100000 ∧ Below w.heap.size w w'
set_option maxRecDepth 100000 in
set_option maxHeartbeats 3200000 in
theorem drawRP_any (B : Nat) (cv : Value) (bs : List UInt8) (w : World) (h : Rd w B cv bs.length 1 (bs.map byV)) (hB : B ≤ w.heap.size) : Calls Tryd.prog 16 #[cv] w (RetDt w) := by
  have HF := Lib.hid (l00From_any B cv bs w h hB)
  obtain ⟨_, A, c, rfl, _⟩ := h
  go_enter Tryd.func16, Tryd.ntmps16
  go_wp2_with fail
  refine HF.out.mono ?_; rintro e w1 ⟨rfl, hs1, hb1, hl1⟩
  have Hs1 := Lib.hid hs1
  have Hb1 := Lib.hid hb1
  clear hs1 hb1 HF
  go_wp2_with fail
  refine (l21Draw_any B _ 0 bs _ Hs1.out (by omega)).mono ?_; rintro e w2 ⟨v2, xs, rfl, _, hx10, hgd, hd2⟩
  obtain ⟨b0, c0, rfl⟩ := hd2.nn
  have HD2 := Lib.hid hd2
  have HT := Lib.hid (l21Text_any w2.heap.size _ xs w2 hd2.rd (Nat.le_refl _) (by omega) hd2.sz hgd)
  have hts := textP_small hgd.shp (Nat.le_refl _) hd2.sm hgd.nm xs.length (Nat.le_refl _)
  generalize textP xs xs.length = t at *
  clear hd2 hgd Hs1
  go_wp2_with fail
  refine HT.out.mono ?_; rintro e w3 ⟨rfl, hb3⟩
  have HD3 := Lib.hid (HD2.out.below hb3)
  clear hb3 HD2 HT
  go_wp2_with fail
  refine (one_any B _ _ bs 3 _ HD3.out.dr.src (by omega)).mono ?_; rintro e w4 ⟨y, rfl, hs4, hg4⟩
  have HD4 := Lib.hid (HD3.out.draw hs4 hg4)
  clear hs4 hg4 HD3
  cases y with
  | true =>
    go_wp2_with fail
    refine (spoil_any B _ _ bs t _ HD4.out.dr.src (by omega) (by omega)).mono ?_; rintro e w5 ⟨z, rfl, hz, hs5, hg5⟩
    have HD5 := Lib.hid (HD4.out.draw hs5 hg5)
    clear hs5 hg5 HD4
    go_wp2_with fail
    go_ret
    exact ⟨z, rfl, by omega, below_srcQ Hb1.out HD5.out.dr.gr (Nat.le_refl _)⟩
  | false =>
    go_wp2_with fail
    refine (one_any B _ _ bs 24 _ HD4.out.dr.src (by omega)).mono ?_; rintro e w5 ⟨y, rfl, hs5, hg5⟩
    have HD5 := Lib.hid (HD4.out.draw hs5 hg5)
    clear hs5 hg5 HD4
    cases y with
    | false =>
      go_wp2_with fail
      go_ret
      exact ⟨t, rfl, by omega, below_srcQ Hb1.out HD5.out.dr.gr (Nat.le_refl _)⟩
    | true =>
      go_wp2_with fail
      refine (pick_any B _ _ bs 2 _ HD5.out.dr.src (by omega)).mono ?_; rintro e w6 ⟨x, rfl, ⟨hx0, hx1, _⟩, hs6, hg6⟩
      have hx2 := hx1 (by omega)
      obtain ⟨M, hM⟩ : ∃ M : Nat, 40 + x = (M : Int) := ⟨(40 + x).toNat, by omega⟩
      have hM60 : M ≤ 60 := by omega
      have HD6 := Lib.hid (HD5.out.draw hs6 hg6)
      clear hs6 hg6 hx1 HD5
      go_wp2_with fail
      (try rw [hM])
      refine (l21Wide_any M w6 hM60).mono ?_; rintro e w7 ⟨v7, ys, rfl, hyl, hgd, ho⟩
      have Hb7 := Lib.hid ((below_srcQ Hb1.out HD6.out.dr.gr (Nat.le_refl _)).trans (ho.bel.mono (below_srcQ Hb1.out HD6.out.dr.gr (Nat.le_refl _)).size))
      have HT := Lib.hid (l21Text_any w7.heap.size v7 ys w7 (Rd.of_own ho.row) (Nat.le_refl _) (by omega) (fun i hi => by rw [pg_at hi]; exact Nat.le_trans (ho.sm _ (List.getElem_mem hi)) (by omega)) hgd)
      have hts2 := textP_small hgd.shp (Nat.le_refl _) ho.sm hgd.nm ys.length (Nat.le_refl _)
      have hy60 : ys.length * 80 ≤ 4800 := by omega
      obtain ⟨b7, c7, rfl⟩ := ho.nn
      clear hyl
      generalize textP ys ys.length = t2 at *
      clear ho hgd HD6
      go_wp2_with fail
      refine HT.out.mono ?_; rintro e w8 ⟨rfl, hb8⟩
      have Hb8 := Lib.hid (Hb7.out.trans (hb8.mono Hb7.out.size))
      clear hb8 HT
      go_wp2_with fail
      go_ret
      exact ⟨t2, rfl, by omega, Hb8.out⟩
def RetDs (w : World) (e : Ending) (w' : World) : Prop := ∃ v1 v2 l1 l2, e = .returned (.tuple #[v1, v2]) ∧ RdP w' w'.heap.size v1 l1 ∧ RdP w' w'.heap.size v2 l2 ∧ l1.length ≤ 70 ∧ l2.length ≤ 70 ∧ Below w.heap.size w w'
theorem own_cells0P {w : World} {base b n c sz : Nat} {e : TypeId} {cs : List Value} (h : w.ownsRow base e sz (.slice (some ⟨b, 0, none⟩) n c) n cs) : ∀ (i : Nat) (u : Value), cs[i]? = some u → w.cell? ⟨b, 0 + i, none⟩ = some u := fun i u hu => by
  have hc := h.cells (g := b) rfl i u hu
  have e0 : (⟨b, 0, none⟩ : Addr).add i = ⟨b, 0 + i, none⟩ := by unfold Addr.add; split <;> simp_all
  rwa [e0] at hc
theorem cellsP_one (l : List Pc) : ∀ u ∈ l.flatMap cellsP, u.oneCell' = true := by
  intro u hu
  obtain ⟨x, _, hx⟩ := List.mem_flatMap.1 hu
  simp [cellsP] at hx
  rcases hx with rfl | rfl | rfl | rfl <;> rfl
theorem rd_tail {w : World} {B b c c' : Nat} {xs : List Pc} (h : RdP w B (.slice (some ⟨b, 0, none⟩) xs.length c) xs) (hn : 0 < xs.length) : RdP w B (.slice (some ⟨b, 4, none⟩) (xs.length - 1) c') (xs.drop 1) := by
  obtain ⟨_, A0, c0, hv, hc⟩ := h
  injection hv with e1 e2 e3
  subst e1
  obtain ⟨b', off, hA, hb, hcc⟩ := hc (by omega)
  obtain ⟨rfl, rfl⟩ := adr_inj hA
  have hl : (xs.drop 1).length = xs.length - 1 := by simp
  refine ⟨?_, some ⟨b, 4, none⟩, c', by rw [hl], fun _ => ⟨b, 4, rfl, hb, fun i u hu => ?_⟩⟩
  · exact flat_len cellsP 4 (fun _ => rfl) (xs.drop 1)
  · obtain ⟨x, l, rfl⟩ : ∃ x l, xs = x :: l := by
      cases xs with
      | nil => simp at hn
      | cons x l => exact ⟨x, l, rfl⟩
    have h2 := hcc (4 + i) u (by rw [List.flatMap_cons, List.getElem?_append_right (by show 4 ≤ 4 + i; omega)]; show (l.flatMap cellsP)[4 + i - 4]? = some u; rw [Nat.add_sub_cancel_left]; exact hu)
    rwa [Nat.zero_add] at h2
theorem rd_none {w : World} {B : Nat} {A : Option Addr} {c : Nat} : RdP w B (.slice A 0 c) [] := ⟨rfl, A, c, rfl, fun h => absurd h (by simp)⟩
set_option maxRecDepth 100000 in
set_option maxHeartbeats 3200000 in
theorem drawSP_any (B : Nat) (cv : Value) (bs : List UInt8) (w : World) (h : Rd w B cv bs.length 1 (bs.map byV)) (hB : B ≤ w.heap.size) : Calls Tryd.prog 21 #[cv] w (RetDs w) := by
  have HF := Lib.hid (l00From_any B cv bs w h hB)
  obtain ⟨_, A, c, rfl, _⟩ := h
  go_enter Tryd.func21, Tryd.ntmps21
  go_wp2_with fail
  refine HF.out.mono ?_; rintro e w1 ⟨rfl, hs1, hb1, hl1⟩
  have Hs1 := Lib.hid hs1
  have Hb1 := Lib.hid hb1
  clear hs1 HF
  go_wp2_with fail
  refine (l21Draw_any B _ 0 bs _ Hs1.out (by omega)).mono ?_; rintro e w2 ⟨v2, xs, rfl, hx1, hx10, hgd, hd2⟩
  obtain ⟨b2, c2, rfl⟩ := hd2.nn
  have HA := Lib.hid hd2
  have Hc2 := Lib.hid (own_cells0P hd2.dr.row)
  have HM := Lib.hid (DrR.made hd2.dr.src 46 4)
  have Hlt2 := Lib.hid (hd2.dr.row.lt b2 rfl)
  have Hfl := Lib.hid (show (xs.flatMap cellsP).length = xs.length * 4 from flat_len cellsP 4 (fun _ => rfl) xs)
  have hpb := (hgd.nm 0 (by omega)).2
  have Hsm := Lib.hid hd2.sm
  have hb2l := (hd2.dr.row.lt b2 rfl).2
  have hzz := Nat.le_trans hb1.size hd2.dr.gr.size
  clear hd2 Hs1 hgd hb1
  have Hcc := Lib.hid (fun (i : Nat) (u : Value) (hu : (xs.flatMap cellsP)[i]? = some u) => (((Below.refl w2.heap.size w2).alloc (Nat.le_refl _) (.cells #[] 46)).cell (p := ⟨b2, 0 + i, none⟩) Hlt2.out.2).trans (Hc2.out i u hu))
  go_wp2_with (at_builtin; refine wpList_apr 24 46 _ 4 40 Tryd.underlying24 infoP rfl (by omega) _ _ rfl rfl w2.heap.size _ 0 _ rfl HM.out.row b2 0 xs.length c2 (xs.flatMap cellsP) rfl Hfl.out Hcc.out (cellsP_one _) (by simp [maxLen]; omega) (by omega) HM.out.size ?_; intro v3 w3 hown3 hg3; rw [Nat.zero_add, List.nil_append] at hown3; have HR3 := Lib.hid (HM.out.app hown3 hg3); obtain ⟨b3, c3, hv3, hcap, _⟩ := own_posC hown3 (by omega); subst hv3; clear hown3 hg3 HM)
  have HD3 := Lib.hid (show DrC w2 w3 B w.heap.size _ bs (.slice (some ⟨b3, 0, none⟩) xs.length c3) xs from ⟨HR3.out, by omega, Hsm.out, _, _, rfl⟩)
  have Hm := Lib.hid hcap
  clear HR3 Hcc Hc2 Hlt2 Hfl
  refine (pick_any B _ _ bs 4 _ HD3.out.dr.src (by omega)).mono ?_; rintro e w4 ⟨x, rfl, _, hs4, hg4⟩
  have HD4 := Lib.hid (HD3.out.draw hs4 hg4)
  have hHA4 := HA.out.draw HD4.out.dr.src HD4.out.dr.gr
  have HA4 := Lib.hid hHA4
  have Hb4 := Lib.hid (below_srcQ Hb1.out HA4.out.dr.gr (Nat.le_refl _))
  clear hs4 hg4 HD3 HA hHA4
  have hx0' : (0 : Int) < (xs.length : Int) := by omega
  have hb3l := (HD4.out.dr.row.lt b3 rfl).1
  have hA4r := HA4.out.dr.row
  by_cases e0 : x = 0
  · subst e0
    obtain ⟨⟨p0, p1, p2, p3⟩, q0, q1, q2, q3⟩ := HD4.out.cellsAt 0 (by omega)
    have hpr : xs[0] = pg xs 0 := (pg_at (by omega)).symm
    have hwp : IntKind.i64.wrap (xs[0].price + 1) = xs[0].price + 1 := IntWalk.i64_in _ (by rw [hpr]; omega)
    obtain ⟨zs, hzl, hd7⟩ := HD4.out.put 0 (by omega) 3 (by omega) (.int .i64 (xs[0].price + 1)) ⟨xs[0].name, xs[0].par, xs[0].each, xs[0].price + 1⟩ (Hsm.out xs[0] (List.getElem_mem _)) rfl
    have hA5 := ownsRow_setCell_other hA4r (a := ⟨b3, 0 * 4 + 3, none⟩) (fun e => by injection e with e; have e2 : b2 = b3 := e; omega) (.int .i64 (xs[0].price + 1))
    have hb5 := Hb4.out.setCell (p := ⟨b3, 0 * 4 + 3, none⟩) (by show w.heap.size ≤ b3; omega) (.int .i64 (xs[0].price + 1))
    have hrz := hd7.rd
    have hrd : RdP (w4.setCell ⟨b3, 0 * 4 + 3, none⟩ (.int .i64 (xs[0].price + 1))) (w4.setCell ⟨b3, 0 * 4 + 3, none⟩ (.int .i64 (xs[0].price + 1))).heap.size (.slice (some ⟨b3, 0, none⟩) xs.length c3) zs := hrz
    have Hz := Lib.hid (show RetDs w (.returned (.tuple #[.slice (some ⟨b2, 0, none⟩) xs.length c2, .slice (some ⟨b3, 0, none⟩) xs.length c3])) (w4.setCell ⟨b3, 3, none⟩ (.int .i64 (xs[0].price + 1))) from ⟨_, _, xs, zs, rfl, Rd.of_own hA5, hrd, by omega, by omega, hb5⟩)
    clear hA5 hb5 hd7 hrz hrd hA4r HA4 HD4 hpr hzl p0 p1 p2 q0 q1 q2
    generalize xs[0].price = pr at *
    have p3' : w4.cell? ⟨b3, 3, none⟩ = some (.int .i64 pr) := p3
    have q3' : w4.frozen? ⟨b3, 3, none⟩ = false := q3
    clear p3 q3
    go_wp2_with fail
    go_ret2
    exact Hz.out
  have hq0 : (x == 0) = false := by simpa using e0
  have hA4d := Rd.of_own hA4r
  have hD4d := HD4.out.rd
  by_cases e1 : x = 1
  · subst e1
    by_cases hc1 : c3 = 1
    · have hl1 : xs.length = 1 := by omega
      have Hz := Lib.hid (fun A c => (show RetDs w (.returned (.tuple #[.slice (some ⟨b2, 0, none⟩) xs.length c2, .slice A 0 c])) w4 from ⟨_, _, xs, [], rfl, hA4d, rd_none, by omega, by simp, Hb4.out⟩))
      subst hc1
      have Hl1 := Lib.hid hl1
      have hcl : ((xs.length : Int) - 1) = 0 := by omega
      clear hA4r HA4 HD4 hA4d hD4d hl1
      go_wp2_with fail
      go_ret2
      exact Hz.out (some ⟨b3, 0, none⟩) 0
    · have Hz := Lib.hid (fun c' => (show RetDs w (.returned (.tuple #[.slice (some ⟨b2, 0, none⟩) xs.length c2, .slice (some ⟨b3, 4, none⟩) (xs.length - 1) c'])) w4 from ⟨_, _, xs, xs.drop 1, rfl, hA4d, rd_tail hD4d (by omega), by omega, by rw [List.length_drop]; omega, Hb4.out⟩))
      clear hA4r HA4 HD4 hA4d hD4d
      go_wp2_with fail
      trace_state
      go_ret2
      exact Hz.out _
  have hq1 : (x == 1) = false := by simpa using e1
  have Hz := Lib.hid (show RetDs w (.returned (.tuple #[.slice (some ⟨b2, 0, none⟩) xs.length c2, .slice (some ⟨b3, 0, none⟩) xs.length c3])) w4 from ⟨_, _, xs, xs, rfl, hA4d, hD4d, by omega, by omega, Hb4.out⟩)
  clear hA4r HA4 HD4 hA4d hD4d
  go_wp2_with fail
  go_ret2
  exact Hz.out
end Go.Proofs.YtepgfcjfdnakbaaDoor
/- Jobs, texts and laws, part 12: what the law FnJobs draws (gen_jc12.py). -/
namespace Go.Proofs.YtepgfcjfdnakbaaDoor
open Go.RowKit Go.Joins

theorem GoodJ.nil : GoodJ (jbsOf []) := ⟨by simp [jbsOf], fun k hk => absurd hk (by simp [jbsOf]), fun k hk => absurd hk (by simp [jbsOf]), fun k hk => absurd hk (by simp [jbsOf])⟩
theorem GoodJ.snoc {xs : List Jb} {x : Jb} (h : GoodJ xs) (hl : xs.length < 30) (hn : ∀ n ∈ x.needs, 0 ≤ n ∧ n < (xs.length : Int)) (hd : 0 ≤ x.days ∧ x.days ≤ 1000000) (hc : 0 ≤ x.cost ∧ x.cost ≤ 1000000) : GoodJ (xs ++ [x]) := by
  have hlen : (xs ++ [x]).length = xs.length + 1 := by simp
  have hk : ∀ k, k < (xs ++ [x]).length → (k < xs.length ∧ jg (xs ++ [x]) k = jg xs k) ∨ (k = xs.length ∧ jg (xs ++ [x]) k = x) := fun k hk => by
    by_cases e : k < xs.length
    · exact .inl ⟨e, jg_appL e⟩
    · have e2 : k = xs.length := by omega
      subst e2
      exact .inr ⟨rfl, jg_last xs x⟩
  refine ⟨by omega, fun k hk' => ?_, fun k hk' => ?_, fun k hk' => ?_⟩
  · rcases hk k hk' with ⟨h1, h2⟩ | ⟨h1, h2⟩
    · rw [h2]; exact h.need k h1
    · rw [h2, h1]; exact hn
  · rcases hk k hk' with ⟨h1, h2⟩ | ⟨h1, h2⟩
    · rw [h2]; exact h.days k h1
    · rw [h2]; exact hd
  · rcases hk k hk' with ⟨h1, h2⟩ | ⟨h1, h2⟩
    · rw [h2]; exact h.cost k h1
    · rw [h2]; exact hc
def RetDg (w : World) (B g k : Nat) (bs : List UInt8) (e : Ending) (w' : World) : Prop := ∃ v ys, e = .returned v ∧ ys.length ≤ 9 ∧ GoodJ (jbsOf ys) ∧ DrJ w w' B g k bs v ys
set_option maxRecDepth 100000 in
set_option maxHeartbeats 6400000 in
theorem l22DrawG_any (B g k : Nat) (bs : List UInt8) (w : World) (hs : SrcAt w B g k bs) (hk : k + 400 ≤ 4611686018427380000) :
    Calls Tryd.prog 86 #[.pointer (some ⟨g, 0, none⟩)] w (RetDg w B g (k + 202) bs) := by
  have hlt := hs.lt
  have hb0 := (Below.refl w.heap.size w).alloc (Nat.le_refl _) (.cells (jbL.map Value.string).toArray 9)
  have Hg0 := Lib.hid (grown_of_below hb0 (some g))
  have HD0 := Lib.hid (show DrJ (w.alloc (.cells (jbL.map Value.string).toArray 9)) ((w.alloc (.cells (jbL.map Value.string).toArray 9)).alloc (.cells #[] 62)) B g k bs (.slice (some ⟨w.heap.size + 1, 0, none⟩) 0 0) [] from by
    have e : w.heap.size + 1 = (w.alloc (.cells (jbL.map Value.string).toArray 9)).heap.size := by simp
    rw [e]
    exact ⟨DrR.made (hs.below hb0) _ _, fun y hy => (by cases hy), by simp, fun x hx => (by cases hx), _, _, rfl⟩)
  have HNm := Lib.hid (fun i hi => alloc_strs w jbL 9 i hi)
  have Hlt := Lib.hid (show w.heap.size < (w.alloc (.cells (jbL.map Value.string).toArray 9)).heap.size by simp)
  have hng : w.heap.size ≠ g := by omega
  clear hs hb0
  go_enter Tryd.func86, Tryd.ntmps86
  go_wp2_with fail
  refine (pick_any B g k bs 10 _ HD0.out.dr.src (by omega)).mono ?_; rintro e w1 ⟨x, rfl, ⟨hx0, hx1, _⟩, hs1, hg1⟩
  have HD1 := Lib.hid (HD0.out.draw hs1 hg1)
  have hx9 := hx1 (by omega)
  obtain ⟨c, hc⟩ : ∃ c : Nat, x = (c : Int) := ⟨x.toNat, by omega⟩
  have hc10 : c ≤ 9 := by omega
  clear hs1 hg1 hx1 HD0
  obtain ⟨W1, hW1⟩ : ∃ z, w.alloc (.cells (jbL.map Value.string).toArray 9) = z := ⟨_, rfl⟩
  rw [hW1] at HD1 Hlt Hg0 HNm
  clear hW1
  go_wp2_with fail
  (try rw [hc])
  clear hc hx0 hx9
  go_loopw [4, 5] (fun o i wr => ∃ (j : Nat) (ys : List (Jb × Value)), j + ys.length = c ∧ i = .int .i64 (j : Int) ∧ GoodJ (jbsOf ys) ∧ DrJ W1 wr B g (k + 2 + 22 * ys.length) bs o ys) (fun _ i _ => (intOf i).toNat)
  case atStart => exact ⟨c, [], by simp, rfl, GoodJ.nil, HD1.out⟩
  case round =>
    obtain ⟨j, ys, hjc, rfl, hgj, hd⟩ := hrel
    have Hgj := Lib.hid hgj
    clear hgj
    obtain ⟨b0, c0, rfl⟩ := hd.nn
    have HD := Lib.hid hd
    have Hjc := Lib.hid hjc
    have hxl : ys.length ≤ 9 := by omega
    clear HD1
    by_cases hj : 0 < j
    · have hj' : (0 : Int) < (j : Int) := by omega
      have hjj : (j : Int) - 1 = ((j - 1 : Nat) : Int) := by omega
      have Hjj := Lib.hid hjj
      have hj10 : (j : Int) ≤ 9 := by omega
      have hx10 : ys.length < 9 := by omega
      have hx10' : (ys.length : Int) < 9 := by omega
      have hz16 := jbL_sz (jbL[ys.length]'(by show ys.length < 9; omega)) (List.getElem_mem _)
      have HNx := Lib.hid (fun wy (hg : W1.grownBy wy (some g)) => (World.cell?_of_block (a := ⟨w.heap.size, ys.length, none⟩) (hg.block w.heap.size Hlt.out (fun e => hng (by injection e)))).trans (HNm.out ys.length (by show ys.length < 9; omega)))
      generalize (jbL[ys.length]'(by show ys.length < 9; omega)) = z at *
      have hn := HNx.out wr.drew hd.drew.dr.gr
      have HDd := Lib.hid hd.drew
      clear hd hjc hjj
      go_upto_region 7 with (fail)
      go_cut [7] (fun s7 wx => ∃ (q : Nat) (y2 y3 : Int), s7 = .pointer (some ⟨q, 0, none⟩) ∧ (1 ≤ y2 ∧ y2 ≤ 9) ∧ (0 ≤ y3 ∧ y3 ≤ 50) ∧ JbQ W1 wx B g (k + 2 + 22 * ys.length + 4) bs (.slice (some ⟨b0, 0, none⟩) ys.length c0) ys q (.string z) (.int .i64 y2) (.int .i64 y3) (.slice none 0 0) [])
      case first =>
        refine wp_region_noPanic ?_
        refine wp_region_L [] (fun w' => w'.cell? ⟨w.heap.size, ys.length, none⟩ = some (.string z)) (by kernel_rfl) (hn) (fun hHeld => ?_)
        refine take_F (i := 0) (d := some 22) (v := ?_) (by kernel_rfl) (by kernel_rfl) rfl rfl (by kernel_rfl) (by kernel_rfl) (by kernel_rfl) (fun _ _ _ h => h) (Or.inl ⟨by rfl, ?_⟩) (by assumption) ?_
        rotate_left
        · (intro w hSw; (try dsimp only at hSw); go_simp; (try rw [if_neg (by omega)]); (try (with_reducible rfl)))
        simp only [Act.put, List.setIfInBounds_toArray, List.set_cons_zero, List.set_cons_succ]
        refine take_F (i := 1) (d := some 23) (v := ?_) (by kernel_rfl) (by kernel_rfl) rfl rfl (by kernel_rfl) (by kernel_rfl) (by kernel_rfl) (fun _ _ _ h => h) (Or.inl ⟨by rfl, ?_⟩) (by assumption) ?_
        rotate_left
        · (intro w hSw; (try dsimp only at hSw); go_simp; (try rw [if_neg (by omega)]); (try (with_reducible rfl)))
        simp only [Act.put, List.setIfInBounds_toArray, List.set_cons_zero, List.set_cons_succ]
        refine take_F (i := 2) (d := some 24) (v := ?_) (by kernel_rfl) (by kernel_rfl) rfl rfl (by kernel_rfl) (by kernel_rfl) (by kernel_rfl) (fun _ _ _ h => h) (Or.inl ⟨by rfl, ?_⟩) (by assumption) ?_
        rotate_left
        · (intro w hSw; (try dsimp only at hSw); go_simp; (try rw [if_neg (by omega)]); (try (with_reducible rfl)))
        simp only [Act.put, List.setIfInBounds_toArray, List.set_cons_zero, List.set_cons_succ]
        refine take_L [3] (i := 3) (d := some 25) (v := ?_) (by kernel_rfl) (by kernel_rfl) (by kernel_rfl) (by kernel_rfl) rfl rfl (by kernel_rfl) (by kernel_rfl) (by kernel_rfl) (fun _ _ _ h => h) (Or.inl ⟨by rfl, ?_⟩) (by assumption) ?_
        rotate_left
        · (intro w hSw; (try dsimp only at hSw); go_simp; (try rw [if_neg (by omega)]); (try (with_reducible rfl)))
        simp only [Act.put, List.setIfInBounds_toArray, List.set_cons_zero, List.set_cons_succ]
        refine take_F (i := 4) (d := some 26) (v := ?_) (by kernel_rfl) (by kernel_rfl) rfl rfl (by kernel_rfl) (by kernel_rfl) (by kernel_rfl) (fun _ _ _ h => h) (Or.inl ⟨by rfl, ?_⟩) (by assumption) ?_
        rotate_left
        · (intro w hSw; (try dsimp only at hSw); go_simp; (try rw [if_neg (by omega)]); (try (with_reducible rfl)))
        simp only [Act.put, List.setIfInBounds_toArray, List.set_cons_zero, List.set_cons_succ]
        refine take_F (i := 7) (d := some 29) (v := ?_) (by kernel_rfl) (by kernel_rfl) rfl rfl (by kernel_rfl) (by kernel_rfl) (by kernel_rfl) (fun _ _ _ h => h) (Or.inl ⟨by rfl, ?_⟩) (by assumption) ?_
        rotate_left
        · (intro w hSw; (try dsimp only at hSw); go_simp; (try rw [if_neg (by omega)]); (try (with_reducible rfl)))
        simp only [Act.put, List.setIfInBounds_toArray, List.set_cons_zero, List.set_cons_succ]
        refine both_L (i := 5) (j := 10) (di := (some 27)) (dj := (some 7)) rfl rfl rfl rfl (by kernel_rfl) (fun Kq hKq => ?_) (fun Kq hKq => ?_)
        · go_simp
          go_at_call 70
          refine (pick_any B g _ bs 9 _ HDd.out.dr.src (by omega)).mono ?_; rintro e wz11 ⟨xa, rfl, ⟨hxa0, hxa1, _⟩, hs11, hg11⟩
          have hxa2 := hxa1 (by omega)
          have HA1 := Lib.hid (HDd.out.draw hs11 hg11)
          have hn11 := HNx.out wz11 HA1.out.dr.gr
          have hwz11 : IntKind.i64.wrap (1 + xa) = 1 + xa := IntWalk.i64_in _ (by omega)
          clear hs11 hg11 hxa1
          (try go_wp2_with fail)
          refine hKq.out _ _ (hn11) (fun hHeld => ?_)
          clear hKq Kq
          (try simp only [Act.put, List.setIfInBounds_toArray, List.set_cons_zero, List.set_cons_succ])
          refine take_F (i := 6) (d := some 28) (v := ?_) (by kernel_rfl) (by kernel_rfl) rfl rfl (by kernel_rfl) (by kernel_rfl) (by kernel_rfl) (fun _ _ _ h => h) (Or.inl ⟨by rfl, ?_⟩) (by assumption) ?_
          rotate_left
          · (intro w hSw; (try dsimp only at hSw); go_simp; (try rw [if_neg (by omega)]); (try (with_reducible rfl)))
          simp only [Act.put, List.setIfInBounds_toArray, List.set_cons_zero, List.set_cons_succ]
          refine both_L (i := 8) (j := 10) (di := (some 30)) (dj := (some 7)) rfl rfl rfl rfl (by kernel_rfl) (fun Kq hKq => ?_) (fun Kq hKq => ?_)
          · go_simp
            go_at_call 70
            refine (pick_any B g _ bs 50 _ HA1.out.dr.src (by omega)).mono ?_; rintro e wz12 ⟨ya, rfl, ⟨hya0, hya1, _⟩, hs12, hg12⟩
            have hya2 := hya1 (by omega)
            have HA2 := Lib.hid (HA1.out.draw hs12 hg12)
            have hn12 := HNx.out wz12 HA2.out.dr.gr
            have hwz12 : IntKind.i64.wrap (1 + ya) = 1 + ya := IntWalk.i64_in _ (by omega)
            clear hs12 hg12 hya1
            (try go_wp2_with fail)
            refine hKq.out _ _ (hn12) (fun hHeld => ?_)
            clear hKq Kq
            (try simp only [Act.put, List.setIfInBounds_toArray, List.set_cons_zero, List.set_cons_succ])
            refine take_F (i := 9) (d := some 31) (v := ?_) (by kernel_rfl) (by kernel_rfl) rfl rfl (by kernel_rfl) (by kernel_rfl) (by kernel_rfl) (fun _ _ _ h => h) (Or.inl ⟨by rfl, ?_⟩) (by assumption) ?_
            rotate_left
            · (intro w hSw; (try dsimp only at hSw); go_simp; (try rw [if_neg (by omega)]); (try (with_reducible rfl)))
            simp only [Act.put, List.setIfInBounds_toArray, List.set_cons_zero, List.set_cons_succ]
            have hnq := HNx.out _ (JbQ.new HA2.out (.string ⟨#[]⟩) (.int .i64 0) (.int .i64 0)).dr.gr
            refine call_L (i := 10) (d := (some 7)) rfl rfl (by kernel_rfl) (fun Kq hKq => ?_)
            go_simp
            refine hKq.out _ _ (hnq) (fun hHeld => ?_)
            clear hKq Kq
            (try simp only [Act.put, List.setIfInBounds_toArray, List.set_cons_zero, List.set_cons_succ])
            refine call_L (i := 11) (d := none) rfl rfl (by kernel_rfl) (fun Kq hKq => ?_)
            go_simp
            have HA4 := Lib.hid (JbQ.new HA2.out (.string z) (.int .i64 (1 + xa)) (.int .i64 ya))
            have hn13 := HNx.out _ HA4.out.dr.gr
            refine hKq.out _ _ (hn13) (fun hHeld => ?_)
            clear hKq Kq
            (try simp only [Act.put, List.setIfInBounds_toArray, List.set_cons_zero, List.set_cons_succ])
            refine done_L (by kernel_rfl) ?_ _
            refine NoPanic.normal ?_
            (try go_wp2_with fail)
            go_meet
            exact ⟨_, _, _, rfl, by omega, by omega, HA4.out⟩
          · go_simp
            have HB2 := Lib.hid (JbQ.new HA1.out (.string ⟨#[]⟩) (.int .i64 0) (.int .i64 0))
            have hn14 := HNx.out _ HB2.out.dr.gr
            refine hKq.out _ _ (hn14) (fun hHeld => ?_)
            clear hKq Kq
            (try simp only [Act.put, List.setIfInBounds_toArray, List.set_cons_zero, List.set_cons_succ])
            refine call_L (i := 8) (d := (some 30)) rfl rfl (by kernel_rfl) (fun Kq hKq => ?_)
            go_simp
            go_at_call 70
            refine (pick_any B g _ bs 50 _ HB2.out.dr.src (by omega)).mono ?_; rintro e wz15 ⟨yb, rfl, ⟨hyb0, hyb1, _⟩, hs15, hg15⟩
            have hyb2 := hyb1 (by omega)
            have HB3 := Lib.hid (HB2.out.draw hs15 hg15)
            have hn15 := HNx.out wz15 HB3.out.dr.gr
            have hwz15 : IntKind.i64.wrap (1 + yb) = 1 + yb := IntWalk.i64_in _ (by omega)
            clear hs15 hg15 hyb1
            (try go_wp2_with fail)
            refine hKq.out _ _ (hn15) (fun hHeld => ?_)
            clear hKq Kq
            (try simp only [Act.put, List.setIfInBounds_toArray, List.set_cons_zero, List.set_cons_succ])
            refine take_F (i := 9) (d := some 31) (v := ?_) (by kernel_rfl) (by kernel_rfl) rfl rfl (by kernel_rfl) (by kernel_rfl) (by kernel_rfl) (fun _ _ _ h => h) (Or.inl ⟨by rfl, ?_⟩) (by assumption) ?_
            rotate_left
            · (intro w hSw; (try dsimp only at hSw); go_simp; (try rw [if_neg (by omega)]); (try (with_reducible rfl)))
            simp only [Act.put, List.setIfInBounds_toArray, List.set_cons_zero, List.set_cons_succ]
            refine call_L (i := 11) (d := none) rfl rfl (by kernel_rfl) (fun Kq hKq => ?_)
            obtain ⟨⟨c016, c116, c216, c316⟩, f016, f116, f216, f316⟩ := blk4p HB3.out.hq
            go_simp
            have HB4 := Lib.hid (HB3.out.put (.string z) (.int .i64 (1 + xa)) (.int .i64 yb))
            have hn16 := HNx.out _ HB4.out.dr.gr
            refine hKq.out _ _ (hn16) (fun hHeld => ?_)
            clear hKq Kq
            (try simp only [Act.put, List.setIfInBounds_toArray, List.set_cons_zero, List.set_cons_succ])
            refine done_L (by kernel_rfl) ?_ _
            refine NoPanic.normal ?_
            (try go_wp2_with fail)
            go_meet
            exact ⟨_, _, _, rfl, by omega, by omega, HB4.out⟩
        · go_simp
          have HC1 := Lib.hid (show JbQ W1 (wr.drew.alloc (.cells #[.string ⟨#[]⟩, .int .i64 0, .int .i64 0, .slice none 0 0] 62)) B g (k + 2 + 22 * ys.length) bs (.slice (some ⟨b0, 0, none⟩) ys.length c0) ys wr.heap.size (.string ⟨#[]⟩) (.int .i64 0) (.int .i64 0) (.slice none 0 0) [] from JbQ.new HDd.out (.string ⟨#[]⟩) (.int .i64 0) (.int .i64 0))
          have hn17 := HNx.out _ HC1.out.dr.gr
          refine hKq.out _ _ (hn17) (fun hHeld => ?_)
          clear hKq Kq
          (try simp only [Act.put, List.setIfInBounds_toArray, List.set_cons_zero, List.set_cons_succ])
          refine call_L (i := 5) (d := (some 27)) rfl rfl (by kernel_rfl) (fun Kq hKq => ?_)
          go_simp
          go_at_call 70
          refine (pick_any B g _ bs 9 _ HC1.out.dr.src (by omega)).mono ?_; rintro e wz18 ⟨xc, rfl, ⟨hxc0, hxc1, _⟩, hs18, hg18⟩
          have hxc2 := hxc1 (by omega)
          have HC2 := Lib.hid (HC1.out.draw hs18 hg18)
          have hn18 := HNx.out wz18 HC2.out.dr.gr
          have hwz18 : IntKind.i64.wrap (1 + xc) = 1 + xc := IntWalk.i64_in _ (by omega)
          clear hs18 hg18 hxc1
          (try go_wp2_with fail)
          refine hKq.out _ _ (hn18) (fun hHeld => ?_)
          clear hKq Kq
          (try simp only [Act.put, List.setIfInBounds_toArray, List.set_cons_zero, List.set_cons_succ])
          refine take_F (i := 6) (d := some 28) (v := ?_) (by kernel_rfl) (by kernel_rfl) rfl rfl (by kernel_rfl) (by kernel_rfl) (by kernel_rfl) (fun _ _ _ h => h) (Or.inl ⟨by rfl, ?_⟩) (by assumption) ?_
          rotate_left
          · (intro w hSw; (try dsimp only at hSw); go_simp; (try rw [if_neg (by omega)]); (try (with_reducible rfl)))
          simp only [Act.put, List.setIfInBounds_toArray, List.set_cons_zero, List.set_cons_succ]
          refine call_L (i := 8) (d := (some 30)) rfl rfl (by kernel_rfl) (fun Kq hKq => ?_)
          go_simp
          go_at_call 70
          refine (pick_any B g _ bs 50 _ HC2.out.dr.src (by omega)).mono ?_; rintro e wz19 ⟨yc, rfl, ⟨hyc0, hyc1, _⟩, hs19, hg19⟩
          have hyc2 := hyc1 (by omega)
          have HC3 := Lib.hid (HC2.out.draw hs19 hg19)
          have hn19 := HNx.out wz19 HC3.out.dr.gr
          have hwz19 : IntKind.i64.wrap (1 + yc) = 1 + yc := IntWalk.i64_in _ (by omega)
          clear hs19 hg19 hyc1
          (try go_wp2_with fail)
          refine hKq.out _ _ (hn19) (fun hHeld => ?_)
          clear hKq Kq
          (try simp only [Act.put, List.setIfInBounds_toArray, List.set_cons_zero, List.set_cons_succ])
          refine take_F (i := 9) (d := some 31) (v := ?_) (by kernel_rfl) (by kernel_rfl) rfl rfl (by kernel_rfl) (by kernel_rfl) (by kernel_rfl) (fun _ _ _ h => h) (Or.inl ⟨by rfl, ?_⟩) (by assumption) ?_
          rotate_left
          · (intro w hSw; (try dsimp only at hSw); go_simp; (try rw [if_neg (by omega)]); (try (with_reducible rfl)))
          simp only [Act.put, List.setIfInBounds_toArray, List.set_cons_zero, List.set_cons_succ]
          refine call_L (i := 11) (d := none) rfl rfl (by kernel_rfl) (fun Kq hKq => ?_)
          obtain ⟨⟨c020, c120, c220, c320⟩, f020, f120, f220, f320⟩ := blk4p HC3.out.hq
          go_simp
          have HC4 := Lib.hid (HC3.out.put (.string z) (.int .i64 (1 + xc)) (.int .i64 yc))
          have hn20 := HNx.out _ HC4.out.dr.gr
          refine hKq.out _ _ (hn20) (fun hHeld => ?_)
          clear hKq Kq
          (try simp only [Act.put, List.setIfInBounds_toArray, List.set_cons_zero, List.set_cons_succ])
          refine done_L (by kernel_rfl) ?_ _
          refine NoPanic.normal ?_
          (try go_wp2_with fail)
          go_meet
          exact ⟨_, _, _, rfl, by omega, by omega, HC4.out⟩
      case rest =>
        obtain ⟨q, y2, y3, rfl, hy2, hy3, hQ⟩ := hcut
        have HQ := Lib.hid hQ
        clear hQ HD HDd hn HNx
        go_wp2_with fail
        go_loopw [8] (fun x wr => ∃ (i : Nat) (l : List Int) (d : Value), i ≤ ys.length ∧ x = .int .i64 (i : Int) ∧ l.length ≤ i ∧ (∀ n ∈ l, 0 ≤ n ∧ n < (i : Int)) ∧ JbQ W1 wr B g (k + 2 + 22 * ys.length + 4 + 2 * i) bs (.slice (some ⟨b0, 0, none⟩) ys.length c0) ys q (.string z) (.int .i64 y2) (.int .i64 y3) d l) (fun x _ => ys.length - (intOf x).toNat)
        case atStart => exact ⟨0, [], _, Nat.zero_le _, rfl, Nat.le_refl _, fun n hn => (by cases hn), HQ.out⟩
        case round =>
          clear HQ
          obtain ⟨i, l, d, hi, rfl, hll, hnl, hQ⟩ := hrel
          have Hnl := Lib.hid hnl
          clear hnl
          obtain ⟨Ad, cd, rfl⟩ := own_sl hQ.cur
          have HQ := Lib.hid hQ
          have Hll := Lib.hid hll
          clear hQ hll
          by_cases hil : i < ys.length
          · have hil' : (i : Int) < (ys.length : Int) := by omega
            go_wp2_with fail
            refine (one_any B g _ bs 3 _ HQ.out.dr.src (by omega)).mono ?_; rintro e wy1 ⟨tb, rfl, hs1, hg1⟩
            have HQ1 := Lib.hid (HQ.out.draw hs1 hg1)
            clear hs1 hg1 HQ
            cases tb with
            | false =>
              go_wp2_with fail
              go_roundw
              case rel => exact ⟨i + 1, l, _, by omega, by go_num, by have := Hll.out; omega, (fun n hn => by have := Hnl.out n hn; omega), HQ1.out.more (by omega)⟩
              case measure => first | (simp [intOf]; done) | (simp [intOf]; omega)
            | true =>
              obtain ⟨⟨_, _, _, e3⟩, _, _, _, f3⟩ := blk4p HQ1.out.hq
              have Hcur := Lib.hid HQ1.out.cur
              have Hqb := Lib.hid (show q + 1 ≤ wy1.heap.size from HQ1.out.qlt)
              have hl62 : l.length ≤ 62 := by have := Hll.out; omega
              go_wp2_with (at_builtin; refine wpList_apd 29 2 _ 1 8 Tryd.underlying29 infoD rfl (by omega) _ _ rfl rfl (q + 1) _ l.length _ rfl Hcur.out #[.int .i64 (i : Int)] 1 1 rfl rfl (by simp [Value.oneCell']) (by simp [maxLen]; omega) (by omega) Hqb.out ?_; intro v7 w7 hown7 hg7; obtain ⟨A7, c7, rfl⟩ := own_sl hown7; obtain ⟨hQ7, hq7⟩ := HQ1.out.app hg7 hown7; have HQ7 := Lib.hid hQ7; obtain ⟨⟨_, _, _, z3⟩, _, _, _, g3⟩ := blk4p hq7; clear hown7 hg7 hQ7 hq7 e3 f3)
              go_roundw
              case rel => exact ⟨i + 1, _, _, by omega, by go_num, by have := Hll.out; simp; omega, (fun n hn => by
                rcases List.mem_append.1 hn with hn | hn
                · have := Hnl.out n hn; omega
                · rw [List.mem_singleton.1 hn]; omega), HQ7.out.more (by omega)⟩
              case measure => first | (simp [intOf]; done) | (simp [intOf]; omega)
          · obtain rfl : i = ys.length := by omega
            have hil' : ¬ ((ys.length : Int) < (ys.length : Int)) := by omega
            have hl62 : l.length ≤ 62 := by have := Hll.out; omega
            have Hon := Lib.hid (ones4J z y2 y3 Ad l.length cd)
            obtain ⟨⟨d0, d1, d2, d3⟩, -⟩ := blk4p HQ.out.hq
            have Hsn := Lib.hid (fun (v' : Value) (w' : World) hr hg => HQ.out.snoc (w' := w') (v' := v') (by omega) hz16 hl62 hr hg)
            have Hro := Lib.hid HQ.out.dr.row
            have Hsz := Lib.hid HQ.out.dr.size
            go_wp2_with (at_builtin; refine wpList_apd 47 62 _ 4 56 Tryd.underlying47 infoJ rfl (by omega) _ _ rfl rfl W1.heap.size _ _ _ rfl Hro.out #[.string z, .int .i64 y2, .int .i64 y3, .slice Ad l.length cd] 1 1 rfl rfl Hon.out (by simp [maxLen]; omega) (by omega) Hsz.out ?_; intro v9 w9 hown9 hg9; obtain ⟨zs, hzl, hze, hd9⟩ := Hsn.out v9 w9 hown9 hg9; have Hze := Lib.hid hze; clear hze; have Hzl := Lib.hid hzl; obtain ⟨b9, c9, rfl⟩ := hd9.nn; have HM9 := Lib.hid (show DrJ W1 w9 B g (k + 2 + 22 * zs.length) bs (.slice (some ⟨b9, 0, none⟩) zs.length c9) zs from hd9.more (k' := k + 2 + 22 * zs.length) (by omega)); clear hown9 hg9 hzl hd9)
            go_roundw
            case rel => exact ⟨j - 1, zs, by have := Hjc.out; have := Hzl.out; omega, by rw [Hjj.out], by rw [Hze.out, jbsOf_snoc]; exact Hgj.out.snoc (by rw [jbsOf_len]; omega) (fun n hn => by rw [jbsOf_len]; exact Hnl.out n hn) (by dsimp only; omega) (by dsimp only; omega), HM9.out⟩
            case measure => simp [intOf]; omega
    · have hj0 : j = 0 := by omega
      subst hj0
      have Hz := Lib.hid (HD.out.from Hg0.out hlt)
      clear HD hd hjc
      go_wp2_with fail
      go_ret
      exact ⟨_, ys, rfl, hxl, Hgj.out, Hz.out.more (by omega)⟩

theorem textJ_small {xs : List Jb} (hg : GoodJ xs) (hz : ∀ x ∈ xs, x.nm.size ≤ 16 ∧ x.needs.length ≤ 62) : ∀ k, k ≤ xs.length → (textJ xs k).size ≤ k * 1200
  | 0, _ => Nat.le_refl _
  | k + 1, hk => by
    have hk' : k < xs.length := by omega
    have hzk := fun i (hi : i < xs.length) => hz _ (List.getElem_mem hi)
    have hat : ∀ i, i < xs.length → (jg xs i).nm.size ≤ 16 ∧ (jg xs i).needs.length ≤ 62 := fun i hi => by rw [jg_at hi]; exact hzk i hi
    show (textJ xs k ++ (bodyJ xs k ++ ⟨#[10]⟩) : ByteArray).size ≤ _
    rw [ByteArray.size_append, ByteArray.size_append]
    have h1 := textJ_small hg hz k (by omega)
    have h2 := hg.days k hk'
    have h3 := hg.cost k hk'
    have c := decS_size (jg xs k).days (by omega) (by omega)
    have d := decS_size (jg xs k).cost (by omega) (by omega)
    have a := hat k hk'
    have ht : ∀ ws : List ByteArray, (∀ w ∈ ws, w.size ≤ 16) → (tailJ ws).size ≤ ws.length * 17 := by
      intro ws
      induction ws with
      | nil => intro _; exact Nat.le_refl _
      | cons w ws ih =>
        intro h
        have h1 := ih (fun y hy => h y (by simp [hy]))
        have h2 := h w (by simp)
        show (⟨#[32]⟩ ++ w ++ tailJ ws : ByteArray).size ≤ _
        rw [ByteArray.size_append, ByteArray.size_append, List.length_cons]
        have h3 : (⟨#[32]⟩ : ByteArray).size = 1 := rfl
        omega
    have h4 := ht (ndNms xs (jg xs k).needs) (fun w hw => by
      obtain ⟨n, hn, rfl⟩ := List.mem_map.1 hw
      have := hg.need k hk' n hn
      exact (hat n.toNat (by omega)).1)
    have h5 : (ndNms xs (jg xs k).needs).length = (jg xs k).needs.length := by unfold ndNms; rw [List.length_map]
    rw [h5] at h4
    have h6 : (⟨#[10]⟩ : ByteArray).size = 1 := rfl
    unfold bodyJ headJ
    rw [ndT_all, ByteArray.size_append, headJ_sizes.2.2.2]
    omega
def RetDq (w : World) (e : Ending) (w' : World) : Prop := ∃ v xs, e = .returned v ∧ NwJ w w' v xs ∧ ∀ x ∈ xs, x.nm.size ≤ 16 ∧ x.needs.length ≤ 62
set_option maxRecDepth 100000 in
set_option maxHeartbeats 1600000 in
theorem drawES_any (B : Nat) (cv : Value) (bs : List UInt8) (w : World) (h : Rd w B cv bs.length 1 (bs.map byV)) (hB : B ≤ w.heap.size) : Calls Tryd.prog 28 #[cv] w (RetDq w) := by
  have HF := Lib.hid (l00From_any B cv bs w h hB)
  obtain ⟨_, A, c, rfl, _⟩ := h
  go_enter Tryd.func28, Tryd.ntmps28
  go_wp2_with fail
  refine HF.out.mono ?_; rintro e w1 ⟨rfl, hs1, hb1, hl1⟩
  have Hb1 := Lib.hid hb1
  have HL := Lib.hid (l22Bent_any B _ 0 bs w1 hs1 (by omega))
  clear hs1 hb1 HF
  go_wp2_with fail
  refine HL.out.mono ?_; rintro e w2 ⟨v, ys, rfl, hn, hd⟩
  obtain ⟨b0, c0, rfl⟩ := hd.nn
  have Hz := Lib.hid (show RetDq w (.returned (.slice (some ⟨b0, 0, none⟩) ys.length c0)) w2 from ⟨_, _, rfl, NwJ.of hd Hb1.out (Nat.le_refl _) hn, fun x hx => by
    obtain ⟨y, hy, rfl⟩ := List.mem_map.1 hx
    exact hd.sm y hy⟩)
  clear hd HL
  go_wp2_with fail
  go_ret
  exact Hz.out
set_option maxRecDepth 100000 in
set_option maxHeartbeats 1600000 in
theorem drawJT_any (B : Nat) (cv : Value) (bs : List UInt8) (w : World) (h : Rd w B cv bs.length 1 (bs.map byV)) (hB : B ≤ w.heap.size) : Calls Tryd.prog 40 #[cv] w (RetDq w) := by
  have HF := Lib.hid (l00From_any B cv bs w h hB)
  obtain ⟨_, A, c, rfl, _⟩ := h
  go_enter Tryd.func40, Tryd.ntmps40
  go_wp2_with fail
  refine HF.out.mono ?_; rintro e w1 ⟨rfl, hs1, hb1, hl1⟩
  have Hb1 := Lib.hid hb1
  have HL := Lib.hid (l22Bent_any B _ 0 bs w1 hs1 (by omega))
  clear hs1 hb1 HF
  go_wp2_with fail
  refine HL.out.mono ?_; rintro e w2 ⟨v, ys, rfl, hn, hd⟩
  obtain ⟨b0, c0, rfl⟩ := hd.nn
  have Hz := Lib.hid (show RetDq w (.returned (.slice (some ⟨b0, 0, none⟩) ys.length c0)) w2 from ⟨_, _, rfl, NwJ.of hd Hb1.out (Nat.le_refl _) hn, fun x hx => by
    obtain ⟨y, hy, rfl⟩ := List.mem_map.1 hx
    exact hd.sm y hy⟩)
  clear hd HL
  go_wp2_with fail
  go_ret
  exact Hz.out
set_option maxRecDepth 100000 in
set_option maxHeartbeats 1600000 in
theorem drawJB_any (B : Nat) (cv : Value) (bs : List UInt8) (w : World) (h : Rd w B cv bs.length 1 (bs.map byV)) (hB : B ≤ w.heap.size) : Calls Tryd.prog 37 #[cv] w (RetDw w) := by
  have HF := Lib.hid (l00From_any B cv bs w h hB)
  obtain ⟨_, A, c, rfl, _⟩ := h
  go_enter Tryd.func37, Tryd.ntmps37
  go_wp2_with fail
  refine HF.out.mono ?_; rintro e w1 ⟨rfl, hs1, hb1, hl1⟩
  have Hb1 := Lib.hid hb1
  have HL := Lib.hid (l22Bent_any B _ 0 bs w1 hs1 (by omega))
  clear hs1 hb1 HF
  go_wp2_with fail
  refine HL.out.mono ?_; rintro e w2 ⟨v, ys, rfl, hn, hd⟩
  obtain ⟨b0, c0, rfl⟩ := hd.nn
  have HD := Lib.hid hd
  clear hd HL
  go_wp2_with fail
  refine (pick_any B _ _ bs ((ys.length + 1 : Nat) : Int) _ HD.out.dr.src (by omega)).mono ?_; rintro e w3 ⟨x, rfl, ⟨hx0, hx1, _⟩, hs3, hg3⟩
  have HD3 := Lib.hid (HD.out.draw hs3 hg3)
  clear hs3 hg3 HD
  go_wp2_with fail
  refine (pick_any B _ _ bs 16 _ HD3.out.dr.src (by omega)).mono ?_; rintro e w4 ⟨y, rfl, ⟨hy0, hy1, _⟩, hs4, hg4⟩
  have HD4 := Lib.hid (HD3.out.draw hs4 hg4)
  have Hz := Lib.hid (fun z => (show RetDw w (.returned (.tuple #[.slice (some ⟨b0, 0, none⟩) ys.length c0, .int .i64 z])) w4 from ⟨_, _, z, rfl, NwJ.of HD4.out Hb1.out (Nat.le_refl _) hn⟩))
  have hy2 := hy1 (by omega)
  clear hs4 hg4 HD3 HD4
  go_wp2_with fail
  go_ret2
  exact Hz.out _
set_option maxRecDepth 100000 in
set_option maxHeartbeats 3200000 in
theorem drawRJ_any (B : Nat) (cv : Value) (bs : List UInt8) (w : World) (h : Rd w B cv bs.length 1 (bs.map byV)) (hB : B ≤ w.heap.size) : Calls Tryd.prog 43 #[cv] w (RetDt w) := by
  have HF := Lib.hid (l00From_any B cv bs w h hB)
  obtain ⟨_, A, c, rfl, _⟩ := h
  go_enter Tryd.func43, Tryd.ntmps43
  go_wp2_with fail
  refine HF.out.mono ?_; rintro e w1 ⟨rfl, hs1, hb1, hl1⟩
  have Hs1 := Lib.hid hs1
  have Hb1 := Lib.hid hb1
  clear hs1 hb1 HF
  go_wp2_with fail
  refine (l22DrawG_any B _ 0 bs _ Hs1.out (by omega)).mono ?_; rintro e w2 ⟨v2, ys, rfl, hx9, hgd, hd2⟩
  obtain ⟨b0, c0, rfl⟩ := hd2.nn
  have HD2 := Lib.hid hd2
  have HT := Lib.hid (l22Text_any w2.heap.size _ (jbsOf ys) w2 hd2.rd (Nat.le_refl _) hd2.sz hgd)
  have hts := textJ_small hgd (fun x hx => by
    obtain ⟨y, hy, rfl⟩ := List.mem_map.1 hx
    exact hd2.sm y hy) (jbsOf ys).length (Nat.le_refl _)
  have hts2 : (textJ (jbsOf ys) (jbsOf ys).length).size ≤ 10800 := by rw [jbsOf_len] at hts ⊢; omega
  generalize textJ (jbsOf ys) (jbsOf ys).length = t at *
  clear hd2 hgd Hs1 hts
  go_wp2_with fail
  refine HT.out.mono ?_; rintro e w3 ⟨rfl, hb3⟩
  have HD3 := Lib.hid (HD2.out.below hb3)
  clear hb3 HD2 HT
  go_wp2_with fail
  refine (one_any B _ _ bs 3 _ HD3.out.dr.src (by omega)).mono ?_; rintro e w4 ⟨y, rfl, hs4, hg4⟩
  have HD4 := Lib.hid (HD3.out.draw hs4 hg4)
  clear hs4 hg4 HD3
  cases y with
  | true =>
    go_wp2_with fail
    refine (spoil_any B _ _ bs t _ HD4.out.dr.src (by omega) (by omega)).mono ?_; rintro e w5 ⟨z, rfl, hz, hs5, hg5⟩
    have HD5 := Lib.hid (HD4.out.draw hs5 hg5)
    clear hs5 hg5 HD4
    go_wp2_with fail
    go_ret
    exact ⟨z, rfl, by omega, below_srcQ Hb1.out HD5.out.dr.gr (Nat.le_refl _)⟩
  | false =>
    go_wp2_with fail
    go_ret
    exact ⟨t, rfl, by omega, below_srcQ Hb1.out HD4.out.dr.gr (Nat.le_refl _)⟩
end Go.Proofs.YtepgfcjfdnakbaaDoor
/- Jobs, texts and laws, part 13: DrawSameJobs. -/
namespace Go.Proofs.YtepgfcjfdnakbaaDoor
open Go.RowKit Go.Joins

def RetDb (w : World) (e : Ending) (w' : World) : Prop := ∃ v1 v2 l1 l2, e = .returned (.tuple #[v1, v2]) ∧ RdJ w' w'.heap.size v1 l1 ∧ RdJ w' w'.heap.size v2 l2 ∧ l1.length ≤ 31 ∧ szJ l1 ∧ Below w.heap.size w w'
theorem cellsJ_one (ys : List (Jb × Value)) (h : ∀ y ∈ ys, ∃ A n c, y.2 = .slice A n c) : ∀ u ∈ ys.flatMap cellsJ, u.oneCell' = true := by
  intro u hu
  obtain ⟨x, hx0, hx⟩ := List.mem_flatMap.1 hu
  obtain ⟨A, n, c, he⟩ := h x hx0
  simp [cellsJ, he] at hx
  rcases hx with rfl | rfl | rfl | rfl <;> rfl
theorem rdJ_setO {W w : World} {B g k : Nat} {bs : List UInt8} {v : Value} {ys : List (Jb × Value)} (h : DrJ W w B g k bs v ys) {b c n base : Nat} (p : Nat) {cs : List Value} (hb : w.ownsRow base 62 4 (.slice (some ⟨b, 0, none⟩) n c) n cs) (hne : v.ownBlock ≠ some b) (u : Value) :
    RdJ (w.setCell ⟨b, p, none⟩ u) (w.setCell ⟨b, p, none⟩ u).heap.size v (jbsOf ys) :=
  ⟨ys, rfl, by rw [jbsOf_len]; exact Rd.of_own (ownsRow_setCell_other h.dr.row (a := ⟨b, p, none⟩) hne u), fun y hy => Rd.of_own (ownsRow_setCell_other (h.nds y hy) (a := ⟨b, p, none⟩) (by
    rcases apart_p (h.nds y hy) hb (by decide) with e | e
    · rw [e]; simp
    · exact e) u)⟩
theorem rdJ_tail {w : World} {B b c c' : Nat} {xs : List Jb} (h : RdJ w B (.slice (some ⟨b, 0, none⟩) xs.length c) xs) (hn : 0 < xs.length) : RdJ w B (.slice (some ⟨b, 4, none⟩) (xs.length - 1) c') (xs.drop 1) := by
  obtain ⟨ys, h1, ⟨_, A0, c0, hv, hc⟩, h3⟩ := h
  injection hv with e1 e2 e3
  subst e1
  obtain ⟨b', off, hA, hb, hcc⟩ := hc (by omega)
  obtain ⟨rfl, rfl⟩ := adr_inj hA
  obtain ⟨y, l, rfl⟩ : ∃ y l, ys = y :: l := by
    cases ys with
    | nil => subst h1; simp at hn
    | cons y l => exact ⟨y, l, rfl⟩
  subst h1
  have hl : ((List.map (·.1) (y :: l)).drop 1).length = (List.map (·.1) (y :: l)).length - 1 := by simp
  refine ⟨l, rfl, ⟨?_, some ⟨b, 4, none⟩, c', by rw [hl], fun _ => ⟨b, 4, rfl, hb, fun i u hu => ?_⟩⟩, fun z hz => h3 z (by simp [hz])⟩
  · have := flat_len cellsJ 4 (fun _ => rfl) l
    rw [this]; simp
  · have h2 := hcc (4 + i) u (by rw [List.flatMap_cons, List.getElem?_append_right (by show 4 ≤ 4 + i; omega)]; show (l.flatMap cellsJ)[4 + i - 4]? = some u; rw [Nat.add_sub_cancel_left]; exact hu)
    rwa [Nat.zero_add] at h2
theorem rdJ_none {w : World} {B : Nat} {A : Option Addr} {c : Nat} : RdJ w B (.slice A 0 c) [] := ⟨[], rfl, ⟨rfl, A, c, rfl, fun h => absurd h (by simp)⟩, fun y hy => by cases hy⟩
set_option maxRecDepth 100000 in
set_option maxHeartbeats 6400000 in
theorem drawSJ_any (B : Nat) (cv : Value) (bs : List UInt8) (w : World) (h : Rd w B cv bs.length 1 (bs.map byV)) (hB : B ≤ w.heap.size) : Calls Tryd.prog 45 #[cv] w (RetDb w) := by
  have HF := Lib.hid (l00From_any B cv bs w h hB)
  obtain ⟨_, A, c, rfl, _⟩ := h
  go_enter Tryd.func45, Tryd.ntmps45
  go_wp2_with fail
  refine HF.out.mono ?_; rintro e w1 ⟨rfl, hs1, hb1, hl1⟩
  have Hs1 := Lib.hid hs1
  have Hb1 := Lib.hid hb1
  have hgl := hs1.lt
  clear hs1 HF
  go_wp2_with fail
  refine (l22DrawG_any B _ 0 bs _ Hs1.out (by omega)).mono ?_; rintro e w2 ⟨v2, ys, rfl, hx9, hgd, hd2⟩
  obtain ⟨b2, c2, rfl⟩ := hd2.nn
  have HA := Lib.hid hd2
  have Hc2 := Lib.hid (own_cells0P hd2.dr.row)
  have HM := Lib.hid (DrR.made hd2.dr.src 62 4)
  have Hlt2 := Lib.hid (hd2.dr.row.lt b2 rfl)
  have Hfl := Lib.hid (show (ys.flatMap cellsJ).length = ys.length * 4 from flat_len cellsJ 4 (fun _ => rfl) ys)
  have Hone := Lib.hid (cellsJ_one ys fun y hy => by obtain ⟨A, c, e⟩ := own_sl (hd2.nds y hy); exact ⟨A, _, c, e⟩)
  have hb2l := (hd2.dr.row.lt b2 rfl).2
  have hzz := Nat.le_trans hb1.size hd2.dr.gr.size
  have HG := Lib.hid hgd
  have Hsz := Lib.hid hd2.sz
  have hjl := jbsOf_len ys
  have Hjl := Lib.hid hjl
  clear hd2 Hs1 hgd hb1 hjl
  have Hcc := Lib.hid (fun (i : Nat) (u : Value) (hu : (ys.flatMap cellsJ)[i]? = some u) => (((Below.refl w2.heap.size w2).alloc (Nat.le_refl _) (.cells #[] 62)).cell (p := ⟨b2, 0 + i, none⟩) Hlt2.out.2).trans (Hc2.out i u hu))
  by_cases hn0 : ys.length = 0
  · obtain rfl : ys = [] := List.eq_nil_of_length_eq_zero hn0
    have hA2 := Rd.of_own HA.out.dr.row
    clear hn0 Hfl Hcc Hone
    go_wp2_with (at_builtin; refine wpList_apr 47 62 _ 4 56 Tryd.underlying47 infoJ rfl (by omega) _ _ rfl rfl w2.heap.size _ 0 _ rfl HM.out.row b2 0 0 c2 [] rfl rfl (fun i u hu => by cases hu) (fun u hu => by cases hu) (by simp [maxLen]) (by omega) HM.out.size ?_; intro v3 w3 hown3 hg3; have HR3 := Lib.hid (HM.out.app hown3 hg3); obtain ⟨A3, c3, rfl⟩ := own_sl hown3; clear hown3 hg3 HM)
    have Hz := Lib.hid (show RetDb w (.returned (.tuple #[.slice (some ⟨b2, 0, none⟩) 0 c2, .slice A3 0 c3])) w3 from ⟨_, _, [], [], rfl, rdJ_none, rdJ_none, by simp, fun k hk => absurd hk (by simp), below_srcQ Hb1.out (grown_trans HA.out.dr.gr HR3.out.gr) (Nat.le_refl _)⟩)
    go_ret2
    exact Hz.out
  · have Hr0 := Lib.hid (show 0 < ys.length by omega)
    go_wp2_with (at_builtin; refine wpList_apr 47 62 _ 4 56 Tryd.underlying47 infoJ rfl (by omega) _ _ rfl rfl w2.heap.size _ 0 _ rfl HM.out.row b2 0 ys.length c2 (ys.flatMap cellsJ) rfl Hfl.out Hcc.out Hone.out (by simp [maxLen]; omega) (by omega) HM.out.size ?_; intro v3 w3 hown3 hg3; rw [Nat.zero_add, List.nil_append] at hown3; have HR3 := Lib.hid (HM.out.app hown3 hg3); obtain ⟨b3, c3, hv3, hcap, _⟩ := own_posC hown3 Hr0.out; subst hv3; clear hown3 hg3 HM)
    have HA3 := Lib.hid (HA.out.draw HR3.out.src HR3.out.gr)
    have HB3 := Lib.hid (show DrJ w1 w3 B w.heap.size _ bs (.slice (some ⟨b3, 0, none⟩) ys.length c3) ys from ⟨HR3.out.from HA.out.dr.gr hgl, HA3.out.nds, HA.out.len, HA.out.sm, _, _, rfl⟩)
    have hb3l := (HR3.out.row.lt b3 rfl).1
    have Hcap := Lib.hid hcap
    clear HR3 Hcc Hc2 Hlt2 Hfl HA Hone
    have hr0 := Hr0.out
    have hx0' : (0 : Int) < (ys.length : Int) := by omega
    go_wp2_with fail
    refine (pick_any B _ _ bs 4 _ HB3.out.dr.src (by omega)).mono ?_; rintro e w4 ⟨x, rfl, _, hs4, hg4⟩
    have HA4 := Lib.hid (HA3.out.draw hs4 hg4)
    have HB4 := Lib.hid (HB3.out.draw hs4 hg4)
    have Hb4 := Lib.hid (below_srcQ Hb1.out HA4.out.dr.gr (Nat.le_refl _))
    clear hs4 hg4 HA3 HB3
    have hb31 : w.heap.size ≤ b3 := by have := Hb1.out.size; have := HB4.out.dr.row.lt b3 rfl; omega
    have hne : (Value.slice (some ⟨b2, 0, none⟩) ys.length c2).ownBlock ≠ some b3 := fun e => by injection e with e; have e2 : b2 = b3 := e; omega
    have hl31 : (jbsOf ys).length ≤ 31 := by rw [Hjl.out]; omega
    obtain ⟨⟨p0, p1, p2, p3⟩, q0, q1, q2, q3⟩ := HB4.out.cellsAt 0 hr0
    by_cases e0 : x = 0
    · subst e0
      have hdb := HG.out.days 0 (by rw [Hjl.out]; exact hr0)
      have hj0 : jg (jbsOf ys) 0 = ys[0].1 := by rw [jg_at (by rw [Hjl.out]; exact hr0)]; simp [jbsOf]
      rw [hj0] at hdb
      have hwp : IntKind.i64.wrap (ys[0].1.days + 1) = ys[0].1.days + 1 := IntWalk.i64_in _ (by omega)
      obtain ⟨zs, hzl, hd7⟩ := HB4.out.put 0 hr0 1 (by omega) (.int .i64 (ys[0].1.days + 1)) (⟨ys[0].1.nm, ys[0].1.days + 1, ys[0].1.cost, ys[0].1.needs⟩, ys[0].2) (HB4.out.sm ys[0] (List.getElem_mem hr0)) rfl (HB4.out.nds ys[0] (List.getElem_mem hr0))
      have hA5 := rdJ_setO HA4.out (0 * 4 + 1) HB4.out.dr.row hne (.int .i64 (ys[0].1.days + 1))
      have hb5 := Hb4.out.setCell (p := ⟨b3, 0 * 4 + 1, none⟩) hb31 (.int .i64 (ys[0].1.days + 1))
      have Hz := Lib.hid (show RetDb w (.returned (.tuple #[.slice (some ⟨b2, 0, none⟩) ys.length c2, .slice (some ⟨b3, 0, none⟩) ys.length c3])) (w4.setCell ⟨b3, 1, none⟩ (.int .i64 (ys[0].1.days + 1))) from ⟨_, _, _, _, rfl, hA5, hd7.rd, hl31, Hsz.out, hb5⟩)
      clear hA5 hb5 hd7 hzl HA4 HB4 hj0 p0 p2 p3 q0 q2 q3 hne
      have p1' : w4.cell? ⟨b3, 1, none⟩ = some (.int .i64 ys[0].1.days) := p1
      have q1' : w4.frozen? ⟨b3, 1, none⟩ = false := q1
      clear p1 q1
      generalize ys[0].1.days = pr at *
      go_wp2_with fail
      go_ret2
      exact Hz.out
    have hq0 : (x == 0) = false := by simpa using e0
    by_cases e1 : x = 1
    · subst e1
      have hba := (Below.refl w4.heap.size w4).alloc (Nat.le_refl _) (.cells #[.int .i64 0] 2)
      have hA5 := HA4.out.below hba
      have hB5 := HB4.out.below hba
      have hrow := World.ownsRow_lit (base := w1.heap.size) (e := 2) (size := 1) w4 #[.int .i64 0] 1 HB4.out.dr.gr.size (by simp [maxLen]) rfl
      obtain ⟨zs, hzl, hd7⟩ := hB5.put 0 hr0 3 (by omega) (.slice (some ⟨w4.heap.size, 0, none⟩) 1 1) (⟨ys[0].1.nm, ys[0].1.days, ys[0].1.cost, [0]⟩, .slice (some ⟨w4.heap.size, 0, none⟩) 1 1) ⟨(HB4.out.sm ys[0] (List.getElem_mem hr0)).1, by show (1 : Nat) ≤ 62; omega⟩ rfl hrow
      obtain ⟨-, z0, z1, z2, z3⟩ := hB5.cellsAt 0 hr0
      have hA6 := rdJ_setO hA5 (0 * 4 + 3) hB5.dr.row hne (.slice (some ⟨w4.heap.size, 0, none⟩) 1 1)
      have hb5 := (Hb4.out.trans (hba.mono Hb4.out.size)).setCell (p := ⟨b3, 0 * 4 + 3, none⟩) hb31 (.slice (some ⟨w4.heap.size, 0, none⟩) 1 1)
      have Hz := Lib.hid (show RetDb w (.returned (.tuple #[.slice (some ⟨b2, 0, none⟩) ys.length c2, .slice (some ⟨b3, 0, none⟩) ys.length c3])) ((w4.alloc (.cells #[.int .i64 0] 2)).setCell ⟨b3, 3, none⟩ (.slice (some ⟨w4.heap.size, 0, none⟩) 1 1)) from ⟨_, _, _, _, rfl, hA6, hd7.rd, hl31, Hsz.out, hb5⟩)
      have q3' : (w4.alloc (.cells #[.int .i64 0] 2)).frozen? ⟨b3, 3, none⟩ = false := z3
      have p3' : (w4.alloc (.cells #[.int .i64 0] 2)).cell? ⟨b3, 3, none⟩ = some ys[0].2 := (hba.cell (p := ⟨b3, 3, none⟩) (HB4.out.dr.row.lt b3 rfl).2).trans p3
      clear hA6 hA5 hB5 hb5 hd7 hzl hrow HA4 HB4 p0 p1 p2 p3 q0 q1 q2 q3 z0 z1 z2 z3 hne hba
      generalize ys[0].2 = pr at *
      go_wp2_with fail
      go_ret2
      exact Hz.out
    have hq1 : (x == 1) = false := by simpa using e1
    have hA4d := HA4.out.rd
    have hD4d := HB4.out.rd
    clear p0 p1 p2 p3 q0 q1 q2 q3 hne
    by_cases e2 : x = 2
    · subst e2
      by_cases hc1 : c3 = 1
      · have hl1 : ys.length = 1 := by have := Hcap.out; omega
        have Hz := Lib.hid (fun A c => (show RetDb w (.returned (.tuple #[.slice (some ⟨b2, 0, none⟩) ys.length c2, .slice A 0 c])) w4 from ⟨_, _, _, [], rfl, hA4d, rdJ_none, hl31, Hsz.out, Hb4.out⟩))
        rw [hl1] at Hz
        subst hc1
        have hcl : ((ys.length : Int) - 1) = 0 := by omega
        clear HA4 HB4 hA4d hD4d
        have hl0 : ys.length - 1 = 0 := by omega
        go_wp2_with fail
        go_ret2
        exact Hz.out (some ⟨b3, 0, none⟩) 0
      · have hcap := Hcap.out
        rw [← Hjl.out] at hD4d
        have ht := rdJ_tail (c' := c3 - 1) hD4d (by rw [Hjl.out]; exact hr0)
        rw [Hjl.out] at ht
        have Hz := Lib.hid (show RetDb w (.returned (.tuple #[.slice (some ⟨b2, 0, none⟩) ys.length c2, .slice (some ⟨b3, 4, none⟩) (ys.length - 1) (c3 - 1)])) w4 from ⟨_, _, _, _, rfl, hA4d, ht, hl31, Hsz.out, Hb4.out⟩)
        clear HA4 HB4 hA4d hD4d ht
        go_wp2_with fail
        go_ret2
        exact Hz.out
    have hq2 : (x == 2) = false := by simpa using e2
    have Hz := Lib.hid (show RetDb w (.returned (.tuple #[.slice (some ⟨b2, 0, none⟩) ys.length c2, .slice (some ⟨b3, 0, none⟩) ys.length c3])) w4 from ⟨_, _, _, _, rfl, hA4d, hD4d, hl31, Hsz.out, Hb4.out⟩)
    clear HA4 HB4 hA4d hD4d
    go_wp2_with fail
    go_ret2
    exact Hz.out
end Go.Proofs.YtepgfcjfdnakbaaDoor
/- Jobs, texts and laws, part 1: the plain law of earliest and latest days. -/
namespace Go.Proofs.YtepgfcjfdnakbaaDoor
open Go.RowKit Go.Joins

theorem ltP_dn {nd : List Int} {s : Int} {F : Nat → Int} : ∀ i x, ltP nd s F i x ≤ F x
  | 0, x => Int.le_refl _
  | i + 1, x => by
    have h1 := ltP_dn (nd := nd) (s := s) (F := F) i x
    have h2 := ltP_dn (nd := nd) (s := s) (F := F) i (nd.getD i 0).toNat
    show put _ _ _ x ≤ _
    by_cases e : x = (nd.getD i 0).toNat
    · subst e; rw [put_same]; omega
    · rw [put_other _ _ e]; exact h1
theorem ltP_hit {nd : List Int} {s : Int} {F : Nat → Int} : ∀ {j i : Nat}, i < j → ltP nd s F j (nd.getD i 0).toNat ≤ s
  | 0, i, h => by omega
  | j + 1, i, h => by
    show put _ _ _ _ ≤ _
    by_cases e : (nd.getD i 0).toNat = (nd.getD j 0).toNat
    · rw [e, put_same]; omega
    · rw [put_other _ _ e]
      exact ltP_hit (j := j) (i := i) (by
        by_cases e2 : i = j
        · subst e2; exact absurd rfl e
        · omega)
theorem ltP_no {nd : List Int} {s : Int} {F : Nat → Int} {x : Nat} : ∀ j, j ≤ nd.length → (∀ i, i < nd.length → (nd.getD i 0).toNat ≠ x) → ltP nd s F j x = F x
  | 0, _, _ => rfl
  | j + 1, hj, h => by
    show put _ _ _ _ = _
    rw [put_other _ _ (fun e => h j (by omega) e.symm)]
    exact ltP_no j (by omega) h
/-- a job begins at the end of its needs -/
theorem erl_need {xs : List Jb} (h : OkJ xs) {k i : Nat} (hk : k < xs.length) (hi : i < (jg xs k).needs.length) : erl xs ((jg xs k).needs.getD i 0).toNat + (jg xs ((jg xs k).needs.getD i 0).toNat).days ≤ erl xs k := by
  rw [erl_eq h hk]
  exact erP_ge hi
theorem ltA_dn1 {xs : List Jb} (h : OkJ xs) {j : Nat} (hj : j < xs.length) (x : Nat) : ltA xs (j + 1) x ≤ ltA xs j x := by
  have h1 := ltP_dn (nd := (jg xs (xs.length - 1 - j)).needs) (s := stJ xs (ltA xs j) (xs.length - 1 - j)) (F := ltA xs j) (jg xs (xs.length - 1 - j)).needs.length x
  have h2 := h.days (xs.length - 1 - j) (by omega)
  show put _ _ _ x ≤ _
  by_cases e : x = xs.length - 1 - j
  · subst e; rw [put_same]; unfold stJ; omega
  · rw [put_other _ _ e]; exact h1
theorem ltA_dn {xs : List Jb} (h : OkJ xs) {i : Nat} (x : Nat) : ∀ {j}, i ≤ j → j ≤ xs.length → ltA xs j x ≤ ltA xs i x
  | 0, hi, _ => by obtain rfl : i = 0 := by omega
                   exact Int.le_refl _
  | j + 1, hi, hj => by
    by_cases e : i = j + 1
    · subst e; exact Int.le_refl _
    · have h1 := ltA_dn h x (i := i) (j := j) (by omega) (by omega)
      have h2 := ltA_dn1 h (j := j) (by omega) x
      omega
theorem ltA_stay {xs : List Jb} (h : OkJ xs) {i x : Nat} (hx : xs.length - i ≤ x) : ∀ {j}, i ≤ j → j ≤ xs.length → ltA xs j x = ltA xs i x
  | 0, hi, _ => by obtain rfl : i = 0 := by omega
                   rfl
  | j + 1, hi, hj => by
    by_cases e : i = j + 1
    · subst e; rfl
    · rw [← ltA_stay h hx (j := j) (by omega) (by omega)]
      show put _ _ _ x = _
      rw [put_other _ _ (by omega)]
      exact ltP_ge (k := xs.length - 1 - j) (nd_lt h (by omega)) _ (Nat.le_refl _) x (by omega)
/-- the last day of a job: what lies there when its turn comes -/
theorem late_end {xs : List Jb} (h : OkJ xs) {k : Nat} (hk : k < xs.length) : late xs k + (jg xs k).days = ltA xs (xs.length - 1 - k) k := by
  unfold late
  rw [ltA_stay h (i := xs.length - 1 - k + 1) (x := k) (by omega) (by omega) (Nat.le_refl _)]
  show put _ (xs.length - 1 - (xs.length - 1 - k)) _ k + _ = _
  rw [show xs.length - 1 - (xs.length - 1 - k) = k by omega, put_same]
  unfold stJ
  omega
theorem late_all {xs : List Jb} (h : OkJ xs) {k : Nat} (hk : k < xs.length) : late xs k + (jg xs k).days ≤ allD xs xs.length := by
  rw [late_end h hk]
  exact ltA_dn h (i := 0) k (by omega) (by omega)
theorem late_need {xs : List Jb} (h : OkJ xs) {k i : Nat} (hk : k < xs.length) (hi : i < (jg xs k).needs.length) : late xs ((jg xs k).needs.getD i 0).toNat + (jg xs ((jg xs k).needs.getD i 0).toNat).days ≤ late xs k := by
  have hp := nd_lt h hk i hi
  have h1 := ltP_hit (nd := (jg xs k).needs) (s := stJ xs (ltA xs (xs.length - 1 - k)) k) (F := ltA xs (xs.length - 1 - k)) hi
  have h2 := late_end h hk
  have h3 := late_end h (k := ((jg xs k).needs.getD i 0).toNat) (by omega)
  have h4 := ltA_dn h (i := xs.length - 1 - k + 1) ((jg xs k).needs.getD i 0).toNat (j := xs.length - 1 - ((jg xs k).needs.getD i 0).toNat) (by omega) (by omega)
  have h5 : ltA xs (xs.length - 1 - k + 1) ((jg xs k).needs.getD i 0).toNat = ltP (jg xs k).needs (stJ xs (ltA xs (xs.length - 1 - k)) k) (ltA xs (xs.length - 1 - k)) (jg xs k).needs.length ((jg xs k).needs.getD i 0).toNat := by
    show put _ (xs.length - 1 - (xs.length - 1 - k)) _ _ = _
    rw [show xs.length - 1 - (xs.length - 1 - k) = k by omega, put_other _ _ (by omega)]
  have h6 : stJ xs (ltA xs (xs.length - 1 - k)) k = late xs k := by unfold stJ; omega
  rw [h6] at h1 h5
  omega
theorem ltP_lo {xs : List Jb} {nd : List Int} {s : Int} {F : Nat → Int} {k : Nat} (hf : ∀ x, x < k → erl xs x + (jg xs x).days ≤ F x) (hs : ∀ i, i < nd.length → erl xs (nd.getD i 0).toNat + (jg xs (nd.getD i 0).toNat).days ≤ s) : ∀ j, j ≤ nd.length → ∀ x, x < k → erl xs x + (jg xs x).days ≤ ltP nd s F j x
  | 0, _, x, hx => hf x hx
  | j + 1, hj, x, hx => by
    have h1 := ltP_lo hf hs j (by omega) x hx
    have h2 := hs j (by omega)
    show _ ≤ put _ _ _ x
    by_cases e : x = (nd.getD j 0).toNat
    · subst e; rw [put_same]; omega
    · rw [put_other _ _ e]; exact h1
theorem ltA_lo {xs : List Jb} (h : OkJ xs) : ∀ j, j ≤ xs.length → (∀ x, x < xs.length - j → erl xs x + (jg xs x).days ≤ ltA xs j x) ∧ ∀ x, xs.length - j ≤ x → x < xs.length → erl xs x ≤ ltA xs j x
  | 0, _ => ⟨fun x hx => allD_ge (by omega), fun x h1 h2 => by omega⟩
  | j + 1, hj => by
    obtain ⟨h1, h2⟩ := ltA_lo h j (by omega)
    have hkl : xs.length - 1 - j < xs.length := by omega
    have h3 := h1 (xs.length - 1 - j) (by omega)
    have h4 : erl xs (xs.length - 1 - j) ≤ stJ xs (ltA xs j) (xs.length - 1 - j) := by unfold stJ; omega
    have h5 := ltP_lo (xs := xs) (nd := (jg xs (xs.length - 1 - j)).needs) (s := stJ xs (ltA xs j) (xs.length - 1 - j)) (F := ltA xs j) (k := xs.length - 1 - j) (fun x hx => h1 x (by omega)) (fun i hi => by have := erl_need h hkl hi; omega) _ (Nat.le_refl _)
    refine ⟨fun x hx => ?_, fun x hx hl => ?_⟩
    · show _ ≤ put _ _ _ x
      rw [put_other _ _ (by omega)]
      exact h5 x (by omega)
    · show _ ≤ put _ _ _ x
      by_cases e : x = xs.length - 1 - j
      · subst e; rw [put_same]; exact h4
      · rw [put_other _ _ e, ltP_ge (k := xs.length - 1 - j) (nd_lt h hkl) _ (Nat.le_refl _) x (by omega)]
        exact h2 x (by omega) hl
theorem late_ge {xs : List Jb} (h : OkJ xs) {k : Nat} (hk : k < xs.length) : erl xs k ≤ late xs k := (ltA_lo h xs.length (Nat.le_refl _)).2 k (by omega) hk
theorem allD_hit {xs : List Jb} (h : OkJ xs) : ∀ n, n ≤ xs.length → 0 < n → ∃ k, k < n ∧ erl xs k + (jg xs k).days = allD xs n
  | 0, _, h0 => by omega
  | n + 1, hn, _ => by
    have h1 := erl_bd h n (by omega)
    have h2 := h.days n (by omega)
    by_cases hc : allD xs n ≤ erl xs n + (jg xs n).days
    · exact ⟨n, by omega, by show _ = max _ _; omega⟩
    · have hn0 : 0 < n := by
        by_cases e : n = 0
        · subst e
          exact absurd (show allD xs 0 ≤ erl xs 0 + (jg xs 0).days by show (0 : Int) ≤ _; omega) hc
        · omega
      obtain ⟨k, hk, he⟩ := allD_hit h n (by omega) hn0
      exact ⟨k, by omega, by show _ = max _ _; omega⟩
/-- there is a job without slack -/
theorem crit_ex {xs : List Jb} (h : OkJ xs) (h0 : 0 < xs.length) : ∃ k, k < xs.length ∧ erl xs k = late xs k := by
  obtain ⟨k, hk, he⟩ := allD_hit h xs.length (Nat.le_refl _) h0
  have hkeep : ∀ j, j ≤ xs.length - 1 - k → ltA xs j k = allD xs xs.length := by
    intro j
    induction j with
    | zero => intro _; rfl
    | succ j ih =>
      intro hj
      have hil : xs.length - 1 - j < xs.length := by omega
      show put _ _ _ k = _
      rw [put_other _ _ (by omega), ltP_no _ (Nat.le_refl _) (fun i hi e => ?_)]
      · exact ih (by omega)
      · have h1 := erl_need h hil hi
        have h2 := allD_ge (xs := xs) hil
        have h3 := h.days _ hil
        rw [e] at h1
        omega
  have h1 := late_end h hk
  rw [hkeep _ (Nat.le_refl _)] at h1
  exact ⟨k, hk, by omega⟩
/-- the critical ones among the first k jobs -/
def crL (xs : List Jb) : Nat → List Nat
  | 0 => []
  | k + 1 => if erl xs k = late xs k then crL xs k ++ [k] else crL xs k
theorem crL_len (xs : List Jb) : ∀ k, (crL xs k).length ≤ k
  | 0 => Nat.le_refl _
  | k + 1 => by
    have := crL_len xs k
    show (if _ then _ else _ : List Nat).length ≤ k + 1
    by_cases e : erl xs k = late xs k
    · rw [if_pos e, List.length_append, List.length_singleton]; omega
    · rw [if_neg e]; omega
theorem crL_mono {xs : List Jb} {i : Nat} : ∀ {j}, i ≤ j → (crL xs i).length ≤ (crL xs j).length
  | 0, hi => by obtain rfl : i = 0 := by omega
                exact Nat.le_refl _
  | j + 1, hi => by
    by_cases e : i = j + 1
    · subst e; exact Nat.le_refl _
    · have := crL_mono (xs := xs) (i := i) (j := j) (by omega)
      show _ ≤ (if _ then _ else _ : List Nat).length
      by_cases e2 : erl xs j = late xs j
      · rw [if_pos e2, List.length_append]; omega
      · rw [if_neg e2]; exact this
theorem crL_yes {xs : List Jb} {k : Nat} (h : erl xs k = late xs k) : crL xs (k + 1) = crL xs k ++ [k] := if_pos h
theorem crL_no {xs : List Jb} {k : Nat} (h : erl xs k ≠ late xs k) : crL xs (k + 1) = crL xs k := if_neg h
theorem crL_pos {xs : List Jb} (h : OkJ xs) (h0 : 0 < xs.length) : 0 < (crL xs xs.length).length := by
  obtain ⟨k, hk, he⟩ := crit_ex h h0
  have := crL_mono (xs := xs) (i := k + 1) (j := xs.length) (by omega)
  rw [crL_yes he, List.length_append, List.length_singleton] at this
  omega
end Go.Proofs.YtepgfcjfdnakbaaDoor
/- Jobs, texts and laws, part 2: EarliestStarts, LatestStarts, DaysNeeded, CriticalJobs of both sides (gen_jc2.py). -/
namespace Go.Proofs.YtepgfcjfdnakbaaDoor
open Go.RowKit Go.Joins

/-- how many values a valid list has -/
def jbn (xs : List Jb) : Nat := if okJ xs = true then xs.length else 0
def crC (xs : List Jb) : List Nat := if okJ xs = true then crL xs xs.length else []
theorem RetE2.bad {xs : List Jb} {f : Nat → Int} {w w' : World} (h : okJ xs = false) (hb : Below w.heap.size w w') : RetE2 (jbn xs) f (dnC xs) w (.returned (.tuple #[.slice none 0 0, .int .i64 1])) w' := by
  unfold jbn dnC
  rw [h, if_neg (by simp), if_neg (by simp)]
  exact ⟨_, rfl, ⟨by simp [tab], .inl ⟨rfl, rfl⟩⟩, hb⟩
theorem RetE2.good {xs : List Jb} {f : Nat → Int} {w w2 w' : World} {v : Value} (h : okJ xs = true) (hb : Below w.heap.size w w2) (ho : w'.ownsRow w2.heap.size 2 1 v xs.length (tab xs.length f)) (hb2 : Below w2.heap.size w2 w') : RetE2 (jbn xs) f (dnC xs) w (.returned (.tuple #[v, .int .i64 0])) w' := by
  unfold jbn dnC
  rw [h, if_pos rfl, if_pos rfl]
  exact ⟨_, rfl, own_lower ho hb.size, hb.trans (hb2.mono hb.size)⟩
set_option maxRecDepth 100000 in
set_option maxHeartbeats 1600000 in
theorem EarI_any (B : Nat) (v : Value) (xs : List Jb) (w : World) (h : RdJ w B v xs) (hB : B ≤ w.heap.size) (hn : xs.length ≤ 100000) (hz : szJ xs) :
    Calls Tryd.prog 29 #[v] w (RetE2 (jbn xs) (erl xs) (dnC xs) w) := by
  have HC := Lib.hid (ValidJI_any B v xs w h hB hn hz)
  have HD := Lib.hid (fun hk wx (hb : Below w.heap.size w wx) => earliest_any B v xs wx (h.below (hb.mono hB)) (Nat.le_trans hB hb.size) hk hz)
  obtain ⟨A, c, rfl⟩ := h.slice
  clear h hz
  cases hv : okJ xs with
  | false =>
    have Hz := Lib.hid (fun w' (hb : Below w.heap.size w w') => RetE2.bad (f := erl xs) hv hb)
    rw [hv] at HC
    clear hv HD
    go_enter Tryd.func29, Tryd.ntmps29
    go_wp2_with fail
    refine (HC.out).mono ?_; rintro e w2 ⟨rfl, hb2⟩
    have Hy := Lib.hid (Hz.out w2 hb2)
    clear hb2
    go_wp2_with fail
    go_ret2
    exact Hy.out
  | true =>
    have HK := Lib.hid (okJ_ok hv)
    have Hz := Lib.hid (fun (w2 w' : World) (r : Value) (hb : Below w.heap.size w w2) (ho : w'.ownsRow w2.heap.size 2 1 r xs.length (tab xs.length (erl xs))) (hb2 : Below w2.heap.size w2 w') => RetE2.good hv hb ho hb2)
    rw [hv] at HC
    clear hv
    go_enter Tryd.func29, Tryd.ntmps29
    go_wp2_with fail
    refine (HC.out).mono ?_; rintro e w2 ⟨rfl, hb2⟩
    have Hb2 := Lib.hid hb2
    have HD2 := Lib.hid (HD.out HK.out w2 hb2)
    clear hb2 HD HC
    go_wp2_with fail
    refine (HD2.out).mono ?_; rintro e w3 ⟨r, rfl, hr, hb3⟩
    have Hy := Lib.hid (Hz.out w2 w3 r Hb2.out hr hb3)
    clear hr hb3
    go_wp2_with fail
    go_ret2
    exact Hy.out
set_option maxRecDepth 100000 in
set_option maxHeartbeats 1600000 in
theorem EarS_any (B : Nat) (v : Value) (xs : List Jb) (w : World) (h : RdJ w B v xs) (hB : B ≤ w.heap.size) (hn : xs.length ≤ 100000) (hz : szJ xs) :
    Calls Tryd.prog 30 #[v] w (RetE2 (jbn xs) (erl xs) (dnC xs) w) := by
  have HC := Lib.hid (OkJS_any B v xs w h hB hn hz)
  have HD := Lib.hid (fun hk wx (hb : Below w.heap.size w wx) => l22Early_any B v xs wx (h.below (hb.mono hB)) (Nat.le_trans hB hb.size) hk hz)
  obtain ⟨A, c, rfl⟩ := h.slice
  clear h hz
  cases hv : okJ xs with
  | false =>
    have Hz := Lib.hid (fun w' (hb : Below w.heap.size w w') => RetE2.bad (f := erl xs) hv hb)
    rw [hv] at HC
    clear hv HD
    go_enter Tryd.func30, Tryd.ntmps30
    go_wp2_with fail
    refine (HC.out).mono ?_; rintro e w2 ⟨rfl, hb2⟩
    have Hy := Lib.hid (Hz.out w2 hb2)
    clear hb2
    go_wp2_with fail
    go_ret2
    exact Hy.out
  | true =>
    have HK := Lib.hid (okJ_ok hv)
    have Hz := Lib.hid (fun (w2 w' : World) (r : Value) (hb : Below w.heap.size w w2) (ho : w'.ownsRow w2.heap.size 2 1 r xs.length (tab xs.length (erl xs))) (hb2 : Below w2.heap.size w2 w') => RetE2.good hv hb ho hb2)
    rw [hv] at HC
    clear hv
    go_enter Tryd.func30, Tryd.ntmps30
    go_wp2_with fail
    refine (HC.out).mono ?_; rintro e w2 ⟨rfl, hb2⟩
    have Hb2 := Lib.hid hb2
    have HD2 := Lib.hid (HD.out HK.out w2 hb2)
    clear hb2 HD HC
    go_wp2_with fail
    refine (HD2.out).mono ?_; rintro e w3 ⟨r, rfl, hr, hb3⟩
    have Hy := Lib.hid (Hz.out w2 w3 r Hb2.out hr hb3)
    clear hr hb3
    go_wp2_with fail
    go_ret2
    exact Hy.out
set_option maxRecDepth 100000 in
set_option maxHeartbeats 1600000 in
theorem LatI_any (B : Nat) (v : Value) (xs : List Jb) (w : World) (h : RdJ w B v xs) (hB : B ≤ w.heap.size) (hn : xs.length ≤ 100000) (hz : szJ xs) :
    Calls Tryd.prog 31 #[v] w (RetE2 (jbn xs) (late xs) (dnC xs) w) := by
  have HC := Lib.hid (ValidJI_any B v xs w h hB hn hz)
  have HD := Lib.hid (fun hk wx (hb : Below w.heap.size w wx) => latest_any B v xs wx (h.below (hb.mono hB)) (Nat.le_trans hB hb.size) hk hz)
  obtain ⟨A, c, rfl⟩ := h.slice
  clear h hz
  cases hv : okJ xs with
  | false =>
    have Hz := Lib.hid (fun w' (hb : Below w.heap.size w w') => RetE2.bad (f := late xs) hv hb)
    rw [hv] at HC
    clear hv HD
    go_enter Tryd.func31, Tryd.ntmps31
    go_wp2_with fail
    refine (HC.out).mono ?_; rintro e w2 ⟨rfl, hb2⟩
    have Hy := Lib.hid (Hz.out w2 hb2)
    clear hb2
    go_wp2_with fail
    go_ret2
    exact Hy.out
  | true =>
    have HK := Lib.hid (okJ_ok hv)
    have Hz := Lib.hid (fun (w2 w' : World) (r : Value) (hb : Below w.heap.size w w2) (ho : w'.ownsRow w2.heap.size 2 1 r xs.length (tab xs.length (late xs))) (hb2 : Below w2.heap.size w2 w') => RetE2.good hv hb ho hb2)
    rw [hv] at HC
    clear hv
    go_enter Tryd.func31, Tryd.ntmps31
    go_wp2_with fail
    refine (HC.out).mono ?_; rintro e w2 ⟨rfl, hb2⟩
    have Hb2 := Lib.hid hb2
    have HD2 := Lib.hid (HD.out HK.out w2 hb2)
    clear hb2 HD HC
    go_wp2_with fail
    refine (HD2.out).mono ?_; rintro e w3 ⟨r, rfl, hr, hb3⟩
    have Hy := Lib.hid (Hz.out w2 w3 r Hb2.out hr hb3)
    clear hr hb3
    go_wp2_with fail
    go_ret2
    exact Hy.out
set_option maxRecDepth 100000 in
set_option maxHeartbeats 1600000 in
theorem LatS_any (B : Nat) (v : Value) (xs : List Jb) (w : World) (h : RdJ w B v xs) (hB : B ≤ w.heap.size) (hn : xs.length ≤ 100000) (hz : szJ xs) :
    Calls Tryd.prog 32 #[v] w (RetE2 (jbn xs) (late xs) (dnC xs) w) := by
  have HC := Lib.hid (OkJS_any B v xs w h hB hn hz)
  have HD := Lib.hid (fun hk wx (hb : Below w.heap.size w wx) => l22Late_any B v xs wx (h.below (hb.mono hB)) (Nat.le_trans hB hb.size) hk hz)
  obtain ⟨A, c, rfl⟩ := h.slice
  clear h hz
  cases hv : okJ xs with
  | false =>
    have Hz := Lib.hid (fun w' (hb : Below w.heap.size w w') => RetE2.bad (f := late xs) hv hb)
    rw [hv] at HC
    clear hv HD
    go_enter Tryd.func32, Tryd.ntmps32
    go_wp2_with fail
    refine (HC.out).mono ?_; rintro e w2 ⟨rfl, hb2⟩
    have Hy := Lib.hid (Hz.out w2 hb2)
    clear hb2
    go_wp2_with fail
    go_ret2
    exact Hy.out
  | true =>
    have HK := Lib.hid (okJ_ok hv)
    have Hz := Lib.hid (fun (w2 w' : World) (r : Value) (hb : Below w.heap.size w w2) (ho : w'.ownsRow w2.heap.size 2 1 r xs.length (tab xs.length (late xs))) (hb2 : Below w2.heap.size w2 w') => RetE2.good hv hb ho hb2)
    rw [hv] at HC
    clear hv
    go_enter Tryd.func32, Tryd.ntmps32
    go_wp2_with fail
    refine (HC.out).mono ?_; rintro e w2 ⟨rfl, hb2⟩
    have Hb2 := Lib.hid hb2
    have HD2 := Lib.hid (HD.out HK.out w2 hb2)
    clear hb2 HD HC
    go_wp2_with fail
    refine (HD2.out).mono ?_; rintro e w3 ⟨r, rfl, hr, hb3⟩
    have Hy := Lib.hid (Hz.out w2 w3 r Hb2.out hr hb3)
    clear hr hb3
    go_wp2_with fail
    go_ret2
    exact Hy.out
set_option maxRecDepth 100000 in
set_option maxHeartbeats 1600000 in
theorem DaysS_any (B : Nat) (v : Value) (xs : List Jb) (w : World) (h : RdJ w B v xs) (hB : B ≤ w.heap.size) (hn : xs.length ≤ 100000) (hz : szJ xs) :
    Calls Tryd.prog 34 #[v] w (fun e w' => e = .returned (.tuple #[.int .i64 (dnV xs), .int .i64 (dnC xs)]) ∧ Below w.heap.size w w') := by
  have HC := Lib.hid (OkJS_any B v xs w h hB hn hz)
  have HD := Lib.hid (fun hk wx (hb : Below w.heap.size w wx) => l22Early_any B v xs wx (h.below (hb.mono hB)) (Nat.le_trans hB hb.size) hk hz)
  obtain ⟨A, c, rfl⟩ := h.slice
  clear h hz
  have e1 := Lib.hid (show dnC xs = if okJ xs = true then 0 else 1 from rfl)
  have e2 := Lib.hid (show dnV xs = if okJ xs = true then allD xs xs.length else 0 from rfl)
  cases hv : okJ xs with
  | false =>
    rw [hv] at HC e1 e2
    go_enter Tryd.func34, Tryd.ntmps34
    go_wp2_with fail
    refine (HC.out).mono ?_; rintro e w2 ⟨rfl, hb2⟩
    have Hb2 := Lib.hid hb2
    clear hb2
    go_wp2_with fail
    go_ret2
    exact ⟨by rw [e1.out, e2.out]; rfl, Hb2.out⟩
  | true =>
    have HK := Lib.hid (okJ_ok hv)
    rw [hv] at HC e1 e2
    go_enter Tryd.func34, Tryd.ntmps34
    go_wp2_with fail
    refine (HC.out).mono ?_; rintro e w2 ⟨rfl, hb2⟩
    have Hb2 := Lib.hid hb2
    have HD2 := Lib.hid (HD.out HK.out w2 hb2)
    clear hb2 HD
    go_wp2_with fail
    refine (HD2.out).mono ?_; rintro e w3 ⟨r, rfl, hr, hb3⟩
    have Hb3 := Lib.hid (Hb2.out.trans (hb3.mono Hb2.out.size))
    clear hb3 hr
    go_wp2_with fail
    go_ret2
    exact ⟨by rw [e1.out, e2.out]; rfl, Hb3.out⟩
set_option maxRecDepth 100000 in
set_option maxHeartbeats 3200000 in
theorem CritI_any (B : Nat) (v : Value) (xs : List Jb) (w : World) (h : RdJ w B v xs) (hB : B ≤ w.heap.size) (hn : xs.length ≤ 100000) (hz : szJ xs) :
    Calls Tryd.prog 35 #[v] w (RetNc (crC xs) (dnC xs) w) := by
  have HC := Lib.hid (ValidJI_any B v xs w h hB hn hz)
  have HD := Lib.hid (fun hk wx (hb : Below w.heap.size w wx) => earliest_any B v xs wx (h.below (hb.mono hB)) (Nat.le_trans hB hb.size) hk hz)
  have HE := Lib.hid (fun hk wx (hb : Below w.heap.size w wx) => latest_any B v xs wx (h.below (hb.mono hB)) (Nat.le_trans hB hb.size) hk hz)
  obtain ⟨A, c, rfl⟩ := h.slice
  clear h hz
  cases hv : okJ xs with
  | false =>
    have e1 : dnC xs = 1 := by unfold dnC; rw [hv]; rfl
    have e2 : crC xs = [] := by unfold crC; rw [hv]; rfl
    rw [e1, e2]
    rw [hv] at HC
    clear hv HD HE e1 e2
    go_enter Tryd.func35, Tryd.ntmps35
    go_wp2_with fail
    refine (HC.out).mono ?_; rintro e w2 ⟨rfl, hb2⟩
    have Hz := Lib.hid (RetNc.bad (l := []) (c := 1) rfl hb2)
    clear hb2
    go_wp2_with fail
    go_ret2
    exact Hz.out
  | true =>
    have HK := Lib.hid (okJ_ok hv)
    have e1 : dnC xs = 0 := by unfold dnC; rw [hv]; rfl
    have e2 : crC xs = crL xs xs.length := by unfold crC; rw [hv]; rfl
    rw [e1, e2]
    rw [hv] at HC
    clear hv e1 e2
    have hl30 := HK.out.len
    go_enter Tryd.func35, Tryd.ntmps35
    go_wp2_with fail
    refine (HC.out).mono ?_; rintro e w2 ⟨rfl, hb2⟩
    have Hb2 := Lib.hid hb2
    have HD2 := Lib.hid (HD.out HK.out w2 hb2)
    clear hb2 HD HC
    go_wp2_with fail
    refine (HD2.out).mono ?_; rintro e w3 ⟨r, rfl, hr, hb3⟩
    have Hb3 := Lib.hid (Hb2.out.trans (hb3.mono Hb2.out.size))
    have Hr := Lib.hid hr
    have HE2 := Lib.hid (HE.out HK.out w3 Hb3.out)
    clear hr hb3 HE HD2
    obtain ⟨Ar, cr, rfl⟩ := own_sl Hr.out
    go_wp2_with fail
    refine (HE2.out).mono ?_; rintro e w4 ⟨s, rfl, hs, hb4⟩
    have Hb4 := Lib.hid (Hb3.out.trans (hb4.mono Hb3.out.size))
    have Hs := Lib.hid hs
    have Hr4 := Lib.hid (own_below Hr.out hb4)
    clear hs hb4 HE2
    obtain ⟨As, cs, rfl⟩ := own_sl Hs.out
    have hoe := Lib.hid (World.ownsRow_made (base := w4.heap.size) (e := 2) (size := 1) w4 #[] 0 (Nat.le_refl _) (by simp [maxLen]) rfl)
    have hbe := Lib.hid ((Below.refl w4.heap.size w4).alloc (Nat.le_refl _) (.cells #[] 2))
    go_wp2_with fail
    go_loopw [6, 18] (fun o i wr => ∃ m : Nat, m ≤ xs.length ∧ i = .int .i64 (m : Int) ∧ wr.ownsRow w4.heap.size 2 1 o (crL xs m).length (natV (crL xs m)) ∧ Below w4.heap.size w4 wr) (fun _ i _ => xs.length - (intOf i).toNat)
    case atStart => exact ⟨0, by omega, by go_num, hoe.out, hbe.out⟩
    case round =>
      obtain ⟨m, hm2, rfl, hown, hbl⟩ := hrel
      clear hoe hbe
      obtain ⟨A3, c3, rfl⟩ := own_sl hown
      have Hown := Lib.hid hown
      have Hbl := Lib.hid hbl
      by_cases hlt : m < xs.length
      · have hlt' : (m : Int) < (xs.length : Int) := by omega
        obtain ⟨g1, hA1, _, _, hc1⟩ := own_cellsI (own_below Hr4.out hbl) (show 0 < xs.length by omega)
        subst hA1
        obtain ⟨g2, hA2, _, _, hc2⟩ := own_cellsI (own_below Hs.out hbl) (show 0 < xs.length by omega)
        subst hA2
        have y0 := hc1 m hlt
        have y1 := hc2 m hlt
        have hll := crL_len xs m
        have hmw : IntKind.i64.wrap (m : Int) = (m : Int) := IntWalk.i64_in _ (by omega)
        clear hown hbl hc1 hc2
        have E1 := Lib.hid (fun h => crL_yes (xs := xs) (k := m) h)
        have E2 := Lib.hid (fun h => crL_no (xs := xs) (k := m) h)
        generalize erl xs m = a at *
        generalize late xs m = b at *
        by_cases he : a = b
        · subst he
          replace E1 := Lib.hid (E1.out rfl)
          clear E2
          go_wp2_with fail
          go_quiet (fail)
          replace Hbl := Lib.hid (below_drewN Hbl.out nq)
          replace Hown := Lib.hid (World.ownsRow.drewN Hown.out nq)
          generalize wr.drewN nq = wr2 at *
          have hz7 := Hbl.out.size
          go_wp2_with (at_builtin; refine wpList_apd 29 2 _ 1 8 Tryd.underlying29 infoD rfl (by omega) _ _ rfl rfl w4.heap.size _ (crL xs m).length _ rfl Hown.out #[.int .i64 (m : Int)] 1 1 rfl rfl (by simp [Value.oneCell']) (by simp [maxLen]; omega) (by omega) hz7 ?_; intro v7 w7 hown7 hg7; have Hb7 := Lib.hid (below_apd Hbl.out Hown.out hg7 (Nat.le_refl _) hz7); have Ho7 := Lib.hid (show w7.ownsRow w4.heap.size 2 1 v7 (crL xs (m + 1)).length (natV (crL xs (m + 1))) by rw [E1.out, natV_snoc, List.length_append]; exact hown7); clear hown7 hg7)
          go_roundw
          case rel => exact ⟨m + 1, by omega, by go_num, Ho7.out, Hb7.out⟩
          case measure => first | (simp [intOf]; done) | (simp [intOf]; omega)
        · have heb : (a == b) = false := by simp [he]
          replace E2 := Lib.hid (E2.out he)
          clear E1
          go_wp2_with fail
          go_quiet (fail)
          replace Hbl := Lib.hid (below_drewN Hbl.out nq)
          replace Hown := Lib.hid (World.ownsRow.drewN Hown.out nq)
          generalize wr.drewN nq = wr2 at *
          have hz7 := Hbl.out.size
          go_wp2_with fail
          go_roundw
          case rel => exact ⟨m + 1, by omega, by go_num, by rw [E2.out]; exact Hown.out, Hbl.out⟩
          case measure => first | (simp [intOf]; done) | (simp [intOf]; omega)
      · obtain rfl : m = xs.length := by omega
        have hlt' : ¬ ((xs.length : Int) < (xs.length : Int)) := by omega
        have Hz := Lib.hid (show RetNc (crL xs xs.length) 0 w (.returned (.tuple #[.slice A3 (crL xs xs.length).length c3, .int .i64 0])) wr from ⟨_, rfl, own_lower hown Hb4.out.size, Hb4.out.trans (hbl.mono Hb4.out.size)⟩)
        clear hown hbl
        go_wp2_with fail
        go_ret2
        exact Hz.out
set_option maxRecDepth 100000 in
set_option maxHeartbeats 3200000 in
theorem CritS_any (B : Nat) (v : Value) (xs : List Jb) (w : World) (h : RdJ w B v xs) (hB : B ≤ w.heap.size) (hn : xs.length ≤ 100000) (hz : szJ xs) :
    Calls Tryd.prog 36 #[v] w (RetNc (crC xs) (dnC xs) w) := by
  have HC := Lib.hid (OkJS_any B v xs w h hB hn hz)
  have HD := Lib.hid (fun hk wx (hb : Below w.heap.size w wx) => l22Early_any B v xs wx (h.below (hb.mono hB)) (Nat.le_trans hB hb.size) hk hz)
  have HE := Lib.hid (fun hk wx (hb : Below w.heap.size w wx) => l22Late_any B v xs wx (h.below (hb.mono hB)) (Nat.le_trans hB hb.size) hk hz)
  obtain ⟨A, c, rfl⟩ := h.slice
  clear h hz
  cases hv : okJ xs with
  | false =>
    have e1 : dnC xs = 1 := by unfold dnC; rw [hv]; rfl
    have e2 : crC xs = [] := by unfold crC; rw [hv]; rfl
    rw [e1, e2]
    rw [hv] at HC
    clear hv HD HE e1 e2
    go_enter Tryd.func36, Tryd.ntmps36
    go_wp2_with fail
    refine (HC.out).mono ?_; rintro e w2 ⟨rfl, hb2⟩
    have Hz := Lib.hid (RetNc.bad (l := []) (c := 1) rfl hb2)
    clear hb2
    go_wp2_with fail
    go_ret2
    exact Hz.out
  | true =>
    have HK := Lib.hid (okJ_ok hv)
    have e1 : dnC xs = 0 := by unfold dnC; rw [hv]; rfl
    have e2 : crC xs = crL xs xs.length := by unfold crC; rw [hv]; rfl
    rw [e1, e2]
    rw [hv] at HC
    clear hv e1 e2
    have hl30 := HK.out.len
    go_enter Tryd.func36, Tryd.ntmps36
    go_wp2_with fail
    refine (HC.out).mono ?_; rintro e w2 ⟨rfl, hb2⟩
    have Hb2 := Lib.hid hb2
    have HD2 := Lib.hid (HD.out HK.out w2 hb2)
    clear hb2 HD HC
    go_wp2_with fail
    refine (HD2.out).mono ?_; rintro e w3 ⟨r, rfl, hr, hb3⟩
    have Hb3 := Lib.hid (Hb2.out.trans (hb3.mono Hb2.out.size))
    have Hr := Lib.hid hr
    have HE2 := Lib.hid (HE.out HK.out w3 Hb3.out)
    clear hr hb3 HE HD2
    obtain ⟨Ar, cr, rfl⟩ := own_sl Hr.out
    go_wp2_with fail
    refine (HE2.out).mono ?_; rintro e w4 ⟨s, rfl, hs, hb4⟩
    have Hb4 := Lib.hid (Hb3.out.trans (hb4.mono Hb3.out.size))
    have Hs := Lib.hid hs
    have Hr4 := Lib.hid (own_below Hr.out hb4)
    clear hs hb4 HE2
    obtain ⟨As, cs, rfl⟩ := own_sl Hs.out
    have hoe := Lib.hid (World.ownsRow_made (base := w4.heap.size) (e := 2) (size := 1) w4 #[] 0 (Nat.le_refl _) (by simp [maxLen]) rfl)
    have hbe := Lib.hid ((Below.refl w4.heap.size w4).alloc (Nat.le_refl _) (.cells #[] 2))
    go_wp2_with fail
    go_loopw [7, 8] (fun o i wr => ∃ m : Nat, m ≤ xs.length ∧ i = .int .i64 (m : Int) ∧ wr.ownsRow w4.heap.size 2 1 o (crL xs m).length (natV (crL xs m)) ∧ Below w4.heap.size w4 wr) (fun _ i _ => xs.length - (intOf i).toNat)
    case atStart => exact ⟨0, by omega, by go_num, hoe.out, hbe.out⟩
    case round =>
      obtain ⟨m, hm2, rfl, hown, hbl⟩ := hrel
      clear hoe hbe
      obtain ⟨A3, c3, rfl⟩ := own_sl hown
      have Hown := Lib.hid hown
      have Hbl := Lib.hid hbl
      by_cases hlt : m < xs.length
      · have hlt' : (m : Int) < (xs.length : Int) := by omega
        obtain ⟨g1, hA1, _, _, hc1⟩ := own_cellsI (own_below Hr4.out hbl) (show 0 < xs.length by omega)
        subst hA1
        obtain ⟨g2, hA2, _, _, hc2⟩ := own_cellsI (own_below Hs.out hbl) (show 0 < xs.length by omega)
        subst hA2
        have y0 := hc1 m hlt
        have y1 := hc2 m hlt
        have hll := crL_len xs m
        have hmw : IntKind.i64.wrap (m : Int) = (m : Int) := IntWalk.i64_in _ (by omega)
        clear hown hbl hc1 hc2
        have E1 := Lib.hid (fun h => crL_yes (xs := xs) (k := m) h)
        have E2 := Lib.hid (fun h => crL_no (xs := xs) (k := m) h)
        generalize erl xs m = a at *
        generalize late xs m = b at *
        by_cases he : a = b
        · subst he
          replace E1 := Lib.hid (E1.out rfl)
          clear E2
          go_wp2_with fail
          go_quiet (fail)
          replace Hbl := Lib.hid (below_drewN Hbl.out nq)
          replace Hown := Lib.hid (World.ownsRow.drewN Hown.out nq)
          generalize wr.drewN nq = wr2 at *
          have hz7 := Hbl.out.size
          go_wp2_with (at_builtin; refine wpList_apd 29 2 _ 1 8 Tryd.underlying29 infoD rfl (by omega) _ _ rfl rfl w4.heap.size _ (crL xs m).length _ rfl Hown.out #[.int .i64 (m : Int)] 1 1 rfl rfl (by simp [Value.oneCell']) (by simp [maxLen]; omega) (by omega) hz7 ?_; intro v7 w7 hown7 hg7; have Hb7 := Lib.hid (below_apd Hbl.out Hown.out hg7 (Nat.le_refl _) hz7); have Ho7 := Lib.hid (show w7.ownsRow w4.heap.size 2 1 v7 (crL xs (m + 1)).length (natV (crL xs (m + 1))) by rw [E1.out, natV_snoc, List.length_append]; exact hown7); clear hown7 hg7)
          go_roundw
          case rel => exact ⟨m + 1, by omega, by go_num, Ho7.out, Hb7.out⟩
          case measure => first | (simp [intOf]; done) | (simp [intOf]; omega)
        · have heb : (a == b) = false := by simp [he]
          replace E2 := Lib.hid (E2.out he)
          clear E1
          go_wp2_with fail
          go_quiet (fail)
          replace Hbl := Lib.hid (below_drewN Hbl.out nq)
          replace Hown := Lib.hid (World.ownsRow.drewN Hown.out nq)
          generalize wr.drewN nq = wr2 at *
          have hz7 := Hbl.out.size
          go_wp2_with fail
          go_roundw
          case rel => exact ⟨m + 1, by omega, by go_num, by rw [E2.out]; exact Hown.out, Hbl.out⟩
          case measure => first | (simp [intOf]; done) | (simp [intOf]; omega)
      · obtain rfl : m = xs.length := by omega
        have hlt' : ¬ ((xs.length : Int) < (xs.length : Int)) := by omega
        have Hz := Lib.hid (show RetNc (crL xs xs.length) 0 w (.returned (.tuple #[.slice A3 (crL xs xs.length).length c3, .int .i64 0])) wr from ⟨_, rfl, own_lower hown Hb4.out.size, Hb4.out.trans (hbl.mono Hb4.out.size)⟩)
        clear hown hbl
        go_wp2_with fail
        go_ret2
        exact Hz.out
end Go.Proofs.YtepgfcjfdnakbaaDoor
