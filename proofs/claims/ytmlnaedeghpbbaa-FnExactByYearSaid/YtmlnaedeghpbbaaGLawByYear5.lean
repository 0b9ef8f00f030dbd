/- Merged texts: By12, Si5, Si6, By13. -/
import Derived.Test.YtmlnaedeghpbbaaGLawByYear4
import Derived.Lib.SmallJoins
/- A stable sort by years, part 12: ByYear of the reference. -/
namespace Go.Proofs.Ytmlnaedeghpbbaa
open Go.RowKit Go.Joins

def ordI (yr : Nat → Int) (i : Nat) : List Int := List.map (fun u : Nat => Int.ofNat u) (ordY yr i)
theorem ordI_len (yr : Nat → Int) (i : Nat) : (ordI yr i).length = i := by unfold ordI; rw [List.length_map, (ordY_ok yr i).len]
theorem ordI_at (yr : Nat → Int) {i j : Nat} (h : j < i) : (ints (ordI yr i))[j]? = some (.int .i64 (((ordY yr i).getD j 0 : Nat) : Int)) := by
  have hl := (ordY_ok yr i).len
  unfold ints ordI
  rw [List.getElem?_map, List.getElem?_map, List.getD_eq_getElem?_getD, List.getElem?_eq_getElem (by omega)]
  rfl
theorem ordI_succ (yr : Nat → Int) (i p : Nat) (h : posY yr (ordY yr i) i i = p) : ordI yr (i + 1) = ((ordI yr i).take p ++ [(i : Int)]) ++ (ordI yr i).drop p := by
  unfold ordI
  have e : ordY yr (i + 1) = insL (ordY yr i) p i := by
    show insL (ordY yr i) (posY yr (ordY yr i) i (ordY yr i).length) i = _
    rw [(ordY_ok yr i).len, h]
  rw [e]
  unfold insL
  simp [List.map_append, List.map_take, List.map_drop]
theorem ints_len (l : List Int) : (ints l).length = l.length := by unfold ints; rw [List.length_map]
theorem ints_app (a b : List Int) : ints (a ++ b) = ints a ++ ints b := by simp [ints]
theorem ints_oneY (l : List Int) : ∀ u ∈ ints l, u.oneCell' = true := fun u hu => by
  unfold ints at hu
  obtain ⟨a, _, rfl⟩ := List.mem_map.1 hu
  rfl
theorem byL_len (xs : List Ent) : (byL xs).length ≤ xs.length := by
  unfold byL
  split
  · simp
  · simp
theorem byL_ok {xs : List Ent} (h : entsOk xs = true) : byL xs = byT xs (fun k => (ordY (yrE xs) xs.length).getD k 0) xs.length := by unfold byL byT; rw [if_pos h]
/-- a copy of a row of numbers -/
theorem l00OwnY (A : Option Addr) (m c : Nat) (ns : List Int) (w : World) (hl : ns.length = m) (hm : m ≤ 1000) (hc : 0 < m → ∃ b off, A = some ⟨b, off, none⟩ ∧ b < w.heap.size ∧ ∀ (i : Nat) (u : Value), (ints ns)[i]? = some u → w.cell? ⟨b, off + i, none⟩ = some u) :
    Calls Try.prog 15 #[.slice A m c] w fun e w' => ∃ A' c', e = .returned (.slice A' m c') ∧ w'.ownsRow w.heap.size 2 1 (.slice A' m c') m (ints ns) ∧ Below w.heap.size w w' := by
  have hb0 := Lib.hid ((Below.refl w.heap.size w).alloc (Nat.le_refl _) (.cells #[] 2))
  have ho0 := Lib.hid (World.ownsRow_made (base := w.heap.size) (e := 2) (size := 1) w #[] 0 (Nat.le_refl _) (by simp [maxLen]) rfl)
  have Hcc := Lib.hid (show 0 < m → ∃ b off, A = some ⟨b, off, none⟩ ∧ ∀ (i : Nat) (u : Value), (ints ns)[i]? = some u → (w.alloc (.cells #[] 2)).cell? ⟨b, off + i, none⟩ = some u from fun h0 => by
    obtain ⟨b, off, hA, hb, h⟩ := hc h0
    exact ⟨b, off, hA, fun i u hu => (hb0.out.cell (p := ⟨b, off + i, none⟩) hb).trans (h i u hu)⟩)
  have Hl := Lib.hid (show (ints ns).length = m * 1 by rw [ints_len, hl, Nat.mul_one])
  have H1 := Lib.hid (ints_oneY ns)
  clear hc hl
  go_enter Try.func15, Try.ntmps15
  go_wp2_with (at_builtin; refine wpList_apY 24 2 _ 1 8 Try.underlying24 infoNm rfl (by omega) _ _ rfl rfl w.heap.size _ 0 _ rfl ho0.out A m _ (ints ns) rfl Hl.out Hcc.out H1.out (by simp [maxLen]; omega) (by omega) hb0.out.size ?_; intro v7 w7 hown7 hg7; have Hb7 := Lib.hid (below_apd hb0.out ho0.out hg7 (Nat.le_refl _) hb0.out.size); simp only [Nat.zero_add, List.nil_append] at hown7; obtain ⟨A7, c7, rfl⟩ := sl_ofY hown7; have Hown7 := Lib.hid hown7; clear hown7 hg7)
  go_ret
  exact ⟨_, _, rfl, Hown7.out, Hb7.out⟩
set_option maxRecDepth 100000 in
set_option maxHeartbeats 6400000 in
theorem ByYearS_any (B : Nat) (v : Value) (xs : List Ent) (w : World) (h : RdE w B v xs) (hB : B ≤ w.heap.size) (hl : xs.length ≤ 1048576) (hsm : ∀ x ∈ xs, smE x) :
    Calls Try.prog 5 #[v] w (RetN (byC xs) (byL xs) w) := by
  have HV := Lib.hid (l25Ok_any B v xs w h hl hsm)
  have H := Lib.hid h
  obtain ⟨A, c, rfl⟩ := h.slice
  clear h hsm
  cases hok : entsOk xs with
  | false =>
    have e1 := Lib.hid (show 1 = byC xs by unfold byC; rw [hok]; rfl)
    have e2 := Lib.hid (show byL xs = [] by unfold byL; rw [hok]; rfl)
    rw [hok] at HV
    clear hok
    go_enter Try.func5, Try.ntmps5
    go_wp2_with fail
    refine HV.out.mono ?_; rintro e w1 ⟨rfl, n1, rfl⟩
    go_wp2_with fail
    go_ret2
    exact RetN_no e2.out e1.out (below_drewN (Below.refl _ _) n1)
  | true =>
    have e1 := Lib.hid (show 0 = byC xs by unfold byC; rw [hok]; rfl)
    have h50 := ents_le hok
    have HT := Lib.hid (byL_ok hok)
    rw [hok] at HV
    clear hok hl
    go_enter Try.func5, Try.ntmps5
    go_wp2_with fail
    refine HV.out.mono ?_; rintro e w1 ⟨rfl, n1, hw1⟩
    have hb1 : Below w.heap.size w w1 := by rw [hw1]; exact below_drewN (Below.refl _ _) n1
    have hb0 := Lib.hid (hb1.alloc hb1.size (.cells #[] 2))
    have ho0 := Lib.hid (World.ownsRow_made (base := w.heap.size) (e := 2) (size := 1) w1 #[] 0 hb1.size (by simp [maxLen]) rfl)
    clear hw1 hb1 HV
    go_wp2_with fail
    go_loopw [4, 5, 6, 7] (fun o ix _ _ wr => ∃ (i g c' : Nat), i ≤ xs.length ∧ ix = .int .i64 (i : Int) ∧ o = .slice (some ⟨g, 0, none⟩) i c' ∧ i ≤ c' ∧ c' ≤ maxLen ∧ wr.ownsRow w.heap.size 2 1 (.slice (some ⟨g, 0, none⟩) i c') i (ints (ordI (yrE xs) i)) ∧ Below w.heap.size w wr) (fun _ ix _ _ _ => xs.length - (RowKit.intOf ix).toNat)
    case atStart => exact ⟨0, _, _, Nat.zero_le _, rfl, rfl, Nat.le_refl _, by simp [maxLen], ho0.out, hb0.out⟩
    case round =>
      obtain ⟨i, g, c', hi, rfl, rfl, hc1, hc2, hown, hbl⟩ := hrel
      have Hown := Lib.hid hown
      have Hbl := Lib.hid hbl
      have Hc2 := Lib.hid hc2
      clear hown hc2
      by_cases hlt : i < xs.length
      · have hlt' : (i : Int) < (xs.length : Int) := by omega
        obtain ⟨b1, o1, A3, c3, hA, _⟩ := (H.out.below (hbl.mono hB)).at i hlt
        subst hA
        have Hyr := Lib.hid (show ∀ u, u < xs.length → wr.cell? ⟨b1, o1 + u * 5 + 3, none⟩ = some (.int .i64 (yrE xs u)) from fun u hu => by
          obtain ⟨b2, o2, A4, c4, hA2, hE⟩ := (H.out.below (hbl.mono hB)).at u hu
          obtain ⟨rfl, rfl⟩ : b1 = b2 ∧ o1 = o2 := by simpa using hA2
          have := hE.c3
          rw [this]
          unfold yrE
          rw [List.getD_eq_getElem?_getD, List.getElem?_eq_getElem hu]; rfl)
        have Hor := Lib.hid (show ∀ j, j < i → wr.cell? ⟨g, j, none⟩ = some (.int .i64 (((ordY (yrE xs) i).getD j 0 : Nat) : Int)) from fun j hj => (Hown.out.cellAt j (by omega)).trans (ordI_at _ hj))
        have Hol := Lib.hid (fun j (hj : j < i) => (ordY_ok (yrE xs) i).lt j hj)
        clear hbl
        go_wp2_with fail
        go_loopw [6] (fun kv wy => ∃ k d : Nat, k ≤ i ∧ kv = .int .i64 (k : Int) ∧ posY (yrE xs) (ordY (yrE xs) i) i i = posY (yrE xs) (ordY (yrE xs) i) i k ∧ wy = wr.drewN d) (fun kv _ => (RowKit.intOf kv).toNat)
        case atStart => exact ⟨i, 0, Nat.le_refl _, rfl, rfl, rfl⟩
        case round =>
          obtain ⟨k, d, hk, rfl, hpo, rfl⟩ := hrel
          have Hpo := Lib.hid hpo
          clear hpo
          by_cases hk0 : 0 < k
          · obtain ⟨k1, hkk⟩ : ∃ k1, k = k1 + 1 := ⟨k - 1, by omega⟩
            have hk0' : (0 : Int) < (k : Int) := by omega
            have hw : IntKind.i64.wrap ((k : Int) - 1) = (k1 : Int) := by
              rw [show (k : Int) - 1 = (k1 : Int) by omega]; exact IntWalk.i64_in _ (by omega)
            have Hyes := Lib.hid (show yrE xs i < yrE xs ((ordY (yrE xs) i).getD k1 0) → posY (yrE xs) (ordY (yrE xs) i) i i = posY (yrE xs) (ordY (yrE xs) i) i k1 from fun h => by rw [Hpo.out, hkk]; exact if_pos h)
            have Hno := Lib.hid (show ¬ yrE xs i < yrE xs ((ordY (yrE xs) i).getD k1 0) → posY (yrE xs) (ordY (yrE xs) i) i i = k from fun h => by rw [Hpo.out, hkk]; exact if_neg h)
            have hk1i : (k1 : Int) < (i : Int) := by omega
            have hu := Hol.out k1 (by omega)
            have eo : wr.cell? ⟨g, k1, none⟩ = some (.int .i64 (((ordY (yrE xs) i).getD k1 0 : Nat) : Int)) := Hor.out k1 (by omega)
            generalize (ordY (yrE xs) i).getD k1 0 = u at *
            have ey : wr.cell? ⟨b1, o1 + u * 5 + 3, none⟩ = some (.int .i64 (yrE xs u)) := Hyr.out u (by omega)
            have ei : wr.cell? ⟨b1, o1 + i * 5 + 3, none⟩ = some (.int .i64 (yrE xs i)) := Hyr.out i hlt
            have hu' : (u : Int) < (xs.length : Int) := by omega
            have Hkk := Lib.hid hkk
            clear Hpo hkk hu
            generalize yrE xs u = yu at *
            generalize hyi : yrE xs i = yi at *
            clear hyi
            by_cases hy : yi < yu
            · have Hnx := Lib.hid (Hyes.out hy)
              clear Hyes Hno
              have hk1 := Lib.hid (show k1 ≤ i by omega)
              go_wp2_with fail
              go_quiet (fail)
              go_wp2_with fail
              go_roundw
              case rel => exact ⟨k1, d + nq, hk1.out, by go_num, Hnx.out, rfl⟩
              case measure => have := Hkk.out; simp [RowKit.intOf]; omega
            · have Hp := Lib.hid (Hno.out hy)
              clear Hyes Hno
              go_wp2_with fail
              go_quiet (fail)
              go_wp2_with fail
              refine (l00OwnY (some ⟨g, 0, none⟩) k c' ((ordI (yrE xs) i).take k) (wr.drewN (d + nq)) (by rw [List.length_take, ordI_len]; omega) (by omega) (fun _ => ⟨g, 0, rfl, (Hown.out.lt g rfl).2, fun j u hu => by
                have hj : j < k := by have := (List.getElem?_eq_some_iff.1 hu).1; rw [ints_len, List.length_take] at this; omega
                have hx : (ints (ordI (yrE xs) i))[j]? = some u := by
                  rw [← hu]; unfold ints; rw [List.getElem?_map, List.getElem?_map, List.getElem?_take_of_lt hj]
                rw [Nat.zero_add]
                exact (Hown.out.cellAt j (by omega)).trans hx⟩)).mono ?_
              rintro e w5 ⟨A5, c5, rfl, ho5, hb5⟩
              have Ho5 := Lib.hid (show w5.ownsRow wr.heap.size 2 1 (.slice A5 k c5) k (ints ((ordI (yrE xs) i).take k)) from ho5)
              have Hb5 := Lib.hid (show Below wr.heap.size wr w5 from below_undrewN hb5)
              clear ho5 hb5
              have Hcd0 := Lib.hid (show ∀ w7, Below wr.heap.size wr w7 → 0 < i - k → ∃ b off, (some ⟨g, k, none⟩ : Option Addr) = some ⟨b, off, none⟩ ∧ ∀ (j : Nat) (u : Value), (ints ((ordI (yrE xs) i).drop k))[j]? = some u → w7.cell? ⟨b, off + j, none⟩ = some u from fun w7 hb7 _ => ⟨g, k, rfl, fun j u hu => by
                have hj : k + j < i := by have := (List.getElem?_eq_some_iff.1 hu).1; rw [ints_len, List.length_drop, ordI_len] at this; omega
                have hx : (ints (ordI (yrE xs) i))[k + j]? = some u := by rw [← hu]; unfold ints; rw [List.getElem?_map, List.getElem?_map, List.getElem?_drop]
                exact (hb7.cell (p := ⟨g, k + j, none⟩) (Hown.out.lt g rfl).2).trans ((Hown.out.cellAt (k + j) (by omega)).trans hx)⟩)
              have Hld := Lib.hid (show (ints ((ordI (yrE xs) i).drop k)).length = (i - k) * 1 by rw [ints_len, List.length_drop, ordI_len, Nat.mul_one])
              go_wp2_with (at_builtin; first | (refine wpList_apd 24 2 _ 1 8 Try.underlying24 infoNm rfl (by omega) _ _ rfl rfl wr.heap.size _ k _ rfl Ho5.out #[.int .i64 (i : Int)] 1 1 rfl rfl (by simp [Value.oneCell']) (by simp [maxLen]; omega) (by omega) Hb5.out.size ?_; intro v7 w7 hown7 hg7; have Hb7 := Lib.hid (below_apd Hb5.out Ho5.out hg7 (Nat.le_refl _) Hb5.out.size); obtain ⟨A7, c7, rfl⟩ := sl_ofY hown7; have Ho7 := Lib.hid hown7; clear hown7 hg7; have Hcd := Lib.hid (Hcd0.out w7 Hb7.out)) | (refine wpList_apY 24 2 _ 1 8 Try.underlying24 infoNm rfl (by omega) _ _ rfl rfl wr.heap.size _ (k + 1) _ rfl Ho7.out _ (i - k) _ (ints ((ordI (yrE xs) i).drop k)) rfl Hld.out (by intro hpos; first | exact Hcd.out hpos | (rw [if_neg (by omega)]; exact Hcd.out hpos) | (rw [if_pos (by omega)]; exact Hcd.out hpos) | (split <;> first | exact Hcd.out hpos | omega)) (ints_oneY _) (by simp [maxLen]; omega) (by omega) Hb7.out.size ?_; intro v9 w9 hown9 hg9; have Hb9 := Lib.hid (below_apd Hb7.out Ho7.out hg9 (Nat.le_refl _) Hb7.out.size); have Ho9 := Lib.hid hown9; clear hown9 hg9))
              have hfin : w9.ownsRow w.heap.size 2 1 v9 (i + 1) (ints (ordI (yrE xs) (i + 1))) := by
                rw [ordI_succ (yrE xs) i k Hp.out, ints_app, ints_app]
                have := ownsRow_leY Ho9.out Hbl.out.size
                rw [show k + 1 + (i - k) = i + 1 by omega] at this
                exact this
              obtain ⟨g2, cp2, rfl, hp1, hp2⟩ := own_posC hfin (by omega)
              have Hfin := Lib.hid hfin
              have Hb10 := Lib.hid (Hbl.out.trans (Hb9.out.mono Hbl.out.size))
              clear hfin
              go_roundw
              case rel => exact ⟨i + 1, g2, cp2, by omega, by go_num, rfl, hp1, hp2, Hfin.out, Hb10.out⟩
              case measure => simp [RowKit.intOf]; omega
          · have hk0' : ¬ (0 : Int) < (k : Int) := by omega
            have Hp := Lib.hid (show posY (yrE xs) (ordY (yrE xs) i) i i = k by rw [Hpo.out, show k = 0 by omega]; rfl)
            clear Hpo
            go_wp2_with fail
            go_quiet (fail)
            go_wp2_with fail
            refine (l00OwnY (some ⟨g, 0, none⟩) k c' ((ordI (yrE xs) i).take k) (wr.drewN (d + nq)) (by rw [List.length_take, ordI_len]; omega) (by omega) (fun _ => ⟨g, 0, rfl, (Hown.out.lt g rfl).2, fun j u hu => by
              have hj : j < k := by have := (List.getElem?_eq_some_iff.1 hu).1; rw [ints_len, List.length_take] at this; omega
              have hx : (ints (ordI (yrE xs) i))[j]? = some u := by
                rw [← hu]; unfold ints; rw [List.getElem?_map, List.getElem?_map, List.getElem?_take_of_lt hj]
              rw [Nat.zero_add]
              exact (Hown.out.cellAt j (by omega)).trans hx⟩)).mono ?_
            rintro e w5 ⟨A5, c5, rfl, ho5, hb5⟩
            have Ho5 := Lib.hid (show w5.ownsRow wr.heap.size 2 1 (.slice A5 k c5) k (ints ((ordI (yrE xs) i).take k)) from ho5)
            have Hb5 := Lib.hid (show Below wr.heap.size wr w5 from below_undrewN hb5)
            clear ho5 hb5
            have Hcd0 := Lib.hid (show ∀ w7, Below wr.heap.size wr w7 → 0 < i - k → ∃ b off, (some ⟨g, k, none⟩ : Option Addr) = some ⟨b, off, none⟩ ∧ ∀ (j : Nat) (u : Value), (ints ((ordI (yrE xs) i).drop k))[j]? = some u → w7.cell? ⟨b, off + j, none⟩ = some u from fun w7 hb7 _ => ⟨g, k, rfl, fun j u hu => by
              have hj : k + j < i := by have := (List.getElem?_eq_some_iff.1 hu).1; rw [ints_len, List.length_drop, ordI_len] at this; omega
              have hx : (ints (ordI (yrE xs) i))[k + j]? = some u := by rw [← hu]; unfold ints; rw [List.getElem?_map, List.getElem?_map, List.getElem?_drop]
              exact (hb7.cell (p := ⟨g, k + j, none⟩) (Hown.out.lt g rfl).2).trans ((Hown.out.cellAt (k + j) (by omega)).trans hx)⟩)
            have Hld := Lib.hid (show (ints ((ordI (yrE xs) i).drop k)).length = (i - k) * 1 by rw [ints_len, List.length_drop, ordI_len, Nat.mul_one])
            go_wp2_with (at_builtin; first | (refine wpList_apd 24 2 _ 1 8 Try.underlying24 infoNm rfl (by omega) _ _ rfl rfl wr.heap.size _ k _ rfl Ho5.out #[.int .i64 (i : Int)] 1 1 rfl rfl (by simp [Value.oneCell']) (by simp [maxLen]; omega) (by omega) Hb5.out.size ?_; intro v7 w7 hown7 hg7; have Hb7 := Lib.hid (below_apd Hb5.out Ho5.out hg7 (Nat.le_refl _) Hb5.out.size); obtain ⟨A7, c7, rfl⟩ := sl_ofY hown7; have Ho7 := Lib.hid hown7; clear hown7 hg7; have Hcd := Lib.hid (Hcd0.out w7 Hb7.out)) | (refine wpList_apY 24 2 _ 1 8 Try.underlying24 infoNm rfl (by omega) _ _ rfl rfl wr.heap.size _ (k + 1) _ rfl Ho7.out _ (i - k) _ (ints ((ordI (yrE xs) i).drop k)) rfl Hld.out (by intro hpos; first | exact Hcd.out hpos | (rw [if_neg (by omega)]; exact Hcd.out hpos) | (rw [if_pos (by omega)]; exact Hcd.out hpos) | (split <;> first | exact Hcd.out hpos | omega)) (ints_oneY _) (by simp [maxLen]; omega) (by omega) Hb7.out.size ?_; intro v9 w9 hown9 hg9; have Hb9 := Lib.hid (below_apd Hb7.out Ho7.out hg9 (Nat.le_refl _) Hb7.out.size); have Ho9 := Lib.hid hown9; clear hown9 hg9))
            have hfin : w9.ownsRow w.heap.size 2 1 v9 (i + 1) (ints (ordI (yrE xs) (i + 1))) := by
              rw [ordI_succ (yrE xs) i k Hp.out, ints_app, ints_app]
              have := ownsRow_leY Ho9.out Hbl.out.size
              rw [show k + 1 + (i - k) = i + 1 by omega] at this
              exact this
            obtain ⟨g2, cp2, rfl, hp1, hp2⟩ := own_posC hfin (by omega)
            have Hfin := Lib.hid hfin
            have Hb10 := Lib.hid (Hbl.out.trans (Hb9.out.mono Hbl.out.size))
            clear hfin
            go_roundw
            case rel => exact ⟨i + 1, g2, cp2, by omega, by go_num, rfl, hp1, hp2, Hfin.out, Hb10.out⟩
            case measure => simp [RowKit.intOf]; omega
      · have hlt' : ¬ (i : Int) < (xs.length : Int) := by omega
        have hix : i = xs.length := by omega
        subst hix
        have hb9 := Lib.hid ((Below.refl wr.heap.size wr).alloc (Nat.le_refl _) (.cells #[] 2))
        have ho9 := Lib.hid (World.ownsRow_made (base := wr.heap.size) (e := 2) (size := 1) wr #[] 0 (Nat.le_refl _) (by simp [maxLen]) rfl)
        clear hbl
        generalize hwq : wr = wq at *
        clear hwq
        go_wp2_with fail
        go_loopw [8, 9] (fun o jx wr => ∃ k : Nat, k ≤ xs.length ∧ jx = .int .i64 (k : Int) ∧ wr.ownsRow wq.heap.size 2 1 o k (ints (byT xs (fun k => (ordY (yrE xs) xs.length).getD k 0) k)) ∧ Below wq.heap.size wq wr) (fun _ jx _ => xs.length - (RowKit.intOf jx).toNat)
        case atStart => exact ⟨0, Nat.zero_le _, rfl, ho9.out, hb9.out⟩
        case round =>
          obtain ⟨k, hk, rfl, hown, hby⟩ := hrel
          obtain ⟨A6, c6, rfl⟩ := sl_ofY hown
          have Ho6 := Lib.hid hown
          have Hby := Lib.hid hby
          clear hown
          by_cases hlt2 : k < xs.length
          · have hlt2' : (k : Int) < (xs.length : Int) := by omega
            have hbw := Hbl.out.trans (hby.mono Hbl.out.size)
            obtain ⟨b1, o1, A3, c3, hA, _⟩ := (H.out.below (hbw.mono hB)).at k hlt2
            subst hA
            have hu := (ordY_ok (yrE xs) xs.length).lt k hlt2
            have eo : wr.cell? ⟨g, k, none⟩ = some (.int .i64 (((ordY (yrE xs) xs.length).getD k 0 : Nat) : Int)) := (hby.cell (p := ⟨g, k, none⟩) (Hown.out.lt g rfl).2).trans ((Hown.out.cellAt k (by omega)).trans (ordI_at _ hlt2))
            have Hst := Lib.hid (byT_succ xs (fun k => (ordY (yrE xs) xs.length).getD k 0) k)
            generalize (ordY (yrE xs) xs.length).getD k 0 = u at *
            have en : wr.cell? ⟨b1, o1 + u * 5, none⟩ = some (.int .i64 (nuE xs u)) := by
              obtain ⟨b2, o2, A4, c4, hA2, hE⟩ := (H.out.below (hbw.mono hB)).at u hu
              obtain ⟨rfl, rfl⟩ : b1 = b2 ∧ o1 = o2 := by simpa using hA2
              rw [hE.c0]
              unfold nuE
              rw [List.getD_eq_getElem?_getD, List.getElem?_eq_getElem hu]; rfl
            have hu' : (u : Int) < (xs.length : Int) := by omega
            generalize nuE xs u = num at *
            generalize byT xs (fun k => (ordY (yrE xs) xs.length).getD k 0) k = acc at *
            clear hbw hby
            go_wp2_with (at_builtin; refine wpList_apd 24 2 _ 1 8 Try.underlying24 infoNm rfl (by omega) _ _ rfl rfl wq.heap.size _ k _ rfl Ho6.out #[.int .i64 num] 1 1 rfl rfl (by simp [Value.oneCell']) (by simp [maxLen]; omega) (by omega) Hby.out.size ?_; intro v7 w9 hown9 hg9; have Hb9 := Lib.hid (below_apd Hby.out Ho6.out hg9 (Nat.le_refl _) Hby.out.size); have Ho9 := Lib.hid hown9; clear hown9 hg9)
            go_roundw
            case rel => exact ⟨k + 1, by omega, by go_num, by rw [Hst.out, ← ints_one]; exact Ho9.out, Hb9.out⟩
            case measure => simp [RowKit.intOf]; omega
          · have hlt2' : ¬ (k : Int) < (xs.length : Int) := by omega
            have hfin := Lib.hid (show byL xs = byT xs (fun k => (ordY (yrE xs) xs.length).getD k 0) k by rw [HT.out, show k = xs.length by omega])
            have HO := Lib.hid (show wr.ownsRow w.heap.size 2 1 (.slice A6 k c6) (byT xs (fun k => (ordY (yrE xs) xs.length).getD k 0) k).length (ints (byT xs (fun k => (ordY (yrE xs) xs.length).getD k 0) k)) by rw [byT_len]; exact ownsRow_leY Ho6.out Hbl.out.size)
            have hbw := Lib.hid (Hbl.out.trans (hby.mono Hbl.out.size))
            clear hby
            go_wp2_with fail
            go_ret2
            exact RetN_yes hfin.out e1.out HO.out hbw.out
end Go.Proofs.Ytmlnaedeghpbbaa
/- Similar entries, part 5: the marks' helpers. -/
namespace Go.Proofs.Ytmlnaedeghpbbaa
open Go.RowKit Go.Joins

/-- the digits in front of what is there already -/
def mkD : Nat → Nat → List UInt8 → List UInt8
  | 0, _, out => out
  | f + 1, k, out => if k = 0 then out else mkD f (k / 10) (UInt8.ofNat (48 + k % 10) :: out)
theorem mkD_zero (f : Nat) (out : List UInt8) : mkD f 0 out = out := by cases f <;> simp [mkD]
theorem mkD_step (f m : Nat) (out : List UInt8) (h : 0 < m) (hf : m ≤ f) : ∃ f', mkD f m out = mkD f' (m / 10) (UInt8.ofNat (48 + m % 10) :: out) ∧ m / 10 ≤ f' := by
  cases f with
  | zero => omega
  | succ f => exact ⟨f, by simp [mkD, show m ≠ 0 by omega], by omega⟩
/-- the text of a mark -/
def markT (k : Int) : ByteArray := if k ≤ 0 then ⟨#[109, 48]⟩ else ⟨(109 :: mkD k.toNat k.toNat []).toArray⟩
theorem digB (m : Nat) : IntKind.u8.wrap (48 + (m : Int) % 10) = ((UInt8.ofNat (48 + m % 10)).toNat : Int) := by
  rw [IntKind.wrap_u8]
  simp only [UInt8.toNat_ofNat']
  omega

set_option maxHeartbeats 400000 in
theorem markText_any (k : Int) (w : World) (hk : k ≤ 4611686018427387904) :
    Calls Try.prog 21 #[.int .i64 k] w fun e w' => e = .returned (.string (markT k)) ∧ Below w.heap.size w w' := by
  by_cases h : k ≤ 0
  · have e1 := Lib.hid (show markT k = ⟨#[109, 48]⟩ by simp [markT, h])
    have hb0 := Below.refl w.heap.size w
    go_enter Try.func21, Try.ntmps21
    go_wp2_with fail
    go_ret
    rw [e1.out]; exact ⟨rfl, hb0⟩
  · obtain ⟨n, rfl⟩ : ∃ n : Nat, k = n := ⟨k.toNat, by omega⟩
    have e1 := Lib.hid (show markT (n : Int) = ⟨(109 :: mkD n n []).toArray⟩ by simp only [markT, if_neg h, Int.toNat_natCast])
    have hn : 0 < n := by omega
    have hb : decide ((n : Int) ≤ 0) = false := by simp; omega
    clear h
    go_enter Try.func21, Try.ntmps21
    go_wp2_with fail
    go_loopw [0, 3] (fun a v wr => ∃ (f m : Nat) (out : List UInt8), a = .int .i64 m ∧ m ≤ f ∧ out.length + m ≤ n ∧ v = .string ⟨out.toArray⟩ ∧ mkD n n [] = mkD f m out ∧ Below w.heap.size w wr) (fun a _ _ => (intOf a).toNat)
    case atStart => exact ⟨n, n, [], rfl, Nat.le_refl _, by simp, rfl, rfl, Below.refl _ _⟩
    case round =>
      obtain ⟨f, m, out, rfl, hmf, hmn, rfl, heq, hbl⟩ := hrel
      have Heq := Lib.hid heq; clear heq
      have hl1 : 1 + out.length ≤ 4611686018427387905 := by omega
      by_cases hlt : 0 < m
      · have hd := digB m
        have Hst := Lib.hid (mkD_step f m out hlt hmf)
        have hcv := run_conv_one (P := Try.prog) (w := wr) 63 9 5 Try.underlying63 Try.underlying5 Try.underlying9 (UInt8.ofNat (48 + m % 10))
        have hb2 := hbl.alloc hbl.size (.cells #[.int .u8 ((UInt8.ofNat (48 + m % 10)).toNat : Int)] 5)
        generalize UInt8.ofNat (48 + m % 10) = d at *
        go_wp2_with fail
        go_roundw
        case rel =>
          obtain ⟨f', h1, h2⟩ := Hst.out
          exact ⟨f', m / 10, d :: out, by go_num, h2, by simp; omega, by rw [ba_app]; simp, by rw [Heq.out, h1], hb2⟩
        case measure => simp [intOf]; omega
      · have hm0 : (m : Int) ≤ 0 := by omega
        go_wp2_with fail
        go_ret
        have he := Heq.out
        rw [show m = 0 by omega, mkD_zero] at he
        rw [e1.out, he]
        exact ⟨by rw [ba_app]; simp, hbl⟩


/-- the marks from k on -/
def marks (k : Int) (n : Nat) : List ByteArray := (List.range n).map fun (i : Nat) => markT (k + (i : Int))
theorem marks_at (k : Int) (n i : Nat) (h : i < n) : (strs (marks k n))[i]? = some (.string (markT (k + (i : Int)))) := by simp [strs, marks, h]
theorem marks_len (k : Int) (n : Nat) : (marks k n).length = n := by simp [marks]

set_option maxHeartbeats 400000 in
theorem markStringS_any (base : Nat) (v1 : Value) (k0 : Int) (n : Nat) (xs : List Value) (w : World) (h1 : w.ownsRow base 9 1 v1 n xs) (hk0 : 0 ≤ k0) (hk : k0 + n ≤ 4611686018427387904) :
    Calls Try.prog 22 #[v1, .int .i64 k0] w fun e w' => e = .returned (.int .i64 (k0 + n)) ∧ w.grownBy w' v1.ownBlock ∧ w'.ownsRow base 9 1 v1 n (strs (marks k0 n)) := by
  have hl : xs.length = n := by simpa using h1.1
  have Hl := Lib.hid hl; clear hl
  rcases ownsRow_forms h1 with ⟨rfl, rfl⟩ | ⟨g, cap, rfl⟩
  · have hg0 : w.grownBy w (Value.slice none 0 0).ownBlock := ⟨rfl, rfl, rfl, Nat.le_refl _, fun _ _ _ => rfl⟩
    have Ho := Lib.hid (World.ownsRow_nil w base 9 1)
    clear h1
    go_enter Try.func22, Try.ntmps22
    go_wp2_with fail
    go_loop [1, 5] (fun a i => i = .int .i64 0 ∧ a = .int .i64 k0) (fun _ _ => 0)
    case atStart => exact ⟨rfl, rfl⟩
    case round =>
      obtain ⟨rfl, rfl⟩ := hrel
      go_wp2_with fail
      go_ret
      exact ⟨by simp, hg0, by simpa [marks, strs] using Ho.out⟩
  · have hg0 : w.grownBy w (some g) := ⟨rfl, rfl, rfl, Nat.le_refl _, fun _ _ _ => rfl⟩
    have Hsh := Lib.hid h1
    clear h1
    go_enter Try.func22, Try.ntmps22
    go_wp2_with fail
    go_loopw [1, 5] (fun a i wr => ∃ k : Nat, k ≤ n ∧ i = .int .i64 k ∧ a = .int .i64 (k0 + k) ∧ wr.ownsRow base 9 1 (.slice (some ⟨g, 0, none⟩) n cap) n (strs (marks k0 k) ++ xs.drop k) ∧ w.grownBy wr (some g)) (fun _ i _ => n - (intOf i).toNat)
    case atStart => exact ⟨0, Nat.zero_le _, rfl, by simp, by simpa [marks, strs] using Hsh.out, hg0⟩
    case round =>
      obtain ⟨k, hk, rfl, rfl, hown, hgr⟩ := hrel
      by_cases hlt : k < n
      · have hlt' : (k : Int) < (n : Int) := by omega
        have Hmk := Lib.hid (markText_any (k0 + k))
        have hlen : (strs (marks k0 k)).length = k := by simp [strs, marks]
        have hset : (strs (marks k0 k) ++ xs.drop k).set k (.string (markT (k0 + k))) = strs (marks k0 (k + 1)) ++ xs.drop (k + 1) := by
          rw [List.set_append_right _ _ (by omega), hlen, Nat.sub_self, List.drop_eq_getElem_cons (by rw [Hl.out]; exact hlt), List.set_cons_zero]
          simp [strs, marks, List.range_succ]
        have Hset := Lib.hid hset; clear hset hlen
        generalize markT (k0 + (k : Int)) = M at *
        have Hown := Lib.hid hown; clear hown
        go_wp2_with fail
        refine (Hmk.out _ (by omega)).mono ?_; rintro e wq ⟨rfl, hbq⟩
        have hown := own_below Hown.out hbq
        obtain ⟨u, hu⟩ : ∃ u, (strs (marks k0 k) ++ xs.drop k)[k]? = some u := ⟨_, List.getElem?_eq_getElem (by have := hown.1; omega)⟩
        have hc : wq.cell? ⟨g, k, none⟩ = some u := (hown.cellAt k (by omega)).trans hu
        have hf : wq.frozen? ⟨g, k, none⟩ = false := hown.frozenAt k
        obtain ⟨ho2, hg2⟩ := hown.stored k (.string M)
        rw [Hset.out] at ho2
        have hg3 := grown_trans (grown_trans hgr (grown_of_below hbq _)) hg2
        clear hu hown
        go_wp2_with fail
        go_roundw
        case rel => exact ⟨k + 1, by omega, by go_num, by go_num, ho2, hg3⟩
        case measure => simp [intOf]; omega
      · obtain rfl : k = n := by omega
        rw [List.drop_of_length_le (by rw [Hl.out]; exact Nat.le_refl _), List.append_nil] at hown
        go_wp2_with fail
        go_ret
        exact ⟨rfl, hgr, hown⟩

def marksI (k : Int) (n : Nat) : List Int := (List.range n).map fun (i : Nat) => k + (i : Int)
theorem marksI_len (k : Int) (n : Nat) : (marksI k n).length = n := by simp [marksI]
theorem marksI_at (k : Int) (n i : Nat) (h : i < n) : (marksI k n)[i]'(by rw [marksI_len]; exact h) = k + (i : Int) := by simp [marksI]
theorem marksI_succ (k : Int) (n : Nat) : marksI k (n + 1) = marksI k n ++ [k + (n : Int)] := by
  unfold marksI
  rw [List.range_succ, List.map_append]; rfl

set_option maxRecDepth 100000 in
set_option maxHeartbeats 800000 in
theorem heldInt64S_any (B : Nat) (v : Value) (k0 : Int) (n : Nat) (w : World) (h : Rd w B v n 1 (ints (marksI k0 n))) (hk0 : 0 ≤ k0) (hk : k0 + n ≤ 4611686018427387904) :
    Calls Try.prog 12 #[v, .int .i64 k0] w fun e w' => e = .returned (.int .i64 (k0 + n)) ∧ w = w' := by
  have h' : Rd w B v (marksI k0 n).length 1 (ints (marksI k0 n)) := by rw [marksI_len]; exact h
  have H := Lib.hid h'
  obtain ⟨_, A, c, rfl, _⟩ := h
  clear h'
  go_enter Try.func12, Try.ntmps12
  go_wp2_with fail
  go_loop [1, 5] (fun a i => ∃ k : Nat, k ≤ n ∧ i = .int .i64 (k : Int) ∧ a = .int .i64 (k0 + k)) (fun _ i => n - (intOf i).toNat)
  case atStart => exact ⟨0, Nat.zero_le _, rfl, by simp⟩
  case round =>
    obtain ⟨k, hkn, rfl, rfl⟩ := hrel
    by_cases hlt : k < n
    · obtain ⟨b1, o1, hA, hx⟩ := ints_rd (by rw [marksI_len] at H; rw [marksI_len]; exact H.out) k (by rw [marksI_len]; exact hlt)
      subst hA
      rw [marksI_at k0 n k hlt] at hx
      have hlt' : (k : Int) < (n : Int) := by omega
      go_wp2_with fail
      go_round
      case rel => exact ⟨k + 1, by omega, by go_num, by go_num⟩
      case measure => simp [intOf]; omega
    · have hlt' : (n : Int) ≤ (k : Int) := by omega
      go_wp2_with fail
      go_ret
      obtain rfl : k = n := by omega
      exact ⟨rfl, rfl⟩

set_option maxRecDepth 100000 in
set_option maxHeartbeats 800000 in
theorem markInt64S_any (base : Nat) (v : Value) (k0 : Int) (n : Nat) (xs : List Value) (w : World) (h : w.ownsRow base 2 1 v n xs) (hk0 : 0 ≤ k0) (hk : k0 + n ≤ 4611686018427387904) :
    Calls Try.prog 11 #[v, .int .i64 k0] w fun e w' => e = .returned (.int .i64 (k0 + n)) ∧ w.grownBy w' v.ownBlock ∧ w'.ownsRow base 2 1 v n (ints (marksI k0 n)) := by
  have hl : xs.length = n := by simpa using h.1
  have Hl := Lib.hid hl; clear hl
  rcases ownsRow_forms h with ⟨rfl, rfl⟩ | ⟨g, cap, rfl⟩
  · have hg0 : w.grownBy w (Value.slice none 0 0).ownBlock := ⟨rfl, rfl, rfl, Nat.le_refl _, fun _ _ _ => rfl⟩
    have Ho := Lib.hid (World.ownsRow_nil w base 2 1)
    clear h
    go_enter Try.func11, Try.ntmps11
    go_wp2_with fail
    go_loop [1, 5] (fun a i => i = .int .i64 0 ∧ a = .int .i64 k0) (fun _ _ => 0)
    case atStart => exact ⟨rfl, rfl⟩
    case round =>
      obtain ⟨rfl, rfl⟩ := hrel
      go_wp2_with fail
      go_ret
      exact ⟨by simp, hg0, by simpa [marksI, ints] using Ho.out⟩
  · have hg0 : w.grownBy w (some g) := ⟨rfl, rfl, rfl, Nat.le_refl _, fun _ _ _ => rfl⟩
    have Hsh := Lib.hid h
    clear h
    go_enter Try.func11, Try.ntmps11
    go_wp2_with fail
    go_loopw [1, 5] (fun a i wr => ∃ k : Nat, k ≤ n ∧ i = .int .i64 (k : Int) ∧ a = .int .i64 (k0 + k) ∧ wr.ownsRow base 2 1 (.slice (some ⟨g, 0, none⟩) n cap) n (ints (marksI k0 k) ++ xs.drop k) ∧ w.grownBy wr (some g)) (fun _ i _ => n - (intOf i).toNat)
    case atStart => exact ⟨0, Nat.zero_le _, rfl, by simp, by simpa [marksI, ints] using Hsh.out, hg0⟩
    case round =>
      obtain ⟨k, hkn, rfl, rfl, hown, hgr⟩ := hrel
      by_cases hlt : k < n
      · have hlt' : (k : Int) < (n : Int) := by omega
        have hset : (ints (marksI k0 k) ++ xs.drop k).set k (.int .i64 (k0 + k)) = ints (marksI k0 (k + 1)) ++ xs.drop (k + 1) := by
          have hlen : (ints (marksI k0 k)).length = k := by simp [ints, marksI_len]
          rw [List.set_append_right _ _ (by omega), hlen, Nat.sub_self, List.drop_eq_getElem_cons (by rw [Hl.out]; exact hlt), List.set_cons_zero]
          simp [ints, marksI_succ]
        have Hset := Lib.hid hset; clear hset
        obtain ⟨u, hu⟩ : ∃ u, (ints (marksI k0 k) ++ xs.drop k)[k]? = some u := ⟨_, List.getElem?_eq_getElem (by have := hown.1; omega)⟩
        have hc : wr.cell? ⟨g, k, none⟩ = some u := (hown.cellAt k (by omega)).trans hu
        have hf : wr.frozen? ⟨g, k, none⟩ = false := hown.frozenAt k
        obtain ⟨ho2, hg2⟩ := hown.stored k (.int .i64 (k0 + k))
        rw [Hset.out] at ho2
        have Ho2 := Lib.hid ho2
        have Hg2 := Lib.hid (grown_trans hgr hg2)
        clear hu hown hg2 ho2 hgr
        go_wp2_with fail
        go_roundw
        case rel => exact ⟨k + 1, by omega, by go_num, by go_num, Ho2.out, Hg2.out⟩
        case measure => simp [intOf]; omega
      · obtain rfl : k = n := by omega
        rw [List.drop_of_length_le (by rw [Hl.out]; exact Nat.le_refl _), List.append_nil] at hown
        have Hown := Lib.hid hown; clear hown
        go_wp2_with fail
        go_ret
        exact ⟨rfl, hgr, Hown.out⟩
end Go.Proofs.Ytmlnaedeghpbbaa
/- Similar entries, part 6: markEntryS. -/
namespace Go.Proofs.Ytmlnaedeghpbbaa
open Go.RowKit Go.Joins

/-- a row of its own, whatever it holds -/
def OwnX (w : World) (base n : Nat) (v : Value) : Prop := ∃ zs, w.ownsRow base 9 1 v n zs
theorem OwnX.kept {w w' : World} {base n : Nat} {v : Value} {row : Option Nat} (h : OwnX w base n v) (hg : w.grownBy w' row) (hne : v.ownBlock = none ∨ v.ownBlock ≠ row) : OwnX w' base n v := h.imp fun _ h => h.kept hg hne
theorem OwnX.same {w w' : World} {base n n2 : Nat} {v v2 : Value} {xs' : List Value} (h1 : OwnX w base n v) (h2 : OwnX w base n2 v2) (hg : w.grownBy w' v.ownBlock) (h1' : w'.ownsRow base 9 1 v n xs') : OwnX w' base n2 v2 := by
  by_cases hne : v2.ownBlock = none ∨ v2.ownBlock ≠ v.ownBlock
  · exact h2.kept hg hne
  · obtain ⟨z1, h1⟩ := h1
    obtain ⟨z2, h2⟩ := h2
    rcases h2.2 with ⟨rfl, _⟩ | ⟨g2, cap2, cur2, rfl, hb2, hg2, hn2, hc2, hs2, ht2⟩
    · exact absurd (.inl rfl) hne
    rcases h1.2 with ⟨rfl, _⟩ | ⟨g1, cap1, cur1, rfl, hb1, hg1, hn1, hc1, hs1, ht1⟩
    · exact absurd (.inr (by simp [Value.ownBlock])) hne
    have he : g2 = g1 := by
      by_cases hh : g2 = g1
      · exact hh
      · exact absurd (.inr (by simpa [Value.ownBlock] using hh)) hne
    subst he
    rw [hg1] at hg2
    obtain rfl : cur1 = cur2 := by simpa using hg2
    rcases h1'.2 with ⟨h', _⟩ | ⟨g3, cap3, cur3, h', hb3, hg3, hn3, hc3, hs3, ht3⟩
    · cases h'
    simp only [Value.slice.injEq, Option.some.injEq, Addr.mk.injEq, and_true, true_and] at h'
    obtain ⟨rfl, rfl⟩ := h'
    refine ⟨cur3.toList.take (n2 * 1), ⟨?_, .inr ⟨g2, cap2, cur3, rfl, hb2, hg3, hn2, hc2, by omega, rfl⟩⟩⟩
    rw [List.length_take, Array.length_toList]; omega

/-- only the entries' own blocks have changed -/
def MK (B0 hi : Nat) (w wr : World) : Prop := Below B0 w wr ∧ ∀ g, hi ≤ g → g < w.heap.size → wr.heap[g]? = w.heap[g]?
theorem MK.refl (B0 hi : Nat) (w : World) : MK B0 hi w w := ⟨Below.refl _ _, fun _ _ _ => rfl⟩
theorem MK.step {B0 hi : Nat} {w wr wr' : World} {ob : Option Nat} (h : MK B0 hi w wr) (hg : wr.grownBy wr' ob) (ho : ∀ g, ob = some g → B0 ≤ g ∧ g < hi) (hB : B0 ≤ w.heap.size) : MK B0 hi w wr' :=
  ⟨h.1.grown hg (Nat.le_trans hB h.1.size) (fun k hk => (ho k hk).1), fun g h1 h2 => (hg.block g (Nat.lt_of_lt_of_le h2 h.1.size) (fun e => by have := (ho g e.symm).2; omega)).trans (h.2 g h1 h2)⟩
theorem st_cell {w : World} {g n : Nat} {cs : List Value} (h : w.ownsRow g 39 5 (.slice (some ⟨g, 0, none⟩) n n) n cs) (j : Nat) (hj : j < n * 5) : ∃ u, w.cell? ⟨g, j, none⟩ = some u ∧ w.frozen? ⟨g, j, none⟩ = false := by
  obtain ⟨u, hu⟩ : ∃ u, cs[j]? = some u := ⟨_, List.getElem?_eq_getElem (by have := h.1; omega)⟩
  exact ⟨u, (h.cellAt j (by omega)).trans hu, h.frozenAt j⟩
theorem fours (ys : List (Ent × Value)) (j : Nat) (hj : j < ys.length) : (ys.flatMap cellsE)[j * 5 + 4]? = some (ys[j].2) := by
  have := flat_at cellsE 5 (fun _ => rfl) ys j 4 hj (by omega)
  rw [this]; rfl

set_option maxRecDepth 100000 in
set_option maxHeartbeats 3200000 in
theorem markEntryS_any (B0 hi n : Nat) (ys : List (Ent × Value)) (w : World) (k0 : Int) (hn : ys.length = n) (hl : n ≤ 1048576) (h1 : w.ownsRow B0 39 5 (.slice (some ⟨B0, 0, none⟩) n n) n (ys.flatMap cellsE))
    (h2 : ∀ y ∈ ys, OwnX w (B0 + 1) y.1.words.length y.2) (hhi : ∀ y ∈ ys, ∀ g, y.2.ownBlock = some g → g < hi) (hB : B0 < hi) (hsm : ∀ y ∈ ys, y.1.words.length ≤ 1048576) (hk0 : 0 ≤ k0) (hk1 : k0 ≤ 1) :
    Calls Try.prog 10 #[.slice (some ⟨B0, 0, none⟩) n n, .int .i64 k0] w fun e w' => (∃ r : Int, e = .returned (.int .i64 r) ∧ 0 ≤ r) ∧ MK B0 hi w w' := by
  have hBw : B0 < w.heap.size := (h1.lt B0 rfl).2
  have H1 := Lib.hid h1
  have H2 := Lib.hid h2
  have Hhi := Lib.hid hhi
  have Hsm := Lib.hid hsm
  have H4 := Lib.hid (fours ys)
  have Hn := Lib.hid hn
  clear h1 h2 hhi hsm hn
  go_enter Try.func10, Try.ntmps10
  go_wp2_with fail
  go_loopw [1, 5] (fun a i wr => ∃ (k : Nat) (a0 : Int) (cs : List Value), k ≤ n ∧ 0 ≤ a0 ∧ a0 ≤ 1 + k * 1048580 ∧ i = .int .i64 (k : Int) ∧ a = .int .i64 a0 ∧ wr.ownsRow B0 39 5 (.slice (some ⟨B0, 0, none⟩) n n) n cs ∧ (∀ j (hj : j < ys.length), cs[j * 5 + 4]? = some (ys[j].2)) ∧ (∀ y ∈ ys, OwnX wr (B0 + 1) y.1.words.length y.2) ∧ MK B0 hi w wr) (fun _ i _ => n - (intOf i).toNat)
  case atStart => exact ⟨0, k0, _, Nat.zero_le _, hk0, by omega, rfl, rfl, H1.out, H4.out, H2.out, MK.refl _ _ _⟩
  case round =>
    obtain ⟨k, a0, cs, hk, ha0, ha1, rfl, rfl, hown, hcs, hx, hmk⟩ := hrel
    have Hcs := Lib.hid hcs
    have Hx := Lib.hid hx
    have Hmk := Lib.hid hmk
    clear hcs hx hmk
    by_cases hlt : k < n
    · have hlt' : (k : Int) < (n : Int) := by omega
      have hky : k < ys.length := by rw [Hn.out]; exact hlt
      have Hmem := Lib.hid (List.getElem_mem hky)
      have Hk4 := Lib.hid (Hcs.out k hky)
      generalize ys[k] = y at *
      obtain ⟨x, v2⟩ := y
      have hxl := Hsm.out _ Hmem.out
      have hxo := Hx.out _ Hmem.out
      dsimp only at Hk4 hxl hxo
      obtain ⟨A7, c7, rfl⟩ : ∃ A c, v2 = .slice A x.words.length c := by
        obtain ⟨zs, hz⟩ := hxo
        obtain ⟨_, A, c, e, _⟩ := Rd.of_own hz
        exact ⟨A, c, e⟩
      clear hxo hky
      obtain ⟨u0, hc0, hf0⟩ := st_cell hown (k * 5) (by omega)
      obtain ⟨ho1, hg1⟩ := hown.stored (k * 5) (.int .i64 a0)
      have Ho1 := Lib.hid ho1
      have Hg1 := Lib.hid hg1
      clear ho1 hg1 hown
      go_wp2_with fail
      refine (markText_any _ _ (by omega)).mono ?_; rintro e w2 ⟨rfl, hb2⟩
      generalize markT _ = M1 at *
      have ho2 := own_below Ho1.out hb2
      have Hg2 := Lib.hid (grown_trans Hg1.out (grown_of_below hb2 _))
      obtain ⟨u1, hc1, hf1⟩ := st_cell ho2 (k * 5 + 1) (by omega)
      obtain ⟨ho3, hg3⟩ := ho2.stored (k * 5 + 1) (.string M1)
      have Ho3 := Lib.hid ho3
      have Hg3 := Lib.hid (grown_trans Hg2.out hg3)
      clear ho2 ho3 hg3 hb2 hc0 hf0 Hg2 Hg1 Ho1
      go_wp2_with fail
      refine (markText_any _ _ (by omega)).mono ?_; rintro e w4 ⟨rfl, hb4⟩
      generalize markT _ = M2 at *
      have ho4 := own_below Ho3.out hb4
      have Hg4 := Lib.hid (grown_trans Hg3.out (grown_of_below hb4 _))
      obtain ⟨u2, hc2, hf2⟩ := st_cell ho4 (k * 5 + 2) (by omega)
      obtain ⟨u3, hc3, hf3⟩ := st_cell ho4 (k * 5 + 3) (by omega)
      have hc4 : w4.cell? ⟨B0, k * 5 + 4, none⟩ = some (.slice A7 x.words.length c7) := by
        rw [ho4.cellAt (k * 5 + 4) (by omega), List.getElem?_set_ne (by omega), List.getElem?_set_ne (by omega)]
        exact Hk4.out
      obtain ⟨ho5, hg5⟩ := ho4.stored (k * 5 + 2) (.string M2)
      obtain ⟨ho6, hg6⟩ := ho5.stored (k * 5 + 3) (.int .i64 (a0 + 1 + 1 + 1))
      have Ho6 := Lib.hid ho6
      have Hg6 := Lib.hid (grown_trans (grown_trans Hg4.out hg5) hg6)
      clear ho4 ho5 ho6 hg5 hg6 hb4 hc1 hf1 Hg3 Hg4 Ho3
      have Hx6 := Lib.hid (fun y hy => (Hx.out y hy).kept Hg6.out (by
        obtain ⟨zs, hz⟩ := Hx.out y hy
        cases hv : y.2.ownBlock with
        | none => exact .inl rfl
        | some g => have := (hz.lt g hv).1; exact .inr (by simp; omega)))
      have Hm6 := Lib.hid (Hmk.out.step Hg6.out (fun g e => by cases e; exact ⟨Nat.le_refl _, hB⟩) (Nat.le_of_lt hBw))
      obtain ⟨zs6, ho7⟩ := Hx6.out _ Hmem.out
      have HM := Lib.hid (fun q => markStringS_any (B0 + 1) _ q _ zs6 _ ho7)
      have hlt7 := Lib.hid ho7.lt
      clear ho7
      dsimp only at HM
      go_wp2_with fail
      refine (HM.out _ (by omega) (by omega)).mono ?_; rintro e w8 ⟨rfl, hg8, ho8⟩
      have Hx8 := Lib.hid (fun y hy => (Hx6.out _ Hmem.out).same (Hx6.out y hy) hg8 ho8)
      have Ho8 := Lib.hid (Ho6.out.kept hg8 (.inr (by
        intro e
        have := (hlt7.out B0 e.symm).1
        omega)))
      have Hm8 := Lib.hid (Hm6.out.step hg8 (fun g e => ⟨by have := (hlt7.out g e).1; omega, Hhi.out _ Hmem.out g e⟩) (Nat.le_of_lt hBw))
      have Hcs8 := Lib.hid (fun j hj => show ((((cs.set (k * 5) (.int .i64 a0)).set (k * 5 + 1) (.string M1)).set (k * 5 + 2) (.string M2)).set (k * 5 + 3) (.int .i64 (a0 + 1 + 1 + 1)))[j * 5 + 4]? = some ((ys[j]'hj).2) by
        rw [List.getElem?_set_ne (by omega), List.getElem?_set_ne (by omega), List.getElem?_set_ne (by omega), List.getElem?_set_ne (by omega)]
        exact Hcs.out j hj)
      clear hg8 ho8
      go_wp2_with fail
      go_roundw
      case rel => exact ⟨k + 1, _, _, by omega, by omega, by omega, by go_num, rfl, Ho8.out, Hcs8.out, Hx8.out, Hm8.out⟩
      case measure => simp [intOf]; omega
    · have hlt' : (n : Int) ≤ (k : Int) := by omega
      go_wp2_with fail
      go_ret
      exact ⟨⟨_, rfl, ha0⟩, Hmk.out⟩
end Go.Proofs.Ytmlnaedeghpbbaa
/- A stable sort by years, part 13: the law FnExactByYear (gen_by13.py). -/
namespace Go.Proofs.Ytmlnaedeghpbbaa
open Go.RowKit Go.Joins

theorem own_MKY {B0 hi base n size : Nat} {w wr : World} {e : TypeId} {v : Value} {zs : List Value} (h : w.ownsRow base e size v n zs) (hm : MK B0 hi w wr) (hb : hi ≤ base) : wr.ownsRow base e size v n zs := by
  refine ⟨h.1, ?_⟩
  rcases h.2 with hn | ⟨g, cap, cur, rfl, hbg, hgg, rest⟩
  · exact .inl hn
  · exact .inr ⟨g, cap, cur, rfl, hbg, (hm.2 g (Nat.le_trans hb hbg) (Array.getElem?_eq_some_iff.1 hgg).1).trans hgg, rest⟩
/-- the marks fit: a list of entries from toEntryS, some worlds later -/
theorem markE_lateY {w5 w6 w9 : World} {xs : List Ent} {ys : List (Ent × Value)} (hm : ys.map (·.1) = xs) (ho : w6.ownsRow w5.heap.size 39 5 (.slice (some ⟨w5.heap.size, 0, none⟩) xs.length xs.length) xs.length (ys.flatMap cellsE))
    (hw : ∀ y ∈ ys, w6.ownsRow (w5.heap.size + 1) 9 1 y.2 y.1.words.length (strs y.1.words)) (hb : Below w6.heap.size w6 w9) (hl : xs.length ≤ 1048576) (hsm : ∀ x ∈ xs, x.words.length ≤ 1048576) :
    Calls Try.prog 10 #[.slice (some ⟨w5.heap.size, 0, none⟩) xs.length xs.length, .int .i64 1] w9 fun e w' => (∃ r : Int, e = .returned (.int .i64 r) ∧ 0 ≤ r) ∧ MK w5.heap.size w6.heap.size w9 w' := by
  have hlen : ys.length = xs.length := by rw [← hm, List.length_map]
  exact markEntryS_any w5.heap.size w6.heap.size xs.length ys w9 1 hlen hl (own_below ho hb) (fun y hy => ⟨_, own_below (hw y hy) hb⟩) (fun y hy g e => ((hw y hy).lt g e).2) (ho.lt _ rfl).2
    (fun y hy => hsm y.1 (by rw [← hm]; exact List.mem_map_of_mem hy)) (by omega) (by omega)

set_option maxRecDepth 100000 in
set_option maxHeartbeats 3200000 in
theorem walkFnExactByYear {W : World} (v1 : Value) (xs : List Ent) (h1 : RdE W W.heap.size v1 xs) (m1 : xs.length ≤ maxLen ∧ ∀ x ∈ xs, lenE x) :
    Calls Try.prog 3 #[v1] W fun e w' => e = .returned (.bool true) ∧ Below W.heap.size W w' := by
  have HS1 := Lib.hid (szEntryS_any W.heap.size v1 xs 1048576 W h1 (Nat.le_refl _) m1.1 m1.2 (by omega) (by omega))
  have HT1 := Lib.hid (fun wx hx hz hl hw => toEntryS_c W.heap.size v1 xs wx hx hz hl hw)
  have HU1 := Lib.hid (fun wx hx hz hl hw => toEntryS_any W.heap.size v1 xs wx hx hz hl hw)
  have H1 := Lib.hid h1
  obtain ⟨A1, c1, rfl⟩ := h1.slice
  clear h1 m1
  go_enter Try.func3, Try.ntmps3
  go_wp2_with fail
  refine HS1.out.mono ?_; rintro e w1 ⟨r, rfl, hr1, hr2, hb1⟩
  have Hr2 := Lib.hid hr2; clear hr2
  by_cases n1 : r < 0
  · go_wp2_with fail
    go_ret
    exact ⟨rfl, hb1⟩
  · have s1 := (Hr2.out (by omega)).1
    have Hsm := Lib.hid (Hr2.out (by omega)).2
    have Hw1 := Lib.hid (fun x hx => (Hsm.out x hx).2.2.1)
    have HC1 := Lib.hid (fun wx v B hx hB => ByYearS_any B v xs wx hx hB s1 Hsm.out)
    have HC2 := Lib.hid (fun wx v B hx hB => ByYearI_any B v xs wx hx hB s1 Hsm.out)
    have hlen : (byL xs).length ≤ 1048576 := Nat.le_trans (byL_len xs) s1
    unfold RetN at HC1 HC2
    generalize byL xs = L at *
    generalize byC xs = C at *
    generalize hn : L.length = n at *
    have Hn := Lib.hid hn; clear hn
    go_wp2_with fail
    refine (HT1.out _ (H1.out.below hb1) hb1.size s1 Hw1.out).mono ?_; rintro e w3 ⟨A3, c3, rfl, he3, hb3⟩
    have hb03 := hb1.trans (hb3.mono hb1.size)
    have He3 := Lib.hid he3
    clear he3 hb3 hb1
    go_wp2_with fail
    refine (HC1.out w3 _ _ He3.out (Nat.le_refl _)).mono ?_; rintro e w5 ⟨v6, rfl, ho5, hb5⟩
    have hb05 := hb03.trans (hb5.mono hb03.size)
    have R5 := Lib.hid (Rd.of_own ho5)
    obtain ⟨_, A5, c5, rfl, _⟩ := Rd.of_own ho5
    clear ho5 hb5 hb03 He3
    go_wp2_with fail
    refine (HU1.out _ (H1.out.below hb05) hb05.size s1 Hw1.out).mono ?_; rintro e w6 ⟨ys, rfl, hym, hyo, hyw, hb6⟩
    have hb06 := hb05.trans (hb6.mono hb05.size)
    have HM := Lib.hid (fun w9 hb => markE_lateY (w9 := w9) hym hyo hyw hb s1 Hw1.out)
    have E6 := Lib.hid (show RdE w6 w6.heap.size (.slice (some ⟨w5.heap.size, 0, none⟩) xs.length xs.length) xs from ⟨ys, hym, Rd.of_own hyo, fun y hy => Rd.of_own (hyw y hy)⟩)
    have hz6 := hb6.size
    have B6 := Lib.hid hb6
    clear hym hyo hyw hb6
    go_wp2_with fail
    refine (HC2.out w6 _ _ E6.out (Nat.le_refl _)).mono ?_; rintro e w7 ⟨v9, rfl, ho7, hb7⟩
    have B67 := Lib.hid hb7
    have B57 := Lib.hid (B6.out.trans (hb7.mono hz6))
    have Ho7 := Lib.hid ho7
    obtain ⟨_, A9, c9, rfl, _⟩ := Rd.of_own ho7
    have HE := Lib.hid (eqInt64S_same _ _ _ _ L w7 (by rw [Hn.out]; exact Rd.of_own ho7) (by rw [Hn.out]; exact R5.out.below B57.out) (by rw [Hn.out]; omega))
    clear ho7 hb7 hb06
    go_wp2_with fail
    refine HE.out.mono ?_; rintro e w8 ⟨rfl, n8, rfl⟩
    have B68 := Lib.hid (below_drewN B67.out n8)
    have hb08 := hb05.trans ((B6.out.trans (B68.out.mono hz6)).mono hb05.size)
    have Ho8 := Lib.hid (Ho7.out.drewN n8)
    clear HE B57 B67 Ho7
    go_wp2_with fail
    refine (HT1.out _ (H1.out.below hb08) hb08.size s1 Hw1.out).mono ?_; rintro e w9 ⟨A10, c10, rfl, he9, hb9⟩
    have B69 := Lib.hid (B68.out.trans (hb9.mono B68.out.size))
    have Ho9 := Lib.hid (own_below Ho8.out hb9)
    have HE := Lib.hid (eqEntryS_same _ _ _ _ xs w9 (E6.out.below B69.out) he9 B69.out.size (Nat.le_refl _) s1 Hw1.out)
    clear he9 hb9 B68 Ho8 hb08
    go_wp2_with fail
    refine HE.out.mono ?_; rintro e w10 ⟨rfl, hb10⟩
    have B610 := Lib.hid (B69.out.trans (hb10.mono B69.out.size))
    have Ho10 := Lib.hid (own_below Ho9.out hb10)
    clear HE hb10 B69 Ho9 E6
    go_wp2_with fail
    refine (HM.out w10 B610.out).mono ?_; rintro e w11 ⟨⟨r1, rfl, hr10⟩, hm11⟩
    have B511 := Lib.hid ((B6.out.trans (B610.out.mono hz6)).trans hm11.1)
    have Ho11 := Lib.hid (own_MKY Ho10.out hm11 (Nat.le_refl _))
    clear hm11 HM Ho10 B610 B6
    have HE := Lib.hid (eqInt64S_same _ _ _ _ L w11 (by rw [Hn.out]; exact Rd.of_own Ho11.out) (by rw [Hn.out]; exact R5.out.below B511.out) (by rw [Hn.out]; omega))
    have hr11 : ¬ (r1 < 0) := by omega
    go_wp2_with fail
    refine HE.out.mono ?_; rintro e w12 ⟨rfl, n12, rfl⟩
    have B512 := Lib.hid (below_drewN B511.out n12)
    have Ho12 := Lib.hid (Ho11.out.drewN n12)
    clear HE B511 Ho11
    go_wp2_with fail
    refine (markInt64S_any _ _ 1 n _ _ Ho12.out (by omega) (by omega)).mono ?_; rintro e w13 ⟨rfl, hg13, ho13⟩
    have B513 := Lib.hid (B512.out.grown hg13 B512.out.size (fun k hk => Nat.le_trans hz6 ((Ho12.out.lt k hk).1)))
    have Ho13 := Lib.hid ho13
    have hb013 := hb05.trans (B513.out.mono hb05.size)
    clear ho13 hg13 B512 Ho12
    go_wp2_with fail
    refine (heldInt64S_any _ _ 1 n w13 (Rd.of_own Ho13.out) (by omega) (by omega)).mono ?_; rintro e w14 ⟨rfl, rfl⟩
    go_wp2_with fail
    refine (HT1.out _ (H1.out.below hb013) hb013.size s1 Hw1.out).mono ?_; rintro e w15 ⟨A15, c15, rfl, he15, hb15⟩
    have B515 := Lib.hid (B513.out.trans (hb15.mono B513.out.size))
    have Ho15 := Lib.hid (own_below Ho13.out hb15)
    have He15 := Lib.hid he15
    clear he15 hb15 hb013 Ho13 B513
    go_wp2_with fail
    refine (HC2.out w15 _ _ He15.out (Nat.le_refl _)).mono ?_; rintro e w16 ⟨v16, rfl, ho16, hb16⟩
    have B516 := Lib.hid (B515.out.trans (hb16.mono B515.out.size))
    have Ho16 := Lib.hid (own_below Ho15.out hb16)
    have HE := Lib.hid (eqInt64S_same _ _ _ _ L w16 (by rw [Hn.out]; exact Rd.of_own ho16) (by rw [Hn.out]; exact R5.out.below B516.out) (by rw [Hn.out]; omega))
    obtain ⟨_, A16, c16, rfl, _⟩ := Rd.of_own ho16
    clear ho16 hb16 Ho15 B515 He15
    go_wp2_with fail
    refine HE.out.mono ?_; rintro e w17 ⟨rfl, n17, rfl⟩
    have hb017 := hb05.trans ((below_drewN B516.out n17).mono hb05.size)
    have Ho17 := Lib.hid (Ho16.out.drewN n17)
    clear HE B516 Ho16
    go_wp2_with fail
    refine (heldInt64S_any _ _ 1 n _ (Rd.of_own Ho17.out) (by omega) (by omega)).mono ?_; rintro e w18 ⟨rfl, rfl⟩
    go_wp2_with fail
    go_ret
    exact ⟨rfl, hb017⟩
end Go.Proofs.Ytmlnaedeghpbbaa
