/- Merged texts: Jb7, Jb8, Jb9, Jb10, Jb11, Jb12, Jb13, Jb14, Jb15, Jb16. -/
import Derived.Test.YtalalegjeegocaaGLawPlans4
/- Jobs, part 7: the latest days. -/
namespace Go.Proofs.Ytalalegjeegocaa
open Go.RowKit Go.Joins

def ltP (nd : List Int) (s : Int) (F : Nat → Int) : Nat → Nat → Int
  | 0 => F
  | i + 1 => put (ltP nd s F i) (nd.getD i 0).toNat (min (ltP nd s F i (nd.getD i 0).toNat) s)
def stJ (xs : List Jb) (F : Nat → Int) (k : Nat) : Int := F k - (jg xs k).days
def ltR (xs : List Jb) (F : Nat → Int) (k : Nat) : Nat → Int := put (ltP (jg xs k).needs (stJ xs F k) F (jg xs k).needs.length) k (stJ xs F k)
def ltA (xs : List Jb) : Nat → Nat → Int
  | 0 => fun _ => allD xs xs.length
  | j + 1 => ltR xs (ltA xs j) (xs.length - 1 - j)
def late (xs : List Jb) : Nat → Int := ltA xs xs.length
theorem ltP_ge {nd : List Int} {s : Int} {F : Nat → Int} {k : Nat} (h : ∀ i, i < nd.length → (nd.getD i 0).toNat < k) : ∀ i, i ≤ nd.length → ∀ x, k ≤ x → ltP nd s F i x = F x
  | 0, _, _, _ => rfl
  | i + 1, hi, x, hx => by
    have := h i (by omega)
    show put _ _ _ x = _
    unfold put
    rw [if_neg (by omega)]
    exact ltP_ge h i (by omega) x hx
theorem ltP_bd {nd : List Int} {s lo : Int} {F : Nat → Int} (h : ∀ x, lo ≤ F x ∧ F x ≤ 400) (hs : lo ≤ s) : ∀ i x, lo ≤ ltP nd s F i x ∧ ltP nd s F i x ≤ 400
  | 0, x => h x
  | i + 1, x => by
    have h1 := ltP_bd (nd := nd) h hs i x
    have h2 := ltP_bd (nd := nd) h hs i (nd.getD i 0).toNat
    show lo ≤ put _ _ _ x ∧ put _ _ _ x ≤ 400
    unfold put
    by_cases e : x = (nd.getD i 0).toNat
    · rw [if_pos e]; omega
    · rw [if_neg e]; exact h1
theorem ltA_bd {xs : List Jb} (h : OkJ xs) : ∀ j, j ≤ xs.length → ∀ x, -(60 * (j : Int)) ≤ ltA xs j x ∧ ltA xs j x ≤ 400
  | 0, _, x => by
    have h1 := allD_bd h xs.length (Nat.le_refl _)
    have h2 := h.sum
    show -(60 * ((0 : Nat) : Int)) ≤ allD xs xs.length ∧ allD xs xs.length ≤ 400
    omega
  | j + 1, hj, x => by
    have h1 := ltA_bd h j (by omega)
    have h2 := h.days (xs.length - 1 - j) (by omega)
    have h3 := h1 (xs.length - 1 - j)
    have h4 : -(60 * ((j + 1 : Nat) : Int)) ≤ stJ xs (ltA xs j) (xs.length - 1 - j) := by unfold stJ; omega
    have h5 := ltP_bd (nd := (jg xs (xs.length - 1 - j)).needs) (s := stJ xs (ltA xs j) (xs.length - 1 - j)) (lo := -(60 * ((j + 1 : Nat) : Int))) (F := ltA xs j) (fun x => ⟨by have := (h1 x).1; omega, (h1 x).2⟩) h4 (jg xs (xs.length - 1 - j)).needs.length x
    show _ ≤ put _ _ _ x ∧ put _ _ _ x ≤ 400
    unfold put
    by_cases e : x = xs.length - 1 - j
    · rw [if_pos e]; refine ⟨h4, ?_⟩; unfold stJ; omega
    · rw [if_neg e]; exact h5
theorem late_bd {xs : List Jb} (h : OkJ xs) (x : Nat) : -1800 ≤ late xs x ∧ late xs x ≤ 400 := by
  have h1 := ltA_bd h xs.length (Nat.le_refl _) x
  have h2 := h.len
  unfold late
  omega
def filA (f g : Nat → Int) (k : Nat) : Nat → Int := fun x => if x < k then f x else g x
theorem filA_put (n : Nat) (f g : Nat → Int) (k : Nat) : tab n (put (filA f g k) k (f k)) = tab n (filA f g (k + 1)) := tab_congr fun x _ => by
  unfold put filA
  by_cases e : x = k
  · subst e; rw [if_pos rfl, if_pos (by omega)]
  · rw [if_neg e]
    by_cases h : x < k
    · rw [if_pos h, if_pos (by omega)]
    · rw [if_neg h, if_neg (by omega)]
theorem filA_zero (n : Nat) (f g : Nat → Int) : tab n g = tab n (filA f g 0) := tab_congr fun x _ => by unfold filA; rw [if_neg (by omega)]
theorem filA_all (n : Nat) (f g : Nat → Int) : tab n (filA f g n) = tab n f := tab_congr fun x h => by unfold filA; rw [if_pos h]
/-- the program's table: places up to k still lack their days -/
def gI (xs : List Jb) (k : Nat) (G : Nat → Int) : Nat → Int := fun x => if x < k then G x - (jg xs x).days else G x
theorem put_same (f : Nat → Int) (a : Nat) (y : Int) : put f a y a = y := by unfold put; rw [if_pos rfl]
theorem put_other (f : Nat → Int) {a x : Nat} (y : Int) (h : x ≠ a) : put f a y x = f x := by unfold put; rw [if_neg h]
theorem gI_lt {xs : List Jb} {k x : Nat} {G : Nat → Int} (h : x < k) : gI xs k G x = G x - (jg xs x).days := by unfold gI; rw [if_pos h]
theorem gI_ge {xs : List Jb} {k x : Nat} {G : Nat → Int} (h : ¬ x < k) : gI xs k G x = G x := by unfold gI; rw [if_neg h]
theorem gI_step {xs : List Jb} {k p : Nat} {G : Nat → Int} {s : Int} (n : Nat) (hp : p < k) : tab n (put (gI xs k G) p (min (G p - (jg xs p).days) (s - (jg xs p).days))) = tab n (gI xs k (put G p (min (G p) s))) := tab_congr fun x _ => by
  by_cases e : x = p
  · subst e; rw [put_same, gI_lt hp, put_same]; omega
  · rw [put_other _ _ e]
    by_cases h : x < k
    · rw [gI_lt h, gI_lt h, put_other _ _ e]
    · rw [gI_ge h, gI_ge h, put_other _ _ e]
theorem gI_row {xs : List Jb} {k : Nat} {G : Nat → Int} {s : Int} (n : Nat) (hs : G k - (jg xs k).days = s) : tab n (gI xs (k + 1) G) = tab n (gI xs k (put G k s)) := tab_congr fun x _ => by
  by_cases e : x = k
  · subst e; rw [gI_lt (by omega), gI_ge (by omega), put_same]; exact hs
  · by_cases h : x < k
    · rw [gI_lt (by omega), gI_lt h, put_other _ _ e]
    · rw [gI_ge (by omega), gI_ge h, put_other _ _ e]
/-- the row of a valid job's needs -/
theorem nd_lt {xs : List Jb} (h : OkJ xs) {k : Nat} (hk : k < xs.length) : ∀ i, i < (jg xs k).needs.length → ((jg xs k).needs.getD i 0).toNat < k := fun i hi => by
  obtain ⟨p, hp, he, _⟩ := nd_at h hk hi
  rw [he, Int.toNat_natCast]
  exact hp
set_option maxRecDepth 100000 in
set_option maxHeartbeats 3200000 in
theorem l22Late_any (B : Nat) (v : Value) (xs : List Jb) (w : World) (h : RdJ w B v xs) (hB : B ≤ w.heap.size) (hk : OkJ xs) (hz : szJ xs) :
    Calls Try.prog 71 #[v] w (RetTb xs.length (late xs) w) := by
  have HC := Lib.hid (l22Early_any B v xs w h hB hk hz)
  have H := Lib.hid h
  have HK := Lib.hid hk
  have HZ := Lib.hid hz
  have hl30 := hk.len
  have hab := allD_bd hk xs.length (Nat.le_refl _)
  obtain ⟨A, c, rfl⟩ := h.slice
  have hwn : IntKind.i64.wrap ((xs.length : Int) - 1) = (xs.length : Int) - 1 := IntWalk.i64_in _ (by omega)
  clear h hk hz
  go_enter Try.func71, Try.ntmps71
  go_wp2_with fail
  refine (HC.out).mono ?_; rintro e w2 ⟨v2, rfl, ho2, hb2⟩
  have Hb2 := Lib.hid hb2
  obtain ⟨A2, c2, rfl⟩ := own_sl ho2
  obtain ⟨w3, hmk, hon, hbn⟩ := mk_ints xs.length (by omega) w2
  rw [filA_zero xs.length (fun _ => allD xs xs.length)] at hon
  have Hon := Lib.hid hon
  have Hbn := Lib.hid (hb2.trans (hbn.mono hb2.size))
  have Hal := Lib.hid (show ∀ x, ltA xs 0 x = allD xs xs.length from fun _ => rfl)
  clear hb2 hon hbn HC ho2
  generalize allD xs xs.length = all at *
  go_wp2_with fail
  clear hmk
  go_loopw [21] (fun i wr => ∃ k : Nat, k ≤ xs.length ∧ i = .int .i64 (k : Int) ∧ wr.ownsRow w2.heap.size 2 1 (.slice (some ⟨w2.heap.size, 0, none⟩) xs.length xs.length) xs.length (tab xs.length (filA (fun _ => all) (fun _ => 0) k)) ∧ Below w.heap.size w wr) (fun i _ => xs.length - (intOf i).toNat)
  case atStart => exact ⟨0, Nat.zero_le _, rfl, Hon.out, Hbn.out⟩
  case round =>
    obtain ⟨k, hk, rfl, hown, hbl⟩ := hrel
    clear Hon Hbn
    by_cases hlt : k < xs.length
    · have hlt' : (k : Int) < (xs.length : Int) := by omega
      obtain ⟨n0, n1⟩ := own_cellI hown k hlt
      have hst := (hown.stored k (.int .i64 all)).1
      rw [tab_set, filA_put xs.length (fun _ => all)] at hst
      have Hst := Lib.hid hst
      have Hb4 := Lib.hid (hbl.setCell (p := ⟨w2.heap.size, k, none⟩) Hb2.out.size (.int .i64 all))
      clear hst hown hbl
      go_wp2_with fail
      go_roundw
      case rel => exact ⟨k + 1, by omega, by go_num, Hst.out, Hb4.out⟩
      case measure => first | (simp [intOf]; done) | (simp [intOf]; omega)
    · obtain rfl : k = xs.length := by omega
      have hlt' : ¬ ((xs.length : Int) < (xs.length : Int)) := by omega
      rw [filA_all, ← tab_congr (fun x _ => Hal.out x)] at hown
      have Hown := Lib.hid hown
      have Hbl := Lib.hid hbl
      clear hown hbl Hal
      go_wp2_with fail
      clear hwn
      go_loopw [7] (fun i wr => ∃ m j : Nat, m + j = xs.length ∧ i = .int .i64 ((m : Int) - 1) ∧ wr.ownsRow w2.heap.size 2 1 (.slice (some ⟨w2.heap.size, 0, none⟩) xs.length xs.length) xs.length (tab xs.length (ltA xs j)) ∧ Below w.heap.size w wr) (fun i _ => (intOf i + 1).toNat)
      case atStart => exact ⟨xs.length, 0, rfl, rfl, Hown.out, Hbl.out⟩
      case round =>
        clear Hown Hbl
        obtain ⟨m, j, hmj, rfl, hown, hbl⟩ := hrel
        by_cases hm : m = 0
        · subst hm
          obtain rfl : j = xs.length := by omega
          have hm0 : ¬ ((0 : Int) ≤ ((0 : Nat) : Int) - 1) := by omega
          have Hown := Lib.hid hown
          have Hbl := Lib.hid hbl
          clear hown hbl
          go_wp2_with fail
          go_ret
          exact ⟨_, rfl, ownsRow_le Hown.out Hb2.out.size, Hbl.out⟩
        · obtain ⟨k, rfl⟩ : ∃ k, m = k + 1 := ⟨m - 1, by omega⟩
          have ek : ((k + 1 : Nat) : Int) - 1 = (k : Int) := by omega
          rw [ek]
          have hkl : k < xs.length := by omega
          have hkl' : (k : Int) < (xs.length : Int) := by omega
          have hk0 : (0 : Int) ≤ (k : Int) := by omega
          obtain ⟨gb, ob, A', c', hA, hat⟩ := (H.out.below (hbl.mono hB)).at k hkl
          subst hA
          obtain ⟨hsz, hsn⟩ := HZ.out k hkl
          have y3 := hat.c3
          have t1 := hat.c1
          have hnd := hat.needs
          obtain ⟨n0, n1⟩ := own_cellI hown k hkl
          have hFb := ltA_bd HK.out j (by omega)
          have hFk := hFb k
          have hdk := HK.out.days k hkl
          have hws : IntKind.i64.wrap (ltA xs j k - (jg xs k).days) = stJ xs (ltA xs j) k := IntWalk.i64_in _ (by omega)
          have hsb : -1860 ≤ stJ xs (ltA xs j) k ∧ stJ xs (ltA xs j) k ≤ 400 := by unfold stJ; omega
          have HPb := Lib.hid (fun i x => ltP_bd (nd := (jg xs k).needs) (s := stJ xs (ltA xs j) k) (lo := -1860) (F := ltA xs j) (fun x => by have := hFb x; omega) hsb.1 i x)
          have HRl := Lib.hid (show ltA xs (j + 1) = put (ltP (jg xs k).needs (stJ xs (ltA xs j) k) (ltA xs j) (jg xs k).needs.length) k (stJ xs (ltA xs j) k) from by
            show ltR xs (ltA xs j) (xs.length - 1 - j) = _
            rw [show xs.length - 1 - j = k by omega]; rfl)
          have Hown := Lib.hid hown
          have Hbl := Lib.hid hbl
          have Hnd := Lib.hid (fun i hi => nd_at HK.out (k := k) (i := i) hkl hi)
          clear hown hbl hat hFb ek hm
          generalize stJ xs (ltA xs j) k = st at *
          generalize ltA xs j k = fk at *
          generalize (jg xs k).days = dk at *
          generalize hnd0 : (jg xs k).needs = nd at *
          have Hn0 := Lib.hid hnd0
          clear hnd0
          obtain ⟨nl, hnl⟩ : ∃ z, nd.length = z := ⟨_, rfl⟩
          have Hnl := Lib.hid hnl
          rw [hnl] at y3 hnd hsn HRl
          have HRa := Lib.hid hnd
          clear hnl hnd
          go_wp2_with fail
          go_quiet (fail)
          have HbQ := Lib.hid (below_drewN Hbl.out nq)
          have HoQ := Lib.hid (World.ownsRow.drewN Hown.out nq)
          generalize wr.drewN nq = wq at *
          clear Hbl Hown y3 t1 n0 n1 HRa
          go_wp2_with fail
          go_loopw [9] (fun i wr => ∃ i' : Nat, i' ≤ nl ∧ i = .int .i64 (i' : Int) ∧ wr.ownsRow w2.heap.size 2 1 (.slice (some ⟨w2.heap.size, 0, none⟩) xs.length xs.length) xs.length (tab xs.length (ltP nd st (ltA xs j) i')) ∧ Below w.heap.size w wr) (fun i _ => nl - (intOf i).toNat)
          case atStart => exact ⟨0, Nat.zero_le _, rfl, HoQ.out, HbQ.out⟩
          case round =>
            obtain ⟨i, hi, rfl, hown, hbl⟩ := hrel
            clear HoQ HbQ
            obtain ⟨gb', ob', A4, c4, hA4, hat⟩ := (H.out.below (hbl.mono hB)).at k hkl
            injection hA4 with hA4
            injection hA4 with e1 e2
            subst e1 e2
            have y3 := hat.c3
            have hnd := hat.needs
            rw [Hn0.out, Hnl.out] at y3 hnd
            by_cases hil : i < nl
            · have hil' : (i : Int) < (nl : Int) := by omega
              have hid : i < nd.length := by rw [Hnl.out]; exact hil
              obtain ⟨b2, o2, hA2, _, hcc⟩ := rdI_at hnd Hnl.out (by omega)
              subst hA2
              have q1 := hcc i hid
              obtain ⟨p, hp, hge, hne⟩ := Hnd.out i hid
              rw [hne] at q1
              have hpl : (p : Int) < (xs.length : Int) := by omega
              obtain ⟨n0, n1⟩ := own_cellI hown p (by omega)
              have hbp := HPb.out i p
              have HMx := Lib.hid (fun wx => l00Min_c (ltP nd st (ltA xs j) i p) st wx)
              have hst := (hown.stored p (.int .i64 (min (ltP nd st (ltA xs j) i p) st))).1
              have he : put (ltP nd st (ltA xs j) i) p (min (ltP nd st (ltA xs j) i p) st) = ltP nd st (ltA xs j) (i + 1) := by
                show _ = put _ _ _
                rw [hge, Int.toNat_natCast]
              rw [tab_set, he] at hst
              have Hst := Lib.hid hst
              have Hb4 := Lib.hid (hbl.setCell (p := ⟨w2.heap.size, p, none⟩) Hb2.out.size (.int .i64 (min (ltP nd st (ltA xs j) i p) st)))
              clear hst hown hbl he hge hne hcc hnd hat
              generalize ltP nd st (ltA xs j) i p = fp at *
              go_wp2_with fail
              refine (HMx.out _).mono ?_; rintro e w1 ⟨rfl, rfl⟩
              go_wp2_with fail
              go_roundw
              case rel => exact ⟨i + 1, by omega, by go_num, Hst.out, Hb4.out⟩
              case measure => first | (simp [intOf]; done) | (simp [intOf]; omega)
            · obtain rfl : nl = i := by omega
              have hil' : ¬ ((nl : Int) < (nl : Int)) := by omega
              obtain ⟨n0, n1⟩ := own_cellI hown k hkl
              have hst := (hown.stored k (.int .i64 st)).1
              rw [tab_set, ← HRl.out] at hst
              have Hst := Lib.hid hst
              have Hb4 := Lib.hid (hbl.setCell (p := ⟨w2.heap.size, k, none⟩) Hb2.out.size (.int .i64 st))
              have hwk : IntKind.i64.wrap ((k : Int) - 1) = (k : Int) - 1 := IntWalk.i64_in _ (by omega)
              have hbk := HPb.out nl k
              clear hst hown hbl hnd hat
              generalize ltP nd st (ltA xs j) nl k = fk2 at *
              go_wp2_with fail
              go_roundw
              case rel => exact ⟨k, j + 1, by omega, rfl, Hst.out, Hb4.out⟩
              case measure => first | (simp [intOf]; done) | (simp [intOf]; omega)
end Go.Proofs.Ytalalegjeegocaa
/- Jobs, part 8: the latest days, the program. -/
namespace Go.Proofs.Ytalalegjeegocaa
open Go.RowKit Go.Joins

set_option maxRecDepth 100000 in
set_option maxHeartbeats 3200000 in
theorem latest_any (B : Nat) (v : Value) (xs : List Jb) (w : World) (h : RdJ w B v xs) (hB : B ≤ w.heap.size) (hk : OkJ xs) (hz : szJ xs) :
    Calls Try.prog 37 #[v] w (RetTb xs.length (late xs) w) := by
  have HC := Lib.hid (daysN_any B v xs w h hB hk hz)
  have H := Lib.hid h
  have HK := Lib.hid hk
  have HZ := Lib.hid hz
  have hl30 := hk.len
  have hab := allD_bd hk xs.length (Nat.le_refl _)
  have hs4 := hk.sum
  obtain ⟨A, c, rfl⟩ := h.slice
  have hwn : IntKind.i64.wrap ((xs.length : Int) - 1) = (xs.length : Int) - 1 := IntWalk.i64_in _ (by omega)
  clear h hk hz
  go_enter Try.func37, Try.ntmps37
  go_wp2_with fail
  refine (HC.out).mono ?_; rintro e w2 ⟨rfl, hb2⟩
  have Hb2 := Lib.hid hb2
  obtain ⟨w3, hmk, hon, hbn⟩ := mk_ints xs.length (by omega) w2
  rw [filA_zero xs.length (fun x => allD xs xs.length - (jg xs x).days)] at hon
  have Hon := Lib.hid hon
  have Hbn := Lib.hid (hb2.trans (hbn.mono hb2.size))
  have Hal := Lib.hid (show ∀ x, ltA xs 0 x = allD xs xs.length from fun _ => rfl)
  clear hb2 hon hbn HC
  generalize allD xs xs.length = all at *
  go_wp2_with fail
  clear hmk
  go_loopw [17] (fun i wr => ∃ k : Nat, k ≤ xs.length ∧ i = .int .i64 (k : Int) ∧ wr.ownsRow w2.heap.size 2 1 (.slice (some ⟨w2.heap.size, 0, none⟩) xs.length xs.length) xs.length (tab xs.length (filA (fun x => all - (jg xs x).days) (fun _ => 0) k)) ∧ Below w.heap.size w wr) (fun i _ => xs.length - (intOf i).toNat)
  case atStart => exact ⟨0, Nat.zero_le _, rfl, Hon.out, Hbn.out⟩
  case round =>
    obtain ⟨k, hk, rfl, hown, hbl⟩ := hrel
    clear Hon Hbn
    by_cases hlt : k < xs.length
    · have hlt' : (k : Int) < (xs.length : Int) := by omega
      obtain ⟨gb, ob, A', c', hA, hat⟩ := (H.out.below (hbl.mono hB)).at k hlt
      subst hA
      have hdk := HK.out.days k hlt
      obtain ⟨_, p0, p1, p2, p3, _⟩ := hat
      have Hfp := Lib.hid (filA_put xs.length (fun x => all - (jg xs x).days) (fun _ => 0) k)
      obtain ⟨dk, hdk0⟩ : ∃ z, (jg xs k).days = z := ⟨_, rfl⟩
      rw [hdk0] at hdk p1
      have Hfp2 := Lib.hid (show tab xs.length (put (filA (fun x => all - (jg xs x).days) (fun _ => 0) k) k (all - dk)) = tab xs.length (filA (fun x => all - (jg xs x).days) (fun _ => 0) (k + 1)) from by rw [← hdk0]; exact Hfp.out)
      clear hdk0 Hfp
      generalize (jg xs k).nm = nm at *
      generalize (jg xs k).cost = cc at *
      generalize (jg xs k).needs.length = nl at *
      have hba := (Below.refl wr.heap.size wr).alloc (Nat.le_refl _) (.cells #[.string nm, .int .i64 dk, .int .i64 cc, .slice A' nl c'] 37)
      have hbl2 := hbl.trans (hba.mono hbl.size)
      have HCa := Lib.hid (heap_alloc_new wr (.cells #[.string nm, .int .i64 dk, .int .i64 cc, .slice A' nl c'] 37))
      have hown2 := own_below hown hba
      have hws : IntKind.i64.wrap (all - dk) = all - dk := IntWalk.i64_in _ (by omega)
      clear hba hown hbl
      go_upto_region 6 with (fail)
      generalize wr.alloc (.cells #[.string nm, .int .i64 dk, .int .i64 cc, .slice A' nl c'] 37) = wa at *
      generalize wr.heap.size = ga at *
      clear p0 p1 p2 p3
      obtain ⟨y0, y1, y2, y3⟩ := cells4 HCa.out
      obtain ⟨n0, n1⟩ := own_cellI hown2 k hlt
      have hst := (hown2.stored k (.int .i64 (all - dk))).1
      rw [tab_set, Hfp2.out] at hst
      have Hst := Lib.hid hst
      have Hb4 := Lib.hid (hbl2.setCell (p := ⟨w2.heap.size, k, none⟩) Hb2.out.size (.int .i64 (all - dk)))
      clear hst hown2 hbl2
      go_wp2_with fail
      go_roundw
      case rel => exact ⟨k + 1, by omega, by go_num, Hst.out, Hb4.out⟩
      case measure => first | (simp [intOf]; done) | (simp [intOf]; omega)
    · obtain rfl : k = xs.length := by omega
      have hlt' : ¬ ((xs.length : Int) < (xs.length : Int)) := by omega
      have e0 : tab xs.length (filA (fun x => all - (jg xs x).days) (fun _ => 0) xs.length) = tab xs.length (gI xs xs.length (ltA xs 0)) := tab_congr fun x hx => by
        rw [gI_lt hx, Hal.out]; unfold filA; rw [if_pos hx]
      rw [e0] at hown
      have Hown := Lib.hid hown
      have Hbl := Lib.hid hbl
      clear hown hbl Hal e0
      go_wp2_with fail
      clear hwn
      go_loopw [7] (fun i wr => ∃ m j : Nat, m + j = xs.length ∧ i = .int .i64 ((m : Int) - 1) ∧ wr.ownsRow w2.heap.size 2 1 (.slice (some ⟨w2.heap.size, 0, none⟩) xs.length xs.length) xs.length (tab xs.length (gI xs m (ltA xs j))) ∧ Below w.heap.size w wr) (fun i _ => (intOf i + 1).toNat)
      case atStart => exact ⟨xs.length, 0, rfl, rfl, Hown.out, Hbl.out⟩
      case round =>
        clear Hown Hbl
        obtain ⟨m, j, hmj, rfl, hown, hbl⟩ := hrel
        by_cases hm : m = 0
        · subst hm
          obtain rfl : j = xs.length := by omega
          have hm0 : ¬ ((0 : Int) ≤ ((0 : Nat) : Int) - 1) := by omega
          rw [tab_congr (fun x _ => gI_ge (show ¬ x < 0 by omega))] at hown
          have Hown := Lib.hid hown
          have Hbl := Lib.hid hbl
          clear hown hbl
          go_wp2_with fail
          go_ret
          exact ⟨_, rfl, ownsRow_le Hown.out Hb2.out.size, Hbl.out⟩
        · obtain ⟨k, rfl⟩ : ∃ k, m = k + 1 := ⟨m - 1, by omega⟩
          have ek : ((k + 1 : Nat) : Int) - 1 = (k : Int) := by omega
          rw [ek]
          have hkl : k < xs.length := by omega
          have hkl' : (k : Int) < (xs.length : Int) := by omega
          have hk0 : (0 : Int) ≤ (k : Int) := by omega
          obtain ⟨gb, ob, A', c', hA, hat0⟩ := H.out.at k hkl
          subst hA
          have HA0 := Lib.hid hat0
          have hat := hat0.below (hbl.mono hB)
          clear hat0
          obtain ⟨hsz, hsn⟩ := HZ.out k hkl
          have y3 := hat.c3
          have hnd := hat.needs
          have hFb := ltA_bd HK.out j (by omega)
          have hFk := hFb k
          have hdk := HK.out.days k hkl
          have hsb : -1860 ≤ stJ xs (ltA xs j) k ∧ stJ xs (ltA xs j) k ≤ 400 := by unfold stJ; omega
          have HPb := Lib.hid (fun i x => ltP_bd (nd := (jg xs k).needs) (s := stJ xs (ltA xs j) k) (lo := -1860) (F := ltA xs j) (fun x => by have := hFb x; omega) hsb.1 i x)
          have HPk := Lib.hid (fun i hi => (ltP_ge (nd := (jg xs k).needs) (s := stJ xs (ltA xs j) k) (F := ltA xs j) (nd_lt HK.out hkl) i hi k (Nat.le_refl _)))
          have Hsk := Lib.hid (show ltA xs j k - (jg xs k).days = stJ xs (ltA xs j) k from rfl)
          have HRl := Lib.hid (show ltA xs (j + 1) = put (ltP (jg xs k).needs (stJ xs (ltA xs j) k) (ltA xs j) (jg xs k).needs.length) k (stJ xs (ltA xs j) k) from by
            show ltR xs (ltA xs j) (xs.length - 1 - j) = _
            rw [show xs.length - 1 - j = k by omega]; rfl)
          have Hown := Lib.hid hown
          have Hbl := Lib.hid hbl
          have Hnd := Lib.hid (fun i hi => nd_at HK.out (k := k) (i := i) hkl hi)
          clear hown hbl hat hFb ek hm hFk
          generalize stJ xs (ltA xs j) k = st at *
          generalize hnd0 : (jg xs k).needs = nd at *
          have Hn0 := Lib.hid hnd0
          clear hnd0
          obtain ⟨nl, hnl⟩ : ∃ z, nd.length = z := ⟨_, rfl⟩
          have Hnl := Lib.hid hnl
          rw [hnl] at y3 hnd hsn HRl HPk
          have HRa := Lib.hid hnd
          clear hnl hnd
          go_wp2_with fail
          clear y3
          go_loopw [43] (fun i wr => ∃ i' : Nat, i' ≤ nl ∧ i = .int .i64 (i' : Int) ∧ wr.ownsRow w2.heap.size 2 1 (.slice (some ⟨w2.heap.size, 0, none⟩) xs.length xs.length) xs.length (tab xs.length (gI xs (k + 1) (ltP nd st (ltA xs j) i'))) ∧ Below w.heap.size w wr) (fun i _ => nl - (intOf i).toNat)
          case atStart => exact ⟨0, Nat.zero_le _, rfl, Hown.out, Hbl.out⟩
          case round =>
            clear HRa Hown Hbl
            obtain ⟨i, hi, rfl, hown, hbl⟩ := hrel
            have hat := HA0.out.below (hbl.mono hB)
            have hnd := hat.needs
            rw [Hn0.out, Hnl.out] at hnd
            by_cases hil : i < nl
            · have hil' : (i : Int) < (nl : Int) := by omega
              have hid : i < nd.length := by rw [Hnl.out]; exact hil
              obtain ⟨b2, o2, hA2, _, hcc⟩ := rdI_at hnd Hnl.out (by omega)
              subst hA2
              have q1 := hcc i hid
              obtain ⟨p, hp, hge, hne⟩ := Hnd.out i hid
              rw [hne] at q1
              have hpl : (p : Int) < (xs.length : Int) := by omega
              obtain ⟨gb', ob', A4, c4, hA4, hat4⟩ := (H.out.below (hbl.mono hB)).at p (by omega)
              injection hA4 with hA4
              injection hA4 with e1 e2
              subst e1 e2
              have t1 := hat4.c1
              have hdp := HK.out.days p (by omega)
              obtain ⟨n0, n1⟩ := own_cellI hown p (by omega)
              obtain ⟨k0, k1⟩ := own_cellI hown k hkl
              rw [gI_lt (by omega)] at n0 k0
              rw [HPk.out i (by omega), Hsk.out] at k0
              have hbp := HPb.out i p
              have hws : IntKind.i64.wrap (st - (jg xs p).days) = st - (jg xs p).days := IntWalk.i64_in _ (by omega)
              have hV : min (ltP nd st (ltA xs j) i p - (jg xs p).days) (st - (jg xs p).days) = if st < ltP nd st (ltA xs j) i p then st - (jg xs p).days else ltP nd st (ltA xs j) i p - (jg xs p).days := by split <;> omega
              have hst := (hown.stored p (.int .i64 (min (ltP nd st (ltA xs j) i p - (jg xs p).days) (st - (jg xs p).days)))).1
              have he : put (ltP nd st (ltA xs j) i) p (min (ltP nd st (ltA xs j) i p) st) = ltP nd st (ltA xs j) (i + 1) := by
                show _ = put _ _ _
                rw [hge, Int.toNat_natCast]
              rw [tab_set, gI_step xs.length (show p < k + 1 by omega), he] at hst
              have hb4 := (hbl.setCell (p := ⟨w2.heap.size, p, none⟩) Hb2.out.size (.int .i64 (min (ltP nd st (ltA xs j) i p - (jg xs p).days) (st - (jg xs p).days)))).drew
              rw [hV] at hst hb4
              clear hV
              obtain ⟨wx, hwx⟩ : ∃ z, (wr.setCell ⟨w2.heap.size, p, none⟩ (.int .i64 (if st < ltP nd st (ltA xs j) i p then st - (jg xs p).days else ltP nd st (ltA xs j) i p - (jg xs p).days))).drew = z := ⟨_, rfl⟩
              have hst2 := hst.drew
              rw [hwx] at hst2 hb4
              have Hst := Lib.hid hst2
              have Hb4 := Lib.hid hb4
              clear hst hst2 hb4 hown hbl he hge hne hcc hnd hat hat4
              generalize ltP nd st (ltA xs j) i p = fp at *
              generalize (jg xs p).days = dp at *
              go_wp2_with fail
              go_region
              go_wp2_with fail
              go_roundw
              case rel => exact ⟨i + 1, by omega, by go_num, Hst.out, Hb4.out⟩
              case measure => first | (simp [intOf]; done) | (simp [intOf]; omega)
            · obtain rfl : nl = i := by omega
              have hil' : ¬ ((nl : Int) < (nl : Int)) := by omega
              rw [gI_row xs.length (show ltP nd st (ltA xs j) nl k - (jg xs k).days = st from by rw [HPk.out nl (by omega)]; exact Hsk.out), ← HRl.out] at hown
              have Hown := Lib.hid hown
              have Hbl := Lib.hid hbl
              have hwk : IntKind.i64.wrap ((k : Int) - 1) = (k : Int) - 1 := IntWalk.i64_in _ (by omega)
              clear hown hbl hnd hat
              go_wp2_with fail
              go_roundw
              case rel => exact ⟨k, j + 1, by omega, rfl, Hown.out, Hbl.out⟩
              case measure => first | (simp [intOf]; done) | (simp [intOf]; omega)
end Go.Proofs.Ytalalegjeegocaa
/- Jobs, part 9: jobs that can begin, workers that are busy. -/
namespace Go.Proofs.Ytalalegjeegocaa
open Go.RowKit Go.Joins

/-- job p is done at a day -/
def doneB (xs : List Jb) (S : Nat → Int) (day : Int) (p : Nat) : Bool := decide (0 ≤ S p) && decide (S p + (jg xs p).days ≤ day)
def rdyB (xs : List Jb) (S : Nat → Int) (k : Nat) (day : Int) : Bool := allN (jg xs k).needs.length fun i => doneB xs S day ((jg xs k).needs.getD i 0).toNat
def bsB (xs : List Jb) (S : Nat → Int) (day : Int) (p : Nat) : Bool := decide (0 ≤ S p) && (decide (S p ≤ day) && decide (day < S p + (jg xs p).days))
def bsy (xs : List Jb) (S : Nat → Int) (day : Int) : Nat → Nat
  | 0 => 0
  | k + 1 => bsy xs S day k + (if bsB xs S day k = true then 1 else 0)
theorem bsy_le (xs : List Jb) (S : Nat → Int) (day : Int) : ∀ k, bsy xs S day k ≤ k
  | 0 => Nat.le_refl _
  | k + 1 => by
    have := bsy_le xs S day k
    show bsy xs S day k + (if _ then 1 else 0) ≤ k + 1
    split <;> omega
theorem doneB_no1 {xs : List Jb} {S : Nat → Int} {day : Int} {p : Nat} (h : S p < 0) : doneB xs S day p = false := by unfold doneB; rw [decide_eq_false (by omega)]; rfl
theorem doneB_no2 {xs : List Jb} {S : Nat → Int} {day : Int} {p : Nat} (h : day < S p + (jg xs p).days) : doneB xs S day p = false := by unfold doneB; rw [decide_eq_false (p := S p + (jg xs p).days ≤ day) (by omega), Bool.and_false]
theorem doneB_yes {xs : List Jb} {S : Nat → Int} {day : Int} {p : Nat} (h1 : 0 ≤ S p) (h2 : S p + (jg xs p).days ≤ day) : doneB xs S day p = true := by unfold doneB; rw [decide_eq_true h1, decide_eq_true h2]; rfl
theorem bsB_no1 {xs : List Jb} {S : Nat → Int} {day : Int} {p : Nat} (h : S p < 0) : bsB xs S day p = false := by unfold bsB; rw [decide_eq_false (by omega)]; rfl
theorem bsB_no2 {xs : List Jb} {S : Nat → Int} {day : Int} {p : Nat} (h : day < S p) : bsB xs S day p = false := by unfold bsB; rw [decide_eq_false (p := S p ≤ day) (by omega), Bool.false_and, Bool.and_false]
theorem bsB_no3 {xs : List Jb} {S : Nat → Int} {day : Int} {p : Nat} (h : S p + (jg xs p).days ≤ day) : bsB xs S day p = false := by unfold bsB; rw [decide_eq_false (p := day < S p + (jg xs p).days) (by omega), Bool.and_false, Bool.and_false]
theorem bsB_yes {xs : List Jb} {S : Nat → Int} {day : Int} {p : Nat} (h1 : 0 ≤ S p) (h2 : S p ≤ day) (h3 : day < S p + (jg xs p).days) : bsB xs S day p = true := by unfold bsB; rw [decide_eq_true h1, decide_eq_true h2, decide_eq_true h3]; rfl
theorem bsy_no {xs : List Jb} {S : Nat → Int} {day : Int} {k : Nat} (h : bsB xs S day k = false) : bsy xs S day (k + 1) = bsy xs S day k := by show _ + (if _ then 1 else 0) = _; rw [h]; rfl
theorem bsy_yes {xs : List Jb} {S : Nat → Int} {day : Int} {k : Nat} (h : bsB xs S day k = true) : bsy xs S day (k + 1) = bsy xs S day k + 1 := by show _ + (if _ then 1 else 0) = _; rw [h]; rfl
def Sbd (n : Nat) (S : Nat → Int) : Prop := ∀ i, i < n → -1 ≤ S i ∧ S i ≤ 400
set_option maxRecDepth 100000 in
set_option maxHeartbeats 3200000 in
theorem areDone_any (B : Nat) (v vs vn : Value) (xs : List Jb) (S : Nat → Int) (k : Nat) (day : Int) (w : World) (h : RdJ w B v xs) (hs : Rd w B vs xs.length 1 (tab xs.length S)) (hn : Rd w B vn (jg xs k).needs.length 1 (intV (jg xs k).needs)) (hk : OkJ xs) (hkl : k < xs.length) (hz : szJ xs) (hS : Sbd xs.length S) :
    Calls Try.prog 45 #[v, vs, vn, .int .i64 day] w fun e w' => e = .returned (.bool (rdyB xs S k day)) ∧ ∃ q, w' = w.drewN q := by
  have H := Lib.hid h
  have HK := Lib.hid hk
  have HR := Lib.hid hs
  have HN := Lib.hid hn
  have HS := Lib.hid hS
  obtain ⟨_, hsn⟩ := hz k hkl
  have hl30 := hk.len
  obtain ⟨A, c, rfl⟩ := h.slice
  obtain ⟨A2, c2, rfl⟩ := rd_sl hs
  obtain ⟨A3, c3, rfl⟩ := rd_sl hn
  have Hnd := Lib.hid (fun i hi => nd_at hk (k := k) (i := i) hkl hi)
  have Hr := Lib.hid (show rdyB xs S k day = allN (jg xs k).needs.length fun i => doneB xs S day ((jg xs k).needs.getD i 0).toNat from rfl)
  generalize rdyB xs S k day = r at *
  generalize (jg xs k).needs = nd at *
  obtain ⟨nl, hnl⟩ : ∃ z, nd.length = z := ⟨_, rfl⟩
  have Hnl := Lib.hid hnl
  rw [hnl] at HN hsn Hr ⊢
  clear h hk hz hs hn hS hnl
  go_enter Try.func45, Try.ntmps45
  go_wp2_with fail
  go_loopw [13] (fun x wr => ∃ (i q : Nat), i ≤ nl ∧ x = .int .i64 (i : Int) ∧ allN i (fun i => doneB xs S day (nd.getD i 0).toNat) = true ∧ wr = w.drewN q) (fun x _ => nl - (intOf x).toNat)
  case atStart => exact ⟨0, 0, Nat.zero_le _, rfl, rfl, rfl⟩
  case round =>
    obtain ⟨i, q, hi, rfl, hall, hwr⟩ := hrel
    have Hall := Lib.hid hall
    have Hwr := Lib.hid hwr
    have hbq : Below B w wr := by rw [hwr]; exact below_drewN (Below.refl _ _) q
    have hrn : Rd wr B (.slice A3 nl c3) nl 1 (intV nd) := by rw [hwr]; exact HN.out
    clear hall hwr
    by_cases hil : i < nl
    · have hil' : (i : Int) < (nl : Int) := by omega
      have hid : i < nd.length := by rw [Hnl.out]; exact hil
      obtain ⟨b2, o2, hA2, _, hcc⟩ := rdI_at hrn Hnl.out (by omega)
      subst hA2
      have q1 := hcc i hid
      obtain ⟨p, hp, hge, hne⟩ := Hnd.out i hid
      rw [hne] at q1
      have hpl : (p : Int) < (xs.length : Int) := by omega
      obtain ⟨gb, ob, A4, c4, hA4, hat⟩ := (H.out.below hbq).at p (by omega)
      subst hA4
      have t1 := hat.c1
      obtain ⟨b1, o1, hA5, _, hcs⟩ := rdF_all (RdF_below HR.out hbq) (show 0 < xs.length by omega)
      subst hA5
      have s1 := hcs p (by omega)
      have hsb := HS.out p (by omega)
      have hdb := HK.out.days p (by omega)
      have Hbad := Lib.hid (fun (hb : doneB xs S day p = false) => (show r = false from by rw [Hr.out]; exact allN_bad i hil (by rw [hge, Int.toNat_natCast]; exact hb)))
      have Hok := Lib.hid (fun (hb : doneB xs S day p = true) => allN_step Hall.out (show (fun i => doneB xs S day (nd.getD i 0).toNat) i = true from by show doneB _ _ _ _ = true; rw [hge, Int.toNat_natCast]; exact hb))
      have hws : IntKind.i64.wrap (S p + (jg xs p).days) = S p + (jg xs p).days := IntWalk.i64_in _ (by omega)
      clear hat hcs hcc hge hne hrn
      by_cases c1 : S p < 0
      · have Hrr := Lib.hid (Hbad.out (doneB_no1 c1))
        clear Hbad Hok
        generalize (jg xs p).days = dp at *
        generalize S p = sp at *
        go_wp2_with fail
        go_quiet (fail)
        go_wp2_with fail
        go_ret
        exact ⟨ret_bool Hrr.out.symm, q + nq, by rw [Hwr.out]; exact World.drewN_drewN _ _ _⟩
      · have hc1 : decide (S p < 0) = false := by rw [decide_eq_false_iff_not]; exact c1
        by_cases c2 : day < S p + (jg xs p).days
        · have Hrr := Lib.hid (Hbad.out (doneB_no2 c2))
          clear Hbad Hok c1
          generalize (jg xs p).days = dp at *
          generalize S p = sp at *
          go_wp2_with fail
          go_quiet (fail)
          go_wp2_with fail
          go_ret
          exact ⟨ret_bool Hrr.out.symm, q + nq, by rw [Hwr.out]; exact World.drewN_drewN _ _ _⟩
        · have hc2 : decide (day < S p + (jg xs p).days) = false := by rw [decide_eq_false_iff_not]; exact c2
          have Hst := Lib.hid (Hok.out (doneB_yes (by omega) (by omega)))
          clear Hbad Hok c1 c2
          generalize (jg xs p).days = dp at *
          generalize S p = sp at *
          go_wp2_with fail
          go_quiet (fail)
          go_wp2_with fail
          go_roundw
          case rel => exact ⟨i + 1, q + nq, by omega, by go_num, Hst.out, by rw [Hwr.out]; exact World.drewN_drewN _ _ _⟩
          case measure => first | (simp [intOf]; done) | (simp [intOf]; omega)
    · obtain rfl : nl = i := by omega
      have hil' : ¬ ((nl : Int) < (nl : Int)) := by omega
      have Hrr := Lib.hid (show r = true by rw [Hr.out]; exact Hall.out)
      go_wp2_with fail
      go_ret
      exact ⟨ret_bool Hrr.out.symm, q, Hwr.out⟩
set_option maxRecDepth 100000 in
set_option maxHeartbeats 3200000 in
theorem Ready_any (B : Nat) (v vs : Value) (xs : List Jb) (S : Nat → Int) (k : Nat) (day : Int) (w : World) (h : RdJ w B v xs) (hs : Rd w B vs xs.length 1 (tab xs.length S)) (hk : OkJ xs) (hkl : k < xs.length) (hz : szJ xs) (hS : Sbd xs.length S) :
    Calls Try.prog 47 #[v, vs, .int .i64 (k : Int), .int .i64 day] w fun e w' => e = .returned (.bool (rdyB xs S k day)) ∧ ∃ q, w' = w.drewN q := by
  have H := Lib.hid h
  have HK := Lib.hid hk
  have HR := Lib.hid hs
  have HS := Lib.hid hS
  obtain ⟨_, hsn⟩ := hz k hkl
  have hl30 := hk.len
  obtain ⟨A, c, rfl⟩ := h.slice
  obtain ⟨A2, c2, rfl⟩ := rd_sl hs
  obtain ⟨gk, ok, A3, c3, rfl, hatk⟩ := h.at k hkl
  have HN := Lib.hid hatk.needs
  have HY := Lib.hid hatk.c3
  have hkl' : (k : Int) < (xs.length : Int) := by omega
  clear hatk
  have Hnd := Lib.hid (fun i hi => nd_at hk (k := k) (i := i) hkl hi)
  have Hr := Lib.hid (show rdyB xs S k day = allN (jg xs k).needs.length fun i => doneB xs S day ((jg xs k).needs.getD i 0).toNat from rfl)
  generalize rdyB xs S k day = r at *
  generalize (jg xs k).needs = nd at *
  obtain ⟨nl, hnl⟩ : ∃ z, nd.length = z := ⟨_, rfl⟩
  have Hnl := Lib.hid hnl
  rw [hnl] at HN hsn Hr HY
  clear h hk hz hs hS hnl
  go_enter Try.func47, Try.ntmps47
  go_wp2_with fail
  go_loopw [9] (fun x wr => ∃ (i q : Nat), i ≤ nl ∧ x = .int .i64 (i : Int) ∧ allN i (fun i => doneB xs S day (nd.getD i 0).toNat) = true ∧ wr = w.drewN q) (fun x _ => nl - (intOf x).toNat)
  case atStart => exact ⟨0, 0, Nat.zero_le _, rfl, rfl, rfl⟩
  case round =>
    obtain ⟨i, q, hi, rfl, hall, hwr⟩ := hrel
    have Hall := Lib.hid hall
    have Hwr := Lib.hid hwr
    have hbq : Below B w wr := by rw [hwr]; exact below_drewN (Below.refl _ _) q
    have y3 : wr.cell? ⟨gk, ok + k * 4 + 3, none⟩ = some (.slice A3 nl c3) := by rw [hwr]; exact HY.out
    have hrn : Rd wr B (.slice A3 nl c3) nl 1 (intV nd) := by rw [hwr]; exact HN.out
    clear hall hwr
    by_cases hil : i < nl
    · have hil' : (i : Int) < (nl : Int) := by omega
      have hid : i < nd.length := by rw [Hnl.out]; exact hil
      obtain ⟨b2, o2, hA2, _, hcc⟩ := rdI_at hrn Hnl.out (by omega)
      subst hA2
      have q1 := hcc i hid
      obtain ⟨p, hp, hge, hne⟩ := Hnd.out i hid
      rw [hne] at q1
      have hpl : (p : Int) < (xs.length : Int) := by omega
      obtain ⟨gb, ob, A4, c4, hA4, hat⟩ := (H.out.below hbq).at p (by omega)
      injection hA4 with hA4
      injection hA4 with e1 e2
      subst e1 e2
      have t1 := hat.c1
      obtain ⟨b1, o1, hA5, _, hcs⟩ := rdF_all (RdF_below HR.out hbq) (show 0 < xs.length by omega)
      subst hA5
      have s1 := hcs p (by omega)
      have hsb := HS.out p (by omega)
      have hdb := HK.out.days p (by omega)
      have Hbad := Lib.hid (fun (hb : doneB xs S day p = false) => (show r = false from by rw [Hr.out]; exact allN_bad i hil (by rw [hge, Int.toNat_natCast]; exact hb)))
      have Hok := Lib.hid (fun (hb : doneB xs S day p = true) => allN_step Hall.out (show (fun i => doneB xs S day (nd.getD i 0).toNat) i = true from by show doneB _ _ _ _ = true; rw [hge, Int.toNat_natCast]; exact hb))
      have hws : IntKind.i64.wrap (S p + (jg xs p).days) = S p + (jg xs p).days := IntWalk.i64_in _ (by omega)
      clear hat hcs hcc hge hne hrn
      by_cases c1 : S p < 0
      · have Hrr := Lib.hid (Hbad.out (doneB_no1 c1))
        clear Hbad Hok
        generalize (jg xs p).days = dp at *
        generalize S p = sp at *
        go_wp2_with fail
        go_quiet (fail)
        go_wp2_with fail
        go_ret
        exact ⟨ret_bool Hrr.out.symm, q + nq, by rw [Hwr.out]; exact World.drewN_drewN _ _ _⟩
      · have hc1 : decide (S p < 0) = false := by rw [decide_eq_false_iff_not]; exact c1
        by_cases c2 : day < S p + (jg xs p).days
        · have Hrr := Lib.hid (Hbad.out (doneB_no2 c2))
          clear Hbad Hok c1
          generalize (jg xs p).days = dp at *
          generalize S p = sp at *
          go_wp2_with fail
          go_quiet (fail)
          go_wp2_with fail
          go_ret
          exact ⟨ret_bool Hrr.out.symm, q + nq, by rw [Hwr.out]; exact World.drewN_drewN _ _ _⟩
        · have hc2 : decide (day < S p + (jg xs p).days) = false := by rw [decide_eq_false_iff_not]; exact c2
          have Hst := Lib.hid (Hok.out (doneB_yes (by omega) (by omega)))
          clear Hbad Hok c1 c2
          generalize (jg xs p).days = dp at *
          generalize S p = sp at *
          go_wp2_with fail
          go_quiet (fail)
          go_wp2_with fail
          go_roundw
          case rel => exact ⟨i + 1, q + nq, by omega, by go_num, Hst.out, by rw [Hwr.out]; exact World.drewN_drewN _ _ _⟩
          case measure => first | (simp [intOf]; done) | (simp [intOf]; omega)
    · obtain rfl : nl = i := by omega
      have hil' : ¬ ((nl : Int) < (nl : Int)) := by omega
      have Hrr := Lib.hid (show r = true by rw [Hr.out]; exact Hall.out)
      go_wp2_with fail
      go_ret
      exact ⟨ret_bool Hrr.out.symm, q, Hwr.out⟩
end Go.Proofs.Ytalalegjeegocaa
/- Jobs, part 10: workers that are busy. -/
namespace Go.Proofs.Ytalalegjeegocaa
open Go.RowKit Go.Joins

theorem bsB_in {xs : List Jb} {S : Nat → Int} {day : Int} {p : Nat} (h : 0 ≤ S p) : bsB xs S day p = inB day (S p) (S p + (jg xs p).days - 1) := by
  unfold bsB inB
  rw [decide_eq_true h, Bool.true_and]
  congr 1
  rw [Bool.eq_iff_iff, decide_eq_true_iff, decide_eq_true_iff]
  omega
set_option maxRecDepth 100000 in
set_option maxHeartbeats 3200000 in
theorem Busy_any (B : Nat) (v vs : Value) (xs : List Jb) (S : Nat → Int) (day : Int) (w : World) (h : RdJ w B v xs) (hs : Rd w B vs xs.length 1 (tab xs.length S)) (hk : OkJ xs) (hS : Sbd xs.length S) :
    Calls Try.prog 48 #[v, vs, .int .i64 day] w fun e w' => e = .returned (.int .i64 (bsy xs S day xs.length : Int)) ∧ ∃ q, w' = w.drewN q := by
  have H := Lib.hid h
  have HK := Lib.hid hk
  have HR := Lib.hid hs
  have HS := Lib.hid hS
  have hl30 := hk.len
  obtain ⟨A, c, rfl⟩ := h.slice
  obtain ⟨A2, c2, rfl⟩ := rd_sl hs
  clear h hk hs hS
  go_enter Try.func48, Try.ntmps48
  go_wp2_with fail
  go_loopw [7, 8] (fun r x wr => ∃ (i q : Nat), i ≤ xs.length ∧ x = .int .i64 (i : Int) ∧ r = .int .i64 (bsy xs S day i : Int) ∧ wr = w.drewN q) (fun _ x _ => xs.length - (intOf x).toNat)
  case atStart => exact ⟨0, 0, Nat.zero_le _, rfl, rfl, rfl⟩
  case round =>
    obtain ⟨i, q, hi, rfl, rfl, hwr⟩ := hrel
    have Hwr := Lib.hid hwr
    have hbq : Below B w wr := by rw [hwr]; exact below_drewN (Below.refl _ _) q
    clear hwr
    by_cases hil : i < xs.length
    · have hil' : (i : Int) < (xs.length : Int) := by omega
      obtain ⟨gb, ob, A4, c4, hA4, hat⟩ := (H.out.below hbq).at i hil
      subst hA4
      obtain ⟨b1, o1, hA5, hb5, hcs⟩ := rdF_all (RdF_below HR.out hbq) (show 0 < xs.length by omega)
      subst hA5
      have s1 := hcs i hil
      have hsb := HS.out i hil
      have hdb := HK.out.days i hil
      have hbi := bsy_le xs S day i
      have t1 := hat.c1
      have hws : IntKind.i64.wrap (S i + (jg xs i).days) = S i + (jg xs i).days := IntWalk.i64_in _ (by omega)
      have hws1 : IntKind.i64.wrap (S i + (jg xs i).days - 1) = S i + (jg xs i).days - 1 := IntWalk.i64_in _ (by omega)
      have HX := Lib.hid (fun wx => flipQ (l00In_any day (S i) (S i + (jg xs i).days - 1) wx))
      have hwc : IntKind.i64.wrap ((bsy xs S day i : Int) + 1) = (bsy xs S day i : Int) + 1 := IntWalk.i64_in _ (by omega)
      clear hcs hat
      by_cases c1 : S i < 0
      · have Hst := Lib.hid (bsy_no (bsB_no1 (xs := xs) (day := day) c1))
        have hc1 : decide (0 ≤ S i) = false := by rw [decide_eq_false_iff_not]; omega
        clear HX c1
        generalize (jg xs i).days = dp at *
        generalize S i = sp at *
        go_wp2_with fail
        go_quiet (fail)
        go_wp2_with fail
        go_roundw
        case rel => exact ⟨i + 1, q + nq, by omega, by go_num, by rw [Hst.out], by rw [Hwr.out]; exact World.drewN_drewN _ _ _⟩
        case measure => first | (simp [intOf]; done) | (simp [intOf]; omega)
      · have hc1 : 0 ≤ S i := by omega
        have hin := bsB_in (xs := xs) (day := day) hc1
        cases hb : inB day (S i) (S i + (jg xs i).days - 1) with
        | false =>
          have Hst := Lib.hid (bsy_no (hin.trans hb))
          rw [hb] at HX
          clear c1 hin hb
          generalize (jg xs i).days = dp at *
          generalize S i = sp at *
          go_wp2_with fail
          go_quiet ((go_at_call 58; exact Calls.quiet_of_same (HX.out _)))
          go_wp2_with fail
          go_roundw
          case rel => exact ⟨i + 1, q + nq, by omega, by go_num, by rw [Hst.out], by rw [Hwr.out]; exact World.drewN_drewN _ _ _⟩
          case measure => first | (simp [intOf]; done) | (simp [intOf]; omega)
        | true =>
          have Hst := Lib.hid (bsy_yes (hin.trans hb))
          rw [hb] at HX
          clear c1 hin hb
          generalize (jg xs i).days = dp at *
          generalize S i = sp at *
          go_wp2_with fail
          go_quiet ((go_at_call 58; exact Calls.quiet_of_same (HX.out _)))
          go_wp2_with fail
          go_roundw
          case rel => exact ⟨i + 1, q + nq, by omega, by go_num, by rw [Hst.out]; go_num, by rw [Hwr.out]; exact World.drewN_drewN _ _ _⟩
          case measure => first | (simp [intOf]; done) | (simp [intOf]; omega)
    · obtain rfl : i = xs.length := by omega
      have hil' : ¬ ((xs.length : Int) < (xs.length : Int)) := by omega
      go_wp2_with fail
      go_ret
      exact ⟨rfl, q, Hwr.out⟩
set_option maxRecDepth 100000 in
set_option maxHeartbeats 3200000 in
theorem running_any (B : Nat) (v vs : Value) (xs : List Jb) (S : Nat → Int) (day : Int) (w : World) (h : RdJ w B v xs) (hB : B ≤ w.heap.size) (hs : Rd w B vs xs.length 1 (tab xs.length S)) (hk : OkJ xs) (hS : Sbd xs.length S) :
    Calls Try.prog 38 #[v, vs, .int .i64 day] w fun e w' => e = .returned (.int .i64 (bsy xs S day xs.length : Int)) ∧ Below w.heap.size w w' := by
  have H := Lib.hid h
  have HK := Lib.hid hk
  have HR := Lib.hid hs
  have HS := Lib.hid hS
  have hl30 := hk.len
  obtain ⟨A, c, rfl⟩ := h.slice
  obtain ⟨A2, c2, rfl⟩ := rd_sl hs
  clear h hk hs hS
  go_enter Try.func38, Try.ntmps38
  go_wp2_with fail
  go_loopw [7, 12] (fun r x wr => ∃ (i : Nat), i ≤ xs.length ∧ x = .int .i64 (i : Int) ∧ r = .int .i64 (bsy xs S day i : Int) ∧ Below w.heap.size w wr) (fun _ x _ => xs.length - (intOf x).toNat)
  case atStart => exact ⟨0, Nat.zero_le _, rfl, rfl, Below.refl _ _⟩
  case round =>
    obtain ⟨i, hi, rfl, rfl, hbl⟩ := hrel
    have Hbl := Lib.hid hbl
    have hsz := hbl.size
    clear hbl
    by_cases hil : i < xs.length
    · have hil' : (i : Int) < (xs.length : Int) := by omega
      obtain ⟨gb, ob, A4, c4, hA4, hat⟩ := (H.out.below (Hbl.out.mono hB)).at i hil
      subst hA4
      have hsb := HS.out i hil
      have hdb := HK.out.days i hil
      have hbi := bsy_le xs S day i
      obtain ⟨_, p0, p1, p2, p3, _⟩ := hat
      have hws : IntKind.i64.wrap (S i + (jg xs i).days) = S i + (jg xs i).days := IntWalk.i64_in _ (by omega)
      have hwc : IntKind.i64.wrap ((bsy xs S day i : Int) + 1) = (bsy xs S day i : Int) + 1 := IntWalk.i64_in _ (by omega)
      have Hn1 := Lib.hid (fun h => bsy_no (@bsB_no1 xs S day i h))
      have Hn2 := Lib.hid (fun h => bsy_no (@bsB_no2 xs S day i h))
      have Hn3 := Lib.hid (fun h => bsy_no (@bsB_no3 xs S day i h))
      have Hy1 := Lib.hid (fun h1 h2 h3 => bsy_yes (@bsB_yes xs S day i h1 h2 h3))
      generalize (jg xs i).nm = nm at *
      generalize (jg xs i).cost = cc at *
      generalize (jg xs i).needs.length = nl at *
      generalize (jg xs i).days = dp at *
      have hba := (Below.refl wr.heap.size wr).alloc (Nat.le_refl _) (.cells #[.string nm, .int .i64 dp, .int .i64 cc, .slice A4 nl c4] 37)
      have Hba := Lib.hid (Hbl.out.trans (hba.mono hsz))
      have HCa := Lib.hid (heap_alloc_new wr (.cells #[.string nm, .int .i64 dp, .int .i64 cc, .slice A4 nl c4] 37))
      clear hba
      go_upto_region 5 with (fail)
      generalize wr.alloc (.cells #[.string nm, .int .i64 dp, .int .i64 cc, .slice A4 nl c4] 37) = wa at *
      generalize wr.heap.size = ga at *
      clear p0 p1 p2 p3
      obtain ⟨y0, y1, y2, y3⟩ := cells4 HCa.out
      obtain ⟨b1, o1, hA5, hb5, hcs⟩ := rdF_all (RdF_below HR.out (Hba.out.mono hB)) (show 0 < xs.length by omega)
      subst hA5
      have s1 := hcs i hil
      have Hbq := Lib.hid (fun n => below_drewN Hba.out n)
      clear hcs
      by_cases c1 : S i < 0
      · have Hst := Lib.hid (Hn1.out c1)
        have hc1 : decide (0 ≤ S i) = false := by rw [decide_eq_false_iff_not]; omega
        clear c1
        generalize S i = sp at *
        go_quiet (fail)
        go_wp2_with fail
        go_roundw
        case rel => exact ⟨i + 1, by omega, by go_num, by rw [Hst.out], Hbq.out _⟩
        case measure => first | (simp [intOf]; done) | (simp [intOf]; omega)
      · have hc1 : 0 ≤ S i := by omega
        by_cases c2 : day < S i
        · have Hst := Lib.hid (Hn2.out c2)
          have hc2 : decide (S i ≤ day) = false := by rw [decide_eq_false_iff_not]; omega
          clear c1 c2
          generalize S i = sp at *
          go_quiet (fail)
          go_wp2_with fail
          go_roundw
          case rel => exact ⟨i + 1, by omega, by go_num, by rw [Hst.out], Hbq.out _⟩
          case measure => first | (simp [intOf]; done) | (simp [intOf]; omega)
        · have hc2 : S i ≤ day := by omega
          by_cases c3 : day < S i + dp
          · have Hst := Lib.hid (Hy1.out hc1 hc2 c3)
            clear c1 c2
            generalize S i = sp at *
            go_quiet (fail)
            go_wp2_with fail
            go_roundw
            case rel => exact ⟨i + 1, by omega, by go_num, by rw [Hst.out]; go_num, Hbq.out _⟩
            case measure => first | (simp [intOf]; done) | (simp [intOf]; omega)
          · have Hst := Lib.hid (Hn3.out (by omega))
            have hc3 : decide (day < S i + dp) = false := by rw [decide_eq_false_iff_not]; omega
            clear c1 c2 c3
            generalize S i = sp at *
            go_quiet (fail)
            go_wp2_with fail
            go_roundw
            case rel => exact ⟨i + 1, by omega, by go_num, by rw [Hst.out], Hbq.out _⟩
            case measure => first | (simp [intOf]; done) | (simp [intOf]; omega)
    · obtain rfl : i = xs.length := by omega
      have hil' : ¬ ((xs.length : Int) < (xs.length : Int)) := by omega
      go_wp2_with fail
      go_ret
      exact ⟨rfl, Hbl.out⟩
end Go.Proofs.Ytalalegjeegocaa
/- Jobs, part 11: the plain law of plans. -/
namespace Go.Proofs.Ytalalegjeegocaa
open Go.RowKit Go.Joins

theorem allN_mk {n : Nat} {f : Nat → Bool} (h : ∀ {i}, i < n → f i = true) : allN n f = true := List.all_eq_true.2 fun i hi => h (List.mem_range.1 hi)
/-! sums -/
def sumI (f : Nat → Int) : Nat → Int
  | 0 => 0
  | k + 1 => sumI f k + f k
theorem sumI_congr {f g : Nat → Int} : ∀ {n}, (∀ i, i < n → f i = g i) → sumI f n = sumI g n
  | 0, _ => rfl
  | n + 1, h => by
    show sumI f n + f n = sumI g n + g n
    rw [sumI_congr (fun i hi => h i (by omega)), h n (by omega)]
theorem sumI_le {f g : Nat → Int} : ∀ {n}, (∀ i, i < n → f i ≤ g i) → sumI f n ≤ sumI g n
  | 0, _ => Int.le_refl _
  | n + 1, h => by
    have h1 := sumI_le (n := n) (f := f) (g := g) (fun i hi => h i (by omega))
    have h2 := h n (by omega)
    show sumI f n + f n ≤ sumI g n + g n
    omega
theorem sumI_lt {f g : Nat → Int} {b : Nat} : ∀ {n}, b < n → (∀ i, i < n → f i ≤ g i) → f b + 1 ≤ g b → sumI f n + 1 ≤ sumI g n
  | 0, hb, _, _ => by omega
  | n + 1, hb, h, h1 => by
    show sumI f n + f n + 1 ≤ sumI g n + g n
    by_cases e : b = n
    · subst e
      have := sumI_le (n := b) (f := f) (g := g) (fun i hi => h i (by omega))
      omega
    · have := sumI_lt (n := n) (f := f) (g := g) (b := b) (by omega) (fun i hi => h i (by omega)) h1
      have := h n (by omega)
      omega
theorem sumI_one {f g : Nat → Int} {b : Nat} : ∀ {n}, b < n → (∀ i, i ≠ b → f i = g i) → sumI f n - f b = sumI g n - g b
  | 0, hb, _ => by omega
  | n + 1, hb, h => by
    show sumI f n + f n - f b = sumI g n + g n - g b
    by_cases e : b = n
    · subst e
      have := sumI_congr (n := b) (fun i hi => h i (by omega))
      omega
    · have := sumI_one (show b < n by omega) h
      have := h n (by omega)
      omega
theorem sumI_pos {f : Nat → Int} : ∀ {n}, 0 < sumI f n → ∃ i, i < n ∧ 0 < f i
  | 0, h => absurd h (by show ¬ (0 : Int) < 0; omega)
  | n + 1, h => by
    by_cases e : 0 < f n
    · exact ⟨n, by omega, e⟩
    · have h' : 0 < sumI f n + f n := h
      obtain ⟨i, hi, h2⟩ := sumI_pos (n := n) (f := f) (by omega)
      exact ⟨i, by omega, h2⟩
theorem sumI_nn {f : Nat → Int} (h : ∀ i, 0 ≤ f i) : ∀ n, 0 ≤ sumI f n
  | 0 => Int.le_refl _
  | n + 1 => by
    have h1 := sumI_nn h n
    have h2 := h n
    show 0 ≤ sumI f n + f n
    omega
theorem sumI_get {f : Nat → Int} (h : ∀ i, 0 ≤ f i) : ∀ {n i}, i < n → f i ≤ sumI f n
  | 0, i, hi => by omega
  | n + 1, i, hi => by
    show f i ≤ sumI f n + f n
    have h2 := h n
    by_cases e : i = n
    · subst e
      have := sumI_nn h i
      omega
    · have := sumI_get h (show i < n by omega)
      omega
theorem sumD_sum (xs : List Jb) : ∀ k, sumD xs k = sumI (fun i => (jg xs i).days) k
  | 0 => rfl
  | k + 1 => by show sumD xs k + _ = sumI _ k + _; rw [sumD_sum xs k]
/-! plans -/
def unF (S : Nat → Int) (i : Nat) : Int := if S i < 0 then 1 else 0
def unS (S : Nat → Int) (n : Nat) : Int := sumI (unF S) n
def bsF (xs : List Jb) (S : Nat → Int) (d : Int) (i : Nat) : Int := if bsB xs S d i = true then 1 else 0
theorem bsy_sum (xs : List Jb) (S : Nat → Int) (d : Int) : ∀ k, (bsy xs S d k : Int) = sumI (bsF xs S d) k
  | 0 => rfl
  | k + 1 => by
    show ((bsy xs S d k + (if _ then 1 else 0) : Nat) : Int) = sumI _ k + bsF xs S d k
    rw [Int.natCast_add, bsy_sum xs S d k]
    unfold bsF
    split <;> rfl
def remF (xs : List Jb) (S : Nat → Int) (d : Int) (i : Nat) : Int := if S i < 0 then (jg xs i).days else max 0 (S i + (jg xs i).days - d)
def bst (xs : List Jb) (S L : Nat → Int) (day : Int) : Nat → Int
  | 0 => -1
  | k + 1 => if (S k < 0 ∧ rdyB xs S k day = true) ∧ (bst xs S L day k < 0 ∨ L k < L (bst xs S L day k).toNat) then (k : Int) else bst xs S L day k
theorem bst_bd (xs : List Jb) (S L : Nat → Int) (day : Int) : ∀ k, -1 ≤ bst xs S L day k ∧ bst xs S L day k < (k : Int)
  | 0 => by show (-1 : Int) ≤ -1 ∧ (-1 : Int) < ((0 : Nat) : Int); omega
  | k + 1 => by
    have := bst_bd xs S L day k
    show -1 ≤ (if _ then (k : Int) else bst xs S L day k) ∧ (if _ then (k : Int) else bst xs S L day k) < _
    split <;> omega
theorem bst_ok {xs : List Jb} {S L : Nat → Int} {day : Int} : ∀ {k}, 0 ≤ bst xs S L day k → S (bst xs S L day k).toNat < 0 ∧ rdyB xs S (bst xs S L day k).toNat day = true
  | 0, h => absurd h (by show ¬ (0 : Int) ≤ -1; omega)
  | k + 1, h => by
    by_cases c : (S k < 0 ∧ rdyB xs S k day = true) ∧ (bst xs S L day k < 0 ∨ L k < L (bst xs S L day k).toNat)
    · have e : bst xs S L day (k + 1) = (k : Int) := if_pos c
      rw [e, Int.toNat_natCast]
      exact c.1
    · have e : bst xs S L day (k + 1) = bst xs S L day k := if_neg c
      rw [e] at h ⊢
      exact bst_ok h
theorem bst_none {xs : List Jb} {S L : Nat → Int} {day : Int} : ∀ {k}, bst xs S L day k < 0 → ∀ i, i < k → S i < 0 → rdyB xs S i day = true → False
  | 0, _, i, hi, _, _ => by omega
  | k + 1, h, i, hi, h1, h2 => by
    by_cases c : (S k < 0 ∧ rdyB xs S k day = true) ∧ (bst xs S L day k < 0 ∨ L k < L (bst xs S L day k).toNat)
    · have e : bst xs S L day (k + 1) = (k : Int) := if_pos c
      omega
    · have e : bst xs S L day (k + 1) = bst xs S L day k := if_neg c
      rw [e] at h
      by_cases ei : i = k
      · subst ei
        exact c ⟨⟨h1, h2⟩, .inl h⟩
      · exact bst_none h i (by omega) h1 h2
/-- one day -/
def inn (xs : List Jb) (L : Nat → Int) (wk day : Int) : Nat → (Nat → Int) → (Nat → Int)
  | 0, S => S
  | f + 1, S => if (bsy xs S day xs.length : Int) < wk ∧ 0 ≤ bst xs S L day xs.length then inn xs L wk day f (put S (bst xs S L day xs.length).toNat day) else S
/-- all days -/
def pln (xs : List Jb) (L : Nat → Int) (wk : Int) : Nat → Int → (Nat → Int) → (Nat → Int)
  | 0, _, S => S
  | f + 1, day, S => if unS S xs.length = 0 then S else pln xs L wk f (day + 1) (inn xs L wk day xs.length S)
def plan (xs : List Jb) (wk : Int) : Nat → Int := pln xs (late xs) wk 401 0 (fun _ => -1)
/-- what holds all the time -/
structure St (xs : List Jb) (wk : Int) (S : Nat → Int) (day : Int) : Prop where
  lo : ∀ i, i < xs.length → S i = -1 ∨ 0 ≤ S i
  up : ∀ i, i < xs.length → S i ≤ day
  dn : ∀ i, i < xs.length → 0 ≤ S i → rdyB xs S i (S i) = true
  bz : ∀ d, (bsy xs S d xs.length : Int) ≤ wk
  ms : day + sumI (remF xs S day) xs.length ≤ 400
theorem unF_nn (S : Nat → Int) (i : Nat) : 0 ≤ unF S i := by unfold unF; split <;> omega
theorem bsF_nn (xs : List Jb) (S : Nat → Int) (d : Int) (i : Nat) : 0 ≤ bsF xs S d i := by unfold bsF; split <;> omega
theorem unS_nn (S : Nat → Int) (n : Nat) : 0 ≤ unS S n := sumI_nn (unF_nn S) n
theorem unS_zero {S : Nat → Int} {n : Nat} (h : unS S n = 0) {i : Nat} (hi : i < n) : 0 ≤ S i := by
  have h1 := sumI_get (unF_nn S) hi
  have h2 : sumI (unF S) n = 0 := h
  rw [h2] at h1
  unfold unF at h1
  split at h1 <;> omega
theorem unS_some {S : Nat → Int} {n : Nat} (h : 0 < unS S n) : ∃ i, i < n ∧ S i < 0 := by
  obtain ⟨i, hi, h1⟩ := sumI_pos h
  refine ⟨i, hi, ?_⟩
  unfold unF at h1
  split at h1 <;> omega
theorem unS_put {S : Nat → Int} {n b : Nat} {d : Int} (hb : b < n) (h : S b < 0) (hd : 0 ≤ d) : unS (put S b d) n + 1 = unS S n := by
  have h1 := sumI_one (f := unF (put S b d)) (g := unF S) hb (fun i hi => by unfold unF; rw [put_other S d hi])
  have h2 : unF (put S b d) b = 0 := by unfold unF; rw [put_same, if_neg (by omega)]
  have h3 : unF S b = 1 := by unfold unF; rw [if_pos h]
  unfold unS
  omega
/-- a job that is begun keeps what is done -/
theorem rdy_put {xs : List Jb} {S : Nat → Int} {b i : Nat} {d day : Int} (h : rdyB xs S i day = true) (hb : S b < 0) : rdyB xs (put S b d) i day = true := by
  unfold rdyB at h ⊢
  refine allN_mk (fun {j} hj => ?_)
  have h1 := allN_get h hj
  unfold doneB at h1 ⊢
  rw [Bool.and_eq_true, decide_eq_true_iff, decide_eq_true_iff] at h1 ⊢
  have e : ((jg xs i).needs.getD j 0).toNat ≠ b := fun e => by rw [e] at h1; omega
  rw [put_other S d e]
  exact h1
end Go.Proofs.Ytalalegjeegocaa
/- Jobs, part 12: the plain law of plans, goes on. -/
namespace Go.Proofs.Ytalalegjeegocaa
open Go.RowKit Go.Joins

theorem bsF_one {xs : List Jb} {S : Nat → Int} {d : Int} {i : Nat} (h : bsB xs S d i = true) : bsF xs S d i = 1 := by unfold bsF; rw [if_pos h]
theorem bsF_zero {xs : List Jb} {S : Nat → Int} {d : Int} {i : Nat} (h : bsB xs S d i = false) : bsF xs S d i = 0 := by unfold bsF; rw [h]; rfl
theorem bsB_congr {xs : List Jb} {S S' : Nat → Int} {d : Int} {i : Nat} (h : S i = S' i) : bsB xs S d i = bsB xs S' d i := by unfold bsB; rw [h]
theorem bsB_iff {xs : List Jb} {S : Nat → Int} {d : Int} {i : Nat} : bsB xs S d i = true ↔ 0 ≤ S i ∧ S i ≤ d ∧ d < S i + (jg xs i).days := by unfold bsB; simp only [Bool.and_eq_true, decide_eq_true_iff]
theorem bsy_put_lt {xs : List Jb} {S : Nat → Int} {b : Nat} {d day : Int} {n : Nat} (hb : b < n) (h : S b < 0) (hd : d < day) (h0 : 0 ≤ day) : (bsy xs (put S b day) d n : Int) = bsy xs S d n := by
  rw [bsy_sum, bsy_sum]
  refine sumI_congr fun i _ => ?_
  by_cases e : i = b
  · subst e
    rw [bsF_zero (bsB_no1 h), bsF_zero (bsB_no2 (by rw [put_same]; exact hd))]
  · unfold bsF
    rw [bsB_congr (put_other S day e)]
theorem bsy_put_at {xs : List Jb} {S : Nat → Int} {b : Nat} {day : Int} {n : Nat} (hb : b < n) (h : S b < 0) (h0 : 0 ≤ day) (hd : 1 ≤ (jg xs b).days) : (bsy xs (put S b day) day n : Int) = bsy xs S day n + 1 := by
  rw [bsy_sum, bsy_sum]
  have h1 := sumI_one (f := bsF xs (put S b day) day) (g := bsF xs S day) hb (fun i hi => by unfold bsF; rw [bsB_congr (put_other S day hi)])
  rw [bsF_zero (bsB_no1 h), bsF_one (bsB_iff.2 (by rw [put_same]; omega))] at h1
  omega
theorem bsy_later {xs : List Jb} {S : Nat → Int} {d day : Int} {n : Nat} (hu : ∀ i, i < n → S i ≤ day) (hd : day ≤ d) : (bsy xs S d n : Int) ≤ bsy xs S day n := by
  rw [bsy_sum, bsy_sum]
  refine sumI_le fun i hi => ?_
  cases hb : bsB xs S d i with
  | false => rw [bsF_zero hb]; exact bsF_nn xs S day i
  | true =>
    have h1 := bsB_iff.1 hb
    have h2 := hu i hi
    rw [bsF_one hb, bsF_one (bsB_iff.2 (by omega))]
    exact Int.le_refl _
theorem bsy_some {xs : List Jb} {S : Nat → Int} {d : Int} {n : Nat} (h : 1 ≤ (bsy xs S d n : Int)) : ∃ i, i < n ∧ bsB xs S d i = true := by
  rw [bsy_sum] at h
  obtain ⟨i, hi, h1⟩ := sumI_pos (n := n) (f := bsF xs S d) (by omega)
  refine ⟨i, hi, ?_⟩
  cases hb : bsB xs S d i with
  | true => rfl
  | false => rw [bsF_zero hb] at h1; omega
theorem bsy_get {xs : List Jb} {S : Nat → Int} {d : Int} {n i : Nat} (hi : i < n) (h : bsB xs S d i = true) : 1 ≤ (bsy xs S d n : Int) := by
  have h1 := sumI_get (bsF_nn xs S d) hi
  rw [bsF_one h] at h1
  rw [bsy_sum]
  exact h1
theorem remF_congr {xs : List Jb} {S S' : Nat → Int} {d : Int} {i : Nat} (h : S i = S' i) : remF xs S d i = remF xs S' d i := by unfold remF; rw [h]
theorem St.start {xs : List Jb} {wk day : Int} {S : Nat → Int} {b : Nat} (h : St xs wk S day) (hk : OkJ xs) (h0 : 0 ≤ day) (hb : b < xs.length) (hs : S b < 0) (hr : rdyB xs S b day = true) (hw : (bsy xs S day xs.length : Int) < wk) : St xs wk (put S b day) day := by
  have hd := hk.days b hb
  have hup : ∀ i, i < xs.length → put S b day i ≤ day := fun i hi => by
    by_cases e : i = b
    · subst e; rw [put_same]; omega
    · rw [put_other S day e]; exact h.up i hi
  refine ⟨fun i hi => ?_, hup, fun i hi hi0 => ?_, fun d => ?_, ?_⟩
  · by_cases e : i = b
    · subst e; rw [put_same]; exact .inr h0
    · rw [put_other S day e]; exact h.lo i hi
  · by_cases e : i = b
    · subst e; rw [put_same]; exact rdy_put hr hs
    · rw [put_other S day e] at hi0 ⊢
      exact rdy_put (h.dn i hi hi0) hs
  · by_cases c : d < day
    · rw [bsy_put_lt hb hs c h0]; exact h.bz d
    · have h1 := bsy_later (xs := xs) (d := d) hup (by omega)
      rw [bsy_put_at hb hs h0 hd.1] at h1
      omega
  · have h1 := sumI_one (f := remF xs (put S b day) day) (g := remF xs S day) hb (fun i hi => remF_congr (put_other S day hi))
    have e1 : remF xs (put S b day) day b = (jg xs b).days := by unfold remF; rw [put_same, if_neg (by omega)]; omega
    have e2 : remF xs S day b = (jg xs b).days := by unfold remF; rw [if_pos hs]
    have := h.ms
    omega
theorem St.next {xs : List Jb} {wk day : Int} {S : Nat → Int} (h : St xs wk S day) (hb : 1 ≤ (bsy xs S day xs.length : Int)) : St xs wk S (day + 1) := by
  refine ⟨h.lo, fun i hi => by have := h.up i hi; omega, h.dn, h.bz, ?_⟩
  obtain ⟨b, hbl, hbb⟩ := bsy_some hb
  have h1 := bsB_iff.1 hbb
  have h2 := sumI_lt (f := remF xs S (day + 1)) (g := remF xs S day) hbl (fun i _ => by unfold remF; split <;> omega) (by unfold remF; rw [if_neg (by omega), if_neg (by omega)]; omega)
  have := h.ms
  omega
/-- if no job can begin, a job is being done -/
theorem run_some {xs : List Jb} {wk day : Int} {S L : Nat → Int} (h : St xs wk S day) (hk : OkJ xs) (hu : 1 ≤ unS S xs.length) (hb : bst xs S L day xs.length < 0) : 1 ≤ (bsy xs S day xs.length : Int) := by
  refine Classical.byContradiction fun hc => ?_
  have hall : ∀ i, i < xs.length → bsB xs S day i = true → False := fun i hi hi2 => hc (bsy_get hi hi2)
  obtain ⟨u, hul, hus⟩ := unS_some (S := S) (n := xs.length) (by omega)
  have : ∀ k, k < xs.length → 0 ≤ S k := by
    intro k
    induction k using Nat.strongRecOn with
    | ind k ih =>
      intro hkl
      refine Classical.byContradiction fun hn => ?_
      refine bst_none hb k hkl (by omega) ?_
      unfold rdyB
      refine allN_mk fun {j} hj => ?_
      obtain ⟨p, hp, he, _⟩ := nd_at hk hkl hj
      rw [he, Int.toNat_natCast]
      have h1 := ih p hp (by omega)
      have h2 := h.up p (by omega)
      refine doneB_yes h1 (Classical.byContradiction fun hx => hall p (by omega) (bsB_iff.2 (by omega)))
  have := this u hul
  omega
theorem inn_ok {xs : List Jb} {wk day : Int} {L : Nat → Int} (hk : OkJ xs) (h0 : 0 ≤ day) : ∀ (f : Nat) (S : Nat → Int), unS S xs.length ≤ f → St xs wk S day → (1 ≤ unS S xs.length ∨ 1 ≤ (bsy xs S day xs.length : Int)) →
    St xs wk (inn xs L wk day f S) day ∧ (wk ≤ (bsy xs (inn xs L wk day f S) day xs.length : Int) ∨ bst xs (inn xs L wk day f S) L day xs.length < 0) ∧ (1 ≤ unS (inn xs L wk day f S) xs.length ∨ 1 ≤ (bsy xs (inn xs L wk day f S) day xs.length : Int))
  | 0, S, hf, hs, hor => by
    refine ⟨hs, ?_, hor⟩
    show wk ≤ (bsy xs S day xs.length : Int) ∨ bst xs S L day xs.length < 0
    refine .inr (Classical.byContradiction fun hc => ?_)
    have h1 := bst_bd xs S L day xs.length
    have h2 := bst_ok (xs := xs) (S := S) (L := L) (day := day) (k := xs.length) (by omega)
    have h3 := unS_nn S xs.length
    have h4 := unS_zero (S := S) (n := xs.length) (by omega) (i := (bst xs S L day xs.length).toNat) (by omega)
    omega
  | f + 1, S, hf, hs, hor => by
    by_cases c : (bsy xs S day xs.length : Int) < wk ∧ 0 ≤ bst xs S L day xs.length
    · have e : inn xs L wk day (f + 1) S = inn xs L wk day f (put S (bst xs S L day xs.length).toNat day) := if_pos c
      have h1 := bst_bd xs S L day xs.length
      have h2 := bst_ok (xs := xs) (S := S) (L := L) (day := day) (k := xs.length) c.2
      have h3 := unS_put (S := S) (n := xs.length) (b := (bst xs S L day xs.length).toNat) (d := day) (by omega) h2.1 h0
      have h4 := bsy_put_at (xs := xs) (S := S) (n := xs.length) (b := (bst xs S L day xs.length).toNat) (day := day) (by omega) h2.1 h0 (hk.days _ (by omega)).1
      rw [e]
      exact inn_ok hk h0 f _ (by omega) (hs.start hk h0 (by omega) h2.1 h2.2 c.1) (.inr (by omega))
    · have e : inn xs L wk day (f + 1) S = S := if_neg c
      rw [e]
      refine ⟨hs, ?_, hor⟩
      omega
theorem unS_le (S : Nat → Int) : ∀ n : Nat, unS S n ≤ n
  | 0 => Int.le_refl _
  | n + 1 => by
    have := unS_le S n
    show unS S n + unF S n ≤ _
    unfold unF
    split <;> omega
/-- a day is over -/
theorem inn_next {xs : List Jb} {wk day : Int} {L S : Nat → Int} (hk : OkJ xs) (hw : 1 ≤ wk) (h0 : 0 ≤ day) (hs : St xs wk S day) (hu : 1 ≤ unS S xs.length) : St xs wk (inn xs L wk day xs.length S) (day + 1) := by
  obtain ⟨h1, h2, h3⟩ := inn_ok (L := L) hk h0 xs.length S (unS_le S xs.length) hs (.inl hu)
  refine h1.next ?_
  rcases h3 with h3 | h3
  · rcases h2 with h2 | h2
    · omega
    · exact run_some h1 hk h3 h2
  · exact h3
theorem remF_nn (xs : List Jb) (hk : OkJ xs) (S : Nat → Int) (d : Int) (i : Nat) (hi : i < xs.length) : 0 ≤ remF xs S d i := by
  have := hk.days i hi
  unfold remF
  split <;> omega
theorem St.day {xs : List Jb} {wk day : Int} {S : Nat → Int} (h : St xs wk S day) (hk : OkJ xs) : day ≤ 400 ∧ (1 ≤ unS S xs.length → day ≤ 399) := by
  have h1 := h.ms
  have h2 := sumI_le (f := fun _ => 0) (g := remF xs S day) (n := xs.length) (fun i hi => remF_nn xs hk S day i hi)
  have h3 : ∀ n, sumI (fun _ => 0) n = 0 := fun n => by
    induction n with
    | zero => rfl
    | succ n ih => show sumI (fun _ => 0) n + 0 = 0; rw [ih]; rfl
  rw [h3] at h2
  refine ⟨by omega, fun hu => ?_⟩
  obtain ⟨u, hul, hus⟩ := unS_some (S := S) (n := xs.length) (by omega)
  have h4 := sumI_lt (f := fun _ => 0) (g := remF xs S day) hul (fun i hi => remF_nn xs hk S day i hi) (by have := hk.days u hul; unfold remF; rw [if_pos hus]; omega)
  rw [h3] at h4
  omega
theorem pln_ok {xs : List Jb} {wk : Int} {L : Nat → Int} (hk : OkJ xs) (hw : 1 ≤ wk) : ∀ (f : Nat) (day : Int) (S : Nat → Int), 0 ≤ day → day + f = 401 → St xs wk S day →
    ∃ d, d ≤ 400 ∧ St xs wk (pln xs L wk f day S) d ∧ unS (pln xs L wk f day S) xs.length = 0
  | 0, day, S, h0, hf, hs => by have := (hs.day hk).1; omega
  | f + 1, day, S, h0, hf, hs => by
    by_cases c : unS S xs.length = 0
    · have e : pln xs L wk (f + 1) day S = S := if_pos c
      rw [e]
      exact ⟨day, (hs.day hk).1, hs, c⟩
    · have e : pln xs L wk (f + 1) day S = pln xs L wk f (day + 1) (inn xs L wk day xs.length S) := if_neg c
      rw [e]
      have := unS_nn S xs.length
      exact pln_ok hk hw f (day + 1) _ (by omega) (by omega) (inn_next hk hw h0 hs (by omega))
theorem St_start {xs : List Jb} {wk : Int} (hk : OkJ xs) (hw : 1 ≤ wk) : St xs wk (fun _ => -1) 0 := by
  refine ⟨fun _ _ => .inl rfl, fun _ _ => by show (-1 : Int) ≤ 0; omega, fun i _ h => absurd h (by show ¬ (0 : Int) ≤ -1; omega), fun d => ?_, ?_⟩
  · have e : ∀ n, bsy xs (fun _ => -1) d n = 0 := fun n => by
      induction n with
      | zero => rfl
      | succ n ih => rw [bsy_no (bsB_no1 (by show (-1 : Int) < 0; omega)), ih]
    rw [e]
    show (0 : Int) ≤ wk
    omega
  · have e := sumI_congr (f := remF xs (fun _ => -1) 0) (g := fun i => (jg xs i).days) (n := xs.length) (fun i _ => by unfold remF; rw [if_pos (by show (-1 : Int) < 0; decide)])
    rw [e, ← sumD_sum]
    have := hk.sum
    omega
theorem plan_ok {xs : List Jb} {wk : Int} (hk : OkJ xs) (hw : 1 ≤ wk) : ∃ d, d ≤ 400 ∧ St xs wk (plan xs wk) d ∧ unS (plan xs wk) xs.length = 0 := pln_ok hk hw 401 0 _ (Int.le_refl _) rfl (St_start hk hw)
end Go.Proofs.Ytalalegjeegocaa
/- Jobs, part 13: ends of plans; plans with enough workers. -/
namespace Go.Proofs.Ytalalegjeegocaa
open Go.RowKit Go.Joins

/-- the last end -/
def endS (xs : List Jb) (S : Nat → Int) : Nat → Int
  | 0 => 0
  | k + 1 => max (endS xs S k) (S k + (jg xs k).days)
/-- the last end of the jobs that are begun -/
def endP (xs : List Jb) (S : Nat → Int) : Nat → Int
  | 0 => 0
  | k + 1 => max (endP xs S k) (if S k < 0 then 0 else S k + (jg xs k).days)
theorem endP_S {xs : List Jb} {S : Nat → Int} : ∀ {n}, (∀ i, i < n → 0 ≤ S i) → endP xs S n = endS xs S n
  | 0, _ => rfl
  | n + 1, h => by
    show max (endP xs S n) (if S n < 0 then 0 else _) = max (endS xs S n) _
    rw [endP_S (fun i hi => h i (by omega)), if_neg (by have := h n (by omega); omega)]
theorem endP_congr {xs : List Jb} {S S' : Nat → Int} : ∀ {n}, (∀ i, i < n → S i = S' i) → endP xs S n = endP xs S' n
  | 0, _ => rfl
  | n + 1, h => by
    show max (endP xs S n) (if S n < 0 then 0 else _) = max (endP xs S' n) (if S' n < 0 then 0 else _)
    rw [endP_congr (fun i hi => h i (by omega)), h n (by omega)]
theorem endP_nn (xs : List Jb) (S : Nat → Int) : ∀ n, 0 ≤ endP xs S n
  | 0 => Int.le_refl _
  | n + 1 => by
    have := endP_nn xs S n
    show 0 ≤ max _ _
    omega
theorem endP_put {xs : List Jb} {S : Nat → Int} {b : Nat} {d : Int} (h : S b < 0) (hd : 0 ≤ d) : ∀ {n}, b < n → endP xs (put S b d) n = max (endP xs S n) (d + (jg xs b).days)
  | 0, hb => by omega
  | n + 1, hb => by
    by_cases e : b = n
    · subst e
      have h1 := endP_congr (xs := xs) (S := put S b d) (S' := S) (n := b) (fun i hi => put_other S d (by omega))
      have h2 := endP_nn xs S b
      show max (endP xs (put S b d) b) (if put S b d b < 0 then 0 else put S b d b + _) = max (max (endP xs S b) (if S b < 0 then 0 else _)) _
      rw [h1, put_same, if_pos h, if_neg (by omega)]
      omega
    · show max (endP xs (put S b d) n) (if put S b d n < 0 then 0 else put S b d n + _) = max (max (endP xs S n) (if S n < 0 then 0 else _)) _
      rw [endP_put h hd (show b < n by omega), put_other S d (by omega)]
      omega
theorem endP_le {xs : List Jb} {S : Nat → Int} {M : Int} (h0 : 0 ≤ M) : ∀ {n}, (∀ i, i < n → S i + (jg xs i).days ≤ M) → endP xs S n ≤ M
  | 0, _ => h0
  | n + 1, h => by
    have h1 := endP_le h0 (n := n) (fun i hi => h i (by omega))
    have h2 := h n (by omega)
    show max _ (if S n < 0 then 0 else _) ≤ M
    split <;> omega
theorem endS_ge {xs : List Jb} {S : Nat → Int} : ∀ {n i}, i < n → S i + (jg xs i).days ≤ endS xs S n
  | 0, i, hi => by omega
  | n + 1, i, hi => by
    show _ ≤ max _ _
    by_cases e : i = n
    · subst e; omega
    · have := endS_ge (xs := xs) (S := S) (show i < n by omega)
      omega
theorem endS_nn (xs : List Jb) (S : Nat → Int) : ∀ n, 0 ≤ endS xs S n
  | 0 => Int.le_refl _
  | n + 1 => by
    have := endS_nn xs S n
    show 0 ≤ max _ _
    omega
theorem endS_le {xs : List Jb} {S : Nat → Int} {M : Int} (h0 : 0 ≤ M) : ∀ {n}, (∀ i, i < n → S i + (jg xs i).days ≤ M) → endS xs S n ≤ M
  | 0, _ => h0
  | n + 1, h => by
    have h1 := endS_le h0 (n := n) (fun i hi => h i (by omega))
    have h2 := h n (by omega)
    show max _ _ ≤ M
    omega
theorem allD_le {xs : List Jb} {M : Int} (h0 : 0 ≤ M) : ∀ {n}, (∀ i, i < n → erl xs i + (jg xs i).days ≤ M) → allD xs n ≤ M
  | 0, _ => h0
  | n + 1, h => by
    have h1 := allD_le h0 (n := n) (fun i hi => h i (by omega))
    have h2 := h n (by omega)
    show max _ _ ≤ M
    omega
/-- no start is earlier than the earliest one -/
theorem St.erl {xs : List Jb} {wk day : Int} {S : Nat → Int} (h : St xs wk S day) (hk : OkJ xs) : ∀ k, k < xs.length → 0 ≤ S k → erl xs k ≤ S k := by
  intro k
  induction k using Nat.strongRecOn with
  | ind k ih =>
    intro hkl h0
    rw [erl_eq hk hkl]
    refine (erP_bd h0 (fun j hj => ?_) _ (Nat.le_refl _)).2
    have h1 := allN_get (h.dn k hkl h0) hj
    obtain ⟨p, hp, he, _⟩ := nd_at hk hkl hj
    unfold doneB at h1
    rw [he, Int.toNat_natCast, Bool.and_eq_true, decide_eq_true_iff, decide_eq_true_iff] at h1
    rw [he, Int.toNat_natCast]
    have h2 := ih p hp (by omega) h1.1
    omega
/-- enough workers: all begin at once -/
structure Ea (xs : List Jb) (S : Nat → Int) (day : Int) : Prop where
  ok : ∀ i, i < xs.length → 0 ≤ S i → S i = erl xs i
  dn : ∀ i, i < xs.length → erl xs i < day → 0 ≤ S i
theorem Ea.start {xs : List Jb} {S : Nat → Int} {day : Int} {b : Nat} (h : Ea xs S day) (hk : OkJ xs) (h0 : 0 ≤ day) (hb : b < xs.length) (hs : S b < 0) (hr : rdyB xs S b day = true) : Ea xs (put S b day) day := by
  have e1 : erl xs b = day := by
    have h1 : ¬ erl xs b < day := fun hc => by have := h.dn b hb hc; omega
    have h2 : erl xs b ≤ day := by
      rw [erl_eq hk hb]
      refine (erP_bd h0 (fun j hj => ?_) _ (Nat.le_refl _)).2
      have h1 := allN_get hr hj
      obtain ⟨p, hp, he, _⟩ := nd_at hk hb hj
      unfold doneB at h1
      rw [he, Int.toNat_natCast, Bool.and_eq_true, decide_eq_true_iff, decide_eq_true_iff] at h1
      rw [he, Int.toNat_natCast, ← h.ok p (by omega) h1.1]
      exact h1.2
    omega
  refine ⟨fun i hi hi0 => ?_, fun i hi hi0 => ?_⟩
  · by_cases e : i = b
    · subst e; rw [put_same]; exact e1.symm
    · rw [put_other S day e] at hi0 ⊢
      exact h.ok i hi hi0
  · by_cases e : i = b
    · subst e; rw [put_same]; exact h0
    · rw [put_other S day e]
      exact h.dn i hi hi0
theorem bsy_miss {xs : List Jb} {S : Nat → Int} {d : Int} {n i : Nat} (hi : i < n) (h : S i < 0) : (bsy xs S d n : Int) + 1 ≤ n := by
  have h1 := sumI_lt (f := bsF xs S d) (g := fun _ => 1) hi (fun i _ => by unfold bsF; split <;> omega) (by rw [bsF_zero (bsB_no1 h)]; omega)
  have h3 : ∀ n : Nat, sumI (fun _ => 1) n = n := fun n => by
    induction n with
    | zero => rfl
    | succ n ih => show sumI (fun _ => 1) n + 1 = _; rw [ih]; omega
  rw [h3] at h1
  rw [bsy_sum]
  exact h1
theorem Ea.next {xs : List Jb} {S L : Nat → Int} {wk day : Int} (h : Ea xs S day) (hk : OkJ xs) (hw : (xs.length : Int) ≤ wk) (hx : wk ≤ (bsy xs S day xs.length : Int) ∨ bst xs S L day xs.length < 0) : Ea xs S (day + 1) := by
  refine ⟨h.ok, fun i hi hi0 => Classical.byContradiction fun hc => ?_⟩
  rcases hx with hx | hx
  · have := bsy_miss (xs := xs) (d := day) hi (show S i < 0 by omega)
    omega
  · refine bst_none hx i hi (by omega) ?_
    unfold rdyB
    refine allN_mk fun {j} hj => ?_
    obtain ⟨p, hp, he, _⟩ := nd_at hk hi hj
    have h1 := erP_ge (xs := xs) (e := Go.Proofs.Ytalalegjeegocaa.erl xs) (nd := (jg xs i).needs) hj
    rw [← erl_eq hk hi, he, Int.toNat_natCast] at h1
    have h2 := hk.days p (by omega)
    have h3 := h.dn p (by omega) (by omega)
    have h4 := h.ok p (by omega) h3
    rw [he, Int.toNat_natCast]
    exact doneB_yes h3 (by omega)
theorem inn_ea {xs : List Jb} {wk day : Int} {L : Nat → Int} (hk : OkJ xs) (h0 : 0 ≤ day) : ∀ (f : Nat) (S : Nat → Int), Ea xs S day → Ea xs (inn xs L wk day f S) day
  | 0, S, h => h
  | f + 1, S, h => by
    by_cases c : (bsy xs S day xs.length : Int) < wk ∧ 0 ≤ bst xs S L day xs.length
    · have e : inn xs L wk day (f + 1) S = inn xs L wk day f (put S (bst xs S L day xs.length).toNat day) := if_pos c
      have h1 := bst_bd xs S L day xs.length
      have h2 := bst_ok (xs := xs) (S := S) (L := L) (day := day) (k := xs.length) c.2
      rw [e]
      exact inn_ea hk h0 f _ (h.start hk h0 (by omega) h2.1 h2.2)
    · have e : inn xs L wk day (f + 1) S = S := if_neg c
      rw [e]
      exact h
theorem pln_ea {xs : List Jb} {wk : Int} {L : Nat → Int} (hk : OkJ xs) (hw : 1 ≤ wk) (hw2 : (xs.length : Int) ≤ wk) : ∀ (f : Nat) (day : Int) (S : Nat → Int), 0 ≤ day → St xs wk S day → Ea xs S day → ∃ d, Ea xs (pln xs L wk f day S) d
  | 0, day, S, _, _, h => ⟨day, h⟩
  | f + 1, day, S, h0, hs, h => by
    by_cases c : unS S xs.length = 0
    · have e : pln xs L wk (f + 1) day S = S := if_pos c
      rw [e]
      exact ⟨day, h⟩
    · have e : pln xs L wk (f + 1) day S = pln xs L wk f (day + 1) (inn xs L wk day xs.length S) := if_neg c
      rw [e]
      have hu := unS_nn S xs.length
      obtain ⟨_, h2, _⟩ := inn_ok (L := L) hk h0 xs.length S (unS_le S xs.length) hs (.inl (by omega))
      exact pln_ea hk hw hw2 f (day + 1) _ (by omega) (inn_next hk hw h0 hs (by omega)) ((inn_ea hk h0 xs.length S h).next hk hw2 h2)
theorem plan_quick {xs : List Jb} {wk : Int} (hk : OkJ xs) (hw : 1 ≤ wk) (hw2 : (xs.length : Int) ≤ wk) (i : Nat) (hi : i < xs.length) : plan xs wk i = erl xs i := by
  obtain ⟨_, _, _, hu⟩ := plan_ok hk hw
  obtain ⟨_, h⟩ := pln_ea (L := late xs) hk hw hw2 401 0 (fun _ => -1) (Int.le_refl _) (St_start hk hw) ⟨fun _ _ h => absurd h (by show ¬ (0 : Int) ≤ -1; omega), fun i hi h => by have := erl_bd hk i hi; omega⟩
  exact h.ok i hi (unS_zero hu hi)
/-- WHAT A PLAN IS -/
structure Plan (xs : List Jb) (wk : Int) : Prop where
  bd : ∀ i, i < xs.length → 0 ≤ plan xs wk i ∧ plan xs wk i ≤ 400
  dn : ∀ i, i < xs.length → rdyB xs (plan xs wk) i (plan xs wk i) = true
  bz : ∀ d, (bsy xs (plan xs wk) d xs.length : Int) ≤ wk
  ge : allD xs xs.length ≤ endS xs (plan xs wk) xs.length
  le : endS xs (plan xs wk) xs.length ≤ 460
  quick : (xs.length : Int) ≤ wk → endS xs (plan xs wk) xs.length = allD xs xs.length
theorem plan_law {xs : List Jb} {wk : Int} (hk : OkJ xs) (hw : 1 ≤ wk) : Plan xs wk := by
  obtain ⟨d, hd, hs, hu⟩ := plan_ok hk hw
  have h0 := fun i hi => unS_zero hu (i := i) hi
  refine ⟨fun i hi => ⟨h0 i hi, by have := hs.up i hi; omega⟩, fun i hi => hs.dn i hi (h0 i hi), hs.bz, ?_, ?_, fun hw2 => ?_⟩
  · refine allD_le (endS_nn _ _ _) fun i hi => ?_
    have h1 := hs.erl hk i hi (h0 i hi)
    have h2 := endS_ge (xs := xs) (S := plan xs wk) hi
    omega
  · refine endS_le (by omega) fun i hi => ?_
    have h1 := hs.up i hi
    have h2 := hk.days i hi
    omega
  · have h1 := endS_le (xs := xs) (S := plan xs wk) (n := xs.length) (allD_bd hk xs.length (Nat.le_refl _)).1 fun i hi => by
      rw [plan_quick hk hw hw2 i hi]
      exact allD_ge hi
    have h2 := allD_le (xs := xs) (M := endS xs (plan xs wk) xs.length) (n := xs.length) (endS_nn _ _ _) fun i hi => by
      rw [← plan_quick hk hw hw2 i hi]
      exact endS_ge hi
    omega
end Go.Proofs.Ytalalegjeegocaa
/- Jobs, part 14: the next job of a plan. -/
namespace Go.Proofs.Ytalalegjeegocaa
open Go.RowKit Go.Joins

theorem bst_yes {xs : List Jb} {S L : Nat → Int} {day : Int} {k : Nat} (h1 : S k < 0) (h2 : rdyB xs S k day = true) (h3 : bst xs S L day k < 0 ∨ L k < L (bst xs S L day k).toNat) : bst xs S L day (k + 1) = (k : Int) := if_pos ⟨⟨h1, h2⟩, h3⟩
theorem bst_no1 {xs : List Jb} {S L : Nat → Int} {day : Int} {k : Nat} (h : ¬ S k < 0) : bst xs S L day (k + 1) = bst xs S L day k := if_neg fun hc => h hc.1.1
theorem bst_no2 {xs : List Jb} {S L : Nat → Int} {day : Int} {k : Nat} (h : rdyB xs S k day = false) : bst xs S L day (k + 1) = bst xs S L day k := if_neg fun hc => by have := hc.1.2; rw [h] at this; exact absurd this (by decide)
theorem bst_no3 {xs : List Jb} {S L : Nat → Int} {day : Int} {k : Nat} (h : 0 ≤ bst xs S L day k) (h2 : ¬ L k < L (bst xs S L day k).toNat) : bst xs S L day (k + 1) = bst xs S L day k := if_neg fun hc => by rcases hc.2 with h3 | h3 <;> omega
set_option maxRecDepth 100000 in
set_option maxHeartbeats 3200000 in
theorem nextJob_any (B : Nat) (v vs vl : Value) (xs : List Jb) (S L : Nat → Int) (day : Int) (w : World) (h : RdJ w B v xs) (hB : B ≤ w.heap.size) (hs : Rd w B vs xs.length 1 (tab xs.length S)) (hl : Rd w B vl xs.length 1 (tab xs.length L)) (hk : OkJ xs) (hz : szJ xs) (hS : Sbd xs.length S) :
    Calls Try.prog 39 #[v, vs, vl, .int .i64 day] w fun e w' => e = .returned (.int .i64 (bst xs S L day xs.length)) ∧ Below w.heap.size w w' := by
  have H := Lib.hid h
  have HK := Lib.hid hk
  have HZ := Lib.hid hz
  have HR := Lib.hid hs
  have HL := Lib.hid hl
  have HS := Lib.hid hS
  have hl30 := hk.len
  obtain ⟨A, c, rfl⟩ := h.slice
  obtain ⟨A2, c2, rfl⟩ := rd_sl hs
  obtain ⟨A3, c3, rfl⟩ := rd_sl hl
  clear h hk hs hS hl hz
  go_enter Try.func39, Try.ntmps39
  go_wp2_with fail
  go_loopw [9, 14] (fun r x wr => ∃ (i : Nat), i ≤ xs.length ∧ x = .int .i64 (i : Int) ∧ r = .int .i64 (bst xs S L day i) ∧ Below w.heap.size w wr) (fun _ x _ => xs.length - (intOf x).toNat)
  case atStart => exact ⟨0, Nat.zero_le _, rfl, rfl, Below.refl _ _⟩
  case round =>
    obtain ⟨i, hi, rfl, rfl, hbl⟩ := hrel
    have Hbl := Lib.hid hbl
    have hsz := hbl.size
    clear hbl
    by_cases hil : i < xs.length
    · have hil' : (i : Int) < (xs.length : Int) := by omega
      obtain ⟨gb, ob, A4, c4, hA4, hat⟩ := (H.out.below (Hbl.out.mono hB)).at i hil
      subst hA4
      have hsb := HS.out i hil
      have hbb := bst_bd xs S L day i
      obtain ⟨_, hsn⟩ := HZ.out i hil
      have HN := Lib.hid hat.needs
      obtain ⟨_, p0, p1, p2, p3, _⟩ := hat
      have Hy := Lib.hid (@bst_yes xs S L day i)
      have Hn1 := Lib.hid (@bst_no1 xs S L day i)
      have Hn2 := Lib.hid (@bst_no2 xs S L day i)
      have Hn3 := Lib.hid (@bst_no3 xs S L day i)
      generalize (jg xs i).nm = nm at *
      generalize (jg xs i).cost = cc at *
      generalize (jg xs i).days = dp at *
      have hba := (Below.refl wr.heap.size wr).alloc (Nat.le_refl _) (.cells #[.string nm, .int .i64 dp, .int .i64 cc, .slice A4 (jg xs i).needs.length c4] 37)
      have Hba := Lib.hid (Hbl.out.trans (hba.mono hsz))
      have HCa := Lib.hid (heap_alloc_new wr (.cells #[.string nm, .int .i64 dp, .int .i64 cc, .slice A4 (jg xs i).needs.length c4] 37))
      have HNa := Lib.hid (HN.out.below (hba.mono (Nat.le_trans hB hsz)))
      clear hba HN
      go_upto_region 5 with (fail)
      generalize wr.alloc (.cells #[.string nm, .int .i64 dp, .int .i64 cc, .slice A4 (jg xs i).needs.length c4] 37) = wa at *
      generalize wr.heap.size = ga at *
      clear p0 p1 p2 p3
      obtain ⟨y0, y1, y2, y3⟩ := cells4 HCa.out
      obtain ⟨b1, o1, hA5, hb5, hcs⟩ := rdF_all (RdF_below HR.out (Hba.out.mono hB)) (show 0 < xs.length by omega)
      subst hA5
      have s1 := hcs i hil
      obtain ⟨b2, o2, hA6, hb6, hcl⟩ := rdF_all (RdF_below HL.out (Hba.out.mono hB)) (show 0 < xs.length by omega)
      subst hA6
      have l1 := hcl i hil
      have Hbq := Lib.hid (fun n => below_drewN Hba.out n)
      have HD := Lib.hid (fun n => areDone_any B (.slice (some ⟨gb, ob, none⟩) xs.length c) (.slice (some ⟨b1, o1, none⟩) xs.length c2) (.slice A4 (jg xs i).needs.length c4) xs S i day (wa.drewN n) (H.out.below (below_drewN (Hba.out.mono hB) n)) (RdF_below HR.out (below_drewN (Hba.out.mono hB) n)) (HNa.out.drewN n) HK.out hil HZ.out HS.out)
      generalize (jg xs i).needs.length = nl at *
      clear hcs HNa
      by_cases c1 : S i < 0
      · have Hy := Lib.hid (Hy.out c1)
        cases hrd : rdyB xs S i day with
        | false =>
          have Hst := Lib.hid (Hn2.out hrd)
          rw [hrd] at HD
          clear hrd hcl
          generalize S i = sp at *
          generalize bst xs S L day i = bk at *
          go_quiet ((go_at_call 45; exact Calls.quiet_of (HD.out _)))
          go_wp2_with fail
          go_roundw
          case rel => exact ⟨i + 1, by omega, by go_num, by rw [Hst.out], Hbq.out _⟩
          case measure => first | (simp [intOf]; done) | (simp [intOf]; omega)
        | true =>
          have Hy := Lib.hid (Hy.out hrd)
          rw [hrd] at HD
          clear hrd
          by_cases c2 : bst xs S L day i < 0
          · have Hst := Lib.hid (Hy.out (.inl c2))
            clear hcl Hn1 Hn2 Hn3
            generalize S i = sp at *
            generalize bst xs S L day i = bk at *
            go_quiet ((go_at_call 45; exact Calls.quiet_of (HD.out _)))
            go_wp2_with fail
            go_roundw
            case rel => exact ⟨i + 1, by omega, by go_num, by rw [Hst.out], Hbq.out _⟩
            case measure => first | (simp [intOf]; done) | (simp [intOf]; omega)
          · obtain ⟨j, hj⟩ : ∃ j : Nat, bst xs S L day i = (j : Int) := ⟨(bst xs S L day i).toNat, by omega⟩
            rw [hj] at hbb c2
            have Hy := Lib.hid (fun h => Hy.out (.inr h))
            rw [hj, Int.toNat_natCast] at Hy
            have Hn := Lib.hid (fun h => Hn3.out (by omega) h)
            rw [hj, Int.toNat_natCast] at Hn
            have l2 := hcl j (by omega)
            have hjl : (j : Int) < (xs.length : Int) := by omega
            have hj0 : decide ((j : Int) < 0) = false := by rw [decide_eq_false_iff_not]; omega
            rw [hj]
            clear hcl Hn1 Hn2 Hn3 hj
            by_cases c3 : L i < L j
            · have Hst := Lib.hid (Hy.out c3)
              clear c2 Hn Hy
              generalize S i = sp at *
              generalize L i = li at *
              generalize L j = lj at *
              go_quiet ((go_at_call 45; exact Calls.quiet_of (HD.out _)))
              go_wp2_with fail
              go_roundw
              case rel => exact ⟨i + 1, by omega, by go_num, by rw [Hst.out], Hbq.out _⟩
              case measure => first | (simp [intOf]; done) | (simp [intOf]; omega)
            · have Hst := Lib.hid (Hn.out c3)
              have hc3 : decide (L i < L j) = false := by rw [decide_eq_false_iff_not]; exact c3
              clear c2 Hn Hy c3
              generalize S i = sp at *
              generalize L i = li at *
              generalize L j = lj at *
              go_quiet ((go_at_call 45; exact Calls.quiet_of (HD.out _)))
              go_wp2_with fail
              go_roundw
              case rel => exact ⟨i + 1, by omega, by go_num, by rw [Hst.out], Hbq.out _⟩
              case measure => first | (simp [intOf]; done) | (simp [intOf]; omega)
      · have Hst := Lib.hid (Hn1.out c1)
        have hc1 : decide (S i < 0) = false := by rw [decide_eq_false_iff_not]; exact c1
        clear c1 hcl HD
        generalize S i = sp at *
        generalize bst xs S L day i = bk at *
        go_quiet (fail)
        go_wp2_with fail
        go_roundw
        case rel => exact ⟨i + 1, by omega, by go_num, by rw [Hst.out], Hbq.out _⟩
        case measure => first | (simp [intOf]; done) | (simp [intOf]; omega)
    · obtain rfl : i = xs.length := by omega
      have hil' : ¬ ((xs.length : Int) < (xs.length : Int)) := by omega
      have hbb := bst_bd xs S L day xs.length
      go_wp2_with fail
      go_ret
      exact ⟨rfl, Hbl.out⟩
end Go.Proofs.Ytalalegjeegocaa
/- Jobs, part 15: the plan of the reference. -/
namespace Go.Proofs.Ytalalegjeegocaa
open Go.RowKit Go.Joins

theorem own_keptJ {w w' : World} {base n size g : Nat} {e : TypeId} {v : Value} {cs : List Value} (h : w.ownsRow base e size v n cs) (hg : w.grownBy w' (some g)) (hlt : g < base) : w'.ownsRow base e size v n cs :=
  h.kept hg (by
    cases hv : v.ownBlock with
    | none => exact .inl rfl
    | some x => exact .inr fun e => by have := (h.lt x hv).1; injection e; omega)
theorem inn_stop {xs : List Jb} {L S : Nat → Int} {wk day : Int} (f : Nat) (h : ¬ ((bsy xs S day xs.length : Int) < wk ∧ 0 ≤ bst xs S L day xs.length)) : inn xs L wk day f S = S := by
  cases f with
  | zero => rfl
  | succ f => exact if_neg h
theorem inn_go {xs : List Jb} {L S : Nat → Int} {wk day : Int} {f b : Nat} (h1 : (bsy xs S day xs.length : Int) < wk) (h2 : bst xs S L day xs.length = (b : Int)) (h0 : 0 ≤ day) (hf : unS S xs.length ≤ f) :
    b < xs.length ∧ S b < 0 ∧ rdyB xs S b day = true ∧ unS (put S b day) xs.length = unS S xs.length - 1 ∧ ∃ f', unS (put S b day) xs.length ≤ (f' : Nat) ∧ inn xs L wk day f S = inn xs L wk day f' (put S b day) := by
  have h3 := bst_bd xs S L day xs.length
  have h4 := bst_ok (xs := xs) (S := S) (L := L) (day := day) (k := xs.length) (by omega)
  rw [h2, Int.toNat_natCast] at h4
  have h5 := unS_put (S := S) (n := xs.length) (b := b) (d := day) (by omega) h4.1 h0
  have h6 := unS_nn (put S b day) xs.length
  refine ⟨by omega, h4.1, h4.2, by omega, ?_⟩
  cases f with
  | zero => exact absurd hf (by omega)
  | succ f =>
    refine ⟨f, by omega, ?_⟩
    have e : inn xs L wk day (f + 1) S = inn xs L wk day f (put S (bst xs S L day xs.length).toNat day) := if_pos ⟨h1, by omega⟩
    rw [e, h2, Int.toNat_natCast]
theorem pln_zero {xs : List Jb} {L S : Nat → Int} {wk day : Int} (f : Nat) (h : unS S xs.length = 0) : pln xs L wk f day S = S := by
  cases f with
  | zero => rfl
  | succ f => exact if_pos h
theorem St.sbd {xs : List Jb} {wk day : Int} {S : Nat → Int} (h : St xs wk S day) (hd : day ≤ 400) : Sbd xs.length S := fun i hi => by
  have h1 := h.lo i hi
  have h2 := h.up i hi
  omega
/-- the rows of a plan -/
structure PlS (w : World) (b4 g c : Nat) (xs : List Jb) (vl : Value) (wr : World) (S : Nat → Int) : Prop where
  bel : Below w.heap.size w wr
  own : wr.ownsRow w.heap.size 2 1 (.slice (some ⟨g, 0, none⟩) xs.length c) xs.length (tab xs.length S)
  lat : wr.ownsRow b4 2 1 vl xs.length (tab xs.length (late xs))
  lt : g < b4
theorem PlS.drewN {w : World} {b4 g c : Nat} {xs : List Jb} {vl : Value} {wr : World} {S : Nat → Int} (h : PlS w b4 g c xs vl wr S) (n : Nat) : PlS w b4 g c xs vl (wr.drewN n) S :=
  ⟨below_drewN h.bel n, World.ownsRow.drewN h.own n, World.ownsRow.drewN h.lat n, h.lt⟩
theorem PlS.below {w : World} {b4 g c : Nat} {xs : List Jb} {vl : Value} {wr wz : World} {S : Nat → Int} (h : PlS w b4 g c xs vl wr S) (hb : Below wr.heap.size wr wz) : PlS w b4 g c xs vl wz S :=
  ⟨h.bel.trans (hb.mono h.bel.size), own_below h.own hb, own_below h.lat hb, h.lt⟩
theorem PlS.put {w : World} {b4 g c : Nat} {xs : List Jb} {vl : Value} {wr : World} {S : Nat → Int} (h : PlS w b4 g c xs vl wr S) (b : Nat) (y : Int) : PlS w b4 g c xs vl (wr.setCell ⟨g, b, none⟩ (.int .i64 y)) (put S b y) := by
  have h1 := h.own.stored b (.int .i64 y)
  refine ⟨h.bel.setCell (p := ⟨g, b, none⟩) (h.own.lt g rfl).1 _, ?_, own_keptJ h.lat h1.2 h.lt, h.lt⟩
  rw [← tab_set]
  exact h1.1
theorem PlS.rd {w : World} {b4 g c : Nat} {xs : List Jb} {vl : Value} {wr : World} {S : Nat → Int} (h : PlS w b4 g c xs vl wr S) : Rd wr wr.heap.size (.slice (some ⟨g, 0, none⟩) xs.length c) xs.length 1 (tab xs.length S) := Rd.of_own h.own
theorem PlS.rl {w : World} {b4 g c : Nat} {xs : List Jb} {vl : Value} {wr : World} {S : Nat → Int} (h : PlS w b4 g c xs vl wr S) : Rd wr wr.heap.size vl xs.length 1 (tab xs.length (late xs)) := Rd.of_own h.lat
end Go.Proofs.Ytalalegjeegocaa
/- Jobs, part 16: l22Plan. -/
namespace Go.Proofs.Ytalalegjeegocaa
open Go.RowKit Go.Joins

set_option maxRecDepth 100000 in
set_option maxHeartbeats 6400000 in
theorem l22Plan_any (B : Nat) (v : Value) (xs : List Jb) (wk : Int) (w : World) (h : RdJ w B v xs) (hB : B ≤ w.heap.size) (hk : OkJ xs) (hz : szJ xs) (hw1 : 1 ≤ wk) (hw2 : wk ≤ 1000) :
    Calls Try.prog 41 #[v, .int .i64 wk] w (RetTb xs.length (plan xs wk) w) := by
  have H := Lib.hid h
  have HK := Lib.hid hk
  have HZ := Lib.hid hz
  have hl30 := hk.len
  have HP := Lib.hid (show pln xs (late xs) wk 401 0 (fun _ => -1) = plan xs wk from rfl)
  have HC := Lib.hid (fun wx (hb : Below w.heap.size w wx) => l22Late_any B v xs wx (h.below (hb.mono hB)) (Nat.le_trans hB hb.size) hk hz)
  obtain ⟨A, c, rfl⟩ := h.slice
  have hon := Lib.hid (World.ownsRow_made (base := w.heap.size) (e := 2) (size := 1) w #[] 0 (Nat.le_refl _) (by simp [maxLen]) rfl)
  have hal := Lib.hid ((Below.refl w.heap.size w).alloc (Nat.le_refl _) (.cells #[] 2))
  have HAp := Lib.hid (fun k => tab_sn k (fun _ => (-1 : Int)))
  clear h hk hz
  generalize plan xs wk = plw at *
  go_enter Try.func41, Try.ntmps41
  go_wp2_with fail
  go_loopw [5, 6] (fun r i wr => ∃ k : Nat, k ≤ xs.length ∧ i = .int .i64 (k : Int) ∧ wr.ownsRow w.heap.size 2 1 r k (tab k (fun _ => (-1 : Int))) ∧ Below w.heap.size w wr) (fun _ i _ => xs.length - (intOf i).toNat)
  case atStart => exact ⟨0, by omega, rfl, hon.out, hal.out⟩
  case round =>
    obtain ⟨k, hk, rfl, hown, hbl⟩ := hrel
    have Hbl := Lib.hid hbl
    obtain ⟨A3, c3, rfl⟩ := own_sl hown
    have Hown := Lib.hid hown
    clear hon hal hown hbl
    by_cases hlt : k < xs.length
    · have hlt' : (k : Int) < (xs.length : Int) := by omega
      go_wp2_with (at_builtin; refine wpList_apd 27 2 _ 1 8 Try.underlying27 infoD rfl (by omega) _ _ rfl rfl w.heap.size _ k _ rfl Hown.out #[.int .i64 (-1)] 1 1 rfl rfl (by simp [Value.oneCell']) (by simp [maxLen]; omega) (by omega) Hbl.out.size ?_; intro v7 w7 hown7 hg7; have Hb7 := Lib.hid (below_apd Hbl.out Hown.out hg7 (Nat.le_refl _) Hbl.out.size); obtain ⟨A7, c7, rfl⟩ := own_sl hown7; have Hown7 := Lib.hid (show w7.ownsRow w.heap.size 2 1 (.slice A7 (k + 1) c7) (k + 1) (tab (k + 1) (fun _ => (-1 : Int))) by rw [← HAp.out k]; exact hown7); clear hown7 hg7)
      go_roundw
      case rel => exact ⟨k + 1, by omega, by go_num, Hown7.out, Hb7.out⟩
      case measure => first | (simp [intOf]; done) | (simp [intOf]; omega)
    · obtain rfl : k = xs.length := by omega
      have hlt' : ¬ ((xs.length : Int) < (xs.length : Int)) := by omega
      have HC2 := Lib.hid (HC.out wr Hbl.out)
      clear HC
      go_wp2_with fail
      refine (HC2.out).mono ?_; rintro e w4 ⟨v4, rfl, ho4, hb4⟩
      obtain ⟨A4, c4, rfl⟩ := own_sl ho4
      have Hbl4 := Lib.hid (Hbl.out.trans (hb4.mono Hbl.out.size))
      have Hown4 := Lib.hid (own_below Hown.out hb4)
      by_cases hn0 : xs.length = 0
      · have Hfin : Hid (w4.ownsRow w.heap.size 2 1 (.slice A3 xs.length c3) xs.length (tab xs.length plw)) := Lib.hid (by
          have e : tab xs.length plw = tab xs.length (fun _ => (-1 : Int)) := by rw [hn0]; rfl
          rw [e]; exact Hown4.out)
        clear ho4 hb4 HC2 Hown Hown4
        have hn00 : ¬ ((0 : Int) < (xs.length : Int)) := by omega
        have Hn0 := Lib.hid hn0
        clear hn0
        go_wp2_with fail
        go_loopw [8, 9] (fun l dd wx => l = .int .i64 (xs.length : Int) ∧ dd = .int .i64 0 ∧ wx = w4) (fun _ _ _ => 0)
        case atStart => exact ⟨rfl, rfl, rfl⟩
        case round =>
          obtain ⟨rfl, rfl, rfl⟩ := hrel
          go_wp2_with fail
          go_ret
          exact ⟨_, rfl, Hfin.out, Hbl4.out⟩
      · obtain ⟨g, hA3, hg1, hg2, _⟩ := own_cellsI Hown.out (show 0 < xs.length by omega)
        subst hA3
        obtain ⟨b4, HPl0⟩ : ∃ b4, Hid (PlS w b4 g c3 xs (.slice A4 xs.length c4) w4 (fun _ => -1)) := ⟨wr.heap.size, Lib.hid ⟨Hbl4.out, Hown4.out, ho4, hg2⟩⟩
        clear ho4 hb4 HC2 Hown Hown4 Hbl4
        have hu0 : unS (fun _ => -1) xs.length = (xs.length : Int) := by
          have e : ∀ n : Nat, unS (fun _ => -1) n = (n : Int) := fun n => by
            induction n with
            | zero => rfl
            | succ n ih =>
              show unS (fun _ => -1) n + 1 = _
              rw [ih]; omega
          exact e _
        have HSt0 := Lib.hid (St_start HK.out hw1)
        go_wp2_with fail
        go_loopw [8, 9] (fun l dd wx => ∃ (d f : Nat) (S : Nat → Int), d + f = 401 ∧ dd = .int .i64 (d : Int) ∧ l = .int .i64 (unS S xs.length) ∧ St xs wk S (d : Int) ∧ pln xs (late xs) wk f (d : Int) S = plw ∧ PlS w b4 g c3 xs (.slice A4 xs.length c4) wx S) (fun _ dd _ => (401 - intOf dd).toNat)
        case atStart => exact ⟨0, 401, fun _ => -1, rfl, rfl, by rw [hu0], HSt0.out, HP.out, HPl0.out⟩
        case round =>
          obtain ⟨d, f, S, hdf, rfl, rfl, hst, hpl, hps⟩ := hrel
          clear HSt0 HPl0 hu0
          have hun := unS_nn S xs.length
          have hul := unS_le S xs.length
          by_cases hu : unS S xs.length = 0
          · rw [pln_zero f hu] at hpl
            rw [hpl] at hps
            have Hps := Lib.hid hps
            clear hps hst
            have hu' : ¬ ((0 : Int) < unS S xs.length) := by omega
            generalize unS S xs.length = us at *
            go_wp2_with fail
            go_ret
            exact ⟨_, rfl, Hps.out.own, Hps.out.bel⟩
          · have hd9 := (hst.day HK.out).2 (by omega)
            obtain ⟨f, rfl⟩ : ∃ f', f = f' + 1 := ⟨f - 1, by omega⟩
            have e0 : pln xs (late xs) wk (f + 1) (d : Int) S = pln xs (late xs) wk f ((d : Int) + 1) (inn xs (late xs) wk (d : Int) xs.length S) := if_neg hu
            rw [e0] at hpl
            have Hnx := Lib.hid (inn_next (L := late xs) HK.out hw1 (by omega) hst (by omega))
            have Hpl := Lib.hid hpl
            have Hst := Lib.hid hst
            have Hps := Lib.hid hps
            have hu' : (0 : Int) < unS S xs.length := by omega
            have hwd : IntKind.i64.wrap ((d : Int) + 1) = (d : Int) + 1 := IntWalk.i64_in _ (by omega)
            clear hpl hst hps e0
            obtain ⟨Sn, hSn⟩ : ∃ z, inn xs (late xs) wk (d : Int) xs.length S = z := ⟨_, rfl⟩
            have HSn := Lib.hid hSn
            rw [hSn] at Hnx Hpl
            clear hSn
            go_wp2_with fail
            go_loopw [8] (fun l wx => ∃ (f2 : Nat) (S2 : Nat → Int), unS S2 xs.length ≤ f2 ∧ inn xs (late xs) wk (d : Int) f2 S2 = Sn ∧ l = .int .i64 (unS S2 xs.length) ∧ St xs wk S2 (d : Int) ∧ PlS w b4 g c3 xs (.slice A4 xs.length c4) wx S2) (fun l _ => (intOf l).toNat)
            case atStart => exact ⟨xs.length, S, hul, HSn.out, rfl, Hst.out, Hps.out⟩
            case round =>
              clear Hst Hps
              obtain ⟨f2, S2, hf2, hi2, rfl, hst2, hps2⟩ := hrel
              have hun2 := unS_nn S2 xs.length
              have hul2 := unS_le S2 xs.length
              have hsd := hst2.sbd (by omega)
              have HB2 := Lib.hid (Busy_any wr.heap.size (.slice A xs.length c) (.slice (some ⟨g, 0, none⟩) xs.length c3) xs S2 (d : Int) wr ((H.out.below (hps2.bel.mono hB)).more (Nat.le_trans hB hps2.bel.size)) hps2.rd HK.out hsd)
              have hbl2 := bsy_le xs S2 (d : Int) xs.length
              by_cases hbw : (bsy xs S2 (d : Int) xs.length : Int) < wk
              · have HGo := Lib.hid (fun (b : Nat) hbe => inn_go (L := late xs) (f := f2) (wk := wk) (b := b) hbw hbe (by omega) hf2)
                have HSa := Lib.hid (fun (b : Nat) h1 h2 h3 => hst2.start (b := b) HK.out (by omega) h1 h2 h3 hbw)
                have Hhi := Lib.hid hi2
                have Hst2 := Lib.hid hst2
                have Hps2 := Lib.hid hps2
                have Hsd := Lib.hid hsd
                clear hps2 hst2 hi2 hsd
                generalize (bsy xs S2 (d : Int) xs.length : Int) = bz at *
                go_wp2_with fail
                refine (HB2.out).mono ?_; rintro e wy ⟨rfl, q, rfl⟩
                have HPq := Lib.hid (Hps2.out.drewN q)
                clear HB2 Hps2
                generalize wr.drewN q = wq at *
                go_wp2_with fail
                go_loopw [10, 11] (fun b x wx => ∃ (i q2 : Nat), i ≤ xs.length ∧ x = .int .i64 (i : Int) ∧ b = .int .i64 (bst xs S2 (late xs) (d : Int) i) ∧ wx = wq.drewN q2) (fun _ x _ => xs.length - (intOf x).toNat)
                case atStart => exact ⟨0, 0, Nat.zero_le _, rfl, rfl, rfl⟩
                case round =>
                  obtain ⟨i, q2, hi, rfl, rfl, hwr⟩ := hrel
                  have HPw : Hid (PlS w b4 g c3 xs (.slice A4 xs.length c4) wr S2) := Lib.hid (by rw [hwr]; exact HPq.out.drewN q2)
                  have Hwr := Lib.hid (show ∀ m, wr.drewN m = wq.drewN (q2 + m) from fun m => by rw [hwr, World.drewN_drewN])
                  have Hwr0 := Lib.hid hwr
                  clear hwr
                  have hbb := bst_bd xs S2 (late xs) (d : Int) i
                  by_cases hil : i < xs.length
                  · have hil' : (i : Int) < (xs.length : Int) := by omega
                    have hsb := Hsd.out i hil
                    have s1 := (own_cellI HPw.out.own i hil).1
                    obtain ⟨g6, hA6, _, _, hcl⟩ := own_cellsI HPw.out.lat (show 0 < xs.length by omega)
                    subst hA6
                    have l1 := hcl i hil
                    have HD := Lib.hid (fun n => Ready_any wr.heap.size (.slice A xs.length c) (.slice (some ⟨g, 0, none⟩) xs.length c3) xs S2 i (d : Int) (wr.drewN n) (((H.out.below (HPw.out.bel.mono hB)).more (Nat.le_trans hB HPw.out.bel.size)).drewN n) (HPw.out.rd.drewN n) HK.out hil HZ.out Hsd.out)
                    have Hy := Lib.hid (@bst_yes xs S2 (late xs) (d : Int) i)
                    have Hn1 := Lib.hid (@bst_no1 xs S2 (late xs) (d : Int) i)
                    have Hn2 := Lib.hid (@bst_no2 xs S2 (late xs) (d : Int) i)
                    have Hn3 := Lib.hid (@bst_no3 xs S2 (late xs) (d : Int) i)
                    by_cases c1 : S2 i < 0
                    · have Hy := Lib.hid (Hy.out c1)
                      cases hrd : rdyB xs S2 i (d : Int) with
                      | false =>
                        have Hst3 := Lib.hid (Hn2.out hrd)
                        rw [hrd] at HD
                        clear hrd hcl
                        generalize S2 i = sp at *
                        generalize bst xs S2 (late xs) (d : Int) i = bk at *
                        go_wp2_with fail
                        go_quiet ((go_at_call 47; exact Calls.quiet_of (HD.out _)))
                        go_wp2_with fail
                        go_roundw
                        case rel => exact ⟨i + 1, _, by omega, by go_num, by rw [Hst3.out], Hwr.out _⟩
                        case measure => first | (simp [intOf]; done) | (simp [intOf]; omega)
                      | true =>
                        have Hy := Lib.hid (Hy.out hrd)
                        rw [hrd] at HD
                        clear hrd
                        by_cases c2 : bst xs S2 (late xs) (d : Int) i < 0
                        · have Hst3 := Lib.hid (Hy.out (.inl c2))
                          clear hcl Hn1 Hn2 Hn3
                          generalize S2 i = sp at *
                          generalize bst xs S2 (late xs) (d : Int) i = bk at *
                          go_wp2_with fail
                          go_quiet ((go_at_call 47; exact Calls.quiet_of (HD.out _)))
                          go_wp2_with fail
                          go_roundw
                          case rel => exact ⟨i + 1, _, by omega, by go_num, by rw [Hst3.out], Hwr.out _⟩
                          case measure => first | (simp [intOf]; done) | (simp [intOf]; omega)
                        · obtain ⟨j, hj⟩ : ∃ j : Nat, bst xs S2 (late xs) (d : Int) i = (j : Int) := ⟨(bst xs S2 (late xs) (d : Int) i).toNat, by omega⟩
                          rw [hj] at hbb c2
                          have Hy := Lib.hid (fun h => Hy.out (.inr h))
                          rw [hj, Int.toNat_natCast] at Hy
                          have Hn := Lib.hid (fun h => Hn3.out (by omega) h)
                          rw [hj, Int.toNat_natCast] at Hn
                          have l2 := hcl j (by omega)
                          have hjl : (j : Int) < (xs.length : Int) := by omega
                          have hj0 : decide ((j : Int) < 0) = false := by rw [decide_eq_false_iff_not]; omega
                          rw [hj]
                          clear hcl Hn1 Hn2 Hn3 hj
                          by_cases c3 : late xs i < late xs j
                          · have Hst3 := Lib.hid (Hy.out c3)
                            clear c2 Hn Hy
                            generalize S2 i = sp at *
                            generalize late xs i = li at *
                            generalize late xs j = lj at *
                            go_wp2_with fail
                            go_quiet ((go_at_call 47; exact Calls.quiet_of (HD.out _)))
                            go_wp2_with fail
                            go_roundw
                            case rel => exact ⟨i + 1, _, by omega, by go_num, by rw [Hst3.out], Hwr.out _⟩
                            case measure => first | (simp [intOf]; done) | (simp [intOf]; omega)
                          · have Hst3 := Lib.hid (Hn.out c3)
                            have hc3 : decide (late xs i < late xs j) = false := by rw [decide_eq_false_iff_not]; exact c3
                            clear c2 Hn Hy c3
                            generalize S2 i = sp at *
                            generalize late xs i = li at *
                            generalize late xs j = lj at *
                            go_wp2_with fail
                            go_quiet ((go_at_call 47; exact Calls.quiet_of (HD.out _)))
                            go_wp2_with fail
                            go_roundw
                            case rel => exact ⟨i + 1, _, by omega, by go_num, by rw [Hst3.out], Hwr.out _⟩
                            case measure => first | (simp [intOf]; done) | (simp [intOf]; omega)
                    · have Hst3 := Lib.hid (Hn1.out c1)
                      have hc1 : decide (S2 i < 0) = false := by rw [decide_eq_false_iff_not]; exact c1
                      clear c1 hcl HD
                      generalize S2 i = sp at *
                      generalize bst xs S2 (late xs) (d : Int) i = bk at *
                      go_wp2_with fail
                      go_quiet (fail)
                      go_wp2_with fail
                      go_roundw
                      case rel => exact ⟨i + 1, _, by omega, by go_num, by rw [Hst3.out], Hwr.out _⟩
                      case measure => first | (simp [intOf]; done) | (simp [intOf]; omega)
                  · obtain rfl : i = xs.length := by omega
                    have hil' : ¬ ((xs.length : Int) < (xs.length : Int)) := by omega
                    by_cases hb : bst xs S2 (late xs) (d : Int) xs.length < 0
                    · have hie := inn_stop (xs := xs) (L := late xs) f2 (fun hc => by have h2 := hc.2; omega) (S := S2) (day := (d : Int)) (wk := wk)
                      have hi2 := Hhi.out
                      rw [hie] at hi2
                      subst hi2
                      clear hie
                      generalize bst xs S2 (late xs) (d : Int) xs.length = bk at *
                      go_wp2_with fail
                      go_roundw
                      case rel => exact ⟨d + 1, f, S2, by omega, by go_num, rfl, Hnx.out, Hpl.out, HPw.out⟩
                      case measure => first | (simp [intOf]; done) | (simp [intOf]; omega)
                    · obtain ⟨b, hbe⟩ : ∃ b : Nat, bst xs S2 (late xs) (d : Int) xs.length = (b : Int) := ⟨(bst xs S2 (late xs) (d : Int) xs.length).toNat, by omega⟩
                      obtain ⟨gbl, gbs, gbr, gun, f3, gf3, gin⟩ := HGo.out b hbe
                      have HSt3 := Lib.hid (HSa.out b gbl gbs gbr)
                      have hi2 := Hhi.out
                      rw [gin] at hi2
                      have Hin3 := Lib.hid hi2
                      obtain ⟨n0, n1⟩ := own_cellI HPw.out.own b gbl
                      have HPp := Lib.hid (HPw.out.put b (d : Int))
                      have hwl : IntKind.i64.wrap (unS S2 xs.length - 1) = unS (put S2 b (d : Int)) xs.length := by rw [gun]; exact IntWalk.i64_in _ (by omega)
                      have hun3 := unS_nn (put S2 b (d : Int)) xs.length
                      have hbl' : (b : Int) < (xs.length : Int) := by omega
                      have hb0 : ¬ ((b : Int) < 0) := by omega
                      rw [hbe]
                      clear HGo HSa gin hi2 hbe hb
                      obtain ⟨us2, hus2⟩ : ∃ z, unS S2 xs.length = z := ⟨_, rfl⟩
                      rw [hus2] at gun hun2 hwl ⊢
                      have Hus2 := Lib.hid hus2
                      clear hus2
                      obtain ⟨us3, hus3⟩ : ∃ z, unS (put S2 b (d : Int)) xs.length = z := ⟨_, rfl⟩
                      have Hus3 := Lib.hid hus3
                      rw [hus3] at hwl gun hun3
                      clear hus3
                      generalize S2 b = sb at *
                      go_wp2_with fail
                      go_roundw
                      case rel => exact ⟨f3, put S2 b (d : Int), gf3, Hin3.out, by rw [Hus3.out, gun], HSt3.out, HPp.out⟩
                      case measure => (have h9 := Hus2.out; simp [intOf]; omega)
              · have hie := inn_stop (L := late xs) f2 (fun hc => hbw hc.1) (S := S2) (day := (d : Int)) (wk := wk)
                rw [hie] at hi2
                subst hi2
                have Hps2 := Lib.hid hps2
                have Hst2 := Lib.hid hst2
                clear hie hst2 hps2 hsd
                generalize (bsy xs S2 (d : Int) xs.length : Int) = bz at *
                go_wp2_with fail
                refine (HB2.out).mono ?_; rintro e wy ⟨rfl, q, rfl⟩
                go_wp2_with fail
                go_roundw
                case rel => exact ⟨d + 1, f, S2, by omega, by go_num, rfl, Hnx.out, Hpl.out, Hps2.out.drewN q⟩
                case measure => first | (simp [intOf]; done) | (simp [intOf]; omega)
end Go.Proofs.Ytalalegjeegocaa
