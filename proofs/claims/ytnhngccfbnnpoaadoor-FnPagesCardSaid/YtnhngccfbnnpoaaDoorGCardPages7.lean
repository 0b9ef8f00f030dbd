/- Merged texts: Pa7, Pa8, Pa9, Sn2. -/
import Derived.Test.YtnhngccfbnnpoaaDoorGCardPages6
import Derived.Test.YtnhngccfbnnpoaaDoorGCardPages4
/- Printed pages, part 7: a page's lines, read, by the program (gen_pa7.py). -/
namespace Go.Proofs.YtnhngccfbnnpoaaDoor
open Go.RowKit Go.Joins

theorem rdS_all {w : World} {B n c : Nat} {A : Option Addr} {L : List ByteArray} (h : Rd w B (.slice A n c) L.length 1 (L.map Value.string)) (hn : 0 < L.length) :
    n = L.length ∧ ∃ b off, A = some ⟨b, off, none⟩ ∧ b < B ∧ ∀ j, j < L.length → w.cell? ⟨b, off + j, none⟩ = some (.string (lnG L j)) := by
  obtain ⟨_, A', c', hv, hc⟩ := h
  injection hv with e1 e2 e3
  subst e1
  obtain ⟨b, off, hA, hb, hcc⟩ := hc (by omega)
  refine ⟨e2, b, off, hA, hb, fun j hj => hcc j _ ?_⟩
  rw [List.getElem?_map, List.getElem?_eq_getElem hj]
  show some (Value.string L[j]) = _
  unfold lnG
  rw [List.getD_eq_getElem?_getD, List.getElem?_eq_getElem hj]
  rfl
theorem rdS_sl {w : World} {B : Nat} {v : Value} {L : List ByteArray} (h : Rd w B v L.length 1 (L.map Value.string)) : ∃ A c, v = .slice A L.length c := rd_sl h
theorem lnG_size {L : List ByteArray} {n : Nat} (h : ∀ z ∈ L, z.size ≤ n) (i : Nat) : (lnG L i).size ≤ n := by
  unfold lnG
  rw [List.getD_eq_getElem?_getD]
  cases e : L[i]? with
  | none => exact Nat.zero_le _
  | some x => exact h x (List.mem_of_getElem? e)
/-- a page, the first wrong line and its fault -/
def RetR3 (L : List ByteArray) (w : World) (e : Ending) (w' : World) : Prop :=
  ∃ v, e = .returned (.tuple #[.agg #[.string (rdP L).hd.nm, .int .i64 (rdP L).hd.a, .int .i64 (rdP L).hd.b, v], .int .i64 (rdP L).at', .int .i64 (rdP L).ft]) ∧ w'.ownsRow w.heap.size 2 1 v (rdP L).hd.n (tab (rdP L).hd.n (rwV L (rdP L).hd)) ∧ Below w.heap.size w w'
theorem RetR3.no {L : List ByteArray} {w w' : World} {k f : Int} (h : rdP L = ⟨⟨⟨#[]⟩, 0, 0, 0⟩, k, f⟩) (hb : Below w.heap.size w w') : RetR3 L w (.returned (.tuple #[.agg #[.string ⟨#[]⟩, .int .i64 0, .int .i64 0, .slice none 0 0], .int .i64 k, .int .i64 f])) w' := by
  unfold RetR3
  rw [h]
  exact ⟨_, rfl, ⟨rfl, .inl ⟨rfl, rfl⟩⟩, hb⟩
theorem RetR3.yes {L : List ByteArray} {w w' : World} {h : Hd} {v : Value} (hr : rdP L = ⟨h, -1, 0⟩) (ho : w'.ownsRow w.heap.size 2 1 v h.n (tab h.n (rwV L h))) (hb : Below w.heap.size w w') : RetR3 L w (.returned (.tuple #[.agg #[.string h.nm, .int .i64 h.a, .int .i64 h.b, v], .int .i64 (-1), .int .i64 0])) w' := by
  unfold RetR3
  rw [hr]
  exact ⟨_, rfl, ho, hb⟩
/-- what the rows ahead tell -/
structure RwOk (L : List ByteArray) (h : Hd) (i : Nat) : Prop where
  ok : ∀ j, j < i → rwF L h j = 0
theorem RwOk.zero (L : List ByteArray) (h : Hd) : RwOk L h 0 := ⟨fun _ h => absurd h (by omega)⟩
theorem RwOk.step {L : List ByteArray} {h : Hd} {i : Nat} (H : RwOk L h i) (hz : rwF L h i = 0) : RwOk L h (i + 1) := ⟨fun j hj => by
  by_cases e : j = i
  · subst e; exact hz
  · exact H.ok j (by omega)⟩
theorem rwF_in {L : List ByteArray} {h : Hd} {i : Nat} (hi : i + 1 < L.length) : rwF L h i = (rwR (lnG L (i + 1)) (argA h.a h.b i)).1 := if_pos hi
theorem rwF_out {L : List ByteArray} {h : Hd} {i : Nat} (hi : ¬ i + 1 < L.length) : rwF L h i = 2 := if_neg hi
theorem RwOk.vs {L : List ByteArray} {h : Hd} {n : Nat} (H : RwOk L h n) : ∀ i, i < n → isV (rwV L h i) = true := fun i hi => by
  have h5 := H.ok i hi
  have hl : i + 1 < L.length := by
    by_cases e : i + 1 < L.length
    · exact e
    · rw [rwF_out e] at h5; cases h5
  rw [rwF_in hl] at h5
  rcases rwR_cases (lnG L (i + 1)) (argA h.a h.b i) with ⟨_, _, h7⟩ | h6 | h6 | h6
  · exact h7
  · rw [h6] at h5; cases h5
  · rw [h6] at h5; cases h5
  · rw [h6] at h5; cases h5
set_option maxRecDepth 100000 in
set_option maxHeartbeats 6400000 in
theorem readPage_any (B : Nat) (v : Value) (L : List ByteArray) (w : World) (hR : Rd w B v L.length 1 (L.map Value.string)) (hB : B ≤ w.heap.size) (hs : ∀ z ∈ L, z.size ≤ 1000000) (hL : L.length ≤ 1000000) (ht : Tab w) : Calls Tryd.prog 39 #[v] w (RetR3 L w) := by
  obtain ⟨A, c, rfl⟩ := rdS_sl hR
  have Ht := Lib.hid ht
  have HB0 := Lib.hid (Below.refl (w.alloc (.cells #[.string ⟨#[]⟩, .int .i64 0, .int .i64 0, .slice none 0 0] 26)).heap.size (w.alloc (.cells #[.string ⟨#[]⟩, .int .i64 0, .int .i64 0, .slice none 0 0] 26)))
  by_cases h0 : L.length = 0
  · have HP := Lib.hid (rdP_nil h0)
    clear hR ht
    rw [h0]
    clear h0 hL
    go_enter Tryd.func39, Tryd.ntmps39
    go_wp2_with fail
    obtain ⟨⟨k0, k1, k2, k3⟩, -⟩ := res4A_pre HB0.out
    have hbz := (Below.refl w.heap.size w).alloc (Nat.le_refl _) (.cells #[.string ⟨#[]⟩, .int .i64 0, .int .i64 0, .slice none 0 0] 26)
    refine bodyPost_ret (v := .tuple #[.agg #[.string ⟨#[]⟩, .int .i64 0, .int .i64 0, .slice none 0 0], .int .i64 0, .int .i64 1]) (by simp [results, Tryd.results39, go_sem, k0, k1, k2, k3]) rfl ?_
    exact RetR3.no HP.out hbz
  · obtain ⟨-, gl, ol, hA, hgB, hcells⟩ := rdS_all hR (by omega)
    subst hA
    have HC := Lib.hid hcells
    have HH := Lib.hid (fun wx hx => readHead_any (lnG L 0) wx (lnG_size hs 0) hx)
    have c0 := hcells 0 (by omega)
    rw [Nat.add_zero] at c0
    have h0' : ¬ ((L.length : Int) = 0) := by omega
    have h00 : (0 : Int) < (L.length : Int) := by omega
    have hgl : gl < w.heap.size := by omega
    clear hcells hR ht
    cases hr : hdR (lnG L 0) with
    | none =>
      have HP := Lib.hid (rdP_head h0 hr)
      rw [hr] at HH
      clear hr h0
      generalize hLn : L.length = ln at *
      clear hLn
      generalize lnG L 0 = l0 at *
      have c0' := ((Below.refl w.heap.size w).alloc (Nat.le_refl _) (.cells #[.string ⟨#[]⟩, .int .i64 0, .int .i64 0, .slice none 0 0] 26)).cell (p := ⟨gl, ol, none⟩) hgl |>.trans c0
      go_enter Tryd.func39, Tryd.ntmps39
      go_wp2_with fail
      refine (HH.out _ (Ht.out.below ((Below.refl w.heap.size w).alloc (Nat.le_refl _) (.cells #[.string ⟨#[]⟩, .int .i64 0, .int .i64 0, .slice none 0 0] 26)))).mono ?_; rintro e w6 ⟨s, a, b, n, rfl, -, hb6⟩
      have HX := Lib.hid ((HB0.out.trans (hb6.mono HB0.out.size)).trans (((Below.refl w6.heap.size w6).alloc (Nat.le_refl _) (.cells #[.string s, .int .i64 a, .int .i64 b, .slice none 0 0] 26)).mono (Nat.le_trans HB0.out.size hb6.size)))
      obtain ⟨⟨d0, d1, d2, d3⟩, e0, e1, e2, e3⟩ := res4A_pre HX.out
      have HD := Lib.hid (res4A_post HX.out (.string ⟨#[]⟩) (.int .i64 0) (.int .i64 0) (.slice none 0 0))
      clear hb6 HB0
      go_wp2_with fail
      obtain ⟨⟨k0, k1, k2, k3⟩, hbz⟩ := HD.out
      refine bodyPost_ret (v := .tuple #[.agg #[.string ⟨#[]⟩, .int .i64 0, .int .i64 0, .slice none 0 0], .int .i64 (0), .int .i64 (1)]) (by simp [results, Tryd.results39, go_sem, k0, k1, k2, k3]) rfl ?_
      first | exact RetR3.no HP.out hbz | exact RetR3.no HP.out hbz.drew
    | some h =>
      have hdr := (hdR_text hr).2
      obtain ⟨_, hb1000, hn60, ha1m, _⟩ := hdOk_n hdr
      have HPr := Lib.hid (fun k (hk : k < h.n) hz hb => rdP_row h0 hr (k := k) hk hz hb)
      have HPe := Lib.hid (fun hz => rdP_end h0 hr hz)
      have Hsz := Lib.hid (lnG_size hs)
      rw [hr] at HH
      clear hr h0 hs
      obtain ⟨nm, a, b, n⟩ := h
      dsimp only at hdr hb1000 hn60 ha1m
      obtain ⟨h, hh⟩ : ∃ h : Hd, (⟨nm, a, b, n⟩ : Hd) = h := ⟨_, rfl⟩
      have hha : h.a = a := by rw [← hh]
      have hhb : h.b = b := by rw [← hh]
      have hhn : h.n = n := by rw [← hh]
      have hhm : h.nm = nm := by rw [← hh]
      rw [hh] at HPr HPe HH
      have Hha := Lib.hid hha
      have Hhb := Lib.hid hhb
      have Hhn := Lib.hid hhn
      have Hhm := Lib.hid hhm
      clear hh hha hhb hhn hhm hdr
      obtain ⟨ln, hLn⟩ : ∃ z, L.length = z := ⟨_, rfl⟩
      have HLn := Lib.hid hLn
      rw [hLn] at hL h0' h00 HC ⊢
      clear hLn
      obtain ⟨l0, hl0⟩ : ∃ z, lnG L 0 = z := ⟨_, rfl⟩
      rw [hl0] at HH c0
      clear hl0
      have c0' := ((Below.refl w.heap.size w).alloc (Nat.le_refl _) (.cells #[.string ⟨#[]⟩, .int .i64 0, .int .i64 0, .slice none 0 0] 26)).cell (p := ⟨gl, ol, none⟩) hgl |>.trans c0
      go_enter Tryd.func39, Tryd.ntmps39
      go_wp2_with fail
      obtain ⟨w0, hw0⟩ : ∃ z, w.alloc (.cells #[.string ⟨#[]⟩, .int .i64 0, .int .i64 0, .slice none 0 0] 26) = z := ⟨_, rfl⟩
      have HW0 := Lib.hid hw0
      have HWw := Lib.hid (show Below w.heap.size w w0 by rw [← hw0]; exact (Below.refl w.heap.size w).alloc (Nat.le_refl _) _)
      have HWz := Lib.hid (show w0.heap.size = w.heap.size + 1 by rw [← hw0]; simp)
      rw [hw0] at HB0 c0'
      (try rw [hw0])
      clear hw0
      refine (HH.out _ (Ht.out.below HWw.out)).mono ?_; rintro e w6 ⟨s', a', b', n', rfl, hsome, hb6⟩
      obtain ⟨e1, e2, e3, e4⟩ := hsome h rfl
      rw [Hhm.out] at e1
      rw [Hha.out] at e2
      rw [Hhb.out] at e3
      rw [Hhn.out] at e4
      subst e1 e2 e3 e4
      clear hsome c0 c0'
      go_upto_region 4 with (fail)
      have HQ := Lib.hid (PgW.new (HB0.out.trans (hb6.mono HB0.out.size)) s' a' b' (rwV L h))
      clear hb6
      generalize w6.alloc (.cells #[.string s', .int .i64 a', .int .i64 b', .slice none 0 0] 26) = wa at *
      generalize w6.heap.size = q at *
      go_wp2_with fail
      go_loopw [8] (fun i wr => ∃ (k : Nat) (v : Value), k ≤ n ∧ i = .int .i64 ((k : Int) + 1) ∧ PgW w0 wr q s' a' b' v k (rwV L h) ∧ RwOk L h k) (fun i _ => n + 1 - (intOf i).toNat)
      case atStart => exact ⟨0, _, Nat.zero_le _, by go_num, HQ.out, RwOk.zero _ _⟩
      case round =>
        clear HQ
        obtain ⟨k, vk, hk, rfl, hQ, hok⟩ := hrel
        have HQ := Lib.hid hQ
        have Hok := Lib.hid hok
        have HBw := Lib.hid (HWw.out.trans (hQ.bel.mono HWw.out.size))
        obtain ⟨Ak, ck, rfl⟩ := hQ.sl
        clear hQ hok
        by_cases hkn : k < n
        · have hkn' : (k : Int) + 1 ≤ (n : Int) := by omega
          by_cases hkl : k + 1 < ln
          · have hkl' : ¬ ((ln : Int) ≤ (k : Int) + 1) := by omega
            have hkl2 : (k : Int) + 1 < (ln : Int) := by omega
            have hkl3 : (0 : Int) ≤ (k : Int) + 1 := by omega
            have cl := (HBw.out.cell (p := ⟨gl, ol + (k + 1), none⟩) hgl).trans (HC.out (k + 1) hkl)
            have hP := arg_bd hkn hn60.2 hb1000
            have HF := Lib.hid (show rwF L h k = (rwR (lnG L (k + 1)) (argA a' b' k)).1 by rw [rwF_in (by rw [HLn.out]; exact hkl), Hha.out, Hhb.out])
            have HV := Lib.hid (show rwV L h k = (rwR (lnG L (k + 1)) (argA a' b' k)).2 by unfold rwV; rw [Hha.out, Hhb.out])
            have HRr := Lib.hid (readRow_any w0 q s' a' b' _ k (rwV L h) (lnG L (k + 1)) wr HQ.out (Hsz.out _) ha1m hP (by omega) (fun _ => HV.out) (Ht.out.below HBw.out))
            generalize lnG L (k + 1) = lk at *
            generalize hrr : rwR lk (argA a' b' k) = rr at *
            clear hP hrr HV HQ
            go_wp2_with fail
            refine HRr.out.mono ?_; rintro e w7 ⟨rfl, hb7, hnx⟩
            by_cases hz : rr.1 = 0
            · obtain ⟨v7, hQ7⟩ := hnx hz
              have HQ7 := Lib.hid hQ7
              have Hok7 := Lib.hid (Hok.out.step (by rw [HF.out, hz]))
              clear hQ7 hnx hb7 HF
              rw [hz]
              clear hz
              go_wp2_with fail
              go_roundw
              case rel => exact ⟨k + 1, v7, by omega, by go_num, HQ7.out, Hok7.out⟩
              case measure => first | (simp [intOf]; done) | (simp [intOf]; omega)
            · have HPx := Lib.hid (HPr.out k (by rw [Hhn.out]; exact hkn) Hok.out.ok (by rw [HF.out]; exact hz))
              have hz2 : (rr.1 == 0) = false := by simp [hz]
              have HP := Lib.hid (show rdP L = ⟨⟨⟨#[]⟩, 0, 0, 0⟩, (k : Int) + 1, rr.1⟩ by rw [HPx.out, HF.out])
              have HX := Lib.hid (HB0.out.trans hb7)
              rw [← HW0.out] at HX
              obtain ⟨⟨d0, d1, d2, d3⟩, e0, e1, e2, e3⟩ := res4A_pre HX.out
              have HD := Lib.hid (res4A_post HX.out (.string ⟨#[]⟩) (.int .i64 0) (.int .i64 0) (.slice none 0 0))
              clear hb7 hnx HPx HF
              generalize rr.1 = f at *
              go_wp2_with fail
              obtain ⟨⟨k0, k1, k2, k3⟩, hbz⟩ := HD.out
              refine bodyPost_ret (v := .tuple #[.agg #[.string ⟨#[]⟩, .int .i64 0, .int .i64 0, .slice none 0 0], .int .i64 ((k : Int) + 1), .int .i64 (f)]) (by simp [results, Tryd.results39, go_sem, k0, k1, k2, k3]) rfl ?_
              first | exact RetR3.no HP.out hbz | exact RetR3.no HP.out hbz.drew
          · have hkl' : (ln : Int) ≤ (k : Int) + 1 := by omega
            have HFk := Lib.hid (show rwF L h k = 2 from rwF_out (by rw [HLn.out]; exact hkl))
            have HPx := Lib.hid (HPr.out k (by rw [Hhn.out]; exact hkn) Hok.out.ok (by rw [HFk.out]; decide))
            have HP := Lib.hid (show rdP L = ⟨⟨⟨#[]⟩, 0, 0, 0⟩, (k : Int) + 1, 2⟩ by rw [HPx.out, HFk.out])
            have HX := Lib.hid (HB0.out.trans HQ.out.bel)
            rw [← HW0.out] at HX
            obtain ⟨⟨d0, d1, d2, d3⟩, e0, e1, e2, e3⟩ := res4A_pre HX.out
            have HD := Lib.hid (res4A_post HX.out (.string ⟨#[]⟩) (.int .i64 0) (.int .i64 0) (.slice none 0 0))
            clear HPx HFk
            go_wp2_with fail
            obtain ⟨⟨k0, k1, k2, k3⟩, hbz⟩ := HD.out
            refine bodyPost_ret (v := .tuple #[.agg #[.string ⟨#[]⟩, .int .i64 0, .int .i64 0, .slice none 0 0], .int .i64 ((k : Int) + 1), .int .i64 (2)]) (by simp [results, Tryd.results39, go_sem, k0, k1, k2, k3]) rfl ?_
            first | exact RetR3.no HP.out hbz | exact RetR3.no HP.out hbz.drew
        · obtain rfl : k = n := by omega
          have hkn' : ¬ ((k : Int) + 1 ≤ (k : Int)) := by omega
          have HPz := Lib.hid (HPe.out (by rw [Hhn.out]; exact Hok.out.ok))
          have hw2 : IntKind.i64.wrap ((k : Int) + 2) = (k : Int) + 2 := IntWalk.i64_in _ (by omega)
          by_cases hlen : ln = k + 2
          · obtain ⟨k1, hk1⟩ : ∃ k1, k + 1 = k1 := ⟨_, rfl⟩
            have hw2 : IntKind.i64.wrap ((k : Int) + 2) = (ln : Int) := by rw [hw2]; omega
            have hw1 : IntKind.i64.wrap ((k : Int) + 1) = (k1 : Int) := by rw [← hk1]; exact IntWalk.i64_in _ (by omega)
            have hl2 : (k1 : Int) < (ln : Int) := by omega
            have hl3 : (0 : Int) ≤ (k1 : Int) := by omega
            have cl := (HBw.out.cell (p := ⟨gl, ol + k1, none⟩) hgl).trans (HC.out k1 (by omega))
            rw [show lnG L k1 = lnG L (k + 1) by rw [hk1]] at cl
            have Hk1 := Lib.hid hk1
            clear hk1
            have HFt := Lib.hid (fun wx hR hz hx => footLine_c wr.heap.size s' a' b' Ak k ck (rwV L h) wx hR hz hn60.2 (by omega) Hok.out.vs hx)
            have hglr : gl < wr.heap.size := Nat.lt_of_lt_of_le hgl HBw.out.size
            have hqr := HQ.out.qlt
            by_cases hft : lnG L (k + 1) = footB (rwV L h) k
            · have HP := Lib.hid (show rdP L = ⟨h, -1, 0⟩ by rw [HPz.out, Hhn.out, if_pos ⟨by rw [HLn.out]; exact hlen, hft⟩])
              rw [hft] at cl
              generalize footB (rwV L h) k = Z at *
              clear hft hlen HPz
              obtain ⟨p0, p1, p2, p3, -⟩ := HQ.out.cells
              go_upto_region 14 with (fail)
              refine wp_region_noPanic ?_
              refine wp_region_L [] (fun w' => w'.cell? ⟨q, 0, none⟩ = some (.string s') ∧ w'.cell? ⟨q, 1, none⟩ = some (.int .i64 a') ∧ w'.cell? ⟨q, 2, none⟩ = some (.int .i64 b') ∧ w'.cell? ⟨q, 3, none⟩ = some (.slice Ak k ck) ∧ w'.cell? ⟨gl, ol + k1, none⟩ = some (.string Z)) (by kernel_rfl) (⟨p0, p1, p2, p3, cl⟩) (fun hHeld => ?_)
              refine take_F (i := 0) (d := some 46) (v := ?_) (by kernel_rfl) (by kernel_rfl) rfl rfl (by kernel_rfl) (by kernel_rfl) (by kernel_rfl) (fun _ _ _ h => h) (Or.inl ⟨by rfl, ?_⟩) (by assumption) ?_
              rotate_left
              · (intro w hSw; (try dsimp only at hSw); go_simp; (try rw [if_neg (by omega)]); (try (with_reducible rfl)))
              simp only [Act.put, List.setIfInBounds_toArray, List.set_cons_zero, List.set_cons_succ]
              refine take_F (i := 1) (d := some 47) (v := ?_) (by kernel_rfl) (by kernel_rfl) rfl rfl (by kernel_rfl) (by kernel_rfl) (by kernel_rfl) (fun _ _ _ h => h) (Or.inl ⟨by rfl, ?_⟩) (by assumption) ?_
              rotate_left
              · (intro w hSw; (try dsimp only at hSw); go_simp; (try rw [if_neg (by omega)]); (try (with_reducible rfl)))
              simp only [Act.put, List.setIfInBounds_toArray, List.set_cons_zero, List.set_cons_succ]
              refine take_F (i := 2) (d := some 48) (v := ?_) (by kernel_rfl) (by kernel_rfl) rfl rfl (by kernel_rfl) (by kernel_rfl) (by kernel_rfl) (fun _ _ _ h => h) (Or.inl ⟨by rfl, ?_⟩) (by assumption) ?_
              rotate_left
              · (intro w hSw; (try dsimp only at hSw); go_simp; (try rw [if_neg (by omega)]); (try (with_reducible rfl)))
              simp only [Act.put, List.setIfInBounds_toArray, List.set_cons_zero, List.set_cons_succ]
              refine take_F (i := 3) (d := some 49) (v := ?_) (by kernel_rfl) (by kernel_rfl) rfl rfl (by kernel_rfl) (by kernel_rfl) (by kernel_rfl) (fun _ _ _ h => h) (Or.inl ⟨by rfl, ?_⟩) (by assumption) ?_
              rotate_left
              · (intro w hSw; (try dsimp only at hSw); go_simp; (try rw [if_neg (by omega)]); (try (with_reducible rfl)))
              simp only [Act.put, List.setIfInBounds_toArray, List.set_cons_zero, List.set_cons_succ]
              refine take_F (i := 4) (d := some 50) (v := (.bool false)) (by kernel_rfl) (by kernel_rfl) rfl rfl (by kernel_rfl) (by kernel_rfl) (by kernel_rfl) (fun _ _ _ h => h) (Or.inl ⟨by rfl, ?_⟩) (by assumption) ?_
              · (intro w hSw; (try dsimp only at hSw); go_simp <;> first | omega | (simp; done) | (simp; omega))
              simp only [Act.put, List.setIfInBounds_toArray, List.set_cons_zero, List.set_cons_succ]
              refine take_F (i := 5) (d := some 51) (v := ?_) (by kernel_rfl) (by kernel_rfl) rfl rfl (by kernel_rfl) (by kernel_rfl) (by kernel_rfl) (fun _ _ _ h => h) (Or.inl ⟨by rfl, ?_⟩) (by assumption) ?_
              rotate_left
              · (intro w hSw; (try dsimp only at hSw); go_simp; (try rw [if_neg (by omega)]); (try (with_reducible rfl)))
              simp only [Act.put, List.setIfInBounds_toArray, List.set_cons_zero, List.set_cons_succ]
              refine take_F (i := 6) (d := some 52) (v := ?_) (by kernel_rfl) (by kernel_rfl) rfl rfl (by kernel_rfl) (by kernel_rfl) (by kernel_rfl) (fun _ _ _ h => h) (Or.inl ⟨by rfl, ?_⟩) (by assumption) ?_
              rotate_left
              · (intro w hSw; (try dsimp only at hSw); go_simp; (try rw [if_neg (by omega)]); (try (with_reducible rfl)))
              simp only [Act.put, List.setIfInBounds_toArray, List.set_cons_zero, List.set_cons_succ]
              refine take_F (i := 7) (d := some 53) (v := ?_) (by kernel_rfl) (by kernel_rfl) rfl rfl (by kernel_rfl) (by kernel_rfl) (by kernel_rfl) (fun _ _ _ h => h) (Or.inl ⟨by rfl, ?_⟩) (by assumption) ?_
              rotate_left
              · (intro w hSw; (try dsimp only at hSw); go_simp; (try rw [if_neg (by omega)]); (try (with_reducible rfl)))
              simp only [Act.put, List.setIfInBounds_toArray, List.set_cons_zero, List.set_cons_succ]
              refine take_F (i := 8) (d := some 54) (v := ?_) (by kernel_rfl) (by kernel_rfl) rfl rfl (by kernel_rfl) (by kernel_rfl) (by kernel_rfl) (fun _ _ _ h => h) (Or.inl ⟨by rfl, ?_⟩) (by assumption) ?_
              rotate_left
              · (intro w hSw; (try dsimp only at hSw); go_simp; (try rw [if_neg (by omega)]); (try (with_reducible rfl)))
              simp only [Act.put, List.setIfInBounds_toArray, List.set_cons_zero, List.set_cons_succ]
              refine take_F (i := 9) (d := some 55) (v := ?_) (by kernel_rfl) (by kernel_rfl) rfl rfl (by kernel_rfl) (by kernel_rfl) (by kernel_rfl) (fun _ _ _ h => h) (Or.inl ⟨by rfl, ?_⟩) (by assumption) ?_
              rotate_left
              · (intro w hSw; (try dsimp only at hSw); go_simp; (try rw [if_neg (by omega)]); (try (with_reducible rfl)))
              simp only [Act.put, List.setIfInBounds_toArray, List.set_cons_zero, List.set_cons_succ]
              refine take_L [13,10] (i := 10) (d := some 56) (v := ?_) (by kernel_rfl) (by kernel_rfl) (by kernel_rfl) (by kernel_rfl) rfl rfl (by kernel_rfl) (by kernel_rfl) (by kernel_rfl) (fun _ _ _ h => h) (Or.inl ⟨by rfl, ?_⟩) (by assumption) ?_
              rotate_left
              · (intro w hSw; (try dsimp only at hSw); go_simp; (try rw [if_neg (by omega)]); (try (with_reducible rfl)))
              simp only [Act.put, List.setIfInBounds_toArray, List.set_cons_zero, List.set_cons_succ]
              refine take_L [13,12,11] (i := 11) (d := some 57) (v := ?_) (by kernel_rfl) (by kernel_rfl) (by kernel_rfl) (by kernel_rfl) rfl rfl (by kernel_rfl) (by kernel_rfl) (by kernel_rfl) (fun _ _ _ h => h) (Or.inl ⟨by rfl, ?_⟩) (by assumption) ?_
              rotate_left
              · (intro w hSw; (try dsimp only at hSw); go_simp; (try rw [if_neg (by omega)]); (try (with_reducible rfl)))
              simp only [Act.put, List.setIfInBounds_toArray, List.set_cons_zero, List.set_cons_succ]
              refine call_L (i := 12) (d := (some 58)) rfl rfl (by kernel_rfl) (fun Kq hKq => ?_)
              go_simp
              go_at_call 35
              refine (HFt.out _ ((Rd.of_own HQ.out.cur).drewN 1) (Nat.le_refl _) ((Ht.out.below HBw.out).below (Below.refl _ _).drew)).mono ?_; rintro e w8 ⟨rfl, hb8⟩
              have HQ8 := Lib.hid (HQ.out.below (below_undrew hb8))
              obtain ⟨r0, r1, r2, r3, -⟩ := HQ8.out.cells
              have r4 := ((below_undrew hb8).cell (p := ⟨gl, ol + k1, none⟩) hglr).trans cl
              clear hb8
              (try go_wp2_with fail)
              refine hKq.out _ _ (⟨r0, r1, r2, r3, r4⟩) (fun hHeld => ?_)
              clear hKq Kq
              (try simp only [Act.put, List.setIfInBounds_toArray, List.set_cons_zero, List.set_cons_succ])
              refine take_F (i := 13) (d := some 59) (v := ?_) (by kernel_rfl) (by kernel_rfl) rfl rfl (by kernel_rfl) (by kernel_rfl) (by kernel_rfl) (fun _ _ _ h => h) (Or.inl ⟨by rfl, ?_⟩) (by assumption) ?_
              rotate_left
              · (intro w hSw; (try dsimp only at hSw); go_simp; (try rw [if_neg (by omega)]); (try (with_reducible rfl)))
              simp only [Act.put, List.setIfInBounds_toArray, List.set_cons_zero, List.set_cons_succ]
              refine take_F (i := 14) (d := some 60) (v := ?_) (by kernel_rfl) (by kernel_rfl) rfl rfl (by kernel_rfl) (by kernel_rfl) (by kernel_rfl) (fun _ _ _ h => h) (Or.inl ⟨by rfl, ?_⟩) (by assumption) ?_
              rotate_left
              · (intro w hSw; (try dsimp only at hSw); go_simp; (try rw [if_neg (by omega)]); (try (with_reducible rfl)))
              simp only [Act.put, List.setIfInBounds_toArray, List.set_cons_zero, List.set_cons_succ]
              refine done_L (by kernel_rfl) ?_ _
              refine NoPanic.normal ?_
              obtain ⟨r0, r1, r2, r3, -⟩ := HQ8.out.cells
              have HX := Lib.hid (HB0.out.trans HQ8.out.bel)
              rw [← HW0.out] at HX
              obtain ⟨⟨d0, d1, d2, d3⟩, e0, e1, e2, e3⟩ := res4A_pre HX.out
              have HD := Lib.hid (res4A_post HX.out (.string s') (.int .i64 a') (.int .i64 b') (.slice Ak k ck))
              have HOw := Lib.hid (ownsRow_le (set4_own HQ8.out.cur (show w.heap.size < w0.heap.size by rw [HWz.out]; omega) (.string s') (.int .i64 a') (.int .i64 b') (.slice Ak k ck)) (show w.heap.size ≤ w0.heap.size by rw [HWz.out]; omega))
              go_wp2_with fail
              obtain ⟨⟨k0, k1, k2, k3⟩, hbz⟩ := HD.out
              refine bodyPost_ret (v := .tuple #[.agg #[.string s', .int .i64 a', .int .i64 b', .slice Ak k ck], .int .i64 (-1), .int .i64 0]) (by simp [results, Tryd.results39, go_sem, k0, k1, k2, k3]) rfl ?_
              have hz := RetR3.yes (w := w) (v := .slice Ak k ck) HP.out (by rw [Hhn.out]; exact HOw.out) hbz
              rw [Hhm.out, Hha.out, Hhb.out] at hz
              exact hz
            · have HP := Lib.hid (show rdP L = ⟨⟨⟨#[]⟩, 0, 0, 0⟩, (k : Int) + 1, 5⟩ by rw [HPz.out, Hhn.out, if_neg (fun e => hft e.2)])
              have hft' := ba_neq hft
              generalize footB (rwV L h) k = Z at *
              generalize lnG L (k + 1) = lz at *
              clear hft hlen HPz
              obtain ⟨p0, p1, p2, p3, -⟩ := HQ.out.cells
              go_upto_region 14 with (fail)
              refine wp_region_noPanic ?_
              refine wp_region_L [] (fun w' => w'.cell? ⟨q, 0, none⟩ = some (.string s') ∧ w'.cell? ⟨q, 1, none⟩ = some (.int .i64 a') ∧ w'.cell? ⟨q, 2, none⟩ = some (.int .i64 b') ∧ w'.cell? ⟨q, 3, none⟩ = some (.slice Ak k ck) ∧ w'.cell? ⟨gl, ol + k1, none⟩ = some (.string lz)) (by kernel_rfl) (⟨p0, p1, p2, p3, cl⟩) (fun hHeld => ?_)
              refine take_F (i := 0) (d := some 46) (v := ?_) (by kernel_rfl) (by kernel_rfl) rfl rfl (by kernel_rfl) (by kernel_rfl) (by kernel_rfl) (fun _ _ _ h => h) (Or.inl ⟨by rfl, ?_⟩) (by assumption) ?_
              rotate_left
              · (intro w hSw; (try dsimp only at hSw); go_simp; (try rw [if_neg (by omega)]); (try (with_reducible rfl)))
              simp only [Act.put, List.setIfInBounds_toArray, List.set_cons_zero, List.set_cons_succ]
              refine take_F (i := 1) (d := some 47) (v := ?_) (by kernel_rfl) (by kernel_rfl) rfl rfl (by kernel_rfl) (by kernel_rfl) (by kernel_rfl) (fun _ _ _ h => h) (Or.inl ⟨by rfl, ?_⟩) (by assumption) ?_
              rotate_left
              · (intro w hSw; (try dsimp only at hSw); go_simp; (try rw [if_neg (by omega)]); (try (with_reducible rfl)))
              simp only [Act.put, List.setIfInBounds_toArray, List.set_cons_zero, List.set_cons_succ]
              refine take_F (i := 2) (d := some 48) (v := ?_) (by kernel_rfl) (by kernel_rfl) rfl rfl (by kernel_rfl) (by kernel_rfl) (by kernel_rfl) (fun _ _ _ h => h) (Or.inl ⟨by rfl, ?_⟩) (by assumption) ?_
              rotate_left
              · (intro w hSw; (try dsimp only at hSw); go_simp; (try rw [if_neg (by omega)]); (try (with_reducible rfl)))
              simp only [Act.put, List.setIfInBounds_toArray, List.set_cons_zero, List.set_cons_succ]
              refine take_F (i := 3) (d := some 49) (v := ?_) (by kernel_rfl) (by kernel_rfl) rfl rfl (by kernel_rfl) (by kernel_rfl) (by kernel_rfl) (fun _ _ _ h => h) (Or.inl ⟨by rfl, ?_⟩) (by assumption) ?_
              rotate_left
              · (intro w hSw; (try dsimp only at hSw); go_simp; (try rw [if_neg (by omega)]); (try (with_reducible rfl)))
              simp only [Act.put, List.setIfInBounds_toArray, List.set_cons_zero, List.set_cons_succ]
              refine take_F (i := 4) (d := some 50) (v := (.bool false)) (by kernel_rfl) (by kernel_rfl) rfl rfl (by kernel_rfl) (by kernel_rfl) (by kernel_rfl) (fun _ _ _ h => h) (Or.inl ⟨by rfl, ?_⟩) (by assumption) ?_
              · (intro w hSw; (try dsimp only at hSw); go_simp <;> first | omega | (simp; done) | (simp; omega))
              simp only [Act.put, List.setIfInBounds_toArray, List.set_cons_zero, List.set_cons_succ]
              refine take_F (i := 5) (d := some 51) (v := ?_) (by kernel_rfl) (by kernel_rfl) rfl rfl (by kernel_rfl) (by kernel_rfl) (by kernel_rfl) (fun _ _ _ h => h) (Or.inl ⟨by rfl, ?_⟩) (by assumption) ?_
              rotate_left
              · (intro w hSw; (try dsimp only at hSw); go_simp; (try rw [if_neg (by omega)]); (try (with_reducible rfl)))
              simp only [Act.put, List.setIfInBounds_toArray, List.set_cons_zero, List.set_cons_succ]
              refine take_F (i := 6) (d := some 52) (v := ?_) (by kernel_rfl) (by kernel_rfl) rfl rfl (by kernel_rfl) (by kernel_rfl) (by kernel_rfl) (fun _ _ _ h => h) (Or.inl ⟨by rfl, ?_⟩) (by assumption) ?_
              rotate_left
              · (intro w hSw; (try dsimp only at hSw); go_simp; (try rw [if_neg (by omega)]); (try (with_reducible rfl)))
              simp only [Act.put, List.setIfInBounds_toArray, List.set_cons_zero, List.set_cons_succ]
              refine take_F (i := 7) (d := some 53) (v := ?_) (by kernel_rfl) (by kernel_rfl) rfl rfl (by kernel_rfl) (by kernel_rfl) (by kernel_rfl) (fun _ _ _ h => h) (Or.inl ⟨by rfl, ?_⟩) (by assumption) ?_
              rotate_left
              · (intro w hSw; (try dsimp only at hSw); go_simp; (try rw [if_neg (by omega)]); (try (with_reducible rfl)))
              simp only [Act.put, List.setIfInBounds_toArray, List.set_cons_zero, List.set_cons_succ]
              refine take_F (i := 8) (d := some 54) (v := ?_) (by kernel_rfl) (by kernel_rfl) rfl rfl (by kernel_rfl) (by kernel_rfl) (by kernel_rfl) (fun _ _ _ h => h) (Or.inl ⟨by rfl, ?_⟩) (by assumption) ?_
              rotate_left
              · (intro w hSw; (try dsimp only at hSw); go_simp; (try rw [if_neg (by omega)]); (try (with_reducible rfl)))
              simp only [Act.put, List.setIfInBounds_toArray, List.set_cons_zero, List.set_cons_succ]
              refine take_F (i := 9) (d := some 55) (v := ?_) (by kernel_rfl) (by kernel_rfl) rfl rfl (by kernel_rfl) (by kernel_rfl) (by kernel_rfl) (fun _ _ _ h => h) (Or.inl ⟨by rfl, ?_⟩) (by assumption) ?_
              rotate_left
              · (intro w hSw; (try dsimp only at hSw); go_simp; (try rw [if_neg (by omega)]); (try (with_reducible rfl)))
              simp only [Act.put, List.setIfInBounds_toArray, List.set_cons_zero, List.set_cons_succ]
              refine take_L [13,10] (i := 10) (d := some 56) (v := ?_) (by kernel_rfl) (by kernel_rfl) (by kernel_rfl) (by kernel_rfl) rfl rfl (by kernel_rfl) (by kernel_rfl) (by kernel_rfl) (fun _ _ _ h => h) (Or.inl ⟨by rfl, ?_⟩) (by assumption) ?_
              rotate_left
              · (intro w hSw; (try dsimp only at hSw); go_simp; (try rw [if_neg (by omega)]); (try (with_reducible rfl)))
              simp only [Act.put, List.setIfInBounds_toArray, List.set_cons_zero, List.set_cons_succ]
              refine take_L [13,12,11] (i := 11) (d := some 57) (v := ?_) (by kernel_rfl) (by kernel_rfl) (by kernel_rfl) (by kernel_rfl) rfl rfl (by kernel_rfl) (by kernel_rfl) (by kernel_rfl) (fun _ _ _ h => h) (Or.inl ⟨by rfl, ?_⟩) (by assumption) ?_
              rotate_left
              · (intro w hSw; (try dsimp only at hSw); go_simp; (try rw [if_neg (by omega)]); (try (with_reducible rfl)))
              simp only [Act.put, List.setIfInBounds_toArray, List.set_cons_zero, List.set_cons_succ]
              refine call_L (i := 12) (d := (some 58)) rfl rfl (by kernel_rfl) (fun Kq hKq => ?_)
              go_simp
              go_at_call 35
              refine (HFt.out _ ((Rd.of_own HQ.out.cur).drewN 1) (Nat.le_refl _) ((Ht.out.below HBw.out).below (Below.refl _ _).drew)).mono ?_; rintro e w8 ⟨rfl, hb8⟩
              have HQ8 := Lib.hid (HQ.out.below (below_undrew hb8))
              obtain ⟨r0, r1, r2, r3, -⟩ := HQ8.out.cells
              have r4 := ((below_undrew hb8).cell (p := ⟨gl, ol + k1, none⟩) hglr).trans cl
              clear hb8
              (try go_wp2_with fail)
              refine hKq.out _ _ (⟨r0, r1, r2, r3, r4⟩) (fun hHeld => ?_)
              clear hKq Kq
              (try simp only [Act.put, List.setIfInBounds_toArray, List.set_cons_zero, List.set_cons_succ])
              refine take_F (i := 13) (d := some 59) (v := ?_) (by kernel_rfl) (by kernel_rfl) rfl rfl (by kernel_rfl) (by kernel_rfl) (by kernel_rfl) (fun _ _ _ h => h) (Or.inl ⟨by rfl, ?_⟩) (by assumption) ?_
              rotate_left
              · (intro w hSw; (try dsimp only at hSw); go_simp; (try rw [if_neg (by omega)]); (try (with_reducible rfl)))
              simp only [Act.put, List.setIfInBounds_toArray, List.set_cons_zero, List.set_cons_succ]
              refine take_F (i := 14) (d := some 60) (v := ?_) (by kernel_rfl) (by kernel_rfl) rfl rfl (by kernel_rfl) (by kernel_rfl) (by kernel_rfl) (fun _ _ _ h => h) (Or.inl ⟨by rfl, ?_⟩) (by assumption) ?_
              rotate_left
              · (intro w hSw; (try dsimp only at hSw); go_simp; (try rw [if_neg (by omega)]); (try (with_reducible rfl)))
              simp only [Act.put, List.setIfInBounds_toArray, List.set_cons_zero, List.set_cons_succ]
              refine done_L (by kernel_rfl) ?_ _
              refine NoPanic.normal ?_
              have HX := Lib.hid (HB0.out.trans HQ8.out.bel)
              rw [← HW0.out] at HX
              obtain ⟨⟨d0, d1, d2, d3⟩, e0, e1, e2, e3⟩ := res4A_pre HX.out
              have HD := Lib.hid (res4A_post HX.out (.string ⟨#[]⟩) (.int .i64 0) (.int .i64 0) (.slice none 0 0))
              clear hw1
              go_wp2_with fail
              obtain ⟨⟨k0, k1, k2, k3⟩, hbz⟩ := HD.out
              refine bodyPost_ret (v := .tuple #[.agg #[.string ⟨#[]⟩, .int .i64 0, .int .i64 0, .slice none 0 0], .int .i64 ((k : Int) + 1), .int .i64 (5)]) (by simp [results, Tryd.results39, go_sem, k0, k1, k2, k3]) rfl ?_
              first | exact RetR3.no HP.out hbz | exact RetR3.no HP.out hbz.drew
          · have HP := Lib.hid (show rdP L = ⟨⟨⟨#[]⟩, 0, 0, 0⟩, (k : Int) + 1, 5⟩ by rw [HPz.out, Hhn.out, if_neg (fun e => hlen (by rw [← HLn.out]; exact e.1))])
            have hlen' : ¬ ((ln : Int) = (k : Int) + 2) := by omega
            have hl3 : ((ln : Int) == (k : Int) + 2) = false := by simp [hlen']
            have HX := Lib.hid (HB0.out.trans HQ.out.bel)
            rw [← HW0.out] at HX
            obtain ⟨⟨d0, d1, d2, d3⟩, e0, e1, e2, e3⟩ := res4A_pre HX.out
            have HD := Lib.hid (res4A_post HX.out (.string ⟨#[]⟩) (.int .i64 0) (.int .i64 0) (.slice none 0 0))
            clear hlen HPz
            go_upto_region 14 with (fail)
            refine wp_region_noPanic ?_
            refine wp_region_L [] (fun _ => True) (by kernel_rfl) (trivial) (fun hHeld => ?_)
            refine take_F (i := 0) (d := some 46) (v := ?_) (by kernel_rfl) (by kernel_rfl) rfl rfl (by kernel_rfl) (by kernel_rfl) (by kernel_rfl) (fun _ _ _ h => h) (Or.inl ⟨by rfl, ?_⟩) (by assumption) ?_
            rotate_left
            · (intro w hSw; (try dsimp only at hSw); go_simp; (try rw [if_neg (by omega)]); (try (with_reducible rfl)))
            simp only [Act.put, List.setIfInBounds_toArray, List.set_cons_zero, List.set_cons_succ]
            refine take_F (i := 1) (d := some 47) (v := ?_) (by kernel_rfl) (by kernel_rfl) rfl rfl (by kernel_rfl) (by kernel_rfl) (by kernel_rfl) (fun _ _ _ h => h) (Or.inl ⟨by rfl, ?_⟩) (by assumption) ?_
            rotate_left
            · (intro w hSw; (try dsimp only at hSw); go_simp; (try rw [if_neg (by omega)]); (try (with_reducible rfl)))
            simp only [Act.put, List.setIfInBounds_toArray, List.set_cons_zero, List.set_cons_succ]
            refine take_F (i := 2) (d := some 48) (v := ?_) (by kernel_rfl) (by kernel_rfl) rfl rfl (by kernel_rfl) (by kernel_rfl) (by kernel_rfl) (fun _ _ _ h => h) (Or.inl ⟨by rfl, ?_⟩) (by assumption) ?_
            rotate_left
            · (intro w hSw; (try dsimp only at hSw); go_simp; (try rw [if_neg (by omega)]); (try (with_reducible rfl)))
            simp only [Act.put, List.setIfInBounds_toArray, List.set_cons_zero, List.set_cons_succ]
            refine take_F (i := 3) (d := some 49) (v := ?_) (by kernel_rfl) (by kernel_rfl) rfl rfl (by kernel_rfl) (by kernel_rfl) (by kernel_rfl) (fun _ _ _ h => h) (Or.inl ⟨by rfl, ?_⟩) (by assumption) ?_
            rotate_left
            · (intro w hSw; (try dsimp only at hSw); go_simp; (try rw [if_neg (by omega)]); (try (with_reducible rfl)))
            simp only [Act.put, List.setIfInBounds_toArray, List.set_cons_zero, List.set_cons_succ]
            refine take_F (i := 4) (d := some 50) (v := (.bool true)) (by kernel_rfl) (by kernel_rfl) rfl rfl (by kernel_rfl) (by kernel_rfl) (by kernel_rfl) (fun _ _ _ h => h) (Or.inl ⟨by rfl, ?_⟩) (by assumption) ?_
            · (intro w hSw; (try dsimp only at hSw); go_simp <;> first | omega | (simp; done) | (simp; omega))
            simp only [Act.put, List.setIfInBounds_toArray, List.set_cons_zero, List.set_cons_succ]
            refine take_F (i := 5) (d := some 51) (v := ?_) (by kernel_rfl) (by kernel_rfl) rfl rfl (by kernel_rfl) (by kernel_rfl) (by kernel_rfl) (fun _ _ _ h => h) (Or.inl ⟨by rfl, ?_⟩) (by assumption) ?_
            rotate_left
            · (intro w hSw; (try dsimp only at hSw); go_simp; (try rw [if_neg (by omega)]); (try (with_reducible rfl)))
            simp only [Act.put, List.setIfInBounds_toArray, List.set_cons_zero, List.set_cons_succ]
            refine take_F (i := 6) (d := some 52) (v := undef) (by kernel_rfl) (by kernel_rfl) rfl rfl (by kernel_rfl) (by kernel_rfl) (by kernel_rfl) (fun _ _ _ h => h) (Or.inr ⟨by rfl, rfl⟩) (by assumption) ?_
            simp only [Act.put, List.setIfInBounds_toArray, List.set_cons_zero, List.set_cons_succ]
            refine take_F (i := 7) (d := some 53) (v := undef) (by kernel_rfl) (by kernel_rfl) rfl rfl (by kernel_rfl) (by kernel_rfl) (by kernel_rfl) (fun _ _ _ h => h) (Or.inr ⟨by rfl, rfl⟩) (by assumption) ?_
            simp only [Act.put, List.setIfInBounds_toArray, List.set_cons_zero, List.set_cons_succ]
            refine take_F (i := 8) (d := some 54) (v := undef) (by kernel_rfl) (by kernel_rfl) rfl rfl (by kernel_rfl) (by kernel_rfl) (by kernel_rfl) (fun _ _ _ h => h) (Or.inr ⟨by rfl, rfl⟩) (by assumption) ?_
            simp only [Act.put, List.setIfInBounds_toArray, List.set_cons_zero, List.set_cons_succ]
            refine take_F (i := 9) (d := some 55) (v := undef) (by kernel_rfl) (by kernel_rfl) rfl rfl (by kernel_rfl) (by kernel_rfl) (by kernel_rfl) (fun _ _ _ h => h) (Or.inr ⟨by rfl, rfl⟩) (by assumption) ?_
            simp only [Act.put, List.setIfInBounds_toArray, List.set_cons_zero, List.set_cons_succ]
            refine take_F (i := 10) (d := some 56) (v := undef) (by kernel_rfl) (by kernel_rfl) rfl rfl (by kernel_rfl) (by kernel_rfl) (by kernel_rfl) (fun _ _ _ h => h) (Or.inr ⟨by rfl, rfl⟩) (by assumption) ?_
            simp only [Act.put, List.setIfInBounds_toArray, List.set_cons_zero, List.set_cons_succ]
            refine take_F (i := 11) (d := some 57) (v := undef) (by kernel_rfl) (by kernel_rfl) rfl rfl (by kernel_rfl) (by kernel_rfl) (by kernel_rfl) (fun _ _ _ h => h) (Or.inr ⟨by rfl, rfl⟩) (by assumption) ?_
            simp only [Act.put, List.setIfInBounds_toArray, List.set_cons_zero, List.set_cons_succ]
            refine call_L (i := 12) (d := (some 58)) rfl rfl (by kernel_rfl) (fun Kq hKq => ?_)
            go_simp
            refine hKq.out _ _ (trivial) (fun hHeld => ?_)
            clear hKq Kq
            (try simp only [Act.put, List.setIfInBounds_toArray, List.set_cons_zero, List.set_cons_succ])
            refine take_F (i := 13) (d := some 59) (v := undef) (by kernel_rfl) (by kernel_rfl) rfl rfl (by kernel_rfl) (by kernel_rfl) (by kernel_rfl) (fun _ _ _ h => h) (Or.inr ⟨by rfl, rfl⟩) (by assumption) ?_
            simp only [Act.put, List.setIfInBounds_toArray, List.set_cons_zero, List.set_cons_succ]
            refine take_F (i := 14) (d := some 60) (v := ?_) (by kernel_rfl) (by kernel_rfl) rfl rfl (by kernel_rfl) (by kernel_rfl) (by kernel_rfl) (fun _ _ _ h => h) (Or.inl ⟨by rfl, ?_⟩) (by assumption) ?_
            rotate_left
            · (intro w hSw; (try dsimp only at hSw); go_simp; (try rw [if_neg (by omega)]); (try (with_reducible rfl)))
            simp only [Act.put, List.setIfInBounds_toArray, List.set_cons_zero, List.set_cons_succ]
            refine done_L (by kernel_rfl) ?_ _
            refine NoPanic.normal ?_
            go_wp2_with fail
            obtain ⟨⟨k0, k1, k2, k3⟩, hbz⟩ := HD.out
            refine bodyPost_ret (v := .tuple #[.agg #[.string ⟨#[]⟩, .int .i64 0, .int .i64 0, .slice none 0 0], .int .i64 ((k : Int) + 1), .int .i64 (5)]) (by simp [results, Tryd.results39, go_sem, k0, k1, k2, k3]) rfl ?_
            first | exact RetR3.no HP.out hbz | exact RetR3.no HP.out hbz.drew
end Go.Proofs.YtnhngccfbnnpoaaDoor
/- Printed pages, part 8: a page's lines, read, by the reference (gen_pa8.py). -/
namespace Go.Proofs.YtnhngccfbnnpoaaDoor
open Go.RowKit Go.Joins

set_option maxRecDepth 100000 in
set_option maxHeartbeats 6400000 in
theorem l18Read_any (B : Nat) (v : Value) (L : List ByteArray) (w : World) (hR : Rd w B v L.length 1 (L.map Value.string)) (hB : B ≤ w.heap.size) (hs : ∀ z ∈ L, z.size ≤ 1000000) (hL : L.length ≤ 1000000) : Calls Tryd.prog 40 #[v] w (RetR3 L w) := by
  obtain ⟨A, c, rfl⟩ := rdS_sl hR
  have HB0 := Lib.hid (Below.refl (w.alloc (.cells #[.string ⟨#[]⟩, .int .i64 0, .int .i64 0, .slice none 0 0] 26)).heap.size (w.alloc (.cells #[.string ⟨#[]⟩, .int .i64 0, .int .i64 0, .slice none 0 0] 26)))
  by_cases h0 : L.length = 0
  · have HP := Lib.hid (rdP_nil h0)
    clear hR
    rw [h0]
    clear h0 hL
    go_enter Tryd.func40, Tryd.ntmps40
    go_wp2_with fail
    obtain ⟨⟨k0, k1, k2, k3⟩, -⟩ := res4A_pre HB0.out
    have hbz := (Below.refl w.heap.size w).alloc (Nat.le_refl _) (.cells #[.string ⟨#[]⟩, .int .i64 0, .int .i64 0, .slice none 0 0] 26)
    refine bodyPost_ret (v := .tuple #[.agg #[.string ⟨#[]⟩, .int .i64 0, .int .i64 0, .slice none 0 0], .int .i64 0, .int .i64 1]) (by simp [results, Tryd.results40, go_sem, k0, k1, k2, k3]) rfl ?_
    exact RetR3.no HP.out hbz
  · obtain ⟨-, gl, ol, hA, hgB, hcells⟩ := rdS_all hR (by omega)
    subst hA
    have HC := Lib.hid hcells
    have HH := Lib.hid (fun wx => l18Head_any (lnG L 0) wx (lnG_size hs 0))
    have c0 := hcells 0 (by omega)
    rw [Nat.add_zero] at c0
    have h0' : ¬ ((L.length : Int) = 0) := by omega
    have h00 : (0 : Int) < (L.length : Int) := by omega
    have hgl : gl < w.heap.size := by omega
    clear hcells hR
    cases hr : hdR (lnG L 0) with
    | none =>
      have HP := Lib.hid (rdP_head h0 hr)
      rw [hr] at HH
      clear hr h0
      generalize hLn : L.length = ln at *
      clear hLn
      generalize lnG L 0 = l0 at *
      have c0' := ((Below.refl w.heap.size w).alloc (Nat.le_refl _) (.cells #[.string ⟨#[]⟩, .int .i64 0, .int .i64 0, .slice none 0 0] 26)).cell (p := ⟨gl, ol, none⟩) hgl |>.trans c0
      go_enter Tryd.func40, Tryd.ntmps40
      go_wp2_with fail
      refine (HH.out _).mono ?_; rintro e w6 ⟨s, a, b, n, rfl, -, hb6⟩
      have HX := Lib.hid ((HB0.out.trans (hb6.mono HB0.out.size)).trans (((Below.refl w6.heap.size w6).alloc (Nat.le_refl _) (.cells #[.string s, .int .i64 a, .int .i64 b, .slice none 0 0] 26)).mono (Nat.le_trans HB0.out.size hb6.size)))
      obtain ⟨⟨d0, d1, d2, d3⟩, e0, e1, e2, e3⟩ := res4A_pre HX.out
      have HD := Lib.hid (res4A_post HX.out (.string ⟨#[]⟩) (.int .i64 0) (.int .i64 0) (.slice none 0 0))
      clear hb6 HB0
      go_wp2_with fail
      obtain ⟨⟨k0, k1, k2, k3⟩, hbz⟩ := HD.out
      refine bodyPost_ret (v := .tuple #[.agg #[.string ⟨#[]⟩, .int .i64 0, .int .i64 0, .slice none 0 0], .int .i64 (0), .int .i64 (1)]) (by simp [results, Tryd.results40, go_sem, k0, k1, k2, k3]) rfl ?_
      first | exact RetR3.no HP.out hbz | exact RetR3.no HP.out hbz.drew
    | some h =>
      have hdr := (hdR_text hr).2
      obtain ⟨_, hb1000, hn60, ha1m, _⟩ := hdOk_n hdr
      have HPr := Lib.hid (fun k (hk : k < h.n) hz hb => rdP_row h0 hr (k := k) hk hz hb)
      have HPe := Lib.hid (fun hz => rdP_end h0 hr hz)
      have Hsz := Lib.hid (lnG_size hs)
      rw [hr] at HH
      clear hr h0 hs
      obtain ⟨nm, a, b, n⟩ := h
      dsimp only at hdr hb1000 hn60 ha1m
      obtain ⟨h, hh⟩ : ∃ h : Hd, (⟨nm, a, b, n⟩ : Hd) = h := ⟨_, rfl⟩
      have hha : h.a = a := by rw [← hh]
      have hhb : h.b = b := by rw [← hh]
      have hhn : h.n = n := by rw [← hh]
      have hhm : h.nm = nm := by rw [← hh]
      rw [hh] at HPr HPe HH
      have Hha := Lib.hid hha
      have Hhb := Lib.hid hhb
      have Hhn := Lib.hid hhn
      have Hhm := Lib.hid hhm
      clear hh hha hhb hhn hhm hdr
      obtain ⟨ln, hLn⟩ : ∃ z, L.length = z := ⟨_, rfl⟩
      have HLn := Lib.hid hLn
      rw [hLn] at hL h0' h00 HC ⊢
      clear hLn
      obtain ⟨l0, hl0⟩ : ∃ z, lnG L 0 = z := ⟨_, rfl⟩
      rw [hl0] at HH c0
      clear hl0
      have c0' := ((Below.refl w.heap.size w).alloc (Nat.le_refl _) (.cells #[.string ⟨#[]⟩, .int .i64 0, .int .i64 0, .slice none 0 0] 26)).cell (p := ⟨gl, ol, none⟩) hgl |>.trans c0
      go_enter Tryd.func40, Tryd.ntmps40
      go_wp2_with fail
      obtain ⟨w0, hw0⟩ : ∃ z, w.alloc (.cells #[.string ⟨#[]⟩, .int .i64 0, .int .i64 0, .slice none 0 0] 26) = z := ⟨_, rfl⟩
      have HW0 := Lib.hid hw0
      have HWw := Lib.hid (show Below w.heap.size w w0 by rw [← hw0]; exact (Below.refl w.heap.size w).alloc (Nat.le_refl _) _)
      have HWz := Lib.hid (show w0.heap.size = w.heap.size + 1 by rw [← hw0]; simp)
      rw [hw0] at HB0 c0'
      (try rw [hw0])
      clear hw0
      refine (HH.out _).mono ?_; rintro e w6 ⟨s', a', b', n', rfl, hsome, hb6⟩
      obtain ⟨e1, e2, e3, e4⟩ := hsome h rfl
      rw [Hhm.out] at e1
      rw [Hha.out] at e2
      rw [Hhb.out] at e3
      rw [Hhn.out] at e4
      subst e1 e2 e3 e4
      clear hsome c0 c0'
      go_upto_region 4 with (fail)
      have HQ := Lib.hid (PgW.new (HB0.out.trans (hb6.mono HB0.out.size)) s' a' b' (rwV L h))
      clear hb6
      generalize w6.alloc (.cells #[.string s', .int .i64 a', .int .i64 b', .slice none 0 0] 26) = wa at *
      generalize w6.heap.size = q at *
      go_wp2_with fail
      go_loopw [8] (fun i wr => ∃ (k : Nat) (v : Value), k ≤ n ∧ i = .int .i64 (k : Int) ∧ PgW w0 wr q s' a' b' v k (rwV L h) ∧ RwOk L h k) (fun i _ => n - (intOf i).toNat)
      case atStart => exact ⟨0, _, Nat.zero_le _, rfl, HQ.out, RwOk.zero _ _⟩
      case round =>
        clear HQ
        obtain ⟨k, vk, hk, rfl, hQ, hok⟩ := hrel
        have HQ := Lib.hid hQ
        have Hok := Lib.hid hok
        have HBw := Lib.hid (HWw.out.trans (hQ.bel.mono HWw.out.size))
        obtain ⟨Ak, ck, rfl⟩ := hQ.sl
        clear hQ hok
        by_cases hkn : k < n
        · have hkn' : (k : Int) < (n : Int) := by omega
          by_cases hkl : k + 1 < ln
          · obtain ⟨k1, hk1⟩ : ∃ k1, k + 1 = k1 := ⟨_, rfl⟩
            have hw1 : IntKind.i64.wrap ((k : Int) + 1) = (k1 : Int) := by rw [← hk1]; exact IntWalk.i64_in _ (by omega)
            have hkl' : ¬ ((ln : Int) ≤ (k1 : Int)) := by omega
            have hkl2 : (k1 : Int) < (ln : Int) := by omega
            have hkl3 : (0 : Int) ≤ (k1 : Int) := by omega
            have cl := (HBw.out.cell (p := ⟨gl, ol + k1, none⟩) hgl).trans (HC.out k1 (by omega))
            obtain ⟨hP0, hP1⟩ := arg_bd hkn hn60.2 hb1000
            have HF := Lib.hid (show rwF L h k = (rwR (lnG L k1) (argA a' b' k)).1 by rw [← hk1, rwF_in (by rw [HLn.out]; exact hkl), Hha.out, Hhb.out])
            have HV := Lib.hid (show rwV L h k = (rwR (lnG L k1) (argA a' b' k)).2 by rw [← hk1]; unfold rwV; rw [Hha.out, Hhb.out])
            have HRr := Lib.hid (fun wx => l18Value_any (lnG L k1) (argA a' b' k) wx (Hsz.out _))
            have hag : argA a' b' k = a' + (k : Int) * b' := rfl
            have Hk1 := Lib.hid hk1
            rw [hag] at HF HV HRr
            clear hag hk1
            generalize lnG L k1 = lk at *
            generalize hrr : rwR lk (a' + (k : Int) * b') = rr at *
            obtain ⟨P, hPe⟩ : ∃ P, (k : Int) * b' = P := ⟨_, rfl⟩
            rw [hPe] at hP0 hP1 HRr hrr
            have hwp : IntKind.i64.wrap ((k : Int) * b') = P := by rw [hPe]; exact IntWalk.i64_in _ (by omega)
            have hwa : IntKind.i64.wrap (a' + P) = a' + P := IntWalk.i64_in _ (by omega)
            clear hrr hPe
            obtain ⟨p0, p1, p2, p3, -⟩ := HQ.out.cells
            have hglr : gl < wr.heap.size := Nat.lt_of_lt_of_le hgl HBw.out.size
            go_upto_region 11 with (fail)
            refine wp_region_noPanic ?_
            refine wp_region_L [] (fun w' => w'.cell? ⟨q, 0, none⟩ = some (.string s') ∧ w'.cell? ⟨q, 1, none⟩ = some (.int .i64 a') ∧ w'.cell? ⟨q, 2, none⟩ = some (.int .i64 b') ∧ w'.cell? ⟨q, 3, none⟩ = some (.slice Ak k ck) ∧ w'.cell? ⟨gl, ol + k1, none⟩ = some (.string (lk))) (by kernel_rfl) (⟨p0, p1, p2, p3, cl⟩) (fun hHeld => ?_)
            refine take_F (i := 0) (d := some 40) (v := ?_) (by kernel_rfl) (by kernel_rfl) rfl rfl (by kernel_rfl) (by kernel_rfl) (by kernel_rfl) (fun _ _ _ h => h) (Or.inl ⟨by rfl, ?_⟩) (by assumption) ?_
            rotate_left
            · (intro w hSw; (try dsimp only at hSw); go_simp; (try rw [if_neg (by omega)]); (try (with_reducible rfl)))
            simp only [Act.put, List.setIfInBounds_toArray, List.set_cons_zero, List.set_cons_succ]
            refine take_F (i := 1) (d := some 41) (v := ?_) (by kernel_rfl) (by kernel_rfl) rfl rfl (by kernel_rfl) (by kernel_rfl) (by kernel_rfl) (fun _ _ _ h => h) (Or.inl ⟨by rfl, ?_⟩) (by assumption) ?_
            rotate_left
            · (intro w hSw; (try dsimp only at hSw); go_simp; (try rw [if_neg (by omega)]); (try (with_reducible rfl)))
            simp only [Act.put, List.setIfInBounds_toArray, List.set_cons_zero, List.set_cons_succ]
            refine take_F (i := 2) (d := some 42) (v := ?_) (by kernel_rfl) (by kernel_rfl) rfl rfl (by kernel_rfl) (by kernel_rfl) (by kernel_rfl) (fun _ _ _ h => h) (Or.inl ⟨by rfl, ?_⟩) (by assumption) ?_
            rotate_left
            · (intro w hSw; (try dsimp only at hSw); go_simp; (try rw [if_neg (by omega)]); (try (with_reducible rfl)))
            simp only [Act.put, List.setIfInBounds_toArray, List.set_cons_zero, List.set_cons_succ]
            refine take_F (i := 3) (d := some 43) (v := ?_) (by kernel_rfl) (by kernel_rfl) rfl rfl (by kernel_rfl) (by kernel_rfl) (by kernel_rfl) (fun _ _ _ h => h) (Or.inl ⟨by rfl, ?_⟩) (by assumption) ?_
            rotate_left
            · (intro w hSw; (try dsimp only at hSw); go_simp; (try rw [if_neg (by omega)]); (try (with_reducible rfl)))
            simp only [Act.put, List.setIfInBounds_toArray, List.set_cons_zero, List.set_cons_succ]
            refine take_L [4] (i := 4) (d := some 44) (v := ?_) (by kernel_rfl) (by kernel_rfl) (by kernel_rfl) (by kernel_rfl) rfl rfl (by kernel_rfl) (by kernel_rfl) (by kernel_rfl) (fun _ _ _ h => h) (Or.inl ⟨by rfl, ?_⟩) (by assumption) ?_
            rotate_left
            · (intro w hSw; (try dsimp only at hSw); go_simp; (try rw [if_neg (by omega)]); (try (with_reducible rfl)))
            simp only [Act.put, List.setIfInBounds_toArray, List.set_cons_zero, List.set_cons_succ]
            refine take_F (i := 5) (d := some 45) (v := ?_) (by kernel_rfl) (by kernel_rfl) rfl rfl (by kernel_rfl) (by kernel_rfl) (by kernel_rfl) (fun _ _ _ h => h) (Or.inl ⟨by rfl, ?_⟩) (by assumption) ?_
            rotate_left
            · (intro w hSw; (try dsimp only at hSw); go_simp; (try rw [if_neg (by omega)]); (try (with_reducible rfl)))
            simp only [Act.put, List.setIfInBounds_toArray, List.set_cons_zero, List.set_cons_succ]
            refine take_L [6] (i := 6) (d := some 46) (v := ?_) (by kernel_rfl) (by kernel_rfl) (by kernel_rfl) (by kernel_rfl) rfl rfl (by kernel_rfl) (by kernel_rfl) (by kernel_rfl) (fun _ _ _ h => h) (Or.inl ⟨by rfl, ?_⟩) (by assumption) ?_
            rotate_left
            · (intro w hSw; (try dsimp only at hSw); go_simp; (try rw [if_neg (by omega)]); (try (with_reducible rfl)))
            simp only [Act.put, List.setIfInBounds_toArray, List.set_cons_zero, List.set_cons_succ]
            refine take_F (i := 7) (d := some 47) (v := ?_) (by kernel_rfl) (by kernel_rfl) rfl rfl (by kernel_rfl) (by kernel_rfl) (by kernel_rfl) (fun _ _ _ h => h) (Or.inl ⟨by rfl, ?_⟩) (by assumption) ?_
            rotate_left
            · (intro w hSw; (try dsimp only at hSw); go_simp; (try rw [if_neg (by omega)]); (try (with_reducible rfl)))
            simp only [Act.put, List.setIfInBounds_toArray, List.set_cons_zero, List.set_cons_succ]
            refine take_F (i := 8) (d := some 48) (v := ?_) (by kernel_rfl) (by kernel_rfl) rfl rfl (by kernel_rfl) (by kernel_rfl) (by kernel_rfl) (fun _ _ _ h => h) (Or.inl ⟨by rfl, ?_⟩) (by assumption) ?_
            rotate_left
            · (intro w hSw; (try dsimp only at hSw); go_simp; (try rw [if_neg (by omega)]); (try (with_reducible rfl)))
            simp only [Act.put, List.setIfInBounds_toArray, List.set_cons_zero, List.set_cons_succ]
            refine take_L [9] (i := 9) (d := some 49) (v := ?_) (by kernel_rfl) (by kernel_rfl) (by kernel_rfl) (by kernel_rfl) rfl rfl (by kernel_rfl) (by kernel_rfl) (by kernel_rfl) (fun _ _ _ h => h) (Or.inl ⟨by rfl, ?_⟩) (by assumption) ?_
            rotate_left
            · (intro w hSw; (try dsimp only at hSw); go_simp; (try rw [if_neg (by omega)]); (try (with_reducible rfl)))
            simp only [Act.put, List.setIfInBounds_toArray, List.set_cons_zero, List.set_cons_succ]
            refine take_F (i := 10) (d := some 50) (v := ?_) (by kernel_rfl) (by kernel_rfl) rfl rfl (by kernel_rfl) (by kernel_rfl) (by kernel_rfl) (fun _ _ _ h => h) (Or.inl ⟨by rfl, ?_⟩) (by assumption) ?_
            rotate_left
            · (intro w hSw; (try dsimp only at hSw); go_simp; (try rw [if_neg (by omega)]); (try (with_reducible rfl)))
            simp only [Act.put, List.setIfInBounds_toArray, List.set_cons_zero, List.set_cons_succ]
            refine take_F (i := 11) (d := some 51) (v := ?_) (by kernel_rfl) (by kernel_rfl) rfl rfl (by kernel_rfl) (by kernel_rfl) (by kernel_rfl) (fun _ _ _ h => h) (Or.inl ⟨by rfl, ?_⟩) (by assumption) ?_
            rotate_left
            · (intro w hSw; (try dsimp only at hSw); go_simp; (try rw [if_neg (by omega)]); (try (with_reducible rfl)))
            simp only [Act.put, List.setIfInBounds_toArray, List.set_cons_zero, List.set_cons_succ]
            refine call_L (i := 12) (d := (some 52)) rfl rfl (by kernel_rfl) (fun Kq hKq => ?_)
            go_simp
            go_at_call 70
            refine (HRr.out _).mono ?_; rintro e w8 ⟨rfl, hb8⟩
            have HQ8 := Lib.hid (HQ.out.below (below_undrew hb8))
            obtain ⟨r0, r1, r2, r3, -⟩ := HQ8.out.cells
            have r4 := ((below_undrew hb8).cell (p := ⟨gl, ol + k1, none⟩) hglr).trans cl
            clear hb8
            (try go_wp2_with fail)
            refine hKq.out _ _ (⟨r0, r1, r2, r3, r4⟩) (fun hHeld => ?_)
            clear hKq Kq
            (try simp only [Act.put, List.setIfInBounds_toArray, List.set_cons_zero, List.set_cons_succ])
            refine take_F (i := 13) (d := some 39) (v := ?_) (by kernel_rfl) (by kernel_rfl) rfl rfl (by kernel_rfl) (by kernel_rfl) (by kernel_rfl) (fun _ _ _ h => h) (Or.inl ⟨by rfl, ?_⟩) (by assumption) ?_
            rotate_left
            · (intro w hSw; (try dsimp only at hSw); go_simp; (try rw [if_neg (by omega)]); (try (with_reducible rfl)))
            simp only [Act.put, List.setIfInBounds_toArray, List.set_cons_zero, List.set_cons_succ]
            refine take_F (i := 14) (d := some 53) (v := ?_) (by kernel_rfl) (by kernel_rfl) rfl rfl (by kernel_rfl) (by kernel_rfl) (by kernel_rfl) (fun _ _ _ h => h) (Or.inl ⟨by rfl, ?_⟩) (by assumption) ?_
            rotate_left
            · (intro w hSw; (try dsimp only at hSw); go_simp; (try rw [if_neg (by omega)]); (try (with_reducible rfl)))
            simp only [Act.put, List.setIfInBounds_toArray, List.set_cons_zero, List.set_cons_succ]
            refine take_F (i := 15) (d := some 54) (v := ?_) (by kernel_rfl) (by kernel_rfl) rfl rfl (by kernel_rfl) (by kernel_rfl) (by kernel_rfl) (fun _ _ _ h => h) (Or.inl ⟨by rfl, ?_⟩) (by assumption) ?_
            rotate_left
            · (intro w hSw; (try dsimp only at hSw); go_simp; (try rw [if_neg (by omega)]); (try (with_reducible rfl)))
            simp only [Act.put, List.setIfInBounds_toArray, List.set_cons_zero, List.set_cons_succ]
            refine take_F (i := 16) (d := some 9) (v := ?_) (by kernel_rfl) (by kernel_rfl) rfl rfl (by kernel_rfl) (by kernel_rfl) (by kernel_rfl) (fun _ _ _ h => h) (Or.inl ⟨by rfl, ?_⟩) (by assumption) ?_
            rotate_left
            · (intro w hSw; (try dsimp only at hSw); go_simp; (try rw [if_neg (by omega)]); (try (with_reducible rfl)))
            simp only [Act.put, List.setIfInBounds_toArray, List.set_cons_zero, List.set_cons_succ]
            refine take_F (i := 17) (d := some 10) (v := ?_) (by kernel_rfl) (by kernel_rfl) rfl rfl (by kernel_rfl) (by kernel_rfl) (by kernel_rfl) (fun _ _ _ h => h) (Or.inl ⟨by rfl, ?_⟩) (by assumption) ?_
            rotate_left
            · (intro w hSw; (try dsimp only at hSw); go_simp; (try rw [if_neg (by omega)]); (try (with_reducible rfl)))
            simp only [Act.put, List.setIfInBounds_toArray, List.set_cons_zero, List.set_cons_succ]
            refine done_L (by kernel_rfl) ?_ _
            refine NoPanic.normal ?_
            obtain ⟨r0, r1, r2, r3, rz⟩ := HQ8.out.cells
            clear hw1 hwp hwa
            by_cases hz : rr.1 = 0
            · have HFn := Lib.hid (show rwV L h k = rr.2 from HV.out)
              have Hok7 := Lib.hid (Hok.out.step (by rw [HF.out, hz]))
              rw [hz]
              clear hz HF HV
              generalize rr.2 = y at *
              have Hcur := Lib.hid HQ8.out.cur
              have hzz := HQ8.out.bel.size
              have hk60 : k < 60 := by omega
              go_wp2_with (at_builtin; refine wpList_apd 24 2 _ 1 8 Tryd.underlying24 infoD rfl (by omega) _ _ rfl rfl w0.heap.size _ k _ rfl Hcur.out #[.int .i64 y] 1 1 rfl rfl (by simp [Value.oneCell']) (by simp [maxLen]; omega) (by omega) hzz ?_; intro v7 w7 hown7 hg7; obtain ⟨hP7, z3, y3⟩ := HQ8.out.app HFn.out hg7 hown7; obtain ⟨A7, c7, rfl⟩ := hP7.sl; have HP7 := Lib.hid hP7; clear hown7 hg7 hP7 r3 rz)
              go_roundw
              case rel => exact ⟨k + 1, _, by omega, by go_num, HP7.out, Hok7.out⟩
              case measure => first | (simp [intOf]; done) | (simp [intOf]; omega)
            · have HPx := Lib.hid (HPr.out k (by rw [Hhn.out]; exact hkn) Hok.out.ok (by rw [HF.out]; exact hz))
              have hz2 : (rr.1 == 0) = false := by simp [hz]
              have HP := Lib.hid (show rdP L = ⟨⟨⟨#[]⟩, 0, 0, 0⟩, (k : Int) + 1, rr.1⟩ by rw [HPx.out, HF.out])
              have HX := Lib.hid (HB0.out.trans HQ8.out.bel)
              rw [← HW0.out] at HX
              obtain ⟨⟨d0, d1, d2, d3⟩, e0, e1, e2, e3⟩ := res4A_pre HX.out
              have HD := Lib.hid (res4A_post HX.out (.string ⟨#[]⟩) (.int .i64 0) (.int .i64 0) (.slice none 0 0))
              clear HPx HF HV
              generalize rr.1 = f at *
              generalize rr.2 = y at *
              go_wp2_with fail
              obtain ⟨⟨k0, k1, k2, k3⟩, hbz⟩ := HD.out
              refine bodyPost_ret (v := .tuple #[.agg #[.string ⟨#[]⟩, .int .i64 0, .int .i64 0, .slice none 0 0], .int .i64 ((k : Int) + 1), .int .i64 (f)]) (by simp [results, Tryd.results40, go_sem, k0, k1, k2, k3]) rfl ?_
              first | exact RetR3.no HP.out hbz | exact RetR3.no HP.out hbz.drew
          · have hkl' : (ln : Int) ≤ (k : Int) + 1 := by omega
            have HFk := Lib.hid (show rwF L h k = 2 from rwF_out (by rw [HLn.out]; exact hkl))
            have HPx := Lib.hid (HPr.out k (by rw [Hhn.out]; exact hkn) Hok.out.ok (by rw [HFk.out]; decide))
            have HP := Lib.hid (show rdP L = ⟨⟨⟨#[]⟩, 0, 0, 0⟩, (k : Int) + 1, 2⟩ by rw [HPx.out, HFk.out])
            have HX := Lib.hid (HB0.out.trans HQ.out.bel)
            rw [← HW0.out] at HX
            obtain ⟨⟨d0, d1, d2, d3⟩, e0, e1, e2, e3⟩ := res4A_pre HX.out
            have HD := Lib.hid (res4A_post HX.out (.string ⟨#[]⟩) (.int .i64 0) (.int .i64 0) (.slice none 0 0))
            clear HPx HFk
            go_wp2_with fail
            obtain ⟨⟨k0, k1, k2, k3⟩, hbz⟩ := HD.out
            refine bodyPost_ret (v := .tuple #[.agg #[.string ⟨#[]⟩, .int .i64 0, .int .i64 0, .slice none 0 0], .int .i64 ((k : Int) + 1), .int .i64 (2)]) (by simp [results, Tryd.results40, go_sem, k0, k1, k2, k3]) rfl ?_
            first | exact RetR3.no HP.out hbz | exact RetR3.no HP.out hbz.drew
        · obtain rfl : k = n := by omega
          have hkn' : ¬ ((k : Int) < (k : Int)) := by omega
          have HPz := Lib.hid (HPe.out (by rw [Hhn.out]; exact Hok.out.ok))
          have hw2 : IntKind.i64.wrap ((k : Int) + 2) = (k : Int) + 2 := IntWalk.i64_in _ (by omega)
          by_cases hlen : ln = k + 2
          · obtain ⟨k1, hk1⟩ : ∃ k1, k + 1 = k1 := ⟨_, rfl⟩
            have hw2 : IntKind.i64.wrap ((k : Int) + 2) = (ln : Int) := by rw [hw2]; omega
            have hw1 : IntKind.i64.wrap ((k : Int) + 1) = (k1 : Int) := by rw [← hk1]; exact IntWalk.i64_in _ (by omega)
            have hl2 : (k1 : Int) < (ln : Int) := by omega
            have hl3 : (0 : Int) ≤ (k1 : Int) := by omega
            have cl := (HBw.out.cell (p := ⟨gl, ol + k1, none⟩) hgl).trans (HC.out k1 (by omega))
            rw [show lnG L k1 = lnG L (k + 1) by rw [hk1]] at cl
            have Hk1 := Lib.hid hk1
            clear hk1
            have HFt := Lib.hid (fun wx f3 hR => l18Foot_c q wx.heap.size Ak k ck (rwV L h) wx f3 hR hn60.2 (by omega) Hok.out.vs)
            have HD1 := Lib.hid (fun wx => l01Dec_any (ftS (rwV L h) k % 97) wx (by omega) (by omega))
            have sd := decS_size (ftS (rwV L h) k % 97) (by omega) (by omega)
            have HE := Lib.hid (show footB (rwV L h) k = ⟨#[115, 117, 109, 32]⟩ ++ decS (ftS (rwV L h) k % 97) from rfl)
            have s4 : (⟨#[115, 117, 109, 32]⟩ : ByteArray).size = 4 := rfl
            have hglr : gl < wr.heap.size := Nat.lt_of_lt_of_le hgl HBw.out.size
            have hqr := HQ.out.qlt
            by_cases hft : lnG L (k + 1) = footB (rwV L h) k
            · have HP := Lib.hid (show rdP L = ⟨h, -1, 0⟩ by rw [HPz.out, Hhn.out, if_pos ⟨by rw [HLn.out]; exact hlen, hft⟩])
              rw [hft, HE.out] at cl
              generalize ftS (rwV L h) k % 97 = F0 at *
              generalize decS F0 = dF at *
              clear hft hlen HPz HE
              have HZ := Lib.hid (show (⟨#[115, 117, 109, 32]⟩ ++ dF : ByteArray).size = 4 + dF.size by rw [ByteArray.size_append, s4])
              obtain ⟨p0, p1, p2, p3, -⟩ := HQ.out.cells
              go_upto_region 15 with (fail)
              refine wp_region_noPanic ?_
              refine wp_region_L [] (fun w' => w'.cell? ⟨q, 0, none⟩ = some (.string s') ∧ w'.cell? ⟨q, 1, none⟩ = some (.int .i64 a') ∧ w'.cell? ⟨q, 2, none⟩ = some (.int .i64 b') ∧ w'.cell? ⟨q, 3, none⟩ = some (.slice Ak k ck) ∧ w'.cell? ⟨gl, ol + k1, none⟩ = some (.string (⟨#[115, 117, 109, 32]⟩ ++ dF))) (by kernel_rfl) (⟨p0, p1, p2, p3, cl⟩) (fun hHeld => ?_)
              refine take_F (i := 0) (d := some 67) (v := ?_) (by kernel_rfl) (by kernel_rfl) rfl rfl (by kernel_rfl) (by kernel_rfl) (by kernel_rfl) (fun _ _ _ h => h) (Or.inl ⟨by rfl, ?_⟩) (by assumption) ?_
              rotate_left
              · (intro w hSw; (try dsimp only at hSw); go_simp; (try rw [if_neg (by omega)]); (try (with_reducible rfl)))
              simp only [Act.put, List.setIfInBounds_toArray, List.set_cons_zero, List.set_cons_succ]
              refine take_F (i := 1) (d := some 68) (v := ?_) (by kernel_rfl) (by kernel_rfl) rfl rfl (by kernel_rfl) (by kernel_rfl) (by kernel_rfl) (fun _ _ _ h => h) (Or.inl ⟨by rfl, ?_⟩) (by assumption) ?_
              rotate_left
              · (intro w hSw; (try dsimp only at hSw); go_simp; (try rw [if_neg (by omega)]); (try (with_reducible rfl)))
              simp only [Act.put, List.setIfInBounds_toArray, List.set_cons_zero, List.set_cons_succ]
              refine take_F (i := 2) (d := some 69) (v := ?_) (by kernel_rfl) (by kernel_rfl) rfl rfl (by kernel_rfl) (by kernel_rfl) (by kernel_rfl) (fun _ _ _ h => h) (Or.inl ⟨by rfl, ?_⟩) (by assumption) ?_
              rotate_left
              · (intro w hSw; (try dsimp only at hSw); go_simp; (try rw [if_neg (by omega)]); (try (with_reducible rfl)))
              simp only [Act.put, List.setIfInBounds_toArray, List.set_cons_zero, List.set_cons_succ]
              refine take_F (i := 3) (d := some 70) (v := ?_) (by kernel_rfl) (by kernel_rfl) rfl rfl (by kernel_rfl) (by kernel_rfl) (by kernel_rfl) (fun _ _ _ h => h) (Or.inl ⟨by rfl, ?_⟩) (by assumption) ?_
              rotate_left
              · (intro w hSw; (try dsimp only at hSw); go_simp; (try rw [if_neg (by omega)]); (try (with_reducible rfl)))
              simp only [Act.put, List.setIfInBounds_toArray, List.set_cons_zero, List.set_cons_succ]
              refine take_F (i := 4) (d := some 71) (v := (.bool false)) (by kernel_rfl) (by kernel_rfl) rfl rfl (by kernel_rfl) (by kernel_rfl) (by kernel_rfl) (fun _ _ _ h => h) (Or.inl ⟨by rfl, ?_⟩) (by assumption) ?_
              · (intro w hSw; (try dsimp only at hSw); go_simp <;> first | omega | (simp; done) | (simp; omega))
              simp only [Act.put, List.setIfInBounds_toArray, List.set_cons_zero, List.set_cons_succ]
              refine take_F (i := 5) (d := some 72) (v := ?_) (by kernel_rfl) (by kernel_rfl) rfl rfl (by kernel_rfl) (by kernel_rfl) (by kernel_rfl) (fun _ _ _ h => h) (Or.inl ⟨by rfl, ?_⟩) (by assumption) ?_
              rotate_left
              · (intro w hSw; (try dsimp only at hSw); go_simp; (try rw [if_neg (by omega)]); (try (with_reducible rfl)))
              simp only [Act.put, List.setIfInBounds_toArray, List.set_cons_zero, List.set_cons_succ]
              refine take_F (i := 6) (d := some 73) (v := ?_) (by kernel_rfl) (by kernel_rfl) rfl rfl (by kernel_rfl) (by kernel_rfl) (by kernel_rfl) (fun _ _ _ h => h) (Or.inl ⟨by rfl, ?_⟩) (by assumption) ?_
              rotate_left
              · (intro w hSw; (try dsimp only at hSw); go_simp; (try rw [if_neg (by omega)]); (try (with_reducible rfl)))
              simp only [Act.put, List.setIfInBounds_toArray, List.set_cons_zero, List.set_cons_succ]
              refine take_F (i := 7) (d := some 74) (v := ?_) (by kernel_rfl) (by kernel_rfl) rfl rfl (by kernel_rfl) (by kernel_rfl) (by kernel_rfl) (fun _ _ _ h => h) (Or.inl ⟨by rfl, ?_⟩) (by assumption) ?_
              rotate_left
              · (intro w hSw; (try dsimp only at hSw); go_simp; (try rw [if_neg (by omega)]); (try (with_reducible rfl)))
              simp only [Act.put, List.setIfInBounds_toArray, List.set_cons_zero, List.set_cons_succ]
              refine take_F (i := 8) (d := some 75) (v := ?_) (by kernel_rfl) (by kernel_rfl) rfl rfl (by kernel_rfl) (by kernel_rfl) (by kernel_rfl) (fun _ _ _ h => h) (Or.inl ⟨by rfl, ?_⟩) (by assumption) ?_
              rotate_left
              · (intro w hSw; (try dsimp only at hSw); go_simp; (try rw [if_neg (by omega)]); (try (with_reducible rfl)))
              simp only [Act.put, List.setIfInBounds_toArray, List.set_cons_zero, List.set_cons_succ]
              refine take_F (i := 9) (d := some 76) (v := ?_) (by kernel_rfl) (by kernel_rfl) rfl rfl (by kernel_rfl) (by kernel_rfl) (by kernel_rfl) (fun _ _ _ h => h) (Or.inl ⟨by rfl, ?_⟩) (by assumption) ?_
              rotate_left
              · (intro w hSw; (try dsimp only at hSw); go_simp; (try rw [if_neg (by omega)]); (try (with_reducible rfl)))
              simp only [Act.put, List.setIfInBounds_toArray, List.set_cons_zero, List.set_cons_succ]
              refine take_L [14,10] (i := 10) (d := some 77) (v := ?_) (by kernel_rfl) (by kernel_rfl) (by kernel_rfl) (by kernel_rfl) rfl rfl (by kernel_rfl) (by kernel_rfl) (by kernel_rfl) (fun _ _ _ h => h) (Or.inl ⟨by rfl, ?_⟩) (by assumption) ?_
              rotate_left
              · (intro w hSw; (try dsimp only at hSw); go_simp; (try rw [if_neg (by omega)]); (try (with_reducible rfl)))
              simp only [Act.put, List.setIfInBounds_toArray, List.set_cons_zero, List.set_cons_succ]
              refine call_L (i := 11) (d := (some 78)) rfl rfl (by kernel_rfl) (fun Kq hKq => ?_)
              go_simp
              go_at_call 65
              refine (HFt.out wr.drew p3 ((Rd.of_own HQ.out.cur).drewN 1)).mono ?_; rintro e w8 ⟨rfl, rfl⟩
              (try go_wp2_with fail)
              refine hKq.out _ _ (⟨p0, p1, p2, p3, cl⟩) (fun hHeld => ?_)
              clear hKq Kq
              (try simp only [Act.put, List.setIfInBounds_toArray, List.set_cons_zero, List.set_cons_succ])
              refine call_L (i := 12) (d := (some 79)) rfl rfl (by kernel_rfl) (fun Kq hKq => ?_)
              go_simp
              go_at_call 63
              refine (HD1.out _).mono ?_; rintro e w8 ⟨rfl, hb8⟩
              have HQ8 := Lib.hid (HQ.out.below (below_undrew hb8))
              obtain ⟨r0, r1, r2, r3, -⟩ := HQ8.out.cells
              have r4 := ((below_undrew hb8).cell (p := ⟨gl, ol + k1, none⟩) hglr).trans cl
              clear hb8
              (try go_wp2_with fail)
              refine hKq.out _ _ (⟨r0, r1, r2, r3, r4⟩) (fun hHeld => ?_)
              clear hKq Kq
              (try simp only [Act.put, List.setIfInBounds_toArray, List.set_cons_zero, List.set_cons_succ])
              refine take_F (i := 13) (d := some 80) (v := ?_) (by kernel_rfl) (by kernel_rfl) rfl rfl (by kernel_rfl) (by kernel_rfl) (by kernel_rfl) (fun _ _ _ h => h) (Or.inl ⟨by rfl, ?_⟩) (by assumption) ?_
              rotate_left
              · (intro w hSw; (try dsimp only at hSw); go_simp; (try rw [if_neg (by omega)]); (try (with_reducible rfl)))
              simp only [Act.put, List.setIfInBounds_toArray, List.set_cons_zero, List.set_cons_succ]
              refine take_F (i := 14) (d := some 81) (v := ?_) (by kernel_rfl) (by kernel_rfl) rfl rfl (by kernel_rfl) (by kernel_rfl) (by kernel_rfl) (fun _ _ _ h => h) (Or.inl ⟨by rfl, ?_⟩) (by assumption) ?_
              rotate_left
              · (intro w hSw; (try dsimp only at hSw); go_simp; (try rw [if_neg (by omega)]); (try (with_reducible rfl)))
              simp only [Act.put, List.setIfInBounds_toArray, List.set_cons_zero, List.set_cons_succ]
              refine take_F (i := 15) (d := some 82) (v := ?_) (by kernel_rfl) (by kernel_rfl) rfl rfl (by kernel_rfl) (by kernel_rfl) (by kernel_rfl) (fun _ _ _ h => h) (Or.inl ⟨by rfl, ?_⟩) (by assumption) ?_
              rotate_left
              · (intro w hSw; (try dsimp only at hSw); go_simp; (try rw [if_neg (by omega)]); (try (with_reducible rfl)))
              simp only [Act.put, List.setIfInBounds_toArray, List.set_cons_zero, List.set_cons_succ]
              refine done_L (by kernel_rfl) ?_ _
              refine NoPanic.normal ?_
              obtain ⟨r0, r1, r2, r3, -⟩ := HQ8.out.cells
              have HX := Lib.hid (HB0.out.trans HQ8.out.bel)
              rw [← HW0.out] at HX
              obtain ⟨⟨d0, d1, d2, d3⟩, e0, e1, e2, e3⟩ := res4A_pre HX.out
              have HD := Lib.hid (res4A_post HX.out (.string s') (.int .i64 a') (.int .i64 b') (.slice Ak k ck))
              have HOw := Lib.hid (ownsRow_le (set4_own HQ8.out.cur (show w.heap.size < w0.heap.size by rw [HWz.out]; omega) (.string s') (.int .i64 a') (.int .i64 b') (.slice Ak k ck)) (show w.heap.size ≤ w0.heap.size by rw [HWz.out]; omega))
              clear hw1
              go_wp2_with fail
              obtain ⟨⟨k0, k1, k2, k3⟩, hbz⟩ := HD.out
              refine bodyPost_ret (v := .tuple #[.agg #[.string s', .int .i64 a', .int .i64 b', .slice Ak k ck], .int .i64 (-1), .int .i64 0]) (by simp [results, Tryd.results40, go_sem, k0, k1, k2, k3]) rfl ?_
              have hz := RetR3.yes (w := w) (v := .slice Ak k ck) HP.out (by rw [Hhn.out]; exact HOw.out) hbz
              rw [Hhm.out, Hha.out, Hhb.out] at hz
              exact hz
            · have HP := Lib.hid (show rdP L = ⟨⟨⟨#[]⟩, 0, 0, 0⟩, (k : Int) + 1, 5⟩ by rw [HPz.out, Hhn.out, if_neg (fun e => hft e.2)])
              have hft' := ba_neq hft
              rw [HE.out] at hft'
              generalize ftS (rwV L h) k % 97 = F0 at *
              generalize decS F0 = dF at *
              generalize lnG L (k + 1) = lz at *
              clear hft hlen HPz HE
              obtain ⟨p0, p1, p2, p3, -⟩ := HQ.out.cells
              go_upto_region 15 with (fail)
              refine wp_region_noPanic ?_
              refine wp_region_L [] (fun w' => w'.cell? ⟨q, 0, none⟩ = some (.string s') ∧ w'.cell? ⟨q, 1, none⟩ = some (.int .i64 a') ∧ w'.cell? ⟨q, 2, none⟩ = some (.int .i64 b') ∧ w'.cell? ⟨q, 3, none⟩ = some (.slice Ak k ck) ∧ w'.cell? ⟨gl, ol + k1, none⟩ = some (.string (lz))) (by kernel_rfl) (⟨p0, p1, p2, p3, cl⟩) (fun hHeld => ?_)
              refine take_F (i := 0) (d := some 67) (v := ?_) (by kernel_rfl) (by kernel_rfl) rfl rfl (by kernel_rfl) (by kernel_rfl) (by kernel_rfl) (fun _ _ _ h => h) (Or.inl ⟨by rfl, ?_⟩) (by assumption) ?_
              rotate_left
              · (intro w hSw; (try dsimp only at hSw); go_simp; (try rw [if_neg (by omega)]); (try (with_reducible rfl)))
              simp only [Act.put, List.setIfInBounds_toArray, List.set_cons_zero, List.set_cons_succ]
              refine take_F (i := 1) (d := some 68) (v := ?_) (by kernel_rfl) (by kernel_rfl) rfl rfl (by kernel_rfl) (by kernel_rfl) (by kernel_rfl) (fun _ _ _ h => h) (Or.inl ⟨by rfl, ?_⟩) (by assumption) ?_
              rotate_left
              · (intro w hSw; (try dsimp only at hSw); go_simp; (try rw [if_neg (by omega)]); (try (with_reducible rfl)))
              simp only [Act.put, List.setIfInBounds_toArray, List.set_cons_zero, List.set_cons_succ]
              refine take_F (i := 2) (d := some 69) (v := ?_) (by kernel_rfl) (by kernel_rfl) rfl rfl (by kernel_rfl) (by kernel_rfl) (by kernel_rfl) (fun _ _ _ h => h) (Or.inl ⟨by rfl, ?_⟩) (by assumption) ?_
              rotate_left
              · (intro w hSw; (try dsimp only at hSw); go_simp; (try rw [if_neg (by omega)]); (try (with_reducible rfl)))
              simp only [Act.put, List.setIfInBounds_toArray, List.set_cons_zero, List.set_cons_succ]
              refine take_F (i := 3) (d := some 70) (v := ?_) (by kernel_rfl) (by kernel_rfl) rfl rfl (by kernel_rfl) (by kernel_rfl) (by kernel_rfl) (fun _ _ _ h => h) (Or.inl ⟨by rfl, ?_⟩) (by assumption) ?_
              rotate_left
              · (intro w hSw; (try dsimp only at hSw); go_simp; (try rw [if_neg (by omega)]); (try (with_reducible rfl)))
              simp only [Act.put, List.setIfInBounds_toArray, List.set_cons_zero, List.set_cons_succ]
              refine take_F (i := 4) (d := some 71) (v := (.bool false)) (by kernel_rfl) (by kernel_rfl) rfl rfl (by kernel_rfl) (by kernel_rfl) (by kernel_rfl) (fun _ _ _ h => h) (Or.inl ⟨by rfl, ?_⟩) (by assumption) ?_
              · (intro w hSw; (try dsimp only at hSw); go_simp <;> first | omega | (simp; done) | (simp; omega))
              simp only [Act.put, List.setIfInBounds_toArray, List.set_cons_zero, List.set_cons_succ]
              refine take_F (i := 5) (d := some 72) (v := ?_) (by kernel_rfl) (by kernel_rfl) rfl rfl (by kernel_rfl) (by kernel_rfl) (by kernel_rfl) (fun _ _ _ h => h) (Or.inl ⟨by rfl, ?_⟩) (by assumption) ?_
              rotate_left
              · (intro w hSw; (try dsimp only at hSw); go_simp; (try rw [if_neg (by omega)]); (try (with_reducible rfl)))
              simp only [Act.put, List.setIfInBounds_toArray, List.set_cons_zero, List.set_cons_succ]
              refine take_F (i := 6) (d := some 73) (v := ?_) (by kernel_rfl) (by kernel_rfl) rfl rfl (by kernel_rfl) (by kernel_rfl) (by kernel_rfl) (fun _ _ _ h => h) (Or.inl ⟨by rfl, ?_⟩) (by assumption) ?_
              rotate_left
              · (intro w hSw; (try dsimp only at hSw); go_simp; (try rw [if_neg (by omega)]); (try (with_reducible rfl)))
              simp only [Act.put, List.setIfInBounds_toArray, List.set_cons_zero, List.set_cons_succ]
              refine take_F (i := 7) (d := some 74) (v := ?_) (by kernel_rfl) (by kernel_rfl) rfl rfl (by kernel_rfl) (by kernel_rfl) (by kernel_rfl) (fun _ _ _ h => h) (Or.inl ⟨by rfl, ?_⟩) (by assumption) ?_
              rotate_left
              · (intro w hSw; (try dsimp only at hSw); go_simp; (try rw [if_neg (by omega)]); (try (with_reducible rfl)))
              simp only [Act.put, List.setIfInBounds_toArray, List.set_cons_zero, List.set_cons_succ]
              refine take_F (i := 8) (d := some 75) (v := ?_) (by kernel_rfl) (by kernel_rfl) rfl rfl (by kernel_rfl) (by kernel_rfl) (by kernel_rfl) (fun _ _ _ h => h) (Or.inl ⟨by rfl, ?_⟩) (by assumption) ?_
              rotate_left
              · (intro w hSw; (try dsimp only at hSw); go_simp; (try rw [if_neg (by omega)]); (try (with_reducible rfl)))
              simp only [Act.put, List.setIfInBounds_toArray, List.set_cons_zero, List.set_cons_succ]
              refine take_F (i := 9) (d := some 76) (v := ?_) (by kernel_rfl) (by kernel_rfl) rfl rfl (by kernel_rfl) (by kernel_rfl) (by kernel_rfl) (fun _ _ _ h => h) (Or.inl ⟨by rfl, ?_⟩) (by assumption) ?_
              rotate_left
              · (intro w hSw; (try dsimp only at hSw); go_simp; (try rw [if_neg (by omega)]); (try (with_reducible rfl)))
              simp only [Act.put, List.setIfInBounds_toArray, List.set_cons_zero, List.set_cons_succ]
              refine take_L [14,10] (i := 10) (d := some 77) (v := ?_) (by kernel_rfl) (by kernel_rfl) (by kernel_rfl) (by kernel_rfl) rfl rfl (by kernel_rfl) (by kernel_rfl) (by kernel_rfl) (fun _ _ _ h => h) (Or.inl ⟨by rfl, ?_⟩) (by assumption) ?_
              rotate_left
              · (intro w hSw; (try dsimp only at hSw); go_simp; (try rw [if_neg (by omega)]); (try (with_reducible rfl)))
              simp only [Act.put, List.setIfInBounds_toArray, List.set_cons_zero, List.set_cons_succ]
              refine call_L (i := 11) (d := (some 78)) rfl rfl (by kernel_rfl) (fun Kq hKq => ?_)
              go_simp
              go_at_call 65
              refine (HFt.out wr.drew p3 ((Rd.of_own HQ.out.cur).drewN 1)).mono ?_; rintro e w8 ⟨rfl, rfl⟩
              (try go_wp2_with fail)
              refine hKq.out _ _ (⟨p0, p1, p2, p3, cl⟩) (fun hHeld => ?_)
              clear hKq Kq
              (try simp only [Act.put, List.setIfInBounds_toArray, List.set_cons_zero, List.set_cons_succ])
              refine call_L (i := 12) (d := (some 79)) rfl rfl (by kernel_rfl) (fun Kq hKq => ?_)
              go_simp
              go_at_call 63
              refine (HD1.out _).mono ?_; rintro e w8 ⟨rfl, hb8⟩
              have HQ8 := Lib.hid (HQ.out.below (below_undrew hb8))
              obtain ⟨r0, r1, r2, r3, -⟩ := HQ8.out.cells
              have r4 := ((below_undrew hb8).cell (p := ⟨gl, ol + k1, none⟩) hglr).trans cl
              clear hb8
              (try go_wp2_with fail)
              refine hKq.out _ _ (⟨r0, r1, r2, r3, r4⟩) (fun hHeld => ?_)
              clear hKq Kq
              (try simp only [Act.put, List.setIfInBounds_toArray, List.set_cons_zero, List.set_cons_succ])
              refine take_F (i := 13) (d := some 80) (v := ?_) (by kernel_rfl) (by kernel_rfl) rfl rfl (by kernel_rfl) (by kernel_rfl) (by kernel_rfl) (fun _ _ _ h => h) (Or.inl ⟨by rfl, ?_⟩) (by assumption) ?_
              rotate_left
              · (intro w hSw; (try dsimp only at hSw); go_simp; (try rw [if_neg (by omega)]); (try (with_reducible rfl)))
              simp only [Act.put, List.setIfInBounds_toArray, List.set_cons_zero, List.set_cons_succ]
              refine take_F (i := 14) (d := some 81) (v := ?_) (by kernel_rfl) (by kernel_rfl) rfl rfl (by kernel_rfl) (by kernel_rfl) (by kernel_rfl) (fun _ _ _ h => h) (Or.inl ⟨by rfl, ?_⟩) (by assumption) ?_
              rotate_left
              · (intro w hSw; (try dsimp only at hSw); go_simp; (try rw [if_neg (by omega)]); (try (with_reducible rfl)))
              simp only [Act.put, List.setIfInBounds_toArray, List.set_cons_zero, List.set_cons_succ]
              refine take_F (i := 15) (d := some 82) (v := ?_) (by kernel_rfl) (by kernel_rfl) rfl rfl (by kernel_rfl) (by kernel_rfl) (by kernel_rfl) (fun _ _ _ h => h) (Or.inl ⟨by rfl, ?_⟩) (by assumption) ?_
              rotate_left
              · (intro w hSw; (try dsimp only at hSw); go_simp; (try rw [if_neg (by omega)]); (try (with_reducible rfl)))
              simp only [Act.put, List.setIfInBounds_toArray, List.set_cons_zero, List.set_cons_succ]
              refine done_L (by kernel_rfl) ?_ _
              refine NoPanic.normal ?_
              have HX := Lib.hid (HB0.out.trans HQ8.out.bel)
              rw [← HW0.out] at HX
              obtain ⟨⟨d0, d1, d2, d3⟩, e0, e1, e2, e3⟩ := res4A_pre HX.out
              have HD := Lib.hid (res4A_post HX.out (.string ⟨#[]⟩) (.int .i64 0) (.int .i64 0) (.slice none 0 0))
              clear hw1
              go_wp2_with fail
              obtain ⟨⟨k0, k1, k2, k3⟩, hbz⟩ := HD.out
              refine bodyPost_ret (v := .tuple #[.agg #[.string ⟨#[]⟩, .int .i64 0, .int .i64 0, .slice none 0 0], .int .i64 ((k : Int) + 1), .int .i64 (5)]) (by simp [results, Tryd.results40, go_sem, k0, k1, k2, k3]) rfl ?_
              first | exact RetR3.no HP.out hbz | exact RetR3.no HP.out hbz.drew
          · have HP := Lib.hid (show rdP L = ⟨⟨⟨#[]⟩, 0, 0, 0⟩, (k : Int) + 1, 5⟩ by rw [HPz.out, Hhn.out, if_neg (fun e => hlen (by rw [← HLn.out]; exact e.1))])
            have hlen' : ¬ ((ln : Int) = (k : Int) + 2) := by omega
            have hl3 : ((ln : Int) == (k : Int) + 2) = false := by simp [hlen']
            have HX := Lib.hid (HB0.out.trans HQ.out.bel)
            rw [← HW0.out] at HX
            obtain ⟨⟨d0, d1, d2, d3⟩, e0, e1, e2, e3⟩ := res4A_pre HX.out
            have HD := Lib.hid (res4A_post HX.out (.string ⟨#[]⟩) (.int .i64 0) (.int .i64 0) (.slice none 0 0))
            clear hlen HPz
            go_upto_region 15 with (fail)
            refine wp_region_noPanic ?_
            refine wp_region_L [] (fun _ => True) (by kernel_rfl) (trivial) (fun hHeld => ?_)
            refine take_F (i := 0) (d := some 67) (v := ?_) (by kernel_rfl) (by kernel_rfl) rfl rfl (by kernel_rfl) (by kernel_rfl) (by kernel_rfl) (fun _ _ _ h => h) (Or.inl ⟨by rfl, ?_⟩) (by assumption) ?_
            rotate_left
            · (intro w hSw; (try dsimp only at hSw); go_simp; (try rw [if_neg (by omega)]); (try (with_reducible rfl)))
            simp only [Act.put, List.setIfInBounds_toArray, List.set_cons_zero, List.set_cons_succ]
            refine take_F (i := 1) (d := some 68) (v := ?_) (by kernel_rfl) (by kernel_rfl) rfl rfl (by kernel_rfl) (by kernel_rfl) (by kernel_rfl) (fun _ _ _ h => h) (Or.inl ⟨by rfl, ?_⟩) (by assumption) ?_
            rotate_left
            · (intro w hSw; (try dsimp only at hSw); go_simp; (try rw [if_neg (by omega)]); (try (with_reducible rfl)))
            simp only [Act.put, List.setIfInBounds_toArray, List.set_cons_zero, List.set_cons_succ]
            refine take_F (i := 2) (d := some 69) (v := ?_) (by kernel_rfl) (by kernel_rfl) rfl rfl (by kernel_rfl) (by kernel_rfl) (by kernel_rfl) (fun _ _ _ h => h) (Or.inl ⟨by rfl, ?_⟩) (by assumption) ?_
            rotate_left
            · (intro w hSw; (try dsimp only at hSw); go_simp; (try rw [if_neg (by omega)]); (try (with_reducible rfl)))
            simp only [Act.put, List.setIfInBounds_toArray, List.set_cons_zero, List.set_cons_succ]
            refine take_F (i := 3) (d := some 70) (v := ?_) (by kernel_rfl) (by kernel_rfl) rfl rfl (by kernel_rfl) (by kernel_rfl) (by kernel_rfl) (fun _ _ _ h => h) (Or.inl ⟨by rfl, ?_⟩) (by assumption) ?_
            rotate_left
            · (intro w hSw; (try dsimp only at hSw); go_simp; (try rw [if_neg (by omega)]); (try (with_reducible rfl)))
            simp only [Act.put, List.setIfInBounds_toArray, List.set_cons_zero, List.set_cons_succ]
            refine take_F (i := 4) (d := some 71) (v := (.bool true)) (by kernel_rfl) (by kernel_rfl) rfl rfl (by kernel_rfl) (by kernel_rfl) (by kernel_rfl) (fun _ _ _ h => h) (Or.inl ⟨by rfl, ?_⟩) (by assumption) ?_
            · (intro w hSw; (try dsimp only at hSw); go_simp <;> first | omega | (simp; done) | (simp; omega))
            simp only [Act.put, List.setIfInBounds_toArray, List.set_cons_zero, List.set_cons_succ]
            refine take_F (i := 5) (d := some 72) (v := ?_) (by kernel_rfl) (by kernel_rfl) rfl rfl (by kernel_rfl) (by kernel_rfl) (by kernel_rfl) (fun _ _ _ h => h) (Or.inl ⟨by rfl, ?_⟩) (by assumption) ?_
            rotate_left
            · (intro w hSw; (try dsimp only at hSw); go_simp; (try rw [if_neg (by omega)]); (try (with_reducible rfl)))
            simp only [Act.put, List.setIfInBounds_toArray, List.set_cons_zero, List.set_cons_succ]
            refine take_F (i := 6) (d := some 73) (v := undef) (by kernel_rfl) (by kernel_rfl) rfl rfl (by kernel_rfl) (by kernel_rfl) (by kernel_rfl) (fun _ _ _ h => h) (Or.inr ⟨by rfl, rfl⟩) (by assumption) ?_
            simp only [Act.put, List.setIfInBounds_toArray, List.set_cons_zero, List.set_cons_succ]
            refine take_F (i := 7) (d := some 74) (v := undef) (by kernel_rfl) (by kernel_rfl) rfl rfl (by kernel_rfl) (by kernel_rfl) (by kernel_rfl) (fun _ _ _ h => h) (Or.inr ⟨by rfl, rfl⟩) (by assumption) ?_
            simp only [Act.put, List.setIfInBounds_toArray, List.set_cons_zero, List.set_cons_succ]
            refine take_F (i := 8) (d := some 75) (v := undef) (by kernel_rfl) (by kernel_rfl) rfl rfl (by kernel_rfl) (by kernel_rfl) (by kernel_rfl) (fun _ _ _ h => h) (Or.inr ⟨by rfl, rfl⟩) (by assumption) ?_
            simp only [Act.put, List.setIfInBounds_toArray, List.set_cons_zero, List.set_cons_succ]
            refine take_F (i := 9) (d := some 76) (v := undef) (by kernel_rfl) (by kernel_rfl) rfl rfl (by kernel_rfl) (by kernel_rfl) (by kernel_rfl) (fun _ _ _ h => h) (Or.inr ⟨by rfl, rfl⟩) (by assumption) ?_
            simp only [Act.put, List.setIfInBounds_toArray, List.set_cons_zero, List.set_cons_succ]
            refine take_F (i := 10) (d := some 77) (v := undef) (by kernel_rfl) (by kernel_rfl) rfl rfl (by kernel_rfl) (by kernel_rfl) (by kernel_rfl) (fun _ _ _ h => h) (Or.inr ⟨by rfl, rfl⟩) (by assumption) ?_
            simp only [Act.put, List.setIfInBounds_toArray, List.set_cons_zero, List.set_cons_succ]
            refine call_L (i := 11) (d := (some 78)) rfl rfl (by kernel_rfl) (fun Kq hKq => ?_)
            go_simp
            refine hKq.out _ _ (trivial) (fun hHeld => ?_)
            clear hKq Kq
            (try simp only [Act.put, List.setIfInBounds_toArray, List.set_cons_zero, List.set_cons_succ])
            refine call_L (i := 12) (d := (some 79)) rfl rfl (by kernel_rfl) (fun Kq hKq => ?_)
            go_simp
            refine hKq.out _ _ (trivial) (fun hHeld => ?_)
            clear hKq Kq
            (try simp only [Act.put, List.setIfInBounds_toArray, List.set_cons_zero, List.set_cons_succ])
            refine take_F (i := 13) (d := some 80) (v := undef) (by kernel_rfl) (by kernel_rfl) rfl rfl (by kernel_rfl) (by kernel_rfl) (by kernel_rfl) (fun _ _ _ h => h) (Or.inr ⟨by rfl, rfl⟩) (by assumption) ?_
            simp only [Act.put, List.setIfInBounds_toArray, List.set_cons_zero, List.set_cons_succ]
            refine take_F (i := 14) (d := some 81) (v := undef) (by kernel_rfl) (by kernel_rfl) rfl rfl (by kernel_rfl) (by kernel_rfl) (by kernel_rfl) (fun _ _ _ h => h) (Or.inr ⟨by rfl, rfl⟩) (by assumption) ?_
            simp only [Act.put, List.setIfInBounds_toArray, List.set_cons_zero, List.set_cons_succ]
            refine take_F (i := 15) (d := some 82) (v := ?_) (by kernel_rfl) (by kernel_rfl) rfl rfl (by kernel_rfl) (by kernel_rfl) (by kernel_rfl) (fun _ _ _ h => h) (Or.inl ⟨by rfl, ?_⟩) (by assumption) ?_
            rotate_left
            · (intro w hSw; (try dsimp only at hSw); go_simp; (try rw [if_neg (by omega)]); (try (with_reducible rfl)))
            simp only [Act.put, List.setIfInBounds_toArray, List.set_cons_zero, List.set_cons_succ]
            refine done_L (by kernel_rfl) ?_ _
            refine NoPanic.normal ?_
            go_wp2_with fail
            obtain ⟨⟨k0, k1, k2, k3⟩, hbz⟩ := HD.out
            refine bodyPost_ret (v := .tuple #[.agg #[.string ⟨#[]⟩, .int .i64 0, .int .i64 0, .slice none 0 0], .int .i64 ((k : Int) + 1), .int .i64 (5)]) (by simp [results, Tryd.results40, go_sem, k0, k1, k2, k3]) rfl ?_
            first | exact RetR3.no HP.out hbz | exact RetR3.no HP.out hbz.drew
end Go.Proofs.YtnhngccfbnnpoaaDoor
/- Printed pages, part 9: PageFault and ReadPage of both sides (gen_pa9.py). -/
namespace Go.Proofs.YtnhngccfbnnpoaaDoor
open Go.RowKit Go.Joins

theorem rdP_zero {l : List ByteArray} (h : (rdP l).ft ≠ 0) : (rdP l).hd = ⟨⟨#[]⟩, 0, 0, 0⟩ := by
  by_cases h0 : l.length = 0
  · rw [rdP_nil h0]
  · cases h2 : hdR (lnG l 0) with
    | none => rw [rdP_head h0 h2]
    | some hd =>
      obtain ⟨f1, f2, f3⟩ := fb_ok (rwF l hd) hd.n
      by_cases e : fb (rwF l hd) hd.n < hd.n
      · rw [rdP_row h0 h2 e f2 (f3 e)]
      · have e2 : fb (rwF l hd) hd.n = hd.n := by omega
        rw [e2] at f2
        rw [rdP_end h0 h2 f2] at h ⊢
        split
        · rename_i hc
          rw [if_pos hc] at h
          exact absurd rfl h
        · rfl
def RetPf (L : List ByteArray) (w : World) (e : Ending) (w' : World) : Prop := e = .returned (.tuple #[.int .i64 (rdP L).at', .int .i64 (rdP L).ft]) ∧ Below w.heap.size w w'
def rdC (L : List ByteArray) : Int := if (rdP L).ft = 0 then 0 else 8
/-- the page of lines, a code -/
def RetRd (L : List ByteArray) (w : World) (e : Ending) (w' : World) : Prop :=
  ∃ v, e = .returned (.tuple #[.agg #[.string (rdP L).hd.nm, .int .i64 (rdP L).hd.a, .int .i64 (rdP L).hd.b, v], .int .i64 (rdC L)]) ∧ w'.ownsRow w.heap.size 2 1 v (rdP L).hd.n (tab (rdP L).hd.n (rwV L (rdP L).hd)) ∧ Below w.heap.size w w'
theorem RetRd.no {L : List ByteArray} {w w' : World} (h : (rdP L).ft ≠ 0) (hb : Below w.heap.size w w') : RetRd L w (.returned (.tuple #[.agg #[.string ⟨#[]⟩, .int .i64 0, .int .i64 0, .slice none 0 0], .int .i64 8])) w' := by
  unfold RetRd
  rw [rdP_zero h, show rdC L = 8 from if_neg h]
  exact ⟨_, rfl, ⟨rfl, .inl ⟨rfl, rfl⟩⟩, hb⟩
set_option maxRecDepth 100000 in
set_option maxHeartbeats 1600000 in
theorem PageFaultI_any (B : Nat) (v : Value) (L : List ByteArray) (w : World) (hR : Rd w B v L.length 1 (L.map Value.string)) (hB : B ≤ w.heap.size) (hs : ∀ z ∈ L, z.size ≤ 1000000) (hL : L.length ≤ 1000000) (ht : Tab w) : Calls Tryd.prog 9 #[v] w (RetPf L w) := by
  have H := Lib.hid (readPage_any B v L w hR hB hs hL ht)
  obtain ⟨A, c, rfl⟩ := rdS_sl hR
  clear hR hB hs ht
  unfold RetR3 RetPf at *
  generalize rwV L (rdP L).hd = F at *
  generalize rdP L = r at *
  obtain ⟨⟨nm, a, b, n⟩, at', ft⟩ := r
  dsimp only at H ⊢
  go_enter Tryd.func9, Tryd.ntmps9
  go_wp2_with fail
  refine H.out.mono ?_; rintro e w1 ⟨v1, rfl, ho, hb⟩
  obtain ⟨A1, c1, rfl⟩ := own_slP ho
  have HB := Lib.hid (hb.trans (((Below.refl w1.heap.size w1).alloc (Nat.le_refl _) (.cells #[.string nm, .int .i64 a, .int .i64 b, .slice A1 n c1] 26)).mono hb.size))
  clear ho hb
  go_wp2_with fail
  go_ret2
  exact ⟨rfl, HB.out⟩
set_option maxRecDepth 100000 in
set_option maxHeartbeats 1600000 in
theorem ReadPageI_any (B : Nat) (v : Value) (L : List ByteArray) (w : World) (hR : Rd w B v L.length 1 (L.map Value.string)) (hB : B ≤ w.heap.size) (hs : ∀ z ∈ L, z.size ≤ 1000000) (hL : L.length ≤ 1000000) (ht : Tab w) : Calls Tryd.prog 11 #[v] w (RetRd L w) := by
  have hb1 := (Below.refl w.heap.size w).alloc (Nat.le_refl _) (.cells #[.string ⟨#[]⟩, .int .i64 0, .int .i64 0, .slice none 0 0] 26)
  have H := Lib.hid (readPage_any B v L _ (hR.below (hb1.mono hB)) (Nat.le_trans hB hb1.size) hs hL (ht.below ((Below.refl w.heap.size w).alloc (Nat.le_refl _) (.cells #[.string ⟨#[]⟩, .int .i64 0, .int .i64 0, .slice none 0 0] 26))))
  have HB0 := Lib.hid (Below.refl (w.alloc (.cells #[.string ⟨#[]⟩, .int .i64 0, .int .i64 0, .slice none 0 0] 26)).heap.size (w.alloc (.cells #[.string ⟨#[]⟩, .int .i64 0, .int .i64 0, .slice none 0 0] 26)))
  obtain ⟨A, c, rfl⟩ := rdS_sl hR
  clear hR hB hs hb1 ht
  by_cases hft : (rdP L).ft = 0
  · have HY := Lib.hid (show rdC L = 0 from if_pos hft)
    have Hft := Lib.hid hft
    clear hft
    unfold RetR3 at H
    unfold RetRd
    rw [Hft.out] at H
    rw [HY.out]
    generalize rwV L (rdP L).hd = F at *
    generalize (rdP L).at' = at' at *
    generalize (rdP L).hd = hd at *
    obtain ⟨nm, a, b, n⟩ := hd
    dsimp only at H ⊢
    go_enter Tryd.func11, Tryd.ntmps11
    go_wp2_with fail
    refine H.out.mono ?_; rintro e w1 ⟨v1, rfl, ho, hb⟩
    obtain ⟨A1, c1, rfl⟩ := own_slP ho
    have hba := (Below.refl w1.heap.size w1).alloc (Nat.le_refl _) (.cells #[.string nm, .int .i64 a, .int .i64 b, .slice A1 n c1] 26)
    have HB := Lib.hid ((HB0.out.trans (hb.mono HB0.out.size)).trans (hba.mono (Nat.le_trans HB0.out.size hb.size)))
    obtain ⟨⟨d0, d1, d2, d3⟩, e0, e1, e2, e3⟩ := res4A_pre HB.out
    have HD := Lib.hid (res4A_post HB.out (.string nm) (.int .i64 a) (.int .i64 b) (.slice A1 n c1))
    have HOw := Lib.hid (ownsRow_le (set4_own (own_below ho hba) (show w.heap.size < (w.alloc (.cells #[.string ⟨#[]⟩, .int .i64 0, .int .i64 0, .slice none 0 0] 26)).heap.size by simp) (.string nm) (.int .i64 a) (.int .i64 b) (.slice A1 n c1)) (show w.heap.size ≤ (w.alloc (.cells #[.string ⟨#[]⟩, .int .i64 0, .int .i64 0, .slice none 0 0] 26)).heap.size by simp))
    have hlt : w.heap.size < w1.heap.size := by have := hb.size; simp at this; omega
    clear ho hb hba
    go_upto_region 4 with (fail)
    obtain ⟨f0, f1, f2, f3, _⟩ := blk4 (heap_alloc_new w1 (.cells #[.string nm, .int .i64 a, .int .i64 b, .slice A1 n c1] 26))
    generalize w1.alloc (.cells #[.string nm, .int .i64 a, .int .i64 b, .slice A1 n c1] 26) = w2 at *
    go_wp2_with fail
    obtain ⟨⟨k0, k1, k2, k3⟩, hbz⟩ := HD.out
    refine bodyPost_ret (v := .tuple #[.agg #[.string nm, .int .i64 a, .int .i64 b, .slice A1 n c1], .int .i64 0]) (by simp [results, Tryd.results11, go_sem, k0, k1, k2, k3]) rfl ?_
    exact ⟨_, rfl, HOw.out, hbz⟩
  · have Hft := Lib.hid hft
    have HR := Lib.hid (fun w' (hb : Below w.heap.size w w') => RetRd.no hft hb)
    unfold RetR3 at H
    rw [rdP_zero hft] at H
    dsimp only at H
    clear hft
    have hft2 : ((rdP L).ft == 0) = false := by simp [Hft.out]
    have hft3 : ¬ (rdP L).ft = 0 := Hft.out
    generalize rwV L ⟨⟨#[]⟩, 0, 0, 0⟩ = F at *
    generalize (rdP L).at' = at' at *
    generalize (rdP L).ft = ft at *
    go_enter Tryd.func11, Tryd.ntmps11
    go_wp2_with fail
    refine H.out.mono ?_; rintro e w1 ⟨v1, rfl, ho, hb⟩
    obtain ⟨A1, c1, rfl⟩ := own_slP ho
    have hba := (Below.refl w1.heap.size w1).alloc (Nat.le_refl _) (.cells #[.string ⟨#[]⟩, .int .i64 0, .int .i64 0, .slice A1 0 c1] 26)
    have HB := Lib.hid ((HB0.out.trans (hb.mono HB0.out.size)).trans (hba.mono (Nat.le_trans HB0.out.size hb.size)))
    obtain ⟨⟨d0, d1, d2, d3⟩, e0, e1, e2, e3⟩ := res4A_pre HB.out
    have HD := Lib.hid (res4A_post HB.out (.string ⟨#[]⟩) (.int .i64 0) (.int .i64 0) (.slice none 0 0))
    clear ho hb hba
    go_wp2_with fail
    obtain ⟨⟨k0, k1, k2, k3⟩, hbz⟩ := HD.out
    refine bodyPost_ret (v := .tuple #[.agg #[.string ⟨#[]⟩, .int .i64 0, .int .i64 0, .slice none 0 0], .int .i64 8]) (by simp [results, Tryd.results11, go_sem, k0, k1, k2, k3]) rfl ?_
    exact HR.out _ hbz
set_option maxRecDepth 100000 in
set_option maxHeartbeats 1600000 in
theorem PageFaultS_any (B : Nat) (v : Value) (L : List ByteArray) (w : World) (hR : Rd w B v L.length 1 (L.map Value.string)) (hB : B ≤ w.heap.size) (hs : ∀ z ∈ L, z.size ≤ 1000000) (hL : L.length ≤ 1000000) : Calls Tryd.prog 10 #[v] w (RetPf L w) := by
  have H := Lib.hid (l18Read_any B v L w hR hB hs hL)
  obtain ⟨A, c, rfl⟩ := rdS_sl hR
  clear hR hB hs
  unfold RetR3 RetPf at *
  generalize rwV L (rdP L).hd = F at *
  generalize rdP L = r at *
  obtain ⟨⟨nm, a, b, n⟩, at', ft⟩ := r
  dsimp only at H ⊢
  go_enter Tryd.func10, Tryd.ntmps10
  go_wp2_with fail
  refine H.out.mono ?_; rintro e w1 ⟨v1, rfl, ho, hb⟩
  obtain ⟨A1, c1, rfl⟩ := own_slP ho
  have HB := Lib.hid (hb.trans (((Below.refl w1.heap.size w1).alloc (Nat.le_refl _) (.cells #[.string nm, .int .i64 a, .int .i64 b, .slice A1 n c1] 26)).mono hb.size))
  clear ho hb
  go_wp2_with fail
  go_ret2
  exact ⟨rfl, HB.out⟩
set_option maxRecDepth 100000 in
set_option maxHeartbeats 1600000 in
theorem ReadPageS_any (B : Nat) (v : Value) (L : List ByteArray) (w : World) (hR : Rd w B v L.length 1 (L.map Value.string)) (hB : B ≤ w.heap.size) (hs : ∀ z ∈ L, z.size ≤ 1000000) (hL : L.length ≤ 1000000) : Calls Tryd.prog 12 #[v] w (RetRd L w) := by
  have hb1 := (Below.refl w.heap.size w).alloc (Nat.le_refl _) (.cells #[.string ⟨#[]⟩, .int .i64 0, .int .i64 0, .slice none 0 0] 26)
  have H := Lib.hid (l18Read_any B v L _ (hR.below (hb1.mono hB)) (Nat.le_trans hB hb1.size) hs hL)
  have HB0 := Lib.hid (Below.refl (w.alloc (.cells #[.string ⟨#[]⟩, .int .i64 0, .int .i64 0, .slice none 0 0] 26)).heap.size (w.alloc (.cells #[.string ⟨#[]⟩, .int .i64 0, .int .i64 0, .slice none 0 0] 26)))
  obtain ⟨A, c, rfl⟩ := rdS_sl hR
  clear hR hB hs hb1
  by_cases hft : (rdP L).ft = 0
  · have HY := Lib.hid (show rdC L = 0 from if_pos hft)
    have Hft := Lib.hid hft
    clear hft
    unfold RetR3 at H
    unfold RetRd
    rw [Hft.out] at H
    rw [HY.out]
    generalize rwV L (rdP L).hd = F at *
    generalize (rdP L).at' = at' at *
    generalize (rdP L).hd = hd at *
    obtain ⟨nm, a, b, n⟩ := hd
    dsimp only at H ⊢
    go_enter Tryd.func12, Tryd.ntmps12
    go_wp2_with fail
    refine H.out.mono ?_; rintro e w1 ⟨v1, rfl, ho, hb⟩
    obtain ⟨A1, c1, rfl⟩ := own_slP ho
    have hba := (Below.refl w1.heap.size w1).alloc (Nat.le_refl _) (.cells #[.string nm, .int .i64 a, .int .i64 b, .slice A1 n c1] 26)
    have HB := Lib.hid ((HB0.out.trans (hb.mono HB0.out.size)).trans (hba.mono (Nat.le_trans HB0.out.size hb.size)))
    obtain ⟨⟨d0, d1, d2, d3⟩, e0, e1, e2, e3⟩ := res4A_pre HB.out
    have HD := Lib.hid (res4A_post HB.out (.string nm) (.int .i64 a) (.int .i64 b) (.slice A1 n c1))
    have HOw := Lib.hid (ownsRow_le (set4_own (own_below ho hba) (show w.heap.size < (w.alloc (.cells #[.string ⟨#[]⟩, .int .i64 0, .int .i64 0, .slice none 0 0] 26)).heap.size by simp) (.string nm) (.int .i64 a) (.int .i64 b) (.slice A1 n c1)) (show w.heap.size ≤ (w.alloc (.cells #[.string ⟨#[]⟩, .int .i64 0, .int .i64 0, .slice none 0 0] 26)).heap.size by simp))
    have hlt : w.heap.size < w1.heap.size := by have := hb.size; simp at this; omega
    clear ho hb hba
    go_upto_region 4 with (fail)
    obtain ⟨f0, f1, f2, f3, _⟩ := blk4 (heap_alloc_new w1 (.cells #[.string nm, .int .i64 a, .int .i64 b, .slice A1 n c1] 26))
    generalize w1.alloc (.cells #[.string nm, .int .i64 a, .int .i64 b, .slice A1 n c1] 26) = w2 at *
    go_wp2_with fail
    obtain ⟨⟨k0, k1, k2, k3⟩, hbz⟩ := HD.out
    refine bodyPost_ret (v := .tuple #[.agg #[.string nm, .int .i64 a, .int .i64 b, .slice A1 n c1], .int .i64 0]) (by simp [results, Tryd.results12, go_sem, k0, k1, k2, k3]) rfl ?_
    exact ⟨_, rfl, HOw.out, hbz⟩
  · have Hft := Lib.hid hft
    have HR := Lib.hid (fun w' (hb : Below w.heap.size w w') => RetRd.no hft hb)
    unfold RetR3 at H
    rw [rdP_zero hft] at H
    dsimp only at H
    clear hft
    have hft2 : ((rdP L).ft == 0) = false := by simp [Hft.out]
    have hft3 : ¬ (rdP L).ft = 0 := Hft.out
    generalize rwV L ⟨⟨#[]⟩, 0, 0, 0⟩ = F at *
    generalize (rdP L).at' = at' at *
    generalize (rdP L).ft = ft at *
    go_enter Tryd.func12, Tryd.ntmps12
    go_wp2_with fail
    refine H.out.mono ?_; rintro e w1 ⟨v1, rfl, ho, hb⟩
    obtain ⟨A1, c1, rfl⟩ := own_slP ho
    have hba := (Below.refl w1.heap.size w1).alloc (Nat.le_refl _) (.cells #[.string ⟨#[]⟩, .int .i64 0, .int .i64 0, .slice A1 0 c1] 26)
    have HB := Lib.hid ((HB0.out.trans (hb.mono HB0.out.size)).trans (hba.mono (Nat.le_trans HB0.out.size hb.size)))
    obtain ⟨⟨d0, d1, d2, d3⟩, e0, e1, e2, e3⟩ := res4A_pre HB.out
    have HD := Lib.hid (res4A_post HB.out (.string ⟨#[]⟩) (.int .i64 0) (.int .i64 0) (.slice none 0 0))
    clear ho hb hba
    go_wp2_with fail
    obtain ⟨⟨k0, k1, k2, k3⟩, hbz⟩ := HD.out
    refine bodyPost_ret (v := .tuple #[.agg #[.string ⟨#[]⟩, .int .i64 0, .int .i64 0, .slice none 0 0], .int .i64 8]) (by simp [results, Tryd.results12, go_sem, k0, k1, k2, k3]) rfl ?_
    exact HR.out _ hbz
end Go.Proofs.YtnhngccfbnnpoaaDoor
/- Two rows of numbers are equal: sameNumbers, l00Same (out of Sn1, for the pages). -/
namespace Go.Proofs.YtnhngccfbnnpoaaDoor
open Go.RowKit Go.Joins

def smJ (n m : Nat) (f g : Nat → Int) : Bool := decide (n = m) && (List.range n).all fun i => f i == g i
theorem smJ_yes {n : Nat} {f g : Nat → Int} (h : ∀ j, j < n → f j = g j) : smJ n n f g = true := by
  unfold smJ
  rw [decide_eq_true rfl, Bool.true_and, List.all_eq_true]
  intro i hi
  rw [h i (List.mem_range.1 hi)]; simp
theorem smJ_no {n : Nat} {f g : Nat → Int} (i : Nat) (hi : i < n) (h : f i ≠ g i) : smJ n n f g = false := by
  cases hs : smJ n n f g with
  | false => rfl
  | true =>
    unfold smJ at hs
    rw [decide_eq_true rfl, Bool.true_and, List.all_eq_true] at hs
    have := hs i (List.mem_range.2 hi)
    exact absurd (by simpa using this) h
theorem smJ_ne {n m : Nat} {f g : Nat → Int} (h : n ≠ m) : smJ n m f g = false := by unfold smJ; rw [decide_eq_false h]; rfl
set_option maxRecDepth 100000 in
set_option maxHeartbeats 1600000 in
theorem sameNumJ_any (B1 B2 : Nat) (v1 v2 : Value) (n m : Nat) (f g : Nat → Int) (w : World) (h1 : Rd w B1 v1 n 1 (tab n f)) (h2 : Rd w B2 v2 m 1 (tab m g)) (hn : n ≤ 1048576) :
    Calls Tryd.prog 56 #[v1, v2] w fun e w' => e = .returned (.bool (smJ n m f g)) ∧ ∃ k, w' = w.drewN k := by
  have H1 := Lib.hid h1
  have H2 := Lib.hid h2
  obtain ⟨A1, c1, rfl⟩ := rd_sl h1
  obtain ⟨A2, c2, rfl⟩ := rd_sl h2
  clear h1 h2
  by_cases hnm : n = m
  · subst hnm
    have Hy := Lib.hid (fun h => smJ_yes (n := n) (f := f) (g := g) h)
    have Hno := Lib.hid (fun i hi h => smJ_no (n := n) (f := f) (g := g) i hi h)
    generalize smJ n n f g = r at *
    have hb : ((n : Int) != (n : Int)) = false := by simp
    go_enter Tryd.func56, Tryd.ntmps56
    go_wp2_with fail
    go_loopw [13] (fun i wr => ∃ k m0 : Nat, k ≤ n ∧ i = .int .i64 (k : Int) ∧ (∀ j, j < k → f j = g j) ∧ wr = w.drewN m0) (fun i _ => n - (intOf i).toNat)
    case atStart => exact ⟨0, 0, Nat.zero_le _, rfl, fun j hj => absurd hj (by omega), rfl⟩
    case round =>
      obtain ⟨k, m0, hk, rfl, hall, hwr⟩ := hrel
      have Hall := Lib.hid hall
      have Hw := Lib.hid (fun n => (show wr.drewN n = w.drewN (m0 + n) by rw [hwr, World.drewN_drewN]))
      have Hw0 := Lib.hid hwr
      have R1 : Hid (Rd wr B1 (.slice A1 n c1) n 1 (tab n f)) := Lib.hid (by rw [hwr]; exact H1.out.drewN m0)
      have R2 : Hid (Rd wr B2 (.slice A2 n c2) n 1 (tab n g)) := Lib.hid (by rw [hwr]; exact H2.out.drewN m0)
      clear hwr hall
      by_cases hlt : k < n
      · have hlt' : (k : Int) < (n : Int) := by omega
        obtain ⟨x1, o1, hA1, _, d1⟩ := rdF_all R1.out (by omega)
        obtain ⟨x2, o2, hA2, _, d2⟩ := rdF_all R2.out (by omega)
        subst hA1 hA2
        have e1 := d1 k hlt
        have e2 := d2 k hlt
        clear d1 d2
        by_cases he : f k = g k
        · have hb2 : (f k != g k) = false := by rw [he]; simp
          have Hnx := Lib.hid (show ∀ j, j < k + 1 → f j = g j from fun j hj => by
            by_cases e : j = k
            · rw [e]; exact he
            · exact Hall.out j (by omega))
          go_wp2_with fail
          go_quiet (fail)
          go_wp2_with fail
          go_roundw
          case rel => exact ⟨k + 1, _, by omega, by go_num, Hnx.out, Hw.out _⟩
          case measure => simp [intOf]; omega
        · have hb2 : (f k != g k) = true := by simpa using he
          have hr := Hno.out k hlt he
          subst hr
          go_wp2_with fail
          go_quiet (fail)
          go_wp2_with fail
          go_ret
          exact ⟨rfl, _, Hw.out _⟩
      · have hkn : k = n := by omega
        subst hkn
        have hlt' : ¬ (k : Int) < (k : Int) := by omega
        have hr := Hy.out Hall.out
        subst hr
        go_wp2_with fail
        go_ret
        exact ⟨rfl, _, Hw0.out⟩
  · have hr : smJ n m f g = false := by unfold smJ; rw [decide_eq_false hnm]; rfl
    have hb : ((n : Int) != (m : Int)) = true := by
      rw [bne_iff_ne]; omega
    rw [hr]
    go_enter Tryd.func56, Tryd.ntmps56
    go_wp2_with fail
    go_ret
    exact ⟨rfl, 0, rfl⟩
set_option maxRecDepth 100000 in
set_option maxHeartbeats 1600000 in
theorem l00SameJ_any (B1 B2 : Nat) (v1 v2 : Value) (n m : Nat) (f g : Nat → Int) (w : World) (h1 : Rd w B1 v1 n 1 (tab n f)) (h2 : Rd w B2 v2 m 1 (tab m g)) (hn : n ≤ 1048576) :
    Calls Tryd.prog 55 #[v1, v2] w fun e w' => e = .returned (.bool (smJ n m f g)) ∧ ∃ k, w' = w.drewN k := by
  have H1 := Lib.hid h1
  have H2 := Lib.hid h2
  obtain ⟨A1, c1, rfl⟩ := rd_sl h1
  obtain ⟨A2, c2, rfl⟩ := rd_sl h2
  clear h1 h2
  by_cases hnm : n = m
  · subst hnm
    have Hy := Lib.hid (fun h => smJ_yes (n := n) (f := f) (g := g) h)
    have Hno := Lib.hid (fun i hi h => smJ_no (n := n) (f := f) (g := g) i hi h)
    generalize smJ n n f g = r at *
    have hb : ((n : Int) != (n : Int)) = false := by simp
    go_enter Tryd.func55, Tryd.ntmps55
    go_wp2_with fail
    go_loopw [5] (fun i wr => ∃ k m0 : Nat, k ≤ n ∧ i = .int .i64 (k : Int) ∧ (∀ j, j < k → f j = g j) ∧ wr = w.drewN m0) (fun i _ => n - (intOf i).toNat)
    case atStart => exact ⟨0, 0, Nat.zero_le _, rfl, fun j hj => absurd hj (by omega), rfl⟩
    case round =>
      obtain ⟨k, m0, hk, rfl, hall, hwr⟩ := hrel
      have Hall := Lib.hid hall
      have Hw := Lib.hid (fun n => (show wr.drewN n = w.drewN (m0 + n) by rw [hwr, World.drewN_drewN]))
      have Hw0 := Lib.hid hwr
      have R1 : Hid (Rd wr B1 (.slice A1 n c1) n 1 (tab n f)) := Lib.hid (by rw [hwr]; exact H1.out.drewN m0)
      have R2 : Hid (Rd wr B2 (.slice A2 n c2) n 1 (tab n g)) := Lib.hid (by rw [hwr]; exact H2.out.drewN m0)
      clear hwr hall
      by_cases hlt : k < n
      · have hlt' : (k : Int) < (n : Int) := by omega
        obtain ⟨x1, o1, hA1, _, d1⟩ := rdF_all R1.out (by omega)
        obtain ⟨x2, o2, hA2, _, d2⟩ := rdF_all R2.out (by omega)
        subst hA1 hA2
        have e1 := d1 k hlt
        have e2 := d2 k hlt
        clear d1 d2
        by_cases he : f k = g k
        · have hb2 : (f k != g k) = false := by rw [he]; simp
          have Hnx := Lib.hid (show ∀ j, j < k + 1 → f j = g j from fun j hj => by
            by_cases e : j = k
            · rw [e]; exact he
            · exact Hall.out j (by omega))
          go_wp2_with fail
          go_quiet (fail)
          go_wp2_with fail
          go_roundw
          case rel => exact ⟨k + 1, _, by omega, by go_num, Hnx.out, Hw.out _⟩
          case measure => simp [intOf]; omega
        · have hb2 : (f k != g k) = true := by simpa using he
          have hr := Hno.out k hlt he
          subst hr
          go_wp2_with fail
          go_quiet (fail)
          go_wp2_with fail
          go_ret
          exact ⟨rfl, _, Hw.out _⟩
      · have hkn : k = n := by omega
        subst hkn
        have hlt' : ¬ (k : Int) < (k : Int) := by omega
        have hr := Hy.out Hall.out
        subst hr
        go_wp2_with fail
        go_ret
        exact ⟨rfl, _, Hw0.out⟩
  · have hr : smJ n m f g = false := by unfold smJ; rw [decide_eq_false hnm]; rfl
    have hb : ((n : Int) != (m : Int)) = true := by
      rw [bne_iff_ne]; omega
    rw [hr]
    go_enter Tryd.func55, Tryd.ntmps55
    go_wp2_with fail
    go_ret
    exact ⟨rfl, 0, rfl⟩

/-! the same for lists -/
end Go.Proofs.YtnhngccfbnnpoaaDoor
