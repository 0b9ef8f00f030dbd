/- Merged texts: Fe8, Fe9, Si6, Fe10. -/
import Derived.Test.YtmheijnckmlbnaaDoorGCardFindEntries6
import Derived.Test.YtmheijnckmlbnaaDoorGCardFindEntries4
/- Queries: whether an entry fits a term, the reference (l25Fits). -/
namespace Go.Proofs.YtmheijnckmlbnaaDoor
open Go.RowKit Go.Joins

/-- a term's cells -/
structure TmAt (w : World) (b o : Nat) (F T : ByteArray) (c y : Int) : Prop where
  c0 : w.cell? ⟨b, o, none⟩ = some (.string F)
  c1 : w.cell? ⟨b, o + 1, none⟩ = some (.int .u8 c)
  c2 : w.cell? ⟨b, o + 2, none⟩ = some (.string T)
  c3 : w.cell? ⟨b, o + 3, none⟩ = some (.int .i64 y)

set_option maxRecDepth 100000 in
set_option maxHeartbeats 1600000 in
theorem l25Fits_any (B b1 o1 b2 o2 : Nat) (x : Ent) (A : Option Addr) (ca : Nat) (t : Term) (F T : ByteArray) (c y : Int) (w : World) (hx : EntAt w B b1 o1 x A ca) (ht : TmAt w b2 o2 F T c y) (hi : TermIs t F c T y) (hl : x.words.length ≤ 1048576) :
    Calls Tryd.prog 71 #[.pointer (some ⟨b1, o1, none⟩), .pointer (some ⟨b2, o2, none⟩)] w fun e w' => e = .returned (.bool (fitsT t x)) ∧ ∃ n, w' = w.drewN n := by
  obtain ⟨_, e0, e1, e2, e3, e4, ew⟩ := hx
  obtain ⟨d0, d1, d2, d3⟩ := ht
  obtain ⟨num, name, maker, year, ws⟩ := x
  dsimp only at e0 e1 e2 e3 e4 ew hl
  have HW := Lib.hid (fun z n => flipC (l25Has_any B _ ws z (w.drewN n) (ew.drewN n) hl))
  clear ew hl e0
  cases t with
  | name n =>
    obtain ⟨hF, rfl⟩ := hi
    obtain rfl : F = ⟨#[110, 97, 109, 101]⟩ := hF
    have Hf := Lib.hid (show fitsT (.name T) ⟨num, name, maker, year, ws⟩ = (name.toList == T.toList) from rfl)
    generalize fitsT (.name T) ⟨num, name, maker, year, ws⟩ = r at *
    cases he : (name.toList == T.toList) with
    | true =>
      have hr := Hf.out
      rw [he] at hr
      subst hr
      go_enter Tryd.func71, Tryd.ntmps71
      go_wp2_with fail
      go_quiet (fail)
      go_wp2_with fail
      go_ret
      exact ⟨rfl, _, rfl⟩
    | false =>
      have hr := Hf.out
      rw [he] at hr
      subst hr
      go_enter Tryd.func71, Tryd.ntmps71
      go_wp2_with fail
      go_quiet (fail)
      go_wp2_with fail
      go_ret
      exact ⟨rfl, _, rfl⟩
  | maker n =>
    obtain ⟨hF, rfl⟩ := hi
    obtain rfl : F = ⟨#[109, 97, 107, 101, 114]⟩ := hF
    have Hf := Lib.hid (show fitsT (.maker T) ⟨num, name, maker, year, ws⟩ = (maker.toList == T.toList) from rfl)
    generalize fitsT (.maker T) ⟨num, name, maker, year, ws⟩ = r at *
    cases he : (maker.toList == T.toList) with
    | true =>
      have hr := Hf.out
      rw [he] at hr
      subst hr
      go_enter Tryd.func71, Tryd.ntmps71
      go_wp2_with fail
      go_quiet (fail)
      go_wp2_with fail
      go_ret
      exact ⟨rfl, _, rfl⟩
    | false =>
      have hr := Hf.out
      rw [he] at hr
      subst hr
      go_enter Tryd.func71, Tryd.ntmps71
      go_wp2_with fail
      go_quiet (fail)
      go_wp2_with fail
      go_ret
      exact ⟨rfl, _, rfl⟩
  | word n =>
    obtain ⟨hF, rfl⟩ := hi
    obtain rfl : F = ⟨#[119, 111, 114, 100]⟩ := hF
    have Hf := Lib.hid (show fitsT (.word T) ⟨num, name, maker, year, ws⟩ = hasW ws T from rfl)
    have HT := Lib.hid (HW.out T)
    generalize fitsT (.word T) ⟨num, name, maker, year, ws⟩ = r at *
    generalize hasW ws T = r2 at *
    have hr := Hf.out
    subst hr
    clear HW Hf
    go_enter Tryd.func71, Tryd.ntmps71
    go_wp2_with fail
    go_quiet ((go_at_call 78; exact Calls.quiet_of_same (HT.out _)))
    go_wp2_with fail
    go_ret
    exact ⟨rfl, _, rfl⟩
  | year cc z =>
    obtain ⟨hF, hc, hy, hcs⟩ := hi
    obtain rfl : F = ⟨#[121, 101, 97, 114]⟩ := hF
    subst hy
    clear HW
    rcases hcs with rfl | rfl | rfl
    · obtain rfl : c = 61 := hc
      have Hf := Lib.hid (show fitsT (.year 61 y) ⟨num, name, maker, year, ws⟩ = (year == y) from rfl)
      generalize fitsT (.year 61 y) ⟨num, name, maker, year, ws⟩ = r at *
      cases he : (year == y) with
      | true =>
        have hr := Hf.out
        rw [he] at hr
        subst hr
        go_enter Tryd.func71, Tryd.ntmps71
        go_wp2_with fail
        go_quiet (fail)
        go_wp2_with fail
        go_ret
        exact ⟨rfl, _, rfl⟩
      | false =>
        have hr := Hf.out
        rw [he] at hr
        subst hr
        go_enter Tryd.func71, Tryd.ntmps71
        go_wp2_with fail
        go_quiet (fail)
        go_wp2_with fail
        go_ret
        exact ⟨rfl, _, rfl⟩
    · obtain rfl : c = 60 := hc
      have Hf := Lib.hid (show fitsT (.year 60 y) ⟨num, name, maker, year, ws⟩ = decide (year < y) from rfl)
      generalize fitsT (.year 60 y) ⟨num, name, maker, year, ws⟩ = r at *
      have hr := Hf.out
      subst hr
      go_enter Tryd.func71, Tryd.ntmps71
      go_wp2_with fail
      go_quiet (fail)
      go_wp2_with fail
      go_ret
      exact ⟨rfl, _, rfl⟩
    · obtain rfl : c = 62 := hc
      have Hf := Lib.hid (show fitsT (.year 62 y) ⟨num, name, maker, year, ws⟩ = decide (y < year) from rfl)
      generalize fitsT (.year 62 y) ⟨num, name, maker, year, ws⟩ = r at *
      have hr := Hf.out
      subst hr
      go_enter Tryd.func71, Tryd.ntmps71
      go_wp2_with fail
      go_quiet (fail)
      go_wp2_with fail
      go_ret
      exact ⟨rfl, _, rfl⟩
end Go.Proofs.YtmheijnckmlbnaaDoor
/- Queries: the reference's FindEntries. -/
namespace Go.Proofs.YtmheijnckmlbnaaDoor
open Go.RowKit Go.Joins

structure Tm4 where
  F : ByteArray
  c : Int
  T : ByteArray
  y : Int
def cellsT (r : Tm4) : List Value := [.string r.F, .int .u8 r.c, .string r.T, .int .i64 r.y]
theorem infoT : (Tryd.prog.info? 94).map (fun i => (i.zero, i.size, i.bytes)) = some (some (.agg #[.string ⟨#[]⟩, .int .u8 0, .string ⟨#[]⟩, .int .i64 0]), 4, 48) := by kernel_rfl
/-- the rows say what the terms say -/
def TmL (rs : List Tm4) (ts : List Term) : Prop := rs.length = ts.length ∧ ∀ i (h1 : i < rs.length) (h2 : i < ts.length), TermIs ts[i] rs[i].F rs[i].c rs[i].T rs[i].y
theorem TmL.nil : TmL [] [] := ⟨rfl, fun i h => absurd h (by simp)⟩
theorem TmL.snoc {rs : List Tm4} {ts : List Term} {r : Tm4} {t : Term} (h : TmL rs ts) (ht : TermIs t r.F r.c r.T r.y) : TmL (rs ++ [r]) (ts ++ [t]) := by
  refine ⟨by rw [List.length_append, List.length_append, h.1]; rfl, fun i h1 h2 => ?_⟩
  have hl := h.1
  by_cases hi : i < rs.length
  · rw [List.getElem_append_left (by omega)]
    simp only [List.getElem_append_left hi]
    exact h.2 i hi (by omega)
  · rw [List.length_append] at h1
    simp only [List.length_cons, List.length_nil] at h1
    have e : i = rs.length := by omega
    subst e
    rw [List.getElem_append_right (by omega)]
    simp only [hl, Nat.sub_self, List.getElem_cons_zero]
    rw [List.getElem_append_right (by omega)]
    simp only [hl, Nat.sub_self, List.getElem_cons_zero]
    exact ht
theorem rd_atT {w : World} {B n c : Nat} {A : Option Addr} {rs : List Tm4} (h : Rd w B (.slice A n c) rs.length 4 (rs.flatMap cellsT)) (k : Nat) (hk : k < rs.length) :
    ∃ b o, A = some ⟨b, o, none⟩ ∧ TmAt w b (o + k * 4) rs[k].F rs[k].T rs[k].c rs[k].y := by
  obtain ⟨_, A', c', hv, hc⟩ := h
  injection hv with e1 e2 e3
  subst e1
  obtain ⟨b, o, hA, hb, hcc⟩ := hc (by omega)
  have hat : ∀ j u, j < 4 → (cellsT rs[k])[j]? = some u → w.cell? ⟨b, o + k * 4 + j, none⟩ = some u := fun j u hj hu => by
    have := hcc (k * 4 + j) u ((flat_at cellsT 4 (fun _ => rfl) rs k j hk hj).trans hu)
    rwa [← Nat.add_assoc] at this
  exact ⟨b, o, hA, ⟨hat 0 _ (by omega) rfl, hat 1 _ (by omega) rfl, hat 2 _ (by omega) rfl, hat 3 _ (by omega) rfl⟩⟩
theorem snocT (rs : List Tm4) (F T : ByteArray) (c y : Int) : rs.flatMap cellsT ++ (#[Value.string F, .int .u8 c, .string T, .int .i64 y] : Array Value).toList = (rs ++ [(⟨F, c, T, y⟩ : Tm4)]).flatMap cellsT := by
  rw [List.flatMap_append]; simp [cellsT]
theorem onesT (F T : ByteArray) (c y : Int) : ∀ u ∈ (#[Value.string F, .int .u8 c, .string T, .int .i64 y] : Array Value).toList, u.oneCell' = true := by
  simp [Value.oneCell']

set_option maxRecDepth 100000 in
set_option maxHeartbeats 6400000 in
theorem FindS_any (B : Nat) (v : Value) (xs : List Ent) (q : ByteArray) (w : World) (h : RdE w B v xs) (hB : B ≤ w.heap.size) (hl : xs.length ≤ 1048576) (hsm : ∀ x ∈ xs, smE x) (hq : q.size ≤ 1048576) :
    Calls Tryd.prog 29 #[v, .string q] w (RetN (findC xs q) (findR xs q) w) := by
  have HV := Lib.hid (l25Ok_any B v xs w h hl hsm)
  have HSp := Lib.hid (fun wx => SplitS_any q wx (by omega))
  have HQ := Lib.hid (fun s wx hs => l25Parse_any s wx hs)
  have hwl := wordsB_len q
  have HW := Lib.hid (words_le (s := q))
  have hcs := find_cases xs q
  have H := Lib.hid h
  have Hsm := Lib.hid hsm
  generalize findC xs q = C at *
  generalize findR xs q = R at *
  generalize wordsB q = L at *
  obtain ⟨A, c, rfl⟩ := h.slice
  unfold RetPs at HSp
  clear h hsm
  cases hok : entsOk xs with
  | false =>
    rcases hcs with ⟨_, hC, hR⟩ | ⟨g1, _⟩ | ⟨_, g1, _⟩
    · rw [hok] at HV
      have HR := Lib.hid hR
      have HC := Lib.hid hC.symm
      clear hok hC hR
      go_enter Tryd.func29, Tryd.ntmps29
      go_wp2_with fail
      refine HV.out.mono ?_; rintro e w1 ⟨rfl, n1, rfl⟩
      go_wp2_with fail
      go_ret2
      exact RetN_no HR.out HC.out (below_drewN (Below.refl _ _) n1)
    · rw [hok] at g1; cases g1
    · rw [hok] at g1; cases g1
  | true =>
    have Hcs := Lib.hid (show (parseA L = none ∧ C = 7 ∧ R = []) ∨ ∃ ts, parseA L = some ts ∧ C = 0 ∧ R = numsF ts xs by
      rcases hcs with ⟨g1, _⟩ | ⟨_, h2⟩ | ⟨ts, _, h2⟩
      · rw [hok] at g1; cases g1
      · exact .inl h2
      · exact .inr ⟨ts, h2⟩)
    rw [hok] at HV
    clear hok hcs
    go_enter Tryd.func29, Tryd.ntmps29
    go_wp2_with fail
    refine HV.out.mono ?_; rintro e w1 ⟨rfl, n1, hw1⟩
    have hb1 : Below w.heap.size w w1 := by rw [hw1]; exact below_drewN (Below.refl _ _) n1
    clear hw1
    go_wp2_with fail
    refine (HSp.out _).mono ?_; rintro e w3 ⟨v3, rfl, ho3, hb3⟩
    have Ho3 := Lib.hid (ownsRow_le ho3 hb1.size)
    have hb03 := hb1.trans (hb3.mono hb1.size)
    obtain ⟨A3, c3, rfl⟩ := sl_ofW ho3
    have Hb4 := Lib.hid (hb03.alloc hb03.size (.cells #[] 94))
    have Hr4 := Lib.hid (World.ownsRow_made (base := w.heap.size) (e := 94) (size := 4) w3 #[] 0 hb03.size (by simp [maxLen]) rfl)
    have Ho4 := Lib.hid (own_below Ho3.out ((Below.refl w3.heap.size w3).alloc (Nat.le_refl _) (.cells #[] 94)))
    clear ho3 hb3 hb1 hb03 HSp Ho3
    go_wp2_with fail
    go_loopw [7, 8] (fun o i wr => ∃ (k : Nat) (rs : List Tm4) (ts : List Term), k ≤ L.length ∧ i = .int .i64 (k : Int) ∧ parseA (L.take k) = some ts ∧ rs.length = k ∧ TmL rs ts ∧ wr.ownsRow w.heap.size 94 4 o k (rs.flatMap cellsT) ∧ wr.ownsRow w.heap.size 9 1 (.slice A3 L.length c3) L.length (L.map Value.string) ∧ Below w.heap.size w wr) (fun _ i _ => L.length - (intOf i).toNat)
    case atStart => exact ⟨0, [], [], Nat.zero_le _, rfl, rfl, rfl, TmL.nil, Hr4.out, Ho4.out, Hb4.out⟩
    case round =>
      obtain ⟨k, rs, ts, hk, rfl, hpa, hvl, hal, hown, hstr, hbl⟩ := hrel
      have Hpa := Lib.hid hpa
      have Hvl := Lib.hid hvl
      have Hal := Lib.hid hal
      have Hown := Lib.hid hown
      have Hstr := Lib.hid hstr
      have Hbl := Lib.hid hbl
      obtain ⟨A6, c6, rfl⟩ := sl_ofW hown
      clear hpa hvl hal hown hstr
      by_cases hlt : k < L.length
      · have hlt' : (k : Int) < (L.length : Int) := by omega
        obtain ⟨_, bb, oo, hA, hxc⟩ := rd_at (Rd.of_own Hstr.out) k hlt
        subst hA
        have HQk := Lib.hid (HQ.out L[k] wr (Nat.le_trans (HW.out _ (List.getElem_mem hlt)) hq))
        have Hbad := Lib.hid (fun h => parseA_bad (L := L) hlt h)
        have Hst := Lib.hid (fun t h => parseA_snoc (L := L) (t := t) hlt Hpa.out h)
        generalize L[k] = s at *
        unfold RetP at HQk
        clear hbl
        go_wp2_with fail
        refine HQk.out.mono ?_; rintro e w5 ⟨F, T, cc, y, rfl, ht5, hb5⟩
        have Hb5 := Lib.hid (Hbl.out.trans (hb5.mono Hbl.out.size))
        have hba := (Below.refl w5.heap.size w5).alloc (Nat.le_refl _) (.cells #[.string F, .int .u8 cc, .string T, .int .i64 y] 94)
        have Hb7 := Lib.hid (Hb5.out.trans (hba.mono Hb5.out.size))
        have Ho7 := Lib.hid (own_below (own_below Hown.out hb5) hba)
        have Hs7 := Lib.hid (own_below (own_below Hstr.out hb5) hba)
        have Ht5 := Lib.hid ht5
        obtain ⟨c0, c1, c2, c3⟩ := four_at (heap_alloc_new w5 (.cells #[.string F, .int .u8 cc, .string T, .int .i64 y] 94))
        have hz7 := Hb7.out.size
        clear hb5 hba hxc ht5 HQk Hown Hstr Hb5
        cases hp : parseT s with
        | none =>
          have hpn := Hbad.out hp
          rcases Hcs.out with ⟨_, hC, hR⟩ | ⟨ts2, g2, _⟩
          · have HR := Lib.hid hR
            have HC := Lib.hid hC.symm
            clear hC hR hpn hp
            go_wp2_with fail
            go_ret2
            exact RetN_no HR.out HC.out Hb7.out
          · rw [hpn] at g2; cases g2
        | some t =>
          have Hp2 := Lib.hid (Hst.out t hp)
          have HA5 := Lib.hid (Ht5.out t hp)
          have Hon := Lib.hid (onesT F T cc y)
          clear hp Hbad Hst Ht5
          go_upto_region 11 with (fail)
          generalize w5.alloc (.cells #[.string F, .int .u8 cc, .string T, .int .i64 y] 94) = w8 at *
          go_wp2_with (at_builtin; refine wpList_apd 92 94 _ 4 48 Tryd.underlying92 infoT rfl (by omega) _ _ rfl rfl w.heap.size _ k _ rfl Ho7.out #[.string F, .int .u8 cc, .string T, .int .i64 y] 1 1 rfl rfl Hon.out (by simp [maxLen]; omega) (by omega) hz7 ?_; intro v9 w9 hown9 hg9; have Hb9 := Lib.hid (below_apd Hb7.out Ho7.out hg9 (Nat.le_refl _) hz7); have Ho9 := Lib.hid hown9; have Hs9 := Lib.hid (Hs7.out.kept hg9 (apart_tyQ Hs7.out Ho7.out (by decide))); clear hown9 hg9)
          go_roundw
          case rel => exact ⟨k + 1, rs ++ [⟨F, cc, T, y⟩], ts ++ [t], by omega, by go_num, Hp2.out, by rw [List.length_append, Hvl.out]; rfl, Hal.out.snoc HA5.out, by rw [← snocT]; exact Ho9.out, Hs9.out, Hb9.out⟩
          case measure => simp [intOf]; omega
      · have hkl : k = L.length := by omega
        have hlt' : ¬ (k : Int) < (L.length : Int) := by omega
        have hpa2 := Hpa.out
        rw [hkl, List.take_length] at hpa2
        obtain ⟨hC, hR⟩ : C = 0 ∧ R = numsF ts xs := by
          rcases Hcs.out with ⟨g1, _⟩ | ⟨ts2, g2, g3⟩
          · rw [hpa2] at g1; cases g1
          · rw [hpa2] at g2; cases g2; exact g3
        have HC := Lib.hid hC.symm
        have HR := Lib.hid hR
        have hvk : rs.length = k := Hvl.out
        have htl : ts.length = k := by rw [← Hal.out.1]; exact Hvl.out
        have Hbs := Lib.hid (Rd.of_own Hown.out)
        have hb9 := (Below.refl wr.heap.size wr).alloc (Nat.le_refl _) (.cells #[] 2)
        have Ho9 := Lib.hid (World.ownsRow_made (base := wr.heap.size) (e := 2) (size := 1) wr #[] 0 (Nat.le_refl _) (by simp [maxLen]) rfl)
        have Hb9 := Lib.hid hb9
        have Hbl12 := Lib.hid hbl
        clear hpa2 hC hR Hcs Hpa Hown Hstr hbl Hb4 Hr4 Ho4 HV HQ HW hb9 hk hlt
        generalize hw12 : wr = w12 at *
        clear hw12
        go_wp2_with fail
        go_loopw [11, 12] (fun o i wr => ∃ k2 : Nat, k2 ≤ xs.length ∧ i = .int .i64 (k2 : Int) ∧ wr.ownsRow w12.heap.size 2 1 o (numsF ts (xs.take k2)).length (ints (numsF ts (xs.take k2))) ∧ Below w12.heap.size w12 wr) (fun _ i _ => xs.length - (intOf i).toNat)
        case atStart => exact ⟨0, Nat.zero_le _, rfl, Ho9.out, Hb9.out⟩
        case round =>
          obtain ⟨k2, hk2, rfl, hown, hbl⟩ := hrel
          have Hown := Lib.hid hown
          obtain ⟨A7, c7, rfl⟩ := sl_ofW hown
          have Hbl := Lib.hid hbl
          have hbw := Lib.hid (Hbl12.out.trans (hbl.mono Hbl12.out.size))
          clear hown
          by_cases hlt : k2 < xs.length
          · obtain ⟨b1, o1, A4, c4, hA, hE⟩ := (H.out.below (hbw.out.mono hB)).at k2 hlt
            subst hA
            have hlt' : (k2 : Int) < (xs.length : Int) := by omega
            have hsk := (Hsm.out xs[k2] (List.getElem_mem hlt)).2.2.1
            have Hst := Lib.hid (numsF_at ts hlt)
            have hnl : (numsF ts (xs.take k2)).length ≤ k2 := Nat.le_trans (numsF_len ts _) (by rw [List.length_take]; omega)
            generalize numsF ts (xs.take k2) = acc at *
            have hzw := hbl.size
            have Hrd1 := Lib.hid (Hbs.out.below hbl)
            have HEx := Lib.hid hE
            generalize xs[k2] = x at *
            have e0 := hE.c0
            clear hE hbl
            obtain ⟨wn, rfl⟩ : ∃ wx, wx = wr := ⟨_, rfl⟩
            go_wp2_with fail
            go_loopw [13, 14] (fun fv jx wy => ∃ j m0 : Nat, j ≤ ts.length ∧ fv = .bool (fitsA (ts.take j) x) ∧ jx = .int .i64 (j : Int) ∧ wy = wn.drewN m0) (fun _ jx _ => ts.length - (intOf jx).toNat)
            case atStart => exact ⟨0, 0, Nat.zero_le _, rfl, rfl, rfl⟩
            case round =>
              obtain ⟨j, m0, hj, rfl, rfl, hwy⟩ := hrel
              have Hw := Lib.hid (fun n => (show wr.drewN n = wn.drewN (m0 + n) by rw [hwy, World.drewN_drewN]))
              have Hw0 := Lib.hid hwy
              have HEr : Hid (EntAt wr B b1 (o1 + k2 * 5) x A4 c4) := Lib.hid (by rw [hwy]; exact HEx.out.drewN m0)
              have Hrd2 : Hid (Rd wr w12.heap.size (.slice A6 k c6) rs.length 4 (rs.flatMap cellsT)) := Lib.hid (by rw [hwy, hvk]; exact Hrd1.out.drewN m0)
              clear hwy
              by_cases hlt2 : j < ts.length
              · have hjv : j < rs.length := by omega
                have hlt2' : (j : Int) < (k : Int) := by omega
                obtain ⟨bb, oo, hA3, hT⟩ := rd_atT Hrd2.out j hjv
                subst hA3
                have Hst2 := Lib.hid (fitsA_at (x := x) hlt2)
                have HC2 := Lib.hid (fun n => l25Fits_any B b1 (o1 + k2 * 5) bb (oo + j * 4) x A4 c4 ts[j] rs[j].F rs[j].T rs[j].c rs[j].y (wr.drewN n) (HEr.out.drewN n) ⟨hT.c0, hT.c1, hT.c2, hT.c3⟩ (Hal.out.2 j hjv hlt2) hsk)
                generalize fitsT ts[j] x = r at *
                generalize fitsA (ts.take j) x = acc2 at *
                clear hT
                cases acc2 with
                | true =>
                  go_wp2_with fail
                  go_quiet ((go_at_call 71; exact Calls.quiet_of (HC2.out _)))
                  go_wp2_with fail
                  go_roundw
                  case rel => exact ⟨j + 1, _, by omega, by rw [Hst2.out]; rfl, by go_num, Hw.out _⟩
                  case measure => simp [intOf]; omega
                | false =>
                  go_wp2_with fail
                  go_quiet (fail)
                  go_wp2_with fail
                  go_roundw
                  case rel => exact ⟨j + 1, _, by omega, by rw [Hst2.out]; rfl, by go_num, Hw.out _⟩
                  case measure => simp [intOf]; omega
              · have hjt : j = ts.length := by omega
                have hlt2' : ¬ (j : Int) < (k : Int) := by omega
                have Hfa := Lib.hid (show fitsA (ts.take j) x = fitsA ts x by rw [hjt, List.take_length])
                rw [Hfa.out]
                have e0' : wr.cell? ⟨b1, o1 + k2 * 5, none⟩ = some (.int .i64 x.num) := HEr.out.c0
                have Ho5 : Hid (wr.ownsRow w12.heap.size 2 1 (.slice A7 acc.length c7) acc.length (ints acc)) := Lib.hid (by rw [Hw0.out]; exact Hown.out.drewN m0)
                have Hb5 : Hid (Below w12.heap.size w12 wr) := Lib.hid (by rw [Hw0.out]; exact below_drewN Hbl.out m0)
                have hz5 := Hb5.out.size
                clear Hfa hjt
                generalize x.num = num at *
                cases hf : fitsA ts x with
                | true =>
                  rw [hf, if_pos rfl] at Hst
                  clear hf
                  go_wp2_with (at_builtin; refine wpList_apd 47 2 _ 1 8 Tryd.underlying47 infoDQ rfl (by omega) _ _ rfl rfl w12.heap.size _ acc.length _ rfl Ho5.out #[.int .i64 num] 1 1 rfl rfl (by simp [Value.oneCell']) (by simp [maxLen]; omega) (by omega) hz5 ?_; intro v7 w7 hown7 hg7; have Hb7 := Lib.hid (below_apd Hb5.out Ho5.out hg7 (Nat.le_refl _) hz5); have Ho7 := Lib.hid hown7; clear hown7 hg7)
                  go_roundw
                  case rel => exact ⟨k2 + 1, by omega, by go_num, by rw [Hst.out, ← ints_one, List.length_append]; exact Ho7.out, Hb7.out⟩
                  case measure => simp [intOf]; omega
                | false =>
                  rw [hf, if_neg (by decide)] at Hst
                  clear hf
                  go_wp2_with fail
                  go_roundw
                  case rel => exact ⟨k2 + 1, by omega, by go_num, by rw [Hst.out]; exact Ho5.out, Hb5.out⟩
                  case measure => simp [intOf]; omega
          · have hkx : k2 = xs.length := by omega
            subst hkx
            have hlt' : ¬ (xs.length : Int) < (xs.length : Int) := by omega
            have hown2 := Hown.out
            rw [List.take_length] at hown2
            have HO := Lib.hid (ownsRow_le hown2 Hbl12.out.size)
            clear hown2
            rw [List.take_length]
            go_wp2_with fail
            go_ret2
            exact RetN_yes HR.out HC.out HO.out hbw.out
end Go.Proofs.YtmheijnckmlbnaaDoor
/- Similar entries, part 6: markEntryS. -/
namespace Go.Proofs.YtmheijnckmlbnaaDoor
open Go.RowKit Go.Joins

/-- a row of its own, whatever it holds -/
def OwnX (w : World) (base n : Nat) (v : Value) : Prop := ∃ zs, w.ownsRow base 9 1 v n zs
theorem OwnX.kept {w w' : World} {base n : Nat} {v : Value} {row : Option Nat} (h : OwnX w base n v) (hg : w.grownBy w' row) (hne : v.ownBlock = none ∨ v.ownBlock ≠ row) : OwnX w' base n v := h.imp fun _ h => h.kept hg hne
theorem OwnX.same {w w' : World} {base n n2 : Nat} {v v2 : Value} {xs' : List Value} (h1 : OwnX w base n v) (h2 : OwnX w base n2 v2) (hg : w.grownBy w' v.ownBlock) (h1' : w'.ownsRow base 9 1 v n xs') : OwnX w' base n2 v2 := by
  by_cases hne : v2.ownBlock = none ∨ v2.ownBlock ≠ v.ownBlock
  · exact h2.kept hg hne
  · obtain ⟨z1, h1⟩ := h1
    obtain ⟨z2, h2⟩ := h2
    rcases h2.2 with ⟨rfl, _⟩ | ⟨g2, cap2, cur2, rfl, hb2, hg2, hn2, hc2, hs2, ht2⟩
    · exact absurd (.inl rfl) hne
    rcases h1.2 with ⟨rfl, _⟩ | ⟨g1, cap1, cur1, rfl, hb1, hg1, hn1, hc1, hs1, ht1⟩
    · exact absurd (.inr (by simp [Value.ownBlock])) hne
    have he : g2 = g1 := by
      by_cases hh : g2 = g1
      · exact hh
      · exact absurd (.inr (by simpa [Value.ownBlock] using hh)) hne
    subst he
    rw [hg1] at hg2
    obtain rfl : cur1 = cur2 := by simpa using hg2
    rcases h1'.2 with ⟨h', _⟩ | ⟨g3, cap3, cur3, h', hb3, hg3, hn3, hc3, hs3, ht3⟩
    · cases h'
    simp only [Value.slice.injEq, Option.some.injEq, Addr.mk.injEq, and_true, true_and] at h'
    obtain ⟨rfl, rfl⟩ := h'
    refine ⟨cur3.toList.take (n2 * 1), ⟨?_, .inr ⟨g2, cap2, cur3, rfl, hb2, hg3, hn2, hc2, by omega, rfl⟩⟩⟩
    rw [List.length_take, Array.length_toList]; omega

/-- only the entries' own blocks have changed -/
def MK (B0 hi : Nat) (w wr : World) : Prop := Below B0 w wr ∧ ∀ g, hi ≤ g → g < w.heap.size → wr.heap[g]? = w.heap[g]?
theorem MK.refl (B0 hi : Nat) (w : World) : MK B0 hi w w := ⟨Below.refl _ _, fun _ _ _ => rfl⟩
theorem MK.step {B0 hi : Nat} {w wr wr' : World} {ob : Option Nat} (h : MK B0 hi w wr) (hg : wr.grownBy wr' ob) (ho : ∀ g, ob = some g → B0 ≤ g ∧ g < hi) (hB : B0 ≤ w.heap.size) : MK B0 hi w wr' :=
  ⟨h.1.grown hg (Nat.le_trans hB h.1.size) (fun k hk => (ho k hk).1), fun g h1 h2 => (hg.block g (Nat.lt_of_lt_of_le h2 h.1.size) (fun e => by have := (ho g e.symm).2; omega)).trans (h.2 g h1 h2)⟩
theorem st_cell {w : World} {g n : Nat} {cs : List Value} (h : w.ownsRow g 99 5 (.slice (some ⟨g, 0, none⟩) n n) n cs) (j : Nat) (hj : j < n * 5) : ∃ u, w.cell? ⟨g, j, none⟩ = some u ∧ w.frozen? ⟨g, j, none⟩ = false := by
  obtain ⟨u, hu⟩ : ∃ u, cs[j]? = some u := ⟨_, List.getElem?_eq_getElem (by have := h.1; omega)⟩
  exact ⟨u, (h.cellAt j (by omega)).trans hu, h.frozenAt j⟩
theorem fours (ys : List (Ent × Value)) (j : Nat) (hj : j < ys.length) : (ys.flatMap cellsE)[j * 5 + 4]? = some (ys[j].2) := by
  have := flat_at cellsE 5 (fun _ => rfl) ys j 4 hj (by omega)
  rw [this]; rfl

set_option maxRecDepth 100000 in
set_option maxHeartbeats 3200000 in
theorem markEntryS_any (B0 hi n : Nat) (ys : List (Ent × Value)) (w : World) (k0 : Int) (hn : ys.length = n) (hl : n ≤ 1048576) (h1 : w.ownsRow B0 99 5 (.slice (some ⟨B0, 0, none⟩) n n) n (ys.flatMap cellsE))
    (h2 : ∀ y ∈ ys, OwnX w (B0 + 1) y.1.words.length y.2) (hhi : ∀ y ∈ ys, ∀ g, y.2.ownBlock = some g → g < hi) (hB : B0 < hi) (hsm : ∀ y ∈ ys, y.1.words.length ≤ 1048576) (hk0 : 0 ≤ k0) (hk1 : k0 ≤ 1) :
    Calls Tryd.prog 34 #[.slice (some ⟨B0, 0, none⟩) n n, .int .i64 k0] w fun e w' => (∃ r : Int, e = .returned (.int .i64 r) ∧ 0 ≤ r) ∧ MK B0 hi w w' := by
  have hBw : B0 < w.heap.size := (h1.lt B0 rfl).2
  have H1 := Lib.hid h1
  have H2 := Lib.hid h2
  have Hhi := Lib.hid hhi
  have Hsm := Lib.hid hsm
  have H4 := Lib.hid (fours ys)
  have Hn := Lib.hid hn
  clear h1 h2 hhi hsm hn
  go_enter Tryd.func34, Tryd.ntmps34
  go_wp2_with fail
  go_loopw [1, 5] (fun a i wr => ∃ (k : Nat) (a0 : Int) (cs : List Value), k ≤ n ∧ 0 ≤ a0 ∧ a0 ≤ 1 + k * 1048580 ∧ i = .int .i64 (k : Int) ∧ a = .int .i64 a0 ∧ wr.ownsRow B0 99 5 (.slice (some ⟨B0, 0, none⟩) n n) n cs ∧ (∀ j (hj : j < ys.length), cs[j * 5 + 4]? = some (ys[j].2)) ∧ (∀ y ∈ ys, OwnX wr (B0 + 1) y.1.words.length y.2) ∧ MK B0 hi w wr) (fun _ i _ => n - (intOf i).toNat)
  case atStart => exact ⟨0, k0, _, Nat.zero_le _, hk0, by omega, rfl, rfl, H1.out, H4.out, H2.out, MK.refl _ _ _⟩
  case round =>
    obtain ⟨k, a0, cs, hk, ha0, ha1, rfl, rfl, hown, hcs, hx, hmk⟩ := hrel
    have Hcs := Lib.hid hcs
    have Hx := Lib.hid hx
    have Hmk := Lib.hid hmk
    clear hcs hx hmk
    by_cases hlt : k < n
    · have hlt' : (k : Int) < (n : Int) := by omega
      have hky : k < ys.length := by rw [Hn.out]; exact hlt
      have Hmem := Lib.hid (List.getElem_mem hky)
      have Hk4 := Lib.hid (Hcs.out k hky)
      generalize ys[k] = y at *
      obtain ⟨x, v2⟩ := y
      have hxl := Hsm.out _ Hmem.out
      have hxo := Hx.out _ Hmem.out
      dsimp only at Hk4 hxl hxo
      obtain ⟨A7, c7, rfl⟩ : ∃ A c, v2 = .slice A x.words.length c := by
        obtain ⟨zs, hz⟩ := hxo
        obtain ⟨_, A, c, e, _⟩ := Rd.of_own hz
        exact ⟨A, c, e⟩
      clear hxo hky
      obtain ⟨u0, hc0, hf0⟩ := st_cell hown (k * 5) (by omega)
      obtain ⟨ho1, hg1⟩ := hown.stored (k * 5) (.int .i64 a0)
      have Ho1 := Lib.hid ho1
      have Hg1 := Lib.hid hg1
      clear ho1 hg1 hown
      go_wp2_with fail
      refine (markText_any _ _ (by omega)).mono ?_; rintro e w2 ⟨rfl, hb2⟩
      generalize markT _ = M1 at *
      have ho2 := own_below Ho1.out hb2
      have Hg2 := Lib.hid (grown_trans Hg1.out (grown_of_below hb2 _))
      obtain ⟨u1, hc1, hf1⟩ := st_cell ho2 (k * 5 + 1) (by omega)
      obtain ⟨ho3, hg3⟩ := ho2.stored (k * 5 + 1) (.string M1)
      have Ho3 := Lib.hid ho3
      have Hg3 := Lib.hid (grown_trans Hg2.out hg3)
      clear ho2 ho3 hg3 hb2 hc0 hf0 Hg2 Hg1 Ho1
      go_wp2_with fail
      refine (markText_any _ _ (by omega)).mono ?_; rintro e w4 ⟨rfl, hb4⟩
      generalize markT _ = M2 at *
      have ho4 := own_below Ho3.out hb4
      have Hg4 := Lib.hid (grown_trans Hg3.out (grown_of_below hb4 _))
      obtain ⟨u2, hc2, hf2⟩ := st_cell ho4 (k * 5 + 2) (by omega)
      obtain ⟨u3, hc3, hf3⟩ := st_cell ho4 (k * 5 + 3) (by omega)
      have hc4 : w4.cell? ⟨B0, k * 5 + 4, none⟩ = some (.slice A7 x.words.length c7) := by
        rw [ho4.cellAt (k * 5 + 4) (by omega), List.getElem?_set_ne (by omega), List.getElem?_set_ne (by omega)]
        exact Hk4.out
      obtain ⟨ho5, hg5⟩ := ho4.stored (k * 5 + 2) (.string M2)
      obtain ⟨ho6, hg6⟩ := ho5.stored (k * 5 + 3) (.int .i64 (a0 + 1 + 1 + 1))
      have Ho6 := Lib.hid ho6
      have Hg6 := Lib.hid (grown_trans (grown_trans Hg4.out hg5) hg6)
      clear ho4 ho5 ho6 hg5 hg6 hb4 hc1 hf1 Hg3 Hg4 Ho3
      have Hx6 := Lib.hid (fun y hy => (Hx.out y hy).kept Hg6.out (by
        obtain ⟨zs, hz⟩ := Hx.out y hy
        cases hv : y.2.ownBlock with
        | none => exact .inl rfl
        | some g => have := (hz.lt g hv).1; exact .inr (by simp; omega)))
      have Hm6 := Lib.hid (Hmk.out.step Hg6.out (fun g e => by cases e; exact ⟨Nat.le_refl _, hB⟩) (Nat.le_of_lt hBw))
      obtain ⟨zs6, ho7⟩ := Hx6.out _ Hmem.out
      have HM := Lib.hid (fun q => markStringS_any (B0 + 1) _ q _ zs6 _ ho7)
      have hlt7 := Lib.hid ho7.lt
      clear ho7
      dsimp only at HM
      go_wp2_with fail
      refine (HM.out _ (by omega) (by omega)).mono ?_; rintro e w8 ⟨rfl, hg8, ho8⟩
      have Hx8 := Lib.hid (fun y hy => (Hx6.out _ Hmem.out).same (Hx6.out y hy) hg8 ho8)
      have Ho8 := Lib.hid (Ho6.out.kept hg8 (.inr (by
        intro e
        have := (hlt7.out B0 e.symm).1
        omega)))
      have Hm8 := Lib.hid (Hm6.out.step hg8 (fun g e => ⟨by have := (hlt7.out g e).1; omega, Hhi.out _ Hmem.out g e⟩) (Nat.le_of_lt hBw))
      have Hcs8 := Lib.hid (fun j hj => show ((((cs.set (k * 5) (.int .i64 a0)).set (k * 5 + 1) (.string M1)).set (k * 5 + 2) (.string M2)).set (k * 5 + 3) (.int .i64 (a0 + 1 + 1 + 1)))[j * 5 + 4]? = some ((ys[j]'hj).2) by
        rw [List.getElem?_set_ne (by omega), List.getElem?_set_ne (by omega), List.getElem?_set_ne (by omega), List.getElem?_set_ne (by omega)]
        exact Hcs.out j hj)
      clear hg8 ho8
      go_wp2_with fail
      go_roundw
      case rel => exact ⟨k + 1, _, _, by omega, by omega, by omega, by go_num, rfl, Ho8.out, Hcs8.out, Hx8.out, Hm8.out⟩
      case measure => simp [intOf]; omega
    · have hlt' : (n : Int) ≤ (k : Int) := by omega
      go_wp2_with fail
      go_ret
      exact ⟨⟨_, rfl, ha0⟩, Hmk.out⟩
end Go.Proofs.YtmheijnckmlbnaaDoor
/- Queries: the law FnExactFindEntries. -/
namespace Go.Proofs.YtmheijnckmlbnaaDoor
open Go.RowKit Go.Joins

theorem own_MKF {B0 hi base n size : Nat} {w wr : World} {e : TypeId} {v : Value} {zs : List Value} (h : w.ownsRow base e size v n zs) (hm : MK B0 hi w wr) (hb : hi ≤ base) : wr.ownsRow base e size v n zs := by
  refine ⟨h.1, ?_⟩
  rcases h.2 with hn | ⟨g, cap, cur, rfl, hbg, hgg, rest⟩
  · exact .inl hn
  · exact .inr ⟨g, cap, cur, rfl, hbg, (hm.2 g (Nat.le_trans hb hbg) (Array.getElem?_eq_some_iff.1 hgg).1).trans hgg, rest⟩
/-- the marks fit: a list of entries from toEntryS, some worlds later -/
theorem markE_lateF {w5 w6 w9 : World} {xs : List Ent} {ys : List (Ent × Value)} (hm : ys.map (·.1) = xs) (ho : w6.ownsRow w5.heap.size 99 5 (.slice (some ⟨w5.heap.size, 0, none⟩) xs.length xs.length) xs.length (ys.flatMap cellsE))
    (hw : ∀ y ∈ ys, w6.ownsRow (w5.heap.size + 1) 9 1 y.2 y.1.words.length (strs y.1.words)) (hb : Below w6.heap.size w6 w9) (hl : xs.length ≤ 1048576) (hsm : ∀ x ∈ xs, x.words.length ≤ 1048576) :
    Calls Tryd.prog 34 #[.slice (some ⟨w5.heap.size, 0, none⟩) xs.length xs.length, .int .i64 1] w9 fun e w' => (∃ r : Int, e = .returned (.int .i64 r) ∧ 0 ≤ r) ∧ MK w5.heap.size w6.heap.size w9 w' := by
  have hlen : ys.length = xs.length := by rw [← hm, List.length_map]
  exact markEntryS_any w5.heap.size w6.heap.size xs.length ys w9 1 hlen hl (own_below ho hb) (fun y hy => ⟨_, own_below (hw y hy) hb⟩) (fun y hy g e => ((hw y hy).lt g e).2) (ho.lt _ rfl).2
    (fun y hy => hsm y.1 (by rw [← hm]; exact List.mem_map_of_mem hy)) (by omega) (by omega)

set_option maxRecDepth 100000 in
set_option maxHeartbeats 3200000 in
theorem walkFnExactFindEntries {W : World} (v1 : Value) (xs : List Ent) (h1 : RdE W W.heap.size v1 xs) (m1 : xs.length ≤ maxLen ∧ ∀ x ∈ xs, lenE x) (q : ByteArray) (_wq : q.size ≤ maxLen) (ht : Tab W) :
    Calls Tryd.prog 4 #[v1, .string q] W fun e w' => e = .returned (.bool true) ∧ Below W.heap.size W w' := by
  have HS1 := Lib.hid (szEntryS_any W.heap.size v1 xs 1048576 W h1 (Nat.le_refl _) m1.1 m1.2 (by omega) (by omega))
  have HT1 := Lib.hid (fun wx hx hz hl hw => toEntryS_c W.heap.size v1 xs wx hx hz hl hw)
  have HU1 := Lib.hid (fun wx hx hz hl hw => toEntryS_any W.heap.size v1 xs wx hx hz hl hw)
  have H1 := Lib.hid h1
  obtain ⟨A1, c1, rfl⟩ := h1.slice
  have Ht := Lib.hid ht
  clear h1 m1 _wq ht
  by_cases hqb : 1048576 < q.size
  · have hqb' : (1048576 : Int) < (q.size : Int) := by omega
    go_enter Tryd.func4, Tryd.ntmps4
    go_wp2_with fail
    go_ret
    exact ⟨rfl, Below.refl _ _⟩
  have hqb' : ¬ (1048576 : Int) < (q.size : Int) := by omega
  have hqz : q.size ≤ 1048576 := by omega
  clear hqb
  go_enter Tryd.func4, Tryd.ntmps4
  go_wp2_with fail
  refine HS1.out.mono ?_; rintro e w1 ⟨r, rfl, hr1, hr2, hb1⟩
  have Hr2 := Lib.hid hr2; clear hr2
  by_cases n1 : r < 0
  · go_wp2_with fail
    go_ret
    exact ⟨rfl, hb1⟩
  · have s1 := (Hr2.out (by omega)).1
    have Hsm := Lib.hid (Hr2.out (by omega)).2
    have Hw1 := Lib.hid (fun x hx => (Hsm.out x hx).2.2.1)
    have HC1 := Lib.hid (fun wx v B hx hB => FindS_any B v xs q wx hx hB s1 Hsm.out hqz)
    have HC2 := Lib.hid (fun wx v B hx hB hq => FindI_any B v xs q wx hx hB s1 Hsm.out hqz hq)
    have hlen : (findR xs q).length ≤ 1048576 := Nat.le_trans (findR_len xs q) s1
    unfold RetN at HC1 HC2
    generalize findR xs q = L at *
    generalize findC xs q = C at *
    generalize hn : L.length = n at *
    have Hn := Lib.hid hn; clear hn
    go_wp2_with fail
    refine (HT1.out _ (H1.out.below hb1) hb1.size s1 Hw1.out).mono ?_; rintro e w3 ⟨A3, c3, rfl, he3, hb3⟩
    have hb03 := hb1.trans (hb3.mono hb1.size)
    have He3 := Lib.hid he3
    clear he3 hb3 hb1
    go_wp2_with fail
    refine (HC1.out w3 _ _ He3.out (Nat.le_refl _)).mono ?_; rintro e w5 ⟨v6, rfl, ho5, hb5⟩
    have hb05 := hb03.trans (hb5.mono hb03.size)
    have R5 := Lib.hid (Rd.of_own ho5)
    obtain ⟨_, A5, c5, rfl, _⟩ := Rd.of_own ho5
    clear ho5 hb5 hb03 He3
    go_wp2_with fail
    refine (HU1.out _ (H1.out.below hb05) hb05.size s1 Hw1.out).mono ?_; rintro e w6 ⟨ys, rfl, hym, hyo, hyw, hb6⟩
    have hb06 := hb05.trans (hb6.mono hb05.size)
    have HM := Lib.hid (fun w9 hb => markE_lateF (w9 := w9) hym hyo hyw hb s1 Hw1.out)
    have E6 := Lib.hid (show RdE w6 w6.heap.size (.slice (some ⟨w5.heap.size, 0, none⟩) xs.length xs.length) xs from ⟨ys, hym, Rd.of_own hyo, fun y hy => Rd.of_own (hyw y hy)⟩)
    have hz6 := hb6.size
    have B6 := Lib.hid hb6
    clear hym hyo hyw hb6
    go_wp2_with fail
    refine (HC2.out w6 _ _ E6.out (Nat.le_refl _) (Ht.out.below hb06)).mono ?_; rintro e w7 ⟨v9, rfl, ho7, hb7⟩
    have B67 := Lib.hid hb7
    have B57 := Lib.hid (B6.out.trans (hb7.mono hz6))
    have Ho7 := Lib.hid ho7
    obtain ⟨_, A9, c9, rfl, _⟩ := Rd.of_own ho7
    have HE := Lib.hid (eqInt64S_same _ _ _ _ L w7 (by rw [Hn.out]; exact Rd.of_own ho7) (by rw [Hn.out]; exact R5.out.below B57.out) (by rw [Hn.out]; omega))
    clear ho7 hb7 hb06
    go_wp2_with fail
    refine HE.out.mono ?_; rintro e w8 ⟨rfl, n8, rfl⟩
    have B68 := Lib.hid (below_drewN B67.out n8)
    have hb08 := hb05.trans ((B6.out.trans (B68.out.mono hz6)).mono hb05.size)
    have Ho8 := Lib.hid (Ho7.out.drewN n8)
    clear HE B57 B67 Ho7
    go_wp2_with fail
    refine (HT1.out _ (H1.out.below hb08) hb08.size s1 Hw1.out).mono ?_; rintro e w9 ⟨A10, c10, rfl, he9, hb9⟩
    have B69 := Lib.hid (B68.out.trans (hb9.mono B68.out.size))
    have Ho9 := Lib.hid (own_below Ho8.out hb9)
    have HE := Lib.hid (eqEntryS_same _ _ _ _ xs w9 (E6.out.below B69.out) he9 B69.out.size (Nat.le_refl _) s1 Hw1.out)
    clear he9 hb9 B68 Ho8 hb08
    go_wp2_with fail
    refine HE.out.mono ?_; rintro e w10 ⟨rfl, hb10⟩
    have B610 := Lib.hid (B69.out.trans (hb10.mono B69.out.size))
    have Ho10 := Lib.hid (own_below Ho9.out hb10)
    clear HE hb10 B69 Ho9 E6
    go_wp2_with fail
    refine (HM.out w10 B610.out).mono ?_; rintro e w11 ⟨⟨r1, rfl, hr10⟩, hm11⟩
    have B511 := Lib.hid ((B6.out.trans (B610.out.mono hz6)).trans hm11.1)
    have Ho11 := Lib.hid (own_MKF Ho10.out hm11 (Nat.le_refl _))
    clear hm11 HM Ho10 B610 B6
    have HE := Lib.hid (eqInt64S_same _ _ _ _ L w11 (by rw [Hn.out]; exact Rd.of_own Ho11.out) (by rw [Hn.out]; exact R5.out.below B511.out) (by rw [Hn.out]; omega))
    have hr11 : ¬ (r1 < 0) := by omega
    go_wp2_with fail
    refine HE.out.mono ?_; rintro e w12 ⟨rfl, n12, rfl⟩
    have B512 := Lib.hid (below_drewN B511.out n12)
    have Ho12 := Lib.hid (Ho11.out.drewN n12)
    clear HE B511 Ho11
    go_wp2_with fail
    refine (markInt64S_any _ _ 1 n _ _ Ho12.out (by omega) (by omega)).mono ?_; rintro e w13 ⟨rfl, hg13, ho13⟩
    have B513 := Lib.hid (B512.out.grown hg13 B512.out.size (fun k hk => Nat.le_trans hz6 ((Ho12.out.lt k hk).1)))
    have Ho13 := Lib.hid ho13
    have hb013 := hb05.trans (B513.out.mono hb05.size)
    clear ho13 hg13 B512 Ho12
    go_wp2_with fail
    refine (heldInt64S_any _ _ 1 n w13 (Rd.of_own Ho13.out) (by omega) (by omega)).mono ?_; rintro e w14 ⟨rfl, rfl⟩
    go_wp2_with fail
    refine (HT1.out _ (H1.out.below hb013) hb013.size s1 Hw1.out).mono ?_; rintro e w15 ⟨A15, c15, rfl, he15, hb15⟩
    have B515 := Lib.hid (B513.out.trans (hb15.mono B513.out.size))
    have Ho15 := Lib.hid (own_below Ho13.out hb15)
    have He15 := Lib.hid he15
    have hb015 := Lib.hid (hb013.trans (hb15.mono hb013.size))
    clear he15 hb15 hb013 Ho13 B513
    go_wp2_with fail
    refine (HC2.out w15 _ _ He15.out (Nat.le_refl _) (Ht.out.below hb015.out)).mono ?_; rintro e w16 ⟨v16, rfl, ho16, hb16⟩
    have B516 := Lib.hid (B515.out.trans (hb16.mono B515.out.size))
    have Ho16 := Lib.hid (own_below Ho15.out hb16)
    have HE := Lib.hid (eqInt64S_same _ _ _ _ L w16 (by rw [Hn.out]; exact Rd.of_own ho16) (by rw [Hn.out]; exact R5.out.below B516.out) (by rw [Hn.out]; omega))
    obtain ⟨_, A16, c16, rfl, _⟩ := Rd.of_own ho16
    clear ho16 hb16 Ho15 B515 He15
    go_wp2_with fail
    refine HE.out.mono ?_; rintro e w17 ⟨rfl, n17, rfl⟩
    have hb017 := hb05.trans ((below_drewN B516.out n17).mono hb05.size)
    have Ho17 := Lib.hid (Ho16.out.drewN n17)
    clear HE B516 Ho16
    go_wp2_with fail
    refine (heldInt64S_any _ _ 1 n _ (Rd.of_own Ho17.out) (by omega) (by omega)).mono ?_; rintro e w18 ⟨rfl, rfl⟩
    go_wp2_with fail
    go_ret
    exact ⟨rfl, hb017⟩
end Go.Proofs.YtmheijnckmlbnaaDoor
