/- Merged texts: Wi5, Reg1, Si2, Si3, Si4, Si5, Si6, Hst, Wi6. -/
import Derived.Test.YtbfhlkpicehnlaaDoorGCardWordIndex3
import Derived.Test.YtbfhlkpicehnlaaDoorGCardWordIndex2
import Derived.Test.YtbfhlkpicehnlaaDoorGCardWordIndex1
import Derived.Lib.SmallJoins
/- An index of words, part 5: WordIndex of the reference. -/
namespace Go.Proofs.YtbfhlkpicehnlaaDoor
open Go.RowKit Go.Joins Go.Maps

theorem posW_all {l : List ByteArray} {x : ByteArray} {p : Nat} (h : posW l x l.length = posW l x (p + 1)) (hy : lessS x (l.getD p ⟨#[]⟩) = true) : posW l x l.length = posW l x p := by
  rw [h]
  show (if _ then _ else _) = _
  rw [if_pos hy]
theorem posW_stop {l : List ByteArray} {x : ByteArray} {p : Nat} (h : posW l x l.length = posW l x (p + 1)) (hy : lessS x (l.getD p ⟨#[]⟩) = false) : posW l x l.length = p + 1 := by
  rw [h]
  show (if _ then _ else _) = _
  rw [if_neg (by rw [hy]; simp)]
theorem insW_skip {l : List ByteArray} {x : ByteArray} {p : Nat} (h : posW l x l.length = p + 1) (he : l.getD p ⟨#[]⟩ = x) : insW l x = l := by
  unfold insW
  rw [h, if_pos ⟨by omega, he⟩]
theorem insW_put {l : List ByteArray} {x : ByteArray} {p : Nat} (h : posW l x l.length = p) (he : 0 < p → l.getD (p - 1) ⟨#[]⟩ ≠ x) : insW l x = l.take p ++ [x] ++ l.drop p := by
  unfold insW
  rw [h, if_neg (fun e => he e.1 e.2)]
theorem own_capW {w : World} {base n m c size : Nat} {e : TypeId} {A : Option Addr} {cs : List Value} (h : w.ownsRow base e size (.slice A m c) n cs) : m ≤ c := by
  rcases h.2 with ⟨hv, h0⟩ | ⟨g, cap, cur, hv, _, _, h1, h2, _, _⟩
  · injection hv with _ e2 e3; omega
  · injection hv with _ e2 e3; subst e2 e3; omega
theorem own_posW {w : World} {base n size : Nat} {e : TypeId} {v : Value} {cs : List Value} (h : w.ownsRow base e size v n cs) (hn : 0 < n) : ∃ g cap, v = .slice (some ⟨g, 0, none⟩) n cap := by
  rcases h.2 with ⟨_, h0⟩ | ⟨g, cap, _, hv, _⟩
  · omega
  · exact ⟨g, cap, hv⟩
theorem strs_app (l m : List ByteArray) : strs l ++ strs m = strs (l ++ m) := by unfold strs; rw [List.map_append]
theorem strs_len (l : List ByteArray) : (strs l).length = l.length := by unfold strs; rw [List.length_map]
theorem strs_one (l : List ByteArray) : ∀ u ∈ strs l, u.oneCell' = true := fun u hu => by
  obtain ⟨x, _, rfl⟩ := List.mem_map.1 hu
  rfl
/-- a word's line so far -/
def lnS (xs : List Ent) (z : ByteArray) (i : Nat) : ByteArray := z ++ ⟨#[58]⟩ ++ spN decS xs z i
theorem lnS_zero (xs : List Ent) (z : ByteArray) : lnS xs z 0 = z ++ ⟨#[58]⟩ := by
  unfold lnS
  show z ++ ⟨#[58]⟩ ++ ⟨#[]⟩ = _
  refine ba_inj ?_
  rw [ByteArray.toList_eq, ByteArray.toList_eq]
  simp
theorem lnS_yes {xs : List Ent} {z : ByteArray} {i : Nat} (h : hasW (eg xs i).words z = true) : lnS xs z (i + 1) = lnS xs z i ++ (⟨#[32]⟩ ++ decS (eg xs i).num) := by
  unfold lnS
  show _ ++ (if _ then _ else _) = _
  rw [if_pos h]
  simp only [ByteArray.append_assoc]
theorem lnS_no {xs : List Ent} {z : ByteArray} {i : Nat} (h : hasW (eg xs i).words z = false) : lnS xs z (i + 1) = lnS xs z i := by
  unfold lnS
  show _ ++ (if _ then _ else _) = _
  rw [if_neg (by rw [h]; simp)]
theorem lnS_eq {xs : List Ent} (h : OkW xs) (z : ByteArray) {i : Nat} (hi : i ≤ xs.length) : lnS xs z i = lnW decS (visE (xs.take i)) z := by
  unfold lnS lnW
  rw [spN_eq decS h z i hi]
theorem lnS_size {xs : List Ent} (h : OkW xs) (z : ByteArray) {i : Nat} (hi : i ≤ xs.length) : (lnS xs z i).size ≤ z.size + 9000 := by
  rw [lnS_eq h z hi]
  exact lnE_size decS dec20 h hi z
set_option maxRecDepth 100000 in
set_option maxHeartbeats 6400000 in
theorem WordS_any (B : Nat) (v : Value) (xs : List Ent) (w : World) (h : RdE w B v xs) (hB : B ≤ w.heap.size) (hl : xs.length ≤ 1048576) (hsm : ∀ x ∈ xs, smE x) :
    Calls Tryd.prog 5 #[v] w (RetWx (idxC xs) (idxR xs) w) := by
  have HV := Lib.hid (l25Ok_any B v xs w h hl hsm)
  have H := Lib.hid h
  have Hsm := Lib.hid hsm
  obtain ⟨A, c, rfl⟩ := h.slice
  clear h hsm
  cases hok : entsOk xs with
  | false =>
    have Hz := Lib.hid (fun w' (hb : Below w.heap.size w w') => RetWx.bad hok hb)
    rw [hok] at HV
    clear hok
    go_enter Tryd.func5, Tryd.ntmps5
    go_wp2_with fail
    refine HV.out.mono ?_; rintro e w1 ⟨rfl, d, rfl⟩
    have Hy := Lib.hid (Hz.out _ (below_drewN (Below.refl _ _) d))
    go_wp2_with fail
    go_ret2
    exact Hy.out
  | true =>
    have HK := Lib.hid (entsOk_ok hok)
    have eR := Lib.hid (show idxR xs = idxL decS xs by unfold idxR; rw [if_pos hok])
    have eC := Lib.hid (show idxC xs = 0 by unfold idxC; rw [if_pos hok])
    have hl50 := HK.out.len
    rw [hok] at HV
    clear hok
    go_enter Tryd.func5, Tryd.ntmps5
    go_wp2_with fail
    refine HV.out.mono ?_; rintro e w1 ⟨rfl, d, hd⟩
    have hb1 : Below w.heap.size w w1 := by rw [hd]; exact below_drewN (Below.refl _ _) d
    have HO1 := Lib.hid (show (w1.alloc (.cells #[] 9)).ownsRow w.heap.size 9 1 (.slice (some ⟨w1.heap.size, 0, none⟩) 0 0) (srtW (wdP xs 0 0)).length (strs (srtW (wdP xs 0 0))) from by
      rw [wdP_start]
      exact ownsRow_le (World.ownsRow_made (base := w1.heap.size) (e := 9) (size := 1) w1 #[] 0 (Nat.le_refl _) (by simp [maxLen]) rfl) hb1.size)
    have HB1 := Lib.hid (hb1.trans (((Below.refl w1.heap.size w1).alloc (Nat.le_refl _) (.cells #[] 9)).mono hb1.size))
    have hz0 : (srtW (wdP xs 0 0)).length = 0 := by rw [wdP_start]; rfl
    clear hb1 HV hd
    go_wp2_with fail
    go_loopw [4, 5] (fun o i wr => ∃ (k g c : Nat), k ≤ xs.length ∧ i = .int .i64 (k : Int) ∧ o = .slice (some ⟨g, 0, none⟩) (srtW (wdP xs k 0)).length c ∧ wr.ownsRow w.heap.size 9 1 o (srtW (wdP xs k 0)).length (strs (srtW (wdP xs k 0))) ∧ Below w.heap.size w wr) (fun _ i _ => xs.length - (intOf i).toNat)
    case atStart => exact ⟨0, _, _, Nat.zero_le _, rfl, by rw [hz0], HO1.out, HB1.out⟩
    case round =>
      clear HO1 HB1 hz0
      obtain ⟨k, g, c', hk, rfl, rfl, ho, hbl⟩ := hrel
      by_cases hlt : k < xs.length
      · have hlt' : (k : Int) < (xs.length : Int) := by omega
        obtain ⟨gb, ob, A', cc, hA, hat0⟩ := H.out.at k hlt
        subst hA
        rw [← eg_at hlt] at hat0
        have HAt := Lib.hid hat0
        have hw8 := HK.out.wds k hlt
        have hsmx : smE (eg xs k) := by rw [eg_at hlt]; exact Hsm.out _ (List.getElem_mem hlt)
        have Hwz := Lib.hid hsmx.2.2.2
        have HDs := Lib.hid (fun j hj => wdP_step xs (k := k) (j := j) hj)
        have HDa := Lib.hid (wdP_all hlt)
        have HDl := Lib.hid (fun j (hj : j ≤ 8) => Nat.le_trans (srtW_len (wdP xs k j)) (wdP_len HK.out (k := k) (j := j) (by omega) hj))
        have HO := Lib.hid ho
        have HB0 := Lib.hid hbl
        obtain ⟨nl, hnl⟩ : ∃ z, (eg xs k).words.length = z := ⟨_, rfl⟩
        have Hnl := Lib.hid hnl
        rw [hnl] at hw8 HDa
        clear hat0 hsmx ho hbl hnl
        go_wp2_with fail
        go_loopw [4, 6] (fun o i wr => ∃ (j g c : Nat), j ≤ nl ∧ i = .int .i64 (j : Int) ∧ o = .slice (some ⟨g, 0, none⟩) (srtW (wdP xs k j)).length c ∧ wr.ownsRow w.heap.size 9 1 o (srtW (wdP xs k j)).length (strs (srtW (wdP xs k j))) ∧ Below w.heap.size w wr) (fun _ i _ => nl - (intOf i).toNat)
        case atStart => exact ⟨0, g, c', Nat.zero_le _, rfl, rfl, HO.out, HB0.out⟩
        case round =>
          clear HO HB0
          obtain ⟨j, g2, c2, hj, rfl, rfl, ho, hbl⟩ := hrel
          have hat := HAt.out.below (hbl.mono hB)
          have hws := hat.words
          have y4 := hat.c4
          rw [Hnl.out] at hws y4
          clear hat
          by_cases hjl : j < nl
          · have hjl' : (j : Int) < (nl : Int) := by omega
            have hjw : j < (eg xs k).words.length := by rw [Hnl.out]; exact hjl
            obtain ⟨b7, o7, hA8, hcc⟩ := rd_word hws Hnl.out (by omega)
            subst hA8
            have q1 := hcc j hjw
            have HDj := Lib.hid (show srtW (wdP xs k (j + 1)) = insW (srtW (wdP xs k j)) (eg xs k).words[j] by rw [HDs.out j hjw, srtW_snoc])
            have hll := HDl.out j (by omega)
            have hcap := own_capW ho
            have HO := Lib.hid ho
            have HB0 := Lib.hid hbl
            have hgl := (ho.lt g2 rfl).2
            clear hcc hws ho hbl
            generalize (eg xs k).words[j] = x at *
            generalize srtW (wdP xs k j) = l at *
            obtain ⟨n, hn⟩ : ∃ z, l.length = z := ⟨_, rfl⟩
            have Hn := Lib.hid hn
            rw [hn] at HO hcap hll
            (try rw [hn])
            clear hn
            go_wp2_with fail
            have hxz := Hwz.out
            go_loopw [8] (fun i wz => ∃ p : Nat, p ≤ n ∧ i = .int .i64 (p : Int) ∧ posW l x l.length = posW l x p ∧ wz = wr) (fun i _ => (intOf i).toNat)
            case atStart => exact ⟨n, Nat.le_refl _, rfl, by rw [Hn.out], rfl⟩
            case round =>
              obtain ⟨p, hp, rfl, hpos, rfl⟩ := hrel
              have HP := Lib.hid hpos
              clear hpos
              by_cases hp0 : p = 0
              · have hp0' : ¬ ((0 : Int) < ((p : Nat) : Int)) := by omega
                have HIn := Lib.hid (insW_put (l := l) (x := x) (p := p) (by rw [HP.out, hp0]; rfl) (fun h => absurd h (by omega)))
                clear hp0
                have hpc : p ≤ c2 := by omega
                have hpn : p ≤ n := by omega
                have HM0 := Lib.hid (World.ownsRow_made (base := wr.heap.size) (e := 9) (size := 1) wr #[] 0 (Nat.le_refl _) (by simp [maxLen]) rfl)
                have hba := (Below.refl wr.heap.size wr).alloc (Nat.le_refl _) (.cells #[] 9)
                have Hcells := Lib.hid (show ∀ (wq : World), Below wr.heap.size wr wq → ∀ i (hi : i < l.length), wq.cell? ⟨g2, i, none⟩ = some (.string l[i]) from fun wq hq i hi => (hq.cell (p := ⟨g2, i, none⟩) hgl).trans ((HO.out.cellAt i (by have := Hn.out; omega)).trans (strs_at l i hi)))
                have HC1 := Lib.hid (show ∀ (wq : World), Below wr.heap.size wr wq → ∀ (i : Nat) (u : Value), (strs (l.take (p)))[i]? = some u → wq.cell? ⟨g2, 0 + i, none⟩ = some u from fun wq hq i u hu => by
                  have hi : i < (l.take (p)).length := by
                    have := (List.getElem?_eq_some_iff.1 hu).1
                    rwa [strs_len] at this
                  rw [strs_at _ i hi] at hu
                  rw [← Option.some.inj hu, List.getElem_take, Nat.zero_add]
                  rw [List.length_take] at hi
                  exact Hcells.out _ hq i (by omega))
                have HC2 := Lib.hid (show ∀ (wq : World), Below wr.heap.size wr wq → ∀ (i : Nat) (u : Value), (strs (l.drop (p)))[i]? = some u → wq.cell? ⟨g2, p + i, none⟩ = some u from fun wq hq i u hu => by
                  have hi : i < (l.drop (p)).length := by
                    have := (List.getElem?_eq_some_iff.1 hu).1
                    rwa [strs_len] at this
                  rw [strs_at _ i hi] at hu
                  rw [← Option.some.inj hu, List.getElem_drop]
                  rw [List.length_drop] at hi
                  exact Hcells.out _ hq (p + i) (by omega))
                have HLa := Lib.hid (show (strs (l.take (p))).length = (p) * 1 by rw [strs_len, List.length_take, Hn.out]; omega)
                have HLb := Lib.hid (show (strs (l.drop (p))).length = (n - (p)) * 1 by rw [strs_len, List.length_drop, Hn.out]; omega)
                have hza : wr.heap.size ≤ (wr.alloc (.cells #[] 9)).heap.size := hba.size
                have HBw := Lib.hid hba
                clear hba
                go_upto_region 16 with (at_builtin; refine wpList_apr 24 9 _ 1 16 Tryd.underlying24 infoStrW rfl (by omega) _ _ rfl rfl wr.heap.size _ 0 _ rfl HM0.out g2 0 (p) c2 (strs (l.take (p))) rfl HLa.out (HC1.out _ HBw.out) (strs_one _) (by simp [maxLen]; omega) (by omega) hza ?_; intro v7 w7 hown7 hg7; rw [Nat.zero_add] at hown7; have HO7 := Lib.hid (show w7.ownsRow wr.heap.size 9 1 v7 (p) (strs (l.take (p))) from hown7); have HW7 := Lib.hid (below_apd HBw.out HM0.out hg7 (Nat.le_refl _) hza); obtain ⟨A7, c7, rfl⟩ := own_slW hown7; have hz7 := HW7.out.size; clear hown7 hg7)
                go_upto_region 17 with (at_builtin; refine wpList_apd 24 9 _ 1 16 Tryd.underlying24 infoStrW rfl (by omega) _ _ rfl rfl wr.heap.size _ (p) _ rfl HO7.out #[.string x] 1 1 rfl rfl (by simp [Value.oneCell']) (by simp [maxLen]; omega) (by omega) hz7 ?_; intro v8 w8 hown8 hg8; have HW8 := Lib.hid (below_apd HW7.out HO7.out hg8 (Nat.le_refl _) hz7); have HO8 := Lib.hid (show w8.ownsRow wr.heap.size 9 1 v8 (p + 1) (strs (l.take (p) ++ [x])) from by rw [← strs_snoc]; exact hown8); obtain ⟨g8, c8, rfl⟩ := own_posW hown8 (by omega); have hz8 := HW8.out.size; clear hown8 hg8)
                clear HM0 HO7 HW7 HBw HC1 HLa hz7 hza
                have HBf := Lib.hid (fun (wq : World) (hq : Below wr.heap.size wr wq) => HB0.out.trans (hq.mono HB0.out.size))
                have hzw := HB0.out.size
                by_cases hnp : n = p
                · have HF := Lib.hid (show w8.ownsRow w.heap.size 9 1 (.slice (some ⟨g8, 0, none⟩) (p + 1) c8) (insW l x).length (strs (insW l x)) from by
                    have hd : l.drop (p) = [] := List.drop_of_length_le (by have := Hn.out; omega)
                    rw [HIn.out, hd, List.append_nil]
                    have h1 : (l.take (p) ++ [x]).length = p + 1 := by
                      have := Hn.out
                      rw [List.length_append, List.length_take, List.length_singleton]; omega
                    rw [h1]
                    exact ownsRow_le HO8.out hzw)
                  have HLn := Lib.hid (show (insW l x).length = p + 1 from by
                    have hd : l.drop (p) = [] := List.drop_of_length_le (by have := Hn.out; omega)
                    have := Hn.out
                    rw [HIn.out, hd, List.append_nil, List.length_append, List.length_take, List.length_singleton]; omega)
                  have HB8 := Lib.hid (HBf.out _ HW8.out)
                  have hcap8 := own_capW HO8.out
                  clear HC2 HLb HO8 HW8 Hcells HBf
                  have hnl : n - (p) = 0 := by omega
                  have hnl2 : (n : Int) - ((p : Nat) : Int) = 0 := by omega
                  by_cases hcp : c2 = p
                  · subst hcp
                    go_wp2_with fail
                    go_roundw
                    case rel => exact ⟨j + 1, g8, c8, by omega, by go_num, by rw [HDj.out, HLn.out], by rw [HDj.out]; exact HF.out, HB8.out⟩
                    case measure => first | (simp [intOf]; done) | (simp [intOf]; omega)
                  · go_wp2_with fail
                    go_roundw
                    case rel => exact ⟨j + 1, g8, c8, by omega, by go_num, by rw [HDj.out, HLn.out], by rw [HDj.out]; exact HF.out, HB8.out⟩
                    case measure => first | (simp [intOf]; done) | (simp [intOf]; omega)
                · have hcp : ¬ (c2 = p) := by omega
                  have HFn := Lib.hid (show (insW l x).length = p + 1 + (n - (p)) from by
                    have := Hn.out
                    rw [HIn.out, List.length_append, List.length_append, List.length_take, List.length_drop, List.length_singleton]; omega)
                  go_wp2_with (at_builtin; refine wpList_apr 24 9 _ 1 16 Tryd.underlying24 infoStrW rfl (by omega) _ _ rfl rfl wr.heap.size _ (p + 1) _ rfl HO8.out g2 (p) (n - (p)) _ (strs (l.drop (p))) rfl HLb.out (HC2.out _ HW8.out) (strs_one _) (by simp [maxLen]; omega) (by omega) hz8 ?_; intro v9 w9 hown9 hg9; rw [strs_app, ← HIn.out] at hown9; obtain ⟨g9, c9, rfl⟩ := own_posW hown9 (by omega); have HF := Lib.hid (show w9.ownsRow w.heap.size 9 1 (.slice (some ⟨g9, 0, none⟩) (p + 1 + (n - (p))) c9) (insW l x).length (strs (insW l x)) from by rw [HFn.out]; exact ownsRow_le hown9 hzw); have HB9 := Lib.hid (HBf.out _ (below_apd HW8.out HO8.out hg9 (Nat.le_refl _) hz8)); clear hown9 hg9)
                  go_roundw
                  case rel => exact ⟨j + 1, g9, c9, by omega, by go_num, by rw [HDj.out, HFn.out], by rw [HDj.out]; exact HF.out, HB9.out⟩
                  case measure => first | (simp [intOf]; done) | (simp [intOf]; omega)
              · obtain ⟨q, rfl⟩ : ∃ q, p = q + 1 := ⟨p - 1, by omega⟩
                have hpp : (0 : Int) < ((q + 1 : Nat) : Int) := by omega
                have hpm : ((q + 1 : Nat) : Int) - 1 = (q : Int) := by omega
                have hwm : IntKind.i64.wrap (((q + 1 : Nat) : Int) - 1) = (q : Int) := (IntWalk.i64_in _ (by omega)).trans hpm
                have hql : q < l.length := by rw [Hn.out]; omega
                have hqn : (q : Int) < (n : Int) := by omega
                have hc0 := (HO.out.cellAt q (by omega)).trans (strs_at l q hql)
                have hgd := getD_at l q hql
                cases hy : lessS x l[q] with
                | true =>
                  have hyl := less_yes hy
                  obtain ⟨k1, k2, k3, k4⟩ := hyl
                  have HN := Lib.hid (posW_all HP.out (by rw [hgd]; exact hy))
                  clear hy hgd hp0
                  generalize l[q] = y at *
                  go_wp2_with fail
                  go_roundw
                  case rel => refine ⟨q, by omega, by go_num, HN.out, ?_⟩; first | exact trivial | rfl
                  case measure => first | (simp [intOf]; done) | (simp [intOf]; omega)
                | false =>
                  obtain ⟨k1, k2⟩ := less_no hy
                  have hst := posW_stop HP.out (by rw [hgd]; exact hy)
                  by_cases heq : l[q] = x
                  · have HS := Lib.hid (insW_skip hst (hgd.trans heq))
                    rw [heq] at hc0 k1
                    clear hy hgd heq hst k2 hp0
                    have k3 : (x.toList == x.toList) = true := by simp
                    go_wp2_with fail
                    go_roundw
                    case rel => exact ⟨j + 1, g2, c2, by omega, by go_num, by rw [HDj.out, HS.out, Hn.out], by rw [HDj.out, HS.out, Hn.out]; exact HO.out, HB0.out⟩
                    case measure => first | (simp [intOf]; done) | (simp [intOf]; omega)
                  · have HIn := Lib.hid (insW_put hst (fun _ => by rw [Nat.add_sub_cancel, hgd]; exact heq))
                    have k3 : (l[q].toList == x.toList) = false := beq_eq_false_iff_ne.2 fun h => heq (ba_inj h)
                    have k4 : Op.bytesLess l[q].toList x.toList = true := by rw [k3, Bool.or_false] at k1; exact k1
                    clear hy hgd heq hst k2 hp0
                    generalize l[q] = y at *
                    have hpc : q + 1 ≤ c2 := by omega
                    have hpn : q + 1 ≤ n := by omega
                    have HM0 := Lib.hid (World.ownsRow_made (base := wr.heap.size) (e := 9) (size := 1) wr #[] 0 (Nat.le_refl _) (by simp [maxLen]) rfl)
                    have hba := (Below.refl wr.heap.size wr).alloc (Nat.le_refl _) (.cells #[] 9)
                    have Hcells := Lib.hid (show ∀ (wq : World), Below wr.heap.size wr wq → ∀ i (hi : i < l.length), wq.cell? ⟨g2, i, none⟩ = some (.string l[i]) from fun wq hq i hi => (hq.cell (p := ⟨g2, i, none⟩) hgl).trans ((HO.out.cellAt i (by have := Hn.out; omega)).trans (strs_at l i hi)))
                    have HC1 := Lib.hid (show ∀ (wq : World), Below wr.heap.size wr wq → ∀ (i : Nat) (u : Value), (strs (l.take (q + 1)))[i]? = some u → wq.cell? ⟨g2, 0 + i, none⟩ = some u from fun wq hq i u hu => by
                      have hi : i < (l.take (q + 1)).length := by
                        have := (List.getElem?_eq_some_iff.1 hu).1
                        rwa [strs_len] at this
                      rw [strs_at _ i hi] at hu
                      rw [← Option.some.inj hu, List.getElem_take, Nat.zero_add]
                      rw [List.length_take] at hi
                      exact Hcells.out _ hq i (by omega))
                    have HC2 := Lib.hid (show ∀ (wq : World), Below wr.heap.size wr wq → ∀ (i : Nat) (u : Value), (strs (l.drop (q + 1)))[i]? = some u → wq.cell? ⟨g2, q + 1 + i, none⟩ = some u from fun wq hq i u hu => by
                      have hi : i < (l.drop (q + 1)).length := by
                        have := (List.getElem?_eq_some_iff.1 hu).1
                        rwa [strs_len] at this
                      rw [strs_at _ i hi] at hu
                      rw [← Option.some.inj hu, List.getElem_drop]
                      rw [List.length_drop] at hi
                      exact Hcells.out _ hq (q + 1 + i) (by omega))
                    have HLa := Lib.hid (show (strs (l.take (q + 1))).length = (q + 1) * 1 by rw [strs_len, List.length_take, Hn.out]; omega)
                    have HLb := Lib.hid (show (strs (l.drop (q + 1))).length = (n - (q + 1)) * 1 by rw [strs_len, List.length_drop, Hn.out]; omega)
                    have hza : wr.heap.size ≤ (wr.alloc (.cells #[] 9)).heap.size := hba.size
                    have HBw := Lib.hid hba
                    clear hba
                    go_upto_region 16 with (at_builtin; refine wpList_apr 24 9 _ 1 16 Tryd.underlying24 infoStrW rfl (by omega) _ _ rfl rfl wr.heap.size _ 0 _ rfl HM0.out g2 0 (q + 1) c2 (strs (l.take (q + 1))) rfl HLa.out (HC1.out _ HBw.out) (strs_one _) (by simp [maxLen]; omega) (by omega) hza ?_; intro v7 w7 hown7 hg7; rw [Nat.zero_add] at hown7; have HO7 := Lib.hid (show w7.ownsRow wr.heap.size 9 1 v7 (q + 1) (strs (l.take (q + 1))) from hown7); have HW7 := Lib.hid (below_apd HBw.out HM0.out hg7 (Nat.le_refl _) hza); obtain ⟨A7, c7, rfl⟩ := own_slW hown7; have hz7 := HW7.out.size; clear hown7 hg7)
                    go_upto_region 17 with (at_builtin; refine wpList_apd 24 9 _ 1 16 Tryd.underlying24 infoStrW rfl (by omega) _ _ rfl rfl wr.heap.size _ (q + 1) _ rfl HO7.out #[.string x] 1 1 rfl rfl (by simp [Value.oneCell']) (by simp [maxLen]; omega) (by omega) hz7 ?_; intro v8 w8 hown8 hg8; have HW8 := Lib.hid (below_apd HW7.out HO7.out hg8 (Nat.le_refl _) hz7); have HO8 := Lib.hid (show w8.ownsRow wr.heap.size 9 1 v8 (q + 1 + 1) (strs (l.take (q + 1) ++ [x])) from by rw [← strs_snoc]; exact hown8); obtain ⟨g8, c8, rfl⟩ := own_posW hown8 (by omega); have hz8 := HW8.out.size; clear hown8 hg8)
                    clear HM0 HO7 HW7 HBw HC1 HLa hz7 hza
                    have HBf := Lib.hid (fun (wq : World) (hq : Below wr.heap.size wr wq) => HB0.out.trans (hq.mono HB0.out.size))
                    have hzw := HB0.out.size
                    by_cases hnp : n = q + 1
                    · have HF := Lib.hid (show w8.ownsRow w.heap.size 9 1 (.slice (some ⟨g8, 0, none⟩) (q + 1 + 1) c8) (insW l x).length (strs (insW l x)) from by
                        have hd : l.drop (q + 1) = [] := List.drop_of_length_le (by have := Hn.out; omega)
                        rw [HIn.out, hd, List.append_nil]
                        have h1 : (l.take (q + 1) ++ [x]).length = q + 1 + 1 := by
                          have := Hn.out
                          rw [List.length_append, List.length_take, List.length_singleton]; omega
                        rw [h1]
                        exact ownsRow_le HO8.out hzw)
                      have HLn := Lib.hid (show (insW l x).length = q + 1 + 1 from by
                        have hd : l.drop (q + 1) = [] := List.drop_of_length_le (by have := Hn.out; omega)
                        have := Hn.out
                        rw [HIn.out, hd, List.append_nil, List.length_append, List.length_take, List.length_singleton]; omega)
                      have HB8 := Lib.hid (HBf.out _ HW8.out)
                      have hcap8 := own_capW HO8.out
                      clear HC2 HLb HO8 HW8 Hcells HBf
                      have hnl : n - (q + 1) = 0 := by omega
                      have hnl2 : (n : Int) - ((q + 1 : Nat) : Int) = 0 := by omega
                      by_cases hcp : c2 = q + 1
                      · subst hcp
                        go_wp2_with fail
                        go_roundw
                        case rel => exact ⟨j + 1, g8, c8, by omega, by go_num, by rw [HDj.out, HLn.out], by rw [HDj.out]; exact HF.out, HB8.out⟩
                        case measure => first | (simp [intOf]; done) | (simp [intOf]; omega)
                      · go_wp2_with fail
                        go_roundw
                        case rel => exact ⟨j + 1, g8, c8, by omega, by go_num, by rw [HDj.out, HLn.out], by rw [HDj.out]; exact HF.out, HB8.out⟩
                        case measure => first | (simp [intOf]; done) | (simp [intOf]; omega)
                    · have hcp : ¬ (c2 = q + 1) := by omega
                      have HFn := Lib.hid (show (insW l x).length = q + 1 + 1 + (n - (q + 1)) from by
                        have := Hn.out
                        rw [HIn.out, List.length_append, List.length_append, List.length_take, List.length_drop, List.length_singleton]; omega)
                      go_wp2_with (at_builtin; refine wpList_apr 24 9 _ 1 16 Tryd.underlying24 infoStrW rfl (by omega) _ _ rfl rfl wr.heap.size _ (q + 1 + 1) _ rfl HO8.out g2 (q + 1) (n - (q + 1)) _ (strs (l.drop (q + 1))) rfl HLb.out (HC2.out _ HW8.out) (strs_one _) (by simp [maxLen]; omega) (by omega) hz8 ?_; intro v9 w9 hown9 hg9; rw [strs_app, ← HIn.out] at hown9; obtain ⟨g9, c9, rfl⟩ := own_posW hown9 (by omega); have HF := Lib.hid (show w9.ownsRow w.heap.size 9 1 (.slice (some ⟨g9, 0, none⟩) (q + 1 + 1 + (n - (q + 1))) c9) (insW l x).length (strs (insW l x)) from by rw [HFn.out]; exact ownsRow_le hown9 hzw); have HB9 := Lib.hid (HBf.out _ (below_apd HW8.out HO8.out hg9 (Nat.le_refl _) hz8)); clear hown9 hg9)
                      go_roundw
                      case rel => exact ⟨j + 1, g9, c9, by omega, by go_num, by rw [HDj.out, HFn.out], by rw [HDj.out]; exact HF.out, HB9.out⟩
                      case measure => first | (simp [intOf]; done) | (simp [intOf]; omega)
          · obtain rfl : j = nl := by omega
            have hjl' : ¬ ((j : Int) < (j : Int)) := by omega
            have HO := Lib.hid (show wr.ownsRow w.heap.size 9 1 (.slice (some ⟨g2, 0, none⟩) (srtW (wdP xs k j)).length c2) (srtW (wdP xs (k + 1) 0)).length (strs (srtW (wdP xs (k + 1) 0))) from by rw [← HDa.out]; exact ho)
            have HB0 := Lib.hid hbl
            clear ho hbl hws
            go_wp2_with fail
            go_roundw
            case rel => exact ⟨k + 1, g2, c2, by omega, by go_num, by rw [HDa.out], HO.out, HB0.out⟩
            case measure => first | (simp [intOf]; done) | (simp [intOf]; omega)
      · obtain rfl : k = xs.length := by omega
        have hlt' : ¬ ((xs.length : Int) < (xs.length : Int)) := by omega
        have hdl := Nat.le_trans (srtW_len (wdP xs xs.length 0)) (wdP_len HK.out (k := xs.length) (j := 0) (Nat.le_refl _) (by omega))
        have HIx := Lib.hid (show idxL decS xs = (srtW (wdP xs xs.length 0)).map (fun z => lnS xs z xs.length) from by
          unfold idxL
          refine List.map_congr_left fun z _ => ?_
          rw [lnS_eq HK.out z (Nat.le_refl _), List.take_of_length_le (Nat.le_refl _)])
        have Hwsz := Lib.hid (show ∀ s, s ∈ srtW (wdP xs xs.length 0) → s.size ≤ 1048576 from fun s hs => by
          have h1 := ((srtW_ok _).2 s).1 hs
          unfold wdP at h1
          rw [visP_end] at h1
          unfold visE at h1
          obtain ⟨p, hp, rfl⟩ := List.mem_map.1 h1
          obtain ⟨x, hx, hp⟩ := List.mem_flatMap.1 hp
          obtain ⟨y, hy, rfl⟩ := List.mem_map.1 hp
          exact (Hsm.out x hx).2.2.2 y hy)
        generalize wr = wA at *
        have HO := Lib.hid ho
        have HB0 := Lib.hid hbl
        clear ho hbl
        generalize hS : srtW (wdP xs xs.length 0) = S at *
        clear hS
        obtain ⟨n, hn⟩ : ∃ z, S.length = z := ⟨_, rfl⟩
        have Hn := Lib.hid hn
        rw [hn] at HO hdl
        (try rw [hn])
        clear hn
        have hoe := Lib.hid (World.ownsRow_made (base := wA.heap.size) (e := 9) (size := 1) wA #[] 0 (Nat.le_refl _) (by simp [maxLen]) rfl)
        have hbe := Lib.hid ((Below.refl wA.heap.size wA).alloc (Nat.le_refl _) (.cells #[] 9))
        go_wp2_with fail
        go_loopw [10, 11] (fun o i wz => ∃ m : Nat, m ≤ n ∧ i = .int .i64 (m : Int) ∧ wz.ownsRow wA.heap.size 9 1 o m (strs ((S.take m).map (fun z => lnS xs z xs.length))) ∧ Below wA.heap.size wA wz) (fun _ i _ => n - (intOf i).toNat)
        case atStart => exact ⟨0, Nat.zero_le _, rfl, hoe.out, hbe.out⟩
        case round =>
          clear hoe hbe
          generalize wr = wz at *
          obtain ⟨m, hm2, rfl, hown, hbo⟩ := hrel
          obtain ⟨A3, c3, rfl⟩ := own_slW hown
          by_cases hmn : m < n
          · have hmn' : (m : Int) < (n : Int) := by omega
            have hmS : m < S.length := by rw [Hn.out]; exact hmn
            have q1 := (hbo.cell (p := ⟨g, m, none⟩) (HO.out.lt g rfl).2).trans ((HO.out.cellAt m (by omega)).trans (strs_at S m hmS))
            have hzs := Hwsz.out _ (List.getElem_mem hmS)
            have HLz := Lib.hid (fun i (hi : i ≤ xs.length) => lnS_size HK.out S[m] hi)
            have HE := Lib.hid (show (S.take (m + 1)).map (fun z => lnS xs z xs.length) = (S.take m).map (fun z => lnS xs z xs.length) ++ [lnS xs S[m] xs.length] by rw [List.take_succ_eq_append_getElem hmS, List.map_append]; rfl)
            have Hown := Lib.hid hown
            have Hbo := Lib.hid hbo
            have hglz := (HO.out.lt g rfl).2
            clear hown hbo
            generalize S[m] = z at *
            have Hz0 := Lib.hid (lnS_zero xs z)
            have e58 : (z ++ ⟨#[58]⟩ : ByteArray).size = z.size + 1 := ByteArray.size_append
            have hz58 : z.size + (⟨#[58]⟩ : ByteArray).size ≤ maxLen := by rw [show (⟨#[58]⟩ : ByteArray).size = 1 from rfl]; simp only [maxLen]; omega
            go_wp2_with fail
            go_loopw [12, 13] (fun o i wq => ∃ t : Nat, t ≤ xs.length ∧ i = .int .i64 (t : Int) ∧ o = .string (lnS xs z t) ∧ Below wz.heap.size wz wq) (fun _ i _ => xs.length - (intOf i).toNat)
            case atStart => exact ⟨0, Nat.zero_le _, rfl, by rw [Hz0.out], Below.refl _ _⟩
            case round =>
              generalize wr = wq at *
              obtain ⟨t, ht2, rfl, rfl, hbq⟩ := hrel
              by_cases htl : t < xs.length
              · have htl' : (t : Int) < (xs.length : Int) := by omega
                obtain ⟨gb, ob, A', c', hA, hat0⟩ := H.out.at t htl
                subst hA
                rw [← eg_at htl] at hat0
                have Hacc := Lib.hid (HB0.out.trans ((Hbo.out.trans (hbq.mono Hbo.out.size)).mono HB0.out.size))
                have hat := hat0.below (Hacc.out.mono hB)
                have hw8 := HK.out.wds t htl
                have hnum := HK.out.num t htl
                have q2 := (hbq.cell (p := ⟨g, m, none⟩) (Nat.lt_of_lt_of_le hglz Hbo.out.size)).trans q1
                have HDn := Lib.hid (fun wx => l01Dec_any (eg xs t).num wx (by omega) (by omega))
                have hds := decS_size (eg xs t).num (by omega) (by omega)
                have hl1 := HLz.out t ht2
                have hl2 := HLz.out (t + 1) htl
                have HY := Lib.hid (fun h => lnS_yes (xs := xs) (z := z) (i := t) h)
                have HNo := Lib.hid (fun h => lnS_no (xs := xs) (z := z) (i := t) h)
                obtain ⟨hbB, p0, p1, p2, p3, p4, hws⟩ := hat
                have HT := Lib.hid (fun n => flipC (l25Has_any B (.slice A' (eg xs t).words.length c') (eg xs t).words z (wq.drewN n) (hws.drewN n) (by omega)))
                have Hbq := Lib.hid hbq
                clear hbq p1 p2 p3 hws hat0
                generalize (eg xs t).words.length = nl at *
                cases hq : hasW (eg xs t).words z with
                | true =>
                  rw [hq] at HT
                  have HY1 := HY.out hq
                  clear HY HNo hq Hacc
                  generalize lnS xs z t = L at *
                  generalize hN : (eg xs t).num = N at *
                  generalize decS N = dN at *
                  have Hl1 := Lib.hid HY1
                  clear HY1 hN
                  have e32 : (⟨#[32]⟩ ++ dN : ByteArray).size = 1 + dN.size := ByteArray.size_append
                  have hz32 : (⟨#[32]⟩ : ByteArray).size + dN.size ≤ maxLen := by rw [show (⟨#[32]⟩ : ByteArray).size = 1 from rfl]; simp only [maxLen]; omega
                  have hz33 : L.size + (⟨#[32]⟩ ++ dN : ByteArray).size ≤ maxLen := by rw [e32]; simp only [maxLen]; omega
                  go_upto_region 26 with (fail)
                  go_quiet ((go_at_call 15; exact Calls.quiet_of_same (HT.out _)))
                  have p0' : (wq.drewN nq).cell? ⟨gb, ob + t * 5, none⟩ = some (.int .i64 N) := p0
                  have Hb0 := Lib.hid (below_drewN Hbq.out nq)
                  clear HT p0 p4 q2
                  go_wp2_with fail
                  refine (HDn.out _).mono ?_; rintro e w5 ⟨rfl, hb5⟩
                  have Hb5 := Lib.hid (Hb0.out.trans (hb5.mono Hb0.out.size))
                  clear hb5
                  go_wp2_with fail
                  go_roundw
                  case rel => exact ⟨t + 1, htl, by go_num, by rw [Hl1.out], Hb5.out⟩
                  case measure => first | (simp [intOf]; done) | (simp [intOf]; omega)
                | false =>
                  rw [hq] at HT
                  have HN1 := Lib.hid (HNo.out hq)
                  clear HY HNo hq Hacc HDn
                  generalize lnS xs z t = L at *
                  go_upto_region 26 with (fail)
                  go_quiet ((go_at_call 15; exact Calls.quiet_of_same (HT.out _)))
                  have Hb0 := Lib.hid (below_drewN Hbq.out nq)
                  clear HT p0 p4 q2
                  go_wp2_with fail
                  go_roundw
                  case rel => exact ⟨t + 1, htl, by go_num, by rw [HN1.out], Hb0.out⟩
                  case measure => first | (simp [intOf]; done) | (simp [intOf]; omega)
              · obtain rfl : t = xs.length := by omega
                have htl' : ¬ ((xs.length : Int) < (xs.length : Int)) := by omega
                have Hown2 := Lib.hid (own_below Hown.out hbq)
                have Hbo2 := Lib.hid (Hbo.out.trans (hbq.mono Hbo.out.size))
                have hz7 := Hbo2.out.size
                clear hbq HLz
                generalize lnS xs z xs.length = L at *
                go_wp2_with (at_builtin; refine wpList_apd 24 9 _ 1 16 Tryd.underlying24 infoStrW rfl (by omega) _ _ rfl rfl wA.heap.size _ m _ rfl Hown2.out #[.string L] 1 1 rfl rfl (by simp [Value.oneCell']) (by simp [maxLen]; omega) (by omega) hz7 ?_; intro v7 w7 hown7 hg7; have Hb7 := Lib.hid (below_apd Hbo2.out Hown2.out hg7 (Nat.le_refl _) hz7); have Ho7 := Lib.hid (show w7.ownsRow wA.heap.size 9 1 v7 (m + 1) (strs ((S.take (m + 1)).map (fun z => lnS xs z xs.length))) from by rw [HE.out, ← strs_snoc]; exact hown7); clear hown7 hg7)
                go_roundw
                case rel => exact ⟨m + 1, by omega, by go_num, Ho7.out, Hb7.out⟩
                case measure => first | (simp [intOf]; done) | (simp [intOf]; omega)
          · obtain rfl : m = n := by omega
            have hmn' : ¬ ((m : Int) < (m : Int)) := by omega
            have Hz := Lib.hid (show RetWx (idxC xs) (idxR xs) w (.returned (.tuple #[.slice A3 m c3, .int .i64 0])) wz from by
              rw [eC.out, eR.out, HIx.out]
              have h1 : (S.map (fun z => lnS xs z xs.length)).length = m := by rw [List.length_map, Hn.out]
              refine ⟨_, rfl, ?_, HB0.out.trans (hbo.mono HB0.out.size)⟩
              rw [h1]
              rw [List.take_of_length_le (by rw [Hn.out]; exact Nat.le_refl _)] at hown
              exact ownsRow_le hown HB0.out.size)
            clear hown hbo
            go_wp2_with fail
            go_ret2
            exact Hz.out
end Go.Proofs.YtbfhlkpicehnlaaDoor
/- Registers, part 1: the exact laws' helpers: szInt64S, szRegister, toInt64S, eqInt64S. -/
namespace Go.Proofs.YtbfhlkpicehnlaaDoor
open Go.RowKit Go.Joins

def ints (l : List Int) : List Value := l.map (Value.int .i64)
theorem infoI : (Tryd.prog.info? 2).map (fun i => (i.zero, i.size, i.bytes)) = some (some (.int .i64 0), 1, 8) := by kernel_rfl
theorem ints_rd {w : World} {B n c : Nat} {A : Option Addr} {zs : List Int} (h : Rd w B (.slice A n c) zs.length 1 (ints zs)) (k : Nat) (hk : k < zs.length) :
    ∃ b off, A = some ⟨b, off, none⟩ ∧ w.cell? ⟨b, off + k, none⟩ = some (.int .i64 zs[k]) := by
  obtain ⟨_, A', c', hv, hc⟩ := h
  injection hv with e1 e2 e3
  subst e1
  obtain ⟨b, off, hA, _, hcc⟩ := hc (by omega)
  exact ⟨b, off, hA, hcc k _ (by simp [ints, hk])⟩

/-- what is left of the room -/
def leftI (left : Int) (n : Nat) : Int := if left - n < 0 then -1 else left - n
theorem leftI_bd (left : Int) (n : Nat) (h1 : left ≤ 1048576) : leftI left n ≤ 1048576 ∧ (0 ≤ leftI left n → (n : Int) ≤ left) ∧ (leftI left n < 0 → leftI left n = -1) := by
  unfold leftI
  split <;> omega

end Go.Proofs.YtbfhlkpicehnlaaDoor
/- Similar entries, part 2: the words two entries share; the reference's side. -/
namespace Go.Proofs.YtbfhlkpicehnlaaDoor
open Go.RowKit Go.Joins

/-- how many words of the one list the other has -/
def comN : List ByteArray → List ByteArray → Nat
  | [], _ => 0
  | x :: l, b => if hasW b x = true then 1 + comN l b else comN l b
theorem comN_at (ws b : List ByteArray) (k : Nat) (hk : k < ws.length) : comN (ws.drop k) b = if hasW b ws[k] = true then 1 + comN (ws.drop (k + 1)) b else comN (ws.drop (k + 1)) b := by
  rw [List.drop_eq_getElem_cons hk]; rfl
theorem comN_end (ws b : List ByteArray) (k : Nat) (hk : ws.length ≤ k) : comN (ws.drop k) b = 0 := by rw [List.drop_of_length_le hk]; rfl
theorem comN_le : ∀ (ws b : List ByteArray), comN ws b ≤ ws.length := by
  intro ws b
  induction ws with
  | nil => exact Nat.le_refl _
  | cons x l ih => unfold comN; split <;> simp <;> omega

end Go.Proofs.YtbfhlkpicehnlaaDoor
/- Similar entries, part 3: the list; the reference's SimilarEntries. -/
namespace Go.Proofs.YtbfhlkpicehnlaaDoor
open Go.RowKit Go.Joins

def simF : List Ent → Nat → Nat → List ByteArray → Nat → List Int → List Int
  | [], _, _, _, _, out => out
  | x :: l, k, i, b, m, out => if k = i ∨ comN x.words b < m then simF l (k + 1) i b m out else if m < comN x.words b then simF l (k + 1) i b (comN x.words b) [x.num] else simF l (k + 1) i b m (out ++ [x.num])
theorem simF_at (xs : List Ent) (k i : Nat) (b : List ByteArray) (m : Nat) (out : List Int) (hk : k < xs.length) : simF (xs.drop k) k i b m out =
    if k = i ∨ comN xs[k].words b < m then simF (xs.drop (k + 1)) (k + 1) i b m out else if m < comN xs[k].words b then simF (xs.drop (k + 1)) (k + 1) i b (comN xs[k].words b) [xs[k].num] else simF (xs.drop (k + 1)) (k + 1) i b m (out ++ [xs[k].num]) := by
  rw [List.drop_eq_getElem_cons hk]; rfl
theorem simF_end (xs : List Ent) (k i : Nat) (b : List ByteArray) (m : Nat) (out : List Int) (hk : xs.length ≤ k) : simF (xs.drop k) k i b m out = out := by rw [List.drop_of_length_le hk]; rfl
/-- the numbers of the most similar -/
def simL (xs : List Ent) (m : Int) : List Int := if askC xs m = 0 then simF xs 0 (askI xs m).toNat (xs.getD (askI xs m).toNat noEnt).words 1 [] else []
theorem simF_len (i : Nat) (b : List ByteArray) : ∀ (xs : List Ent) (k m : Nat) (out : List Int), (simF xs k i b m out).length ≤ out.length + xs.length := by
  intro xs
  induction xs with
  | nil => intro k m out; exact Nat.le_refl _
  | cons x l ih =>
    intro k m out
    unfold simF
    split
    · have := ih (k + 1) m out; simp; omega
    · split
      · have := ih (k + 1) (comN x.words b) [x.num]; simp at *; omega
      · have := ih (k + 1) m (out ++ [x.num]); simp at *; omega
theorem simL_len (xs : List Ent) (m : Int) : (simL xs m).length ≤ xs.length := by
  unfold simL
  split
  · have := simF_len (askI xs m).toNat (xs.getD (askI xs m).toNat noEnt).words xs 0 1 []; simpa using this
  · simp
theorem sim_cases (xs : List Ent) (m : Int) : (askC xs m ≠ 0 ∧ simL xs m = []) ∨ ∃ (i : Nat) (hi : i < xs.length), askC xs m = 0 ∧ askI xs m = i ∧ entsOk xs = true ∧ findN xs m 0 = i ∧ simL xs m = simF xs 0 i xs[i].words 1 [] := by
  by_cases h : askC xs m = 0
  · right
    have h' := h
    unfold askC at h
    split at h
    · cases h
    · split at h
      · cases h
      · rename_i ho hf
        have ho : entsOk xs = true := by simpa using ho
        rcases findN_bd m xs 0 with e | ⟨i, hi, e⟩
        · omega
        · rw [Nat.zero_add] at e
          have hI : askI xs m = (i : Int) := by
            unfold askI
            rw [if_neg (by simp [ho]), if_neg (by omega), e]
          refine ⟨i, hi, h', hI, ho, e, ?_⟩
          unfold simL
          rw [if_pos h', hI, Int.toNat_natCast, getE_at xs i hi]
  · exact .inl ⟨h, by unfold simL; rw [if_neg h]⟩

/-- a new list of numbers and a code -/
def RetN (code : Int) (zs : List Int) (w : World) (e : Ending) (w' : World) : Prop :=
  ∃ v, e = .returned (.tuple #[v, .int .i64 code]) ∧ w'.ownsRow w.heap.size 2 1 v zs.length (ints zs) ∧ Below w.heap.size w w'
theorem RetN_no {code c2 : Int} {zs : List Int} {w w' : World} (h : zs = []) (hc : c2 = code) (hb : Below w.heap.size w w') : RetN code zs w (.returned (.tuple #[.slice none 0 0, .int .i64 c2])) w' := by
  subst h hc
  exact ⟨_, rfl, World.ownsRow_nil _ _ _ _, hb⟩
theorem RetN_yes {code c2 : Int} {zs l : List Int} {v : Value} {w w' : World} (h : zs = l) (hc : c2 = code) (ho : w'.ownsRow w.heap.size 2 1 v l.length (ints l)) (hb : Below w.heap.size w w') : RetN code zs w (.returned (.tuple #[v, .int .i64 c2])) w' := by
  subst h hc
  exact ⟨_, rfl, ho, hb⟩
theorem ones_one (a : Int) : ∀ u ∈ (#[Value.int .i64 a] : Array Value).toList, u.oneCell' = true := by
  intro u hu
  simp at hu
  subst hu; rfl
theorem ints_one (l : List Int) (a : Int) : ints l ++ (#[Value.int .i64 a] : Array Value).toList = ints (l ++ [a]) := by simp [ints]

end Go.Proofs.YtbfhlkpicehnlaaDoor
/- Similar entries, part 4: the program's SimilarEntries. -/
namespace Go.Proofs.YtbfhlkpicehnlaaDoor
open Go.RowKit Go.Joins

end Go.Proofs.YtbfhlkpicehnlaaDoor
/- Similar entries, part 5: the marks' helpers. -/
namespace Go.Proofs.YtbfhlkpicehnlaaDoor
open Go.RowKit Go.Joins

/-- the digits in front of what is there already -/
def mkD : Nat → Nat → List UInt8 → List UInt8
  | 0, _, out => out
  | f + 1, k, out => if k = 0 then out else mkD f (k / 10) (UInt8.ofNat (48 + k % 10) :: out)
theorem mkD_zero (f : Nat) (out : List UInt8) : mkD f 0 out = out := by cases f <;> simp [mkD]
theorem mkD_step (f m : Nat) (out : List UInt8) (h : 0 < m) (hf : m ≤ f) : ∃ f', mkD f m out = mkD f' (m / 10) (UInt8.ofNat (48 + m % 10) :: out) ∧ m / 10 ≤ f' := by
  cases f with
  | zero => omega
  | succ f => exact ⟨f, by simp [mkD, show m ≠ 0 by omega], by omega⟩
/-- the text of a mark -/
def markT (k : Int) : ByteArray := if k ≤ 0 then ⟨#[109, 48]⟩ else ⟨(109 :: mkD k.toNat k.toNat []).toArray⟩
theorem digB (m : Nat) : IntKind.u8.wrap (48 + (m : Int) % 10) = ((UInt8.ofNat (48 + m % 10)).toNat : Int) := by
  rw [IntKind.wrap_u8]
  simp only [UInt8.toNat_ofNat']
  omega

set_option maxHeartbeats 400000 in
theorem markText_any (k : Int) (w : World) (hk : k ≤ 4611686018427387904) :
    Calls Tryd.prog 22 #[.int .i64 k] w fun e w' => e = .returned (.string (markT k)) ∧ Below w.heap.size w w' := by
  by_cases h : k ≤ 0
  · have e1 := Lib.hid (show markT k = ⟨#[109, 48]⟩ by simp [markT, h])
    have hb0 := Below.refl w.heap.size w
    go_enter Tryd.func22, Tryd.ntmps22
    go_wp2_with fail
    go_ret
    rw [e1.out]; exact ⟨rfl, hb0⟩
  · obtain ⟨n, rfl⟩ : ∃ n : Nat, k = n := ⟨k.toNat, by omega⟩
    have e1 := Lib.hid (show markT (n : Int) = ⟨(109 :: mkD n n []).toArray⟩ by simp only [markT, if_neg h, Int.toNat_natCast])
    have hn : 0 < n := by omega
    have hb : decide ((n : Int) ≤ 0) = false := by simp; omega
    clear h
    go_enter Tryd.func22, Tryd.ntmps22
    go_wp2_with fail
    go_loopw [0, 3] (fun a v wr => ∃ (f m : Nat) (out : List UInt8), a = .int .i64 m ∧ m ≤ f ∧ out.length + m ≤ n ∧ v = .string ⟨out.toArray⟩ ∧ mkD n n [] = mkD f m out ∧ Below w.heap.size w wr) (fun a _ _ => (intOf a).toNat)
    case atStart => exact ⟨n, n, [], rfl, Nat.le_refl _, by simp, rfl, rfl, Below.refl _ _⟩
    case round =>
      obtain ⟨f, m, out, rfl, hmf, hmn, rfl, heq, hbl⟩ := hrel
      have Heq := Lib.hid heq; clear heq
      have hl1 : 1 + out.length ≤ 4611686018427387905 := by omega
      by_cases hlt : 0 < m
      · have hd := digB m
        have Hst := Lib.hid (mkD_step f m out hlt hmf)
        have hcv := run_conv_one (P := Tryd.prog) (w := wr) 49 9 5 Tryd.underlying49 Tryd.underlying5 Tryd.underlying9 (UInt8.ofNat (48 + m % 10))
        have hb2 := hbl.alloc hbl.size (.cells #[.int .u8 ((UInt8.ofNat (48 + m % 10)).toNat : Int)] 5)
        generalize UInt8.ofNat (48 + m % 10) = d at *
        go_wp2_with fail
        go_roundw
        case rel =>
          obtain ⟨f', h1, h2⟩ := Hst.out
          exact ⟨f', m / 10, d :: out, by go_num, h2, by simp; omega, by rw [ba_app]; simp, by rw [Heq.out, h1], hb2⟩
        case measure => simp [intOf]; omega
      · have hm0 : (m : Int) ≤ 0 := by omega
        go_wp2_with fail
        go_ret
        have he := Heq.out
        rw [show m = 0 by omega, mkD_zero] at he
        rw [e1.out, he]
        exact ⟨by rw [ba_app]; simp, hbl⟩


/-- the marks from k on -/
def marks (k : Int) (n : Nat) : List ByteArray := (List.range n).map fun (i : Nat) => markT (k + (i : Int))
theorem marks_at (k : Int) (n i : Nat) (h : i < n) : (strs (marks k n))[i]? = some (.string (markT (k + (i : Int)))) := by simp [strs, marks, h]
theorem marks_len (k : Int) (n : Nat) : (marks k n).length = n := by simp [marks]

set_option maxHeartbeats 400000 in
theorem markStringS_any (base : Nat) (v1 : Value) (k0 : Int) (n : Nat) (xs : List Value) (w : World) (h1 : w.ownsRow base 9 1 v1 n xs) (hk0 : 0 ≤ k0) (hk : k0 + n ≤ 4611686018427387904) :
    Calls Tryd.prog 11 #[v1, .int .i64 k0] w fun e w' => e = .returned (.int .i64 (k0 + n)) ∧ w.grownBy w' v1.ownBlock ∧ w'.ownsRow base 9 1 v1 n (strs (marks k0 n)) := by
  have hl : xs.length = n := by simpa using h1.1
  have Hl := Lib.hid hl; clear hl
  rcases ownsRow_forms h1 with ⟨rfl, rfl⟩ | ⟨g, cap, rfl⟩
  · have hg0 : w.grownBy w (Value.slice none 0 0).ownBlock := ⟨rfl, rfl, rfl, Nat.le_refl _, fun _ _ _ => rfl⟩
    have Ho := Lib.hid (World.ownsRow_nil w base 9 1)
    clear h1
    go_enter Tryd.func11, Tryd.ntmps11
    go_wp2_with fail
    go_loop [1, 5] (fun a i => i = .int .i64 0 ∧ a = .int .i64 k0) (fun _ _ => 0)
    case atStart => exact ⟨rfl, rfl⟩
    case round =>
      obtain ⟨rfl, rfl⟩ := hrel
      go_wp2_with fail
      go_ret
      exact ⟨by simp, hg0, by simpa [marks, strs] using Ho.out⟩
  · have hg0 : w.grownBy w (some g) := ⟨rfl, rfl, rfl, Nat.le_refl _, fun _ _ _ => rfl⟩
    have Hsh := Lib.hid h1
    clear h1
    go_enter Tryd.func11, Tryd.ntmps11
    go_wp2_with fail
    go_loopw [1, 5] (fun a i wr => ∃ k : Nat, k ≤ n ∧ i = .int .i64 k ∧ a = .int .i64 (k0 + k) ∧ wr.ownsRow base 9 1 (.slice (some ⟨g, 0, none⟩) n cap) n (strs (marks k0 k) ++ xs.drop k) ∧ w.grownBy wr (some g)) (fun _ i _ => n - (intOf i).toNat)
    case atStart => exact ⟨0, Nat.zero_le _, rfl, by simp, by simpa [marks, strs] using Hsh.out, hg0⟩
    case round =>
      obtain ⟨k, hk, rfl, rfl, hown, hgr⟩ := hrel
      by_cases hlt : k < n
      · have hlt' : (k : Int) < (n : Int) := by omega
        have Hmk := Lib.hid (markText_any (k0 + k))
        have hlen : (strs (marks k0 k)).length = k := by simp [strs, marks]
        have hset : (strs (marks k0 k) ++ xs.drop k).set k (.string (markT (k0 + k))) = strs (marks k0 (k + 1)) ++ xs.drop (k + 1) := by
          rw [List.set_append_right _ _ (by omega), hlen, Nat.sub_self, List.drop_eq_getElem_cons (by rw [Hl.out]; exact hlt), List.set_cons_zero]
          simp [strs, marks, List.range_succ]
        have Hset := Lib.hid hset; clear hset hlen
        generalize markT (k0 + (k : Int)) = M at *
        have Hown := Lib.hid hown; clear hown
        go_wp2_with fail
        refine (Hmk.out _ (by omega)).mono ?_; rintro e wq ⟨rfl, hbq⟩
        have hown := own_below Hown.out hbq
        obtain ⟨u, hu⟩ : ∃ u, (strs (marks k0 k) ++ xs.drop k)[k]? = some u := ⟨_, List.getElem?_eq_getElem (by have := hown.1; omega)⟩
        have hc : wq.cell? ⟨g, k, none⟩ = some u := (hown.cellAt k (by omega)).trans hu
        have hf : wq.frozen? ⟨g, k, none⟩ = false := hown.frozenAt k
        obtain ⟨ho2, hg2⟩ := hown.stored k (.string M)
        rw [Hset.out] at ho2
        have hg3 := grown_trans (grown_trans hgr (grown_of_below hbq _)) hg2
        clear hu hown
        go_wp2_with fail
        go_roundw
        case rel => exact ⟨k + 1, by omega, by go_num, by go_num, ho2, hg3⟩
        case measure => simp [intOf]; omega
      · obtain rfl : k = n := by omega
        rw [List.drop_of_length_le (by rw [Hl.out]; exact Nat.le_refl _), List.append_nil] at hown
        go_wp2_with fail
        go_ret
        exact ⟨rfl, hgr, hown⟩

def marksI (k : Int) (n : Nat) : List Int := (List.range n).map fun (i : Nat) => k + (i : Int)
theorem marksI_len (k : Int) (n : Nat) : (marksI k n).length = n := by simp [marksI]
theorem marksI_at (k : Int) (n i : Nat) (h : i < n) : (marksI k n)[i]'(by rw [marksI_len]; exact h) = k + (i : Int) := by simp [marksI]
theorem marksI_succ (k : Int) (n : Nat) : marksI k (n + 1) = marksI k n ++ [k + (n : Int)] := by
  unfold marksI
  rw [List.range_succ, List.map_append]; rfl

end Go.Proofs.YtbfhlkpicehnlaaDoor
/- Similar entries, part 6: markEntryS. -/
namespace Go.Proofs.YtbfhlkpicehnlaaDoor
open Go.RowKit Go.Joins

/-- a row of its own, whatever it holds -/
def OwnX (w : World) (base n : Nat) (v : Value) : Prop := ∃ zs, w.ownsRow base 9 1 v n zs
theorem OwnX.kept {w w' : World} {base n : Nat} {v : Value} {row : Option Nat} (h : OwnX w base n v) (hg : w.grownBy w' row) (hne : v.ownBlock = none ∨ v.ownBlock ≠ row) : OwnX w' base n v := h.imp fun _ h => h.kept hg hne
theorem OwnX.same {w w' : World} {base n n2 : Nat} {v v2 : Value} {xs' : List Value} (h1 : OwnX w base n v) (h2 : OwnX w base n2 v2) (hg : w.grownBy w' v.ownBlock) (h1' : w'.ownsRow base 9 1 v n xs') : OwnX w' base n2 v2 := by
  by_cases hne : v2.ownBlock = none ∨ v2.ownBlock ≠ v.ownBlock
  · exact h2.kept hg hne
  · obtain ⟨z1, h1⟩ := h1
    obtain ⟨z2, h2⟩ := h2
    rcases h2.2 with ⟨rfl, _⟩ | ⟨g2, cap2, cur2, rfl, hb2, hg2, hn2, hc2, hs2, ht2⟩
    · exact absurd (.inl rfl) hne
    rcases h1.2 with ⟨rfl, _⟩ | ⟨g1, cap1, cur1, rfl, hb1, hg1, hn1, hc1, hs1, ht1⟩
    · exact absurd (.inr (by simp [Value.ownBlock])) hne
    have he : g2 = g1 := by
      by_cases hh : g2 = g1
      · exact hh
      · exact absurd (.inr (by simpa [Value.ownBlock] using hh)) hne
    subst he
    rw [hg1] at hg2
    obtain rfl : cur1 = cur2 := by simpa using hg2
    rcases h1'.2 with ⟨h', _⟩ | ⟨g3, cap3, cur3, h', hb3, hg3, hn3, hc3, hs3, ht3⟩
    · cases h'
    simp only [Value.slice.injEq, Option.some.injEq, Addr.mk.injEq, and_true, true_and] at h'
    obtain ⟨rfl, rfl⟩ := h'
    refine ⟨cur3.toList.take (n2 * 1), ⟨?_, .inr ⟨g2, cap2, cur3, rfl, hb2, hg3, hn2, hc2, by omega, rfl⟩⟩⟩
    rw [List.length_take, Array.length_toList]; omega

/-- only the entries' own blocks have changed -/
def MK (B0 hi : Nat) (w wr : World) : Prop := Below B0 w wr ∧ ∀ g, hi ≤ g → g < w.heap.size → wr.heap[g]? = w.heap[g]?
theorem MK.refl (B0 hi : Nat) (w : World) : MK B0 hi w w := ⟨Below.refl _ _, fun _ _ _ => rfl⟩
theorem MK.step {B0 hi : Nat} {w wr wr' : World} {ob : Option Nat} (h : MK B0 hi w wr) (hg : wr.grownBy wr' ob) (ho : ∀ g, ob = some g → B0 ≤ g ∧ g < hi) (hB : B0 ≤ w.heap.size) : MK B0 hi w wr' :=
  ⟨h.1.grown hg (Nat.le_trans hB h.1.size) (fun k hk => (ho k hk).1), fun g h1 h2 => (hg.block g (Nat.lt_of_lt_of_le h2 h.1.size) (fun e => by have := (ho g e.symm).2; omega)).trans (h.2 g h1 h2)⟩
theorem st_cell {w : World} {g n : Nat} {cs : List Value} (h : w.ownsRow g 38 5 (.slice (some ⟨g, 0, none⟩) n n) n cs) (j : Nat) (hj : j < n * 5) : ∃ u, w.cell? ⟨g, j, none⟩ = some u ∧ w.frozen? ⟨g, j, none⟩ = false := by
  obtain ⟨u, hu⟩ : ∃ u, cs[j]? = some u := ⟨_, List.getElem?_eq_getElem (by have := h.1; omega)⟩
  exact ⟨u, (h.cellAt j (by omega)).trans hu, h.frozenAt j⟩
theorem fours (ys : List (Ent × Value)) (j : Nat) (hj : j < ys.length) : (ys.flatMap cellsE)[j * 5 + 4]? = some (ys[j].2) := by
  have := flat_at cellsE 5 (fun _ => rfl) ys j 4 hj (by omega)
  rw [this]; rfl

set_option maxRecDepth 100000 in
set_option maxHeartbeats 3200000 in
theorem markEntryS_any (B0 hi n : Nat) (ys : List (Ent × Value)) (w : World) (k0 : Int) (hn : ys.length = n) (hl : n ≤ 1048576) (h1 : w.ownsRow B0 38 5 (.slice (some ⟨B0, 0, none⟩) n n) n (ys.flatMap cellsE))
    (h2 : ∀ y ∈ ys, OwnX w (B0 + 1) y.1.words.length y.2) (hhi : ∀ y ∈ ys, ∀ g, y.2.ownBlock = some g → g < hi) (hB : B0 < hi) (hsm : ∀ y ∈ ys, y.1.words.length ≤ 1048576) (hk0 : 0 ≤ k0) (hk1 : k0 ≤ 1) :
    Calls Tryd.prog 10 #[.slice (some ⟨B0, 0, none⟩) n n, .int .i64 k0] w fun e w' => (∃ r : Int, e = .returned (.int .i64 r) ∧ 0 ≤ r) ∧ MK B0 hi w w' := by
  have hBw : B0 < w.heap.size := (h1.lt B0 rfl).2
  have H1 := Lib.hid h1
  have H2 := Lib.hid h2
  have Hhi := Lib.hid hhi
  have Hsm := Lib.hid hsm
  have H4 := Lib.hid (fours ys)
  have Hn := Lib.hid hn
  clear h1 h2 hhi hsm hn
  go_enter Tryd.func10, Tryd.ntmps10
  go_wp2_with fail
  go_loopw [1, 5] (fun a i wr => ∃ (k : Nat) (a0 : Int) (cs : List Value), k ≤ n ∧ 0 ≤ a0 ∧ a0 ≤ 1 + k * 1048580 ∧ i = .int .i64 (k : Int) ∧ a = .int .i64 a0 ∧ wr.ownsRow B0 38 5 (.slice (some ⟨B0, 0, none⟩) n n) n cs ∧ (∀ j (hj : j < ys.length), cs[j * 5 + 4]? = some (ys[j].2)) ∧ (∀ y ∈ ys, OwnX wr (B0 + 1) y.1.words.length y.2) ∧ MK B0 hi w wr) (fun _ i _ => n - (intOf i).toNat)
  case atStart => exact ⟨0, k0, _, Nat.zero_le _, hk0, by omega, rfl, rfl, H1.out, H4.out, H2.out, MK.refl _ _ _⟩
  case round =>
    obtain ⟨k, a0, cs, hk, ha0, ha1, rfl, rfl, hown, hcs, hx, hmk⟩ := hrel
    have Hcs := Lib.hid hcs
    have Hx := Lib.hid hx
    have Hmk := Lib.hid hmk
    clear hcs hx hmk
    by_cases hlt : k < n
    · have hlt' : (k : Int) < (n : Int) := by omega
      have hky : k < ys.length := by rw [Hn.out]; exact hlt
      have Hmem := Lib.hid (List.getElem_mem hky)
      have Hk4 := Lib.hid (Hcs.out k hky)
      generalize ys[k] = y at *
      obtain ⟨x, v2⟩ := y
      have hxl := Hsm.out _ Hmem.out
      have hxo := Hx.out _ Hmem.out
      dsimp only at Hk4 hxl hxo
      obtain ⟨A7, c7, rfl⟩ : ∃ A c, v2 = .slice A x.words.length c := by
        obtain ⟨zs, hz⟩ := hxo
        obtain ⟨_, A, c, e, _⟩ := Rd.of_own hz
        exact ⟨A, c, e⟩
      clear hxo hky
      obtain ⟨u0, hc0, hf0⟩ := st_cell hown (k * 5) (by omega)
      obtain ⟨ho1, hg1⟩ := hown.stored (k * 5) (.int .i64 a0)
      have Ho1 := Lib.hid ho1
      have Hg1 := Lib.hid hg1
      clear ho1 hg1 hown
      go_wp2_with fail
      refine (markText_any _ _ (by omega)).mono ?_; rintro e w2 ⟨rfl, hb2⟩
      generalize markT _ = M1 at *
      have ho2 := own_below Ho1.out hb2
      have Hg2 := Lib.hid (grown_trans Hg1.out (grown_of_below hb2 _))
      obtain ⟨u1, hc1, hf1⟩ := st_cell ho2 (k * 5 + 1) (by omega)
      obtain ⟨ho3, hg3⟩ := ho2.stored (k * 5 + 1) (.string M1)
      have Ho3 := Lib.hid ho3
      have Hg3 := Lib.hid (grown_trans Hg2.out hg3)
      clear ho2 ho3 hg3 hb2 hc0 hf0 Hg2 Hg1 Ho1
      go_wp2_with fail
      refine (markText_any _ _ (by omega)).mono ?_; rintro e w4 ⟨rfl, hb4⟩
      generalize markT _ = M2 at *
      have ho4 := own_below Ho3.out hb4
      have Hg4 := Lib.hid (grown_trans Hg3.out (grown_of_below hb4 _))
      obtain ⟨u2, hc2, hf2⟩ := st_cell ho4 (k * 5 + 2) (by omega)
      obtain ⟨u3, hc3, hf3⟩ := st_cell ho4 (k * 5 + 3) (by omega)
      have hc4 : w4.cell? ⟨B0, k * 5 + 4, none⟩ = some (.slice A7 x.words.length c7) := by
        rw [ho4.cellAt (k * 5 + 4) (by omega), List.getElem?_set_ne (by omega), List.getElem?_set_ne (by omega)]
        exact Hk4.out
      obtain ⟨ho5, hg5⟩ := ho4.stored (k * 5 + 2) (.string M2)
      obtain ⟨ho6, hg6⟩ := ho5.stored (k * 5 + 3) (.int .i64 (a0 + 1 + 1 + 1))
      have Ho6 := Lib.hid ho6
      have Hg6 := Lib.hid (grown_trans (grown_trans Hg4.out hg5) hg6)
      clear ho4 ho5 ho6 hg5 hg6 hb4 hc1 hf1 Hg3 Hg4 Ho3
      have Hx6 := Lib.hid (fun y hy => (Hx.out y hy).kept Hg6.out (by
        obtain ⟨zs, hz⟩ := Hx.out y hy
        cases hv : y.2.ownBlock with
        | none => exact .inl rfl
        | some g => have := (hz.lt g hv).1; exact .inr (by simp; omega)))
      have Hm6 := Lib.hid (Hmk.out.step Hg6.out (fun g e => by cases e; exact ⟨Nat.le_refl _, hB⟩) (Nat.le_of_lt hBw))
      obtain ⟨zs6, ho7⟩ := Hx6.out _ Hmem.out
      have HM := Lib.hid (fun q => markStringS_any (B0 + 1) _ q _ zs6 _ ho7)
      have hlt7 := Lib.hid ho7.lt
      clear ho7
      dsimp only at HM
      go_wp2_with fail
      refine (HM.out _ (by omega) (by omega)).mono ?_; rintro e w8 ⟨rfl, hg8, ho8⟩
      have Hx8 := Lib.hid (fun y hy => (Hx6.out _ Hmem.out).same (Hx6.out y hy) hg8 ho8)
      have Ho8 := Lib.hid (Ho6.out.kept hg8 (.inr (by
        intro e
        have := (hlt7.out B0 e.symm).1
        omega)))
      have Hm8 := Lib.hid (Hm6.out.step hg8 (fun g e => ⟨by have := (hlt7.out g e).1; omega, Hhi.out _ Hmem.out g e⟩) (Nat.le_of_lt hBw))
      have Hcs8 := Lib.hid (fun j hj => show ((((cs.set (k * 5) (.int .i64 a0)).set (k * 5 + 1) (.string M1)).set (k * 5 + 2) (.string M2)).set (k * 5 + 3) (.int .i64 (a0 + 1 + 1 + 1)))[j * 5 + 4]? = some ((ys[j]'hj).2) by
        rw [List.getElem?_set_ne (by omega), List.getElem?_set_ne (by omega), List.getElem?_set_ne (by omega), List.getElem?_set_ne (by omega)]
        exact Hcs.out j hj)
      clear hg8 ho8
      go_wp2_with fail
      go_roundw
      case rel => exact ⟨k + 1, _, _, by omega, by omega, by omega, by go_num, rfl, Ho8.out, Hcs8.out, Hx8.out, Hm8.out⟩
      case measure => simp [intOf]; omega
    · have hlt' : (n : Int) ≤ (k : Int) := by omega
      go_wp2_with fail
      go_ret
      exact ⟨⟨_, rfl, ha0⟩, Hmk.out⟩
end Go.Proofs.YtbfhlkpicehnlaaDoor
/- heldStringS (out of Mark; gen_wi6.py). -/
namespace Go.Proofs.YtbfhlkpicehnlaaDoor
open Go.RowKit Go.Joins

set_option maxHeartbeats 400000 in
theorem heldStringT_any (B1 : Nat) (v1 : Value) (k0 : Int) (n : Nat) (w : World) (h1 : Rd w B1 v1 n 1 (strs (marks k0 n))) (hB : B1 ≤ w.heap.size) (hk0 : 0 ≤ k0) (hk : k0 + n ≤ 4611686018427387904) :
    Calls Tryd.prog 12 #[v1, .int .i64 k0] w fun e w' => e = .returned (.int .i64 (k0 + n)) ∧ Below w.heap.size w w' := by
  obtain ⟨_, A1, c1, rfl, h1⟩ := h1
  have H1 := Lib.hid h1; clear h1
  go_enter Tryd.func12, Tryd.ntmps12
  go_wp2_with fail
  go_loopw [1, 5] (fun a i wr => ∃ k : Nat, k ≤ n ∧ i = .int .i64 k ∧ a = .int .i64 (k0 + k) ∧ Below w.heap.size w wr) (fun _ i _ => n - (intOf i).toNat)
  case atStart => exact ⟨0, Nat.zero_le _, rfl, by simp, Below.refl _ _⟩
  case round =>
    obtain ⟨k, hk, rfl, rfl, hbl⟩ := hrel
    by_cases hlt : k < n
    · obtain ⟨b1, o1, rfl, hb1, hc1⟩ := H1.out (by omega)
      have hx := hc1 k _ (marks_at k0 n k hlt)
      have hxr := (hbl.cell (p := ⟨b1, o1 + k, none⟩) (by show b1 < _; omega)).trans hx
      have hlt' : (k : Int) < (n : Int) := by omega
      have hbb : b1 < wr.heap.size := by have := hbl.size; omega
      clear hc1 hx
      have Hmk := Lib.hid (markText_any (k0 + k))
      generalize markT (k0 + (k : Int)) = M at *
      go_wp2_with fail
      go_region_held3 (fun w' => w'.cell? ⟨b1, o1 + k, none⟩ = some (.string M))
        (first | go_keep | (rw [hbq.cell (p := ⟨b1, o1 + k, none⟩) (by show b1 < _; simp; omega)]; first | assumption | (simp; assumption)))
        ((go_at_call 22; refine (Hmk.out _ (by omega)).mono ?_; rintro e wq ⟨rfl, hbq⟩))
      go_wp2_with fail
      have hb2 := hbl.trans ((below_undrew hbq).mono hbl.size)
      go_roundw
      case rel => exact ⟨k + 1, by omega, by go_num, by go_num, hb2⟩
      case measure => simp [intOf]; omega
    · go_wp2_with fail
      go_ret
      obtain rfl : k = n := by omega
      exact ⟨rfl, hbl⟩

end Go.Proofs.YtbfhlkpicehnlaaDoor
/- An index of words, part 6: the law FnExactWordIndex (gen_wi6.py). -/
namespace Go.Proofs.YtbfhlkpicehnlaaDoor
open Go.RowKit Go.Joins

theorem own_MKW {B0 hi base n size : Nat} {w wr : World} {e : TypeId} {v : Value} {zs : List Value} (h : w.ownsRow base e size v n zs) (hm : MK B0 hi w wr) (hb : hi ≤ base) : wr.ownsRow base e size v n zs := by
  refine ⟨h.1, ?_⟩
  rcases h.2 with hn | ⟨g, cap, cur, rfl, hbg, hgg, rest⟩
  · exact .inl hn
  · exact .inr ⟨g, cap, cur, rfl, hbg, (hm.2 g (Nat.le_trans hb hbg) (Array.getElem?_eq_some_iff.1 hgg).1).trans hgg, rest⟩
/-- the marks fit: a list of entries from toEntryS, some worlds later -/
theorem markE_lateW {w5 w6 w9 : World} {xs : List Ent} {ys : List (Ent × Value)} (hm : ys.map (·.1) = xs) (ho : w6.ownsRow w5.heap.size 38 5 (.slice (some ⟨w5.heap.size, 0, none⟩) xs.length xs.length) xs.length (ys.flatMap cellsE))
    (hw : ∀ y ∈ ys, w6.ownsRow (w5.heap.size + 1) 9 1 y.2 y.1.words.length (strs y.1.words)) (hb : Below w6.heap.size w6 w9) (hl : xs.length ≤ 1048576) (hsm : ∀ x ∈ xs, x.words.length ≤ 1048576) :
    Calls Tryd.prog 10 #[.slice (some ⟨w5.heap.size, 0, none⟩) xs.length xs.length, .int .i64 1] w9 fun e w' => (∃ r : Int, e = .returned (.int .i64 r) ∧ 0 ≤ r) ∧ MK w5.heap.size w6.heap.size w9 w' := by
  have hlen : ys.length = xs.length := by rw [← hm, List.length_map]
  exact markEntryS_any w5.heap.size w6.heap.size xs.length ys w9 1 hlen hl (own_below ho hb) (fun y hy => ⟨_, own_below (hw y hy) hb⟩) (fun y hy g e => ((hw y hy).lt g e).2) (ho.lt _ rfl).2
    (fun y hy => hsm y.1 (by rw [← hm]; exact List.mem_map_of_mem hy)) (by omega) (by omega)

set_option maxRecDepth 100000 in
set_option maxHeartbeats 3200000 in
theorem walkFnExactWordIndex {W : World} (v1 : Value) (xs : List Ent) (h1 : RdE W W.heap.size v1 xs) (m1 : xs.length ≤ maxLen ∧ ∀ x ∈ xs, lenE x) (ht : Tab W) :
    Calls Tryd.prog 3 #[v1] W fun e w' => e = .returned (.bool true) ∧ Below W.heap.size W w' := by
  have HS1 := Lib.hid (szEntryS_any W.heap.size v1 xs 1048576 W h1 (Nat.le_refl _) m1.1 m1.2 (by omega) (by omega))
  have HT1 := Lib.hid (fun wx hx hz hl hw => toEntryS_c W.heap.size v1 xs wx hx hz hl hw)
  have HU1 := Lib.hid (fun wx hx hz hl hw => toEntryS_any W.heap.size v1 xs wx hx hz hl hw)
  have H1 := Lib.hid h1
  obtain ⟨A1, c1, rfl⟩ := h1.slice
  have Ht := Lib.hid ht
  clear h1 m1 ht
  go_enter Tryd.func3, Tryd.ntmps3
  go_wp2_with fail
  refine HS1.out.mono ?_; rintro e w1 ⟨r, rfl, hr1, hr2, hb1⟩
  have Hr2 := Lib.hid hr2; clear hr2
  by_cases n1 : r < 0
  · go_wp2_with fail
    go_ret
    exact ⟨rfl, hb1⟩
  · have s1 := (Hr2.out (by omega)).1
    have Hsm := Lib.hid (Hr2.out (by omega)).2
    have Hw1 := Lib.hid (fun x hx => (Hsm.out x hx).2.2.1)
    have HC1 := Lib.hid (fun wx v B hx hB => WordS_any B v xs wx hx hB s1 Hsm.out)
    have HC2 := Lib.hid (fun wx v B hx hB hq => WordI_any B v xs wx hx hB s1 Hsm.out hq)
    have hlen : (idxR xs).length ≤ 1048576 := idxR_len xs
    unfold RetWx at HC1 HC2
    generalize idxR xs = L at *
    generalize idxC xs = C at *
    generalize hn : L.length = n at *
    have Hn := Lib.hid hn; clear hn
    go_wp2_with fail
    refine (HT1.out _ (H1.out.below hb1) hb1.size s1 Hw1.out).mono ?_; rintro e w3 ⟨A3, c3, rfl, he3, hb3⟩
    have hb03 := hb1.trans (hb3.mono hb1.size)
    have He3 := Lib.hid he3
    clear he3 hb3 hb1
    go_wp2_with fail
    refine (HC1.out w3 _ _ He3.out (Nat.le_refl _)).mono ?_; rintro e w5 ⟨v6, rfl, ho5, hb5⟩
    have hb05 := hb03.trans (hb5.mono hb03.size)
    have R5 := Lib.hid (Rd.of_own ho5)
    obtain ⟨_, A5, c5, rfl, _⟩ := Rd.of_own ho5
    clear ho5 hb5 hb03 He3
    go_wp2_with fail
    refine (HU1.out _ (H1.out.below hb05) hb05.size s1 Hw1.out).mono ?_; rintro e w6 ⟨ys, rfl, hym, hyo, hyw, hb6⟩
    have hb06 := hb05.trans (hb6.mono hb05.size)
    have HM := Lib.hid (fun w9 hb => markE_lateW (w9 := w9) hym hyo hyw hb s1 Hw1.out)
    have E6 := Lib.hid (show RdE w6 w6.heap.size (.slice (some ⟨w5.heap.size, 0, none⟩) xs.length xs.length) xs from ⟨ys, hym, Rd.of_own hyo, fun y hy => Rd.of_own (hyw y hy)⟩)
    have hz6 := hb6.size
    have B6 := Lib.hid hb6
    clear hym hyo hyw hb6
    go_wp2_with fail
    refine (HC2.out w6 _ _ E6.out (Nat.le_refl _) (Ht.out.below hb06)).mono ?_; rintro e w7 ⟨v9, rfl, ho7, hb7⟩
    have B67 := Lib.hid hb7
    have B57 := Lib.hid (B6.out.trans (hb7.mono hz6))
    have Ho7 := Lib.hid ho7
    obtain ⟨_, A9, c9, rfl, _⟩ := Rd.of_own ho7
    have HE := Lib.hid (eqStringS_same _ _ _ _ L w7 (by rw [Hn.out]; exact Rd.of_own ho7) (by rw [Hn.out]; exact R5.out.below B57.out) (by rw [Hn.out]; omega))
    clear ho7 hb7 hb06
    go_wp2_with fail
    refine HE.out.mono ?_; rintro e w8 ⟨rfl, n8, rfl⟩
    have B68 := Lib.hid (below_drewN B67.out n8)
    have hb08 := hb05.trans ((B6.out.trans (B68.out.mono hz6)).mono hb05.size)
    have Ho8 := Lib.hid (Ho7.out.drewN n8)
    clear HE B57 B67 Ho7
    go_wp2_with fail
    refine (HT1.out _ (H1.out.below hb08) hb08.size s1 Hw1.out).mono ?_; rintro e w9 ⟨A10, c10, rfl, he9, hb9⟩
    have B69 := Lib.hid (B68.out.trans (hb9.mono B68.out.size))
    have Ho9 := Lib.hid (own_below Ho8.out hb9)
    have HE := Lib.hid (eqEntryS_same _ _ _ _ xs w9 (E6.out.below B69.out) he9 B69.out.size (Nat.le_refl _) s1 Hw1.out)
    clear he9 hb9 B68 Ho8 hb08
    go_wp2_with fail
    refine HE.out.mono ?_; rintro e w10 ⟨rfl, hb10⟩
    have B610 := Lib.hid (B69.out.trans (hb10.mono B69.out.size))
    have Ho10 := Lib.hid (own_below Ho9.out hb10)
    clear HE hb10 B69 Ho9 E6
    go_wp2_with fail
    refine (HM.out w10 B610.out).mono ?_; rintro e w11 ⟨⟨r1, rfl, hr10⟩, hm11⟩
    have B511 := Lib.hid ((B6.out.trans (B610.out.mono hz6)).trans hm11.1)
    have Ho11 := Lib.hid (own_MKW Ho10.out hm11 (Nat.le_refl _))
    clear hm11 HM Ho10 B610 B6
    have HE := Lib.hid (eqStringS_same _ _ _ _ L w11 (by rw [Hn.out]; exact Rd.of_own Ho11.out) (by rw [Hn.out]; exact R5.out.below B511.out) (by rw [Hn.out]; omega))
    have hr11 : ¬ (r1 < 0) := by omega
    go_wp2_with fail
    refine HE.out.mono ?_; rintro e w12 ⟨rfl, n12, rfl⟩
    have B512 := Lib.hid (below_drewN B511.out n12)
    have Ho12 := Lib.hid (Ho11.out.drewN n12)
    clear HE B511 Ho11
    go_wp2_with fail
    refine (markStringS_any _ _ 1 n _ _ Ho12.out (by omega) (by omega)).mono ?_; rintro e w13 ⟨rfl, hg13, ho13⟩
    have B513 := Lib.hid (B512.out.grown hg13 B512.out.size (fun k hk => Nat.le_trans hz6 ((Ho12.out.lt k hk).1)))
    have Ho13 := Lib.hid ho13
    have hb013 := hb05.trans (B513.out.mono hb05.size)
    clear ho13 hg13 B512 Ho12
    go_wp2_with fail
    refine (heldStringT_any _ _ 1 n w13 (Rd.of_own Ho13.out) (Nat.le_refl _) (by omega) (by omega)).mono ?_; rintro e w14 ⟨rfl, hb14⟩
    have B514 := Lib.hid (B513.out.trans (hb14.mono B513.out.size))
    have Ho14 := Lib.hid (own_below Ho13.out hb14)
    have hb014 := hb05.trans (B514.out.mono hb05.size)
    clear hb14 Ho13 B513 hb013
    go_wp2_with fail
    refine (HT1.out _ (H1.out.below hb014) hb014.size s1 Hw1.out).mono ?_; rintro e w15 ⟨A15, c15, rfl, he15, hb15⟩
    have B515 := Lib.hid (B514.out.trans (hb15.mono B514.out.size))
    have Ho15 := Lib.hid (own_below Ho14.out hb15)
    have He15 := Lib.hid he15
    have hb015 := Lib.hid (hb014.trans (hb15.mono hb014.size))
    clear he15 hb15 hb014 Ho14 B514
    go_wp2_with fail
    refine (HC2.out w15 _ _ He15.out (Nat.le_refl _) (Ht.out.below hb015.out)).mono ?_; rintro e w16 ⟨v16, rfl, ho16, hb16⟩
    have B516 := Lib.hid (B515.out.trans (hb16.mono B515.out.size))
    have Ho16 := Lib.hid (own_below Ho15.out hb16)
    have HE := Lib.hid (eqStringS_same _ _ _ _ L w16 (by rw [Hn.out]; exact Rd.of_own ho16) (by rw [Hn.out]; exact R5.out.below B516.out) (by rw [Hn.out]; omega))
    obtain ⟨_, A16, c16, rfl, _⟩ := Rd.of_own ho16
    clear ho16 hb16 Ho15 B515 He15
    go_wp2_with fail
    refine HE.out.mono ?_; rintro e w17 ⟨rfl, n17, rfl⟩
    have hb017 := hb05.trans ((below_drewN B516.out n17).mono hb05.size)
    have Ho17 := Lib.hid (Ho16.out.drewN n17)
    clear HE B516 Ho16
    go_wp2_with fail
    refine (heldStringT_any _ _ 1 n _ (Rd.of_own Ho17.out) (Nat.le_refl _) (by omega) (by omega)).mono ?_; rintro e w18 ⟨rfl, hb18⟩
    have hb018 := hb017.trans (hb18.mono hb017.size)
    clear hb18
    go_wp2_with fail
    go_ret
    exact ⟨rfl, hb018⟩
end Go.Proofs.YtbfhlkpicehnlaaDoor
