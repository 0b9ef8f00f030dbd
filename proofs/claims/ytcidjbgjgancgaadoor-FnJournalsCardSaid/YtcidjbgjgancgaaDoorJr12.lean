/- Journals, part 12: JournalOf and its law. -/
import Derived.Test.YtcidjbgjgancgaaDoorJr11
namespace Go.Proofs.YtcidjbgjgancgaaDoor
open Go.RowKit Go.Joins

set_option maxHeartbeats 400000 in
theorem szStringS_any (B : Nat) (v : Value) (zs : List ByteArray) (w : World) (h : Rd w B v zs.length 1 (strs zs)) (hl : zs.length ≤ maxLen ∧ ∀ z ∈ zs, z.size ≤ maxLen) :
    Calls Tryd.prog 14 #[v, .int .i64 1048576] w fun e w' => (∃ r : Int, e = .returned (.int .i64 r) ∧ (0 ≤ r → zs.length ≤ 1048576 ∧ ∀ z ∈ zs, z.size ≤ 1048576)) ∧ w = w' := by
  have h' := h
  obtain ⟨_, A, c, rfl, _⟩ := h'
  obtain ⟨hl1, hl2⟩ := hl
  have H := Lib.hid h; clear h
  have Hl2 := Lib.hid hl2; clear hl2
  simp only [maxLen] at hl1
  by_cases hbig : 1048576 < zs.length
  · have hb : (1048576 : Int) - (zs.length : Int) < 0 := by omega
    go_enter Tryd.func14, Tryd.ntmps14
    go_wp2_with fail
    go_ret
    exact ⟨⟨_, rfl, by omega⟩, rfl⟩
  · have hb : ¬ (1048576 : Int) - (zs.length : Int) < 0 := by omega
    have hb0 : (0 : Int) ≤ 1048576 - (zs.length : Int) := by omega
    go_enter Tryd.func14, Tryd.ntmps14
    go_wp2_with fail
    go_loop [1, 5] (fun l i => ∃ (k : Nat) (r : Int), k ≤ zs.length ∧ 0 ≤ r ∧ r ≤ 1048576 ∧ (∀ z ∈ zs.take k, z.size ≤ 1048576) ∧ l = .int .i64 r ∧ i = .int .i64 k) (fun _ i => zs.length - (intOf i).toNat)
    case atStart => exact ⟨0, _, Nat.zero_le _, hb0, by omega, by simp, rfl, rfl⟩
    case round =>
      obtain ⟨k, r, hk, hr0, hr1, hall, rfl, rfl⟩ := hrel
      have Hall := Lib.hid hall; clear hall
      by_cases hlt : k < zs.length
      · obtain ⟨_, b1, o1, hA, hx⟩ := rd_at H.out k hlt
        subst hA
        have hz := Hl2.out zs[k] (List.getElem_mem _)
        simp only [maxLen] at hz
        have Hst := Lib.hid (show zs[k].size ≤ 1048576 → ∀ z ∈ zs.take (k + 1), z.size ≤ 1048576 from fun h z hz => by
          rw [List.take_succ_eq_append_getElem hlt] at hz
          rcases List.mem_append.1 hz with h1 | h1
          · exact Hall.out z h1
          · rw [List.mem_singleton.1 h1]; exact h)
        generalize zs[k] = z at *
        have hlt' : (k : Int) < (zs.length : Int) := by omega
        by_cases hsm : r - (z.size : Int) < 0
        · go_wp2_with fail
          go_ret
          exact ⟨⟨_, rfl, by omega⟩, rfl⟩
        · go_wp2_with fail
          go_round
          case rel => exact ⟨k + 1, r - (z.size : Int), by omega, by omega, by omega, Hst.out (by omega), rfl, by go_num⟩
          case measure => simp [intOf]; omega
      · have hfin := Hall.out
        rw [List.take_of_length_le (by omega)] at hfin
        have Hfin := Lib.hid hfin; clear hfin
        have hlt' : (zs.length : Int) ≤ (k : Int) := by omega
        go_wp2_with fail
        go_ret
        exact ⟨⟨_, rfl, fun _ => ⟨by omega, Hfin.out⟩⟩, rfl⟩

/-- a new list of the same strings -/
def RetS (w : World) (zs : List ByteArray) (e : Ending) (w' : World) : Prop := ∃ v, e = .returned v ∧ w'.ownsRow w.heap.size 9 1 v zs.length (strs zs) ∧ Below w.heap.size w w'

set_option maxHeartbeats 800000 in
theorem toStringS_any (B : Nat) (v : Value) (zs : List ByteArray) (w : World) (h : Rd w B v zs.length 1 (strs zs)) (hB : B ≤ w.heap.size) (hl : zs.length ≤ 1048576) :
    Calls Tryd.prog 16 #[v] w (RetS w zs) := by
  have h' := h
  obtain ⟨_, A, c, rfl, _⟩ := h'
  have H := Lib.hid h; clear h
  obtain ⟨i, hi, hz, h2, h3⟩ := info_parts infoSL
  obtain ⟨w1, hr, hown, hg⟩ := run_makeSlice_full (P := Tryd.prog) (w := w) w.heap.size 27 9 i _ 1 Tryd.underlying27 hi hz h2 .i64 .i64 zs.length (by omega) (by rw [h3]; omega) (by simp [maxLen]; omega) (Nat.le_refl _)
  have hb1 := below_of_grown hg (Nat.le_refl _) (fun x hx => by cases hx)
  generalize hxs : (madeCells (Value.cells (.string ⟨#[]⟩)) (zs.length * 1)).toList = xs at *
  have hxl : xs.length = zs.length := by simpa using hown.1
  have Hown := Lib.hid hown
  have Hb1 := Lib.hid hb1
  clear hi hz h2 h3 hxs hown hb1 hg
  go_enter Tryd.func16, Tryd.ntmps16
  go_wp2_with fail
  clear hr
  go_loopw [4] (fun i wr => ∃ k : Nat, k ≤ zs.length ∧ i = .int .i64 k ∧ wr.ownsRow w.heap.size 9 1 (.slice (some ⟨w.heap.size, 0, none⟩) zs.length zs.length) zs.length (strs (zs.take k) ++ xs.drop k) ∧ Below w.heap.size w wr) (fun i _ => zs.length - (intOf i).toNat)
  case atStart => exact ⟨0, Nat.zero_le _, rfl, by simpa [strs] using Hown.out, Hb1.out⟩
  case round =>
    obtain ⟨k, hk, rfl, hown, hbl⟩ := hrel
    by_cases hlt : k < zs.length
    · obtain ⟨_, b1, o1, hA, hx⟩ := rd_at (H.out.below (hbl.mono hB)) k hlt
      subst hA
      have hlt' : (k : Int) < (zs.length : Int) := by omega
      have hset : (strs (zs.take k) ++ xs.drop k).set k (.string zs[k]) = strs (zs.take (k + 1)) ++ xs.drop (k + 1) := by
        have hlen : (strs (zs.take k)).length = k := by simp [strs]; omega
        rw [List.set_append_right _ _ (by omega), hlen, Nat.sub_self, List.drop_eq_getElem_cons (by rw [hxl]; exact hlt), List.set_cons_zero, ← take_strs zs k hlt]
        simp
      have Hset := Lib.hid hset; clear hset
      generalize zs[k] = z at *
      obtain ⟨u, hu⟩ : ∃ u, (strs (zs.take k) ++ xs.drop k)[k]? = some u := ⟨_, List.getElem?_eq_getElem (by have := hown.1; omega)⟩
      have hc : wr.cell? ⟨w.heap.size, k, none⟩ = some u := (hown.cellAt k (by omega)).trans hu
      have hf : wr.frozen? ⟨w.heap.size, k, none⟩ = false := hown.frozenAt k
      obtain ⟨ho2, hg2⟩ := hown.stored k (.string z)
      rw [Hset.out] at ho2
      have hb2 : Below w.heap.size w (wr.setCell ⟨w.heap.size, k, none⟩ (.string z)) := hbl.setCell (p := ⟨w.heap.size, k, none⟩) (Nat.le_refl _) _
      clear hu hown hg2
      go_wp2_with fail
      go_roundw
      case rel => exact ⟨k + 1, by omega, by go_num, ho2, hb2⟩
      case measure => simp [intOf]; omega
    · rw [List.take_of_length_le (by omega), List.drop_of_length_le (by omega), List.append_nil] at hown
      have hlt' : (zs.length : Int) ≤ (k : Int) := by omega
      have Hown := Lib.hid hown; clear hown
      go_wp2_with fail
      go_ret
      exact ⟨_, rfl, Hown.out, hbl⟩

def okAll (zs : List ByteArray) : Bool := zs.all fun z => noteOk z.data.toList
theorem okAll_bad (zs : List ByteArray) (k : Nat) (hk : k < zs.length) (h : noteOk zs[k].data.toList = false) : okAll zs = false := by
  unfold okAll
  rw [List.all_eq_false]
  exact ⟨_, List.getElem_mem hk, by simp [h]⟩
theorem okAll_step (zs : List ByteArray) (k : Nat) (hk : k < zs.length) (h0 : okAll (zs.take k) = true) (h : noteOk zs[k].data.toList = true) : okAll (zs.take (k + 1)) = true := by
  unfold okAll at *
  rw [List.take_succ_eq_append_getElem hk, List.all_append, h0]
  simp [h]
theorem okAll_small (zs : List ByteArray) (h : okAll zs = true) : ∀ z ∈ zs, z.size ≤ 60 := fun z hz => note_small z (List.all_eq_true.1 h z hz)
theorem makR_bad (zs : List ByteArray) (h : okAll zs = false) : makR zs = (⟨#[]⟩, 7) := if_neg (by unfold okAll at h; simp [h])
theorem makR_ok (zs : List ByteArray) (h : okAll zs = true) : makR zs = mkJ zs := if_pos h

set_option maxHeartbeats 800000 in
theorem JofS (B : Nat) (v : Value) (zs : List ByteArray) (w : World) (h : Rd w B v zs.length 1 (strs zs)) (hB : B ≤ w.heap.size) (hl : zs.length ≤ 1048576) (hl2 : ∀ z ∈ zs, z.size ≤ 1048576) :
    Calls Tryd.prog 15 #[v] w fun e w' => e = .returned (.tuple #[.string (makR zs).1, .int .i64 (makR zs).2]) ∧ Below w.heap.size w w' := by
  have h' := h
  obtain ⟨_, A, c, rfl, _⟩ := h'
  have hb0 := Below.refl w.heap.size w
  have H := Lib.hid h; clear h
  have Hl2 := Lib.hid hl2; clear hl2
  go_enter Tryd.func15, Tryd.ntmps15
  go_wp2_with fail
  go_loop [4] (fun i => ∃ k : Nat, k ≤ zs.length ∧ okAll (zs.take k) = true ∧ i = .int .i64 k) (fun i => zs.length - (intOf i).toNat)
  case atStart => exact ⟨0, Nat.zero_le _, rfl, rfl⟩
  case round =>
    obtain ⟨k, hk, hall, rfl⟩ := hrel
    have Hall := Lib.hid hall; clear hall
    by_cases hlt : k < zs.length
    · obtain ⟨_, b1, o1, hA, hx⟩ := rd_at H.out k hlt
      subst hA
      have hz := Hl2.out zs[k] (List.getElem_mem _)
      have HI := Lib.hid (fun v => l26Note_any zs[k] v (by omega))
      have Hbad := Lib.hid (fun h => makR_bad zs (okAll_bad zs k hlt h))
      have Hst := Lib.hid (fun h => okAll_step zs k hlt Hall.out h)
      generalize zs[k] = z at *
      have hlt' : (k : Int) < (zs.length : Int) := by omega
      cases hok : noteOk z.data.toList with
      | false =>
        have hfin := Lib.hid (Hbad.out hok)
        rw [hok] at HI
        clear Hbad Hst hok
        go_wp2_with fail
        refine (HI.out _).mono ?_; rintro e w1 ⟨rfl, rfl⟩
        go_wp2_with fail
        go_ret2
        rw [hfin.out]; exact ⟨rfl, hb0⟩
      | true =>
        have hst := Lib.hid (Hst.out hok)
        rw [hok] at HI
        clear Hbad Hst hok
        go_wp2_with fail
        refine (HI.out _).mono ?_; rintro e w1 ⟨rfl, rfl⟩
        go_wp2_with fail
        go_round
        case rel => exact ⟨k + 1, by omega, hst.out, by go_num⟩
        case measure => simp [intOf]; omega
    · have hall := Hall.out
      rw [List.take_of_length_le (by omega)] at hall
      have hfin := Lib.hid (makR_ok zs hall)
      have HM := Lib.hid (l26Make_any B (.slice A zs.length c) zs w H.out hB (okAll_small zs hall) hl)
      clear hall
      have hlt' : (zs.length : Int) ≤ (k : Int) := by omega
      go_wp2_with fail
      refine HM.out.mono ?_; rintro e w1 ⟨rfl, hb⟩
      go_wp2_with fail
      go_ret2
      rw [hfin.out]; exact ⟨rfl, hb⟩

set_option maxHeartbeats 800000 in
theorem JofI (B : Nat) (v : Value) (zs : List ByteArray) (w : World) (h : Rd w B v zs.length 1 (strs zs)) (hB : B ≤ w.heap.size) (hl : zs.length ≤ 1048576) (hl2 : ∀ z ∈ zs, z.size ≤ 1048576) (ht : Tab w) :
    Calls Tryd.prog 17 #[v] w fun e w' => e = .returned (.tuple #[.string (makR zs).1, .int .i64 (makR zs).2]) ∧ Below w.heap.size w w' := by
  have h' := h
  obtain ⟨_, A, c, rfl, _⟩ := h'
  have hb0 := Below.refl w.heap.size w
  have H := Lib.hid h; clear h
  have Ht := Lib.hid ht; clear ht
  have Hl2 := Lib.hid hl2; clear hl2
  go_enter Tryd.func17, Tryd.ntmps17
  go_wp2_with fail
  go_loop [9] (fun i => ∃ k : Nat, k ≤ zs.length ∧ okAll (zs.take k) = true ∧ i = .int .i64 k) (fun i => zs.length - (intOf i).toNat)
  case atStart => exact ⟨0, Nat.zero_le _, rfl, rfl⟩
  case round =>
    obtain ⟨k, hk, hall, rfl⟩ := hrel
    have Hall := Lib.hid hall; clear hall
    by_cases hlt : k < zs.length
    · obtain ⟨_, b1, o1, hA, hx⟩ := rd_at H.out k hlt
      subst hA
      have hz := Hl2.out zs[k] (List.getElem_mem _)
      have HI := Lib.hid (fun v => isNote_any zs[k] v (by omega))
      have Hbad := Lib.hid (fun h => makR_bad zs (okAll_bad zs k hlt h))
      have Hst := Lib.hid (fun h => okAll_step zs k hlt Hall.out h)
      generalize zs[k] = z at *
      have hlt' : (k : Int) < (zs.length : Int) := by omega
      cases hok : noteOk z.data.toList with
      | false =>
        have hfin := Lib.hid (Hbad.out hok)
        rw [hok] at HI
        clear Hbad Hst hok
        go_wp2_with fail
        refine (HI.out _).mono ?_; rintro e w1 ⟨rfl, rfl⟩
        go_wp2_with fail
        go_ret2
        rw [hfin.out]; exact ⟨rfl, hb0⟩
      | true =>
        have hst := Lib.hid (Hst.out hok)
        rw [hok] at HI
        clear Hbad Hst hok
        go_wp2_with fail
        refine (HI.out _).mono ?_; rintro e w1 ⟨rfl, rfl⟩
        go_wp2_with fail
        go_round
        case rel => exact ⟨k + 1, by omega, hst.out, by go_num⟩
        case measure => simp [intOf]; omega
    · have hall := Hall.out
      rw [List.take_of_length_le (by omega)] at hall
      have hm := makR_ok zs hall
      have hlt' : (zs.length : Int) ≤ (k : Int) := by omega
      by_cases hbig : 4000 < zs.length
      · have hfin := Lib.hid (show makR zs = (⟨#[]⟩, 5) by
          rw [hm]; unfold mkJ; rw [if_pos]
          have := outJ_len zs 0 0
          omega)
        clear hm hall
        go_wp2_with fail
        go_ret2
        rw [hfin.out]; exact ⟨rfl, hb0⟩
      · have HM := Lib.hid (journalOf_any B (.slice A zs.length c) zs w H.out hB (okAll_small zs hall) (by omega) Ht.out)
        by_cases hsz : 4000 < (outJ 0 0 zs).size
        · have hfin := Lib.hid (show makR zs = (⟨#[]⟩, 5) by rw [hm]; unfold mkJ; rw [if_pos hsz])
          generalize outJ 0 0 zs = out at *
          clear hm hall
          go_wp2_with fail
          refine HM.out.mono ?_; rintro e w1 ⟨rfl, hb⟩
          go_wp2_with fail
          go_ret2
          rw [hfin.out]; exact ⟨rfl, hb⟩
        · have hfin := Lib.hid (show makR zs = (outJ 0 0 zs, 0) by rw [hm]; unfold mkJ; rw [if_neg hsz])
          generalize outJ 0 0 zs = out at *
          clear hm hall
          go_wp2_with fail
          refine HM.out.mono ?_; rintro e w1 ⟨rfl, hb⟩
          go_wp2_with fail
          go_ret2
          rw [hfin.out]; exact ⟨rfl, hb⟩

set_option maxHeartbeats 800000 in
theorem walkFnExactJournalOf {W : World} (v : Value) (zs : List ByteArray) (h : Rd W W.heap.size v zs.length 1 (strs zs)) (hl : zs.length ≤ maxLen ∧ ∀ z ∈ zs, z.size ≤ maxLen) (ht : Tab W) :
    Calls Tryd.prog 5 #[v] W fun e w' => e = .returned (.bool true) ∧ Below W.heap.size W w' := by
  have hb0 := Below.refl W.heap.size W
  have H := Lib.hid h; clear h
  have Ht := Lib.hid ht; clear ht
  have Hsz := Lib.hid (szStringS_any W.heap.size v zs W H.out hl)
  clear hl
  go_enter Tryd.func5, Tryd.ntmps5
  go_wp2_with fail
  refine Hsz.out.mono ?_; rintro e w1 ⟨⟨r, rfl, hr⟩, rfl⟩
  by_cases hr0 : r < 0
  · clear hr
    go_wp2_with fail
    go_ret
    exact ⟨rfl, hb0⟩
  · obtain ⟨hl1, hl2⟩ := hr (by omega)
    clear hr
    have HS := Lib.hid (fun B v w h hB => JofS B v zs w h hB hl1 hl2)
    have HI := Lib.hid (fun B v w h hB ht => JofI B v zs w h hB hl1 hl2 ht)
    have HT := Lib.hid (fun B v w h hB => toStringS_any B v zs w h hB hl1)
    clear hl2
    unfold RetS at HT
    generalize (makR zs).1 = x at *
    generalize (makR zs).2 = y at *
    go_wp2_with fail
    refine (HT.out _ _ _ H.out (Nat.le_refl _)).mono ?_; rintro e w1 ⟨v1, rfl, ho1, hb1⟩
    go_wp2_with fail
    refine (HS.out _ v1 _ (Rd.of_own ho1) (Nat.le_refl _)).mono ?_; rintro e w2 ⟨rfl, hb2⟩
    have hb02 := hb1.trans (hb2.mono hb1.size)
    clear ho1
    go_wp2_with fail
    refine (HT.out _ _ _ (H.out.below hb02) hb02.size).mono ?_; rintro e w3 ⟨v3, rfl, ho3, hb3⟩
    have hb03 := hb02.trans (hb3.mono hb02.size)
    go_wp2_with fail
    refine (HI.out _ v3 _ (Rd.of_own ho3) (Nat.le_refl _) (Ht.out.below hb03)).mono ?_; rintro e w4 ⟨rfl, hb4⟩
    have ho34 := own_below ho3 hb4
    have hb04 := hb03.trans (hb4.mono hb03.size)
    go_wp2_with fail
    refine (HT.out _ _ _ (H.out.below hb04) hb04.size).mono ?_; rintro e w5 ⟨v5, rfl, ho5, hb5⟩
    have ho35 := own_below ho34 hb5
    have hb05 := hb04.trans (hb5.mono hb04.size)
    go_wp2_with fail
    refine (eqStringS_same _ _ v3 v5 zs zs.length _ rfl (Rd.of_own ho35) (Rd.of_own ho5) (by omega)).mono ?_
    rintro e w6 ⟨rfl, n6, rfl⟩
    have hb06 := below_drewN hb05 n6
    go_wp2_with fail
    go_ret
    exact ⟨rfl, hb06⟩
end Go.Proofs.YtcidjbgjgancgaaDoor
