/- Programs' lines, part 2: the reference's line; ProgramLines on both sides. -/
import Derived.Test.YtplpeeienpaaeaaDoorPl1
namespace Go.Proofs.YtplpeeienpaaeaaDoor
open Go.RowKit Go.Joins

theorem l01Dec_int (a : Int) (w : World) (h0 : 0 ≤ a) (h1 : a ≤ 9223372036854775807) : Calls Tryd.prog 48 #[.int .i64 a] w fun e w' => e = .returned (.string (decS a)) ∧ Below w.heap.size w w' := by
  obtain ⟨b, rfl⟩ : ∃ b : Nat, a = b := ⟨a.toNat, by omega⟩
  exact l01Dec_nonneg b w (by omega)
theorem two_kept {W w1 : World} {a b : Addr} {x y : Value} (hb : Below W.heap.size W w1) (h : W.cell? a = some x ∧ W.cell? b = some y) : w1.cell? a = some x ∧ w1.cell? b = some y :=
  have k {p : Addr} {v : Value} (h : W.cell? p = some v) : w1.cell? p = some v := (hb.cell (World.block_lt_of_cell? W _ h)).trans h
  ⟨k h.1, k h.2⟩

set_option maxRecDepth 100000 in
set_option maxHeartbeats 1600000 in
theorem l11Text_any (b o n : Nat) (a : Int) (w : World) (h : okIns n a = true) (c0 : w.cell? ⟨b, o, none⟩ = some (.int .i64 n)) (c1 : w.cell? ⟨b, o + 1, none⟩ = some (.int .i64 a)) :
    Calls Tryd.prog 39 #[.pointer (some ⟨b, o, none⟩)] w fun e w' => e = .returned (.string (lineP n a)) ∧ Below w.heap.size w w' := by
  obtain ⟨h1, h10, ha0, ha1⟩ := okIns_bd h
  have hcs := okIns_op h
  have hws := wordP_size n (by omega)
  have s1 := decS_size a (by omega) (by omega)
  obtain ⟨m, hm⟩ : ∃ m : Nat, n = m + 1 := ⟨n - 1, by omega⟩
  have hsub : IntKind.i64.wrap ((n : Int) - 1) = (m : Int) := (IntWalk.i64_in _ (by omega)).trans (by omega)
  have HO := Lib.hid (fun wx => l11Words_any wx m (by omega))
  rw [← hm] at HO
  have HD := Lib.hid (fun wx => l01Dec_int a wx (by omega) (by omega))
  have Ha := Lib.hid (fun q => (lineP_a (n := n) (a := a) q).trans (ByteArray.append_assoc))
  have Hb := Lib.hid (fun q => lineP_b (n := n) (a := a) q)
  have e1 : (⟨#[32]⟩ ++ decS a : ByteArray).size = 1 + (decS a).size := ByteArray.size_append
  have hi1 : (0 : Int) ≤ (m : Int) := by omega
  have hi2 : (m : Int) < 10 := by omega
  generalize lineP n a = R at *
  generalize wordP n = W at *
  generalize decS a = D at *
  have hacc : Below w.heap.size w w.drew := (Below.refl _ _).drew
  have hlb := World.block_lt_of_cell? w _ c0
  clear h hm
  go_enter Tryd.func39, Tryd.ntmps39
  go_wp2_with fail
  refine wp_region_noPanic ?_
  refine wp_region_L [8,7] (fun w' => w'.cell? ⟨b, o, none⟩ = some (.int .i64 n) ∧ w'.cell? ⟨b, o + 1, none⟩ = some (.int .i64 a)) (by kernel_rfl) (⟨c0, c1⟩) (fun hHeld => ?_)
  refine take_F (i := 1) (d := some 5) (v := ?_) (by kernel_rfl) (by kernel_rfl) rfl rfl (by kernel_rfl) (by kernel_rfl) (by kernel_rfl) (fun _ _ _ h => h) (Or.inl ⟨by rfl, ?_⟩) (by assumption) ?_
  rotate_left
  · (intro w hSw; (try dsimp only at hSw); go_simp; (try rw [if_neg (by omega)]); (try (with_reducible rfl)))
  simp only [Act.put, List.setIfInBounds_toArray, List.set_cons_zero, List.set_cons_succ]
  refine take_F (i := 2) (d := some 6) (v := ?_) (by kernel_rfl) (by kernel_rfl) rfl rfl (by kernel_rfl) (by kernel_rfl) (by kernel_rfl) (fun _ _ _ h => h) (Or.inl ⟨by rfl, ?_⟩) (by assumption) ?_
  rotate_left
  · (intro w hSw; (try dsimp only at hSw); go_simp; (try rw [if_neg (by omega)]); (try (with_reducible rfl)))
  simp only [Act.put, List.setIfInBounds_toArray, List.set_cons_zero, List.set_cons_succ]
  refine take_F (i := 3) (d := some 7) (v := ?_) (by kernel_rfl) (by kernel_rfl) rfl rfl (by kernel_rfl) (by kernel_rfl) (by kernel_rfl) (fun _ _ _ h => h) (Or.inl ⟨by rfl, ?_⟩) (by assumption) ?_
  rotate_left
  · (intro w hSw; (try dsimp only at hSw); go_simp; (try rw [if_neg (by omega)]); (try (with_reducible rfl)))
  simp only [Act.put, List.setIfInBounds_toArray, List.set_cons_zero, List.set_cons_succ]
  refine take_L [6,5,4] (i := 4) (d := some 8) (v := ?_) (by kernel_rfl) (by kernel_rfl) (by kernel_rfl) (by kernel_rfl) rfl rfl (by kernel_rfl) (by kernel_rfl) (by kernel_rfl) (fun _ _ _ h => h) (Or.inl ⟨by rfl, ?_⟩) (by assumption) ?_
  rotate_left
  · (intro w hSw; (try dsimp only at hSw); go_simp; (try rw [if_neg (by omega)]); (try (with_reducible rfl)))
  simp only [Act.put, List.setIfInBounds_toArray, List.set_cons_zero, List.set_cons_succ]
  refine take_F (i := 5) (d := some 9) (v := ?_) (by kernel_rfl) (by kernel_rfl) rfl rfl (by kernel_rfl) (by kernel_rfl) (by kernel_rfl) (fun _ _ _ h => h) (Or.inl ⟨by rfl, ?_⟩) (by assumption) ?_
  rotate_left
  · (intro w hSw; (try dsimp only at hSw); go_simp; (try rw [if_neg (by omega)]); (try (with_reducible rfl)))
  simp only [Act.put, List.setIfInBounds_toArray, List.set_cons_zero, List.set_cons_succ]
  refine call_L (i := 0) (d := (some 4)) rfl rfl (by kernel_rfl) (fun Kq hKq => ?_)
  go_simp
  go_at_call 60
  refine (HO.out _).mono ?_; rintro e w5 ⟨rfl, hc5, hb5⟩
  have hc6 : w5.cell? ⟨w.heap.size, m, none⟩ = some (.string W) := hc5
  obtain ⟨g0, g1⟩ := two_kept hb5 ⟨c0, c1⟩
  have hacc5 := hacc.trans (hb5.mono hacc.size)
  clear hacc hb5
  (try go_wp2_with fail)
  refine hKq.out _ _ (⟨g0, g1⟩) (fun hHeld => ?_)
  clear hKq Kq
  (try simp only [Act.put, List.setIfInBounds_toArray, List.set_cons_zero, List.set_cons_succ])
  refine take_F (i := 6) (d := some 10) (v := ?_) (by kernel_rfl) (by kernel_rfl) rfl rfl (by kernel_rfl) (by kernel_rfl) (by kernel_rfl) (fun _ _ _ h => h) (Or.inl ⟨by rfl, ?_⟩) (by assumption) ?_
  rotate_left
  · (intro w hSw; (try dsimp only at hSw); go_simp; (try rw [if_neg (by omega)]); (try (with_reducible rfl)))
  simp only [Act.put, List.setIfInBounds_toArray, List.set_cons_zero, List.set_cons_succ]
  refine late_L (i := 7) (d := (some 11)) (by kernel_rfl) rfl rfl (by kernel_rfl) (fun Kq hKq => ?_)
  go_simp
  refine hKq.out _ _ ?_
  clear hKq Kq
  refine late_L (i := 8) (d := (some 3)) (by kernel_rfl) rfl rfl (by kernel_rfl) (fun Kq hKq => ?_)
  go_simp
  refine hKq.out _ _ ?_
  clear hKq Kq
  refine done_L (by kernel_rfl) ?_ _
  refine NoPanic.normal ?_
  clear hc5 hc6 c0 c1
  have fin : ∀ (w6 : World), Below w5.heap.size w5 w6 → Below w.heap.size w w6 := fun w6 hb6 => hacc5.trans (hb6.mono hacc5.size)
  have Hf := Lib.hid fin; clear fin
  have Hz := Lib.hid hacc5; clear hacc5
  rcases hcs with rfl | rfl | ⟨(rfl | rfl | rfl | rfl), h1a⟩ | ⟨(rfl | rfl | rfl | rfl), rfl⟩
  iterate 2
    · go_wp2_with fail
      refine (HD.out _).mono ?_; rintro e w6 ⟨rfl, hb6⟩
      have hz := Hf.out _ hb6
      clear hb6
      go_wp2_with fail
      go_ret
      rw [Ha.out (by simp)]; exact ⟨rfl, hz⟩
  iterate 4
    · by_cases ha : 1 < a
      · have hr := Ha.out (by omega)
        clear h1a
        go_wp2_with fail
        refine (HD.out _).mono ?_; rintro e w6 ⟨rfl, hb6⟩
        have hz := Hf.out _ hb6
        clear hb6
        go_wp2_with fail
        go_ret
        (try rw [hr]); exact ⟨rfl, hz⟩
      · obtain rfl : a = 1 := by omega
        have hr := Hb.out (by omega)
        go_wp2_with fail
        go_ret
        (try rw [hr]); exact ⟨rfl, Hz.out⟩
  iterate 4
    · have hr := Hb.out (by omega)
      go_wp2_with fail
      go_ret
      (try rw [hr]); exact ⟨rfl, Hz.out⟩

def lineZ (x : Int × Int) : ByteArray := lineP x.1.toNat x.2
def linesP (zs : List (Int × Int)) : List ByteArray := if okProg zs then zs.map lineZ else []
def codeP (zs : List (Int × Int)) : Int := if okProg zs then 0 else 1
theorem linesP_len (zs : List (Int × Int)) : (linesP zs).length ≤ zs.length := by unfold linesP; split <;> simp
/-- a new list of lines and a code -/
def RetP (w : World) (zs : List (Int × Int)) (e : Ending) (w' : World) : Prop := ∃ v, e = .returned (.tuple #[v, .int .i64 (codeP zs)]) ∧ w'.ownsRow w.heap.size 9 1 v (linesP zs).length (strs (linesP zs)) ∧ Below w.heap.size w w'
theorem infoW : (Tryd.prog.info? 9).map (fun i => (i.zero, i.size, i.bytes)) = some (some (.string ⟨#[]⟩), 1, 16) := by kernel_rfl
theorem strsZ_step (zs : List (Int × Int)) (k : Nat) (hk : k < zs.length) : strs ((zs.take (k + 1)).map lineZ) = strs ((zs.take k).map lineZ) ++ [.string (lineZ zs[k])] := by
  rw [List.take_succ_eq_append_getElem hk, List.map_append]
  simp [strs]

set_option maxRecDepth 100000 in
set_option maxHeartbeats 1600000 in
theorem LinesI_any (B : Nat) (v : Value) (zs : List (Int × Int)) (w : World) (h : Rd w B v zs.length 2 (progs zs)) (hB : B ≤ w.heap.size) (hl : zs.length ≤ 1048576) (ht : Tab w) :
    Calls Tryd.prog 19 #[v] w (RetP w zs) := by
  have HV := Lib.hid (ValidProgram_any B v zs w h hB hl)
  have H := Lib.hid h
  have Ht := Lib.hid ht
  obtain ⟨_, A, c, rfl, _⟩ := h
  clear ht
  cases hok : okProg zs with
  | false =>
    have e0 := Lib.hid (show linesP zs = [] ∧ codeP zs = 1 by unfold linesP codeP; rw [hok]; exact ⟨rfl, rfl⟩)
    rw [hok] at HV
    clear hok
    go_enter Tryd.func19, Tryd.ntmps19
    go_wp2_with fail
    refine HV.out.mono ?_; rintro e w1 ⟨rfl, hb1⟩
    go_wp2_with fail
    go_ret2
    unfold RetP; rw [e0.out.1, e0.out.2]; exact ⟨_, rfl, ⟨rfl, .inl ⟨rfl, rfl⟩⟩, hb1⟩
  | true =>
    have e0 := Lib.hid (show linesP zs = zs.map lineZ ∧ codeP zs = 0 by unfold linesP codeP; rw [hok]; exact ⟨rfl, rfl⟩)
    have HG := Lib.hid (okProg_all hok).1
    have h120 := (okProg_all hok).2
    rw [hok] at HV
    clear hok
    go_enter Tryd.func19, Tryd.ntmps19
    go_wp2_with fail
    refine HV.out.mono ?_; rintro e w1 ⟨rfl, hb1⟩
    have hb2 := Lib.hid (hb1.alloc hb1.size (.cells #[] 9))
    have ho2 := Lib.hid (World.ownsRow_made (base := w.heap.size) (e := 9) (size := 1) w1 #[] 0 hb1.size (by simp [maxLen]) rfl)
    go_wp2_with fail
    go_loopw [4, 13] (fun o i wr => ∃ (k : Nat), k ≤ zs.length ∧ i = .int .i64 k ∧ wr.ownsRow w.heap.size 9 1 o k (strs ((zs.take k).map lineZ)) ∧ Below w.heap.size w wr) (fun _ i _ => zs.length - (intOf i).toNat)
    case atStart => exact ⟨0, Nat.zero_le _, rfl, ho2.out, hb2.out⟩
    case round =>
      obtain ⟨k, hk, rfl, hown, hbl⟩ := hrel
      by_cases hlt : k < zs.length
      · obtain ⟨b1, o1, hA, hbB, e1, e2⟩ := progs_rd (H.out.below (hbl.mono hB)) k hlt
        subst hA
        have hlt' : (k : Int) < (zs.length : Int) := by omega
        have hg := HG.out zs[k] (List.getElem_mem hlt)
        have Hst := Lib.hid (strsZ_step zs k hlt)
        have hz1 : b1 < wr.heap.size := Nat.lt_of_lt_of_le hbB (Nat.le_trans hB hbl.size)
        generalize zs[k] = x at *
        obtain ⟨op, a⟩ := x
        dsimp only at hg e1 e2
        obtain ⟨n, rfl⟩ : ∃ n : Nat, op = n := ⟨op.toNat, by have := (okIns_bd hg).1; omega⟩
        have HLn := Lib.hid (fun wx hx => line_any n a wx hg hx)
        have hLz : lineZ ((n : Int), a) = lineP n a := rfl
        rw [hLz] at Hst
        generalize lineP n a = L at *
        have Hba := Lib.hid ((Below.refl wr.heap.size wr).alloc (Nat.le_refl _) (.cells #[.int .i64 n, .int .i64 a] 67))
        have Hnw := Lib.hid (heap_alloc_new wr (.cells #[.int .i64 n, .int .i64 a] 67))
        have Hbl := Lib.hid (hbl.trans (Hba.out.mono hbl.size))
        have Hown := Lib.hid (own_below hown Hba.out)
        clear hown hbl hg hLz
        go_wp2_with fail
        obtain ⟨f0, f1⟩ := blkp Hnw.out
        generalize wr.alloc (.cells #[.int .i64 n, .int .i64 a] 67) = wn at *
        clear e1 e2
        go_wp2_with fail
        refine (HLn.out _ (Ht.out.below Hbl.out)).mono ?_; rintro e w6 ⟨rfl, hb6⟩
        have Hb6 := Lib.hid (Hbl.out.trans (hb6.mono Hbl.out.size))
        have Ho6 := Lib.hid (own_below Hown.out hb6)
        have hz6 := Hb6.out.size
        clear hb6 f0 f1
        go_wp2_with (at_builtin; refine wpList_apd 38 9 _ 1 16 Tryd.underlying38 infoW rfl (by omega) _ _ rfl rfl w.heap.size _ k _ rfl Ho6.out #[.string L] 1 1 rfl rfl (by simp [Value.oneCell']) (by simp [maxLen]; omega) (by omega) hz6 ?_; intro v7 w7 hown7 hg7; have Hb7 := Lib.hid (below_apd Hb6.out Ho6.out hg7 (Nat.le_refl _) hz6); have Ho7 := Lib.hid hown7; clear hown7 hg7)
        go_roundw
        case rel => exact ⟨k + 1, by omega, by go_num, by rw [Hst.out]; exact Ho7.out, Hb7.out⟩
        case measure => simp [intOf]; omega
      · have hd : zs.take k = zs := List.take_of_length_le (by omega)
        rw [hd] at hown
        clear hd
        have hkk : k = zs.length := by omega
        have Hown := Lib.hid hown; clear hown
        have hlt' : (zs.length : Int) ≤ (k : Int) := by omega
        go_wp2_with fail
        go_ret2
        unfold RetP; rw [e0.out.1, e0.out.2]; exact ⟨_, rfl, by rw [List.length_map, ← hkk]; exact Hown.out, hbl⟩

set_option maxRecDepth 100000 in
set_option maxHeartbeats 1600000 in
theorem LinesS_any (B : Nat) (v : Value) (zs : List (Int × Int)) (w : World) (h : Rd w B v zs.length 2 (progs zs)) (hB : B ≤ w.heap.size) (hl : zs.length ≤ 1048576) :
    Calls Tryd.prog 17 #[v] w (RetP w zs) := by
  have HV := Lib.hid (l11Ok_any B v zs w h hl)
  have H := Lib.hid h
  obtain ⟨_, A, c, rfl, _⟩ := h
  have hb0 := Lib.hid (fun m => below_drewN (Below.refl w.heap.size w) m)
  cases hok : okProg zs with
  | false =>
    have e0 := Lib.hid (show linesP zs = [] ∧ codeP zs = 1 by unfold linesP codeP; rw [hok]; exact ⟨rfl, rfl⟩)
    rw [hok] at HV
    clear hok
    go_enter Tryd.func17, Tryd.ntmps17
    go_wp2_with fail
    refine HV.out.mono ?_; rintro e w1 ⟨rfl, m, rfl⟩
    go_wp2_with fail
    go_ret2
    unfold RetP; rw [e0.out.1, e0.out.2]; exact ⟨_, rfl, ⟨rfl, .inl ⟨rfl, rfl⟩⟩, hb0.out m⟩
  | true =>
    have e0 := Lib.hid (show linesP zs = zs.map lineZ ∧ codeP zs = 0 by unfold linesP codeP; rw [hok]; exact ⟨rfl, rfl⟩)
    have HG := Lib.hid (okProg_all hok).1
    have h120 := (okProg_all hok).2
    rw [hok] at HV
    clear hok
    go_enter Tryd.func17, Tryd.ntmps17
    go_wp2_with fail
    refine HV.out.mono ?_; rintro e w0 ⟨rfl, m, hw0⟩
    have hb1 : Below w.heap.size w w0 := by rw [hw0]; exact hb0.out m
    clear hw0
    have hb2 := Lib.hid (hb1.alloc hb1.size (.cells #[] 9))
    have ho2 := Lib.hid (World.ownsRow_made (base := w.heap.size) (e := 9) (size := 1) w0 #[] 0 hb1.size (by simp [maxLen]) rfl)
    go_wp2_with fail
    go_loopw [4, 5] (fun o i wr => ∃ (k : Nat), k ≤ zs.length ∧ i = .int .i64 k ∧ wr.ownsRow w.heap.size 9 1 o k (strs ((zs.take k).map lineZ)) ∧ Below w.heap.size w wr) (fun _ i _ => zs.length - (intOf i).toNat)
    case atStart => exact ⟨0, Nat.zero_le _, rfl, ho2.out, hb2.out⟩
    case round =>
      obtain ⟨k, hk, rfl, hown, hbl⟩ := hrel
      by_cases hlt : k < zs.length
      · obtain ⟨b1, o1, hA, hbB, e1, e2⟩ := progs_rd (H.out.below (hbl.mono hB)) k hlt
        subst hA
        have hlt' : (k : Int) < (zs.length : Int) := by omega
        have hg := HG.out zs[k] (List.getElem_mem hlt)
        have Hst := Lib.hid (strsZ_step zs k hlt)
        have hz1 : b1 < wr.heap.size := Nat.lt_of_lt_of_le hbB (Nat.le_trans hB hbl.size)
        generalize zs[k] = x at *
        obtain ⟨op, a⟩ := x
        dsimp only at hg e1 e2
        obtain ⟨n, rfl⟩ : ∃ n : Nat, op = n := ⟨op.toNat, by have := (okIns_bd hg).1; omega⟩
        have HLn := Lib.hid (l11Text_any b1 (o1 + k * 2) n a wr hg e1 e2)
        have hLz : lineZ ((n : Int), a) = lineP n a := rfl
        rw [hLz] at Hst
        generalize lineP n a = L at *
        have Hbl := Lib.hid hbl
        have Hown := Lib.hid hown
        clear hown hbl hg hLz
        go_wp2_with fail
        refine HLn.out.mono ?_; rintro e w6 ⟨rfl, hb6⟩
        have Hb6 := Lib.hid (Hbl.out.trans (hb6.mono Hbl.out.size))
        have Ho6 := Lib.hid (own_below Hown.out hb6)
        have hz6 := Hb6.out.size
        clear hb6 e1 e2
        go_wp2_with (at_builtin; refine wpList_apd 38 9 _ 1 16 Tryd.underlying38 infoW rfl (by omega) _ _ rfl rfl w.heap.size _ k _ rfl Ho6.out #[.string L] 1 1 rfl rfl (by simp [Value.oneCell']) (by simp [maxLen]; omega) (by omega) hz6 ?_; intro v7 w7 hown7 hg7; have Hb7 := Lib.hid (below_apd Hb6.out Ho6.out hg7 (Nat.le_refl _) hz6); have Ho7 := Lib.hid hown7; clear hown7 hg7)
        go_roundw
        case rel => exact ⟨k + 1, by omega, by go_num, by rw [Hst.out]; exact Ho7.out, Hb7.out⟩
        case measure => simp [intOf]; omega
      · have hd : zs.take k = zs := List.take_of_length_le (by omega)
        rw [hd] at hown
        clear hd
        have hkk : k = zs.length := by omega
        have Hown := Lib.hid hown; clear hown
        have hlt' : (zs.length : Int) ≤ (k : Int) := by omega
        go_wp2_with fail
        go_ret2
        unfold RetP; rw [e0.out.1, e0.out.2]; exact ⟨_, rfl, by rw [List.length_map, ← hkk]; exact Hown.out, hbl⟩
end Go.Proofs.YtplpeeienpaaeaaDoor
