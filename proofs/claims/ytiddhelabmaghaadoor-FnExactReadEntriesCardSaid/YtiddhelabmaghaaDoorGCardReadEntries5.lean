/- Merged texts: Et1, Re1, Re2, Re3, Re4, Et2, Lib4, Lib5, Re5, Re6. -/
import Derived.Test.YtiddhelabmaghaaDoorGCardReadEntries2
import Derived.Test.YtiddhelabmaghaaDoorGCardReadEntries4
import Derived.Test.YtiddhelabmaghaaDoorGCardReadEntries3
import Derived.Deep.RegionHeld3
import Derived.Test.YtiddhelabmaghaaDoorGCardReadEntries1
import Derived.Lib.SmallJoins
/- Entries' texts: the program's EntriesText. -/
namespace Go.Proofs.YtiddhelabmaghaaDoor
open Go.RowKit Go.Joins

/-- texts one after the other -/
def catF {α : Type} (f : α → ByteArray) (xs : List α) : ByteArray := ⟨(xs.flatMap fun x => (f x).data.toList).toArray⟩
theorem catF_step {α : Type} (f : α → ByteArray) (xs : List α) (k : Nat) (hk : k < xs.length) : catF f (xs.take (k + 1)) = catF f (xs.take k) ++ f xs[k] := by
  unfold catF
  rw [List.take_succ_eq_append_getElem hk, List.flatMap_append]
  refine ba_inj ?_
  rw [ByteArray.toList_eq, ByteArray.toList_eq]
  simp
theorem cat0 {α : Type} (f : α → ByteArray) (xs : List α) (T : ByteArray) : T ++ catF f (xs.take 0) = T := by
  refine ba_inj ?_
  rw [ByteArray.toList_eq, ByteArray.toList_eq]
  simp [catF]
def wordT (s : ByteArray) : ByteArray := ⟨#[32]⟩ ++ s
def headE (x : Ent) : ByteArray := decS x.num ++ ⟨#[32]⟩ ++ x.name ++ ⟨#[32]⟩ ++ x.maker ++ ⟨#[32]⟩ ++ decS x.year
def lineE (x : Ent) : ByteArray := headE x ++ catF wordT x.words ++ ⟨#[10]⟩
def txE (xs : List Ent) : ByteArray := if entsOk xs then catF lineE xs else ⟨#[]⟩
theorem ent_facts {x : Ent} (h : entOk x = true) : 0 ≤ x.num ∧ x.num ≤ 1000000 ∧ 0 ≤ x.year ∧ x.year ≤ 3000 ∧ x.words.length ≤ 8 := by
  unfold entOk inB at h
  simp at h
  omega
theorem ents_at {xs : List Ent} (h : entsOk xs = true) (k : Nat) (hk : k < xs.length) : entOk xs[k] = true := by
  unfold entsOk at h
  simp only [Bool.and_eq_true] at h
  have := chk_get h.1 hk
  unfold placeOk at this
  rw [getE_at xs k hk] at this
  simp only [Bool.and_eq_true] at this
  exact this.1
theorem ents_50 {xs : List Ent} (h : entsOk xs = true) : xs.length ≤ 50 := by
  unfold entsOk at h
  simp only [Bool.and_eq_true, decide_eq_true_eq] at h
  exact h.2
theorem five_kept {W w1 : World} {a b c d e : Addr} {x y z t u : Value} (hb : Below W.heap.size W w1) (h : W.cell? a = some x ∧ W.cell? b = some y ∧ W.cell? c = some z ∧ W.cell? d = some t ∧ W.cell? e = some u) :
    w1.cell? a = some x ∧ w1.cell? b = some y ∧ w1.cell? c = some z ∧ w1.cell? d = some t ∧ w1.cell? e = some u :=
  have k {p : Addr} {v : Value} (h : W.cell? p = some v) : w1.cell? p = some v := (hb.cell (World.block_lt_of_cell? W _ h)).trans h
  ⟨k h.1, k h.2.1, k h.2.2.1, k h.2.2.2.1, k h.2.2.2.2⟩
theorem ba_assoc (a b c : ByteArray) : a ++ b ++ c = a ++ (b ++ c) := ByteArray.append_assoc

set_option maxRecDepth 100000 in
set_option maxHeartbeats 3200000 in
theorem EntriesTextI_any (B : Nat) (v : Value) (xs : List Ent) (w : World) (h : RdE w B v xs) (hB : B ≤ w.heap.size) (hl : xs.length ≤ 1048576) (hsm : ∀ x ∈ xs, smE x) (ht : Tab w) :
    Calls Tryd.prog 67 #[v] w fun e w' => e = .returned (.string (txE xs)) ∧ Below w.heap.size w w' := by
  have HV := Lib.hid (ValidI_any B v xs w h hB hl hsm)
  have H := Lib.hid h
  have Ht := Lib.hid ht
  have Hsm := Lib.hid hsm
  obtain ⟨A, c, rfl⟩ := h.slice
  clear h hsm ht
  cases hok : entsOk xs with
  | false =>
    have e0 := Lib.hid (show txE xs = ⟨#[]⟩ by unfold txE; rw [hok]; rfl)
    rw [hok] at HV
    clear hok
    go_enter Tryd.func67, Tryd.ntmps67
    go_wp2_with fail
    refine HV.out.mono ?_; rintro e w1 ⟨rfl, hb1⟩
    go_wp2_with fail
    go_ret
    rw [e0.out]; exact ⟨rfl, hb1⟩
  | true =>
    have e0 := Lib.hid (show txE xs = catF lineE xs by unfold txE; rw [hok]; rfl)
    have HG := Lib.hid (fun k hk => ents_at hok k hk)
    have h60 := ents_50 hok
    rw [hok] at HV
    clear hok
    go_enter Tryd.func67, Tryd.ntmps67
    go_wp2_with fail
    refine HV.out.mono ?_; rintro e w1 ⟨rfl, hb1⟩
    go_wp2_with fail
    go_loopw [3, 13] (fun o i wr => ∃ (k : Nat), k ≤ xs.length ∧ i = .int .i64 k ∧ o = .string (catF lineE (xs.take k)) ∧ (catF lineE (xs.take k)).size ≤ k * 10485900 ∧ Below w.heap.size w wr) (fun _ i _ => xs.length - (intOf i).toNat)
    case atStart => exact ⟨0, Nat.zero_le _, rfl, rfl, Nat.le_refl _, hb1⟩
    case round =>
      obtain ⟨k, hk, rfl, rfl, hsz, hbl⟩ := hrel
      by_cases hlt : k < xs.length
      · have HL := Lib.hid (H.out.below (hbl.mono hB))
        obtain ⟨b1, o1, A3, c3, hA, hE⟩ := HL.out.at k hlt
        subst hA
        have hlt' : (k : Int) < (xs.length : Int) := by omega
        have hsx := Hsm.out xs[k] (List.getElem_mem hlt)
        have hgx := HG.out k hlt
        have hst := catF_step lineE xs k hlt
        have hzB : B ≤ wr.heap.size := Nat.le_trans hB hbl.size
        have hz1 : b1 < wr.heap.size := Nat.lt_of_lt_of_le hE.lt hzB
        obtain ⟨T', hT0⟩ : ∃ X, X = catF lineE (xs.take (k + 1)) := ⟨_, rfl⟩
        rw [← hT0] at hst
        have HT' := Lib.hid hT0; clear hT0
        generalize catF lineE (xs.take k) = T at *
        generalize xs[k] = x at *
        obtain ⟨d1, d2, d3, d4, d5⟩ := ent_facts hgx
        have s1 := decS_size x.num (by omega) (by omega)
        have s2 := decS_size x.year (by omega) (by omega)
        have HA := Lib.hid (fun wx hx => Decimal_any x.num wx (by omega) (by omega) hx)
        have HB := Lib.hid (fun wx hx => Decimal_any x.year wx (by omega) (by omega) hx)
        have HLx := Lib.hid (show lineE x = decS x.num ++ ⟨#[32]⟩ ++ x.name ++ ⟨#[32]⟩ ++ x.maker ++ ⟨#[32]⟩ ++ decS x.year ++ catF wordT x.words ++ ⟨#[10]⟩ from rfl)
        generalize lineE x = L at *
        obtain ⟨num, name, maker, year, ws⟩ := x
        obtain ⟨hs1, hs2, _, hs4⟩ := hsx
        obtain ⟨hbB, e0, e1, e2, e3, e4, ew⟩ := hE
        dsimp only at e0 e1 e2 e3 e4 ew HA HB HLx s1 s2 hs1 hs2 hs4 d1 d2 d3 d4 d5
        clear hgx d1 d2 d3 d4
        have Hs4 := Lib.hid hs4; clear hs4
        generalize decS num = D at *
        generalize decS year = E at *
        have p1 : (D ++ ⟨#[32]⟩ : ByteArray).size = D.size + 1 := ByteArray.size_append
        have p2 : (D ++ ⟨#[32]⟩ ++ name : ByteArray).size = D.size + 1 + name.size := by rw [ByteArray.size_append, p1]
        have p3 : (D ++ ⟨#[32]⟩ ++ name ++ ⟨#[32]⟩ : ByteArray).size = D.size + 1 + name.size + 1 := by rw [ByteArray.size_append, p2]; rfl
        have p4 : (D ++ ⟨#[32]⟩ ++ name ++ ⟨#[32]⟩ ++ maker : ByteArray).size = D.size + 1 + name.size + 1 + maker.size := by rw [ByteArray.size_append, p3]
        have p5 : (D ++ ⟨#[32]⟩ ++ name ++ ⟨#[32]⟩ ++ maker ++ ⟨#[32]⟩ : ByteArray).size = D.size + 1 + name.size + 1 + maker.size + 1 := by rw [ByteArray.size_append, p4]; rfl
        have p6 : (D ++ ⟨#[32]⟩ ++ name ++ ⟨#[32]⟩ ++ maker ++ ⟨#[32]⟩ ++ E : ByteArray).size = D.size + 1 + name.size + 1 + maker.size + 1 + E.size := by rw [ByteArray.size_append, p5]
        have Hbl := Lib.hid (hbl.trans (((Below.refl wr.heap.size wr).alloc (Nat.le_refl _) (.cells #[.int .i64 num, .string name, .string maker, .int .i64 year, .slice A3 ws.length c3] 82)).mono hbl.size))
        have Hba := Lib.hid ((Below.refl wr.heap.size wr).alloc (Nat.le_refl _) (.cells #[.int .i64 num, .string name, .string maker, .int .i64 year, .slice A3 ws.length c3] 82))
        have Hnw := Lib.hid (heap_alloc_new wr (.cells #[.int .i64 num, .string name, .string maker, .int .i64 year, .slice A3 ws.length c3] 82))
        have Hew := Lib.hid ew
        clear hbl HL ew
        go_wp2_with fail
        obtain ⟨f0, f1, f2, f3, f4⟩ := five_at Hnw.out
        generalize wr.alloc (.cells #[.int .i64 num, .string name, .string maker, .int .i64 year, .slice A3 ws.length c3] 82) = wn at *
        have hacc := Hbl.out.drew
        have hac2 := Hba.out.drew
        clear e0 e1 e2 e3 e4
        refine wp_region_noPanic ?_
        refine wp_region_L [] (fun w' => w'.cell? ⟨wr.heap.size, 0, none⟩ = some (.int .i64 num) ∧ w'.cell? ⟨wr.heap.size, 1, none⟩ = some (.string name) ∧ w'.cell? ⟨wr.heap.size, 2, none⟩ = some (.string maker) ∧ w'.cell? ⟨wr.heap.size, 3, none⟩ = some (.int .i64 year) ∧ w'.cell? ⟨wr.heap.size, 4, none⟩ = some (.slice A3 ws.length c3)) (by kernel_rfl) (⟨f0, f1, f2, f3, f4⟩) (fun hHeld => ?_)
        refine take_F (i := 0) (d := some 17) (v := ?_) (by kernel_rfl) (by kernel_rfl) rfl rfl (by kernel_rfl) (by kernel_rfl) (by kernel_rfl) (fun _ _ _ h => h) (Or.inl ⟨by rfl, ?_⟩) (by assumption) ?_
        rotate_left
        · (intro w hSw; (try dsimp only at hSw); go_simp; (try rw [if_neg (by omega)]); (try (with_reducible rfl)))
        simp only [Act.put, List.setIfInBounds_toArray, List.set_cons_zero, List.set_cons_succ]
        refine take_F (i := 1) (d := some 18) (v := ?_) (by kernel_rfl) (by kernel_rfl) rfl rfl (by kernel_rfl) (by kernel_rfl) (by kernel_rfl) (fun _ _ _ h => h) (Or.inl ⟨by rfl, ?_⟩) (by assumption) ?_
        rotate_left
        · (intro w hSw; (try dsimp only at hSw); go_simp; (try rw [if_neg (by omega)]); (try (with_reducible rfl)))
        simp only [Act.put, List.setIfInBounds_toArray, List.set_cons_zero, List.set_cons_succ]
        refine take_L [2] (i := 2) (d := some 19) (v := ?_) (by kernel_rfl) (by kernel_rfl) (by kernel_rfl) (by kernel_rfl) rfl rfl (by kernel_rfl) (by kernel_rfl) (by kernel_rfl) (fun _ _ _ h => h) (Or.inl ⟨by rfl, ?_⟩) (by assumption) ?_
        rotate_left
        · (intro w hSw; (try dsimp only at hSw); go_simp; (try rw [if_neg (by omega)]); (try (with_reducible rfl)))
        simp only [Act.put, List.setIfInBounds_toArray, List.set_cons_zero, List.set_cons_succ]
        refine take_F (i := 5) (d := some 22) (v := ?_) (by kernel_rfl) (by kernel_rfl) rfl rfl (by kernel_rfl) (by kernel_rfl) (by kernel_rfl) (fun _ _ _ h => h) (Or.inl ⟨by rfl, ?_⟩) (by assumption) ?_
        rotate_left
        · (intro w hSw; (try dsimp only at hSw); go_simp; (try rw [if_neg (by omega)]); (try (with_reducible rfl)))
        simp only [Act.put, List.setIfInBounds_toArray, List.set_cons_zero, List.set_cons_succ]
        refine take_L [6] (i := 6) (d := some 23) (v := ?_) (by kernel_rfl) (by kernel_rfl) (by kernel_rfl) (by kernel_rfl) rfl rfl (by kernel_rfl) (by kernel_rfl) (by kernel_rfl) (fun _ _ _ h => h) (Or.inl ⟨by rfl, ?_⟩) (by assumption) ?_
        rotate_left
        · (intro w hSw; (try dsimp only at hSw); go_simp; (try rw [if_neg (by omega)]); (try (with_reducible rfl)))
        simp only [Act.put, List.setIfInBounds_toArray, List.set_cons_zero, List.set_cons_succ]
        refine take_F (i := 9) (d := some 26) (v := ?_) (by kernel_rfl) (by kernel_rfl) rfl rfl (by kernel_rfl) (by kernel_rfl) (by kernel_rfl) (fun _ _ _ h => h) (Or.inl ⟨by rfl, ?_⟩) (by assumption) ?_
        rotate_left
        · (intro w hSw; (try dsimp only at hSw); go_simp; (try rw [if_neg (by omega)]); (try (with_reducible rfl)))
        simp only [Act.put, List.setIfInBounds_toArray, List.set_cons_zero, List.set_cons_succ]
        refine take_L [10] (i := 10) (d := some 27) (v := ?_) (by kernel_rfl) (by kernel_rfl) (by kernel_rfl) (by kernel_rfl) rfl rfl (by kernel_rfl) (by kernel_rfl) (by kernel_rfl) (fun _ _ _ h => h) (Or.inl ⟨by rfl, ?_⟩) (by assumption) ?_
        rotate_left
        · (intro w hSw; (try dsimp only at hSw); go_simp; (try rw [if_neg (by omega)]); (try (with_reducible rfl)))
        simp only [Act.put, List.setIfInBounds_toArray, List.set_cons_zero, List.set_cons_succ]
        refine take_F (i := 13) (d := some 30) (v := ?_) (by kernel_rfl) (by kernel_rfl) rfl rfl (by kernel_rfl) (by kernel_rfl) (by kernel_rfl) (fun _ _ _ h => h) (Or.inl ⟨by rfl, ?_⟩) (by assumption) ?_
        rotate_left
        · (intro w hSw; (try dsimp only at hSw); go_simp; (try rw [if_neg (by omega)]); (try (with_reducible rfl)))
        simp only [Act.put, List.setIfInBounds_toArray, List.set_cons_zero, List.set_cons_succ]
        refine take_L [14] (i := 14) (d := some 31) (v := ?_) (by kernel_rfl) (by kernel_rfl) (by kernel_rfl) (by kernel_rfl) rfl rfl (by kernel_rfl) (by kernel_rfl) (by kernel_rfl) (fun _ _ _ h => h) (Or.inl ⟨by rfl, ?_⟩) (by assumption) ?_
        rotate_left
        · (intro w hSw; (try dsimp only at hSw); go_simp; (try rw [if_neg (by omega)]); (try (with_reducible rfl)))
        simp only [Act.put, List.setIfInBounds_toArray, List.set_cons_zero, List.set_cons_succ]
        refine call_L (i := 3) (d := (some 20)) rfl rfl (by kernel_rfl) (fun Kq hKq => ?_)
        go_simp
        go_at_call 97
        refine (HA.out _ (Ht.out.below hacc)).mono ?_; rintro e w5 ⟨rfl, hb5⟩
        have hS5 := five_kept hb5 ⟨f0, f1, f2, f3, f4⟩
        have hacc5 := hacc.trans (hb5.mono hacc.size)
        have hac5 := hac2.trans (hb5.mono hac2.size)
        clear hacc hac2 hb5
        (try go_wp2_with fail)
        refine hKq.out _ _ (hS5) (fun hHeld => ?_)
        clear hKq Kq
        (try simp only [Act.put, List.setIfInBounds_toArray, List.set_cons_zero, List.set_cons_succ])
        refine take_F (i := 4) (d := some 21) (v := ?_) (by kernel_rfl) (by kernel_rfl) rfl rfl (by kernel_rfl) (by kernel_rfl) (by kernel_rfl) (fun _ _ _ h => h) (Or.inl ⟨by rfl, ?_⟩) (by assumption) ?_
        rotate_left
        · (intro w hSw; (try dsimp only at hSw); go_simp; (try rw [if_neg (by omega)]); (try (with_reducible rfl)))
        simp only [Act.put, List.setIfInBounds_toArray, List.set_cons_zero, List.set_cons_succ]
        refine take_F (i := 7) (d := some 24) (v := ?_) (by kernel_rfl) (by kernel_rfl) rfl rfl (by kernel_rfl) (by kernel_rfl) (by kernel_rfl) (fun _ _ _ h => h) (Or.inl ⟨by rfl, ?_⟩) (by assumption) ?_
        rotate_left
        · (intro w hSw; (try dsimp only at hSw); go_simp; (try rw [if_neg (by omega)]); (try (with_reducible rfl)))
        simp only [Act.put, List.setIfInBounds_toArray, List.set_cons_zero, List.set_cons_succ]
        refine take_F (i := 8) (d := some 25) (v := ?_) (by kernel_rfl) (by kernel_rfl) rfl rfl (by kernel_rfl) (by kernel_rfl) (by kernel_rfl) (fun _ _ _ h => h) (Or.inl ⟨by rfl, ?_⟩) (by assumption) ?_
        rotate_left
        · (intro w hSw; (try dsimp only at hSw); go_simp; (try rw [if_neg (by omega)]); (try (with_reducible rfl)))
        simp only [Act.put, List.setIfInBounds_toArray, List.set_cons_zero, List.set_cons_succ]
        refine take_F (i := 11) (d := some 28) (v := ?_) (by kernel_rfl) (by kernel_rfl) rfl rfl (by kernel_rfl) (by kernel_rfl) (by kernel_rfl) (fun _ _ _ h => h) (Or.inl ⟨by rfl, ?_⟩) (by assumption) ?_
        rotate_left
        · (intro w hSw; (try dsimp only at hSw); go_simp; (try rw [if_neg (by omega)]); (try (with_reducible rfl)))
        simp only [Act.put, List.setIfInBounds_toArray, List.set_cons_zero, List.set_cons_succ]
        refine take_F (i := 12) (d := some 29) (v := ?_) (by kernel_rfl) (by kernel_rfl) rfl rfl (by kernel_rfl) (by kernel_rfl) (by kernel_rfl) (fun _ _ _ h => h) (Or.inl ⟨by rfl, ?_⟩) (by assumption) ?_
        rotate_left
        · (intro w hSw; (try dsimp only at hSw); go_simp; (try rw [if_neg (by omega)]); (try (with_reducible rfl)))
        simp only [Act.put, List.setIfInBounds_toArray, List.set_cons_zero, List.set_cons_succ]
        refine call_L (i := 15) (d := (some 32)) rfl rfl (by kernel_rfl) (fun Kq hKq => ?_)
        go_simp
        go_at_call 97
        refine (HB.out _ (Ht.out.below hacc5)).mono ?_; rintro e w6 ⟨rfl, hb6⟩
        have hS6 := five_kept hb6 hS5
        have hacc := hacc5.trans (hb6.mono hacc5.size)
        have hac2 := hac5.trans (hb6.mono hac5.size)
        clear hacc5 hac5 hb6
        (try go_wp2_with fail)
        refine hKq.out _ _ (hS6) (fun hHeld => ?_)
        clear hKq Kq
        (try simp only [Act.put, List.setIfInBounds_toArray, List.set_cons_zero, List.set_cons_succ])
        refine take_F (i := 16) (d := some 33) (v := ?_) (by kernel_rfl) (by kernel_rfl) rfl rfl (by kernel_rfl) (by kernel_rfl) (by kernel_rfl) (fun _ _ _ h => h) (Or.inl ⟨by rfl, ?_⟩) (by assumption) ?_
        rotate_left
        · (intro w hSw; (try dsimp only at hSw); go_simp; (try rw [if_neg (by omega)]); (try (with_reducible rfl)))
        simp only [Act.put, List.setIfInBounds_toArray, List.set_cons_zero, List.set_cons_succ]
        refine take_F (i := 17) (d := some 34) (v := ?_) (by kernel_rfl) (by kernel_rfl) rfl rfl (by kernel_rfl) (by kernel_rfl) (by kernel_rfl) (fun _ _ _ h => h) (Or.inl ⟨by rfl, ?_⟩) (by assumption) ?_
        rotate_left
        · (intro w hSw; (try dsimp only at hSw); go_simp; (try rw [if_neg (by omega)]); (try (with_reducible rfl)))
        simp only [Act.put, List.setIfInBounds_toArray, List.set_cons_zero, List.set_cons_succ]
        refine take_F (i := 18) (d := some 3) (v := ?_) (by kernel_rfl) (by kernel_rfl) rfl rfl (by kernel_rfl) (by kernel_rfl) (by kernel_rfl) (fun _ _ _ h => h) (Or.inl ⟨by rfl, ?_⟩) (by assumption) ?_
        rotate_left
        · (intro w hSw; (try dsimp only at hSw); go_simp; (try rw [if_neg (by omega)]); (try (with_reducible rfl)))
        simp only [Act.put, List.setIfInBounds_toArray, List.set_cons_zero, List.set_cons_succ]
        refine done_L (by kernel_rfl) ?_ _
        refine NoPanic.normal ?_
        obtain ⟨_, _, _, _, g4⟩ := hS6
        have Hws := Lib.hid (Hew.out.below (hac2.mono hzB))
        have hB6 : B ≤ w6.heap.size := Nat.le_trans hzB hac2.size
        clear hac2
        have q1 : (T ++ (D ++ ⟨#[32]⟩ ++ name ++ ⟨#[32]⟩ ++ maker ++ ⟨#[32]⟩ ++ E) : ByteArray).size ≤ k * 10485900 + 2097250 := by rw [ByteArray.size_append, p6]; omega
        have hfin : T ++ (D ++ ⟨#[32]⟩ ++ name ++ ⟨#[32]⟩ ++ maker ++ ⟨#[32]⟩ ++ E) ++ catF wordT ws ++ ⟨#[10]⟩ = T' := by rw [hst, HLx.out]; simp only [ba_assoc]
        clear p1 p2 p3 p4 p5 p6 HLx hst HA HB
        generalize T ++ (D ++ ⟨#[32]⟩ ++ name ++ ⟨#[32]⟩ ++ maker ++ ⟨#[32]⟩ ++ E) = T1 at *
        have Hfin := Lib.hid hfin; clear hfin
        go_wp2_with fail
        go_loopw [3, 38] (fun o i wy => ∃ (j : Nat), j ≤ ws.length ∧ i = .int .i64 j ∧ o = .string (T1 ++ catF wordT (ws.take j)) ∧ (T1 ++ catF wordT (ws.take j)).size ≤ k * 10485900 + 2097250 + j * 1048577 ∧ wy = w6) (fun _ i _ => ws.length - (intOf i).toNat)
        case atStart => exact ⟨0, Nat.zero_le _, rfl, by rw [cat0], by rw [cat0]; omega, rfl⟩
        case round =>
          obtain ⟨j, hj, rfl, rfl, hz, rfl⟩ := hrel
          by_cases hlj : j < ws.length
          · obtain ⟨_, b2, o2, hA2, hx2⟩ := rd_at Hws.out j hlj
            subst hA2
            have hlj' : (j : Int) < (ws.length : Int) := by omega
            have hsw := Hs4.out ws[j] (List.getElem_mem hlj)
            have hstw := catF_step wordT ws j hlj
            obtain ⟨V', hV0⟩ : ∃ X, X = catF wordT (ws.take (j + 1)) := ⟨_, rfl⟩
            rw [← hV0] at hstw
            have HV' := Lib.hid hV0; clear hV0
            generalize catF wordT (ws.take j) = V at *
            generalize ws[j] = sx at *
            have hcat : T1 ++ V ++ (⟨#[32]⟩ ++ sx) = T1 ++ V' := by rw [hstw, ba_assoc]; rfl
            have r1 : (⟨#[32]⟩ ++ sx : ByteArray).size = 1 + sx.size := ByteArray.size_append
            have hz2 : (T1 ++ V').size ≤ k * 10485900 + 2097250 + (j + 1) * 1048577 := by rw [← hcat, ByteArray.size_append, r1]; omega
            have hb2 := World.block_lt_of_cell? _ _ hx2
            have Hcat := Lib.hid hcat; clear hcat hstw
            generalize T1 ++ V = U at *
            go_wp2_with fail
            go_roundw
            case rel => exact ⟨j + 1, by omega, by go_num, by rw [Hcat.out, HV'.out], by rw [← HV'.out]; exact hz2, by trivial⟩
            case measure => simp [intOf]; omega
          · have hd : ws.take j = ws := List.take_of_length_le (by omega)
            rw [hd] at hz
            rw [hd]
            clear hd
            have hlj' : (ws.length : Int) ≤ (j : Int) := by omega
            have hT : T'.size ≤ (k + 1) * 10485900 := by rw [← Hfin.out, ByteArray.size_append]; show _ + 1 ≤ _; omega
            generalize T1 ++ catF wordT ws = U at *
            go_wp2_with fail
            go_roundw
            case rel => exact ⟨k + 1, by omega, by go_num, by rw [Hfin.out, HT'.out], by rw [← HT'.out]; exact hT, hacc⟩
            case measure => simp [intOf]; omega
      · have hd : xs.take k = xs := List.take_of_length_le (by omega)
        rw [hd]
        clear hd
        have hlt' : (xs.length : Int) ≤ (k : Int) := by omega
        go_wp2_with fail
        go_ret
        rw [e0.out]; exact ⟨rfl, hbl⟩
end Go.Proofs.YtiddhelabmaghaaDoor
/- Catalogues' texts, read: the plain law. -/
namespace Go.Proofs.YtiddhelabmaghaaDoor

/-- an entry's line, read -/
def rdEn (s : ByteArray) : Option Ent := match splitB 32 s with
  | a :: b :: c :: d :: ws => match readN a, readN d with
    | some n, some y => some ⟨n, b, c, y, ws⟩
    | _, _ => none
  | _ => none
theorem rdEn_four {s a b c d : ByteArray} {ws : List ByteArray} (h : splitB 32 s = a :: b :: c :: d :: ws) :
    (rdEn s).isSome = ((readN a).isSome && (readN d).isSome) ∧ ∀ y, rdEn s = some y → (⟨(readN a).getD 0, b, c, (readN d).getD 0, ws⟩ : Ent) = y := by
  unfold rdEn; rw [h]
  cases h1 : readN a <;> cases h2 : readN d <;> simp [h1, h2]
theorem rdEn_few {s : ByteArray} (h : (splitB 32 s).length < 4) : rdEn s = none := by
  unfold rdEn
  split
  · rename_i he; rw [he] at h; simp at h; omega
  · rfl
theorem four_of {L : List ByteArray} (h : 4 ≤ L.length) : ∃ a b c d ws, L = a :: b :: c :: d :: ws := by
  match L, h with
  | a :: b :: c :: d :: ws, _ => exact ⟨a, b, c, d, ws, rfl⟩
theorem split_words : ∀ (l : List ByteArray) (s x : ByteArray), splitB 32 s = x :: l → s = x ++ catF wordT l := by
  intro l
  induction l with
  | nil =>
    intro s x h
    rw [splitB_one h]
    refine ba_inj ?_
    rw [ByteArray.toList_eq, ByteArray.toList_eq]
    simp [catF]
  | cons y l ih =>
    intro s x h
    obtain ⟨r, h1, h2⟩ := splitB_cons h
    rw [h1, ih r y h2]
    refine ba_inj ?_
    rw [ByteArray.toList_eq, ByteArray.toList_eq]
    simp [catF, wordT]
def okEn (s : ByteArray) : Bool := (rdEn s).isSome
theorem okEn_some {s : ByteArray} {x : Ent} (h : rdEn s = some x) : okEn s = true := by unfold okEn; rw [h]; rfl
theorem okEn_none {s : ByteArray} (h : rdEn s = none) : okEn s = false := by unfold okEn; rw [h]; rfl
theorem okEn_get {s : ByteArray} (h : okEn s = true) : ∃ x, rdEn s = some x := Option.isSome_iff_exists.1 h
theorem rdEn_text {s : ByteArray} {x : Ent} (h : rdEn s = some x) : lineE x = s ++ ⟨#[10]⟩ := by
  unfold rdEn at h
  split at h
  · rename_i a b c d ws he
    split at h
    · rename_i n y hn hy
      rw [← Option.some.inj h]
      have h1 := split_words _ _ _ he
      rw [h1]
      unfold lineE headE
      dsimp only
      rw [readN_dec hn, readN_dec hy]
      refine ba_inj ?_
      rw [ByteArray.toList_eq, ByteArray.toList_eq]
      simp [catF, wordT]
    · cases h
  · cases h
theorem rdEn_size {s : ByteArray} {x : Ent} (h : rdEn s = some x) : x.name.size ≤ s.size ∧ x.maker.size ≤ s.size ∧ x.words.length ≤ s.size ∧ ∀ z ∈ x.words, z.size ≤ s.size := by
  unfold rdEn at h
  split at h
  · rename_i a b c d ws he
    split at h
    · rw [← Option.some.inj h]
      have h1 := splitB_mem 32 s.size s (Nat.le_refl _)
      have h2 := splitB_len 32 s.size s (Nat.le_refl _)
      rw [he] at h1 h2
      simp only [List.length_cons] at h2
      exact ⟨h1 b (by simp), h1 c (by simp), by dsimp only; omega, fun z hz => h1 z (by simp [hz])⟩
    · cases h
  · cases h
theorem readEn_text : ∀ (l : List ByteArray), l.all okEn = true → catF lineE (l.filterMap rdEn) = textB 10 l := by
  intro l
  induction l with
  | nil => intro _; rfl
  | cons s l ih =>
    intro h
    rw [List.all_cons, Bool.and_eq_true] at h
    obtain ⟨x, hx⟩ := okEn_get h.1
    rw [List.filterMap_cons_some hx, textB_cons, ← ih h.2, ← rdEn_text hx]
    unfold catF
    refine ba_inj ?_
    rw [ByteArray.toList_eq, ByteArray.toList_eq]
    simp
/-- the entries of a text -/
def rdEnts (s : ByteArray) : Option (List Ent) := match linesB 10 s with
  | none => none
  | some l => if l.all okEn = true then (if entsOk (l.filterMap rdEn) = true then some (l.filterMap rdEn) else none) else none
theorem rdEnts_none {s : ByteArray} (h : linesB 10 s = none) : rdEnts s = none := by unfold rdEnts; rw [h]
theorem rdEnts_bad {s : ByteArray} {l : List ByteArray} (h : linesB 10 s = some l) (k : Nat) (hk : k < l.length) (hb : okEn l[k] = false) : rdEnts s = none := by
  unfold rdEnts; rw [h]
  simp only
  rw [if_neg]
  intro ha
  rw [List.all_eq_true.1 ha _ (List.getElem_mem hk)] at hb
  cases hb
theorem rdEnts_at {s : ByteArray} {l : List ByteArray} (h : linesB 10 s = some l) (ha : l.all okEn = true) : rdEnts s = if entsOk (l.filterMap rdEn) = true then some (l.filterMap rdEn) else none := by
  unfold rdEnts; rw [h]
  simp only
  rw [if_pos ha]
theorem okEn_step {l : List ByteArray} {k : Nat} {x : Ent} (hk : k < l.length) (ha : (l.take k).all okEn = true) (hx : rdEn l[k] = some x) :
    (l.take (k + 1)).all okEn = true ∧ (l.take (k + 1)).filterMap rdEn = (l.take k).filterMap rdEn ++ [x] := by
  rw [List.take_succ_eq_append_getElem hk, List.all_append, List.filterMap_append, ha]
  refine ⟨by simp [okEn_some hx], by rw [List.filterMap_cons_some hx]; rfl⟩
theorem filterE_len {l : List ByteArray} (h : l.all okEn = true) : (l.filterMap rdEn).length = l.length := by
  induction l with
  | nil => rfl
  | cons s l ih =>
    rw [List.all_cons, Bool.and_eq_true] at h
    obtain ⟨x, hx⟩ := okEn_get h.1
    rw [List.filterMap_cons_some hx, List.length_cons, List.length_cons, ih h.2]
theorem rdEnts_long {s : ByteArray} {l : List ByteArray} (h : linesB 10 s = some l) (hl : 50 < l.length) : rdEnts s = none := by
  cases ha : l.all okEn with
  | false => unfold rdEnts; rw [h]; simp [ha]
  | true =>
    rw [rdEnts_at h ha, if_neg]
    intro hk
    have := ents_50 hk
    rw [filterE_len ha] at this
    omega
theorem filterE_sm {l : List ByteArray} {n : Nat} (hn : n ≤ 1048576) (hl : ∀ z ∈ l, z.size ≤ n) : ∀ x ∈ l.filterMap rdEn, smE x := by
  intro x hx
  obtain ⟨s, hs, he⟩ := List.mem_filterMap.1 hx
  obtain ⟨h1, h2, h3, h4⟩ := rdEn_size he
  have h5 := hl s hs
  exact ⟨by omega, by omega, by omega, fun z hz => by have := h4 z hz; omega⟩
theorem txE_of {s : ByteArray} {l : List ByteArray} (hl : linesB 10 s = some l) (ha : l.all okEn = true) (hk : entsOk (l.filterMap rdEn) = true) : txE (l.filterMap rdEn) = s := by
  unfold txE
  rw [if_pos hk, readEn_text l ha, linesB_text 10 s.size s (Nat.le_refl _) l hl]
theorem rdEnts_facts (s : ByteArray) (hs : s.size ≤ 1048576) : ((rdEnts s).getD []).length ≤ 50 ∧ ∀ x ∈ (rdEnts s).getD [], smE x := by
  unfold rdEnts
  split
  · simp
  · rename_i l hl
    split
    · split
      · rename_i h; exact ⟨ents_50 h, filterE_sm hs (fun z hz => linesB_mem hl z hz)⟩
      · simp
    · simp
end Go.Proofs.YtiddhelabmaghaaDoor
/- Entries of the call's own: a row of entries, each with a row of words of its own. -/
namespace Go.Proofs.YtiddhelabmaghaaDoor
open Go.RowKit Go.Joins

structure OwnE (w : World) (base : Nat) (v : Value) (ys : List (Ent × Value)) : Prop where
  row : w.ownsRow base 82 5 v ys.length (ys.flatMap cellsE)
  wds : ∀ i (hi : i < ys.length), w.ownsRow base 9 1 ys[i].2 ys[i].1.words.length (strs ys[i].1.words)
  dis : ∀ i j (hi : i < ys.length) (hj : j < ys.length), i ≠ j → ys[i].2.ownBlock = none ∨ ys[i].2.ownBlock ≠ ys[j].2.ownBlock

/-- rows of different types lie in different blocks -/
theorem apart_ty {w : World} {b1 b2 s1 s2 n1 n2 : Nat} {e1 e2 : TypeId} {v1 v2 : Value} {x1 x2 : List Value} (h1 : w.ownsRow b1 e1 s1 v1 n1 x1) (h2 : w.ownsRow b2 e2 s2 v2 n2 x2) (he : e1 ≠ e2) : v1.ownBlock = none ∨ v1.ownBlock ≠ v2.ownBlock := by
  rcases h1.2 with ⟨rfl, _⟩ | ⟨g1, cap1, cur1, rfl, _, hg1, _⟩
  · exact .inl rfl
  rcases h2.2 with ⟨rfl, _⟩ | ⟨g2, cap2, cur2, rfl, _, hg2, _⟩
  · exact .inr (by simp [Value.ownBlock])
  refine .inr fun h => ?_
  obtain rfl : g1 = g2 := by simpa [Value.ownBlock] using h
  rw [hg1] at hg2
  injection hg2 with h3
  injection h3 with _ h4
  exact he h4
theorem OwnE.below {w w' : World} {base : Nat} {v : Value} {ys : List (Ent × Value)} (h : OwnE w base v ys) (hb : Below w.heap.size w w') : OwnE w' base v ys :=
  ⟨own_below h.row hb, fun i hi => own_below (h.wds i hi) hb, h.dis⟩
theorem OwnE.drewN {w : World} {base : Nat} {v : Value} {ys : List (Ent × Value)} (h : OwnE w base v ys) (n : Nat) : OwnE (w.drewN n) base v ys := ⟨h.row.drewN n, fun i hi => (h.wds i hi).drewN n, h.dis⟩
theorem OwnE.le {w : World} {base b : Nat} {v : Value} {ys : List (Ent × Value)} (h : OwnE w base v ys) (hb : b ≤ base) : OwnE w b v ys := ⟨ownsRow_le h.row hb, fun i hi => ownsRow_le (h.wds i hi) hb, h.dis⟩
theorem OwnE.rd {w : World} {base : Nat} {v : Value} {ys : List (Ent × Value)} (h : OwnE w base v ys) : RdE w w.heap.size v (ys.map (·.1)) := by
  refine ⟨ys, rfl, by rw [List.length_map]; exact Rd.of_own h.row, fun y hy => ?_⟩
  obtain ⟨i, hi, rfl⟩ := List.mem_iff_getElem.1 hy
  exact Rd.of_own (h.wds i hi)
theorem OwnE.nil {w : World} {base : Nat} {v : Value} (h : w.ownsRow base 82 5 v 0 []) : OwnE w base v [] := ⟨h, fun i hi => absurd hi (by simp), fun i j hi => absurd hi (by simp)⟩
theorem OwnE.snoc {w w1 w2 : World} {base : Nat} {v v' u : Value} {ys : List (Ent × Value)} {x : Ent} (h : OwnE w base v ys) (hb : base ≤ w.heap.size) (h1 : Below w.heap.size w w1) (hu : w1.ownsRow w.heap.size 9 1 u x.words.length (strs x.words))
    (hg : w1.grownBy w2 v.ownBlock) (hr : w2.ownsRow base 82 5 v' (ys.length + 1) (ys.flatMap cellsE ++ cellsE (x, u))) : OwnE w2 base v' (ys ++ [(x, u)]) := by
  have hrow := own_below h.row h1
  refine ⟨?_, fun i hi => ?_, fun i j hi hj hij => ?_⟩
  · rw [List.length_append, List.flatMap_append]
    simpa using hr
  · by_cases hl : i < ys.length
    · have hw := own_below (h.wds i hl) h1
      rw [List.getElem_append_left hl]
      exact hw.kept hg (apart_ty hw hrow (by decide))
    · have hil : i = ys.length := by rw [List.length_append] at hi; simp at hi; omega
      subst hil
      rw [List.getElem_append_right (Nat.le_refl _)]
      simp only [Nat.sub_self, List.getElem_cons_zero]
      exact ownsRow_le (hu.kept hg (apart_ty hu hrow (by decide))) hb
  · rw [List.length_append] at hi hj
    simp at hi hj
    by_cases hl : i < ys.length
    · rw [List.getElem_append_left hl]
      by_cases hm : j < ys.length
      · rw [List.getElem_append_left hm]; exact h.dis i j hl hm hij
      · rw [List.getElem_append_right (by omega)]
        simp only [show j - ys.length = 0 by omega, List.getElem_cons_zero]
        cases hq : ys[i].2.ownBlock with
        | none => exact .inl rfl
        | some g =>
          refine .inr fun e => ?_
          have h2 := ((h.wds i hl).lt g hq).2
          have h3 := (hu.lt g e.symm).1
          omega
    · have hm : j < ys.length := by omega
      rw [List.getElem_append_right (by omega), List.getElem_append_left hm]
      simp only [show i - ys.length = 0 by omega, List.getElem_cons_zero]
      cases hq : u.ownBlock with
      | none => exact .inl rfl
      | some g =>
        refine .inr fun e => ?_
        have h2 := ((h.wds j hm).lt g e.symm).2
        have h3 := (hu.lt g hq).1
        omega
theorem apart_symm {a b : Option Nat} (h : a = none ∨ a ≠ b) : b = none ∨ b ≠ a := by
  cases a <;> cases b <;> simp_all
  exact fun e => h e.symm
theorem OwnE.mark {w w1 w2 : World} {base : Nat} {v : Value} {ys : List (Ent × Value)} (h : OwnE w base v ys) (k : Nat) (hk : k < ys.length) (m : Ent) (hm : m.words.length = ys[k].1.words.length) (hg1 : w.grownBy w1 v.ownBlock)
    (hr : w1.ownsRow base 82 5 v ys.length ((ys.set k (m, ys[k].2)).flatMap cellsE)) (hg2 : w1.grownBy w2 ys[k].2.ownBlock) (hw : w2.ownsRow base 9 1 ys[k].2 ys[k].1.words.length (strs m.words)) : OwnE w2 base v (ys.set k (m, ys[k].2)) := by
  have hx : ∀ i (hi : i < ys.length), w1.ownsRow base 9 1 ys[i].2 ys[i].1.words.length (strs ys[i].1.words) := fun i hi =>
    (h.wds i hi).kept hg1 (apart_ty (h.wds i hi) h.row (by decide))
  refine ⟨?_, fun i hi => ?_, fun i j hi hj hij => ?_⟩
  · rw [List.length_set]
    exact hr.kept hg2 (apart_ty hr (hx k hk) (by decide))
  · rw [List.length_set] at hi
    by_cases hik : k = i
    · subst hik
      rw [List.getElem_set_self]
      dsimp only
      rw [hm]; exact hw
    · rw [List.getElem_set_ne hik]
      exact (hx i hi).kept hg2 (h.dis i k hi hk (fun e => hik e.symm))
  · rw [List.length_set] at hi hj
    have e : ∀ i (hi : i < ys.length), ((ys.set k (m, ys[k].2))[i]'(by rw [List.length_set]; exact hi)).2 = ys[i].2 := fun i hi => by
      by_cases hik : k = i
      · subst hik; rw [List.getElem_set_self]
      · rw [List.getElem_set_ne hik]
    rw [e i hi, e j hj]
    exact h.dis i j hi hj hij
theorem flat_set4 (ys : List (Ent × Value)) (k : Nat) (hk : k < ys.length) (a d : Int) (b c : ByteArray) (ws : List ByteArray) :
    ((((ys.flatMap cellsE).set (k * 5) (.int .i64 a)).set (k * 5 + 1) (.string b)).set (k * 5 + 2) (.string c)).set (k * 5 + 3) (.int .i64 d) = (ys.set k (⟨a, b, c, d, ws⟩, ys[k].2)).flatMap cellsE := by
  have e1 : ys.flatMap cellsE = (ys.take k).flatMap cellsE ++ (cellsE ys[k] ++ (ys.drop (k + 1)).flatMap cellsE) := by
    conv => lhs; rw [← List.take_append_drop k ys, List.drop_eq_getElem_cons hk]
    rw [List.flatMap_append, List.flatMap_cons]
  have e2 : ys.set k (⟨a, b, c, d, ws⟩, ys[k].2) = ys.take k ++ (⟨a, b, c, d, ws⟩, ys[k].2) :: ys.drop (k + 1) := by
    rw [List.set_eq_take_append_cons_drop, if_pos hk]
  have hl : ((ys.take k).flatMap cellsE).length = k * 5 := by rw [flat_len cellsE 5 (fun _ => rfl), List.length_take]; omega
  rw [e1, e2, List.flatMap_append, List.flatMap_cons]
  generalize (ys.take k).flatMap cellsE = l at *
  generalize (ys.drop (k + 1)).flatMap cellsE = r
  rw [← hl]
  rw [List.set_append_right _ _ (Nat.le_refl _), List.set_append_right _ _ (by omega), List.set_append_right _ _ (by omega), List.set_append_right _ _ (by omega)]
  simp [cellsE]

def sumN (f : Nat → Nat) : Nat → Nat
  | 0 => 0
  | n + 1 => sumN f n + f n
theorem sumN_le (f : Nat → Nat) {a b : Nat} (h : a ≤ b) : sumN f a ≤ sumN f b := by
  induction b with
  | zero => rw [Nat.le_zero.1 h]; exact Nat.le_refl _
  | succ b ih =>
    rcases Nat.lt_or_ge a (b + 1) with h1 | h1
    · exact Nat.le_trans (ih (by omega)) (Nat.le_add_right _ _)
    · rw [Nat.le_antisymm h h1]; exact Nat.le_refl _
def eE (k0 : Int) (f : Nat → Nat) (n : Nat) : Int := k0 + 4 * (n : Int) + (sumN f n : Int)
theorem eE_succ (k0 : Int) (f : Nat → Nat) (n : Nat) : eE k0 f (n + 1) = eE k0 f n + 1 + 1 + 1 + 1 + (f n : Int) := by unfold eE; rw [show sumN f (n + 1) = sumN f n + f n from rfl]; omega
theorem eE_le (k0 : Int) (f : Nat → Nat) {a b : Nat} (h : a ≤ b) : eE k0 f a ≤ eE k0 f b := by unfold eE; have := sumN_le f h; omega
theorem eE_ge (k0 : Int) (f : Nat → Nat) (a : Nat) : k0 ≤ eE k0 f a := by unfold eE; omega
def mkE (q : Int) (n : Nat) : Ent := ⟨q, markT (q + 1), markT (q + 1 + 1), q + 1 + 1 + 1, marks (q + 1 + 1 + 1 + 1) n⟩
def marksE (k0 : Int) (f : Nat → Nat) (n : Nat) : List Ent := (List.range n).map fun j => mkE (eE k0 f j) (f j)
theorem marksE_len (k0 : Int) (f : Nat → Nat) (n : Nat) : (marksE k0 f n).length = n := by simp [marksE]
theorem marksE_at (k0 : Int) (f : Nat → Nat) (n i : Nat) (h : i < n) : (marksE k0 f n)[i]'(by rw [marksE_len]; exact h) = mkE (eE k0 f i) (f i) := by simp [marksE]
theorem marksE_of {k0 : Int} {f : Nat → Nat} {n : Nat} {zs : List (Ent × Value)} (hn : zs.length = n) (h : ∀ j (hj : j < zs.length), zs[j].1 = mkE (eE k0 f j) (f j)) : zs.map (·.1) = marksE k0 f n := by
  refine List.ext_getElem (by rw [List.length_map, marksE_len, hn]) fun i h1 h2 => ?_
  rw [marksE_at k0 f n i (by rw [marksE_len] at h2; exact h2), List.getElem_map]
  exact h i _
end Go.Proofs.YtiddhelabmaghaaDoor
/- Entries of the call's own: markEntryS. -/
namespace Go.Proofs.YtiddhelabmaghaaDoor
open Go.RowKit Go.Joins

def MarkedE (k0 : Int) (f : Nat → Nat) (n : Nat) (base : Nat) (v : Value) (w : World) : Prop := ∃ zs : List (Ent × Value), zs.length = n ∧ OwnE w base v zs ∧ ∀ j (hj : j < zs.length), zs[j].1 = mkE (eE k0 f j) (f j)
theorem MarkedE.rd {k0 : Int} {f : Nat → Nat} {n base : Nat} {v : Value} {w : World} (h : MarkedE k0 f n base v w) : RdE w w.heap.size v (marksE k0 f n) := by
  obtain ⟨zs, h1, h2, h3⟩ := h
  rw [← marksE_of h1 h3]; exact h2.rd
theorem MarkedE.below {k0 : Int} {f : Nat → Nat} {n base : Nat} {v : Value} {w w' : World} (h : MarkedE k0 f n base v w) (hb : Below w.heap.size w w') : MarkedE k0 f n base v w' := by
  obtain ⟨zs, h1, h2, h3⟩ := h
  exact ⟨zs, h1, h2.below hb, h3⟩
theorem st_cellE {w : World} {g n cap base : Nat} {cs : List Value} (h : w.ownsRow base 82 5 (.slice (some ⟨g, 0, none⟩) n cap) n cs) (j : Nat) (hj : j < n * 5) : ∃ u, w.cell? ⟨g, j, none⟩ = some u ∧ w.frozen? ⟨g, j, none⟩ = false := by
  obtain ⟨u, hu⟩ : ∃ u, cs[j]? = some u := ⟨_, List.getElem?_eq_getElem (by have := h.1; omega)⟩
  exact ⟨u, (h.cellAt j (by omega)).trans hu, h.frozenAt j⟩
theorem below_gr {w wr wr' : World} {B : Nat} {ob : Option Nat} (h : Below B w wr) (hg : wr.grownBy wr' ob) (ho : ∀ g, ob = some g → B ≤ g) (hB : B ≤ w.heap.size) : Below B w wr' :=
  h.grown hg (Nat.le_trans hB h.size) ho

set_option maxRecDepth 100000 in
set_option maxHeartbeats 3200000 in
theorem markEs_any (base : Nat) (v : Value) (k0 : Int) (ys : List (Ent × Value)) (f : Nat → Nat) (n : Nat) (w : World) (h : OwnE w base v ys) (hn : ys.length = n) (hf : ∀ i (hi : i < ys.length), ys[i].1.words.length = f i) (hB : base ≤ w.heap.size) (hk0 : 0 ≤ k0) (hk : eE k0 f n ≤ 4611686018427387904) :
    Calls Tryd.prog 15 #[v, .int .i64 k0] w fun e w' => e = .returned (.int .i64 (eE k0 f n)) ∧ MarkedE k0 f n base v w' ∧ Below base w w' := by
  have HO := Lib.hid h
  have Hf := Lib.hid hf
  have Hn := Lib.hid hn
  have hrow := h.row
  rw [hn] at hrow
  clear h hf hn
  rcases ownsRow_forms hrow with ⟨rfl, rfl⟩ | ⟨g, cap, rfl⟩
  · clear hrow
    have hb0 := Below.refl base w
    have HM := Lib.hid (show MarkedE k0 f 0 base (.slice none 0 0) w from ⟨ys, Hn.out, HO.out, fun j hj => by have := Hn.out; omega⟩)
    have he : eE k0 f 0 = k0 := by unfold eE sumN; omega
    rw [he]
    clear he
    go_enter Tryd.func15, Tryd.ntmps15
    go_wp2_with fail
    go_loop [1, 5] (fun a i => i = .int .i64 0 ∧ a = .int .i64 k0) (fun _ _ => 0)
    case atStart => exact ⟨rfl, rfl⟩
    case round =>
      obtain ⟨rfl, rfl⟩ := hrel
      go_wp2_with fail
      go_ret
      exact ⟨rfl, HM.out, hb0⟩
  · clear hrow
    have He0 := Lib.hid (show eE k0 f 0 = k0 by unfold eE sumN; omega)
    have HE1 := Lib.hid (fun i => eE_succ k0 f i)
    have HEl := Lib.hid (fun i (h : i ≤ n) => Int.le_trans (eE_le k0 f h) hk)
    have HEg := Lib.hid (fun i => Int.le_trans hk0 (eE_ge k0 f i))
    have HMk := Lib.hid (show ∀ (zs : List (Ent × Value)) (wx : World), zs.length = n → OwnE wx base (.slice (some ⟨g, 0, none⟩) n cap) zs → (∀ j (hj : j < zs.length), zs[j].1 = mkE (eE k0 f j) (f j)) → MarkedE k0 f n base (.slice (some ⟨g, 0, none⟩) n cap) wx from fun zs wx h1 h2 h3 => ⟨zs, h1, h2, h3⟩)
    have hnb : (n : Int) ≤ 4611686018427387904 := by unfold eE at hk; omega
    clear hk hk0
    generalize eE k0 f = E at *
    go_enter Tryd.func15, Tryd.ntmps15
    go_wp2_with fail
    go_loopw [1, 5] (fun a i wr => ∃ (k : Nat) (zs : List (Ent × Value)), k ≤ n ∧ i = .int .i64 (k : Int) ∧ a = .int .i64 (E k) ∧ zs.length = n ∧ OwnE wr base (.slice (some ⟨g, 0, none⟩) n cap) zs ∧ (∀ j (hj : j < zs.length), j < k → zs[j].1 = mkE (E j) (f j)) ∧ (∀ j (hj : j < zs.length), zs[j].1.words.length = f j) ∧ Below base w wr) (fun _ i _ => n - (intOf i).toNat)
    case atStart => exact ⟨0, ys, Nat.zero_le _, rfl, by rw [He0.out], Hn.out, HO.out, fun j _ h => absurd h (by omega), Hf.out, Below.refl _ _⟩
    case round =>
      obtain ⟨k, zs, hkn, rfl, rfl, hzn, hown, hdone, hlen, hbl⟩ := hrel
      have Hdone := Lib.hid hdone
      have Hlen := Lib.hid hlen
      have Hbl := Lib.hid hbl
      have Hown := Lib.hid hown
      have Hzn := Lib.hid hzn
      clear hdone hlen hbl hown hzn
      by_cases hlt : k < n
      · have hlt' : (k : Int) < (n : Int) := by omega
        have hky : k < zs.length := by rw [Hzn.out]; exact hlt
        have h0 := HEg.out k
        have h1 := HEl.out (k + 1) hlt
        rw [HE1.out k] at h1
        have Hrow := Lib.hid (show wr.ownsRow base 82 5 (.slice (some ⟨g, 0, none⟩) n cap) n (zs.flatMap cellsE) by have := Hown.out.row; rwa [Hzn.out] at this)
        have Hbg := Lib.hid (show base ≤ g ∧ g < wr.heap.size from Hrow.out.lt g rfl)
        have Hwk := Lib.hid (Hown.out.wds k hky)
        have hyl := Hlen.out k hky
        rw [hyl] at Hwk
        have Hset := Lib.hid (fun a d b c ws => flat_set4 zs k hky a d b c ws)
        have Hmark := Lib.hid (fun w1 w2 m => OwnE.mark (w1 := w1) (w2 := w2) Hown.out k hky m)
        have H4 := Lib.hid (show (zs.flatMap cellsE)[k * 5 + 4]? = some zs[k].2 from fours zs k hky)
        have Hoth := Lib.hid (show (∀ (m : Ent) j (hj : j < (zs.set k (m, zs[k].2)).length), j < k + 1 → m = mkE (E k) (f k) → (zs.set k (m, zs[k].2))[j].1 = mkE (E j) (f j)) ∧ (∀ (m : Ent) j (hj : j < (zs.set k (m, zs[k].2)).length), m.words.length = f k → (zs.set k (m, zs[k].2))[j].1.words.length = f j) from ⟨fun m j hj hjk hm => by
            by_cases e : k = j
            · subst e; rw [List.getElem_set_self]; exact hm
            · rw [List.getElem_set_ne e]; exact Hdone.out j (by simpa using hj) (by omega), fun m j hj hm => by
            by_cases e : k = j
            · subst e; rw [List.getElem_set_self]; exact hm
            · rw [List.getElem_set_ne e]; exact Hlen.out j (by simpa using hj)⟩)
        rw [hyl] at Hmark
        have Hzl := Lib.hid (fun (m : Ent) => show (zs.set k (m, zs[k].2)).length = n by rw [List.length_set]; exact Hzn.out)
        rw [Hzn.out] at Hmark
        generalize hu : zs[k].2 = u at *
        clear hu hyl Hdone Hlen Hown
        obtain ⟨A7, c7, rfl⟩ : ∃ A c, u = .slice A (f k) c := by
          obtain ⟨_, A, c, e, _⟩ := Rd.of_own Hwk.out
          exact ⟨A, c, e⟩
        have Hek := Lib.hid (show mkE (E k) (f k) = ⟨E k, markT (E k + 1), markT (E k + 1 + 1), E k + 1 + 1 + 1, marks (E k + 1 + 1 + 1 + 1) (f k)⟩ from rfl)
        have Hs := Lib.hid (HE1.out k)
        have hmn : k + 1 ≤ n := hlt
        generalize E k = a0 at *
        generalize hM1 : markT (a0 + 1) = M1 at *
        generalize hM2 : markT (a0 + 1 + 1) = M2 at *
        have HMa := Lib.hid (fun wx => markText_any (a0 + 1) wx)
        have HMb := Lib.hid (fun wx => markText_any (a0 + 1 + 1) wx)
        rw [hM1] at HMa
        rw [hM2] at HMb
        clear hM1 hM2
        obtain ⟨u0, hc0, hf0⟩ := st_cellE Hrow.out (k * 5) (by omega)
        obtain ⟨ho1, hg1⟩ := Hrow.out.stored (k * 5) (.int .i64 a0)
        have Ho1 := Lib.hid ho1
        have Hg1 := Lib.hid hg1
        clear ho1 hg1
        go_wp2_with fail
        refine (HMa.out _ (by omega)).mono ?_; rintro e w2 ⟨rfl, hb2⟩
        have ho2 := own_below Ho1.out hb2
        have Hg2 := Lib.hid (grown_trans Hg1.out (grown_of_below hb2 _))
        obtain ⟨u1, hc1, hf1⟩ := st_cellE ho2 (k * 5 + 1) (by omega)
        obtain ⟨ho3, hg3⟩ := ho2.stored (k * 5 + 1) (.string M1)
        have Ho3 := Lib.hid ho3
        have Hg3 := Lib.hid (grown_trans Hg2.out hg3)
        clear ho2 ho3 hg3 hb2 hc0 hf0 Hg2 Hg1 Ho1
        go_wp2_with fail
        refine (HMb.out _ (by omega)).mono ?_; rintro e w4 ⟨rfl, hb4⟩
        have ho4 := own_below Ho3.out hb4
        have Hg4 := Lib.hid (grown_trans Hg3.out (grown_of_below hb4 _))
        obtain ⟨u2, hc2, hf2⟩ := st_cellE ho4 (k * 5 + 2) (by omega)
        obtain ⟨u3, hc3, hf3⟩ := st_cellE ho4 (k * 5 + 3) (by omega)
        have hc4 : w4.cell? ⟨g, k * 5 + 4, none⟩ = some (.slice A7 (f k) c7) := by
          rw [ho4.cellAt (k * 5 + 4) (by omega), List.getElem?_set_ne (by omega), List.getElem?_set_ne (by omega)]
          exact H4.out
        obtain ⟨ho5, hg5⟩ := ho4.stored (k * 5 + 2) (.string M2)
        obtain ⟨ho6, hg6⟩ := ho5.stored (k * 5 + 3) (.int .i64 (a0 + 1 + 1 + 1))
        have Ho6 := Lib.hid ho6
        have Hg6 := Lib.hid (grown_trans (grown_trans Hg4.out hg5) hg6)
        have Hw6 := Lib.hid (Hwk.out.kept Hg6.out (apart_ty Hwk.out Hrow.out (by decide)))
        have HM := Lib.hid (fun q => markStringS_any base _ q _ _ _ Hw6.out)
        clear ho4 ho5 ho6 hg5 hg6 hb4 hc1 hf1 Hg3 Hg4 Ho3
        go_wp2_with fail
        refine (HM.out _ (by omega) (by omega)).mono ?_; rintro e w8 ⟨rfl, hg8, ho8⟩
        have Hfin := Lib.hid (Hmark.out _ _ ⟨a0, M1, M2, a0 + 1 + 1 + 1, marks (a0 + 1 + 1 + 1 + 1) (f k)⟩ (marks_len _ _) Hg6.out (by rw [← Hset.out]; exact Ho6.out) hg8 ho8)
        have Hlt7 := Lib.hid Hw6.out.lt
        have Hb8 := Lib.hid (below_gr (below_gr Hbl.out Hg6.out (fun x e => by cases e; exact Hbg.out.1) hB) hg8 (fun x e => (Hlt7.out x e).1) hB)
        clear hg8 ho8
        go_wp2_with fail
        go_roundw
        case rel => exact ⟨k + 1, _, hmn, by go_num, by rw [Hs.out], Hzl.out _, Hfin.out, fun j hj hjk => Hoth.out.1 _ j hj hjk Hek.out.symm, fun j hj => Hoth.out.2 _ j hj (marks_len _ _), Hb8.out⟩
        case measure => simp [intOf]; omega
      · have hlt' : (n : Int) ≤ (k : Int) := by omega
        have hkk : k = n := by omega
        subst hkk
        have HM := Lib.hid (show ∀ j (hj : j < zs.length), zs[j].1 = mkE (E j) (f j) from fun j hj => Hdone.out j hj (by have := Hzn.out; omega))
        go_wp2_with fail
        go_ret
        exact ⟨rfl, HMk.out zs _ Hzn.out Hown.out HM.out, Hbl.out⟩
end Go.Proofs.YtiddhelabmaghaaDoor
/- Entries of the call's own: heldStringS, heldEntryS. -/
namespace Go.Proofs.YtiddhelabmaghaaDoor
open Go.RowKit Go.Joins

set_option maxHeartbeats 400000 in
theorem heldStrS_any (B1 : Nat) (v1 : Value) (k0 : Int) (n : Nat) (w : World) (h1 : Rd w B1 v1 n 1 (strs (marks k0 n))) (hB : B1 ≤ w.heap.size) (hk0 : 0 ≤ k0) (hk : k0 + n ≤ 4611686018427387904) :
    Calls Tryd.prog 70 #[v1, .int .i64 k0] w fun e w' => e = .returned (.int .i64 (k0 + n)) ∧ Below w.heap.size w w' := by
  obtain ⟨_, A1, c1, rfl, h1⟩ := h1
  have H1 := Lib.hid h1; clear h1
  go_enter Tryd.func70, Tryd.ntmps70
  go_wp2_with fail
  go_loopw [1, 5] (fun a i wr => ∃ k : Nat, k ≤ n ∧ i = .int .i64 k ∧ a = .int .i64 (k0 + k) ∧ Below w.heap.size w wr) (fun _ i _ => n - (intOf i).toNat)
  case atStart => exact ⟨0, Nat.zero_le _, rfl, by simp, Below.refl _ _⟩
  case round =>
    obtain ⟨k, hk, rfl, rfl, hbl⟩ := hrel
    by_cases hlt : k < n
    · obtain ⟨b1, o1, rfl, hb1, hc1⟩ := H1.out (by omega)
      have hx := hc1 k _ (marks_at k0 n k hlt)
      have hxr := (hbl.cell (p := ⟨b1, o1 + k, none⟩) (by show b1 < _; omega)).trans hx
      have hlt' : (k : Int) < (n : Int) := by omega
      have hbb : b1 < wr.heap.size := by have := hbl.size; omega
      clear hc1 hx
      have Hmk := Lib.hid (markText_any (k0 + k))
      generalize markT (k0 + (k : Int)) = M at *
      go_wp2_with fail
      go_region_held3 (fun w' => w'.cell? ⟨b1, o1 + k, none⟩ = some (.string M))
        (first | go_keep | (rw [hbq.cell (p := ⟨b1, o1 + k, none⟩) (by show b1 < _; simp; omega)]; first | assumption | (simp; assumption)))
        ((go_at_call 63; refine (Hmk.out _ (by omega)).mono ?_; rintro e wq ⟨rfl, hbq⟩))
      go_wp2_with fail
      have hb2 := hbl.trans ((below_undrew hbq).mono hbl.size)
      go_roundw
      case rel => exact ⟨k + 1, by omega, by go_num, by go_num, hb2⟩
      case measure => simp [intOf]; omega
    · go_wp2_with fail
      go_ret
      obtain rfl : k = n := by omega
      exact ⟨rfl, hbl⟩

set_option maxRecDepth 100000 in
set_option maxHeartbeats 3200000 in
theorem heldEs_any (B : Nat) (v : Value) (k0 : Int) (f : Nat → Nat) (n : Nat) (w : World) (h : RdE w B v (marksE k0 f n)) (hB : B ≤ w.heap.size) (hk0 : 0 ≤ k0) (hk : eE k0 f n ≤ 4611686018427387904) :
    Calls Tryd.prog 16 #[v, .int .i64 k0] w fun e w' => e = .returned (.int .i64 (eE k0 f n)) ∧ Below w.heap.size w w' := by
  have H := Lib.hid h
  obtain ⟨A, c, rfl⟩ := h.slice
  rw [marksE_len] at *
  clear h
  have hb0 := Below.refl w.heap.size w
  have He0 := Lib.hid (show eE k0 f 0 = k0 by unfold eE sumN; omega)
  have HE1 := Lib.hid (fun i => eE_succ k0 f i)
  have HEl := Lib.hid (fun i (h : i ≤ n) => Int.le_trans (eE_le k0 f h) hk)
  have HEg := Lib.hid (fun i => Int.le_trans hk0 (eE_ge k0 f i))
  have HR := Lib.hid (show ∀ k, k < n → ∃ b1 o1 A' c', A = some ⟨b1, o1, none⟩ ∧ EntAt w B b1 (o1 + k * 5) (mkE (eE k0 f k) (f k)) A' c' from fun k hlt => by
    have h := H.out.at k (by rw [marksE_len]; exact hlt)
    rwa [marksE_at k0 f n k hlt] at h)
  have hnb : (n : Int) ≤ 4611686018427387904 := by unfold eE at hk; omega
  clear hk hk0 H
  generalize eE k0 f = E at *
  go_enter Tryd.func16, Tryd.ntmps16
  go_wp2_with fail
  go_loopw [1, 5] (fun a i wr => ∃ k : Nat, k ≤ n ∧ i = .int .i64 (k : Int) ∧ a = .int .i64 (E k) ∧ Below w.heap.size w wr) (fun _ i _ => n - (intOf i).toNat)
  case atStart => exact ⟨0, Nat.zero_le _, rfl, by rw [He0.out], hb0⟩
  case round =>
    obtain ⟨k, hkn, rfl, rfl, hbl⟩ := hrel
    by_cases hlt : k < n
    · obtain ⟨b1, o1, A7, c7, hA, hE0⟩ := HR.out k hlt
      have hE := hE0.below (hbl.mono hB)
      have hww := hE0.words
      clear hE0
      subst hA
      obtain ⟨hbB, e0, e1, e2, e3, e4, _⟩ := hE
      have hwl : (mkE (E k) (f k)).words.length = f k := marks_len _ _
      rw [hwl] at e4 hww
      unfold mkE at e0 e1 e2 e3 hww
      dsimp only at e0 e1 e2 e3 hww
      have HW := Lib.hid hww
      have hlt' : (k : Int) < (n : Int) := by omega
      have h0 := HEg.out k
      have h1 := HEl.out (k + 1) hlt
      rw [HE1.out k] at h1
      have Hs := Lib.hid (HE1.out k)
      have hmn : k + 1 ≤ n := hlt
      clear hww hwl
      generalize E k = a0 at *
      have Hm1 := Lib.hid (fun wx => markText_any (a0 + 1) wx (by omega))
      have Hm2 := Lib.hid (fun wx => markText_any (a0 + 1 + 1) wx (by omega))
      generalize markT (a0 + 1) = M1 at *
      generalize markT (a0 + 1 + 1) = M2 at *
      have hacc : Below w.heap.size w wr.drew := hbl.drew
      clear hbl
      go_wp2_with fail
      go_region_held3 (fun w' => w'.cell? ⟨b1, o1 + k * 5, none⟩ = some (.int .i64 a0) ∧ w'.cell? ⟨b1, o1 + k * 5 + 1, none⟩ = some (.string M1) ∧ w'.cell? ⟨b1, o1 + k * 5 + 2, none⟩ = some (.string M2) ∧ w'.cell? ⟨b1, o1 + k * 5 + 3, none⟩ = some (.int .i64 (a0 + 1 + 1 + 1)) ∧ w'.cell? ⟨b1, o1 + k * 5 + 4, none⟩ = some (.slice A7 (f k) c7))
        (first | go_keep | assumption)
        ((go_at_call 63; refine (Hm1.out _).mono ?_; rintro e wq ⟨rfl, hbq⟩; have hSq := five_kept hbq (by assumption); have hacc' := hacc.trans (hbq.mono hacc.size); clear hacc; have hacc := hacc'; clear hacc'))
      go_wp2_with fail
      have hacc2 : Below w.heap.size w _ := hacc.drew
      clear hacc
      have hacc := hacc2
      clear hacc2
      go_region_held3 (fun w' => w'.cell? ⟨b1, o1 + k * 5, none⟩ = some (.int .i64 a0) ∧ w'.cell? ⟨b1, o1 + k * 5 + 1, none⟩ = some (.string M1) ∧ w'.cell? ⟨b1, o1 + k * 5 + 2, none⟩ = some (.string M2) ∧ w'.cell? ⟨b1, o1 + k * 5 + 3, none⟩ = some (.int .i64 (a0 + 1 + 1 + 1)) ∧ w'.cell? ⟨b1, o1 + k * 5 + 4, none⟩ = some (.slice A7 (f k) c7))
        (first | go_keep | assumption)
        ((go_at_call 63; refine (Hm2.out _).mono ?_; rintro e wq ⟨rfl, hbq⟩; have hSq := five_kept hbq (by assumption); have hacc' := hacc.trans (hbq.mono hacc.size); clear hacc; have hacc := hacc'; clear hacc'))
      go_wp2_with fail
      refine (heldStrS_any B _ _ (f k) _ (HW.out.below (hacc.mono hB)) (Nat.le_trans hB hacc.size) (by omega) (by omega)).mono ?_; rintro e w9 ⟨rfl, hb9⟩
      have hb := hacc.trans (hb9.mono hacc.size)
      clear hb9 hacc
      go_wp2_with fail
      go_roundw
      case rel => exact ⟨k + 1, hmn, by go_num, by rw [Hs.out], hb⟩
      case measure => simp [intOf]; omega
    · have hlt' : (n : Int) ≤ (k : Int) := by omega
      go_wp2_with fail
      go_ret
      obtain rfl : k = n := by omega
      exact ⟨rfl, hbl⟩
end Go.Proofs.YtiddhelabmaghaaDoor
/- Entries' texts, part 2: the reference's side. -/
namespace Go.Proofs.YtiddhelabmaghaaDoor
open Go.RowKit Go.Joins

theorem wpList_str {P : Program} {w : World} {ops : Array Oper} {rest : List Oper} {o : Oper} {a : Act} {Q : Exit → Act → World → Prop} (t u e : TypeId)
    (ht : P.underlying t = some (.slice e)) (hu : P.underlying u = some .string) (hinfo : (P.info? e).map (fun i => (i.zero, i.size, i.bytes)) = some (some (.int .u8 0), 1, 1))
    (sl x : Operand) (hgd : o.guard = none) (ho : o.op = .call { callee := .builtin .append, args := #[sl, x], argTypes := #[t, u] })
    (base : Nat) (v : Value) (n : Nat) (xs : List Value) (hs : a.eval sl = v) (hown : w.ownsRow base e 1 v n xs) (s : ByteArray) (hx : a.eval x = .string s)
    (h63 : n + s.size ≤ maxLen) (hbytes : n + s.size ≤ 140737488355328) (hbase : base ≤ w.heap.size)
    (h : ∀ v' w', w'.ownsRow base e 1 v' (n + s.size) (xs ++ Lib.strCells s) → w.grownBy w' v.ownBlock → wpList P ops Q rest (a.put o.dst v') w') :
    wpList P ops Q (o :: rest) a w := by
  obtain ⟨i, hi, hz, h2, h3⟩ := info_parts hinfo
  exact Lib.wpList_append_own_string w hgd sl x t u ho base e i ht hu hi hz h2 h3 v n xs hs hown s hx h63 hbytes hbase fun v' w' p q _ => h v' w' p q
theorem own_str {w : World} {base : Nat} {e : TypeId} {o : Value} {T s R : ByteArray} (hR : T ++ s = R) (h : w.ownsRow base e 1 o (T.size + s.size) (T.data.toList.map byV ++ Lib.strCells s)) : w.ownsRow base e 1 o R.size (R.data.toList.map byV) := by
  subst hR
  rw [ByteArray.size_append]
  have e1 : (T ++ s).data.toList.map byV = T.data.toList.map byV ++ Lib.strCells s := by
    rw [ByteArray.data_append, Array.toList_append, List.map_append]; rfl
  rw [e1]; exact h
theorem EntAt.five {w : World} {B b o c : Nat} {x : Ent} {A : Option Addr} (h : EntAt w B b o x A c) :
    w.cell? ⟨b, o, none⟩ = some (.int .i64 x.num) ∧ w.cell? ⟨b, o + 1, none⟩ = some (.string x.name) ∧ w.cell? ⟨b, o + 2, none⟩ = some (.string x.maker) ∧ w.cell? ⟨b, o + 3, none⟩ = some (.int .i64 x.year) ∧ w.cell? ⟨b, o + 4, none⟩ = some (.slice A x.words.length c) :=
  ⟨h.c0, h.c1, h.c2, h.c3, h.c4⟩

end Go.Proofs.YtiddhelabmaghaaDoor
/- Append of a row that is read, at a step of a region that draws its order. No program is named here. -/
namespace Go.Proofs.YtiddhelabmaghaaDoor
open Go.RowKit

section
variable {P : Program}
theorem wp_apr {w : World} {o : Oper} {a : Act} {K : Act → World → Prop} {Q : Exit → Act → World → Prop} (t e : TypeId) (z : Value) (size bytes : Nat)
    (ht : P.underlying t = some (.slice e)) (hinfo : (P.info? e).map (fun i => (i.zero, i.size, i.bytes)) = some (some z, size, bytes)) (hzs : z.cells.size = size) (hsz : 0 < size)
    (s x : Operand) (ho : o.op = .call { callee := .builtin .append, args := #[s, x], argTypes := #[t, t] })
    (base : Nat) (v : Value) (n : Nat) (xs : List Value) (hs : a.eval s = v) (hown : w.ownsRow base e size v n xs)
    (b off m c : Nat) (cs : List Value) (hx : a.eval x = .slice (some ⟨b, off, none⟩) m c) (hl : cs.length = m * size) (hc : ∀ (i : Nat) (u : Value), cs[i]? = some u → w.cell? ⟨b, off + i, none⟩ = some u) (h1 : ∀ u ∈ cs, u.oneCell' = true)
    (h63 : n + m ≤ maxLen) (hbytes : (n + m) * bytes ≤ 140737488355328) (hbase : base ≤ w.heap.size)
    (h : ∀ v' w', w'.ownsRow base e size v' (n + m) (xs ++ cs) → w.grownBy w' v.ownBlock → K (a.put o.dst v') w') :
    o.wp P a w K Q := by
  obtain ⟨i, hi, hz, h2, h3⟩ := info_parts hinfo
  refine wp_append_own _ s x t ho base e i z size bytes ht hi hz h2 h3 hzs hsz v n xs hs hown ⟨b, off, none⟩ m c cs hx hl (fun j u hu => ?_) h1 h63 hbytes hbase ?_
  · have hadd : (⟨b, off, none⟩ : Addr).add j = ⟨b, off + j, none⟩ := by unfold Addr.add; split <;> simp_all
    rw [hadd]; exact hc j u hu
  · intro v' w' ho' hg' _
    exact h v' w' ho' hg'
theorem step_apr {w : World} {ops : Array Oper} {o : Oper} {a : Act} {K : Act → World → Prop} {Q : Exit → Act → World → Prop} {E : Prop} (t e : TypeId) (z : Value) (size bytes : Nat)
    (ht : P.underlying t = some (.slice e)) (hinfo : (P.info? e).map (fun i => (i.zero, i.size, i.bytes)) = some (some z, size, bytes)) (hzs : z.cells.size = size) (hsz : 0 < size)
    (s x : Operand) (hgd : o.guard = none) (ho : o.op = .call { callee := .builtin .append, args := #[s, x], argTypes := #[t, t] })
    (base : Nat) (v : Value) (n : Nat) (xs : List Value) (hs : a.eval s = v) (hown : w.ownsRow base e size v n xs)
    (b off m c : Nat) (cs : List Value) (hx : a.eval x = .slice (some ⟨b, off, none⟩) m c) (hl : cs.length = m * size) (hc : ∀ (i : Nat) (u : Value), cs[i]? = some u → w.cell? ⟨b, off + i, none⟩ = some u) (h1 : ∀ u ∈ cs, u.oneCell' = true)
    (h63 : n + m ≤ maxLen) (hbytes : (n + m) * bytes ≤ 140737488355328) (hbase : base ≤ w.heap.size)
    (h : ∀ v' w', w'.ownsRow base e size v' (n + m) (xs ++ cs) → w.grownBy w' v.ownBlock → K (a.put o.dst v') w') :
    if Region.wanted o (yielded ops a.tmps) = true then Oper.wp P o a w K Q else E := by
  have hw : Region.wanted o (yielded ops a.tmps) = true := by simp [Region.wanted, hgd]
  rw [if_pos hw]
  exact wp_apr t e z size bytes ht hinfo hzs hsz s x ho base v n xs hs hown b off m c cs hx hl hc h1 h63 hbytes hbase h
end
end Go.Proofs.YtiddhelabmaghaaDoor
/- Small laws for quiet calls. -/
namespace Go.Proofs.YtiddhelabmaghaaDoor
open Go.RowKit Go.Joins

theorem rdN {w w' : World} {v : Value} {n sz : Nat} {cs : List Value} (h : Rd w w.heap.size v n sz cs) (hb : Below w.heap.size w w') : Rd w' w'.heap.size v n sz cs := (h.below hb).more hb.size
theorem own_posC {w : World} {base n size : Nat} {e : TypeId} {v : Value} {cs : List Value} (h : w.ownsRow base e size v n cs) (hn : 0 < n) : ∃ g cap, v = .slice (some ⟨g, 0, none⟩) n cap ∧ n ≤ cap ∧ cap ≤ maxLen := by
  rcases h.2 with ⟨_, h0⟩ | ⟨g, cap, _, hv, _, _, h1, h2, _⟩
  · omega
  · exact ⟨g, cap, hv, h1, h2⟩
theorem flipQ {P : Program} {f : FuncId} {args : Array Value} {w : World} {v : Value} (h : Calls P f args w fun e w' => e = .returned v ∧ w = w') : Calls P f args w fun e w' => e = .returned v ∧ w' = w :=
  h.mono fun _ _ ⟨h1, h2⟩ => ⟨h1, h2.symm⟩
theorem abs_mul {a b A B : Int} (ha : -A ≤ a ∧ a ≤ A) (hb : -B ≤ b ∧ b ≤ B) : -(A * B) ≤ a * b ∧ a * b ≤ A * B := by
  have h1 : a.natAbs ≤ A.natAbs := by omega
  have h2 : b.natAbs ≤ B.natAbs := by omega
  have h3 : (a * b).natAbs ≤ A.natAbs * B.natAbs := by rw [Int.natAbs_mul]; exact Nat.mul_le_mul h1 h2
  have h4 : (A * B).natAbs = A.natAbs * B.natAbs := Int.natAbs_mul A B
  have h5 : 0 ≤ A * B := Int.mul_nonneg (by omega) (by omega)
  omega

/-- a result of two fields in a block of its own: ahead of the store -/
theorem res2_pre {w w2 : World} {x y : Value} {t : TypeId} (h : Below (w.alloc (.cells #[x, y] t)).heap.size (w.alloc (.cells #[x, y] t)) w2) :
    w2.cell? ⟨w.heap.size, 0, none⟩ = some x ∧ w2.cell? ⟨w.heap.size, 1, none⟩ = some y ∧ w2.frozen? ⟨w.heap.size, 0, none⟩ = false ∧ w2.frozen? ⟨w.heap.size, 1, none⟩ = false :=
  blk2 ((h.block w.heap.size (by simp)).trans (heap_alloc_new w _))
/-- .. and behind it -/
theorem res2_post {w w2 : World} {x y : Value} {t : TypeId} (h : Below (w.alloc (.cells #[x, y] t)).heap.size (w.alloc (.cells #[x, y] t)) w2) (a b : Value) :
    ((w2.setCell ⟨w.heap.size, 0, none⟩ a).setCell ⟨w.heap.size, 1, none⟩ b).cell? ⟨w.heap.size, 0, none⟩ = some a ∧ ((w2.setCell ⟨w.heap.size, 0, none⟩ a).setCell ⟨w.heap.size, 1, none⟩ b).cell? ⟨w.heap.size, 1, none⟩ = some b ∧
    Below w.heap.size w ((w2.setCell ⟨w.heap.size, 0, none⟩ a).setCell ⟨w.heap.size, 1, none⟩ b) := by
  have g := heap_setCell_same _ w.heap.size 1 _ _ b (heap_setCell_same w2 w.heap.size 0 _ _ a ((h.block w.heap.size (by simp)).trans (heap_alloc_new w _)))
  obtain ⟨p, q, _, _⟩ := blk2 g
  exact ⟨p, q, ((((Below.refl w.heap.size w).alloc (Nat.le_refl _) _).trans (h.mono (by simp))).setCell (p := ⟨w.heap.size, 0, none⟩) (Nat.le_refl _) a).setCell (p := ⟨w.heap.size, 1, none⟩) (Nat.le_refl _) b⟩
theorem res2_own {w2 : World} {base B n sz : Nat} {e : TypeId} {v : Value} {xs : List Value} (h : w2.ownsRow base e sz v n xs) {g : Nat} (hg : g < base) (hB : B ≤ base) (a b : Value) : ((w2.setCell ⟨g, 0, none⟩ a).setCell ⟨g, 1, none⟩ b).ownsRow B e sz v n xs :=
  ownsRow_le (ownsRow_setCell_below (ownsRow_setCell_below h (a := ⟨g, 0, none⟩) hg a) (a := ⟨g, 1, none⟩) hg b) hB
/-- a boxed argument of two fields -/
theorem box2 {w : World} {x y : Value} {t : TypeId} : (w.alloc (.cells #[x, y] t)).cell? ⟨w.heap.size, 0, none⟩ = some x ∧ (w.alloc (.cells #[x, y] t)).cell? ⟨w.heap.size, 1, none⟩ = some y :=
  have h := blk2 (heap_alloc_new w (.cells #[x, y] t))
  ⟨h.1, h.2.1⟩

theorem cell_alloc {w : World} {g i : Nat} {v : Value} (h : w.cell? ⟨g, i, none⟩ = some v) (o : Obj) : (w.alloc o).cell? ⟨g, i, none⟩ = some v :=
  (((Below.refl w.heap.size w).alloc (Nat.le_refl _) o).cell (p := ⟨g, i, none⟩) (World.block_lt_of_cell? w _ h)).trans h
/-- append of new elements at a step of a region that draws, where the world has no draw of its own (behind a call) -/
theorem step_apd0 {P : Program} {w : World} {ops : Array Oper} {o : Oper} {a : Act} {K : Act → World → Prop} {Q : Exit → Act → World → Prop} {E : Prop} (t e : TypeId) (z : Value) (size bytes : Nat)
    (ht : P.underlying t = some (.slice e)) (hinfo : (P.info? e).map (fun i => (i.zero, i.size, i.bytes)) = some (some z, size, bytes)) (hzs : z.cells.size = size) (hsz : 0 < size)
    (s x : Operand) (hgd : o.guard = none) (ho : o.op = .call { callee := .builtin .append, args := #[s, x], argTypes := #[t, t] })
    (base : Nat) (v : Value) (n : Nat) (xs : List Value) (hs : a.eval s = v) (hown : w.ownsRow base e size v n xs)
    (cs : Array Value) (m c : Nat) (hx : a.eval x = .slice (some ⟨w.heap.size, 0, none⟩) m c) (hl : cs.toList.length = m * size) (h1 : ∀ u ∈ cs.toList, u.oneCell' = true)
    (h63 : n + m ≤ maxLen) (hbytes : (n + m) * bytes ≤ 140737488355328) (hbase : base ≤ w.heap.size)
    (h : ∀ v' w', w'.ownsRow base e size v' (n + m) (xs ++ cs.toList) → w.grownBy w' v.ownBlock → K (a.put o.dst v') w') :
    if Region.wanted o (yielded ops a.tmps) = true then Oper.wp P o a (w.alloc (.cells cs e)) K Q else E := by
  have hw : Region.wanted o (yielded ops a.tmps) = true := by simp [Region.wanted, hgd]
  rw [if_pos hw]
  exact wp_apd (w := w) t e z size bytes ht hinfo hzs hsz s x ho base v n xs hs hown cs m c hx hl h1 h63 hbytes hbase h
end Go.Proofs.YtiddhelabmaghaaDoor
/- Catalogues' texts, read by the reference: ReadEntries. -/
namespace Go.Proofs.YtiddhelabmaghaaDoor
open Go.RowKit Go.Joins

/-- what the memory of a call holds: a list of entries of its own -/
def HasE (w : World) (base : Nat) (v : Value) (xs : List Ent) : Prop := ∃ ys, ys.map (·.1) = xs ∧ OwnE w base v ys
theorem HasE.nil (w : World) (base : Nat) : HasE w base (.slice none 0 0) [] := ⟨[], rfl, OwnE.nil ⟨rfl, .inl ⟨rfl, rfl⟩⟩⟩
theorem HasE.below {w w' : World} {base : Nat} {v : Value} {xs : List Ent} (h : HasE w base v xs) (hb : Below w.heap.size w w') : HasE w' base v xs := by
  obtain ⟨ys, h1, h2⟩ := h; exact ⟨ys, h1, h2.below hb⟩
theorem HasE.le {w : World} {base b : Nat} {v : Value} {xs : List Ent} (h : HasE w base v xs) (hb : b ≤ base) : HasE w b v xs := by
  obtain ⟨ys, h1, h2⟩ := h; exact ⟨ys, h1, h2.le hb⟩
theorem HasE.drewN {w : World} {base : Nat} {v : Value} {xs : List Ent} (h : HasE w base v xs) (n : Nat) : HasE (w.drewN n) base v xs := by
  obtain ⟨ys, h1, h2⟩ := h; exact ⟨ys, h1, h2.drewN n⟩
theorem HasE.rd {w : World} {base : Nat} {v : Value} {xs : List Ent} (h : HasE w base v xs) : RdE w w.heap.size v xs := by
  obtain ⟨ys, h1, h2⟩ := h; rw [← h1]; exact h2.rd
theorem HasE.row {w : World} {base : Nat} {v : Value} {xs : List Ent} (h : HasE w base v xs) : ∃ cs, w.ownsRow base 82 5 v xs.length cs := by
  obtain ⟨ys, h1, h2⟩ := h
  have := h2.row
  rw [← h1, List.length_map]
  exact ⟨_, this⟩
def RetRe (w : World) (r : Option (List Ent)) (e : Ending) (w' : World) : Prop :=
  ∃ v, e = .returned (.tuple #[v, .bool r.isSome]) ∧ HasE w' w.heap.size v (r.getD []) ∧ Below w.heap.size w w'
theorem RetRe.none {w w' : World} {r : Option (List Ent)} (h : r = none) (hb : Below w.heap.size w w') : RetRe w r (.returned (.tuple #[.slice none 0 0, .bool false])) w' := by
  subst h; exact ⟨_, rfl, HasE.nil _ _, hb⟩
theorem RetRe.some {w w' : World} {r : Option (List Ent)} {xs : List Ent} {v : Value} (h : r = some xs) (ho : HasE w' w.heap.size v xs) (hb : Below w.heap.size w w') : RetRe w r (.returned (.tuple #[v, .bool true])) w' := by
  subst h; exact ⟨_, rfl, ho, hb⟩
/-- the words of a line in a block -/
structure WL (w : World) (g : Nat) (L : List ByteArray) : Prop where
  lt : g < w.heap.size
  at_ : ∀ i (hi : i < L.length), w.cell? ⟨g, i, none⟩ = some (.string L[i])
theorem WL.next {w w' : World} {g : Nat} {L : List ByteArray} (h : WL w g L) (hb : Below w.heap.size w w') : WL w' g L :=
  ⟨Nat.lt_of_lt_of_le h.lt hb.size, fun i hi => (hb.cell (p := ⟨g, i, none⟩) h.lt).trans (h.at_ i hi)⟩
theorem WL.drewN {w : World} {g : Nat} {L : List ByteArray} (h : WL w g L) (n : Nat) : WL (w.drewN n) g L := ⟨h.1, h.2⟩
theorem own_wl {w : World} {base : Nat} {v : Value} {L : List ByteArray} (h : w.ownsRow base 9 1 v L.length (L.map Value.string)) (hn : 0 < L.length) :
    ∃ g c, v = .slice (some ⟨g, 0, none⟩) L.length c ∧ L.length ≤ c ∧ c ≤ maxLen ∧ WL w g L := by
  obtain ⟨g, c, hv, h1, h2, hlt, hc⟩ := own_strs h hn
  exact ⟨g, c, hv, h1, h2, hlt, hc⟩
theorem WL.four {w : World} {g : Nat} {a b c d : ByteArray} {ws : List ByteArray} (h : WL w g (a :: b :: c :: d :: ws)) :
    w.cell? ⟨g, 0, none⟩ = some (.string a) ∧ w.cell? ⟨g, 1, none⟩ = some (.string b) ∧ w.cell? ⟨g, 2, none⟩ = some (.string c) ∧ w.cell? ⟨g, 3, none⟩ = some (.string d) :=
  ⟨h.at_ 0 (by simp), h.at_ 1 (by simp), h.at_ 2 (by simp), h.at_ 3 (by simp)⟩
theorem WL.rest {w : World} {g : Nat} {a b c d : ByteArray} {ws : List ByteArray} (h : WL w g (a :: b :: c :: d :: ws)) : ∀ (i : Nat) (u : Value), (ws.map Value.string)[i]? = some u → w.cell? ⟨g, 4 + i, none⟩ = some u := fun i u hu => by
  rw [List.getElem?_map] at hu
  obtain ⟨z, hz, rfl⟩ := Option.map_eq_some_iff.1 hu
  obtain ⟨hi, he⟩ := List.getElem?_eq_some_iff.1 hz
  have := h.at_ (4 + i) (by simp; omega)
  rw [this, ← he]
  congr 2
  have : 4 + i = i + 1 + 1 + 1 + 1 := by omega
  simp only [this, List.getElem_cons_succ]
theorem strs_one (l : List ByteArray) : ∀ u ∈ l.map Value.string, u.oneCell' = true := by
  intro u hu
  obtain ⟨x, _, rfl⟩ := List.mem_map.1 hu
  rfl
/-- the words' own copy -/
theorem inner_own {w w10 : World} {u : Value} {m : Nat} {cs : List Value} (hu : w10.ownsRow w.heap.size 9 1 u (0 + m) ([] ++ cs)) (hg : (w.alloc (.cells #[] 9)).grownBy w10 (some w.heap.size)) :
    w10.ownsRow w.heap.size 9 1 u m cs ∧ Below w.heap.size w w10 := by
  rw [Nat.zero_add, List.nil_append] at hu
  exact ⟨hu, ((Below.refl w.heap.size w).alloc (Nat.le_refl _) _).grown hg (by simp) (fun k e => by cases e; exact Nat.le_refl _)⟩
theorem HasE.snoc {w w1 w2 : World} {base : Nat} {v v' u : Value} {xs : List Ent} {x : Ent} (h : HasE w base v xs) (hb : base ≤ w.heap.size) (h1 : Below w.heap.size w w1) (hu : w1.ownsRow w.heap.size 9 1 u x.words.length (strs x.words))
    (hr : ∃ cs, w1.ownsRow base 82 5 v xs.length cs ∧ (w2.ownsRow base 82 5 v' (xs.length + 1) (cs ++ cellsE (x, u))) ∧ w1.grownBy w2 v.ownBlock) : HasE w2 base v' (xs ++ [x]) := by
  obtain ⟨ys, h2, h3⟩ := h
  obtain ⟨cs, h4, h5, h6⟩ := hr
  have h7 := own_below h3.row h1
  have hl : ys.length = xs.length := by rw [← h2, List.length_map]
  have hcs : cs = ys.flatMap cellsE := by
    rcases h4.2 with ⟨rfl, h8⟩ | ⟨g1, cap1, cur1, rfl, _, hg1, _, _, _, ht1⟩
    · have a1 := h4.1
      have a2 := h7.1
      rw [hl] at a2
      have b1 : cs.length = 0 := by rw [a1, h8]
      have b2 : (ys.flatMap cellsE).length = 0 := by rw [a2, h8]
      rw [List.eq_nil_of_length_eq_zero b1, List.eq_nil_of_length_eq_zero b2]
    · rcases h7.2 with ⟨h8, _⟩ | ⟨g2, cap2, cur2, h8, _, hg2, _, _, _, ht2⟩
      · cases h8
      · injection h8 with h9
        injection h9 with h10
        injection h10 with h11
        subst h11
        rw [hg1] at hg2
        injection hg2 with h12
        injection h12 with h13
        subst h13
        rw [hl] at ht2
        exact ht1.symm.trans ht2
  subst hcs
  rw [← hl] at h5
  exact ⟨ys ++ [(x, u)], by rw [List.map_append, h2]; rfl, h3.snoc hb h1 hu h6 h5⟩
end Go.Proofs.YtiddhelabmaghaaDoor
/- Catalogues' texts, read by the reference: ReadEntries. -/
namespace Go.Proofs.YtiddhelabmaghaaDoor
open Go.RowKit Go.Joins

theorem ones5 (n y : Int) (b c : ByteArray) (A : Option Addr) (m p : Nat) : ∀ u ∈ (#[Value.int .i64 n, .string b, .string c, .int .i64 y, .slice A m p] : Array Value).toList, u.oneCell' = true := by
  simp [Value.oneCell']

set_option maxRecDepth 100000 in
set_option maxHeartbeats 6400000 in
theorem ReadEntriesS_any (s : ByteArray) (w : World) (hs : s.size ≤ 1048576) : Calls Tryd.prog 12 #[.string s] w (RetRe w (rdEnts s)) := by
  have HSp := Lib.hid (fun wx => l01Split_any s 10 wx (by omega))
  unfold RetPs at HSp
  have hlen := splitB_len 10 s.size s (Nat.le_refl _)
  obtain ⟨x, hx, hcs⟩ := lines_last (s := s)
  have hmem := splitB_mem 10 s.size s (Nat.le_refl _)
  have hpos : 0 < (splitB 10 s).length := List.length_pos_iff.2 (splitB_ne 10 s)
  have Hcs := Lib.hid hcs
  generalize hL : splitB 10 s = L at *
  have hxl : L[L.length - 1]'(by omega) = x := by
    rw [List.getLast?_eq_getElem?, List.getElem?_eq_getElem (by omega)] at hx
    exact Option.some.inj hx
  clear hL hx hcs
  obtain ⟨n, hn⟩ : ∃ n, L.length = n + 1 := ⟨L.length - 1, by omega⟩
  have Hn := Lib.hid hn
  have HB0 := Lib.hid (Below.refl w.heap.size w)
  go_enter Tryd.func12, Tryd.ntmps12
  go_wp2_with fail
  refine (HSp.out _).mono ?_; rintro e w5 ⟨v5, rfl, ho5, hb5⟩
  obtain ⟨g5, c5, rfl, _, _, hlt5, hc5⟩ := own_strs ho5 hpos
  have hlast := hc5 (L.length - 1) (by omega)
  rw [hxl] at hlast
  have HC5 := Lib.hid hc5
  have Hmem := Lib.hid hmem
  simp only [hn, Nat.add_sub_cancel] at hlast
  rw [hn]
  have Hlt5 := Lib.hid hlt5
  have HB5 := Lib.hid hb5
  have hb0 := Lib.hid ((Below.refl w5.heap.size w5).alloc (Nat.le_refl _) (.cells #[] 82))
  have ho0 := Lib.hid (show HasE (w5.alloc (.cells #[] 82)) w5.heap.size (.slice (some ⟨w5.heap.size, 0, none⟩) 0 0) [] from ⟨[], rfl, OwnE.nil (World.ownsRow_made (base := w5.heap.size) (e := 82) (size := 5) w5 #[] 0 (Nat.le_refl _) (by simp [maxLen]) rfl)⟩)
  have hlast2 := (hb0.out.cell (p := ⟨g5, n, none⟩) hlt5).trans hlast
  have hn6 : n ≤ 1048576 := by omega
  clear ho5 hb5 HSp hxl hlast hc5 hmem hlt5 hn hpos hlen
  rcases Hcs.out with ⟨hx0, hl⟩ | ⟨hx0, hl⟩
  · have Hr := Lib.hid (rdEnts_none hl)
    have hne := ne_some (s := x) (by omega)
    clear Hcs hl
    go_wp2_with fail
    go_ret2
    exact RetRe.none Hr.out (HB5.out.trans (hb0.out.mono HB5.out.size))
  · have hne := ne_none hx0
    by_cases h61 : 50 < n
    · have Hr := Lib.hid (rdEnts_long hl (by rw [List.length_dropLast, Hn.out]; omega))
      have h61' : (51 : Int) < (n : Int) + 1 := by omega
      clear Hcs hl
      go_wp2_with fail
      go_ret2
      exact RetRe.none Hr.out (HB5.out.trans (hb0.out.mono HB5.out.size))
    · have h61' : ¬ (51 : Int) < (n : Int) + 1 := by omega
      have Hl := Lib.hid hl
      have hdl : L.dropLast.length = n := by rw [List.length_dropLast, Hn.out]; omega
      have Hget := Lib.hid (fun k (h : k < L.dropLast.length) => drop_get h)
      have HM := Lib.hid (show ∀ z ∈ L.dropLast, z.size ≤ 1048576 from fun z hz => Nat.le_trans (Hmem.out z (List.dropLast_subset _ hz)) hs)
      have HC := Lib.hid (show ∀ (k : Nat) (h : k < L.dropLast.length), w5.cell? ⟨g5, k, none⟩ = some (.string L.dropLast[k]) from fun k h => by rw [Hget.out k h]; exact HC5.out k _)
      clear Hcs hl HC5 Hmem Hget Hn hne
      generalize L.dropLast = l at *
      have hne := ne_none hx0
      have Hdl := Lib.hid hdl; clear hdl
      go_wp2_with fail
      go_loopw [5, 6] (fun o i wr => ∃ (k : Nat) (xs : List Ent), k ≤ n ∧ i = .int .i64 (k : Int) ∧ (l.take k).all okEn = true ∧ (l.take k).filterMap rdEn = xs ∧ xs.length = k ∧ HasE wr w5.heap.size o xs ∧ Below w5.heap.size w5 wr) (fun _ i _ => n - (intOf i).toNat)
      case atStart => exact ⟨0, [], Nat.zero_le _, rfl, rfl, rfl, rfl, ho0.out, hb0.out⟩
      case round =>
        obtain ⟨k, xs, hk, rfl, hall, hxs, hxk, hown, hbl⟩ := hrel
        have Hown := Lib.hid hown
        have Hbl := Lib.hid hbl
        have Hall := Lib.hid hall
        have Hxs := Lib.hid hxs
        have Hxk := Lib.hid hxk
        obtain ⟨cs0, hrow⟩ := hown.row
        rw [hxk] at hrow
        obtain ⟨A6, c6, rfl⟩ := sl_of_own hrow
        clear hown hall hxs hxk hrow
        by_cases hlt : k < n
        · have hlt' : (k : Int) < (n : Int) := by omega
          have hkl : k < l.length := by rw [Hdl.out]; exact hlt
          have hce := (hbl.cell (p := ⟨g5, k, none⟩) Hlt5.out).trans (HC.out k hkl)
          have hline := HM.out _ (List.getElem_mem hkl)
          have HP := Lib.hid (l01Split_any l[k] 32 wr (by omega))
          have Hbad := Lib.hid (fun h => rdEnts_bad Hl.out k hkl (okEn_none h))
          have Hgood := Lib.hid (fun x h => okEn_step (x := x) hkl Hall.out h)
          unfold RetPs at HP
          generalize l[k] = line at *
          have hplen := splitB_len 32 line.size line (Nat.le_refl _)
          clear hbl
          by_cases h4 : 4 ≤ (splitB 32 line).length
          · obtain ⟨a, b, c, d, ws, he⟩ := four_of h4
            have hmem := splitB_mem 32 line.size line (Nat.le_refl _)
            rw [he] at HP hmem hplen
            have ha : a.size ≤ 1073741824 := Nat.le_trans (hmem a (by simp)) (by omega)
            have hd : d.size ≤ 1073741824 := Nat.le_trans (hmem d (by simp)) (by omega)
            have HD1 := Lib.hid (fun wx => l01Number_any a wx ha)
            have HD2 := Lib.hid (fun wx => l01Number_any d wx hd)
            unfold RetN1 at HD1 HD2
            have Hfin := Lib.hid (rdEn_four he)
            generalize (readN a).getD 0 = f at *
            generalize (readN d).getD 0 = t at *
            generalize (readN a).isSome = o1 at *
            generalize (readN d).isSome = o2 at *
            clear he h4 hmem ha hd
            simp only [List.length_cons] at hplen
            obtain ⟨m, hm⟩ : ∃ m, (a :: b :: c :: d :: ws).length = m := ⟨_, rfl⟩
            have hm4 : m = ws.length + 4 := by rw [← hm]; simp
            have Hm := Lib.hid hm
            clear hm
            go_wp2_with fail
            refine HP.out.mono ?_; rintro e w6 ⟨v6, rfl, ho6, hb6⟩
            obtain ⟨g6, c6', rfl, hc6a, hc6b, hw6⟩ := own_wl ho6 (by simp)
            rw [Hm.out] at hc6a ⊢
            have W6 := Lib.hid hw6
            obtain ⟨q0, q1, q2, q3⟩ := hw6.four
            have Hb6 := Lib.hid (Hbl.out.trans (hb6.mono Hbl.out.size))
            have Ho6 := Lib.hid (Hown.out.below hb6)
            have hm4' : (4 : Int) ≤ (m : Int) := by omega
            have hm1' : (1 : Int) < (m : Int) := by omega
            have hm2' : (2 : Int) < (m : Int) := by omega
            have hm3' : (3 : Int) < (m : Int) := by omega
            have hmn4 : 4 ≤ m := by omega
            have hmmx : m ≤ 1048577 := by omega
            have HM4 := Lib.hid hm4; clear hm4
            clear ho6 hb6 HP Hown Hbl hce hw6
            unfold maxLen at hc6b
            have hm0 : (0 : Int) < (m : Int) := by omega
            go_wp2_with fail
            refine (HD1.out _).mono ?_; rintro e w8 ⟨rfl, hb8⟩
            have Hb8 := Lib.hid (Hb6.out.trans (hb8.mono Hb6.out.size))
            have Ho8 := Lib.hid (Ho6.out.below hb8)
            have W8 := Lib.hid (W6.out.next hb8)
            obtain ⟨q0, q1, q2, q3⟩ := W8.out.four
            clear hb8 Hb6 Ho6 W6 HD1
            go_wp2_with fail
            refine (HD2.out _).mono ?_; rintro e w9 ⟨rfl, hb9⟩
            have Hb9 := Lib.hid (Hb8.out.trans (hb9.mono Hb8.out.size))
            have Ho9 := Lib.hid (Ho8.out.below hb9)
            have W9 := Lib.hid (W8.out.next hb9)
            obtain ⟨q0, q1, q2, q3⟩ := W9.out.four
            clear hb9 Hb8 Ho8 W8 HD2
            cases hr : rdEn line with
            | none =>
              have Hr := Lib.hid (Hbad.out hr)
              have ho12 := Hfin.out.1
              rw [hr] at ho12
              clear hr Hbad Hgood Hfin
              cases o1 with
              | false =>
                clear ho12
                go_wp2_with fail
                go_ret2
                exact RetRe.none Hr.out (HB5.out.trans (Hb9.out.mono HB5.out.size))
              | true =>
                cases o2 with
                | true => cases ho12
                | false =>
                  clear ho12
                  go_wp2_with fail
                  go_ret2
                  exact RetRe.none Hr.out (HB5.out.trans (Hb9.out.mono HB5.out.size))
            | some y =>
              have ho12 := Hfin.out.1
              rw [hr] at ho12
              have hy := Hfin.out.2 y hr
              subst hy
              obtain ⟨hall2, hfl⟩ := Hgood.out _ hr
              rw [Hxs.out] at hfl
              have Hall2 := Lib.hid hall2
              have Hfl := Lib.hid hfl
              have hz9 := Hb9.out.size
              have Hmx := Lib.hid (show k + 1 ≤ maxLen by simp only [maxLen]; omega)
              have Hby := Lib.hid (show (k + 1) * 72 ≤ 140737488355328 by omega)
              have Hmw := Lib.hid (show 0 + (m - 4) ≤ maxLen by simp only [maxLen]; omega)
              have Hbw := Lib.hid (show (0 + (m - 4)) * 16 ≤ 140737488355328 by omega)
              have Hz1 := Lib.hid (show w9.heap.size ≤ (w9.alloc (.cells #[] 9)).drew.heap.size by simp)
              have Hmade := Lib.hid (World.ownsRow_made (base := w9.heap.size) (e := 9) (size := 1) w9 #[] 0 (Nat.le_refl _) (by simp [maxLen]) rfl)
              have Hwn := Lib.hid (show (ws.map Value.string).length = (m - 4) * 1 by rw [List.length_map]; have := HM4.out; omega)
              obtain ⟨o4, ho4⟩ : ∃ o4, o4 = if c6' = 4 then 0 else 4 := ⟨_, rfl⟩
              have Ho4 := Lib.hid ho4; clear ho4
              have Hws := Lib.hid (show ∀ (i : Nat) (u : Value), (ws.map Value.string)[i]? = some u → (w9.alloc (.cells #[] 9)).drew.cell? ⟨g6, o4 + i, none⟩ = some u from fun i u hu => by
                have h5 : o4 = 4 := by
                  rw [Ho4.out, if_neg]
                  intro e
                  have := (List.getElem?_eq_some_iff.1 hu).1
                  rw [List.length_map] at this
                  have := HM4.out
                  omega
                rw [h5]
                exact cell_alloc (w := w9.drew) (W9.out.rest i u hu) _)
              obtain ⟨cs9, hrow9⟩ := Ho9.out.row
              rw [Hxk.out] at hrow9
              have Hrow9 := Lib.hid hrow9
              clear hrow9
              have Hw1 := Lib.hid (strs_one ws)
              clear hr Hbad Hgood Hfin hall2 hfl
              cases o1 with
              | false => cases ho12
              | true =>
                cases o2 with
                | false => cases ho12
                | true =>
                  clear ho12 q0 q3
                  go_wp2_with fail
                  refine wp_region_noPanic ?_
                  refine wp_region_L [16,15] (fun w' => w'.cell? ⟨g6, 1, none⟩ = some (.string b) ∧ w'.cell? ⟨g6, 2, none⟩ = some (.string c)) (by kernel_rfl) (⟨q1, q2⟩) (fun hHeld => ?_)
                  refine take_F (i := 0) (d := some 62) (v := ?_) (by kernel_rfl) (by kernel_rfl) rfl rfl (by kernel_rfl) (by kernel_rfl) (by kernel_rfl) (fun _ _ _ h => h) (Or.inl ⟨by rfl, ?_⟩) (by assumption) ?_
                  rotate_left
                  · (intro w hSw; (try dsimp only at hSw); go_simp; (try rw [if_neg (by omega)]); (try (with_reducible rfl)))
                  simp only [Act.put, List.setIfInBounds_toArray, List.set_cons_zero, List.set_cons_succ]
                  refine take_F (i := 1) (d := some 63) (v := ?_) (by kernel_rfl) (by kernel_rfl) rfl rfl (by kernel_rfl) (by kernel_rfl) (by kernel_rfl) (fun _ _ _ h => h) (Or.inl ⟨by rfl, ?_⟩) (by assumption) ?_
                  rotate_left
                  · (intro w hSw; (try dsimp only at hSw); go_simp; (try rw [if_neg (by omega)]); (try (with_reducible rfl)))
                  simp only [Act.put, List.setIfInBounds_toArray, List.set_cons_zero, List.set_cons_succ]
                  refine take_F (i := 2) (d := some 64) (v := ?_) (by kernel_rfl) (by kernel_rfl) rfl rfl (by kernel_rfl) (by kernel_rfl) (by kernel_rfl) (fun _ _ _ h => h) (Or.inl ⟨by rfl, ?_⟩) (by assumption) ?_
                  rotate_left
                  · (intro w hSw; (try dsimp only at hSw); go_simp; (try rw [if_neg (by omega)]); (try (with_reducible rfl)))
                  simp only [Act.put, List.setIfInBounds_toArray, List.set_cons_zero, List.set_cons_succ]
                  refine take_F (i := 3) (d := some 65) (v := ?_) (by kernel_rfl) (by kernel_rfl) rfl rfl (by kernel_rfl) (by kernel_rfl) (by kernel_rfl) (fun _ _ _ h => h) (Or.inl ⟨by rfl, ?_⟩) (by assumption) ?_
                  rotate_left
                  · (intro w hSw; (try dsimp only at hSw); go_simp; (try rw [if_neg (by omega)]); (try (with_reducible rfl)))
                  simp only [Act.put, List.setIfInBounds_toArray, List.set_cons_zero, List.set_cons_succ]
                  refine take_L [14,13,4] (i := 4) (d := some 66) (v := ?_) (by kernel_rfl) (by kernel_rfl) (by kernel_rfl) (by kernel_rfl) rfl rfl (by kernel_rfl) (by kernel_rfl) (by kernel_rfl) (fun _ _ _ h => h) (Or.inl ⟨by rfl, ?_⟩) (by assumption) ?_
                  rotate_left
                  · (intro w hSw; (try dsimp only at hSw); go_simp; (try rw [if_neg (by omega)]); (try (with_reducible rfl)))
                  simp only [Act.put, List.setIfInBounds_toArray, List.set_cons_zero, List.set_cons_succ]
                  refine take_F (i := 5) (d := some 67) (v := ?_) (by kernel_rfl) (by kernel_rfl) rfl rfl (by kernel_rfl) (by kernel_rfl) (by kernel_rfl) (fun _ _ _ h => h) (Or.inl ⟨by rfl, ?_⟩) (by assumption) ?_
                  rotate_left
                  · (intro w hSw; (try dsimp only at hSw); go_simp; (try rw [if_neg (by omega)]); (try (with_reducible rfl)))
                  simp only [Act.put, List.setIfInBounds_toArray, List.set_cons_zero, List.set_cons_succ]
                  refine take_F (i := 6) (d := some 68) (v := ?_) (by kernel_rfl) (by kernel_rfl) rfl rfl (by kernel_rfl) (by kernel_rfl) (by kernel_rfl) (fun _ _ _ h => h) (Or.inl ⟨by rfl, ?_⟩) (by assumption) ?_
                  rotate_left
                  · (intro w hSw; (try dsimp only at hSw); go_simp; (try rw [if_neg (by omega)]); (try (with_reducible rfl)))
                  simp only [Act.put, List.setIfInBounds_toArray, List.set_cons_zero, List.set_cons_succ]
                  refine take_L [14,13,7] (i := 7) (d := some 69) (v := ?_) (by kernel_rfl) (by kernel_rfl) (by kernel_rfl) (by kernel_rfl) rfl rfl (by kernel_rfl) (by kernel_rfl) (by kernel_rfl) (fun _ _ _ h => h) (Or.inl ⟨by rfl, ?_⟩) (by assumption) ?_
                  rotate_left
                  · (intro w hSw; (try dsimp only at hSw); go_simp; (try rw [if_neg (by omega)]); (try (with_reducible rfl)))
                  simp only [Act.put, List.setIfInBounds_toArray, List.set_cons_zero, List.set_cons_succ]
                  refine take_F (i := 8) (d := some 70) (v := ?_) (by kernel_rfl) (by kernel_rfl) rfl rfl (by kernel_rfl) (by kernel_rfl) (by kernel_rfl) (fun _ _ _ h => h) (Or.inl ⟨by rfl, ?_⟩) (by assumption) ?_
                  rotate_left
                  · (intro w hSw; (try dsimp only at hSw); go_simp; (try rw [if_neg (by omega)]); (try (with_reducible rfl)))
                  simp only [Act.put, List.setIfInBounds_toArray, List.set_cons_zero, List.set_cons_succ]
                  refine take_F (i := 10) (d := some 72) (v := ?_) (by kernel_rfl) (by kernel_rfl) rfl rfl (by kernel_rfl) (by kernel_rfl) (by kernel_rfl) (fun _ _ _ h => h) (Or.inl ⟨by rfl, ?_⟩) (by assumption) ?_
                  rotate_left
                  · (intro w hSw; (try dsimp only at hSw); go_simp; (try rw [if_neg (by omega)]); (try (with_reducible rfl)))
                  simp only [Act.put, List.setIfInBounds_toArray, List.set_cons_zero, List.set_cons_succ]
                  refine take_F (i := 11) (d := some 73) (v := .slice (some ⟨g6, o4, none⟩) (m - 4) (c6' - 4)) (by kernel_rfl) (by kernel_rfl) rfl rfl (by kernel_rfl) (by kernel_rfl) (by kernel_rfl) (fun _ _ _ h => h) (Or.inl ⟨by rfl, ?_⟩) (by assumption) ?_
                  · (intro w hSw; (try dsimp only at hSw); go_simp; rw [Ho4.out]; split <;> rfl)
                  simp only [Act.put, List.setIfInBounds_toArray, List.set_cons_zero, List.set_cons_succ]
                  refine call_L (i := 9) (d := (some 71)) rfl rfl (by kernel_rfl) (fun Kq hKq => ?_)
                  go_simp
                  refine hKq.out _ _ (⟨cell_alloc (w := w9.drew) q1 _, cell_alloc (w := w9.drew) q2 _⟩) (fun hHeld => ?_)
                  clear hKq Kq
                  (try simp only [Act.put, List.setIfInBounds_toArray, List.set_cons_zero, List.set_cons_succ])
                  refine call_L (i := 12) (d := (some 74)) rfl rfl (by kernel_rfl) (fun Kq hKq => ?_)
                  refine step_apr 37 9 _ 1 16 Tryd.underlying37 infoStr rfl (by omega) _ _ (by rfl) (by rfl) w9.heap.size _ 0 [] (by rfl) Hmade.out.drew g6 o4 (m - 4) (c6' - 4) (ws.map Value.string) (by rfl) Hwn.out Hws.out Hw1.out Hmw.out Hbw.out Hz1.out ?_; intro u10 w10 hu10 hg10
                  obtain ⟨hu, hbx⟩ := inner_own hu10 (grown_undrew hg10)
                  obtain ⟨Au, cu, rfl⟩ := sl_of_own hu
                  obtain ⟨_, q1', q2', _⟩ := (W9.out.next hbx).four
                  have Hu := Lib.hid hu
                  have Hbx := Lib.hid hbx
                  have Hrow10 := Lib.hid (own_below Hrow9.out hbx)
                  have hz10 := Nat.le_trans hz9 hbx.size
                  have Hon := Lib.hid (ones5 f t b c Au (m - 4) cu)
                  clear hu hbx hu10 hg10
                  refine hKq.out _ _ (⟨q1', q2'⟩) (fun hHeld => ?_)
                  clear hKq Kq
                  simp only [Act.put, List.setIfInBounds_toArray]
                  refine take_F (i := 13) (d := some 75) (v := ?_) (by kernel_rfl) (by kernel_rfl) rfl rfl (by kernel_rfl) (by kernel_rfl) (by kernel_rfl) (fun _ _ _ h => h) (Or.inl ⟨by rfl, ?_⟩) (by assumption) ?_
                  rotate_left
                  · (intro w hSw; (try dsimp only at hSw); go_simp; (try rw [if_neg (by omega)]); (try (with_reducible rfl)))
                  simp only [Act.put]
                  refine call_L (i := 14) (d := (some 76)) rfl rfl (by kernel_rfl) (fun Kq hKq => ?_)
                  go_simp
                  refine hKq.out _ _ (⟨cell_alloc q1' _, cell_alloc q2' _⟩) (fun hHeld => ?_)
                  clear hKq Kq
                  (try simp only [Act.put, List.setIfInBounds_toArray, List.set_cons_zero, List.set_cons_succ])
                  refine late_L (i := 15) (d := (some 77)) (by kernel_rfl) rfl rfl (by kernel_rfl) (fun Kq hKq => ?_)
                  refine step_apd0 28 82 _ 5 72 Tryd.underlying28 infoE rfl (by omega) _ _ (by rfl) (by rfl) w5.heap.size _ k _ (by rfl) Hrow10.out #[.int .i64 f, .string b, .string c, .int .i64 t, .slice Au (m - 4) cu] 1 1 (by rfl) (by rfl) Hon.out Hmx.out Hby.out hz10 ?_; intro v11 w11 hr11 hg11
                  have Hb11 := Lib.hid (below_apd (Hb9.out.trans (Hbx.out.mono hz9)) Hrow10.out hg11 (Nat.le_refl _) hz10)
                  have Hfin := Lib.hid (HasE.snoc (x := ⟨f, b, c, t, ws⟩) (u := .slice Au (m - 4) cu) (v' := v11) (w2 := w11) Ho9.out hz9 Hbx.out (by have := Hu.out; have e := HM4.out; rw [show m - 4 = ws.length by omega] at this ⊢; exact this) ⟨cs9, by rw [Hxk.out]; exact Hrow10.out, by rw [Hxk.out]; exact hr11, hg11⟩)
                  clear hr11 hg11
                  refine hKq.out _ _ ?_
                  clear hKq Kq
                  simp only [Act.put, List.setIfInBounds_toArray]
                  refine late_L (i := 16) (d := (some 5)) (by kernel_rfl) rfl rfl (by kernel_rfl) (fun Kq hKq => ?_)
                  go_simp
                  refine hKq.out _ _ ?_
                  clear hKq Kq
                  refine done_L (by kernel_rfl) ?_ _
                  refine NoPanic.normal ?_
                  (try go_wp2_with fail)
                  go_roundw
                  case rel => exact ⟨k + 1, _, by omega, by go_num, Hall2.out, Hfl.out, by rw [List.length_append, Hxk.out]; rfl, Hfin.out, Hb11.out⟩
                  case measure => simp [intOf]; omega
          · have hnq : ((splitB 32 line).length : Int) < 4 := by omega
            have Hr := Lib.hid (Hbad.out (rdEn_few (by omega)))
            clear Hbad Hgood
            go_wp2_with fail
            refine HP.out.mono ?_; rintro e w6 ⟨v6, rfl, ho6, hb6⟩
            obtain ⟨A6', c6', rfl⟩ := sl_of_own ho6
            have Hb6 := Lib.hid (Hbl.out.trans (hb6.mono Hbl.out.size))
            generalize (splitB 32 line).length = m at *
            clear ho6 hb6 HP Hown Hbl hce
            go_wp2_with fail
            go_ret2
            exact RetRe.none Hr.out (HB5.out.trans (Hb6.out.mono HB5.out.size))
        · have hkn : k = n := by omega
          subst hkn
          have hlt' : ¬ (k : Int) < (k : Int) := by omega
          have htk : l.take k = l := List.take_of_length_le (by rw [Hdl.out]; exact Nat.le_refl _)
          have hal := Hall.out
          have hxe := Hxs.out
          rw [htk] at hal hxe
          have hr := rdEnts_at Hl.out hal
          have hsm := filterE_sm (l := l) (Nat.le_refl _) HM.out
          rw [hxe] at hr hsm
          have HK := Lib.hid (l25Ok_any wr.heap.size _ xs wr Hown.out.rd (by rw [Hxk.out]; exact hn6) hsm)
          clear hal htk hxe hsm Hall Hxs
          cases hok : entsOk xs with
          | true =>
            have Hr := Lib.hid (hr.trans (if_pos hok))
            rw [hok] at HK
            clear hok hr
            go_wp2_with fail
            refine HK.out.mono ?_; rintro e w9 ⟨rfl, q9, rfl⟩
            go_wp2_with fail
            go_ret2
            exact RetRe.some Hr.out ((Hown.out.drewN q9).le HB5.out.size) (HB5.out.trans ((below_drewN hbl q9).mono HB5.out.size))
          | false =>
            have Hr := Lib.hid (hr.trans (if_neg (by rw [hok]; simp)))
            rw [hok] at HK
            clear hok hr
            go_wp2_with fail
            refine HK.out.mono ?_; rintro e w9 ⟨rfl, q9, rfl⟩
            go_wp2_with fail
            go_ret2
            exact RetRe.none Hr.out (HB5.out.trans ((below_drewN hbl q9).mono HB5.out.size))
end Go.Proofs.YtiddhelabmaghaaDoor
