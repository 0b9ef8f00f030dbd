/- Entries' texts: the program's EntriesText. -/
import Derived.Test.YtplpeeienpaaeaaDoorEn8
import Derived.Test.YtplpeeienpaaeaaDoorEn5
import Derived.Test.YtplpeeienpaaeaaDoorLt1
namespace Go.Proofs.YtplpeeienpaaeaaDoor
open Go.RowKit Go.Joins

/-- texts one after the other -/
def catF {α : Type} (f : α → ByteArray) (xs : List α) : ByteArray := ⟨(xs.flatMap fun x => (f x).data.toList).toArray⟩
theorem catF_step {α : Type} (f : α → ByteArray) (xs : List α) (k : Nat) (hk : k < xs.length) : catF f (xs.take (k + 1)) = catF f (xs.take k) ++ f xs[k] := by
  unfold catF
  rw [List.take_succ_eq_append_getElem hk, List.flatMap_append]
  refine ba_inj ?_
  rw [ByteArray.toList_eq, ByteArray.toList_eq]
  simp
theorem cat0 {α : Type} (f : α → ByteArray) (xs : List α) (T : ByteArray) : T ++ catF f (xs.take 0) = T := by
  refine ba_inj ?_
  rw [ByteArray.toList_eq, ByteArray.toList_eq]
  simp [catF]
def wordT (s : ByteArray) : ByteArray := ⟨#[32]⟩ ++ s
def headE (x : Ent) : ByteArray := decS x.num ++ ⟨#[32]⟩ ++ x.name ++ ⟨#[32]⟩ ++ x.maker ++ ⟨#[32]⟩ ++ decS x.year
def lineE (x : Ent) : ByteArray := headE x ++ catF wordT x.words ++ ⟨#[10]⟩
def txE (xs : List Ent) : ByteArray := if entsOk xs then catF lineE xs else ⟨#[]⟩
theorem ent_facts {x : Ent} (h : entOk x = true) : 0 ≤ x.num ∧ x.num ≤ 1000000 ∧ 0 ≤ x.year ∧ x.year ≤ 3000 ∧ x.words.length ≤ 8 := by
  unfold entOk inB at h
  simp at h
  omega
theorem ents_at {xs : List Ent} (h : entsOk xs = true) (k : Nat) (hk : k < xs.length) : entOk xs[k] = true := by
  unfold entsOk at h
  simp only [Bool.and_eq_true] at h
  have := chk_get h.1 hk
  unfold placeOk at this
  rw [getE_at xs k hk] at this
  simp only [Bool.and_eq_true] at this
  exact this.1
theorem ents_50 {xs : List Ent} (h : entsOk xs = true) : xs.length ≤ 50 := by
  unfold entsOk at h
  simp only [Bool.and_eq_true, decide_eq_true_eq] at h
  exact h.2
theorem five_kept {W w1 : World} {a b c d e : Addr} {x y z t u : Value} (hb : Below W.heap.size W w1) (h : W.cell? a = some x ∧ W.cell? b = some y ∧ W.cell? c = some z ∧ W.cell? d = some t ∧ W.cell? e = some u) :
    w1.cell? a = some x ∧ w1.cell? b = some y ∧ w1.cell? c = some z ∧ w1.cell? d = some t ∧ w1.cell? e = some u :=
  have k {p : Addr} {v : Value} (h : W.cell? p = some v) : w1.cell? p = some v := (hb.cell (World.block_lt_of_cell? W _ h)).trans h
  ⟨k h.1, k h.2.1, k h.2.2.1, k h.2.2.2.1, k h.2.2.2.2⟩
theorem ba_assoc (a b c : ByteArray) : a ++ b ++ c = a ++ (b ++ c) := ByteArray.append_assoc

set_option maxRecDepth 100000 in
set_option maxHeartbeats 3200000 in
theorem EntriesTextI_any (B : Nat) (v : Value) (xs : List Ent) (w : World) (h : RdE w B v xs) (hB : B ≤ w.heap.size) (hl : xs.length ≤ 1048576) (hsm : ∀ x ∈ xs, smE x) (ht : Tab w) :
    Calls Tryd.prog 14 #[v] w fun e w' => e = .returned (.string (txE xs)) ∧ Below w.heap.size w w' := by
  have HV := Lib.hid (ValidI_any B v xs w h hB hl hsm)
  have H := Lib.hid h
  have Ht := Lib.hid ht
  have Hsm := Lib.hid hsm
  obtain ⟨A, c, rfl⟩ := h.slice
  clear h hsm ht
  cases hok : entsOk xs with
  | false =>
    have e0 := Lib.hid (show txE xs = ⟨#[]⟩ by unfold txE; rw [hok]; rfl)
    rw [hok] at HV
    clear hok
    go_enter Tryd.func14, Tryd.ntmps14
    go_wp2_with fail
    refine HV.out.mono ?_; rintro e w1 ⟨rfl, hb1⟩
    go_wp2_with fail
    go_ret
    rw [e0.out]; exact ⟨rfl, hb1⟩
  | true =>
    have e0 := Lib.hid (show txE xs = catF lineE xs by unfold txE; rw [hok]; rfl)
    have HG := Lib.hid (fun k hk => ents_at hok k hk)
    have h60 := ents_50 hok
    rw [hok] at HV
    clear hok
    go_enter Tryd.func14, Tryd.ntmps14
    go_wp2_with fail
    refine HV.out.mono ?_; rintro e w1 ⟨rfl, hb1⟩
    go_wp2_with fail
    go_loopw [3, 13] (fun o i wr => ∃ (k : Nat), k ≤ xs.length ∧ i = .int .i64 k ∧ o = .string (catF lineE (xs.take k)) ∧ (catF lineE (xs.take k)).size ≤ k * 10485900 ∧ Below w.heap.size w wr) (fun _ i _ => xs.length - (intOf i).toNat)
    case atStart => exact ⟨0, Nat.zero_le _, rfl, rfl, Nat.le_refl _, hb1⟩
    case round =>
      obtain ⟨k, hk, rfl, rfl, hsz, hbl⟩ := hrel
      by_cases hlt : k < xs.length
      · have HL := Lib.hid (H.out.below (hbl.mono hB))
        obtain ⟨b1, o1, A3, c3, hA, hE⟩ := HL.out.at k hlt
        subst hA
        have hlt' : (k : Int) < (xs.length : Int) := by omega
        have hsx := Hsm.out xs[k] (List.getElem_mem hlt)
        have hgx := HG.out k hlt
        have hst := catF_step lineE xs k hlt
        have hzB : B ≤ wr.heap.size := Nat.le_trans hB hbl.size
        have hz1 : b1 < wr.heap.size := Nat.lt_of_lt_of_le hE.lt hzB
        obtain ⟨T', hT0⟩ : ∃ X, X = catF lineE (xs.take (k + 1)) := ⟨_, rfl⟩
        rw [← hT0] at hst
        have HT' := Lib.hid hT0; clear hT0
        generalize catF lineE (xs.take k) = T at *
        generalize xs[k] = x at *
        obtain ⟨d1, d2, d3, d4, d5⟩ := ent_facts hgx
        have s1 := decS_size x.num (by omega) (by omega)
        have s2 := decS_size x.year (by omega) (by omega)
        have HA := Lib.hid (fun wx hx => Decimal_any x.num wx (by omega) (by omega) hx)
        have HB := Lib.hid (fun wx hx => Decimal_any x.year wx (by omega) (by omega) hx)
        have HLx := Lib.hid (show lineE x = decS x.num ++ ⟨#[32]⟩ ++ x.name ++ ⟨#[32]⟩ ++ x.maker ++ ⟨#[32]⟩ ++ decS x.year ++ catF wordT x.words ++ ⟨#[10]⟩ from rfl)
        generalize lineE x = L at *
        obtain ⟨num, name, maker, year, ws⟩ := x
        obtain ⟨hs1, hs2, _, hs4⟩ := hsx
        obtain ⟨hbB, e0, e1, e2, e3, e4, ew⟩ := hE
        dsimp only at e0 e1 e2 e3 e4 ew HA HB HLx s1 s2 hs1 hs2 hs4 d1 d2 d3 d4 d5
        clear hgx d1 d2 d3 d4
        have Hs4 := Lib.hid hs4; clear hs4
        generalize decS num = D at *
        generalize decS year = E at *
        have p1 : (D ++ ⟨#[32]⟩ : ByteArray).size = D.size + 1 := ByteArray.size_append
        have p2 : (D ++ ⟨#[32]⟩ ++ name : ByteArray).size = D.size + 1 + name.size := by rw [ByteArray.size_append, p1]
        have p3 : (D ++ ⟨#[32]⟩ ++ name ++ ⟨#[32]⟩ : ByteArray).size = D.size + 1 + name.size + 1 := by rw [ByteArray.size_append, p2]; rfl
        have p4 : (D ++ ⟨#[32]⟩ ++ name ++ ⟨#[32]⟩ ++ maker : ByteArray).size = D.size + 1 + name.size + 1 + maker.size := by rw [ByteArray.size_append, p3]
        have p5 : (D ++ ⟨#[32]⟩ ++ name ++ ⟨#[32]⟩ ++ maker ++ ⟨#[32]⟩ : ByteArray).size = D.size + 1 + name.size + 1 + maker.size + 1 := by rw [ByteArray.size_append, p4]; rfl
        have p6 : (D ++ ⟨#[32]⟩ ++ name ++ ⟨#[32]⟩ ++ maker ++ ⟨#[32]⟩ ++ E : ByteArray).size = D.size + 1 + name.size + 1 + maker.size + 1 + E.size := by rw [ByteArray.size_append, p5]
        have Hbl := Lib.hid (hbl.trans (((Below.refl wr.heap.size wr).alloc (Nat.le_refl _) (.cells #[.int .i64 num, .string name, .string maker, .int .i64 year, .slice A3 ws.length c3] 60)).mono hbl.size))
        have Hba := Lib.hid ((Below.refl wr.heap.size wr).alloc (Nat.le_refl _) (.cells #[.int .i64 num, .string name, .string maker, .int .i64 year, .slice A3 ws.length c3] 60))
        have Hnw := Lib.hid (heap_alloc_new wr (.cells #[.int .i64 num, .string name, .string maker, .int .i64 year, .slice A3 ws.length c3] 60))
        have Hew := Lib.hid ew
        clear hbl HL ew
        go_wp2_with fail
        obtain ⟨f0, f1, f2, f3, f4⟩ := five_at Hnw.out
        generalize wr.alloc (.cells #[.int .i64 num, .string name, .string maker, .int .i64 year, .slice A3 ws.length c3] 60) = wn at *
        have hacc := Hbl.out.drew
        have hac2 := Hba.out.drew
        clear e0 e1 e2 e3 e4
        refine wp_region_noPanic ?_
        refine wp_region_L [] (fun w' => w'.cell? ⟨wr.heap.size, 0, none⟩ = some (.int .i64 num) ∧ w'.cell? ⟨wr.heap.size, 1, none⟩ = some (.string name) ∧ w'.cell? ⟨wr.heap.size, 2, none⟩ = some (.string maker) ∧ w'.cell? ⟨wr.heap.size, 3, none⟩ = some (.int .i64 year) ∧ w'.cell? ⟨wr.heap.size, 4, none⟩ = some (.slice A3 ws.length c3)) (by kernel_rfl) (⟨f0, f1, f2, f3, f4⟩) (fun hHeld => ?_)
        refine take_F (i := 0) (d := some 17) (v := ?_) (by kernel_rfl) (by kernel_rfl) rfl rfl (by kernel_rfl) (by kernel_rfl) (by kernel_rfl) (fun _ _ _ h => h) (Or.inl ⟨by rfl, ?_⟩) (by assumption) ?_
        rotate_left
        · (intro w hSw; (try dsimp only at hSw); go_simp; (try rw [if_neg (by omega)]); (try (with_reducible rfl)))
        simp only [Act.put, List.setIfInBounds_toArray, List.set_cons_zero, List.set_cons_succ]
        refine take_F (i := 1) (d := some 18) (v := ?_) (by kernel_rfl) (by kernel_rfl) rfl rfl (by kernel_rfl) (by kernel_rfl) (by kernel_rfl) (fun _ _ _ h => h) (Or.inl ⟨by rfl, ?_⟩) (by assumption) ?_
        rotate_left
        · (intro w hSw; (try dsimp only at hSw); go_simp; (try rw [if_neg (by omega)]); (try (with_reducible rfl)))
        simp only [Act.put, List.setIfInBounds_toArray, List.set_cons_zero, List.set_cons_succ]
        refine take_L [2] (i := 2) (d := some 19) (v := ?_) (by kernel_rfl) (by kernel_rfl) (by kernel_rfl) (by kernel_rfl) rfl rfl (by kernel_rfl) (by kernel_rfl) (by kernel_rfl) (fun _ _ _ h => h) (Or.inl ⟨by rfl, ?_⟩) (by assumption) ?_
        rotate_left
        · (intro w hSw; (try dsimp only at hSw); go_simp; (try rw [if_neg (by omega)]); (try (with_reducible rfl)))
        simp only [Act.put, List.setIfInBounds_toArray, List.set_cons_zero, List.set_cons_succ]
        refine take_F (i := 5) (d := some 22) (v := ?_) (by kernel_rfl) (by kernel_rfl) rfl rfl (by kernel_rfl) (by kernel_rfl) (by kernel_rfl) (fun _ _ _ h => h) (Or.inl ⟨by rfl, ?_⟩) (by assumption) ?_
        rotate_left
        · (intro w hSw; (try dsimp only at hSw); go_simp; (try rw [if_neg (by omega)]); (try (with_reducible rfl)))
        simp only [Act.put, List.setIfInBounds_toArray, List.set_cons_zero, List.set_cons_succ]
        refine take_L [6] (i := 6) (d := some 23) (v := ?_) (by kernel_rfl) (by kernel_rfl) (by kernel_rfl) (by kernel_rfl) rfl rfl (by kernel_rfl) (by kernel_rfl) (by kernel_rfl) (fun _ _ _ h => h) (Or.inl ⟨by rfl, ?_⟩) (by assumption) ?_
        rotate_left
        · (intro w hSw; (try dsimp only at hSw); go_simp; (try rw [if_neg (by omega)]); (try (with_reducible rfl)))
        simp only [Act.put, List.setIfInBounds_toArray, List.set_cons_zero, List.set_cons_succ]
        refine take_F (i := 9) (d := some 26) (v := ?_) (by kernel_rfl) (by kernel_rfl) rfl rfl (by kernel_rfl) (by kernel_rfl) (by kernel_rfl) (fun _ _ _ h => h) (Or.inl ⟨by rfl, ?_⟩) (by assumption) ?_
        rotate_left
        · (intro w hSw; (try dsimp only at hSw); go_simp; (try rw [if_neg (by omega)]); (try (with_reducible rfl)))
        simp only [Act.put, List.setIfInBounds_toArray, List.set_cons_zero, List.set_cons_succ]
        refine take_L [10] (i := 10) (d := some 27) (v := ?_) (by kernel_rfl) (by kernel_rfl) (by kernel_rfl) (by kernel_rfl) rfl rfl (by kernel_rfl) (by kernel_rfl) (by kernel_rfl) (fun _ _ _ h => h) (Or.inl ⟨by rfl, ?_⟩) (by assumption) ?_
        rotate_left
        · (intro w hSw; (try dsimp only at hSw); go_simp; (try rw [if_neg (by omega)]); (try (with_reducible rfl)))
        simp only [Act.put, List.setIfInBounds_toArray, List.set_cons_zero, List.set_cons_succ]
        refine take_F (i := 13) (d := some 30) (v := ?_) (by kernel_rfl) (by kernel_rfl) rfl rfl (by kernel_rfl) (by kernel_rfl) (by kernel_rfl) (fun _ _ _ h => h) (Or.inl ⟨by rfl, ?_⟩) (by assumption) ?_
        rotate_left
        · (intro w hSw; (try dsimp only at hSw); go_simp; (try rw [if_neg (by omega)]); (try (with_reducible rfl)))
        simp only [Act.put, List.setIfInBounds_toArray, List.set_cons_zero, List.set_cons_succ]
        refine take_L [14] (i := 14) (d := some 31) (v := ?_) (by kernel_rfl) (by kernel_rfl) (by kernel_rfl) (by kernel_rfl) rfl rfl (by kernel_rfl) (by kernel_rfl) (by kernel_rfl) (fun _ _ _ h => h) (Or.inl ⟨by rfl, ?_⟩) (by assumption) ?_
        rotate_left
        · (intro w hSw; (try dsimp only at hSw); go_simp; (try rw [if_neg (by omega)]); (try (with_reducible rfl)))
        simp only [Act.put, List.setIfInBounds_toArray, List.set_cons_zero, List.set_cons_succ]
        refine call_L (i := 3) (d := (some 20)) rfl rfl (by kernel_rfl) (fun Kq hKq => ?_)
        go_simp
        go_at_call 30
        refine (HA.out _ (Ht.out.below hacc)).mono ?_; rintro e w5 ⟨rfl, hb5⟩
        have hS5 := five_kept hb5 ⟨f0, f1, f2, f3, f4⟩
        have hacc5 := hacc.trans (hb5.mono hacc.size)
        have hac5 := hac2.trans (hb5.mono hac2.size)
        clear hacc hac2 hb5
        (try go_wp2_with fail)
        refine hKq.out _ _ (hS5) (fun hHeld => ?_)
        clear hKq Kq
        (try simp only [Act.put, List.setIfInBounds_toArray, List.set_cons_zero, List.set_cons_succ])
        refine take_F (i := 4) (d := some 21) (v := ?_) (by kernel_rfl) (by kernel_rfl) rfl rfl (by kernel_rfl) (by kernel_rfl) (by kernel_rfl) (fun _ _ _ h => h) (Or.inl ⟨by rfl, ?_⟩) (by assumption) ?_
        rotate_left
        · (intro w hSw; (try dsimp only at hSw); go_simp; (try rw [if_neg (by omega)]); (try (with_reducible rfl)))
        simp only [Act.put, List.setIfInBounds_toArray, List.set_cons_zero, List.set_cons_succ]
        refine take_F (i := 7) (d := some 24) (v := ?_) (by kernel_rfl) (by kernel_rfl) rfl rfl (by kernel_rfl) (by kernel_rfl) (by kernel_rfl) (fun _ _ _ h => h) (Or.inl ⟨by rfl, ?_⟩) (by assumption) ?_
        rotate_left
        · (intro w hSw; (try dsimp only at hSw); go_simp; (try rw [if_neg (by omega)]); (try (with_reducible rfl)))
        simp only [Act.put, List.setIfInBounds_toArray, List.set_cons_zero, List.set_cons_succ]
        refine take_F (i := 8) (d := some 25) (v := ?_) (by kernel_rfl) (by kernel_rfl) rfl rfl (by kernel_rfl) (by kernel_rfl) (by kernel_rfl) (fun _ _ _ h => h) (Or.inl ⟨by rfl, ?_⟩) (by assumption) ?_
        rotate_left
        · (intro w hSw; (try dsimp only at hSw); go_simp; (try rw [if_neg (by omega)]); (try (with_reducible rfl)))
        simp only [Act.put, List.setIfInBounds_toArray, List.set_cons_zero, List.set_cons_succ]
        refine take_F (i := 11) (d := some 28) (v := ?_) (by kernel_rfl) (by kernel_rfl) rfl rfl (by kernel_rfl) (by kernel_rfl) (by kernel_rfl) (fun _ _ _ h => h) (Or.inl ⟨by rfl, ?_⟩) (by assumption) ?_
        rotate_left
        · (intro w hSw; (try dsimp only at hSw); go_simp; (try rw [if_neg (by omega)]); (try (with_reducible rfl)))
        simp only [Act.put, List.setIfInBounds_toArray, List.set_cons_zero, List.set_cons_succ]
        refine take_F (i := 12) (d := some 29) (v := ?_) (by kernel_rfl) (by kernel_rfl) rfl rfl (by kernel_rfl) (by kernel_rfl) (by kernel_rfl) (fun _ _ _ h => h) (Or.inl ⟨by rfl, ?_⟩) (by assumption) ?_
        rotate_left
        · (intro w hSw; (try dsimp only at hSw); go_simp; (try rw [if_neg (by omega)]); (try (with_reducible rfl)))
        simp only [Act.put, List.setIfInBounds_toArray, List.set_cons_zero, List.set_cons_succ]
        refine call_L (i := 15) (d := (some 32)) rfl rfl (by kernel_rfl) (fun Kq hKq => ?_)
        go_simp
        go_at_call 30
        refine (HB.out _ (Ht.out.below hacc5)).mono ?_; rintro e w6 ⟨rfl, hb6⟩
        have hS6 := five_kept hb6 hS5
        have hacc := hacc5.trans (hb6.mono hacc5.size)
        have hac2 := hac5.trans (hb6.mono hac5.size)
        clear hacc5 hac5 hb6
        (try go_wp2_with fail)
        refine hKq.out _ _ (hS6) (fun hHeld => ?_)
        clear hKq Kq
        (try simp only [Act.put, List.setIfInBounds_toArray, List.set_cons_zero, List.set_cons_succ])
        refine take_F (i := 16) (d := some 33) (v := ?_) (by kernel_rfl) (by kernel_rfl) rfl rfl (by kernel_rfl) (by kernel_rfl) (by kernel_rfl) (fun _ _ _ h => h) (Or.inl ⟨by rfl, ?_⟩) (by assumption) ?_
        rotate_left
        · (intro w hSw; (try dsimp only at hSw); go_simp; (try rw [if_neg (by omega)]); (try (with_reducible rfl)))
        simp only [Act.put, List.setIfInBounds_toArray, List.set_cons_zero, List.set_cons_succ]
        refine take_F (i := 17) (d := some 34) (v := ?_) (by kernel_rfl) (by kernel_rfl) rfl rfl (by kernel_rfl) (by kernel_rfl) (by kernel_rfl) (fun _ _ _ h => h) (Or.inl ⟨by rfl, ?_⟩) (by assumption) ?_
        rotate_left
        · (intro w hSw; (try dsimp only at hSw); go_simp; (try rw [if_neg (by omega)]); (try (with_reducible rfl)))
        simp only [Act.put, List.setIfInBounds_toArray, List.set_cons_zero, List.set_cons_succ]
        refine take_F (i := 18) (d := some 3) (v := ?_) (by kernel_rfl) (by kernel_rfl) rfl rfl (by kernel_rfl) (by kernel_rfl) (by kernel_rfl) (fun _ _ _ h => h) (Or.inl ⟨by rfl, ?_⟩) (by assumption) ?_
        rotate_left
        · (intro w hSw; (try dsimp only at hSw); go_simp; (try rw [if_neg (by omega)]); (try (with_reducible rfl)))
        simp only [Act.put, List.setIfInBounds_toArray, List.set_cons_zero, List.set_cons_succ]
        refine done_L (by kernel_rfl) ?_ _
        refine NoPanic.normal ?_
        obtain ⟨_, _, _, _, g4⟩ := hS6
        have Hws := Lib.hid (Hew.out.below (hac2.mono hzB))
        have hB6 : B ≤ w6.heap.size := Nat.le_trans hzB hac2.size
        clear hac2
        have q1 : (T ++ (D ++ ⟨#[32]⟩ ++ name ++ ⟨#[32]⟩ ++ maker ++ ⟨#[32]⟩ ++ E) : ByteArray).size ≤ k * 10485900 + 2097250 := by rw [ByteArray.size_append, p6]; omega
        have hfin : T ++ (D ++ ⟨#[32]⟩ ++ name ++ ⟨#[32]⟩ ++ maker ++ ⟨#[32]⟩ ++ E) ++ catF wordT ws ++ ⟨#[10]⟩ = T' := by rw [hst, HLx.out]; simp only [ba_assoc]
        clear p1 p2 p3 p4 p5 p6 HLx hst HA HB
        generalize T ++ (D ++ ⟨#[32]⟩ ++ name ++ ⟨#[32]⟩ ++ maker ++ ⟨#[32]⟩ ++ E) = T1 at *
        have Hfin := Lib.hid hfin; clear hfin
        go_wp2_with fail
        go_loopw [3, 38] (fun o i wy => ∃ (j : Nat), j ≤ ws.length ∧ i = .int .i64 j ∧ o = .string (T1 ++ catF wordT (ws.take j)) ∧ (T1 ++ catF wordT (ws.take j)).size ≤ k * 10485900 + 2097250 + j * 1048577 ∧ wy = w6) (fun _ i _ => ws.length - (intOf i).toNat)
        case atStart => exact ⟨0, Nat.zero_le _, rfl, by rw [cat0], by rw [cat0]; omega, rfl⟩
        case round =>
          obtain ⟨j, hj, rfl, rfl, hz, rfl⟩ := hrel
          by_cases hlj : j < ws.length
          · obtain ⟨_, b2, o2, hA2, hx2⟩ := rd_at Hws.out j hlj
            subst hA2
            have hlj' : (j : Int) < (ws.length : Int) := by omega
            have hsw := Hs4.out ws[j] (List.getElem_mem hlj)
            have hstw := catF_step wordT ws j hlj
            obtain ⟨V', hV0⟩ : ∃ X, X = catF wordT (ws.take (j + 1)) := ⟨_, rfl⟩
            rw [← hV0] at hstw
            have HV' := Lib.hid hV0; clear hV0
            generalize catF wordT (ws.take j) = V at *
            generalize ws[j] = sx at *
            have hcat : T1 ++ V ++ (⟨#[32]⟩ ++ sx) = T1 ++ V' := by rw [hstw, ba_assoc]; rfl
            have r1 : (⟨#[32]⟩ ++ sx : ByteArray).size = 1 + sx.size := ByteArray.size_append
            have hz2 : (T1 ++ V').size ≤ k * 10485900 + 2097250 + (j + 1) * 1048577 := by rw [← hcat, ByteArray.size_append, r1]; omega
            have hb2 := World.block_lt_of_cell? _ _ hx2
            have Hcat := Lib.hid hcat; clear hcat hstw
            generalize T1 ++ V = U at *
            go_wp2_with fail
            go_roundw
            case rel => exact ⟨j + 1, by omega, by go_num, by rw [Hcat.out, HV'.out], by rw [← HV'.out]; exact hz2, by trivial⟩
            case measure => simp [intOf]; omega
          · have hd : ws.take j = ws := List.take_of_length_le (by omega)
            rw [hd] at hz
            rw [hd]
            clear hd
            have hlj' : (ws.length : Int) ≤ (j : Int) := by omega
            have hT : T'.size ≤ (k + 1) * 10485900 := by rw [← Hfin.out, ByteArray.size_append]; show _ + 1 ≤ _; omega
            generalize T1 ++ catF wordT ws = U at *
            go_wp2_with fail
            go_roundw
            case rel => exact ⟨k + 1, by omega, by go_num, by rw [Hfin.out, HT'.out], by rw [← HT'.out]; exact hT, hacc⟩
            case measure => simp [intOf]; omega
      · have hd : xs.take k = xs := List.take_of_length_le (by omega)
        rw [hd]
        clear hd
        have hlt' : (xs.length : Int) ≤ (k : Int) := by omega
        go_wp2_with fail
        go_ret
        rw [e0.out]; exact ⟨rfl, hbl⟩
end Go.Proofs.YtplpeeienpaaeaaDoor
