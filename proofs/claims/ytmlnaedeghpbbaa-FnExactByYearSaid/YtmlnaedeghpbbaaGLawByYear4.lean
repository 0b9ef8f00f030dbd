/- Merged texts: En8, En4, En5, En9, Si1, Reg1, Si2, Si3, Si4, By10, By0, By11. -/
import Derived.Test.YtmlnaedeghpbbaaGLawByYear3
import Derived.Test.YtmlnaedeghpbbaaGLawByYear1
import Derived.Lib.SmallJoins
import Derived.Test.YtmlnaedeghpbbaaGLawByYear2
/- Entries, part 8 (regions' steps by heldsteps.py): ValidEntries on both sides. -/
namespace Go.Proofs.Ytmlnaedeghpbbaa
open Go.RowKit Go.Joins

def noEnt : Ent := ⟨0, ⟨#[]⟩, ⟨#[]⟩, 0, []⟩
def placeOk (xs : List Ent) (i : Nat) : Bool := entOk (xs.getD i noEnt) && (decide (i = 0) || decide ((xs.getD (i - 1) noEnt).num < (xs.getD i noEnt).num))
def entsOk (xs : List Ent) : Bool := chk xs.length (placeOk xs) && decide (xs.length ≤ 50)
theorem getE_at (l : List Ent) (k : Nat) (hk : k < l.length) : l.getD k noEnt = l[k] := by simp [List.getD, hk]
theorem place_no (l : List Ent) (k : Nat) (hk : k < l.length) (h : entOk l[k] = false) : placeOk l k = false := by unfold placeOk; rw [getE_at l k hk, h]; rfl
theorem place_0 (l : List Ent) (hk : 0 < l.length) (h : entOk l[0] = true) : placeOk l 0 = true := by unfold placeOk; rw [getE_at l 0 hk, h]; rfl
theorem place_s (l : List Ent) (k : Nat) (hk : k + 1 < l.length) (h : entOk l[k + 1] = true) : placeOk l (k + 1) = decide (l[k].num < l[k + 1].num) := by
  unfold placeOk
  rw [getE_at l (k + 1) hk, h, show k + 1 - 1 = k by omega, getE_at l k (by omega)]
  simp
theorem ents_no {l : List Ent} (k : Nat) (hk : k < l.length) (h : placeOk l k = false) : entsOk l = false := by unfold entsOk; rw [chk_bad k hk h]; rfl
theorem five_at {w : World} {g : Nat} {a b c d e : Value} {t : TypeId} (h : w.heap[g]? = some (.cells #[a, b, c, d, e] t (0, 0))) :
    w.cell? ⟨g, 0, none⟩ = some a ∧ w.cell? ⟨g, 1, none⟩ = some b ∧ w.cell? ⟨g, 2, none⟩ = some c ∧ w.cell? ⟨g, 3, none⟩ = some d ∧ w.cell? ⟨g, 4, none⟩ = some e := by
  obtain ⟨h0, h1, h2, h3, h4, _⟩ := blk5 h
  exact ⟨h0, h1, h2, h3, h4⟩
theorem six_at {w : World} {g : Nat} {a b c d e v : Value} {q : Addr} {t : TypeId} (h : w.heap[g]? = some (.cells #[a, b, c, d, e] t (0, 0))) (hq : w.cell? q = some v) :
    w.cell? ⟨g, 0, none⟩ = some a ∧ w.cell? ⟨g, 1, none⟩ = some b ∧ w.cell? ⟨g, 2, none⟩ = some c ∧ w.cell? ⟨g, 3, none⟩ = some d ∧ w.cell? ⟨g, 4, none⟩ = some e ∧ w.cell? q = some v := by
  obtain ⟨h0, h1, h2, h3, h4, _⟩ := blk5 h
  exact ⟨h0, h1, h2, h3, h4, hq⟩

set_option maxRecDepth 100000 in
set_option maxHeartbeats 3200000 in
theorem ValidI_any (B : Nat) (v : Value) (xs : List Ent) (w : World) (h : RdE w B v xs) (hB : B ≤ w.heap.size) (hl : xs.length ≤ 1048576) (hsm : ∀ x ∈ xs, smE x) :
    Calls Try.prog 17 #[v] w fun e w' => e = .returned (.bool (entsOk xs)) ∧ Below w.heap.size w w' := by
  have H := Lib.hid h
  have Hsm := Lib.hid hsm
  obtain ⟨A, c, rfl⟩ := h.slice
  clear h hsm
  have hb0 := Below.refl w.heap.size w
  go_enter Try.func17, Try.ntmps17
  go_wp2_with fail
  go_loopw [7] (fun i wr => ∃ k : Nat, k ≤ xs.length ∧ chk k (placeOk xs) = true ∧ i = .int .i64 k ∧ Below w.heap.size w wr) (fun i _ => xs.length - (intOf i).toNat)
  case atStart => exact ⟨0, Nat.zero_le _, rfl, rfl, hb0⟩
  case round =>
    obtain ⟨k, hk, hall, rfl, hbl⟩ := hrel
    have Hall := Lib.hid hall; clear hall
    by_cases hlt : k < xs.length
    · obtain ⟨b1, o1, A3, c3, hA, hE⟩ := (H.out.below (hbl.mono hB)).at k hlt
      have HA := Lib.hid hA
      have hlt' : (k : Int) < (xs.length : Int) := by omega
      have Hbad := Lib.hid (fun h => ents_no (l := xs) k hlt h)
      have Hst := Lib.hid (fun h => chk_step (f := placeOk xs) (k := k) Hall.out h)
      have Hn := Lib.hid (fun h => place_no xs k hlt h)
      have hsx := Lib.hid (Hsm.out xs[k] (List.getElem_mem hlt))
      have hzB : B ≤ wr.heap.size := Nat.le_trans hB hbl.size
      have hz1 : b1 < wr.heap.size := Nat.lt_of_lt_of_le hE.lt hzB
      cases k with
      | zero =>
        have H0 := Lib.hid (fun h => place_0 xs hlt h)
        generalize xs[0] = x at *
        subst hA
        clear HA
        obtain ⟨num, name, maker, year, words⟩ := x
        have HV := Lib.hid (fun wx hx hz => validEntry_any B ⟨num, name, maker, year, words⟩ A3 c3 wx hx hz hsx.out)
        obtain ⟨hbB, e0, e1, e2, e3, e4, ew⟩ := hE
        dsimp only at e0 e1 e2 e3 e4 ew
        rw [Nat.zero_mul, Nat.add_zero] at e0 e1 e2 e3 e4
        have hba := (Below.refl wr.heap.size wr).alloc (Nat.le_refl _) (.cells #[.int .i64 num, .string name, .string maker, .int .i64 year, .slice A3 words.length c3] 39)
        have hnw := heap_alloc_new wr (.cells #[.int .i64 num, .string name, .string maker, .int .i64 year, .slice A3 words.length c3] 39)
        have hlw : wr.heap.size < (wr.alloc (.cells #[.int .i64 num, .string name, .string maker, .int .i64 year, .slice A3 words.length c3] 39)).heap.size := by simp
        have Hnw := Lib.hid hnw
        have Hba := Lib.hid hba
        have Hbl := Lib.hid hbl
        have Hew := Lib.hid ew
        clear hba hbl ew hnw
        cases g : entOk ⟨num, name, maker, year, words⟩ with
        | false =>
          have hf := Lib.hid (Hbad.out (Hn.out g))
          rw [g] at HV
          clear Hbad Hst Hn g H0
          go_wp2_with fail
          obtain ⟨f0, f1, f2, f3, f4, _⟩ := blk5 Hnw.out
          have hacc : Below wr.heap.size wr (wr.alloc (.cells #[.int .i64 num, .string name, .string maker, .int .i64 year, .slice A3 words.length c3] 39)).drew := Hba.out.drew
          generalize wr.alloc (.cells #[.int .i64 num, .string name, .string maker, .int .i64 year, .slice A3 words.length c3] 39) = wn at *
          refine wp_region_noPanic ?_
          refine wp_region_held_drew (S := fun w' => w'.cell? ⟨wr.heap.size, 0, none⟩ = some (.int .i64 num) ∧ w'.cell? ⟨wr.heap.size, 1, none⟩ = some (.string name) ∧ w'.cell? ⟨wr.heap.size, 2, none⟩ = some (.string maker) ∧ w'.cell? ⟨wr.heap.size, 3, none⟩ = some (.int .i64 year) ∧ w'.cell? ⟨wr.heap.size, 4, none⟩ = some (.slice A3 words.length c3)) (by kernel_rfl) (by (try dsimp only); first | go_keep | assumption) (fun hHeld => ?_)
          refine take_d (i := 0) (d := some 12) (v := ?_) rfl rfl (by kernel_rfl) (by kernel_rfl) (by kernel_rfl) (fun _ _ _ h => h) (Or.inl ⟨by rfl, ?_⟩) (by assumption) ?_
          rotate_left
          · (intro w hSw; (try dsimp only at hSw); go_simp; (try (with_reducible rfl)))
          simp only [Act.put, List.setIfInBounds_toArray, List.set_cons_zero, List.set_cons_succ]
          refine call_d (i := 1) (d := some 13) rfl rfl (by kernel_rfl) (fun K hK => ?_)
          go_simp
          (go_at_call 26; ((with_reducible refine (HV.out _ (Hew.out.below (hacc.mono hzB)) (Nat.le_trans hzB hacc.size)).mono ?_)); rintro e wq ⟨rfl, hbq⟩; have hSq := five_at ((hbq.block _ hlw).trans Hnw.out); have hacc' := hacc.trans (hbq.mono hacc.size); clear hacc; have hacc := hacc'; clear hacc')
          (try (go_wp2_with fail))
          refine hK.out _ _ (hSq) (fun hHeld => ?_)
          clear hK K
          (try simp only [Act.put, List.setIfInBounds_toArray, List.set_cons_zero, List.set_cons_succ])
          refine take_d (i := 2) (d := some 14) (v := ?_) rfl rfl (by kernel_rfl) (by kernel_rfl) (by kernel_rfl) (fun _ _ _ h => h) (Or.inl ⟨by rfl, ?_⟩) (by assumption) ?_
          rotate_left
          · (intro w hSw; (try dsimp only at hSw); go_simp; (try (with_reducible rfl)))
          simp only [Act.put, List.setIfInBounds_toArray, List.set_cons_zero, List.set_cons_succ]
          refine take_d (i := 3) (d := some 15) (v := ?_) rfl rfl (by kernel_rfl) (by kernel_rfl) (by kernel_rfl) (fun _ _ _ h => h) (Or.inl ⟨by rfl, ?_⟩) (by assumption) ?_
          rotate_left
          · (intro w hSw; (try dsimp only at hSw); go_simp; (try (with_reducible rfl)))
          simp only [Act.put, List.setIfInBounds_toArray, List.set_cons_zero, List.set_cons_succ]
          refine take_d (i := 4) (d := some 16) (v := undef) rfl rfl (by kernel_rfl) (by kernel_rfl) (by kernel_rfl) (fun _ _ _ h => h) (Or.inr ⟨by rfl, rfl⟩) (by assumption) ?_
          simp only [Act.put, List.setIfInBounds_toArray, List.set_cons_zero, List.set_cons_succ]
          refine take_d (i := 5) (d := some 17) (v := undef) rfl rfl (by kernel_rfl) (by kernel_rfl) (by kernel_rfl) (fun _ _ _ h => h) (Or.inr ⟨by rfl, rfl⟩) (by assumption) ?_
          simp only [Act.put, List.setIfInBounds_toArray, List.set_cons_zero, List.set_cons_succ]
          refine take_d (i := 6) (d := some 18) (v := undef) rfl rfl (by kernel_rfl) (by kernel_rfl) (by kernel_rfl) (fun _ _ _ h => h) (Or.inr ⟨by rfl, rfl⟩) (by assumption) ?_
          simp only [Act.put, List.setIfInBounds_toArray, List.set_cons_zero, List.set_cons_succ]
          refine take_d (i := 7) (d := some 19) (v := undef) rfl rfl (by kernel_rfl) (by kernel_rfl) (by kernel_rfl) (fun _ _ _ h => h) (Or.inr ⟨by rfl, rfl⟩) (by assumption) ?_
          simp only [Act.put, List.setIfInBounds_toArray, List.set_cons_zero, List.set_cons_succ]
          refine take_d (i := 8) (d := some 20) (v := undef) rfl rfl (by kernel_rfl) (by kernel_rfl) (by kernel_rfl) (fun _ _ _ h => h) (Or.inr ⟨by rfl, rfl⟩) (by assumption) ?_
          simp only [Act.put, List.setIfInBounds_toArray, List.set_cons_zero, List.set_cons_succ]
          refine take_d (i := 9) (d := some 21) (v := undef) rfl rfl (by kernel_rfl) (by kernel_rfl) (by kernel_rfl) (fun _ _ _ h => h) (Or.inr ⟨by rfl, rfl⟩) (by assumption) ?_
          simp only [Act.put, List.setIfInBounds_toArray, List.set_cons_zero, List.set_cons_succ]
          refine take_d (i := 10) (d := some 22) (v := undef) rfl rfl (by kernel_rfl) (by kernel_rfl) (by kernel_rfl) (fun _ _ _ h => h) (Or.inr ⟨by rfl, rfl⟩) (by assumption) ?_
          simp only [Act.put, List.setIfInBounds_toArray, List.set_cons_zero, List.set_cons_succ]
          refine take_d (i := 11) (d := some 23) (v := undef) rfl rfl (by kernel_rfl) (by kernel_rfl) (by kernel_rfl) (fun _ _ _ h => h) (Or.inr ⟨by rfl, rfl⟩) (by assumption) ?_
          simp only [Act.put, List.setIfInBounds_toArray, List.set_cons_zero, List.set_cons_succ]
          refine take_d (i := 12) (d := some 24) (v := undef) rfl rfl (by kernel_rfl) (by kernel_rfl) (by kernel_rfl) (fun _ _ _ h => h) (Or.inr ⟨by rfl, rfl⟩) (by assumption) ?_
          simp only [Act.put, List.setIfInBounds_toArray, List.set_cons_zero, List.set_cons_succ]
          refine take_d (i := 13) (d := some 25) (v := undef) rfl rfl (by kernel_rfl) (by kernel_rfl) (by kernel_rfl) (fun _ _ _ h => h) (Or.inr ⟨by rfl, rfl⟩) (by assumption) ?_
          simp only [Act.put, List.setIfInBounds_toArray, List.set_cons_zero, List.set_cons_succ]
          refine take_d (i := 14) (d := some 26) (v := undef) rfl rfl (by kernel_rfl) (by kernel_rfl) (by kernel_rfl) (fun _ _ _ h => h) (Or.inr ⟨by rfl, rfl⟩) (by assumption) ?_
          simp only [Act.put, List.setIfInBounds_toArray, List.set_cons_zero, List.set_cons_succ]
          refine take_d (i := 15) (d := some 27) (v := undef) rfl rfl (by kernel_rfl) (by kernel_rfl) (by kernel_rfl) (fun _ _ _ h => h) (Or.inr ⟨by rfl, rfl⟩) (by assumption) ?_
          simp only [Act.put, List.setIfInBounds_toArray, List.set_cons_zero, List.set_cons_succ]
          refine take_d (i := 16) (d := some 28) (v := undef) rfl rfl (by kernel_rfl) (by kernel_rfl) (by kernel_rfl) (fun _ _ _ h => h) (Or.inr ⟨by rfl, rfl⟩) (by assumption) ?_
          simp only [Act.put, List.setIfInBounds_toArray, List.set_cons_zero, List.set_cons_succ]
          refine take_d (i := 17) (d := some 29) (v := ?_) rfl rfl (by kernel_rfl) (by kernel_rfl) (by kernel_rfl) (fun _ _ _ h => h) (Or.inl ⟨by rfl, ?_⟩) (by assumption) ?_
          rotate_left
          · (intro w hSw; (try dsimp only at hSw); go_simp; (try (with_reducible rfl)))
          simp only [Act.put, List.setIfInBounds_toArray, List.set_cons_zero, List.set_cons_succ]
          refine wpAnyH_done (by kernel_rfl) ?_ _
          refine NoPanic.normal ?_
          go_wp2_with fail
          go_ret
          rw [hf.out]; exact ⟨rfl, Hbl.out.trans (hacc.mono Hbl.out.size)⟩
        | true =>
          have hst := Lib.hid (Hst.out (H0.out g))
          rw [g] at HV
          clear Hbad Hst Hn g H0
          go_wp2_with fail
          obtain ⟨f0, f1, f2, f3, f4, _⟩ := blk5 Hnw.out
          have hacc : Below wr.heap.size wr (wr.alloc (.cells #[.int .i64 num, .string name, .string maker, .int .i64 year, .slice A3 words.length c3] 39)).drew := Hba.out.drew
          generalize wr.alloc (.cells #[.int .i64 num, .string name, .string maker, .int .i64 year, .slice A3 words.length c3] 39) = wn at *
          refine wp_region_noPanic ?_
          refine wp_region_held_drew (S := fun w' => w'.cell? ⟨wr.heap.size, 0, none⟩ = some (.int .i64 num) ∧ w'.cell? ⟨wr.heap.size, 1, none⟩ = some (.string name) ∧ w'.cell? ⟨wr.heap.size, 2, none⟩ = some (.string maker) ∧ w'.cell? ⟨wr.heap.size, 3, none⟩ = some (.int .i64 year) ∧ w'.cell? ⟨wr.heap.size, 4, none⟩ = some (.slice A3 words.length c3)) (by kernel_rfl) (by (try dsimp only); first | go_keep | assumption) (fun hHeld => ?_)
          refine take_d (i := 0) (d := some 12) (v := ?_) rfl rfl (by kernel_rfl) (by kernel_rfl) (by kernel_rfl) (fun _ _ _ h => h) (Or.inl ⟨by rfl, ?_⟩) (by assumption) ?_
          rotate_left
          · (intro w hSw; (try dsimp only at hSw); go_simp; (try (with_reducible rfl)))
          simp only [Act.put, List.setIfInBounds_toArray, List.set_cons_zero, List.set_cons_succ]
          refine call_d (i := 1) (d := some 13) rfl rfl (by kernel_rfl) (fun K hK => ?_)
          go_simp
          (go_at_call 26; ((with_reducible refine (HV.out _ (Hew.out.below (hacc.mono hzB)) (Nat.le_trans hzB hacc.size)).mono ?_)); rintro e wq ⟨rfl, hbq⟩; have hSq := five_at ((hbq.block _ hlw).trans Hnw.out); have hacc' := hacc.trans (hbq.mono hacc.size); clear hacc; have hacc := hacc'; clear hacc')
          (try (go_wp2_with fail))
          refine hK.out _ _ (hSq) (fun hHeld => ?_)
          clear hK K
          (try simp only [Act.put, List.setIfInBounds_toArray, List.set_cons_zero, List.set_cons_succ])
          refine take_d (i := 2) (d := some 14) (v := ?_) rfl rfl (by kernel_rfl) (by kernel_rfl) (by kernel_rfl) (fun _ _ _ h => h) (Or.inl ⟨by rfl, ?_⟩) (by assumption) ?_
          rotate_left
          · (intro w hSw; (try dsimp only at hSw); go_simp; (try (with_reducible rfl)))
          simp only [Act.put, List.setIfInBounds_toArray, List.set_cons_zero, List.set_cons_succ]
          refine take_d (i := 3) (d := some 15) (v := ?_) rfl rfl (by kernel_rfl) (by kernel_rfl) (by kernel_rfl) (fun _ _ _ h => h) (Or.inl ⟨by rfl, ?_⟩) (by assumption) ?_
          rotate_left
          · (intro w hSw; (try dsimp only at hSw); go_simp; (try (with_reducible rfl)))
          simp only [Act.put, List.setIfInBounds_toArray, List.set_cons_zero, List.set_cons_succ]
          refine take_d (i := 4) (d := some 16) (v := ?_) rfl rfl (by kernel_rfl) (by kernel_rfl) (by kernel_rfl) (fun _ _ _ h => h) (Or.inl ⟨by rfl, ?_⟩) (by assumption) ?_
          rotate_left
          · (intro w hSw; (try dsimp only at hSw); go_simp; (try (with_reducible rfl)))
          simp only [Act.put, List.setIfInBounds_toArray, List.set_cons_zero, List.set_cons_succ]
          refine take_d (i := 5) (d := some 17) (v := ?_) rfl rfl (by kernel_rfl) (by kernel_rfl) (by kernel_rfl) (fun _ _ _ h => h) (Or.inl ⟨by rfl, ?_⟩) (by assumption) ?_
          rotate_left
          · (intro w hSw; (try dsimp only at hSw); go_simp; (try (with_reducible rfl)))
          simp only [Act.put, List.setIfInBounds_toArray, List.set_cons_zero, List.set_cons_succ]
          refine take_d (i := 6) (d := some 18) (v := ?_) rfl rfl (by kernel_rfl) (by kernel_rfl) (by kernel_rfl) (fun _ _ _ h => h) (Or.inl ⟨by rfl, ?_⟩) (by assumption) ?_
          rotate_left
          · (intro w hSw; (try dsimp only at hSw); go_simp; (try (with_reducible rfl)))
          simp only [Act.put, List.setIfInBounds_toArray, List.set_cons_zero, List.set_cons_succ]
          refine take_d (i := 7) (d := some 19) (v := undef) rfl rfl (by kernel_rfl) (by kernel_rfl) (by kernel_rfl) (fun _ _ _ h => h) (Or.inr ⟨by rfl, rfl⟩) (by assumption) ?_
          simp only [Act.put, List.setIfInBounds_toArray, List.set_cons_zero, List.set_cons_succ]
          refine take_d (i := 8) (d := some 20) (v := undef) rfl rfl (by kernel_rfl) (by kernel_rfl) (by kernel_rfl) (fun _ _ _ h => h) (Or.inr ⟨by rfl, rfl⟩) (by assumption) ?_
          simp only [Act.put, List.setIfInBounds_toArray, List.set_cons_zero, List.set_cons_succ]
          refine take_d (i := 9) (d := some 21) (v := undef) rfl rfl (by kernel_rfl) (by kernel_rfl) (by kernel_rfl) (fun _ _ _ h => h) (Or.inr ⟨by rfl, rfl⟩) (by assumption) ?_
          simp only [Act.put, List.setIfInBounds_toArray, List.set_cons_zero, List.set_cons_succ]
          refine take_d (i := 10) (d := some 22) (v := undef) rfl rfl (by kernel_rfl) (by kernel_rfl) (by kernel_rfl) (fun _ _ _ h => h) (Or.inr ⟨by rfl, rfl⟩) (by assumption) ?_
          simp only [Act.put, List.setIfInBounds_toArray, List.set_cons_zero, List.set_cons_succ]
          refine take_d (i := 11) (d := some 23) (v := undef) rfl rfl (by kernel_rfl) (by kernel_rfl) (by kernel_rfl) (fun _ _ _ h => h) (Or.inr ⟨by rfl, rfl⟩) (by assumption) ?_
          simp only [Act.put, List.setIfInBounds_toArray, List.set_cons_zero, List.set_cons_succ]
          refine take_d (i := 12) (d := some 24) (v := undef) rfl rfl (by kernel_rfl) (by kernel_rfl) (by kernel_rfl) (fun _ _ _ h => h) (Or.inr ⟨by rfl, rfl⟩) (by assumption) ?_
          simp only [Act.put, List.setIfInBounds_toArray, List.set_cons_zero, List.set_cons_succ]
          refine take_d (i := 13) (d := some 25) (v := undef) rfl rfl (by kernel_rfl) (by kernel_rfl) (by kernel_rfl) (fun _ _ _ h => h) (Or.inr ⟨by rfl, rfl⟩) (by assumption) ?_
          simp only [Act.put, List.setIfInBounds_toArray, List.set_cons_zero, List.set_cons_succ]
          refine take_d (i := 14) (d := some 26) (v := undef) rfl rfl (by kernel_rfl) (by kernel_rfl) (by kernel_rfl) (fun _ _ _ h => h) (Or.inr ⟨by rfl, rfl⟩) (by assumption) ?_
          simp only [Act.put, List.setIfInBounds_toArray, List.set_cons_zero, List.set_cons_succ]
          refine take_d (i := 15) (d := some 27) (v := undef) rfl rfl (by kernel_rfl) (by kernel_rfl) (by kernel_rfl) (fun _ _ _ h => h) (Or.inr ⟨by rfl, rfl⟩) (by assumption) ?_
          simp only [Act.put, List.setIfInBounds_toArray, List.set_cons_zero, List.set_cons_succ]
          refine take_d (i := 16) (d := some 28) (v := ?_) rfl rfl (by kernel_rfl) (by kernel_rfl) (by kernel_rfl) (fun _ _ _ h => h) (Or.inl ⟨by rfl, ?_⟩) (by assumption) ?_
          rotate_left
          · (intro w hSw; (try dsimp only at hSw); go_simp; (try (with_reducible rfl)))
          simp only [Act.put, List.setIfInBounds_toArray, List.set_cons_zero, List.set_cons_succ]
          refine take_d (i := 17) (d := some 29) (v := ?_) rfl rfl (by kernel_rfl) (by kernel_rfl) (by kernel_rfl) (fun _ _ _ h => h) (Or.inl ⟨by rfl, ?_⟩) (by assumption) ?_
          rotate_left
          · (intro w hSw; (try dsimp only at hSw); go_simp; (try (with_reducible rfl)))
          simp only [Act.put, List.setIfInBounds_toArray, List.set_cons_zero, List.set_cons_succ]
          refine wpAnyH_done (by kernel_rfl) ?_ _
          refine NoPanic.normal ?_
          go_wp2_with fail
          go_roundw
          case rel => exact ⟨1, by omega, hst.out, by go_num, Hbl.out.trans (hacc.mono Hbl.out.size)⟩
          case measure => simp [intOf]; omega
      | succ m =>
        obtain ⟨b2, o2, A4, c4, hA', hE'⟩ := (H.out.below (hbl.mono hB)).at m (by omega)
        rw [HA.out] at hA'
        obtain ⟨rfl, rfl⟩ : b1 = b2 ∧ o1 = o2 := by simpa using hA'
        have H0 := Lib.hid (fun h => place_s xs m hlt h)
        generalize xs[m + 1] = x at *
        have hp0 := hE'.c0
        generalize xs[m] = y at *
        generalize y.num = pn at *
        subst hA
        clear hA' HA hE'
        obtain ⟨num, name, maker, year, words⟩ := x
        have HV := Lib.hid (fun wx hx hz => validEntry_any B ⟨num, name, maker, year, words⟩ A3 c3 wx hx hz hsx.out)
        obtain ⟨hbB, e0, e1, e2, e3, e4, ew⟩ := hE
        dsimp only at e0 e1 e2 e3 e4 ew
        (try dsimp only at H0)
        have hba := (Below.refl wr.heap.size wr).alloc (Nat.le_refl _) (.cells #[.int .i64 num, .string name, .string maker, .int .i64 year, .slice A3 words.length c3] 39)
        have hnw := heap_alloc_new wr (.cells #[.int .i64 num, .string name, .string maker, .int .i64 year, .slice A3 words.length c3] 39)
        have hlw : wr.heap.size < (wr.alloc (.cells #[.int .i64 num, .string name, .string maker, .int .i64 year, .slice A3 words.length c3] 39)).heap.size := by simp
        have Hnw := Lib.hid hnw
        have Hba := Lib.hid hba
        have Hbl := Lib.hid hbl
        have Hew := Lib.hid ew
        have Hp0 := Lib.hid (fun wx (hb : Below wr.heap.size wr wx) => (hb.cell (p := ⟨b1, o1 + m * 5, none⟩) hz1).trans hp0)
        clear hba hbl ew hnw
        have hpos : (0 : Int) < ((m + 1 : Nat) : Int) := by omega
        cases g : entOk ⟨num, name, maker, year, words⟩ with
        | false =>
          have hf := Lib.hid (Hbad.out (Hn.out g))
          rw [g] at HV
          clear Hbad Hst Hn g H0
          go_wp2_with fail
          obtain ⟨f0, f1, f2, f3, f4, _⟩ := blk5 Hnw.out
          have hacc : Below wr.heap.size wr (wr.alloc (.cells #[.int .i64 num, .string name, .string maker, .int .i64 year, .slice A3 words.length c3] 39)).drew := Hba.out.drew
          generalize wr.alloc (.cells #[.int .i64 num, .string name, .string maker, .int .i64 year, .slice A3 words.length c3] 39) = wn at *
          refine wp_region_noPanic ?_
          refine wp_region_held_drew (S := fun w' => w'.cell? ⟨wr.heap.size, 0, none⟩ = some (.int .i64 num) ∧ w'.cell? ⟨wr.heap.size, 1, none⟩ = some (.string name) ∧ w'.cell? ⟨wr.heap.size, 2, none⟩ = some (.string maker) ∧ w'.cell? ⟨wr.heap.size, 3, none⟩ = some (.int .i64 year) ∧ w'.cell? ⟨wr.heap.size, 4, none⟩ = some (.slice A3 words.length c3)) (by kernel_rfl) (by (try dsimp only); first | go_keep | assumption) (fun hHeld => ?_)
          refine take_d (i := 0) (d := some 12) (v := ?_) rfl rfl (by kernel_rfl) (by kernel_rfl) (by kernel_rfl) (fun _ _ _ h => h) (Or.inl ⟨by rfl, ?_⟩) (by assumption) ?_
          rotate_left
          · (intro w hSw; (try dsimp only at hSw); go_simp; (try (with_reducible rfl)))
          simp only [Act.put, List.setIfInBounds_toArray, List.set_cons_zero, List.set_cons_succ]
          refine call_d (i := 1) (d := some 13) rfl rfl (by kernel_rfl) (fun K hK => ?_)
          go_simp
          (go_at_call 26; ((with_reducible refine (HV.out _ (Hew.out.below (hacc.mono hzB)) (Nat.le_trans hzB hacc.size)).mono ?_)); rintro e wq ⟨rfl, hbq⟩; have hSq := five_at ((hbq.block _ hlw).trans Hnw.out); have hacc' := hacc.trans (hbq.mono hacc.size); clear hacc; have hacc := hacc'; clear hacc')
          (try (go_wp2_with fail))
          refine hK.out _ _ (hSq) (fun hHeld => ?_)
          clear hK K
          (try simp only [Act.put, List.setIfInBounds_toArray, List.set_cons_zero, List.set_cons_succ])
          refine take_d (i := 2) (d := some 14) (v := ?_) rfl rfl (by kernel_rfl) (by kernel_rfl) (by kernel_rfl) (fun _ _ _ h => h) (Or.inl ⟨by rfl, ?_⟩) (by assumption) ?_
          rotate_left
          · (intro w hSw; (try dsimp only at hSw); go_simp; (try (with_reducible rfl)))
          simp only [Act.put, List.setIfInBounds_toArray, List.set_cons_zero, List.set_cons_succ]
          refine take_d (i := 3) (d := some 15) (v := ?_) rfl rfl (by kernel_rfl) (by kernel_rfl) (by kernel_rfl) (fun _ _ _ h => h) (Or.inl ⟨by rfl, ?_⟩) (by assumption) ?_
          rotate_left
          · (intro w hSw; (try dsimp only at hSw); go_simp; (try (with_reducible rfl)))
          simp only [Act.put, List.setIfInBounds_toArray, List.set_cons_zero, List.set_cons_succ]
          refine take_d (i := 4) (d := some 16) (v := undef) rfl rfl (by kernel_rfl) (by kernel_rfl) (by kernel_rfl) (fun _ _ _ h => h) (Or.inr ⟨by rfl, rfl⟩) (by assumption) ?_
          simp only [Act.put, List.setIfInBounds_toArray, List.set_cons_zero, List.set_cons_succ]
          refine take_d (i := 5) (d := some 17) (v := undef) rfl rfl (by kernel_rfl) (by kernel_rfl) (by kernel_rfl) (fun _ _ _ h => h) (Or.inr ⟨by rfl, rfl⟩) (by assumption) ?_
          simp only [Act.put, List.setIfInBounds_toArray, List.set_cons_zero, List.set_cons_succ]
          refine take_d (i := 6) (d := some 18) (v := undef) rfl rfl (by kernel_rfl) (by kernel_rfl) (by kernel_rfl) (fun _ _ _ h => h) (Or.inr ⟨by rfl, rfl⟩) (by assumption) ?_
          simp only [Act.put, List.setIfInBounds_toArray, List.set_cons_zero, List.set_cons_succ]
          refine take_d (i := 7) (d := some 19) (v := undef) rfl rfl (by kernel_rfl) (by kernel_rfl) (by kernel_rfl) (fun _ _ _ h => h) (Or.inr ⟨by rfl, rfl⟩) (by assumption) ?_
          simp only [Act.put, List.setIfInBounds_toArray, List.set_cons_zero, List.set_cons_succ]
          refine take_d (i := 8) (d := some 20) (v := undef) rfl rfl (by kernel_rfl) (by kernel_rfl) (by kernel_rfl) (fun _ _ _ h => h) (Or.inr ⟨by rfl, rfl⟩) (by assumption) ?_
          simp only [Act.put, List.setIfInBounds_toArray, List.set_cons_zero, List.set_cons_succ]
          refine take_d (i := 9) (d := some 21) (v := undef) rfl rfl (by kernel_rfl) (by kernel_rfl) (by kernel_rfl) (fun _ _ _ h => h) (Or.inr ⟨by rfl, rfl⟩) (by assumption) ?_
          simp only [Act.put, List.setIfInBounds_toArray, List.set_cons_zero, List.set_cons_succ]
          refine take_d (i := 10) (d := some 22) (v := undef) rfl rfl (by kernel_rfl) (by kernel_rfl) (by kernel_rfl) (fun _ _ _ h => h) (Or.inr ⟨by rfl, rfl⟩) (by assumption) ?_
          simp only [Act.put, List.setIfInBounds_toArray, List.set_cons_zero, List.set_cons_succ]
          refine take_d (i := 11) (d := some 23) (v := undef) rfl rfl (by kernel_rfl) (by kernel_rfl) (by kernel_rfl) (fun _ _ _ h => h) (Or.inr ⟨by rfl, rfl⟩) (by assumption) ?_
          simp only [Act.put, List.setIfInBounds_toArray, List.set_cons_zero, List.set_cons_succ]
          refine take_d (i := 12) (d := some 24) (v := undef) rfl rfl (by kernel_rfl) (by kernel_rfl) (by kernel_rfl) (fun _ _ _ h => h) (Or.inr ⟨by rfl, rfl⟩) (by assumption) ?_
          simp only [Act.put, List.setIfInBounds_toArray, List.set_cons_zero, List.set_cons_succ]
          refine take_d (i := 13) (d := some 25) (v := undef) rfl rfl (by kernel_rfl) (by kernel_rfl) (by kernel_rfl) (fun _ _ _ h => h) (Or.inr ⟨by rfl, rfl⟩) (by assumption) ?_
          simp only [Act.put, List.setIfInBounds_toArray, List.set_cons_zero, List.set_cons_succ]
          refine take_d (i := 14) (d := some 26) (v := undef) rfl rfl (by kernel_rfl) (by kernel_rfl) (by kernel_rfl) (fun _ _ _ h => h) (Or.inr ⟨by rfl, rfl⟩) (by assumption) ?_
          simp only [Act.put, List.setIfInBounds_toArray, List.set_cons_zero, List.set_cons_succ]
          refine take_d (i := 15) (d := some 27) (v := undef) rfl rfl (by kernel_rfl) (by kernel_rfl) (by kernel_rfl) (fun _ _ _ h => h) (Or.inr ⟨by rfl, rfl⟩) (by assumption) ?_
          simp only [Act.put, List.setIfInBounds_toArray, List.set_cons_zero, List.set_cons_succ]
          refine take_d (i := 16) (d := some 28) (v := undef) rfl rfl (by kernel_rfl) (by kernel_rfl) (by kernel_rfl) (fun _ _ _ h => h) (Or.inr ⟨by rfl, rfl⟩) (by assumption) ?_
          simp only [Act.put, List.setIfInBounds_toArray, List.set_cons_zero, List.set_cons_succ]
          refine take_d (i := 17) (d := some 29) (v := ?_) rfl rfl (by kernel_rfl) (by kernel_rfl) (by kernel_rfl) (fun _ _ _ h => h) (Or.inl ⟨by rfl, ?_⟩) (by assumption) ?_
          rotate_left
          · (intro w hSw; (try dsimp only at hSw); go_simp; (try (with_reducible rfl)))
          simp only [Act.put, List.setIfInBounds_toArray, List.set_cons_zero, List.set_cons_succ]
          refine wpAnyH_done (by kernel_rfl) ?_ _
          refine NoPanic.normal ?_
          go_wp2_with fail
          go_ret
          rw [hf.out]; exact ⟨rfl, Hbl.out.trans (hacc.mono Hbl.out.size)⟩
        | true =>
          rw [g] at HV
          have h1 := H0.out g
          rcases Decidable.em (pn < num) with gl | gl
          · have hst := Lib.hid (Hst.out (h1.trans (decide_eq_true gl)))
            clear Hbad Hst Hn g H0 h1
            go_wp2_with fail
            obtain ⟨f0, f1, f2, f3, f4, _⟩ := blk5 Hnw.out
            have hacc : Below wr.heap.size wr (wr.alloc (.cells #[.int .i64 num, .string name, .string maker, .int .i64 year, .slice A3 words.length c3] 39)).drew := Hba.out.drew
            have hp1 := Hp0.out _ Hba.out
            generalize wr.alloc (.cells #[.int .i64 num, .string name, .string maker, .int .i64 year, .slice A3 words.length c3] 39) = wn at *
            have hm2 : (m : Int) < (xs.length : Int) := by omega
            have hm1 : IntKind.i64.wrap (m : Int) = (m : Int) := IntWalk.i64_in _ (by omega)
            refine wp_region_noPanic ?_
            refine wp_region_held_drew (S := fun w' => w'.cell? ⟨wr.heap.size, 0, none⟩ = some (.int .i64 num) ∧ w'.cell? ⟨wr.heap.size, 1, none⟩ = some (.string name) ∧ w'.cell? ⟨wr.heap.size, 2, none⟩ = some (.string maker) ∧ w'.cell? ⟨wr.heap.size, 3, none⟩ = some (.int .i64 year) ∧ w'.cell? ⟨wr.heap.size, 4, none⟩ = some (.slice A3 words.length c3) ∧ w'.cell? ⟨b1, o1 + m * 5, none⟩ = some (.int .i64 pn)) (by kernel_rfl) (by (try dsimp only); first | go_keep | assumption) (fun hHeld => ?_)
            refine take_d (i := 0) (d := some 12) (v := ?_) rfl rfl (by kernel_rfl) (by kernel_rfl) (by kernel_rfl) (fun _ _ _ h => h) (Or.inl ⟨by rfl, ?_⟩) (by assumption) ?_
            rotate_left
            · (intro w hSw; (try dsimp only at hSw); go_simp; (try (with_reducible rfl)))
            simp only [Act.put, List.setIfInBounds_toArray, List.set_cons_zero, List.set_cons_succ]
            refine call_d (i := 1) (d := some 13) rfl rfl (by kernel_rfl) (fun K hK => ?_)
            go_simp
            (go_at_call 26; ((with_reducible refine (HV.out _ (Hew.out.below (hacc.mono hzB)) (Nat.le_trans hzB hacc.size)).mono ?_)); rintro e wq ⟨rfl, hbq⟩; have hacc' := hacc.trans (hbq.mono hacc.size); have hSq := six_at ((hbq.block _ hlw).trans Hnw.out) (Hp0.out _ hacc'); clear hacc; have hacc := hacc'; clear hacc')
            (try (go_wp2_with fail))
            refine hK.out _ _ (hSq) (fun hHeld => ?_)
            clear hK K
            (try simp only [Act.put, List.setIfInBounds_toArray, List.set_cons_zero, List.set_cons_succ])
            refine take_d (i := 2) (d := some 14) (v := ?_) rfl rfl (by kernel_rfl) (by kernel_rfl) (by kernel_rfl) (fun _ _ _ h => h) (Or.inl ⟨by rfl, ?_⟩) (by assumption) ?_
            rotate_left
            · (intro w hSw; (try dsimp only at hSw); go_simp; (try (with_reducible rfl)))
            simp only [Act.put, List.setIfInBounds_toArray, List.set_cons_zero, List.set_cons_succ]
            refine take_d (i := 3) (d := some 15) (v := ?_) rfl rfl (by kernel_rfl) (by kernel_rfl) (by kernel_rfl) (fun _ _ _ h => h) (Or.inl ⟨by rfl, ?_⟩) (by assumption) ?_
            rotate_left
            · (intro w hSw; (try dsimp only at hSw); go_simp; (try (with_reducible rfl)))
            simp only [Act.put, List.setIfInBounds_toArray, List.set_cons_zero, List.set_cons_succ]
            refine take_d (i := 4) (d := some 16) (v := ?_) rfl rfl (by kernel_rfl) (by kernel_rfl) (by kernel_rfl) (fun _ _ _ h => h) (Or.inl ⟨by rfl, ?_⟩) (by assumption) ?_
            rotate_left
            · (intro w hSw; (try dsimp only at hSw); go_simp; (try (with_reducible rfl)))
            simp only [Act.put, List.setIfInBounds_toArray, List.set_cons_zero, List.set_cons_succ]
            refine take_d (i := 5) (d := some 17) (v := ?_) rfl rfl (by kernel_rfl) (by kernel_rfl) (by kernel_rfl) (fun _ _ _ h => h) (Or.inl ⟨by rfl, ?_⟩) (by assumption) ?_
            rotate_left
            · (intro w hSw; (try dsimp only at hSw); go_simp; (try (with_reducible rfl)))
            simp only [Act.put, List.setIfInBounds_toArray, List.set_cons_zero, List.set_cons_succ]
            refine take_d (i := 6) (d := some 18) (v := ?_) rfl rfl (by kernel_rfl) (by kernel_rfl) (by kernel_rfl) (fun _ _ _ h => h) (Or.inl ⟨by rfl, ?_⟩) (by assumption) ?_
            rotate_left
            · (intro w hSw; (try dsimp only at hSw); go_simp; (try (with_reducible rfl)))
            simp only [Act.put, List.setIfInBounds_toArray, List.set_cons_zero, List.set_cons_succ]
            refine take_d (i := 7) (d := some 19) (v := ?_) rfl rfl (by kernel_rfl) (by kernel_rfl) (by kernel_rfl) (fun _ _ _ h => h) (Or.inl ⟨by rfl, ?_⟩) (by assumption) ?_
            rotate_left
            · (intro w hSw; (try dsimp only at hSw); go_simp; (try (with_reducible rfl)))
            simp only [Act.put, List.setIfInBounds_toArray, List.set_cons_zero, List.set_cons_succ]
            refine take_d (i := 8) (d := some 20) (v := ?_) rfl rfl (by kernel_rfl) (by kernel_rfl) (by kernel_rfl) (fun _ _ _ h => h) (Or.inl ⟨by rfl, ?_⟩) (by assumption) ?_
            rotate_left
            · (intro w hSw; (try dsimp only at hSw); go_simp; (try (with_reducible rfl)))
            simp only [Act.put, List.setIfInBounds_toArray, List.set_cons_zero, List.set_cons_succ]
            refine take_d (i := 9) (d := some 21) (v := ?_) rfl rfl (by kernel_rfl) (by kernel_rfl) (by kernel_rfl) (fun _ _ _ h => h) (Or.inl ⟨by rfl, ?_⟩) (by assumption) ?_
            rotate_left
            · (intro w hSw; (try dsimp only at hSw); go_simp; (try (with_reducible rfl)))
            simp only [Act.put, List.setIfInBounds_toArray, List.set_cons_zero, List.set_cons_succ]
            refine take_d (i := 10) (d := some 22) (v := ?_) rfl rfl (by kernel_rfl) (by kernel_rfl) (by kernel_rfl) (fun _ _ _ h => h) (Or.inl ⟨by rfl, ?_⟩) (by assumption) ?_
            rotate_left
            · (intro w hSw; (try dsimp only at hSw); go_simp; (try (with_reducible rfl)))
            simp only [Act.put, List.setIfInBounds_toArray, List.set_cons_zero, List.set_cons_succ]
            refine take_d (i := 11) (d := some 23) (v := ?_) rfl rfl (by kernel_rfl) (by kernel_rfl) (by kernel_rfl) (fun _ _ _ h => h) (Or.inl ⟨by rfl, ?_⟩) (by assumption) ?_
            rotate_left
            · (intro w hSw; (try dsimp only at hSw); go_simp; (try (with_reducible rfl)))
            simp only [Act.put, List.setIfInBounds_toArray, List.set_cons_zero, List.set_cons_succ]
            refine take_d (i := 12) (d := some 24) (v := ?_) rfl rfl (by kernel_rfl) (by kernel_rfl) (by kernel_rfl) (fun _ _ _ h => h) (Or.inl ⟨by rfl, ?_⟩) (by assumption) ?_
            rotate_left
            · (intro w hSw; (try dsimp only at hSw); go_simp; (try (with_reducible rfl)))
            simp only [Act.put, List.setIfInBounds_toArray, List.set_cons_zero, List.set_cons_succ]
            refine take_d (i := 13) (d := some 25) (v := ?_) rfl rfl (by kernel_rfl) (by kernel_rfl) (by kernel_rfl) (fun _ _ _ h => h) (Or.inl ⟨by rfl, ?_⟩) (by assumption) ?_
            rotate_left
            · (intro w hSw; (try dsimp only at hSw); go_simp; (try (with_reducible rfl)))
            simp only [Act.put, List.setIfInBounds_toArray, List.set_cons_zero, List.set_cons_succ]
            refine take_d (i := 14) (d := some 26) (v := ?_) rfl rfl (by kernel_rfl) (by kernel_rfl) (by kernel_rfl) (fun _ _ _ h => h) (Or.inl ⟨by rfl, ?_⟩) (by assumption) ?_
            rotate_left
            · (intro w hSw; (try dsimp only at hSw); go_simp; (try (with_reducible rfl)))
            simp only [Act.put, List.setIfInBounds_toArray, List.set_cons_zero, List.set_cons_succ]
            refine take_d (i := 15) (d := some 27) (v := ?_) rfl rfl (by kernel_rfl) (by kernel_rfl) (by kernel_rfl) (fun _ _ _ h => h) (Or.inl ⟨by rfl, ?_⟩) (by assumption) ?_
            rotate_left
            · (intro w hSw; (try dsimp only at hSw); go_simp; (try (with_reducible rfl)))
            simp only [Act.put, List.setIfInBounds_toArray, List.set_cons_zero, List.set_cons_succ]
            refine take_d (i := 16) (d := some 28) (v := ?_) rfl rfl (by kernel_rfl) (by kernel_rfl) (by kernel_rfl) (fun _ _ _ h => h) (Or.inl ⟨by rfl, ?_⟩) (by assumption) ?_
            rotate_left
            · (intro w hSw; (try dsimp only at hSw); go_simp; (try (with_reducible rfl)))
            simp only [Act.put, List.setIfInBounds_toArray, List.set_cons_zero, List.set_cons_succ]
            refine take_d (i := 17) (d := some 29) (v := ?_) rfl rfl (by kernel_rfl) (by kernel_rfl) (by kernel_rfl) (fun _ _ _ h => h) (Or.inl ⟨by rfl, ?_⟩) (by assumption) ?_
            rotate_left
            · (intro w hSw; (try dsimp only at hSw); go_simp; (try (with_reducible rfl)))
            simp only [Act.put, List.setIfInBounds_toArray, List.set_cons_zero, List.set_cons_succ]
            refine wpAnyH_done (by kernel_rfl) ?_ _
            refine NoPanic.normal ?_
            clear hm1
            go_wp2_with fail
            go_roundw
            case rel => exact ⟨m + 1 + 1, by omega, hst.out, by go_num, Hbl.out.trans (hacc.mono Hbl.out.size)⟩
            case measure => simp [intOf]; omega
          · have hf := Lib.hid (Hbad.out (h1.trans (decide_eq_false gl)))
            have gl' : num ≤ pn := by omega
            clear Hbad Hst Hn g H0 h1 gl
            go_wp2_with fail
            obtain ⟨f0, f1, f2, f3, f4, _⟩ := blk5 Hnw.out
            have hacc : Below wr.heap.size wr (wr.alloc (.cells #[.int .i64 num, .string name, .string maker, .int .i64 year, .slice A3 words.length c3] 39)).drew := Hba.out.drew
            have hp1 := Hp0.out _ Hba.out
            generalize wr.alloc (.cells #[.int .i64 num, .string name, .string maker, .int .i64 year, .slice A3 words.length c3] 39) = wn at *
            have hm2 : (m : Int) < (xs.length : Int) := by omega
            have hm1 : IntKind.i64.wrap (m : Int) = (m : Int) := IntWalk.i64_in _ (by omega)
            refine wp_region_noPanic ?_
            refine wp_region_held_drew (S := fun w' => w'.cell? ⟨wr.heap.size, 0, none⟩ = some (.int .i64 num) ∧ w'.cell? ⟨wr.heap.size, 1, none⟩ = some (.string name) ∧ w'.cell? ⟨wr.heap.size, 2, none⟩ = some (.string maker) ∧ w'.cell? ⟨wr.heap.size, 3, none⟩ = some (.int .i64 year) ∧ w'.cell? ⟨wr.heap.size, 4, none⟩ = some (.slice A3 words.length c3) ∧ w'.cell? ⟨b1, o1 + m * 5, none⟩ = some (.int .i64 pn)) (by kernel_rfl) (by (try dsimp only); first | go_keep | assumption) (fun hHeld => ?_)
            refine take_d (i := 0) (d := some 12) (v := ?_) rfl rfl (by kernel_rfl) (by kernel_rfl) (by kernel_rfl) (fun _ _ _ h => h) (Or.inl ⟨by rfl, ?_⟩) (by assumption) ?_
            rotate_left
            · (intro w hSw; (try dsimp only at hSw); go_simp; (try (with_reducible rfl)))
            simp only [Act.put, List.setIfInBounds_toArray, List.set_cons_zero, List.set_cons_succ]
            refine call_d (i := 1) (d := some 13) rfl rfl (by kernel_rfl) (fun K hK => ?_)
            go_simp
            (go_at_call 26; ((with_reducible refine (HV.out _ (Hew.out.below (hacc.mono hzB)) (Nat.le_trans hzB hacc.size)).mono ?_)); rintro e wq ⟨rfl, hbq⟩; have hacc' := hacc.trans (hbq.mono hacc.size); have hSq := six_at ((hbq.block _ hlw).trans Hnw.out) (Hp0.out _ hacc'); clear hacc; have hacc := hacc'; clear hacc')
            (try (go_wp2_with fail))
            refine hK.out _ _ (hSq) (fun hHeld => ?_)
            clear hK K
            (try simp only [Act.put, List.setIfInBounds_toArray, List.set_cons_zero, List.set_cons_succ])
            refine take_d (i := 2) (d := some 14) (v := ?_) rfl rfl (by kernel_rfl) (by kernel_rfl) (by kernel_rfl) (fun _ _ _ h => h) (Or.inl ⟨by rfl, ?_⟩) (by assumption) ?_
            rotate_left
            · (intro w hSw; (try dsimp only at hSw); go_simp; (try (with_reducible rfl)))
            simp only [Act.put, List.setIfInBounds_toArray, List.set_cons_zero, List.set_cons_succ]
            refine take_d (i := 3) (d := some 15) (v := ?_) rfl rfl (by kernel_rfl) (by kernel_rfl) (by kernel_rfl) (fun _ _ _ h => h) (Or.inl ⟨by rfl, ?_⟩) (by assumption) ?_
            rotate_left
            · (intro w hSw; (try dsimp only at hSw); go_simp; (try (with_reducible rfl)))
            simp only [Act.put, List.setIfInBounds_toArray, List.set_cons_zero, List.set_cons_succ]
            refine take_d (i := 4) (d := some 16) (v := ?_) rfl rfl (by kernel_rfl) (by kernel_rfl) (by kernel_rfl) (fun _ _ _ h => h) (Or.inl ⟨by rfl, ?_⟩) (by assumption) ?_
            rotate_left
            · (intro w hSw; (try dsimp only at hSw); go_simp; (try (with_reducible rfl)))
            simp only [Act.put, List.setIfInBounds_toArray, List.set_cons_zero, List.set_cons_succ]
            refine take_d (i := 5) (d := some 17) (v := ?_) rfl rfl (by kernel_rfl) (by kernel_rfl) (by kernel_rfl) (fun _ _ _ h => h) (Or.inl ⟨by rfl, ?_⟩) (by assumption) ?_
            rotate_left
            · (intro w hSw; (try dsimp only at hSw); go_simp; (try (with_reducible rfl)))
            simp only [Act.put, List.setIfInBounds_toArray, List.set_cons_zero, List.set_cons_succ]
            refine take_d (i := 6) (d := some 18) (v := ?_) rfl rfl (by kernel_rfl) (by kernel_rfl) (by kernel_rfl) (fun _ _ _ h => h) (Or.inl ⟨by rfl, ?_⟩) (by assumption) ?_
            rotate_left
            · (intro w hSw; (try dsimp only at hSw); go_simp; (try (with_reducible rfl)))
            simp only [Act.put, List.setIfInBounds_toArray, List.set_cons_zero, List.set_cons_succ]
            refine take_d (i := 7) (d := some 19) (v := ?_) rfl rfl (by kernel_rfl) (by kernel_rfl) (by kernel_rfl) (fun _ _ _ h => h) (Or.inl ⟨by rfl, ?_⟩) (by assumption) ?_
            rotate_left
            · (intro w hSw; (try dsimp only at hSw); go_simp; (try (with_reducible rfl)))
            simp only [Act.put, List.setIfInBounds_toArray, List.set_cons_zero, List.set_cons_succ]
            refine take_d (i := 8) (d := some 20) (v := ?_) rfl rfl (by kernel_rfl) (by kernel_rfl) (by kernel_rfl) (fun _ _ _ h => h) (Or.inl ⟨by rfl, ?_⟩) (by assumption) ?_
            rotate_left
            · (intro w hSw; (try dsimp only at hSw); go_simp; (try (with_reducible rfl)))
            simp only [Act.put, List.setIfInBounds_toArray, List.set_cons_zero, List.set_cons_succ]
            refine take_d (i := 9) (d := some 21) (v := ?_) rfl rfl (by kernel_rfl) (by kernel_rfl) (by kernel_rfl) (fun _ _ _ h => h) (Or.inl ⟨by rfl, ?_⟩) (by assumption) ?_
            rotate_left
            · (intro w hSw; (try dsimp only at hSw); go_simp; (try (with_reducible rfl)))
            simp only [Act.put, List.setIfInBounds_toArray, List.set_cons_zero, List.set_cons_succ]
            refine take_d (i := 10) (d := some 22) (v := ?_) rfl rfl (by kernel_rfl) (by kernel_rfl) (by kernel_rfl) (fun _ _ _ h => h) (Or.inl ⟨by rfl, ?_⟩) (by assumption) ?_
            rotate_left
            · (intro w hSw; (try dsimp only at hSw); go_simp; (try (with_reducible rfl)))
            simp only [Act.put, List.setIfInBounds_toArray, List.set_cons_zero, List.set_cons_succ]
            refine take_d (i := 11) (d := some 23) (v := ?_) rfl rfl (by kernel_rfl) (by kernel_rfl) (by kernel_rfl) (fun _ _ _ h => h) (Or.inl ⟨by rfl, ?_⟩) (by assumption) ?_
            rotate_left
            · (intro w hSw; (try dsimp only at hSw); go_simp; (try (with_reducible rfl)))
            simp only [Act.put, List.setIfInBounds_toArray, List.set_cons_zero, List.set_cons_succ]
            refine take_d (i := 12) (d := some 24) (v := ?_) rfl rfl (by kernel_rfl) (by kernel_rfl) (by kernel_rfl) (fun _ _ _ h => h) (Or.inl ⟨by rfl, ?_⟩) (by assumption) ?_
            rotate_left
            · (intro w hSw; (try dsimp only at hSw); go_simp; (try (with_reducible rfl)))
            simp only [Act.put, List.setIfInBounds_toArray, List.set_cons_zero, List.set_cons_succ]
            refine take_d (i := 13) (d := some 25) (v := ?_) rfl rfl (by kernel_rfl) (by kernel_rfl) (by kernel_rfl) (fun _ _ _ h => h) (Or.inl ⟨by rfl, ?_⟩) (by assumption) ?_
            rotate_left
            · (intro w hSw; (try dsimp only at hSw); go_simp; (try (with_reducible rfl)))
            simp only [Act.put, List.setIfInBounds_toArray, List.set_cons_zero, List.set_cons_succ]
            refine take_d (i := 14) (d := some 26) (v := ?_) rfl rfl (by kernel_rfl) (by kernel_rfl) (by kernel_rfl) (fun _ _ _ h => h) (Or.inl ⟨by rfl, ?_⟩) (by assumption) ?_
            rotate_left
            · (intro w hSw; (try dsimp only at hSw); go_simp; (try (with_reducible rfl)))
            simp only [Act.put, List.setIfInBounds_toArray, List.set_cons_zero, List.set_cons_succ]
            refine take_d (i := 15) (d := some 27) (v := ?_) rfl rfl (by kernel_rfl) (by kernel_rfl) (by kernel_rfl) (fun _ _ _ h => h) (Or.inl ⟨by rfl, ?_⟩) (by assumption) ?_
            rotate_left
            · (intro w hSw; (try dsimp only at hSw); go_simp; (try (with_reducible rfl)))
            simp only [Act.put, List.setIfInBounds_toArray, List.set_cons_zero, List.set_cons_succ]
            refine take_d (i := 16) (d := some 28) (v := ?_) rfl rfl (by kernel_rfl) (by kernel_rfl) (by kernel_rfl) (fun _ _ _ h => h) (Or.inl ⟨by rfl, ?_⟩) (by assumption) ?_
            rotate_left
            · (intro w hSw; (try dsimp only at hSw); go_simp; (try (with_reducible rfl)))
            simp only [Act.put, List.setIfInBounds_toArray, List.set_cons_zero, List.set_cons_succ]
            refine take_d (i := 17) (d := some 29) (v := ?_) rfl rfl (by kernel_rfl) (by kernel_rfl) (by kernel_rfl) (fun _ _ _ h => h) (Or.inl ⟨by rfl, ?_⟩) (by assumption) ?_
            rotate_left
            · (intro w hSw; (try dsimp only at hSw); go_simp; (try (with_reducible rfl)))
            simp only [Act.put, List.setIfInBounds_toArray, List.set_cons_zero, List.set_cons_succ]
            refine wpAnyH_done (by kernel_rfl) ?_ _
            refine NoPanic.normal ?_
            clear hm1
            go_wp2_with fail
            go_ret
            rw [hf.out]; exact ⟨rfl, Hbl.out.trans (hacc.mono Hbl.out.size)⟩
    · have hc : chk xs.length (placeOk xs) = true := by rw [show xs.length = k by omega]; exact Hall.out
      have hf := Lib.hid (show entsOk xs = decide (xs.length ≤ 50) by unfold entsOk; rw [hc]; rfl)
      have hlt' : (xs.length : Int) ≤ (k : Int) := by omega
      clear hc
      go_wp2_with fail
      go_ret
      rw [hf.out]; exact ⟨by simp; omega, hbl⟩
end Go.Proofs.Ytmlnaedeghpbbaa
/- Entries, part 4: SameEntries on both sides. -/
namespace Go.Proofs.Ytmlnaedeghpbbaa
open Go.RowKit Go.Joins

/-- where two entries part first -/
theorem ent_cases (x y : Ent) : x = y ∨
    (x ≠ y ∧ ((x.num != y.num) = true ∨ (x.num = y.num ∧ (x.name.toList != y.name.toList) = true ∧ (x.name.toList == y.name.toList) = false) ∨ (x.num = y.num ∧ x.name = y.name ∧ (x.maker.toList != y.maker.toList) = true ∧ (x.maker.toList == y.maker.toList) = false) ∨
      (x.num = y.num ∧ x.name = y.name ∧ x.maker = y.maker ∧ (x.year != y.year) = true) ∨ (x.num = y.num ∧ x.name = y.name ∧ x.maker = y.maker ∧ x.year = y.year ∧ decide (x.words = y.words) = false))) := by
  have hbn : ∀ a b : ByteArray, a ≠ b → (a.toList != b.toList) = true ∧ (a.toList == b.toList) = false := fun a b h =>
    ⟨bne_iff_ne.2 fun e => h (ba_inj e), beq_eq_false_iff_ne.2 fun e => h (ba_inj e)⟩
  by_cases h : x = y
  · exact .inl h
  · refine .inr ⟨h, ?_⟩
    by_cases h1 : x.num = y.num
    · by_cases h2 : x.name = y.name
      · by_cases h3 : x.maker = y.maker
        · by_cases h4 : x.year = y.year
          · refine .inr (.inr (.inr (.inr ⟨h1, h2, h3, h4, ?_⟩)))
            rw [decide_eq_false_iff_not]
            intro h5
            exact h (by obtain ⟨a, b, c, d, e⟩ := x; obtain ⟨a', b', c', d', e'⟩ := y; simp_all)
          · exact .inr (.inr (.inr (.inl ⟨h1, h2, h3, bne_iff_ne.2 h4⟩)))
        · exact .inr (.inr (.inl ⟨h1, h2, hbn _ _ h3⟩))
      · exact .inr (.inl ⟨h1, hbn _ _ h2⟩)
    · exact .inl (bne_iff_ne.2 h1)

theorem ents_bad {xs ys : List Ent} (k : Nat) (hx : k < xs.length) (hy : k < ys.length) (h : xs[k] ≠ ys[k]) : decide (xs = ys) = false := by
  rw [decide_eq_false_iff_not]
  intro e
  subst e
  exact h rfl
theorem ents_step {xs ys : List Ent} (k : Nat) (hx : k < xs.length) (hy : k < ys.length) (h0 : xs.take k = ys.take k) (h : xs[k] = ys[k]) : xs.take (k + 1) = ys.take (k + 1) := by
  rw [List.take_succ_eq_append_getElem hx, List.take_succ_eq_append_getElem hy, h0, h]

end Go.Proofs.Ytmlnaedeghpbbaa
/- Entries, part 5: the reading of an argument; the law FnExactSameEntries. -/
namespace Go.Proofs.Ytmlnaedeghpbbaa
open Go.ChangeShapes Go.WideShapes Go.ChangeAt Go.RowKit

section
variable {H : Type} {enc : TypeId × Value → H} {P : Program} {W : World}
theorem rd_strs_cells {T E : Nat} {fuel : Nat} {cs : List Value} {x : DataW H × List MemPlace} (hT : P.underlying T = some (.slice E)) (hE : P.underlying E = some .string) (hC : P.cellsOf E = 1)
    (hf : DataW.trod enc P W 0 (fun _ => true) true fuel T cs = some x) :
    ∃ (v : Value) (zs : List ByteArray), cs = [v] ∧ Rd W W.heap.size v zs.length 1 (Proofs.Ytmlnaedeghpbbaa.strs zs) ∧ zs.length ≤ maxLen ∧ ∀ z ∈ zs, z.size ≤ maxLen := by
  rcases open_strings hT hE hC hf with ⟨rfl, hx⟩ | ⟨a, len, cap, zs, rfl, _, hl, hm, hz, hx, hcell, hwz⟩
  · exact ⟨_, [], rfl, ⟨rfl, none, 0, rfl, fun h => by simp at h⟩, by simp [maxLen], by simp⟩
  · have hz' : zs.length = cap := by simpa using hz
    have hlen : (zs.take len).length = len := by rw [List.length_take]; omega
    refine ⟨_, zs.take len, rfl, ?_, by rw [hlen]; omega, fun z hzz => hwz z (List.mem_of_mem_take hzz)⟩
    rw [hlen]
    refine ⟨by simp [Proofs.Ytmlnaedeghpbbaa.strs]; omega, some a, cap, rfl, fun hn => ?_⟩
    have h0 := hcell 0 (by omega)
    obtain ⟨b, off, spot⟩ := a
    have hspot : spot = none := by simpa [Addr.add] using World.cell?_spot h0
    subst hspot
    have hc : ∀ j, j < zs.length → W.cell? ⟨b, off + j, none⟩ = some (.string (zs.getD j ByteArray.empty)) := fun j hj => by rw [← Go.WideShapes.add_plain]; exact hcell j hj
    refine ⟨b, off, rfl, World.block_lt_of_cell? W _ (hc 0 (by omega)), fun i u hu => ?_⟩
    have hi : i < len := by
      have := (List.getElem?_eq_some_iff.1 hu).1
      simp [Proofs.Ytmlnaedeghpbbaa.strs] at this; omega
    rw [hc i (by omega), ← hu]
    simp [Proofs.Ytmlnaedeghpbbaa.strs, hi, List.getD, (show i < zs.length by omega)]
end

set_option maxRecDepth 100000 in
theorem elem_entry {H : Type} {enc : TypeId × Value → H} {W : World} (n : Nat) (cs : List Value) (y : DataW H × List MemPlace) (h : DataW.trod enc Try.prog W 0 (fun _ => true) true n 37 cs = some y) :
    ∃ x : Ent × Value, cs = cellsE x ∧ RdW W W.heap.size x ∧ lenE x.1 := by
  obtain ⟨xs, m, _, _, hl, hlen, hf⟩ := DataW.trod_struct Try.underlying37 h
  have hC : Try.prog.cellsOf 37 = 5 := by kernel_rfl
  rw [hC] at hl
  match cs, hl, xs, hlen with
  | [a0, a1, a2, a3, a4], _, [y0, y1, y2, y3, y4], _ =>
    have c1 : Try.prog.cellsOf 2 = 1 := by kernel_rfl
    have c2 : Try.prog.cellsOf 9 = 1 := by kernel_rfl
    have c3 : Try.prog.cellsOf 35 = 1 := by kernel_rfl
    have h0 := hf 0 _ rfl
    change DataW.trod enc Try.prog W 0 (fun _ => true) true m 2 (([a0, a1, a2, a3, a4].drop 0).take (Try.prog.cellsOf 2)) = some y0 at h0
    rw [c1] at h0
    have h1 := hf 1 _ rfl
    change DataW.trod enc Try.prog W 0 (fun _ => true) true m 9 (([a0, a1, a2, a3, a4].drop 1).take (Try.prog.cellsOf 9)) = some y1 at h1
    rw [c2] at h1
    have h2 := hf 2 _ rfl
    change DataW.trod enc Try.prog W 0 (fun _ => true) true m 9 (([a0, a1, a2, a3, a4].drop 2).take (Try.prog.cellsOf 9)) = some y2 at h2
    rw [c2] at h2
    have h3 := hf 3 _ rfl
    change DataW.trod enc Try.prog W 0 (fun _ => true) true m 2 (([a0, a1, a2, a3, a4].drop 3).take (Try.prog.cellsOf 2)) = some y3 at h3
    rw [c1] at h3
    have h4 := hf 4 _ rfl
    change DataW.trod enc Try.prog W 0 (fun _ => true) true m 35 (([a0, a1, a2, a3, a4].drop 4).take (Try.prog.cellsOf 35)) = some y4 at h4
    rw [c3] at h4
    obtain ⟨num, q0, _, _⟩ := DataW.trod_int Try.underlying2 h0
    obtain ⟨name, q1, _, w1⟩ := DataW.trod_string Try.underlying9 h1
    obtain ⟨maker, q2, _, w2⟩ := DataW.trod_string Try.underlying9 h2
    obtain ⟨year, q3, _, _⟩ := DataW.trod_int Try.underlying2 h3
    obtain ⟨v, words, q4, hr, hl4, hw4⟩ := rd_strs_cells Try.underlying35 Try.underlying9 c2 h4
    simp at q0 q1 q2 q3 q4
    subst q0 q1 q2 q3 q4
    exact ⟨(⟨num, name, maker, year, words⟩, a4), rfl, hr, w1, w2, hl4, hw4⟩

set_option maxRecDepth 100000 in
theorem rd_entries {H : Type} {enc : TypeId × Value → H} {W : World} {base : Nat} {r : Reach} {v : Value} {d : DataW H} {p : List MemPlace} (ok : Value.okWide Try.prog W r base 22 v) (h : DataW.Trod enc Try.prog W 0 (fun _ => true) true 22 v d p) :
    ∃ xs : List Ent, RdE W W.heap.size v xs ∧ (xs.length ≤ maxLen ∧ ∀ x ∈ xs, lenE x) := by
  obtain ⟨ys, h1, h2, h3⟩ := rd_rows (P := Try.prog) cellsE (fun x => RdW W W.heap.size x ∧ lenE x.1) (sz := 5) Try.underlying22 (by kernel_rfl) (by omega) (fun _ => rfl) elem_entry ok h
  refine ⟨ys.map (·.1), ⟨ys, rfl, by simpa using h1, fun y hy => (h3 y hy).1⟩, by simpa using h2, fun x hx => ?_⟩
  obtain ⟨y, hy, rfl⟩ := List.mem_map.1 hx
  exact (h3 y hy).2

open Go.Joins
end Go.Proofs.Ytmlnaedeghpbbaa
/- Entries, part 9: ValidEntries on the reference's side; the law. -/
namespace Go.Proofs.Ytmlnaedeghpbbaa
open Go.RowKit Go.Joins

set_option maxRecDepth 100000 in
set_option maxHeartbeats 3200000 in
theorem l25Ok_any (B : Nat) (v : Value) (xs : List Ent) (w : World) (h : RdE w B v xs) (hl : xs.length ≤ 1048576) (hsm : ∀ x ∈ xs, smE x) :
    Calls Try.prog 14 #[v] w fun e w' => e = .returned (.bool (entsOk xs)) ∧ ∃ n, w' = w.drewN n := by
  have H := Lib.hid h
  have Hsm := Lib.hid hsm
  obtain ⟨A, c, rfl⟩ := h.slice
  clear h hsm
  go_enter Try.func14, Try.ntmps14
  go_wp2_with fail
  go_loopw [3] (fun i wr => ∃ k m0 : Nat, k ≤ xs.length ∧ chk k (placeOk xs) = true ∧ i = .int .i64 k ∧ wr = w.drewN m0) (fun i _ => xs.length - (intOf i).toNat)
  case atStart => exact ⟨0, 0, Nat.zero_le _, rfl, rfl, rfl⟩
  case round =>
    obtain ⟨k, m0, hk, hall, rfl, hwr⟩ := hrel
    have Hw := Lib.hid (fun n => (show wr.drewN n = w.drewN (m0 + n) by rw [hwr, World.drewN_drewN]))
    have Hw0 := Lib.hid hwr
    have Hall := Lib.hid hall; clear hall
    have Hr : Hid (RdE wr B (.slice A xs.length c) xs) := Lib.hid (by rw [hwr]; exact H.out.drewN m0)
    clear hwr
    by_cases hlt : k < xs.length
    · obtain ⟨b1, o1, A3, c3, hA, hE⟩ := Hr.out.at k hlt
      have HA := Lib.hid hA
      have hlt' : (k : Int) < (xs.length : Int) := by omega
      have Hbad := Lib.hid (fun h => ents_no (l := xs) k hlt h)
      have Hst := Lib.hid (fun h => chk_step (f := placeOk xs) (k := k) Hall.out h)
      have Hn := Lib.hid (fun h => place_no xs k hlt h)
      have hsx := Lib.hid (Hsm.out xs[k] (List.getElem_mem hlt))
      cases k with
      | zero =>
        have H0 := Lib.hid (fun h => place_0 xs hlt h)
        generalize xs[0] = x at *
        subst hA
        clear HA
        have HO := Lib.hid (fun n => l25One_any B b1 (o1 + 0 * 5) x A3 c3 (wr.drewN n) (hE.drewN n) hsx.out)
        rw [Nat.zero_mul, Nat.add_zero] at HO
        have e0 := hE.c0
        rw [Nat.zero_mul, Nat.add_zero] at e0
        clear hE
        generalize x.num = num at *
        cases g : entOk x with
        | false =>
          have hf := Lib.hid (Hbad.out (Hn.out g))
          rw [g] at HO
          clear Hbad Hst Hn g H0
          go_wp2_with fail
          go_quiet ((go_at_call 24; exact Calls.quiet_of (HO.out _)))
          go_wp2_with fail
          go_ret
          rw [hf.out]; exact ⟨rfl, _, Hw.out _⟩
        | true =>
          have hst := Lib.hid (Hst.out (H0.out g))
          rw [g] at HO
          clear Hbad Hst Hn g H0
          go_wp2_with fail
          go_quiet ((go_at_call 24; exact Calls.quiet_of (HO.out _)))
          go_wp2_with fail
          go_roundw
          case rel => exact ⟨1, _, by omega, hst.out, by go_num, Hw.out _⟩
          case measure => simp [intOf]; omega
      | succ m =>
        obtain ⟨b2, o2, A4, c4, hA', hE'⟩ := Hr.out.at m (by omega)
        rw [HA.out] at hA'
        obtain ⟨rfl, rfl⟩ : b1 = b2 ∧ o1 = o2 := by simpa using hA'
        have H0 := Lib.hid (fun h => place_s xs m hlt h)
        have hp0 := hE'.c0
        generalize xs[m + 1] = x at *
        generalize xs[m] = y at *
        generalize y.num = pn at *
        subst hA
        clear hA' HA hE'
        have HO := Lib.hid (fun n => l25One_any B b1 (o1 + (m + 1) * 5) x A3 c3 (wr.drewN n) (hE.drewN n) hsx.out)
        have e0 := hE.c0
        clear hE
        have hpos : (0 : Int) < ((m + 1 : Nat) : Int) := by omega
        cases g : entOk x with
        | false =>
          have hf := Lib.hid (Hbad.out (Hn.out g))
          rw [g] at HO
          clear Hbad Hst Hn g H0
          go_wp2_with fail
          go_quiet ((go_at_call 24; exact Calls.quiet_of (HO.out _)))
          go_wp2_with fail
          go_ret
          rw [hf.out]; exact ⟨rfl, _, Hw.out _⟩
        | true =>
          rw [g] at HO
          have h1 := H0.out g
          generalize x.num = num at *
          have hm2 : (m : Int) < (xs.length : Int) := by omega
          rcases Decidable.em (pn < num) with gl | gl
          · have hst := Lib.hid (Hst.out (h1.trans (decide_eq_true gl)))
            clear Hbad Hst Hn g H0 h1
            have hm1 : IntKind.i64.wrap (m : Int) = (m : Int) := IntWalk.i64_in _ (by omega)
            go_wp2_with fail
            go_quiet ((go_at_call 24; exact Calls.quiet_of (HO.out _)))
            clear hm1
            go_wp2_with fail
            go_roundw
            case rel => exact ⟨m + 1 + 1, _, by omega, hst.out, by go_num, Hw.out _⟩
            case measure => simp [intOf]; omega
          · have hf := Lib.hid (Hbad.out (h1.trans (decide_eq_false gl)))
            have gl' : num ≤ pn := by omega
            clear Hbad Hst Hn g H0 h1 gl
            have hm1 : IntKind.i64.wrap (m : Int) = (m : Int) := IntWalk.i64_in _ (by omega)
            go_wp2_with fail
            go_quiet ((go_at_call 24; exact Calls.quiet_of (HO.out _)))
            clear hm1
            go_wp2_with fail
            go_ret
            rw [hf.out]; exact ⟨rfl, _, Hw.out _⟩
    · have hc : chk xs.length (placeOk xs) = true := by rw [show xs.length = k by omega]; exact Hall.out
      have hf := Lib.hid (show entsOk xs = decide (xs.length ≤ 50) by unfold entsOk; rw [hc]; rfl)
      have hlt' : (xs.length : Int) ≤ (k : Int) := by omega
      clear hc
      go_wp2_with fail
      go_ret
      rw [hf.out]; exact ⟨by simp; omega, _, Hw0.out⟩

end Go.Proofs.Ytmlnaedeghpbbaa
/- Similar entries, part 1: finding an entry, a word. -/
namespace Go.Proofs.Ytmlnaedeghpbbaa
open Go.RowKit Go.Joins

def findN : List Ent → Int → Nat → Int
  | [], _, _ => -1
  | x :: l, m, k => if x.num = m then (k : Int) else findN l m (k + 1)
theorem findN_at (xs : List Ent) (m : Int) (k : Nat) (hk : k < xs.length) : findN (xs.drop k) m k = if xs[k].num = m then (k : Int) else findN (xs.drop (k + 1)) m (k + 1) := by
  rw [List.drop_eq_getElem_cons hk]; rfl
theorem findN_end (xs : List Ent) (m : Int) (k : Nat) (hk : xs.length ≤ k) : findN (xs.drop k) m k = -1 := by rw [List.drop_of_length_le hk]; rfl
theorem findN_bd (m : Int) : ∀ (xs : List Ent) (k : Nat), findN xs m k = -1 ∨ ∃ i, i < xs.length ∧ findN xs m k = ((k + i : Nat) : Int) := by
  intro xs
  induction xs with
  | nil => intro k; exact .inl rfl
  | cons x l ih =>
    intro k
    unfold findN
    split
    · exact .inr ⟨0, by simp, rfl⟩
    · rcases ih (k + 1) with h | ⟨i, h1, h2⟩
      · exact .inl h
      · exact .inr ⟨i + 1, by simp; omega, by rw [h2]; congr 1; omega⟩
def hasW : List ByteArray → ByteArray → Bool
  | [], _ => false
  | x :: l, s => if x = s then true else hasW l s
theorem hasW_at (ws : List ByteArray) (s : ByteArray) (k : Nat) (hk : k < ws.length) : hasW (ws.drop k) s = if ws[k] = s then true else hasW (ws.drop (k + 1)) s := by
  rw [List.drop_eq_getElem_cons hk]; rfl
theorem hasW_end (ws : List ByteArray) (s : ByteArray) (k : Nat) (hk : ws.length ≤ k) : hasW (ws.drop k) s = false := by rw [List.drop_of_length_le hk]; rfl

/-- the code of an asked number, and where it is -/
def askC (xs : List Ent) (m : Int) : Int := if entsOk xs = false then 1 else if findN xs m 0 < 0 then 3 else 0
def askI (xs : List Ent) (m : Int) : Int := if entsOk xs = false then 0 else if findN xs m 0 < 0 then 0 else findN xs m 0
end Go.Proofs.Ytmlnaedeghpbbaa
/- Registers, part 1: the exact laws' helpers: szInt64S, szRegister, toInt64S, eqInt64S. -/
namespace Go.Proofs.Ytmlnaedeghpbbaa
open Go.RowKit Go.Joins

def ints (l : List Int) : List Value := l.map (Value.int .i64)
theorem infoI : (Try.prog.info? 2).map (fun i => (i.zero, i.size, i.bytes)) = some (some (.int .i64 0), 1, 8) := by kernel_rfl
theorem ints_rd {w : World} {B n c : Nat} {A : Option Addr} {zs : List Int} (h : Rd w B (.slice A n c) zs.length 1 (ints zs)) (k : Nat) (hk : k < zs.length) :
    ∃ b off, A = some ⟨b, off, none⟩ ∧ w.cell? ⟨b, off + k, none⟩ = some (.int .i64 zs[k]) := by
  obtain ⟨_, A', c', hv, hc⟩ := h
  injection hv with e1 e2 e3
  subst e1
  obtain ⟨b, off, hA, _, hcc⟩ := hc (by omega)
  exact ⟨b, off, hA, hcc k _ (by simp [ints, hk])⟩

/-- what is left of the room -/
def leftI (left : Int) (n : Nat) : Int := if left - n < 0 then -1 else left - n
theorem leftI_bd (left : Int) (n : Nat) (h1 : left ≤ 1048576) : leftI left n ≤ 1048576 ∧ (0 ≤ leftI left n → (n : Int) ≤ left) ∧ (leftI left n < 0 → leftI left n = -1) := by
  unfold leftI
  split <;> omega

set_option maxHeartbeats 400000 in
theorem eqInt64S_same (B1 B2 : Nat) (v1 v2 : Value) (zs : List Int) (w : World) (h1 : Rd w B1 v1 zs.length 1 (ints zs)) (h2 : Rd w B2 v2 zs.length 1 (ints zs)) (hz : zs.length ≤ 4611686018427387904) :
    Calls Try.prog 8 #[v1, v2] w fun e w' => e = .returned (.bool true) ∧ ∃ n, w' = w.drewN n := by
  have h1' := h1
  have h2' := h2
  obtain ⟨_, A1, c1, rfl, _⟩ := h1'
  obtain ⟨_, A2, c2, rfl, _⟩ := h2'
  have H1 := Lib.hid h1; clear h1
  have H2 := Lib.hid h2; clear h2
  go_enter Try.func8, Try.ntmps8
  go_wp2_with fail
  go_loopw [5] (fun i wr => ∃ k m : Nat, k ≤ zs.length ∧ i = .int .i64 k ∧ wr = w.drewN m) (fun i _ => zs.length - (intOf i).toNat)
  case atStart => exact ⟨0, 0, Nat.zero_le _, rfl, rfl⟩
  case round =>
    obtain ⟨k, m, hk, rfl, rfl⟩ := hrel
    by_cases hlt : k < zs.length
    · obtain ⟨b1, o1, hA1, hx⟩ := ints_rd H1.out k hlt
      obtain ⟨b2, o2, hA2, hy⟩ := ints_rd H2.out k hlt
      subst hA1 hA2
      generalize zs[k] = z at *
      have hlt' : (k : Int) < (zs.length : Int) := by omega
      go_wp2_with fail
      go_quiet (fail)
      go_wp2_with fail
      go_roundw
      case rel => exact ⟨k + 1, _, by omega, by go_num, rfl⟩
      case measure => simp [intOf]; omega
    · have hlt' : (zs.length : Int) ≤ (k : Int) := by omega
      go_wp2_with fail
      go_ret
      exact ⟨rfl, _, rfl⟩

end Go.Proofs.Ytmlnaedeghpbbaa
/- Similar entries, part 2: the words two entries share; the reference's side. -/
namespace Go.Proofs.Ytmlnaedeghpbbaa
open Go.RowKit Go.Joins

/-- how many words of the one list the other has -/
def comN : List ByteArray → List ByteArray → Nat
  | [], _ => 0
  | x :: l, b => if hasW b x = true then 1 + comN l b else comN l b
theorem comN_at (ws b : List ByteArray) (k : Nat) (hk : k < ws.length) : comN (ws.drop k) b = if hasW b ws[k] = true then 1 + comN (ws.drop (k + 1)) b else comN (ws.drop (k + 1)) b := by
  rw [List.drop_eq_getElem_cons hk]; rfl
theorem comN_end (ws b : List ByteArray) (k : Nat) (hk : ws.length ≤ k) : comN (ws.drop k) b = 0 := by rw [List.drop_of_length_le hk]; rfl
theorem comN_le : ∀ (ws b : List ByteArray), comN ws b ≤ ws.length := by
  intro ws b
  induction ws with
  | nil => exact Nat.le_refl _
  | cons x l ih => unfold comN; split <;> simp <;> omega

end Go.Proofs.Ytmlnaedeghpbbaa
/- Similar entries, part 3: the list; the reference's SimilarEntries. -/
namespace Go.Proofs.Ytmlnaedeghpbbaa
open Go.RowKit Go.Joins

def simF : List Ent → Nat → Nat → List ByteArray → Nat → List Int → List Int
  | [], _, _, _, _, out => out
  | x :: l, k, i, b, m, out => if k = i ∨ comN x.words b < m then simF l (k + 1) i b m out else if m < comN x.words b then simF l (k + 1) i b (comN x.words b) [x.num] else simF l (k + 1) i b m (out ++ [x.num])
theorem simF_at (xs : List Ent) (k i : Nat) (b : List ByteArray) (m : Nat) (out : List Int) (hk : k < xs.length) : simF (xs.drop k) k i b m out =
    if k = i ∨ comN xs[k].words b < m then simF (xs.drop (k + 1)) (k + 1) i b m out else if m < comN xs[k].words b then simF (xs.drop (k + 1)) (k + 1) i b (comN xs[k].words b) [xs[k].num] else simF (xs.drop (k + 1)) (k + 1) i b m (out ++ [xs[k].num]) := by
  rw [List.drop_eq_getElem_cons hk]; rfl
theorem simF_end (xs : List Ent) (k i : Nat) (b : List ByteArray) (m : Nat) (out : List Int) (hk : xs.length ≤ k) : simF (xs.drop k) k i b m out = out := by rw [List.drop_of_length_le hk]; rfl
/-- the numbers of the most similar -/
def simL (xs : List Ent) (m : Int) : List Int := if askC xs m = 0 then simF xs 0 (askI xs m).toNat (xs.getD (askI xs m).toNat noEnt).words 1 [] else []
theorem simF_len (i : Nat) (b : List ByteArray) : ∀ (xs : List Ent) (k m : Nat) (out : List Int), (simF xs k i b m out).length ≤ out.length + xs.length := by
  intro xs
  induction xs with
  | nil => intro k m out; exact Nat.le_refl _
  | cons x l ih =>
    intro k m out
    unfold simF
    split
    · have := ih (k + 1) m out; simp; omega
    · split
      · have := ih (k + 1) (comN x.words b) [x.num]; simp at *; omega
      · have := ih (k + 1) m (out ++ [x.num]); simp at *; omega
theorem simL_len (xs : List Ent) (m : Int) : (simL xs m).length ≤ xs.length := by
  unfold simL
  split
  · have := simF_len (askI xs m).toNat (xs.getD (askI xs m).toNat noEnt).words xs 0 1 []; simpa using this
  · simp
theorem sim_cases (xs : List Ent) (m : Int) : (askC xs m ≠ 0 ∧ simL xs m = []) ∨ ∃ (i : Nat) (hi : i < xs.length), askC xs m = 0 ∧ askI xs m = i ∧ entsOk xs = true ∧ findN xs m 0 = i ∧ simL xs m = simF xs 0 i xs[i].words 1 [] := by
  by_cases h : askC xs m = 0
  · right
    have h' := h
    unfold askC at h
    split at h
    · cases h
    · split at h
      · cases h
      · rename_i ho hf
        have ho : entsOk xs = true := by simpa using ho
        rcases findN_bd m xs 0 with e | ⟨i, hi, e⟩
        · omega
        · rw [Nat.zero_add] at e
          have hI : askI xs m = (i : Int) := by
            unfold askI
            rw [if_neg (by simp [ho]), if_neg (by omega), e]
          refine ⟨i, hi, h', hI, ho, e, ?_⟩
          unfold simL
          rw [if_pos h', hI, Int.toNat_natCast, getE_at xs i hi]
  · exact .inl ⟨h, by unfold simL; rw [if_neg h]⟩

/-- a new list of numbers and a code -/
def RetN (code : Int) (zs : List Int) (w : World) (e : Ending) (w' : World) : Prop :=
  ∃ v, e = .returned (.tuple #[v, .int .i64 code]) ∧ w'.ownsRow w.heap.size 2 1 v zs.length (ints zs) ∧ Below w.heap.size w w'
theorem RetN_no {code c2 : Int} {zs : List Int} {w w' : World} (h : zs = []) (hc : c2 = code) (hb : Below w.heap.size w w') : RetN code zs w (.returned (.tuple #[.slice none 0 0, .int .i64 c2])) w' := by
  subst h hc
  exact ⟨_, rfl, World.ownsRow_nil _ _ _ _, hb⟩
theorem RetN_yes {code c2 : Int} {zs l : List Int} {v : Value} {w w' : World} (h : zs = l) (hc : c2 = code) (ho : w'.ownsRow w.heap.size 2 1 v l.length (ints l)) (hb : Below w.heap.size w w') : RetN code zs w (.returned (.tuple #[v, .int .i64 c2])) w' := by
  subst h hc
  exact ⟨_, rfl, ho, hb⟩
theorem ones_one (a : Int) : ∀ u ∈ (#[Value.int .i64 a] : Array Value).toList, u.oneCell' = true := by
  intro u hu
  simp at hu
  subst hu; rfl
theorem ints_one (l : List Int) (a : Int) : ints l ++ (#[Value.int .i64 a] : Array Value).toList = ints (l ++ [a]) := by simp [ints]

end Go.Proofs.Ytmlnaedeghpbbaa
/- Similar entries, part 4: the program's SimilarEntries. -/
namespace Go.Proofs.Ytmlnaedeghpbbaa
open Go.RowKit Go.Joins

end Go.Proofs.Ytmlnaedeghpbbaa
/- A stable sort by years, part 10: the caller's comparison, the sort as the caller sees it. -/
namespace Go.Proofs.Ytmlnaedeghpbbaa
open Go.RowKit Go.Joins Go.Lib

theorem less_any {base blk n c qo : Nat} {en : Nat → List Value} {yr : Nat → Int} (h5 : ∀ u, (en u).length = 5) (hyr : ∀ u, (en u)[3]? = some (.int .i64 (yr u))) (hn : n ≤ 1000) (w : World) (x : Nat → Nat) (i k : Nat) (h : StY base blk n c qo en w x) (hi : i < n) (hk : k < n) :
    Calls Try.prog 19 #[.int .i64 (i : Int), .int .i64 (k : Int), .pointer (some ⟨qo, 0, none⟩)] w fun e w' => e = .returned (.bool (decide (yr (x i) < yr (x k)))) ∧ ∃ d, w' = w.drewN d := by
  have c1 := h.at' h5 hi (j := 3) (by omega) (hyr _)
  have c2 := h.at' h5 hk (j := 3) (by omega) (hyr _)
  have c0 := h.ord
  have hi' : (i : Int) < (n : Int) := by omega
  have hk' : (k : Int) < (n : Int) := by omega
  clear h
  generalize yr (x i) = y1 at *
  generalize yr (x k) = y2 at *
  go_enter Try.func19, Try.ntmps19
  go_wp2_with fail
  go_quiet (fail)
  go_wp2_with fail
  go_ret
  exact ⟨rfl, nq, rfl⟩
theorem env_any (base blk n c qo : Nat) (en : Nat → List Value) (yr : Nat → Int) (hn : n ≤ 1000) (h5 : ∀ u, (en u).length = 5) (hyr : ∀ u, (en u)[3]? = some (.int .i64 (yr u))) (h1 : ∀ u, ∀ v ∈ en u, v.oneCell' = true) :
    EnvY 19 #[.pointer (some ⟨qo, 0, none⟩)] 44 #[.slice (some ⟨blk, 0, none⟩) n c, typeHandle Try.prog 39] base blk n c qo en yr where
  h5 := h5
  n1 := hn
  enter := enters_of Try.func19 (by kernel_rfl) rfl
  less := fun w x i k h hi hk => less_any h5 hyr hn w x i k h hi hk
  swap := fun w x i k h hi hk _ => by
    obtain ⟨ie, hie, hs5, _, _⟩ := enT_info
    have hc : ∀ q, q < n → ∀ u v, (en (x q))[u]? = some v → w.cell? ⟨blk, 0 + q * ie.size + u, none⟩ = some v := fun q hq u v hv => by
      have hu : u < 5 := by
        have := (List.getElem?_eq_some_iff.mp hv).1
        rwa [h5] at this
      rw [hs5, Nat.zero_add]
      exact h.at' h5 hq hu hv
    have hf : ∀ o, w.frozen? ⟨blk, o, none⟩ = false := fun o => h.row.frozenAt o
    have := run_swap_cells (P := Try.prog) false 39 ie hie (fun _ => by kernel_rfl) blk 0 n c i k hi hk (en (x i)) (en (x k)) (by rw [h5, hs5]) (by rw [h5, hs5]) (h1 _) (h1 _) w (hc i hi) (hc k hk) (fun u _ => hf _) (fun u _ => hf _)
    rw [hs5] at this
    rw [run_callFunc_extern Try.func44 (by kernel_rfl) (by kernel_rfl) (by kernel_rfl) (e := Extern.ReflectliteSwapper.swap false) (by kernel_rfl), show (#[Value.int .i64 (i : Int), Value.int .i64 (k : Int)] ++ #[Value.slice (some ⟨blk, 0, none⟩) n c, typeHandle Try.prog 39]) = #[.int .i64 i, .int .i64 k, .slice (some ⟨blk, 0, none⟩) n c, typeHandle Try.prog 39] from rfl, this]
    rfl
theorem SegY.tiny (yr : Nat → Int) {n : Nat} (h : n ≤ 1) : SegY yr (fun k => k) 0 n :=
  ⟨fun i j _ h2 h3 => by omega, fun i _ h2 => ⟨Nat.zero_le _, h2⟩, fun v _ h2 => ⟨v, Nat.zero_le _, h2, rfl⟩⟩
/-- the sort, as the caller sees it -/
theorem sortCall_any {base n c qo : Nat} {A : Option Addr} {en : Nat → List Value} {yr : Nat → Int} (w : World) (hn : n ≤ 50) (h5 : ∀ u, (en u).length = 5) (hyr : ∀ u, (en u)[3]? = some (.int .i64 (yr u))) (h1 : ∀ u, ∀ v ∈ en u, v.oneCell' = true)
    (h : w.ownsRow base 39 5 (.slice A n c) n (cellsY en (fun k => k) n)) (ho : w.cell? ⟨qo, 0, none⟩ = some (.slice A n c)) (hq : qo < w.heap.size) (hne : (Value.slice A n c).ownBlock ≠ some qo) :
    Calls Try.prog 18 #[.iface 27 (.slice A n c), .func (.func 19) #[] #[.pointer (some ⟨qo, 0, none⟩)]] w fun e w' => e = .returned (.tuple #[]) ∧ ∃ y, SegY yr y 0 n ∧ w'.ownsRow base 39 5 (.slice A n c) n (cellsY en y n) ∧ w'.cell? ⟨qo, 0, none⟩ = some (.slice A n c) ∧ w.grownBy w' (Value.slice A n c).ownBlock := by
  have hb : Below w.heap.size w (stW A n c w) := by
    unfold stW
    exact ((Below.refl w.heap.size w).alloc (Nat.le_refl _) _).alloc (by simp) _
  by_cases h2 : 2 ≤ n
  · obtain ⟨blk, c', hv, _, _⟩ := own_posC h (by omega)
    injection hv with hA _ hc
    subst hA hc
    have hqb : qo ≠ blk := fun e => hne (by rw [e]; rfl)
    have hS : StY base blk n c qo en (stW (some ⟨blk, 0, none⟩) n c w) (fun k => k) := (⟨h, ho, hq, hqb⟩ : StY base blk n c qo en w (fun k => k)).below hb
    have hst := stable_any (env_any base blk n c qo en yr (by omega) h5 hyr h1) _ hS hn
    refine SliceStable_of _ n c (by omega) _ _ _ _ _ w _ (fun w => swapper_big _ n c h2 w) (hst.mono ?_)
    rintro e w' ⟨he, y, hy, hs, hg⟩
    exact ⟨he, y, hy, hs.row, hs.ord, grown_trans (grown_of_below hb _) hg⟩
  · have hfin : ∀ w', Below (stW A n c w).heap.size (stW A n c w) w' → ∃ y, SegY yr y 0 n ∧ w'.ownsRow base 39 5 (.slice A n c) n (cellsY en y n) ∧ w'.cell? ⟨qo, 0, none⟩ = some (.slice A n c) ∧ w.grownBy w' (Value.slice A n c).ownBlock := fun w' hb' => by
      have hb2 := hb.trans (hb'.mono hb.size)
      exact ⟨_, SegY.tiny yr (by omega), own_below h hb2, (hb2.cell (p := ⟨qo, 0, none⟩) hq).trans ho, grown_of_below hb2 _⟩
    by_cases h0 : n = 0
    · subst h0
      refine SliceStable_of A 0 c (by omega) _ _ _ _ _ w _ (fun w => swapper_none A c w) ((stableTiny_any _ _ _ _ _ 0 (by omega) _).mono ?_)
      rintro e w' ⟨he, hb'⟩
      exact ⟨he, hfin w' hb'⟩
    · obtain rfl : n = 1 := by omega
      refine SliceStable_of A 1 c (by omega) _ _ _ _ _ w _ (fun w => swapper_one A c w) ((stableTiny_any _ _ _ _ _ 1 (by omega) _).mono ?_)
      rintro e w' ⟨he, hb'⟩
      exact ⟨he, hfin w' hb'⟩
end Go.Proofs.Ytmlnaedeghpbbaa
/- A stable sort by years: a row, empty or not, appended to a row of the call's own. -/
namespace Go.Proofs.Ytmlnaedeghpbbaa
open Go.RowKit

theorem sl_ofY {w : World} {base n size : Nat} {e : TypeId} {v : Value} {cs : List Value} (h : w.ownsRow base e size v n cs) : ∃ A c, v = .slice A n c := by
  rcases h.2 with ⟨rfl, rfl⟩ | ⟨g, cap, cur, rfl, _⟩
  · exact ⟨_, _, rfl⟩
  · exact ⟨_, _, rfl⟩
theorem run_append_zero {P : Program} {w : World} (base : Nat) (t ty e : TypeId) (i : TypeInfo) (size : Nat) (ht : P.underlying t = some (.slice e)) (hi : P.info? e = some i)
    (v : Value) (n : Nat) (xs : List Value) (hown : w.ownsRow base e size v n xs) (A : Option Addr) (c : Nat) :
    (Builtin.append_ #[t, t] ty #[v, .slice A 0 c]).run P w = .ok v w := by
  have hld : ∀ a : Addr, (loadCells a 0).run P w = .ok #[] w := fun _ => rfl
  rcases hown.2 with ⟨rfl, rfl⟩ | ⟨g, cap, cur, rfl, _, _, hnc, _⟩
  · cases A <;> simp [Builtin.append_, run_underlying ht, sizeOf, typeInfo, hi, Builtin.lenOf, Builtin.firstCells, storeCells, hld, Result.andThen]
  · cases A <;> simp [Builtin.append_, run_underlying ht, sizeOf, typeInfo, hi, Builtin.lenOf, Builtin.firstCells, hnc, storeCells, hld, Result.andThen]
theorem wpList_ap0 {P : Program} {w : World} {ops : Array Oper} {rest : List Oper} {o : Oper} {a : Act} {Q : Exit → Act → World → Prop} (t e : TypeId) (z : Value) (size bytes : Nat)
    (ht : P.underlying t = some (.slice e)) (hinfo : (P.info? e).map (fun i => (i.zero, i.size, i.bytes)) = some (some z, size, bytes)) (s x : Operand) (hgd : o.guard = none)
    (ho : o.op = .call { callee := .builtin .append, args := #[s, x], argTypes := #[t, t] })
    (base : Nat) (v : Value) (n : Nat) (xs : List Value) (hs : a.eval s = v) (hown : w.ownsRow base e size v n xs) (A : Option Addr) (c : Nat) (hx : a.eval x = .slice A 0 c)
    (h : wpList P ops Q rest (a.put o.dst v) w) : wpList P ops Q (o :: rest) a w := by
  obtain ⟨i, hi, _, _, _⟩ := info_parts hinfo
  refine wpList_plain hgd fun K hK => ?_
  have hrun := run_append_zero (P := P) (w := w) base t o.type e i size ht hi v n xs hown A c
  unfold Oper.wp
  simp [execOp, ho, resolve, invoke, builtin, hs, hx, hrun, Result.andThen]
  exact hK _ _ h
/-- the same, whether the row is empty or not -/
theorem wpList_apY {P : Program} {w : World} {ops : Array Oper} {rest : List Oper} {o : Oper} {a : Act} {Q : Exit → Act → World → Prop} (t e : TypeId) (z : Value) (size bytes : Nat)
    (ht : P.underlying t = some (.slice e)) (hinfo : (P.info? e).map (fun i => (i.zero, i.size, i.bytes)) = some (some z, size, bytes)) (hzs : z.cells.size = size) (hsz : 0 < size)
    (s x : Operand) (hgd : o.guard = none) (ho : o.op = .call { callee := .builtin .append, args := #[s, x], argTypes := #[t, t] })
    (base : Nat) (v : Value) (n : Nat) (xs : List Value) (hs : a.eval s = v) (hown : w.ownsRow base e size v n xs)
    (A : Option Addr) (m c : Nat) (cs : List Value) (hx : a.eval x = .slice A m c) (hl : cs.length = m * size) (hc : 0 < m → ∃ b off, A = some ⟨b, off, none⟩ ∧ ∀ (i : Nat) (u : Value), cs[i]? = some u → w.cell? ⟨b, off + i, none⟩ = some u) (h1 : ∀ u ∈ cs, u.oneCell' = true)
    (h63 : n + m ≤ maxLen) (hbytes : (n + m) * bytes ≤ 140737488355328) (hbase : base ≤ w.heap.size)
    (h : ∀ v' w', w'.ownsRow base e size v' (n + m) (xs ++ cs) → w.grownBy w' v.ownBlock → wpList P ops Q rest (a.put o.dst v') w') :
    wpList P ops Q (o :: rest) a w := by
  rcases Nat.eq_zero_or_pos m with h0 | h0
  · subst h0
    obtain rfl : cs = [] := List.eq_nil_of_length_eq_zero (by rw [hl, Nat.zero_mul])
    refine wpList_ap0 t e z size bytes ht hinfo s x hgd ho base v n xs hs hown A c hx (h v w ?_ ⟨rfl, rfl, rfl, Nat.le_refl _, fun _ _ _ => rfl⟩)
    rw [List.append_nil]; exact hown
  · obtain ⟨b, off, rfl, hcc⟩ := hc h0
    exact wpList_apr t e z size bytes ht hinfo hzs hsz s x hgd ho base v n xs hs hown b off m c cs hx hl hcc h1 h63 hbytes hbase h
end Go.Proofs.Ytmlnaedeghpbbaa
/- A stable sort by years, part 11: ByYear of the program. -/
namespace Go.Proofs.Ytmlnaedeghpbbaa
open Go.RowKit Go.Joins Go.Lib

theorem infoEn : (Try.prog.info? 39).map (fun i => (i.zero, i.size, i.bytes)) = some (some (.agg #[.int .i64 0, .string ⟨#[]⟩, .string ⟨#[]⟩, .int .i64 0, .slice none 0 0]), 5, 72) := by kernel_rfl
theorem infoNm : (Try.prog.info? 2).map (fun i => (i.zero, i.size, i.bytes)) = some (some (.int .i64 0), 1, 8) := by kernel_rfl
def ydE (ys : List (Ent × Value)) (u : Nat) : Ent × Value := ys.getD u (⟨0, ⟨#[]⟩, ⟨#[]⟩, 0, []⟩, .slice none 0 0)
def enE (ys : List (Ent × Value)) (u : Nat) : List Value := cellsE (ydE ys u)
def yrE (xs : List Ent) (u : Nat) : Int := (xs.getD u ⟨0, ⟨#[]⟩, ⟨#[]⟩, 0, []⟩).year
def nuE (xs : List Ent) (u : Nat) : Int := (xs.getD u ⟨0, ⟨#[]⟩, ⟨#[]⟩, 0, []⟩).num
theorem ydE_fst (ys : List (Ent × Value)) (u : Nat) : (ydE ys u).1 = (ys.map (·.1)).getD u ⟨0, ⟨#[]⟩, ⟨#[]⟩, 0, []⟩ := by
  unfold ydE
  rw [List.getD_eq_getElem?_getD, List.getD_eq_getElem?_getD, List.getElem?_map]
  cases ys[u]? <;> rfl
theorem enE_cells (ys : List (Ent × Value)) : cellsY (enE ys) (fun k => k) ys.length = ys.flatMap cellsE := by
  have e : (List.range ys.length).map (ydE ys) = ys := by
    refine List.ext_getElem (by simp) fun i h1 h2 => ?_
    rw [List.getElem_map, List.getElem_range]
    unfold ydE
    rw [List.getD_eq_getElem?_getD, List.getElem?_eq_getElem h2]; rfl
  unfold cellsY enE
  have h2 : (List.range ys.length).flatMap (fun k => cellsE (ydE ys k)) = ((List.range ys.length).map (ydE ys)).flatMap cellsE := by rw [List.flatMap_map]
  exact h2.trans (by rw [e])
theorem enE_one {w : World} {B : Nat} {ys : List (Ent × Value)} (h : ∀ y ∈ ys, RdW w B y) (u : Nat) : ∀ v ∈ enE ys u, v.oneCell' = true := by
  have h2 : (ydE ys u).2.oneCell' = true := by
    unfold ydE
    rw [List.getD_eq_getElem?_getD]
    cases e : ys[u]? with
    | none => rfl
    | some y =>
      obtain ⟨_, A, c, hv, _⟩ := h y (List.mem_of_getElem? e)
      show y.2.oneCell' = true
      rw [hv]; rfl
  intro v hv
  unfold enE cellsE at hv
  simp only [List.mem_cons, List.not_mem_nil, or_false] at hv
  rcases hv with rfl | rfl | rfl | rfl | rfl
  · rfl
  · rfl
  · rfl
  · rfl
  · exact h2
theorem enE_sl {w : World} {B : Nat} {ys : List (Ent × Value)} (h : ∀ y ∈ ys, RdW w B y) (u : Nat) : ∃ A m c, (ydE ys u).2 = .slice A m c := by
  unfold ydE
  rw [List.getD_eq_getElem?_getD]
  cases e : ys[u]? with
  | none => exact ⟨_, _, _, rfl⟩
  | some y =>
    obtain ⟨_, A, c, hv, _⟩ := h y (List.mem_of_getElem? e)
    exact ⟨A, _, c, hv⟩
theorem ownsRow_leY {w : World} {base b0 n size : Nat} {e : TypeId} {v : Value} {cs : List Value} (h : w.ownsRow base e size v n cs) (hb : b0 ≤ base) : w.ownsRow b0 e size v n cs := by
  refine ⟨h.1, ?_⟩
  rcases h.2 with ⟨h1, h2⟩ | ⟨g, cap, cur, h1, h2, h3⟩
  · exact .inl ⟨h1, h2⟩
  · exact .inr ⟨g, cap, cur, h1, Nat.le_trans hb h2, h3⟩
theorem newCellY (w : World) (v : Value) (e : TypeId) : (w.alloc (.cells #[v] e)).cell? ⟨w.heap.size, 0, none⟩ = some v := by
  rw [cell_of_row (w.alloc (.cells #[v] e)) w.heap.size 0 #[v] e (0, 0) (heap_alloc_new w _)]
  rfl
/-- the numbers by years -/
def byC (xs : List Ent) : Int := if entsOk xs = true then 0 else 1
def byL (xs : List Ent) : List Int := if entsOk xs = true then (List.range xs.length).map fun k => nuE xs ((ordY (yrE xs) xs.length).getD k 0) else []
def byT (xs : List Ent) (y : Nat → Nat) (k : Nat) : List Int := (List.range k).map fun q => nuE xs (y q)
theorem byT_succ (xs : List Ent) (y : Nat → Nat) (k : Nat) : byT xs y (k + 1) = byT xs y k ++ [nuE xs (y k)] := by unfold byT; rw [List.range_succ, List.map_append]; rfl
theorem byT_len (xs : List Ent) (y : Nat → Nat) (k : Nat) : (byT xs y k).length = k := by unfold byT; simp
theorem byT_all {xs : List Ent} {y : Nat → Nat} (hok : entsOk xs = true) (h : SegY (yrE xs) y 0 xs.length) : byT xs y xs.length = byL xs := by
  unfold byT byL
  rw [if_pos hok]
  exact List.map_congr_left fun k hk => by rw [seg_ord h k (List.mem_range.1 hk)]
theorem ents_le {xs : List Ent} (h : entsOk xs = true) : xs.length ≤ 50 := by
  unfold entsOk at h
  rw [Bool.and_eq_true, decide_eq_true_eq] at h
  exact h.2
set_option maxRecDepth 100000 in
set_option maxHeartbeats 6400000 in
theorem ByYearI_any (B : Nat) (v : Value) (xs : List Ent) (w : World) (h : RdE w B v xs) (hB : B ≤ w.heap.size) (hl : xs.length ≤ 1048576) (hsm : ∀ x ∈ xs, smE x) :
    Calls Try.prog 7 #[v] w (RetN (byC xs) (byL xs) w) := by
  have HV := Lib.hid (ValidI_any B v xs w h hB hl hsm)
  obtain ⟨A, c, rfl⟩ := h.slice
  cases hok : entsOk xs with
  | false =>
    have e1 := Lib.hid (show 1 = byC xs by unfold byC; rw [hok]; rfl)
    have e2 := Lib.hid (show byL xs = [] by unfold byL; rw [hok]; rfl)
    rw [hok] at HV
    clear hok h hsm
    go_enter Try.func7, Try.ntmps7
    go_wp2_with fail
    refine HV.out.mono ?_; rintro e w1 ⟨rfl, hb1⟩
    go_wp2_with fail
    go_ret2
    exact RetN_no e2.out e1.out hb1
  | true =>
    have e1 := Lib.hid (show 0 = byC xs by unfold byC; rw [hok]; rfl)
    have h50 := ents_le hok
    have HT := Lib.hid (fun y hy => byT_all (xs := xs) (y := y) hok hy)
    rw [hok] at HV
    obtain ⟨ys, hys, hrd, hww⟩ := h
    have hyl : ys.length = xs.length := by rw [← hys, List.length_map]
    have H1 := Lib.hid (fun u => enE_one hww u)
    have Hsl := Lib.hid (fun u => enE_sl hww u)
    have Hnm := Lib.hid (show ∀ u, (ydE ys u).1.num = nuE xs u from fun u => by unfold nuE; rw [← hys, ← ydE_fst])
    have Hyr := Lib.hid (show ∀ u, (enE ys u)[3]? = some (.int .i64 (yrE xs u)) from fun u => by unfold enE yrE; rw [← hys, ← ydE_fst]; rfl)
    have Hnu := Lib.hid (show ∀ u, (enE ys u)[0]? = some (.int .i64 (nuE xs u)) from fun u => by unfold enE nuE; rw [← hys, ← ydE_fst]; rfl)
    have Hcs := Lib.hid (enE_cells ys)
    have Hrd := Lib.hid hrd
    have hmf : ∀ (fn : Fn) (first cap : Array Value) (w : World), (Instr.makeFunc fn first cap).run Try.prog w = .ok (.func fn first cap) w := fun _ _ _ _ => rfl
    obtain ⟨n, hn⟩ : ∃ n, xs.length = n := ⟨_, rfl⟩
    rw [hn] at h50 HT hyl Hrd HV ⊢
    rw [hyl] at Hcs
    clear hok hsm hys hrd hww hyl hn hl
    have HLen := Lib.hid (show (cellsY (enE ys) (fun k => k) n).length = n * 5 from cellsY_len (fun _ => rfl) _ n)
    have HOne := Lib.hid (show ∀ u ∈ cellsY (enE ys) (fun k => k) n, u.oneCell' = true from fun u hu => by
      unfold cellsY at hu
      obtain ⟨k, _, hk⟩ := List.mem_flatMap.1 hu
      exact H1.out k u hk)
    have Hmx := Lib.hid (show 0 + n ≤ maxLen by simp only [maxLen]; omega)
    have Hby := Lib.hid (show (0 + n) * 72 ≤ 140737488355328 by omega)
    go_enter Try.func7, Try.ntmps7
    go_wp2_with fail
    refine HV.out.mono ?_; rintro e w1 ⟨rfl, hb1⟩
    have HB1 := Lib.hid hb1
    have hb0 := Lib.hid ((Below.refl w1.heap.size w1).alloc (Nat.le_refl _) (.cells #[] 39))
    have ho0 := Lib.hid (World.ownsRow_made (base := w1.heap.size) (e := 39) (size := 5) w1 #[] 0 (Nat.le_refl _) (by simp [maxLen]) (by simp))
    have Hcc := Lib.hid (show 0 < n → ∃ b off, A = some ⟨b, off, none⟩ ∧ ∀ (i : Nat) (u : Value), (cellsY (enE ys) (fun k => k) n)[i]? = some u → (w1.alloc (.cells #[] 39)).cell? ⟨b, off + i, none⟩ = some u from fun h0 => by
      obtain ⟨_, A', c', hv, hcc⟩ := Hrd.out
      injection hv with hA _ hc
      subst hA hc
      obtain ⟨b0, o0, hA0, hbl0, hcells⟩ := hcc (by omega)
      refine ⟨b0, o0, hA0, fun i u hu => ?_⟩
      rw [Hcs.out] at hu
      have := hcells i u hu
      exact (hb0.out.cell (p := ⟨b0, o0 + i, none⟩) (show b0 < w1.heap.size by have := hb1.size; omega)).trans ((hb1.cell (p := ⟨b0, o0 + i, none⟩) (show b0 < w.heap.size by omega)).trans this))
    clear hb1 Hcs Hrd
    go_wp2_with (at_builtin; refine wpList_apY 27 39 _ 5 72 Try.underlying27 infoEn rfl (by omega) _ _ rfl rfl w1.heap.size _ 0 _ rfl ho0.out A n _ (cellsY (enE ys) (fun k => k) n) rfl HLen.out Hcc.out HOne.out Hmx.out Hby.out hb0.out.size ?_; intro v7 w7 hown7 hg7; have Hb7 := Lib.hid (below_apd hb0.out ho0.out hg7 (Nat.le_refl _) hb0.out.size); simp only [Nat.zero_add, List.nil_append] at hown7; obtain ⟨A7, c7, rfl⟩ := sl_ofY hown7; have Hown7 := Lib.hid hown7; clear hown7 hg7)
    have hbq := Lib.hid ((Below.refl w7.heap.size w7).alloc (Nat.le_refl _) (.cells #[.slice A7 n c7] 27))
    have HS := Lib.hid (sortCall_any (base := w1.heap.size) (qo := w7.heap.size) (en := enE ys) (yr := yrE xs) (w7.alloc (.cells #[.slice A7 n c7] 27)) h50 (fun _ => rfl) Hyr.out H1.out (own_below Hown7.out hbq.out) (newCellY _ _ _) (by simp) (fun e => absurd (Hown7.out.lt _ e).2 (Nat.lt_irrefl _)))
    have Hlt := Lib.hid (fun k hk => (Hown7.out.lt k hk))
    have hbQ := Lib.hid (Hb7.out.trans (hbq.out.mono Hb7.out.size))
    have Hqlt := Lib.hid (show w7.heap.size < (w7.alloc (.cells #[.slice A7 n c7] 27)).heap.size by simp)
    refine HS.out.mono ?_; rintro e w8 ⟨rfl, y, hy, ho8, hq8, hg8⟩
    have Hb8 := Lib.hid (HB1.out.trans ((hbQ.out.grown hg8 hbQ.out.size (fun k hk => (Hlt.out k hk).1)).mono HB1.out.size))
    have Hq8 := Lib.hid (Nat.lt_of_lt_of_le Hqlt.out hg8.size)
    have Ho8 := Lib.hid ho8
    have HT8 := Lib.hid (HT.out y hy)
    have hne8 := Lib.hid (show ∀ k, (Value.slice A7 n c7).ownBlock = some k → w7.heap.size ≠ k from fun k hk e => absurd (Hlt.out k hk).2 (by omega))
    clear hbq HS Hlt hbQ Hqlt Hown7 Hb7 hg8 ho8 hy hb0 ho0 Hcc Hmx Hby HOne HLen HT HB1 HV H1 Hyr Hnu
    generalize w7.heap.size = qo at *
    have Hc8 := Lib.hid hq8
    have hb9 := Lib.hid ((Below.refl w8.heap.size w8).alloc (Nat.le_refl _) (.cells #[] 2))
    have ho9 := Lib.hid (World.ownsRow_made (base := w8.heap.size) (e := 2) (size := 1) w8 #[] 0 (Nat.le_refl _) (by simp [maxLen]) rfl)
    have hq9 : (w8.alloc (.cells #[] 2)).cell? ⟨qo, 0, none⟩ = some (.slice A7 n c7) := (hb9.out.cell (p := ⟨qo, 0, none⟩) Hq8.out).trans hq8
    clear hq8
    go_wp2_with fail
    go_loopw [5, 21] (fun o i wr => ∃ k : Nat, k ≤ n ∧ i = .int .i64 (k : Int) ∧ wr.ownsRow w8.heap.size 2 1 o k (ints (byT xs y k)) ∧ Below w8.heap.size w8 wr) (fun _ i _ => n - (RowKit.intOf i).toNat)
    case atStart => exact ⟨0, Nat.zero_le _, rfl, ho9.out, hb9.out⟩
    case round =>
      obtain ⟨k, hk, rfl, hown, hbl⟩ := hrel
      obtain ⟨A', c', rfl⟩ := sl_ofY hown
      have Hown := Lib.hid hown
      have Hbl := Lib.hid hbl
      clear hown
      by_cases hlt : k < n
      · obtain ⟨blk, cap, hv, _, _⟩ := own_posC Ho8.out (by omega)
        injection hv with hA _ _
        subst hA
        have hS : StY w1.heap.size blk n c7 qo (enE ys) wr y := (⟨Ho8.out, Hc8.out, Hq8.out, hne8.out blk rfl⟩ : StY w1.heap.size blk n c7 qo (enE ys) w8 y).below hbl
        obtain ⟨A3, m3, c3, hs3⟩ := Hsl.out (y k)
        have e0 : wr.cell? ⟨blk, k * 5, none⟩ = some (.int .i64 (ydE ys (y k)).1.num) := hS.at' (fun _ => rfl) hlt (j := 0) (by omega) rfl
        have e1 : wr.cell? ⟨blk, k * 5 + 1, none⟩ = some (.string (ydE ys (y k)).1.name) := hS.at' (fun _ => rfl) hlt (j := 1) (by omega) rfl
        have e2 : wr.cell? ⟨blk, k * 5 + 2, none⟩ = some (.string (ydE ys (y k)).1.maker) := hS.at' (fun _ => rfl) hlt (j := 2) (by omega) rfl
        have e3 : wr.cell? ⟨blk, k * 5 + 3, none⟩ = some (.int .i64 (ydE ys (y k)).1.year) := hS.at' (fun _ => rfl) hlt (j := 3) (by omega) rfl
        have e4 : wr.cell? ⟨blk, k * 5 + 4, none⟩ = some (.slice A3 m3 c3) := hS.at' (fun _ => rfl) hlt (j := 4) (by omega) (by rw [← hs3]; rfl)
        have Hst := Lib.hid (show byT xs y (k + 1) = byT xs y k ++ [(ydE ys (y k)).1.num] by rw [byT_succ, Hnm.out])
        clear hs3 hS
        generalize (ydE ys (y k)).1 = x at *
        obtain ⟨num, name, maker, year, s⟩ := x
        dsimp only at e0 e1 e2 e3 Hst
        generalize byT xs y k = acc at *
        have hbr := (Below.refl wr.heap.size wr).alloc (Nat.le_refl _) (.cells #[.int .i64 num, .string name, .string maker, .int .i64 year, .slice A3 m3 c3] 39)
        have Hown1 := Lib.hid (own_below Hown.out hbr)
        have Hbl1 := Lib.hid (Hbl.out.trans (hbr.mono Hbl.out.size))
        have Hsz := Lib.hid (show (wr.alloc (.cells #[.int .i64 num, .string name, .string maker, .int .i64 year, .slice A3 m3 c3] 39)).heap.size = wr.heap.size + 1 by simp)
        have hlt' : (k : Int) < (n : Int) := by omega
        clear hbr hbl
        go_wp2_with (at_builtin; refine wpList_apd 24 2 _ 1 8 Try.underlying24 infoNm rfl (by omega) _ _ rfl rfl w8.heap.size _ k _ rfl Hown1.out #[.int .i64 num] 1 1 (by rw [Hsz.out]; rfl) rfl (by simp [Value.oneCell']) (by simp [maxLen]; omega) (by omega) Hbl1.out.size ?_; intro v7 w9 hown9 hg9; have Hb9 := Lib.hid (below_apd Hbl1.out Hown1.out hg9 (Nat.le_refl _) Hbl1.out.size); have Ho9 := Lib.hid hown9; clear hown9 hg9)
        go_roundw
        case rel => exact ⟨v7, _, .int .i64 ((k + 1 : Nat) : Int), ⟨k + 1, by omega, rfl, by rw [Hst.out, ← ints_one]; exact Ho9.out, Hb9.out⟩, rfl, rfl, by go_num⟩
        case measure => simp [RowKit.intOf]; omega
      · have hlt' : ¬ (k : Int) < (n : Int) := by omega
        have hfin := Lib.hid (show byL xs = byT xs y k by rw [← HT8.out, show k = n by omega])
        have HO := Lib.hid (show wr.ownsRow w.heap.size 2 1 (.slice A' k c') (byT xs y k).length (ints (byT xs y k)) by rw [byT_len]; exact ownsRow_leY Hown.out Hb8.out.size)
        have hbw := Lib.hid (Hb8.out.trans (Hbl.out.mono Hb8.out.size))
        clear hbl
        go_wp2_with fail
        go_ret2
        exact RetN_yes hfin.out e1.out HO.out hbw.out
end Go.Proofs.Ytmlnaedeghpbbaa
