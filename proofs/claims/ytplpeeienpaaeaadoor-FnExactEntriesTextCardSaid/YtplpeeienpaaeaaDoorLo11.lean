/- Loans, part 11 (printed by genlo11.py): valid lists of loans, the program's side. -/
import Derived.Test.YtplpeeienpaaeaaDoorLo10
import Derived.Test.YtplpeeienpaaeaaDoorLib3
namespace Go.Proofs.YtplpeeienpaaeaaDoor
open Go.RowKit Go.Joins

theorem four_at {w : World} {g : Nat} {a b c d : Value} {t : TypeId} (h : w.heap[g]? = some (.cells #[a, b, c, d] t (0, 0))) :
    w.cell? ⟨g, 0, none⟩ = some a ∧ w.cell? ⟨g, 1, none⟩ = some b ∧ w.cell? ⟨g, 2, none⟩ = some c ∧ w.cell? ⟨g, 3, none⟩ = some d := by
  refine ⟨?_, ?_, ?_, ?_⟩
  · rw [cell_of_row w g 0 _ _ _ h]; rfl
  · rw [cell_of_row w g 1 _ _ _ h]; rfl
  · rw [cell_of_row w g 2 _ _ _ h]; rfl
  · rw [cell_of_row w g 3 _ _ _ h]; rfl
theorem eight_at {w : World} {g B b1 o1 : Nat} {a b c d : Value} {t : TypeId} {p : Ln} (h : w.heap[g]? = some (.cells #[a, b, c, d] t (0, 0))) (hp : LnAt w B b1 o1 p) :
    w.cell? ⟨g, 0, none⟩ = some a ∧ w.cell? ⟨g, 1, none⟩ = some b ∧ w.cell? ⟨g, 2, none⟩ = some c ∧ w.cell? ⟨g, 3, none⟩ = some d ∧
    w.cell? ⟨b1, o1, none⟩ = some (.string p.what) ∧ w.cell? ⟨b1, o1 + 1, none⟩ = some (.string p.who) ∧ w.cell? ⟨b1, o1 + 2, none⟩ = some (.int .i64 p.from_) ∧ w.cell? ⟨b1, o1 + 3, none⟩ = some (.int .i64 p.till) :=
  have k := four_at h
  ⟨k.1, k.2.1, k.2.2.1, k.2.2.2, hp.c0, hp.c1, hp.c2, hp.c3⟩
theorem loansI_no {xs : List Ln} (k : Nat) (hk : k < xs.length) (h : placeI xs k = false) : loansOkI xs = false := by unfold loansOkI; rw [chk_bad k hk h]; rfl
theorem round_casesI (xs : List Ln) (k : Nat) (hk : k < xs.length) : (loanOk xs[k] = false ∧ loansOkI xs = false) ∨ (loanOk xs[k] = true ∧ k = 0) ∨
    ∃ m, m + 1 = k ∧ loanOk xs[k] = true ∧ ((before xs[k] (atL xs m) = true ∧ loansOkI xs = false) ∨ before xs[k] (atL xs m) = false) := by
  cases h : loanOk xs[k] with
  | false => exact .inl ⟨rfl, loansI_no k hk (by unfold placeI; rw [atL_at xs k hk, h]; rfl)⟩
  | true =>
    rcases Nat.eq_zero_or_pos k with h0 | h0
    · exact .inr (.inl ⟨rfl, h0⟩)
    · refine .inr (.inr ⟨k - 1, by omega, rfl, ?_⟩)
      cases hb : before xs[k] (atL xs (k - 1)) with
      | true => exact .inl ⟨rfl, loansI_no k hk (by unfold placeI; rw [atL_at xs k hk, h, hb, decide_eq_false (by omega)]; simp)⟩
      | false => exact .inr rfl
theorem placeI_3 {xs : List Ln} {k : Nat} (hk : k < xs.length) (j : Nat) (hj : j < k) (h : clash xs[k] (atL xs j) = true) : loansOkI xs = false := by
  have : freeI xs k j = false := by unfold freeI; rw [atL_at xs k hk, h]; rfl
  refine loansI_no k hk ?_
  unfold placeI; rw [chk_bad j hj this]; simp
theorem placeI_4 {xs : List Ln} {k : Nat} (hk : k < xs.length) (h0 : chk k (placeI xs) = true) (h1 : loanOk xs[k] = true) (h2 : k = 0 ∨ ∃ m, m + 1 = k ∧ before xs[k] (atL xs m) = false) (h : chk k (freeI xs k) = true) : chk (k + 1) (placeI xs) = true := by
  refine chk_step h0 ?_
  unfold placeI
  rw [atL_at xs k hk, h1, h]
  rcases h2 with rfl | ⟨m, hm, h2⟩
  · rfl
  · rw [show k - 1 = m by omega, h2]; simp
theorem freeI_step {xs : List Ln} {k : Nat} (hk : k < xs.length) (j : Nat) (h : clash xs[k] (atL xs j) = false) : freeI xs k j = true := by
  unfold freeI; rw [atL_at xs k hk, h]; rfl

set_option maxRecDepth 100000 in
set_option maxHeartbeats 6400000 in
theorem ValidI0_any (B : Nat) (v : Value) (xs : List Ln) (w : World) (h : RdL w B v xs) (hB : B ≤ w.heap.size) (hl : xs.length ≤ 1048576) (hsm : ∀ x ∈ xs, smL x) (hcap : ∀ A n c, v = .slice A n c → n ≤ c ∧ c ≤ maxLen) :
    Calls Tryd.prog 29 #[v] w fun e w' => e = .returned (.bool (loansOkI xs)) ∧ Below w.heap.size w w' := by
  have H := Lib.hid h
  have Hsm := Lib.hid hsm
  obtain ⟨A, c, rfl⟩ := h.slice
  obtain ⟨hc1, hc2⟩ := hcap _ _ _ rfl
  simp only [maxLen] at hc2
  clear h hsm hcap
  have hb0 := Below.refl w.heap.size w
  go_enter Tryd.func29, Tryd.ntmps29
  go_wp2_with fail
  go_loopw [9] (fun i wr => ∃ k : Nat, k ≤ xs.length ∧ chk k (placeI xs) = true ∧ i = .int .i64 k ∧ Below w.heap.size w wr) (fun i _ => xs.length - (intOf i).toNat)
  case atStart => exact ⟨0, Nat.zero_le _, rfl, rfl, hb0⟩
  case round =>
    obtain ⟨k, hk, hall, rfl, hbl⟩ := hrel
    have Hall := Lib.hid hall; clear hall
    obtain ⟨w1, rfl⟩ : ∃ x, x = wr := ⟨_, rfl⟩
    by_cases hlt : k < xs.length
    · have HL := Lib.hid (H.out.below (hbl.mono hB))
      obtain ⟨b1, o1, hA, hE⟩ := HL.out.at k hlt
      subst hA
      have hlt' : (k : Int) < (xs.length : Int) := by omega
      have RC := round_casesI xs k hlt
      have HP3 := Lib.hid (placeI_3 hlt)
      have HP4 := Lib.hid (placeI_4 hlt Hall.out)
      have HP5 := Lib.hid (freeI_step hlt)
      have hsx := Hsm.out xs[k] (List.getElem_mem hlt)
      have hzB : B ≤ w1.heap.size := Nat.le_trans hB hbl.size
      have hz1 : b1 < w1.heap.size := Nat.lt_of_lt_of_le hE.lt hzB
      generalize xs[k] = x at *
      have HV := Lib.hid (fun wx => validLoan_any x wx hsx)
      have HH := Lib.hid (fun y wx => ahead_any x y wx)
      have HCl := Lib.hid (fun y wx => clashes_any x y wx)
      obtain ⟨a, b, f, t⟩ := x
      obtain ⟨hbB, e0, e1, e2, e3⟩ := hE
      dsimp only at e0 e1 e2 e3 HV HH HCl
      have Hnw := Lib.hid (heap_alloc_new w1 (.cells #[.string a, .string b, .int .i64 f, .int .i64 t] 52))
      have Hba := Lib.hid ((Below.refl w1.heap.size w1).alloc (Nat.le_refl _) (.cells #[.string a, .string b, .int .i64 f, .int .i64 t] 52))
      have hlw : w1.heap.size < (w1.alloc (.cells #[.string a, .string b, .int .i64 f, .int .i64 t] 52)).heap.size := by simp
      have HLn := Lib.hid (HL.out.below (Hba.out.mono hzB))
      have Hbl := Lib.hid (hbl.trans (Hba.out.mono hbl.size))
      have hlo : w.heap.size ≤ w1.heap.size := hbl.size
      clear hbl hsx HL
      rcases RC with ⟨g, hf⟩ | ⟨g, h0⟩ | ⟨m, hm, g, ⟨gb, hf⟩ | gb⟩
      · have Hf := Lib.hid hf; clear hf
        rw [g] at HV
        clear g
        go_wp2_with fail
        obtain ⟨f0, f1, f2, f3⟩ := four_at Hnw.out
        generalize w1.alloc (.cells #[.string a, .string b, .int .i64 f, .int .i64 t] 52) = wn at *
        have hacc : Below wn.heap.size wn wn.drew := (Below.refl _ _).drew
        have HS := Lib.hid (show ∀ w', Below wn.heap.size wn w' → _ from fun w' (hb : Below wn.heap.size wn w') => four_at ((hb.block _ hlw).trans Hnw.out))
        refine wp_region_noPanic ?_
        refine wp_region_held_drew (S := fun w' => w'.cell? ⟨w1.heap.size, 0, none⟩ = some (.string a) ∧ w'.cell? ⟨w1.heap.size, 1, none⟩ = some (.string b) ∧ w'.cell? ⟨w1.heap.size, 2, none⟩ = some (.int .i64 f) ∧ w'.cell? ⟨w1.heap.size, 3, none⟩ = some (.int .i64 t)) (by kernel_rfl) (by (try dsimp only); first | go_keep | assumption) (fun hHeld => ?_)
        refine take_d (i := 0) (d := some 14) (v := ?_) rfl rfl (by kernel_rfl) (by kernel_rfl) (by kernel_rfl) (fun _ _ _ h => h) (Or.inl ⟨by rfl, ?_⟩) (by assumption) ?_
        rotate_left
        · (intro w hSw; (try dsimp only at hSw); go_simp; (try (with_reducible rfl)))
        simp only [Act.put, List.setIfInBounds_toArray, List.set_cons_zero, List.set_cons_succ]
        refine call_d (i := 1) (d := some 15) rfl rfl (by kernel_rfl) (fun K hK => ?_)
        go_simp
        (go_at_call 49; ((with_reducible refine (HV.out _).mono ?_)); rintro e wq ⟨rfl, hbq⟩; have hacc' := hacc.trans (hbq.mono hacc.size); clear hacc; have hacc := hacc'; clear hacc'; have hSq := HS.out _ hacc; clear hbq)
        (try (go_wp2_with fail))
        refine hK.out _ _ (hSq) (fun hHeld => ?_)
        clear hK K
        (try simp only [Act.put, List.setIfInBounds_toArray, List.set_cons_zero, List.set_cons_succ])
        refine take_d (i := 2) (d := some 16) (v := ?_) rfl rfl (by kernel_rfl) (by kernel_rfl) (by kernel_rfl) (fun _ _ _ h => h) (Or.inl ⟨by rfl, ?_⟩) (by assumption) ?_
        rotate_left
        · (intro w hSw; (try dsimp only at hSw); go_simp; (try (with_reducible rfl)))
        simp only [Act.put, List.setIfInBounds_toArray, List.set_cons_zero, List.set_cons_succ]
        refine take_d (i := 3) (d := some 17) (v := ?_) rfl rfl (by kernel_rfl) (by kernel_rfl) (by kernel_rfl) (fun _ _ _ h => h) (Or.inl ⟨by rfl, ?_⟩) (by assumption) ?_
        rotate_left
        · (intro w hSw; (try dsimp only at hSw); go_simp; (try (with_reducible rfl)))
        simp only [Act.put, List.setIfInBounds_toArray, List.set_cons_zero, List.set_cons_succ]
        refine take_d (i := 4) (d := some 18) (v := undef) rfl rfl (by kernel_rfl) (by kernel_rfl) (by kernel_rfl) (fun _ _ _ h => h) (Or.inr ⟨by rfl, rfl⟩) (by assumption) ?_
        simp only [Act.put, List.setIfInBounds_toArray, List.set_cons_zero, List.set_cons_succ]
        refine take_d (i := 5) (d := some 19) (v := undef) rfl rfl (by kernel_rfl) (by kernel_rfl) (by kernel_rfl) (fun _ _ _ h => h) (Or.inr ⟨by rfl, rfl⟩) (by assumption) ?_
        simp only [Act.put, List.setIfInBounds_toArray, List.set_cons_zero, List.set_cons_succ]
        refine take_d (i := 6) (d := some 20) (v := undef) rfl rfl (by kernel_rfl) (by kernel_rfl) (by kernel_rfl) (fun _ _ _ h => h) (Or.inr ⟨by rfl, rfl⟩) (by assumption) ?_
        simp only [Act.put, List.setIfInBounds_toArray, List.set_cons_zero, List.set_cons_succ]
        refine take_d (i := 7) (d := some 21) (v := undef) rfl rfl (by kernel_rfl) (by kernel_rfl) (by kernel_rfl) (fun _ _ _ h => h) (Or.inr ⟨by rfl, rfl⟩) (by assumption) ?_
        simp only [Act.put, List.setIfInBounds_toArray, List.set_cons_zero, List.set_cons_succ]
        refine take_d (i := 8) (d := some 22) (v := undef) rfl rfl (by kernel_rfl) (by kernel_rfl) (by kernel_rfl) (fun _ _ _ h => h) (Or.inr ⟨by rfl, rfl⟩) (by assumption) ?_
        simp only [Act.put, List.setIfInBounds_toArray, List.set_cons_zero, List.set_cons_succ]
        refine take_d (i := 9) (d := some 23) (v := undef) rfl rfl (by kernel_rfl) (by kernel_rfl) (by kernel_rfl) (fun _ _ _ h => h) (Or.inr ⟨by rfl, rfl⟩) (by assumption) ?_
        simp only [Act.put, List.setIfInBounds_toArray, List.set_cons_zero, List.set_cons_succ]
        refine take_d (i := 10) (d := some 24) (v := undef) rfl rfl (by kernel_rfl) (by kernel_rfl) (by kernel_rfl) (fun _ _ _ h => h) (Or.inr ⟨by rfl, rfl⟩) (by assumption) ?_
        simp only [Act.put, List.setIfInBounds_toArray, List.set_cons_zero, List.set_cons_succ]
        refine take_d (i := 11) (d := some 25) (v := undef) rfl rfl (by kernel_rfl) (by kernel_rfl) (by kernel_rfl) (fun _ _ _ h => h) (Or.inr ⟨by rfl, rfl⟩) (by assumption) ?_
        simp only [Act.put, List.setIfInBounds_toArray, List.set_cons_zero, List.set_cons_succ]
        refine take_d (i := 12) (d := some 26) (v := undef) rfl rfl (by kernel_rfl) (by kernel_rfl) (by kernel_rfl) (fun _ _ _ h => h) (Or.inr ⟨by rfl, rfl⟩) (by assumption) ?_
        simp only [Act.put, List.setIfInBounds_toArray, List.set_cons_zero, List.set_cons_succ]
        refine take_d (i := 13) (d := some 27) (v := undef) rfl rfl (by kernel_rfl) (by kernel_rfl) (by kernel_rfl) (fun _ _ _ h => h) (Or.inr ⟨by rfl, rfl⟩) (by assumption) ?_
        simp only [Act.put, List.setIfInBounds_toArray, List.set_cons_zero, List.set_cons_succ]
        refine take_d (i := 14) (d := some 28) (v := undef) rfl rfl (by kernel_rfl) (by kernel_rfl) (by kernel_rfl) (fun _ _ _ h => h) (Or.inr ⟨by rfl, rfl⟩) (by assumption) ?_
        simp only [Act.put, List.setIfInBounds_toArray, List.set_cons_zero, List.set_cons_succ]
        refine take_d (i := 15) (d := some 29) (v := ?_) rfl rfl (by kernel_rfl) (by kernel_rfl) (by kernel_rfl) (fun _ _ _ h => h) (Or.inl ⟨by rfl, ?_⟩) (by assumption) ?_
        rotate_left
        · (intro w hSw; (try dsimp only at hSw); go_simp; (try (with_reducible rfl)))
        simp only [Act.put, List.setIfInBounds_toArray, List.set_cons_zero, List.set_cons_succ]
        refine wpAnyH_done (by kernel_rfl) ?_ _
        refine NoPanic.normal ?_
        go_wp2_with fail
        go_ret
        rw [Hf.out]; exact ⟨rfl, Hbl.out.trans (hacc.mono Hbl.out.size)⟩
      · have Hg := Lib.hid g
        have Hg2 : Hid (k = 0 ∨ ∃ m, m + 1 = k ∧ before ⟨a, b, f, t⟩ (atL xs m) = false) := Lib.hid (.inl h0)
        have hk0 : decide (0 < k) = false := decide_eq_false (by omega)
        rw [g] at HV
        clear g h0
        go_wp2_with fail
        obtain ⟨f0, f1, f2, f3⟩ := four_at Hnw.out
        generalize w1.alloc (.cells #[.string a, .string b, .int .i64 f, .int .i64 t] 52) = wn at *
        have hacc : Below wn.heap.size wn wn.drew := (Below.refl _ _).drew
        have HS := Lib.hid (show ∀ w', Below wn.heap.size wn w' → _ from fun w' (hb : Below wn.heap.size wn w') => four_at ((hb.block _ hlw).trans Hnw.out))
        refine wp_region_noPanic ?_
        refine wp_region_held_drew (S := fun w' => w'.cell? ⟨w1.heap.size, 0, none⟩ = some (.string a) ∧ w'.cell? ⟨w1.heap.size, 1, none⟩ = some (.string b) ∧ w'.cell? ⟨w1.heap.size, 2, none⟩ = some (.int .i64 f) ∧ w'.cell? ⟨w1.heap.size, 3, none⟩ = some (.int .i64 t)) (by kernel_rfl) (by (try dsimp only); first | go_keep | assumption) (fun hHeld => ?_)
        refine take_d (i := 0) (d := some 14) (v := ?_) rfl rfl (by kernel_rfl) (by kernel_rfl) (by kernel_rfl) (fun _ _ _ h => h) (Or.inl ⟨by rfl, ?_⟩) (by assumption) ?_
        rotate_left
        · (intro w hSw; (try dsimp only at hSw); go_simp; (try (with_reducible rfl)))
        simp only [Act.put, List.setIfInBounds_toArray, List.set_cons_zero, List.set_cons_succ]
        refine call_d (i := 1) (d := some 15) rfl rfl (by kernel_rfl) (fun K hK => ?_)
        go_simp
        (go_at_call 49; ((with_reducible refine (HV.out _).mono ?_)); rintro e wq ⟨rfl, hbq⟩; have hacc' := hacc.trans (hbq.mono hacc.size); clear hacc; have hacc := hacc'; clear hacc'; have hSq := HS.out _ hacc; clear hbq)
        (try (go_wp2_with fail))
        refine hK.out _ _ (hSq) (fun hHeld => ?_)
        clear hK K
        (try simp only [Act.put, List.setIfInBounds_toArray, List.set_cons_zero, List.set_cons_succ])
        refine take_d (i := 2) (d := some 16) (v := ?_) rfl rfl (by kernel_rfl) (by kernel_rfl) (by kernel_rfl) (fun _ _ _ h => h) (Or.inl ⟨by rfl, ?_⟩) (by assumption) ?_
        rotate_left
        · (intro w hSw; (try dsimp only at hSw); go_simp; (try (with_reducible rfl)))
        simp only [Act.put, List.setIfInBounds_toArray, List.set_cons_zero, List.set_cons_succ]
        refine take_d (i := 3) (d := some 17) (v := ?_) rfl rfl (by kernel_rfl) (by kernel_rfl) (by kernel_rfl) (fun _ _ _ h => h) (Or.inl ⟨by rfl, ?_⟩) (by assumption) ?_
        rotate_left
        · (intro w hSw; (try dsimp only at hSw); go_simp; (try (with_reducible rfl)))
        simp only [Act.put, List.setIfInBounds_toArray, List.set_cons_zero, List.set_cons_succ]
        refine take_d (i := 4) (d := some 18) (v := ?_) rfl rfl (by kernel_rfl) (by kernel_rfl) (by kernel_rfl) (fun _ _ _ h => h) (Or.inl ⟨by rfl, ?_⟩) (by assumption) ?_
        rotate_left
        · (intro w hSw; (try dsimp only at hSw); go_simp; (try (with_reducible rfl)))
        simp only [Act.put, List.setIfInBounds_toArray, List.set_cons_zero, List.set_cons_succ]
        refine take_d (i := 5) (d := some 19) (v := ?_) rfl rfl (by kernel_rfl) (by kernel_rfl) (by kernel_rfl) (fun _ _ _ h => h) (Or.inl ⟨by rfl, ?_⟩) (by assumption) ?_
        rotate_left
        · (intro w hSw; (try dsimp only at hSw); go_simp; (try (with_reducible rfl)))
        simp only [Act.put, List.setIfInBounds_toArray, List.set_cons_zero, List.set_cons_succ]
        refine take_d (i := 6) (d := some 20) (v := ?_) rfl rfl (by kernel_rfl) (by kernel_rfl) (by kernel_rfl) (fun _ _ _ h => h) (Or.inl ⟨by rfl, ?_⟩) (by assumption) ?_
        rotate_left
        · (intro w hSw; (try dsimp only at hSw); go_simp; (try (with_reducible rfl)))
        simp only [Act.put, List.setIfInBounds_toArray, List.set_cons_zero, List.set_cons_succ]
        refine take_d (i := 7) (d := some 21) (v := undef) rfl rfl (by kernel_rfl) (by kernel_rfl) (by kernel_rfl) (fun _ _ _ h => h) (Or.inr ⟨by rfl, rfl⟩) (by assumption) ?_
        simp only [Act.put, List.setIfInBounds_toArray, List.set_cons_zero, List.set_cons_succ]
        refine take_d (i := 8) (d := some 22) (v := undef) rfl rfl (by kernel_rfl) (by kernel_rfl) (by kernel_rfl) (fun _ _ _ h => h) (Or.inr ⟨by rfl, rfl⟩) (by assumption) ?_
        simp only [Act.put, List.setIfInBounds_toArray, List.set_cons_zero, List.set_cons_succ]
        refine take_d (i := 9) (d := some 23) (v := undef) rfl rfl (by kernel_rfl) (by kernel_rfl) (by kernel_rfl) (fun _ _ _ h => h) (Or.inr ⟨by rfl, rfl⟩) (by assumption) ?_
        simp only [Act.put, List.setIfInBounds_toArray, List.set_cons_zero, List.set_cons_succ]
        refine take_d (i := 10) (d := some 24) (v := undef) rfl rfl (by kernel_rfl) (by kernel_rfl) (by kernel_rfl) (fun _ _ _ h => h) (Or.inr ⟨by rfl, rfl⟩) (by assumption) ?_
        simp only [Act.put, List.setIfInBounds_toArray, List.set_cons_zero, List.set_cons_succ]
        refine take_d (i := 11) (d := some 25) (v := undef) rfl rfl (by kernel_rfl) (by kernel_rfl) (by kernel_rfl) (fun _ _ _ h => h) (Or.inr ⟨by rfl, rfl⟩) (by assumption) ?_
        simp only [Act.put, List.setIfInBounds_toArray, List.set_cons_zero, List.set_cons_succ]
        refine take_d (i := 12) (d := some 26) (v := undef) rfl rfl (by kernel_rfl) (by kernel_rfl) (by kernel_rfl) (fun _ _ _ h => h) (Or.inr ⟨by rfl, rfl⟩) (by assumption) ?_
        simp only [Act.put, List.setIfInBounds_toArray, List.set_cons_zero, List.set_cons_succ]
        refine take_d (i := 13) (d := some 27) (v := undef) rfl rfl (by kernel_rfl) (by kernel_rfl) (by kernel_rfl) (fun _ _ _ h => h) (Or.inr ⟨by rfl, rfl⟩) (by assumption) ?_
        simp only [Act.put, List.setIfInBounds_toArray, List.set_cons_zero, List.set_cons_succ]
        refine take_d (i := 14) (d := some 28) (v := ?_) rfl rfl (by kernel_rfl) (by kernel_rfl) (by kernel_rfl) (fun _ _ _ h => h) (Or.inl ⟨by rfl, ?_⟩) (by assumption) ?_
        rotate_left
        · (intro w hSw; (try dsimp only at hSw); go_simp; (try (with_reducible rfl)))
        simp only [Act.put, List.setIfInBounds_toArray, List.set_cons_zero, List.set_cons_succ]
        refine take_d (i := 15) (d := some 29) (v := ?_) rfl rfl (by kernel_rfl) (by kernel_rfl) (by kernel_rfl) (fun _ _ _ h => h) (Or.inl ⟨by rfl, ?_⟩) (by assumption) ?_
        rotate_left
        · (intro w hSw; (try dsimp only at hSw); go_simp; (try (with_reducible rfl)))
        simp only [Act.put, List.setIfInBounds_toArray, List.set_cons_zero, List.set_cons_succ]
        refine wpAnyH_done (by kernel_rfl) ?_ _
        refine NoPanic.normal ?_
        have Hacc := Lib.hid hacc; clear hacc
        have hkc : k ≤ c := by omega
        go_wp2_with fail
        go_loopw [34] (fun j wy => ∃ j0 : Nat, j0 ≤ k ∧ chk j0 (freeI xs k) = true ∧ j = .int .i64 j0 ∧ Below wn.heap.size wn wy) (fun j _ => k - (intOf j).toNat)
        case atStart => exact ⟨0, Nat.zero_le _, rfl, rfl, Hacc.out⟩
        case round =>
          obtain ⟨j0, hj, hall2, rfl, hby⟩ := hrel
          have Hall2 := Lib.hid hall2; clear hall2
          obtain ⟨d0, d1, d2, d3⟩ := four_at ((hby.block _ hlw).trans Hnw.out)
          by_cases hlt2 : j0 < k
          · obtain ⟨b2, o2, hA2, hE2⟩ := (HLn.out.below (hby.mono (Nat.le_trans hzB (Nat.le_of_lt hlw)))).atD j0 (by omega)
            obtain ⟨rfl, rfl⟩ : b1 = b2 ∧ o1 = o2 := by simpa using hA2
            clear hA2
            have hlt2' : (j0 : Int) < (k : Int) := by omega
            have h3 := Lib.hid (HP3.out j0 hlt2)
            have h5 := Lib.hid (HP5.out j0)
            generalize atL xs j0 = y at *
            have HC := Lib.hid (fun wx => HCl.out y wx)
            obtain ⟨ya, yb, yf, yt⟩ := y
            obtain ⟨_, g0, g1, g2, g3⟩ := hE2
            dsimp only at g0 g1 g2 g3 HC
            have hz2 : b1 < wr.heap.size := by have := hby.size; omega
            have hz3 : w1.heap.size < wr.heap.size := by have := hby.size; omega
            have Hba2 := Lib.hid (hby.alloc hby.size (.cells #[.string ya, .string yb, .int .i64 yf, .int .i64 yt] 52))
            clear hby
            cases gc : clash ⟨a, b, f, t⟩ ⟨ya, yb, yf, yt⟩ with
            | true =>
              have Hf := Lib.hid (h3.out gc)
              rw [gc] at HC
              clear gc
              go_wp2_with fail
              refine (HC.out _).mono ?_; rintro e w5 ⟨rfl, hb5⟩
              have hb05 := Hba2.out.trans (hb5.mono Hba2.out.size)
              go_wp2_with fail
              go_ret
              rw [Hf.out]; exact ⟨rfl, Hbl.out.trans (hb05.mono Hbl.out.size)⟩
            | false =>
              have Hst2 := Lib.hid (chk_step Hall2.out (h5.out gc))
              rw [gc] at HC
              clear gc
              go_wp2_with fail
              refine (HC.out _).mono ?_; rintro e w5 ⟨rfl, hb5⟩
              have hb05 := Hba2.out.trans (hb5.mono Hba2.out.size)
              go_wp2_with fail
              go_roundw
              case rel => exact ⟨j0 + 1, by omega, Hst2.out, by go_num, hb05⟩
              case measure => simp [intOf]; omega
          · obtain rfl : j0 = k := by omega
            have Hst2 := Lib.hid (HP4.out Hg.out Hg2.out Hall2.out)
            have hb1 := Hbl.out.trans (hby.mono Hbl.out.size)
            go_wp2_with fail
            go_roundw
            case rel => exact ⟨j0 + 1, by omega, Hst2.out, by go_num, hb1⟩
            case measure => simp [intOf]; omega
      · have Hf := Lib.hid hf; clear hf
        obtain ⟨b2, o2, hA2, hE2⟩ := HLn.out.atD m (by omega)
        obtain ⟨rfl, rfl⟩ : b1 = b2 ∧ o1 = o2 := by simpa using hA2
        clear hA2
        generalize atL xs m = p at *
        have HP := Lib.hid hE2
        clear hE2
        obtain ⟨pa, pb, pf, pt⟩ := p
        have HH := Lib.hid (fun wx => HH.out ⟨pa, pb, pf, pt⟩ wx)
        (try dsimp only at HH)
        rw [gb] at HH
        rw [g] at HV
        have hk0 : decide (0 < k) = true := decide_eq_true (by omega)
        have hm1 : IntKind.i64.wrap ((k : Int) - 1) = (m : Int) := by rw [IntWalk.i64_in _ (by omega)]; omega
        have hm2 : (m : Int) < (xs.length : Int) := by omega
        have Hm := Lib.hid hm
        clear g gb hm
        go_wp2_with fail
        obtain ⟨f0, f1, f2, f3⟩ := four_at Hnw.out
        generalize w1.alloc (.cells #[.string a, .string b, .int .i64 f, .int .i64 t] 52) = wn at *
        have hacc : Below wn.heap.size wn wn.drew := (Below.refl _ _).drew
        have HS := Lib.hid (show ∀ w', Below wn.heap.size wn w' → _ from fun w' (hb : Below wn.heap.size wn w') => eight_at ((hb.block _ hlw).trans Hnw.out) (HP.out.below (hb.mono (Nat.le_trans hzB (Nat.le_of_lt hlw)))))
        obtain ⟨_, _, _, _, p0, p1, p2, p3⟩ := HS.out _ (Below.refl _ _)
        refine wp_region_noPanic ?_
        refine wp_region_held_drew (S := fun w' => w'.cell? ⟨w1.heap.size, 0, none⟩ = some (.string a) ∧ w'.cell? ⟨w1.heap.size, 1, none⟩ = some (.string b) ∧ w'.cell? ⟨w1.heap.size, 2, none⟩ = some (.int .i64 f) ∧ w'.cell? ⟨w1.heap.size, 3, none⟩ = some (.int .i64 t) ∧ w'.cell? ⟨b1, o1 + m * 4, none⟩ = some (.string pa) ∧ w'.cell? ⟨b1, o1 + m * 4 + 1, none⟩ = some (.string pb) ∧ w'.cell? ⟨b1, o1 + m * 4 + 2, none⟩ = some (.int .i64 pf) ∧ w'.cell? ⟨b1, o1 + m * 4 + 3, none⟩ = some (.int .i64 pt)) (by kernel_rfl) (by (try dsimp only); first | go_keep | assumption) (fun hHeld => ?_)
        refine take_d (i := 0) (d := some 14) (v := ?_) rfl rfl (by kernel_rfl) (by kernel_rfl) (by kernel_rfl) (fun _ _ _ h => h) (Or.inl ⟨by rfl, ?_⟩) (by assumption) ?_
        rotate_left
        · (intro w hSw; (try dsimp only at hSw); go_simp; (try (with_reducible rfl)))
        simp only [Act.put, List.setIfInBounds_toArray, List.set_cons_zero, List.set_cons_succ]
        refine call_d (i := 1) (d := some 15) rfl rfl (by kernel_rfl) (fun K hK => ?_)
        go_simp
        (go_at_call 49; ((with_reducible refine (HV.out _).mono ?_)); rintro e wq ⟨rfl, hbq⟩; have hacc' := hacc.trans (hbq.mono hacc.size); clear hacc; have hacc := hacc'; clear hacc'; have hSq := HS.out _ hacc; clear hbq)
        (try (go_wp2_with fail))
        refine hK.out _ _ (hSq) (fun hHeld => ?_)
        clear hK K
        (try simp only [Act.put, List.setIfInBounds_toArray, List.set_cons_zero, List.set_cons_succ])
        refine take_d (i := 2) (d := some 16) (v := ?_) rfl rfl (by kernel_rfl) (by kernel_rfl) (by kernel_rfl) (fun _ _ _ h => h) (Or.inl ⟨by rfl, ?_⟩) (by assumption) ?_
        rotate_left
        · (intro w hSw; (try dsimp only at hSw); go_simp; (try (with_reducible rfl)))
        simp only [Act.put, List.setIfInBounds_toArray, List.set_cons_zero, List.set_cons_succ]
        refine take_d (i := 3) (d := some 17) (v := ?_) rfl rfl (by kernel_rfl) (by kernel_rfl) (by kernel_rfl) (fun _ _ _ h => h) (Or.inl ⟨by rfl, ?_⟩) (by assumption) ?_
        rotate_left
        · (intro w hSw; (try dsimp only at hSw); go_simp; (try (with_reducible rfl)))
        simp only [Act.put, List.setIfInBounds_toArray, List.set_cons_zero, List.set_cons_succ]
        refine take_d (i := 4) (d := some 18) (v := ?_) rfl rfl (by kernel_rfl) (by kernel_rfl) (by kernel_rfl) (fun _ _ _ h => h) (Or.inl ⟨by rfl, ?_⟩) (by assumption) ?_
        rotate_left
        · (intro w hSw; (try dsimp only at hSw); go_simp; (try (with_reducible rfl)))
        simp only [Act.put, List.setIfInBounds_toArray, List.set_cons_zero, List.set_cons_succ]
        refine take_d (i := 5) (d := some 19) (v := ?_) rfl rfl (by kernel_rfl) (by kernel_rfl) (by kernel_rfl) (fun _ _ _ h => h) (Or.inl ⟨by rfl, ?_⟩) (by assumption) ?_
        rotate_left
        · (intro w hSw; (try dsimp only at hSw); go_simp; (try (with_reducible rfl)))
        simp only [Act.put, List.setIfInBounds_toArray, List.set_cons_zero, List.set_cons_succ]
        refine take_d (i := 6) (d := some 20) (v := ?_) rfl rfl (by kernel_rfl) (by kernel_rfl) (by kernel_rfl) (fun _ _ _ h => h) (Or.inl ⟨by rfl, ?_⟩) (by assumption) ?_
        rotate_left
        · (intro w hSw; (try dsimp only at hSw); go_simp; (try (with_reducible rfl)))
        simp only [Act.put, List.setIfInBounds_toArray, List.set_cons_zero, List.set_cons_succ]
        refine take_d (i := 7) (d := some 21) (v := ?_) rfl rfl (by kernel_rfl) (by kernel_rfl) (by kernel_rfl) (fun _ _ _ h => h) (Or.inl ⟨by rfl, ?_⟩) (by assumption) ?_
        rotate_left
        · (intro w hSw; (try dsimp only at hSw); go_simp; (try (with_reducible rfl)))
        simp only [Act.put, List.setIfInBounds_toArray, List.set_cons_zero, List.set_cons_succ]
        refine take_d (i := 8) (d := some 22) (v := ?_) rfl rfl (by kernel_rfl) (by kernel_rfl) (by kernel_rfl) (fun _ _ _ h => h) (Or.inl ⟨by rfl, ?_⟩) (by assumption) ?_
        rotate_left
        · (intro w hSw; (try dsimp only at hSw); go_simp; (try (with_reducible rfl)))
        simp only [Act.put, List.setIfInBounds_toArray, List.set_cons_zero, List.set_cons_succ]
        refine take_d (i := 9) (d := some 23) (v := ?_) rfl rfl (by kernel_rfl) (by kernel_rfl) (by kernel_rfl) (fun _ _ _ h => h) (Or.inl ⟨by rfl, ?_⟩) (by assumption) ?_
        rotate_left
        · (intro w hSw; (try dsimp only at hSw); go_simp; (try (with_reducible rfl)))
        simp only [Act.put, List.setIfInBounds_toArray, List.set_cons_zero, List.set_cons_succ]
        refine take_d (i := 10) (d := some 24) (v := ?_) rfl rfl (by kernel_rfl) (by kernel_rfl) (by kernel_rfl) (fun _ _ _ h => h) (Or.inl ⟨by rfl, ?_⟩) (by assumption) ?_
        rotate_left
        · (intro w hSw; (try dsimp only at hSw); go_simp; (try (with_reducible rfl)))
        simp only [Act.put, List.setIfInBounds_toArray, List.set_cons_zero, List.set_cons_succ]
        refine take_d (i := 11) (d := some 25) (v := ?_) rfl rfl (by kernel_rfl) (by kernel_rfl) (by kernel_rfl) (fun _ _ _ h => h) (Or.inl ⟨by rfl, ?_⟩) (by assumption) ?_
        rotate_left
        · (intro w hSw; (try dsimp only at hSw); go_simp; (try (with_reducible rfl)))
        simp only [Act.put, List.setIfInBounds_toArray, List.set_cons_zero, List.set_cons_succ]
        refine take_d (i := 12) (d := some 26) (v := ?_) rfl rfl (by kernel_rfl) (by kernel_rfl) (by kernel_rfl) (fun _ _ _ h => h) (Or.inl ⟨by rfl, ?_⟩) (by assumption) ?_
        rotate_left
        · (intro w hSw; (try dsimp only at hSw); go_simp; (try (with_reducible rfl)))
        simp only [Act.put, List.setIfInBounds_toArray, List.set_cons_zero, List.set_cons_succ]
        refine call_d (i := 13) (d := some 27) rfl rfl (by kernel_rfl) (fun K hK => ?_)
        go_simp
        (clear hSq; go_at_call 50; ((with_reducible refine (HH.out _).mono ?_)); rintro e wq2 ⟨rfl, hbq⟩; have hacc' := hacc.trans (hbq.mono hacc.size); clear hacc; have hacc := hacc'; clear hacc'; have hSq := HS.out _ hacc; clear hbq)
        (try (go_wp2_with fail))
        refine hK.out _ _ (hSq) (fun hHeld => ?_)
        clear hK K
        (try simp only [Act.put, List.setIfInBounds_toArray, List.set_cons_zero, List.set_cons_succ])
        refine take_d (i := 14) (d := some 28) (v := ?_) rfl rfl (by kernel_rfl) (by kernel_rfl) (by kernel_rfl) (fun _ _ _ h => h) (Or.inl ⟨by rfl, ?_⟩) (by assumption) ?_
        rotate_left
        · (intro w hSw; (try dsimp only at hSw); go_simp; (try (with_reducible rfl)))
        simp only [Act.put, List.setIfInBounds_toArray, List.set_cons_zero, List.set_cons_succ]
        refine take_d (i := 15) (d := some 29) (v := ?_) rfl rfl (by kernel_rfl) (by kernel_rfl) (by kernel_rfl) (fun _ _ _ h => h) (Or.inl ⟨by rfl, ?_⟩) (by assumption) ?_
        rotate_left
        · (intro w hSw; (try dsimp only at hSw); go_simp; (try (with_reducible rfl)))
        simp only [Act.put, List.setIfInBounds_toArray, List.set_cons_zero, List.set_cons_succ]
        refine wpAnyH_done (by kernel_rfl) ?_ _
        refine NoPanic.normal ?_
        clear hm1
        go_wp2_with fail
        go_ret
        rw [Hf.out]; exact ⟨rfl, Hbl.out.trans (hacc.mono Hbl.out.size)⟩
      · have Hg := Lib.hid g
        have Hg2 : Hid (k = 0 ∨ ∃ m, m + 1 = k ∧ before ⟨a, b, f, t⟩ (atL xs m) = false) := Lib.hid (.inr ⟨m, hm, gb⟩)
        obtain ⟨b2, o2, hA2, hE2⟩ := HLn.out.atD m (by omega)
        obtain ⟨rfl, rfl⟩ : b1 = b2 ∧ o1 = o2 := by simpa using hA2
        clear hA2
        generalize atL xs m = p at *
        have HP := Lib.hid hE2
        clear hE2
        obtain ⟨pa, pb, pf, pt⟩ := p
        have HH := Lib.hid (fun wx => HH.out ⟨pa, pb, pf, pt⟩ wx)
        (try dsimp only at HH)
        rw [gb] at HH
        rw [g] at HV
        have hk0 : decide (0 < k) = true := decide_eq_true (by omega)
        have hm1 : IntKind.i64.wrap ((k : Int) - 1) = (m : Int) := by rw [IntWalk.i64_in _ (by omega)]; omega
        have hm2 : (m : Int) < (xs.length : Int) := by omega
        have Hm := Lib.hid hm
        clear g gb hm
        go_wp2_with fail
        obtain ⟨f0, f1, f2, f3⟩ := four_at Hnw.out
        generalize w1.alloc (.cells #[.string a, .string b, .int .i64 f, .int .i64 t] 52) = wn at *
        have hacc : Below wn.heap.size wn wn.drew := (Below.refl _ _).drew
        have HS := Lib.hid (show ∀ w', Below wn.heap.size wn w' → _ from fun w' (hb : Below wn.heap.size wn w') => eight_at ((hb.block _ hlw).trans Hnw.out) (HP.out.below (hb.mono (Nat.le_trans hzB (Nat.le_of_lt hlw)))))
        obtain ⟨_, _, _, _, p0, p1, p2, p3⟩ := HS.out _ (Below.refl _ _)
        refine wp_region_noPanic ?_
        refine wp_region_held_drew (S := fun w' => w'.cell? ⟨w1.heap.size, 0, none⟩ = some (.string a) ∧ w'.cell? ⟨w1.heap.size, 1, none⟩ = some (.string b) ∧ w'.cell? ⟨w1.heap.size, 2, none⟩ = some (.int .i64 f) ∧ w'.cell? ⟨w1.heap.size, 3, none⟩ = some (.int .i64 t) ∧ w'.cell? ⟨b1, o1 + m * 4, none⟩ = some (.string pa) ∧ w'.cell? ⟨b1, o1 + m * 4 + 1, none⟩ = some (.string pb) ∧ w'.cell? ⟨b1, o1 + m * 4 + 2, none⟩ = some (.int .i64 pf) ∧ w'.cell? ⟨b1, o1 + m * 4 + 3, none⟩ = some (.int .i64 pt)) (by kernel_rfl) (by (try dsimp only); first | go_keep | assumption) (fun hHeld => ?_)
        refine take_d (i := 0) (d := some 14) (v := ?_) rfl rfl (by kernel_rfl) (by kernel_rfl) (by kernel_rfl) (fun _ _ _ h => h) (Or.inl ⟨by rfl, ?_⟩) (by assumption) ?_
        rotate_left
        · (intro w hSw; (try dsimp only at hSw); go_simp; (try (with_reducible rfl)))
        simp only [Act.put, List.setIfInBounds_toArray, List.set_cons_zero, List.set_cons_succ]
        refine call_d (i := 1) (d := some 15) rfl rfl (by kernel_rfl) (fun K hK => ?_)
        go_simp
        (go_at_call 49; ((with_reducible refine (HV.out _).mono ?_)); rintro e wq ⟨rfl, hbq⟩; have hacc' := hacc.trans (hbq.mono hacc.size); clear hacc; have hacc := hacc'; clear hacc'; have hSq := HS.out _ hacc; clear hbq)
        (try (go_wp2_with fail))
        refine hK.out _ _ (hSq) (fun hHeld => ?_)
        clear hK K
        (try simp only [Act.put, List.setIfInBounds_toArray, List.set_cons_zero, List.set_cons_succ])
        refine take_d (i := 2) (d := some 16) (v := ?_) rfl rfl (by kernel_rfl) (by kernel_rfl) (by kernel_rfl) (fun _ _ _ h => h) (Or.inl ⟨by rfl, ?_⟩) (by assumption) ?_
        rotate_left
        · (intro w hSw; (try dsimp only at hSw); go_simp; (try (with_reducible rfl)))
        simp only [Act.put, List.setIfInBounds_toArray, List.set_cons_zero, List.set_cons_succ]
        refine take_d (i := 3) (d := some 17) (v := ?_) rfl rfl (by kernel_rfl) (by kernel_rfl) (by kernel_rfl) (fun _ _ _ h => h) (Or.inl ⟨by rfl, ?_⟩) (by assumption) ?_
        rotate_left
        · (intro w hSw; (try dsimp only at hSw); go_simp; (try (with_reducible rfl)))
        simp only [Act.put, List.setIfInBounds_toArray, List.set_cons_zero, List.set_cons_succ]
        refine take_d (i := 4) (d := some 18) (v := ?_) rfl rfl (by kernel_rfl) (by kernel_rfl) (by kernel_rfl) (fun _ _ _ h => h) (Or.inl ⟨by rfl, ?_⟩) (by assumption) ?_
        rotate_left
        · (intro w hSw; (try dsimp only at hSw); go_simp; (try (with_reducible rfl)))
        simp only [Act.put, List.setIfInBounds_toArray, List.set_cons_zero, List.set_cons_succ]
        refine take_d (i := 5) (d := some 19) (v := ?_) rfl rfl (by kernel_rfl) (by kernel_rfl) (by kernel_rfl) (fun _ _ _ h => h) (Or.inl ⟨by rfl, ?_⟩) (by assumption) ?_
        rotate_left
        · (intro w hSw; (try dsimp only at hSw); go_simp; (try (with_reducible rfl)))
        simp only [Act.put, List.setIfInBounds_toArray, List.set_cons_zero, List.set_cons_succ]
        refine take_d (i := 6) (d := some 20) (v := ?_) rfl rfl (by kernel_rfl) (by kernel_rfl) (by kernel_rfl) (fun _ _ _ h => h) (Or.inl ⟨by rfl, ?_⟩) (by assumption) ?_
        rotate_left
        · (intro w hSw; (try dsimp only at hSw); go_simp; (try (with_reducible rfl)))
        simp only [Act.put, List.setIfInBounds_toArray, List.set_cons_zero, List.set_cons_succ]
        refine take_d (i := 7) (d := some 21) (v := ?_) rfl rfl (by kernel_rfl) (by kernel_rfl) (by kernel_rfl) (fun _ _ _ h => h) (Or.inl ⟨by rfl, ?_⟩) (by assumption) ?_
        rotate_left
        · (intro w hSw; (try dsimp only at hSw); go_simp; (try (with_reducible rfl)))
        simp only [Act.put, List.setIfInBounds_toArray, List.set_cons_zero, List.set_cons_succ]
        refine take_d (i := 8) (d := some 22) (v := ?_) rfl rfl (by kernel_rfl) (by kernel_rfl) (by kernel_rfl) (fun _ _ _ h => h) (Or.inl ⟨by rfl, ?_⟩) (by assumption) ?_
        rotate_left
        · (intro w hSw; (try dsimp only at hSw); go_simp; (try (with_reducible rfl)))
        simp only [Act.put, List.setIfInBounds_toArray, List.set_cons_zero, List.set_cons_succ]
        refine take_d (i := 9) (d := some 23) (v := ?_) rfl rfl (by kernel_rfl) (by kernel_rfl) (by kernel_rfl) (fun _ _ _ h => h) (Or.inl ⟨by rfl, ?_⟩) (by assumption) ?_
        rotate_left
        · (intro w hSw; (try dsimp only at hSw); go_simp; (try (with_reducible rfl)))
        simp only [Act.put, List.setIfInBounds_toArray, List.set_cons_zero, List.set_cons_succ]
        refine take_d (i := 10) (d := some 24) (v := ?_) rfl rfl (by kernel_rfl) (by kernel_rfl) (by kernel_rfl) (fun _ _ _ h => h) (Or.inl ⟨by rfl, ?_⟩) (by assumption) ?_
        rotate_left
        · (intro w hSw; (try dsimp only at hSw); go_simp; (try (with_reducible rfl)))
        simp only [Act.put, List.setIfInBounds_toArray, List.set_cons_zero, List.set_cons_succ]
        refine take_d (i := 11) (d := some 25) (v := ?_) rfl rfl (by kernel_rfl) (by kernel_rfl) (by kernel_rfl) (fun _ _ _ h => h) (Or.inl ⟨by rfl, ?_⟩) (by assumption) ?_
        rotate_left
        · (intro w hSw; (try dsimp only at hSw); go_simp; (try (with_reducible rfl)))
        simp only [Act.put, List.setIfInBounds_toArray, List.set_cons_zero, List.set_cons_succ]
        refine take_d (i := 12) (d := some 26) (v := ?_) rfl rfl (by kernel_rfl) (by kernel_rfl) (by kernel_rfl) (fun _ _ _ h => h) (Or.inl ⟨by rfl, ?_⟩) (by assumption) ?_
        rotate_left
        · (intro w hSw; (try dsimp only at hSw); go_simp; (try (with_reducible rfl)))
        simp only [Act.put, List.setIfInBounds_toArray, List.set_cons_zero, List.set_cons_succ]
        refine call_d (i := 13) (d := some 27) rfl rfl (by kernel_rfl) (fun K hK => ?_)
        go_simp
        (clear hSq; go_at_call 50; ((with_reducible refine (HH.out _).mono ?_)); rintro e wq2 ⟨rfl, hbq⟩; have hacc' := hacc.trans (hbq.mono hacc.size); clear hacc; have hacc := hacc'; clear hacc'; have hSq := HS.out _ hacc; clear hbq)
        (try (go_wp2_with fail))
        refine hK.out _ _ (hSq) (fun hHeld => ?_)
        clear hK K
        (try simp only [Act.put, List.setIfInBounds_toArray, List.set_cons_zero, List.set_cons_succ])
        refine take_d (i := 14) (d := some 28) (v := ?_) rfl rfl (by kernel_rfl) (by kernel_rfl) (by kernel_rfl) (fun _ _ _ h => h) (Or.inl ⟨by rfl, ?_⟩) (by assumption) ?_
        rotate_left
        · (intro w hSw; (try dsimp only at hSw); go_simp; (try (with_reducible rfl)))
        simp only [Act.put, List.setIfInBounds_toArray, List.set_cons_zero, List.set_cons_succ]
        refine take_d (i := 15) (d := some 29) (v := ?_) rfl rfl (by kernel_rfl) (by kernel_rfl) (by kernel_rfl) (fun _ _ _ h => h) (Or.inl ⟨by rfl, ?_⟩) (by assumption) ?_
        rotate_left
        · (intro w hSw; (try dsimp only at hSw); go_simp; (try (with_reducible rfl)))
        simp only [Act.put, List.setIfInBounds_toArray, List.set_cons_zero, List.set_cons_succ]
        refine wpAnyH_done (by kernel_rfl) ?_ _
        refine NoPanic.normal ?_
        clear hm1
        have Hacc := Lib.hid hacc; clear hacc
        have hkc : k ≤ c := by omega
        go_wp2_with fail
        go_loopw [34] (fun j wy => ∃ j0 : Nat, j0 ≤ k ∧ chk j0 (freeI xs k) = true ∧ j = .int .i64 j0 ∧ Below wn.heap.size wn wy) (fun j _ => k - (intOf j).toNat)
        case atStart => exact ⟨0, Nat.zero_le _, rfl, rfl, Hacc.out⟩
        case round =>
          obtain ⟨j0, hj, hall2, rfl, hby⟩ := hrel
          have Hall2 := Lib.hid hall2; clear hall2
          obtain ⟨d0, d1, d2, d3⟩ := four_at ((hby.block _ hlw).trans Hnw.out)
          by_cases hlt2 : j0 < k
          · obtain ⟨b2, o2, hA2, hE2⟩ := (HLn.out.below (hby.mono (Nat.le_trans hzB (Nat.le_of_lt hlw)))).atD j0 (by omega)
            obtain ⟨rfl, rfl⟩ : b1 = b2 ∧ o1 = o2 := by simpa using hA2
            clear hA2
            have hlt2' : (j0 : Int) < (k : Int) := by omega
            have h3 := Lib.hid (HP3.out j0 hlt2)
            have h5 := Lib.hid (HP5.out j0)
            generalize atL xs j0 = y at *
            have HC := Lib.hid (fun wx => HCl.out y wx)
            obtain ⟨ya, yb, yf, yt⟩ := y
            obtain ⟨_, g0, g1, g2, g3⟩ := hE2
            dsimp only at g0 g1 g2 g3 HC
            have hz2 : b1 < wr.heap.size := by have := hby.size; omega
            have hz3 : w1.heap.size < wr.heap.size := by have := hby.size; omega
            have Hba2 := Lib.hid (hby.alloc hby.size (.cells #[.string ya, .string yb, .int .i64 yf, .int .i64 yt] 52))
            clear hby
            cases gc : clash ⟨a, b, f, t⟩ ⟨ya, yb, yf, yt⟩ with
            | true =>
              have Hf := Lib.hid (h3.out gc)
              rw [gc] at HC
              clear gc
              go_wp2_with fail
              refine (HC.out _).mono ?_; rintro e w5 ⟨rfl, hb5⟩
              have hb05 := Hba2.out.trans (hb5.mono Hba2.out.size)
              go_wp2_with fail
              go_ret
              rw [Hf.out]; exact ⟨rfl, Hbl.out.trans (hb05.mono Hbl.out.size)⟩
            | false =>
              have Hst2 := Lib.hid (chk_step Hall2.out (h5.out gc))
              rw [gc] at HC
              clear gc
              go_wp2_with fail
              refine (HC.out _).mono ?_; rintro e w5 ⟨rfl, hb5⟩
              have hb05 := Hba2.out.trans (hb5.mono Hba2.out.size)
              go_wp2_with fail
              go_roundw
              case rel => exact ⟨j0 + 1, by omega, Hst2.out, by go_num, hb05⟩
              case measure => simp [intOf]; omega
          · obtain rfl : j0 = k := by omega
            have Hst2 := Lib.hid (HP4.out Hg.out Hg2.out Hall2.out)
            have hb1 := Hbl.out.trans (hby.mono Hbl.out.size)
            go_wp2_with fail
            go_roundw
            case rel => exact ⟨j0 + 1, by omega, Hst2.out, by go_num, hb1⟩
            case measure => simp [intOf]; omega
    · have hc : chk xs.length (placeI xs) = true := by rw [show xs.length = k by omega]; exact Hall.out
      have hf := Lib.hid (show loansOkI xs = decide (xs.length ≤ 60) by unfold loansOkI; rw [hc]; rfl)
      have hlt' : (xs.length : Int) ≤ (k : Int) := by omega
      clear hc
      go_wp2_with fail
      go_ret
      rw [hf.out]; exact ⟨by simp; omega, hbl⟩
theorem ValidLoansI_any (B : Nat) (v : Value) (xs : List Ln) (w : World) (h : RdL w B v xs) (hB : B ≤ w.heap.size) (hl : xs.length ≤ 1048576) (hsm : ∀ x ∈ xs, smL x) (hcap : ∀ A n c, v = .slice A n c → n ≤ c ∧ c ≤ maxLen) :
    Calls Tryd.prog 29 #[v] w fun e w' => e = .returned (.bool (loansOk xs)) ∧ Below w.heap.size w w' := by
  rw [← loansOk_eq]; exact ValidI0_any B v xs w h hB hl hsm hcap
end Go.Proofs.YtplpeeienpaaeaaDoor
