/- Loans' texts, part 2: the reference's side. -/
import Derived.Test.YtplpeeienpaaeaaDoorLt1
namespace Go.Proofs.YtplpeeienpaaeaaDoor
open Go.RowKit Go.Joins

set_option maxRecDepth 100000 in
set_option maxHeartbeats 1600000 in
theorem l23Text_any (B : Nat) (v : Value) (xs : List Ln) (w : World) (h : RdL w B v xs) (hB : B ≤ w.heap.size) (h60 : xs.length ≤ 60) (hsm : ∀ x ∈ xs, smL x) (hg : ∀ k (hk : k < xs.length), loanOk xs[k] = true) :
    Calls Tryd.prog 27 #[v] w fun e w' => e = .returned (.string (textL xs)) ∧ Below w.heap.size w w' := by
  have H := Lib.hid h
  have Hsm := Lib.hid hsm
  have HG := Lib.hid hg
  obtain ⟨A, c, rfl⟩ := h.slice
  clear h hsm hg
  have hb0 := Lib.hid ((Below.refl w.heap.size w).alloc (Nat.le_refl _) (.cells #[] 5))
  have ho0 := Lib.hid (World.ownsRow_made (base := w.heap.size) (e := 5) (size := 1) w #[] 0 (Nat.le_refl _) (by simp [maxLen]) rfl)
  go_enter Tryd.func27, Tryd.ntmps27
  go_wp2_with fail
  go_loopw [3, 4] (fun o i wr => ∃ (k : Nat), k ≤ xs.length ∧ i = .int .i64 k ∧ wr.ownsRow w.heap.size 5 1 o (textL (xs.take k)).size ((textL (xs.take k)).data.toList.map byV) ∧ (textL (xs.take k)).size ≤ k * 2097300 ∧ Below w.heap.size w wr) (fun _ i _ => xs.length - (intOf i).toNat)
  case atStart => exact ⟨0, Nat.zero_le _, rfl, ho0.out, Nat.le_refl _, hb0.out⟩
  case round =>
    obtain ⟨k, hk, rfl, hown, hsz, hbl⟩ := hrel
    by_cases hlt : k < xs.length
    · have HL := Lib.hid (H.out.below (hbl.mono hB))
      obtain ⟨b1, o1, hA, hE⟩ := HL.out.at k hlt
      subst hA
      have hlt' : (k : Int) < (xs.length : Int) := by omega
      have hsx := Hsm.out xs[k] (List.getElem_mem hlt)
      have hgx := HG.out k hlt
      have hst := textL_step xs k hlt
      have hz1 : b1 < wr.heap.size := Nat.lt_of_lt_of_le hE.lt (Nat.le_trans hB hbl.size)
      have hT0 : ∃ X, X = textL (xs.take (k + 1)) := ⟨_, rfl⟩
      obtain ⟨T', hT0⟩ := hT0
      rw [← hT0] at hst
      have HT' := Lib.hid hT0; clear hT0
      generalize textL (xs.take k) = T at *
      generalize xs[k] = x at *
      obtain ⟨d1, d2, d3, d4⟩ := loan_days hgx
      have s1 := decS_size x.from_ (by omega) (by omega)
      have s2 := decS_size x.till (by omega) (by omega)
      have HLx := Lib.hid (show lineL x = decS x.from_ ++ ⟨#[46, 46]⟩ ++ decS x.till ++ ⟨#[32]⟩ ++ x.what ++ ⟨#[32]⟩ ++ x.who ++ ⟨#[10]⟩ from rfl)
      generalize lineL x = L at *
      obtain ⟨a, b, f, t⟩ := x
      obtain ⟨hs1, hs2⟩ := hsx
      dsimp only at d1 d2 d3 d4
      obtain ⟨f, rfl⟩ : ∃ f' : Nat, f = f' := ⟨f.toNat, by omega⟩
      obtain ⟨t, rfl⟩ : ∃ t' : Nat, t = t' := ⟨t.toNat, by omega⟩
      have HA := Lib.hid (fun wx => l01Dec_nonneg f wx (by omega))
      have HB := Lib.hid (fun wx => l01Dec_nonneg t wx (by omega))
      obtain ⟨hbB, e0, e1, e2, e3⟩ := hE
      dsimp only at e0 e1 e2 e3 HLx s1 s2 hs1 hs2
      clear hgx d1 d2 d3 d4
      generalize decS f = D at *
      generalize decS t = E at *
      have p1 : (D ++ ⟨#[46, 46]⟩ : ByteArray).size = D.size + 2 := ByteArray.size_append
      have p2 : (D ++ ⟨#[46, 46]⟩ ++ E : ByteArray).size = D.size + 2 + E.size := by rw [ByteArray.size_append, p1]
      have p3 : (D ++ ⟨#[46, 46]⟩ ++ E ++ ⟨#[32]⟩ : ByteArray).size = D.size + 2 + E.size + 1 := by rw [ByteArray.size_append, p2]; rfl
      have p4 : (D ++ ⟨#[46, 46]⟩ ++ E ++ ⟨#[32]⟩ ++ a : ByteArray).size = D.size + 2 + E.size + 1 + a.size := by rw [ByteArray.size_append, p3]
      have p5 : (D ++ ⟨#[46, 46]⟩ ++ E ++ ⟨#[32]⟩ ++ a ++ ⟨#[32]⟩ : ByteArray).size = D.size + 2 + E.size + 1 + a.size + 1 := by rw [ByteArray.size_append, p4]; rfl
      have p6 : (D ++ ⟨#[46, 46]⟩ ++ E ++ ⟨#[32]⟩ ++ a ++ ⟨#[32]⟩ ++ b : ByteArray).size = D.size + 2 + E.size + 1 + a.size + 1 + b.size := by rw [ByteArray.size_append, p5]
      have p7 : (D ++ ⟨#[46, 46]⟩ ++ E ++ ⟨#[32]⟩ ++ a ++ ⟨#[32]⟩ ++ b ++ ⟨#[10]⟩ : ByteArray).size = D.size + 2 + E.size + 1 + a.size + 1 + b.size + 1 := by rw [ByteArray.size_append, p6]; rfl
      have hT : T'.size ≤ (k + 1) * 2097300 := by rw [hst, ByteArray.size_append]; have := HLx.out; rw [this, p7]; omega
      have hTs : T.size + (D ++ ⟨#[46, 46]⟩ ++ E ++ ⟨#[32]⟩ ++ a ++ ⟨#[32]⟩ ++ b ++ ⟨#[10]⟩ : ByteArray).size ≤ 140737488355328 := by rw [p7]; omega
      have hTm : T.size + (D ++ ⟨#[46, 46]⟩ ++ E ++ ⟨#[32]⟩ ++ a ++ ⟨#[32]⟩ ++ b ++ ⟨#[10]⟩ : ByteArray).size ≤ maxLen := by rw [p7]; simp only [maxLen]; omega
      have Hfin := Lib.hid (show ∀ (o : Value) (wq : World), wq.ownsRow w.heap.size 5 1 o (T.size + (D ++ ⟨#[46, 46]⟩ ++ E ++ ⟨#[32]⟩ ++ a ++ ⟨#[32]⟩ ++ b ++ ⟨#[10]⟩ : ByteArray).size) (T.data.toList.map byV ++ Lib.strCells (D ++ ⟨#[46, 46]⟩ ++ E ++ ⟨#[32]⟩ ++ a ++ ⟨#[32]⟩ ++ b ++ ⟨#[10]⟩)) → wq.ownsRow w.heap.size 5 1 o T'.size (T'.data.toList.map byV) from fun o wq hq => by
        rw [hst, HLx.out, ByteArray.size_append]
        have e : (T ++ (D ++ ⟨#[46, 46]⟩ ++ E ++ ⟨#[32]⟩ ++ a ++ ⟨#[32]⟩ ++ b ++ ⟨#[10]⟩)).data.toList.map byV = T.data.toList.map byV ++ Lib.strCells (D ++ ⟨#[46, 46]⟩ ++ E ++ ⟨#[32]⟩ ++ a ++ ⟨#[32]⟩ ++ b ++ ⟨#[10]⟩) := by
          rw [ByteArray.data_append, Array.toList_append, List.map_append]; rfl
        rw [e]; exact hq)
      have hacc : Below w.heap.size w wr.drew := hbl.drew
      have Hown := Lib.hid hown
      have hac2 : Below wr.heap.size wr wr.drew := (Below.refl _ _).drew
      have hwz := hbl.size
      clear hbl HL hown hst
      go_wp2_with fail
      refine wp_region_noPanic ?_
      refine wp_region_L [27,26] (fun w' => w'.cell? ⟨b1, o1 + k * 4, none⟩ = some (.string a) ∧ w'.cell? ⟨b1, o1 + k * 4 + 1, none⟩ = some (.string b) ∧ w'.cell? ⟨b1, o1 + k * 4 + 2, none⟩ = some (.int .i64 f) ∧ w'.cell? ⟨b1, o1 + k * 4 + 3, none⟩ = some (.int .i64 t)) (by kernel_rfl) (⟨e0, e1, e2, e3⟩) (fun hHeld => ?_)
      refine take_F (i := 0) (d := some 16) (v := ?_) (by kernel_rfl) (by kernel_rfl) rfl rfl (by kernel_rfl) (by kernel_rfl) (by kernel_rfl) (fun _ _ _ h => h) (Or.inl ⟨by rfl, ?_⟩) (by assumption) ?_
      rotate_left
      · (intro w hSw; (try dsimp only at hSw); go_simp; (try rw [if_neg (by omega)]); (try (with_reducible rfl)))
      simp only [Act.put, List.setIfInBounds_toArray, List.set_cons_zero, List.set_cons_succ]
      refine take_F (i := 1) (d := some 17) (v := ?_) (by kernel_rfl) (by kernel_rfl) rfl rfl (by kernel_rfl) (by kernel_rfl) (by kernel_rfl) (fun _ _ _ h => h) (Or.inl ⟨by rfl, ?_⟩) (by assumption) ?_
      rotate_left
      · (intro w hSw; (try dsimp only at hSw); go_simp; (try rw [if_neg (by omega)]); (try (with_reducible rfl)))
      simp only [Act.put, List.setIfInBounds_toArray, List.set_cons_zero, List.set_cons_succ]
      refine take_F (i := 7) (d := some 23) (v := ?_) (by kernel_rfl) (by kernel_rfl) rfl rfl (by kernel_rfl) (by kernel_rfl) (by kernel_rfl) (fun _ _ _ h => h) (Or.inl ⟨by rfl, ?_⟩) (by assumption) ?_
      rotate_left
      · (intro w hSw; (try dsimp only at hSw); go_simp; (try rw [if_neg (by omega)]); (try (with_reducible rfl)))
      simp only [Act.put, List.setIfInBounds_toArray, List.set_cons_zero, List.set_cons_succ]
      refine take_F (i := 14) (d := some 30) (v := ?_) (by kernel_rfl) (by kernel_rfl) rfl rfl (by kernel_rfl) (by kernel_rfl) (by kernel_rfl) (fun _ _ _ h => h) (Or.inl ⟨by rfl, ?_⟩) (by assumption) ?_
      rotate_left
      · (intro w hSw; (try dsimp only at hSw); go_simp; (try rw [if_neg (by omega)]); (try (with_reducible rfl)))
      simp only [Act.put, List.setIfInBounds_toArray, List.set_cons_zero, List.set_cons_succ]
      refine take_F (i := 20) (d := some 36) (v := ?_) (by kernel_rfl) (by kernel_rfl) rfl rfl (by kernel_rfl) (by kernel_rfl) (by kernel_rfl) (fun _ _ _ h => h) (Or.inl ⟨by rfl, ?_⟩) (by assumption) ?_
      rotate_left
      · (intro w hSw; (try dsimp only at hSw); go_simp; (try rw [if_neg (by omega)]); (try (with_reducible rfl)))
      simp only [Act.put, List.setIfInBounds_toArray, List.set_cons_zero, List.set_cons_succ]
      refine take_F (i := 2) (d := some 18) (v := ?_) (by kernel_rfl) (by kernel_rfl) rfl rfl (by kernel_rfl) (by kernel_rfl) (by kernel_rfl) (fun _ _ _ h => h) (Or.inl ⟨by rfl, ?_⟩) (by assumption) ?_
      rotate_left
      · (intro w hSw; (try dsimp only at hSw); go_simp; (try rw [if_neg (by omega)]); (try (with_reducible rfl)))
      simp only [Act.put, List.setIfInBounds_toArray, List.set_cons_zero, List.set_cons_succ]
      refine take_F (i := 8) (d := some 24) (v := ?_) (by kernel_rfl) (by kernel_rfl) rfl rfl (by kernel_rfl) (by kernel_rfl) (by kernel_rfl) (fun _ _ _ h => h) (Or.inl ⟨by rfl, ?_⟩) (by assumption) ?_
      rotate_left
      · (intro w hSw; (try dsimp only at hSw); go_simp; (try rw [if_neg (by omega)]); (try (with_reducible rfl)))
      simp only [Act.put, List.setIfInBounds_toArray, List.set_cons_zero, List.set_cons_succ]
      refine take_F (i := 15) (d := some 31) (v := ?_) (by kernel_rfl) (by kernel_rfl) rfl rfl (by kernel_rfl) (by kernel_rfl) (by kernel_rfl) (fun _ _ _ h => h) (Or.inl ⟨by rfl, ?_⟩) (by assumption) ?_
      rotate_left
      · (intro w hSw; (try dsimp only at hSw); go_simp; (try rw [if_neg (by omega)]); (try (with_reducible rfl)))
      simp only [Act.put, List.setIfInBounds_toArray, List.set_cons_zero, List.set_cons_succ]
      refine take_F (i := 21) (d := some 37) (v := ?_) (by kernel_rfl) (by kernel_rfl) rfl rfl (by kernel_rfl) (by kernel_rfl) (by kernel_rfl) (fun _ _ _ h => h) (Or.inl ⟨by rfl, ?_⟩) (by assumption) ?_
      rotate_left
      · (intro w hSw; (try dsimp only at hSw); go_simp; (try rw [if_neg (by omega)]); (try (with_reducible rfl)))
      simp only [Act.put, List.setIfInBounds_toArray, List.set_cons_zero, List.set_cons_succ]
      refine take_F (i := 3) (d := some 19) (v := ?_) (by kernel_rfl) (by kernel_rfl) rfl rfl (by kernel_rfl) (by kernel_rfl) (by kernel_rfl) (fun _ _ _ h => h) (Or.inl ⟨by rfl, ?_⟩) (by assumption) ?_
      rotate_left
      · (intro w hSw; (try dsimp only at hSw); go_simp; (try rw [if_neg (by omega)]); (try (with_reducible rfl)))
      simp only [Act.put, List.setIfInBounds_toArray, List.set_cons_zero, List.set_cons_succ]
      refine take_F (i := 9) (d := some 25) (v := ?_) (by kernel_rfl) (by kernel_rfl) rfl rfl (by kernel_rfl) (by kernel_rfl) (by kernel_rfl) (fun _ _ _ h => h) (Or.inl ⟨by rfl, ?_⟩) (by assumption) ?_
      rotate_left
      · (intro w hSw; (try dsimp only at hSw); go_simp; (try rw [if_neg (by omega)]); (try (with_reducible rfl)))
      simp only [Act.put, List.setIfInBounds_toArray, List.set_cons_zero, List.set_cons_succ]
      refine take_F (i := 16) (d := some 32) (v := ?_) (by kernel_rfl) (by kernel_rfl) rfl rfl (by kernel_rfl) (by kernel_rfl) (by kernel_rfl) (fun _ _ _ h => h) (Or.inl ⟨by rfl, ?_⟩) (by assumption) ?_
      rotate_left
      · (intro w hSw; (try dsimp only at hSw); go_simp; (try rw [if_neg (by omega)]); (try (with_reducible rfl)))
      simp only [Act.put, List.setIfInBounds_toArray, List.set_cons_zero, List.set_cons_succ]
      refine take_F (i := 22) (d := some 38) (v := ?_) (by kernel_rfl) (by kernel_rfl) rfl rfl (by kernel_rfl) (by kernel_rfl) (by kernel_rfl) (fun _ _ _ h => h) (Or.inl ⟨by rfl, ?_⟩) (by assumption) ?_
      rotate_left
      · (intro w hSw; (try dsimp only at hSw); go_simp; (try rw [if_neg (by omega)]); (try (with_reducible rfl)))
      simp only [Act.put, List.setIfInBounds_toArray, List.set_cons_zero, List.set_cons_succ]
      refine take_L [25,24,19,18,13,12,6,5,4] (i := 4) (d := some 20) (v := ?_) (by kernel_rfl) (by kernel_rfl) (by kernel_rfl) (by kernel_rfl) rfl rfl (by kernel_rfl) (by kernel_rfl) (by kernel_rfl) (fun _ _ _ h => h) (Or.inl ⟨by rfl, ?_⟩) (by assumption) ?_
      rotate_left
      · (intro w hSw; (try dsimp only at hSw); go_simp; (try rw [if_neg (by omega)]); (try (with_reducible rfl)))
      simp only [Act.put, List.setIfInBounds_toArray, List.set_cons_zero, List.set_cons_succ]
      refine take_L [25,24,19,18,13,12,11,10] (i := 10) (d := some 26) (v := ?_) (by kernel_rfl) (by kernel_rfl) (by kernel_rfl) (by kernel_rfl) rfl rfl (by kernel_rfl) (by kernel_rfl) (by kernel_rfl) (fun _ _ _ h => h) (Or.inl ⟨by rfl, ?_⟩) (by assumption) ?_
      rotate_left
      · (intro w hSw; (try dsimp only at hSw); go_simp; (try rw [if_neg (by omega)]); (try (with_reducible rfl)))
      simp only [Act.put, List.setIfInBounds_toArray, List.set_cons_zero, List.set_cons_succ]
      refine take_L [25,24,19,18,17] (i := 17) (d := some 33) (v := ?_) (by kernel_rfl) (by kernel_rfl) (by kernel_rfl) (by kernel_rfl) rfl rfl (by kernel_rfl) (by kernel_rfl) (by kernel_rfl) (fun _ _ _ h => h) (Or.inl ⟨by rfl, ?_⟩) (by assumption) ?_
      rotate_left
      · (intro w hSw; (try dsimp only at hSw); go_simp; (try rw [if_neg (by omega)]); (try (with_reducible rfl)))
      simp only [Act.put, List.setIfInBounds_toArray, List.set_cons_zero, List.set_cons_succ]
      refine take_L [25,24,23] (i := 23) (d := some 39) (v := ?_) (by kernel_rfl) (by kernel_rfl) (by kernel_rfl) (by kernel_rfl) rfl rfl (by kernel_rfl) (by kernel_rfl) (by kernel_rfl) (fun _ _ _ h => h) (Or.inl ⟨by rfl, ?_⟩) (by assumption) ?_
      rotate_left
      · (intro w hSw; (try dsimp only at hSw); go_simp; (try rw [if_neg (by omega)]); (try (with_reducible rfl)))
      simp only [Act.put, List.setIfInBounds_toArray, List.set_cons_zero, List.set_cons_succ]
      refine call_L (i := 5) (d := (some 21)) rfl rfl (by kernel_rfl) (fun Kq hKq => ?_)
      go_simp
      go_at_call 48
      refine (HA.out _).mono ?_; rintro e w5 ⟨rfl, hb5⟩
      have hS5 := four_kept hb5 ⟨e0, e1, e2, e3⟩
      have hacc5 := hacc.trans (hb5.mono hacc.size)
      have hac5 := hac2.trans (hb5.mono hac2.size)
      clear hacc hac2 hb5
      (try go_wp2_with fail)
      refine hKq.out _ _ (hS5) (fun hHeld => ?_)
      clear hKq Kq
      (try simp only [Act.put, List.setIfInBounds_toArray, List.set_cons_zero, List.set_cons_succ])
      refine take_F (i := 6) (d := some 22) (v := ?_) (by kernel_rfl) (by kernel_rfl) rfl rfl (by kernel_rfl) (by kernel_rfl) (by kernel_rfl) (fun _ _ _ h => h) (Or.inl ⟨by rfl, ?_⟩) (by assumption) ?_
      rotate_left
      · (intro w hSw; (try dsimp only at hSw); go_simp; (try rw [if_neg (by omega)]); (try (with_reducible rfl)))
      simp only [Act.put, List.setIfInBounds_toArray, List.set_cons_zero, List.set_cons_succ]
      refine call_L (i := 11) (d := (some 27)) rfl rfl (by kernel_rfl) (fun Kq hKq => ?_)
      go_simp
      go_at_call 48
      refine (HB.out _).mono ?_; rintro e w6 ⟨rfl, hb6⟩
      have hS6 := four_kept hb6 hS5
      have hacc := hacc5.trans (hb6.mono hacc5.size)
      have hac2 := hac5.trans (hb6.mono hac5.size)
      clear hacc5 hac5 hb6
      (try go_wp2_with fail)
      refine hKq.out _ _ (hS6) (fun hHeld => ?_)
      clear hKq Kq
      (try simp only [Act.put, List.setIfInBounds_toArray, List.set_cons_zero, List.set_cons_succ])
      refine take_F (i := 12) (d := some 28) (v := ?_) (by kernel_rfl) (by kernel_rfl) rfl rfl (by kernel_rfl) (by kernel_rfl) (by kernel_rfl) (fun _ _ _ h => h) (Or.inl ⟨by rfl, ?_⟩) (by assumption) ?_
      rotate_left
      · (intro w hSw; (try dsimp only at hSw); go_simp; (try rw [if_neg (by omega)]); (try (with_reducible rfl)))
      simp only [Act.put, List.setIfInBounds_toArray, List.set_cons_zero, List.set_cons_succ]
      refine take_F (i := 13) (d := some 29) (v := ?_) (by kernel_rfl) (by kernel_rfl) rfl rfl (by kernel_rfl) (by kernel_rfl) (by kernel_rfl) (fun _ _ _ h => h) (Or.inl ⟨by rfl, ?_⟩) (by assumption) ?_
      rotate_left
      · (intro w hSw; (try dsimp only at hSw); go_simp; (try rw [if_neg (by omega)]); (try (with_reducible rfl)))
      simp only [Act.put, List.setIfInBounds_toArray, List.set_cons_zero, List.set_cons_succ]
      refine take_F (i := 18) (d := some 34) (v := ?_) (by kernel_rfl) (by kernel_rfl) rfl rfl (by kernel_rfl) (by kernel_rfl) (by kernel_rfl) (fun _ _ _ h => h) (Or.inl ⟨by rfl, ?_⟩) (by assumption) ?_
      rotate_left
      · (intro w hSw; (try dsimp only at hSw); go_simp; (try rw [if_neg (by omega)]); (try (with_reducible rfl)))
      simp only [Act.put, List.setIfInBounds_toArray, List.set_cons_zero, List.set_cons_succ]
      refine take_F (i := 19) (d := some 35) (v := ?_) (by kernel_rfl) (by kernel_rfl) rfl rfl (by kernel_rfl) (by kernel_rfl) (by kernel_rfl) (fun _ _ _ h => h) (Or.inl ⟨by rfl, ?_⟩) (by assumption) ?_
      rotate_left
      · (intro w hSw; (try dsimp only at hSw); go_simp; (try rw [if_neg (by omega)]); (try (with_reducible rfl)))
      simp only [Act.put, List.setIfInBounds_toArray, List.set_cons_zero, List.set_cons_succ]
      refine take_F (i := 24) (d := some 40) (v := ?_) (by kernel_rfl) (by kernel_rfl) rfl rfl (by kernel_rfl) (by kernel_rfl) (by kernel_rfl) (fun _ _ _ h => h) (Or.inl ⟨by rfl, ?_⟩) (by assumption) ?_
      rotate_left
      · (intro w hSw; (try dsimp only at hSw); go_simp; (try rw [if_neg (by omega)]); (try (with_reducible rfl)))
      simp only [Act.put, List.setIfInBounds_toArray, List.set_cons_zero, List.set_cons_succ]
      refine take_F (i := 25) (d := some 41) (v := ?_) (by kernel_rfl) (by kernel_rfl) rfl rfl (by kernel_rfl) (by kernel_rfl) (by kernel_rfl) (fun _ _ _ h => h) (Or.inl ⟨by rfl, ?_⟩) (by assumption) ?_
      rotate_left
      · (intro w hSw; (try dsimp only at hSw); go_simp; (try rw [if_neg (by omega)]); (try (with_reducible rfl)))
      simp only [Act.put, List.setIfInBounds_toArray, List.set_cons_zero, List.set_cons_succ]
      refine late_L (i := 26) (d := (some 42)) (by kernel_rfl) rfl rfl (by kernel_rfl) (fun Kq hKq => ?_)
      refine step_str 76 9 5 Tryd.underlying76 Tryd.underlying9 infoB' _ _ (by rfl) (by rfl) w.heap.size _ T.size _ (by rfl) (own_below Hown.out hac2) _ (by rfl) hTm hTs hacc.size ?_; intro v' w1 hown1 hg1
      refine hKq.out _ _ ?_
      clear hKq Kq
      simp only [Act.put, List.setIfInBounds_toArray]
      refine late_L (i := 27) (d := (some 3)) (by kernel_rfl) rfl rfl (by kernel_rfl) (fun Kq hKq => ?_)
      go_simp
      refine hKq.out _ _ ?_
      clear hKq Kq
      refine done_L (by kernel_rfl) ?_ _
      refine NoPanic.normal ?_
      have Hb1 := Lib.hid (below_apd hacc (own_below Hown.out hac2) hg1 (Nat.le_refl _) hacc.size)
      have Ho1 := Lib.hid (Hfin.out _ _ hown1)
      clear hacc hac2 hown1 hg1
      go_wp2_with fail
      go_roundw
      case rel => exact ⟨k + 1, by omega, by go_num, by rw [← HT'.out]; exact Ho1.out, by rw [← HT'.out]; exact hT, Hb1.out⟩
      case measure => simp [intOf]; omega
    · have hd : xs.take k = xs := List.take_of_length_le (by omega)
      rw [hd] at hown
      clear hd
      have hconv := run_conv_own (P := Tryd.prog) 76 9 5 Tryd.underlying76 Tryd.underlying5 Tryd.underlying9 _ _ _ _ hown
      have hlt' : (xs.length : Int) ≤ (k : Int) := by omega
      clear hown
      go_wp2_with fail
      go_ret
      exact ⟨by first | rfl | simp, hbl⟩

set_option maxRecDepth 100000 in
set_option maxHeartbeats 800000 in
theorem LoansTextS_any (B : Nat) (v : Value) (xs : List Ln) (w : World) (h : RdL w B v xs) (hB : B ≤ w.heap.size) (hl : xs.length ≤ 1048576) (hsm : ∀ x ∈ xs, smL x) :
    Calls Tryd.prog 7 #[v] w fun e w' => e = .returned (.string (txL xs)) ∧ Below w.heap.size w w' := by
  have HV := Lib.hid (l23Ok_any B v xs w h hl hsm)
  cases hok : loansOk xs with
  | false =>
    have e0 := Lib.hid (show txL xs = ⟨#[]⟩ by unfold txL; rw [hok]; rfl)
    rw [hok] at HV
    clear hok h hsm
    have hb0 := fun n => below_drewN (Below.refl w.heap.size w) n
    go_enter Tryd.func7, Tryd.ntmps7
    go_wp2_with fail
    refine HV.out.mono ?_; rintro e w1 ⟨rfl, m, rfl⟩
    go_wp2_with fail
    go_ret
    rw [e0.out]; exact ⟨rfl, hb0 m⟩
  | true =>
    have e0 := Lib.hid (show txL xs = textL xs by unfold txL; rw [hok]; rfl)
    have HT := Lib.hid (fun m => l23Text_any B v xs (w.drewN m) (h.drewN m) hB (loans_60 hok) hsm (fun k hk => loans_at hok k hk))
    rw [hok] at HV
    clear hok h hsm
    have hb0 := fun n => below_drewN (Below.refl w.heap.size w) n
    go_enter Tryd.func7, Tryd.ntmps7
    go_wp2_with fail
    refine HV.out.mono ?_; rintro e w1 ⟨rfl, m, rfl⟩
    go_wp2_with fail
    refine (HT.out m).mono ?_; rintro e w2 ⟨rfl, hb2⟩
    have hb := (hb0 m).trans hb2
    clear hb2
    go_wp2_with fail
    go_ret
    rw [e0.out]; exact ⟨rfl, hb⟩
end Go.Proofs.YtplpeeienpaaeaaDoor
