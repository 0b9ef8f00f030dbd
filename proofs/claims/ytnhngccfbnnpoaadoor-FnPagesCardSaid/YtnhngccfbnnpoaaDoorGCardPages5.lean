/- Merged texts: Pa5. -/
import Derived.Test.YtnhngccfbnnpoaaDoorGCardPages4
import Derived.Test.YtnhngccfbnnpoaaDoorGCardPages3
/- Printed pages, part 5: a row's line, read, both sides (gen_pa5.py). -/
namespace Go.Proofs.YtnhngccfbnnpoaaDoor
open Go.RowKit Go.Joins

theorem splitB_memA (c : UInt8) : ∀ (n : Nat) (s : ByteArray), s.size ≤ n → ∀ z ∈ splitB c s, z.size ≤ s.size := by
  intro n
  induction n with
  | zero =>
    intro s h z hz
    have := fnd_le c s
    rw [splitB_no (by omega)] at hz
    rw [List.mem_singleton.1 hz]; exact Nat.le_refl _
  | succ n ih =>
    intro s h z hz
    rcases Nat.lt_or_ge (fnd c s) s.size with h1 | h1
    · rw [splitB_yes h1] at hz
      rcases List.mem_cons.1 hz with rfl | hz
      · rw [ByteArray.size_extract]; omega
      · have hs := tail_sizeS s (fnd c s + 1)
        have := ih _ (by omega) z hz
        omega
    · rw [splitB_no h1] at hz
      rw [List.mem_singleton.1 hz]; exact Nat.le_refl _
theorem three_ofA {L : List ByteArray} (h : L.length = 3) : ∃ x a b, L = [x, a, b] := by
  match L, h with
  | [x, a, b], _ => exact ⟨x, a, b, rfl⟩
theorem four_ofA {L : List ByteArray} (h : L.length = 4) : ∃ x a b c, L = [x, a, b, c] := by
  match L, h with
  | [x, a, b, c], _ => exact ⟨x, a, b, c, rfl⟩
/-- a row of three words -/
structure Wd3 (w : World) (g : Nat) (x a b : ByteArray) : Prop where
  lt : g < w.heap.size
  c0 : w.cell? ⟨g, 0, none⟩ = some (.string x)
  c1 : w.cell? ⟨g, 1, none⟩ = some (.string a)
  c2 : w.cell? ⟨g, 2, none⟩ = some (.string b)
theorem Wd3.next {w w' : World} {g : Nat} {x a b : ByteArray} (h : Wd3 w g x a b) (hb : Below w.heap.size w w') : Wd3 w' g x a b :=
  ⟨Nat.lt_of_lt_of_le h.lt hb.size, (hb.cell (p := ⟨g, 0, none⟩) h.lt).trans h.c0, (hb.cell (p := ⟨g, 1, none⟩) h.lt).trans h.c1, (hb.cell (p := ⟨g, 2, none⟩) h.lt).trans h.c2⟩
theorem own_wd3 {w : World} {base : Nat} {v : Value} {x a b : ByteArray} (h : w.ownsRow base 9 1 v [x, a, b].length ([x, a, b].map Value.string)) :
    ∃ g c, v = .slice (some ⟨g, 0, none⟩) 3 c ∧ Wd3 w g x a b := by
  obtain ⟨g, c, hv, _, _, hlt, hc⟩ := own_strs h (by simp)
  exact ⟨g, c, hv, hlt, hc 0 (by simp), hc 1 (by simp), hc 2 (by simp)⟩
/-- a row of four words -/
structure Wd4 (w : World) (g : Nat) (x o a b : ByteArray) : Prop where
  lt : g < w.heap.size
  c0 : w.cell? ⟨g, 0, none⟩ = some (.string x)
  c1 : w.cell? ⟨g, 1, none⟩ = some (.string o)
  c2 : w.cell? ⟨g, 2, none⟩ = some (.string a)
  c3 : w.cell? ⟨g, 3, none⟩ = some (.string b)
theorem Wd4.next {w w' : World} {g : Nat} {x o a b : ByteArray} (h : Wd4 w g x o a b) (hb : Below w.heap.size w w') : Wd4 w' g x o a b :=
  ⟨Nat.lt_of_lt_of_le h.lt hb.size, (hb.cell (p := ⟨g, 0, none⟩) h.lt).trans h.c0, (hb.cell (p := ⟨g, 1, none⟩) h.lt).trans h.c1, (hb.cell (p := ⟨g, 2, none⟩) h.lt).trans h.c2, (hb.cell (p := ⟨g, 3, none⟩) h.lt).trans h.c3⟩
theorem own_wd4 {w : World} {base : Nat} {v : Value} {x o a b : ByteArray} (h : w.ownsRow base 9 1 v [x, o, a, b].length ([x, o, a, b].map Value.string)) :
    ∃ g c, v = .slice (some ⟨g, 0, none⟩) 4 c ∧ Wd4 w g x o a b := by
  obtain ⟨g, c, hv, _, _, hlt, hc⟩ := own_strs h (by simp)
  exact ⟨g, c, hv, hlt, hc 0 (by simp), hc 1 (by simp), hc 2 (by simp), hc 3 (by simp)⟩
theorem rw3_none (arg : Int) (q : Option Int) (r : ByteArray) : rw3 arg none q r = (2, 0) := rfl
theorem rw3_none2 (arg x : Int) (r : ByteArray) : rw3 arg (some x) none r = (2, 0) := rfl
theorem rw3_some (arg x v : Int) (r : ByteArray) : rw3 arg (some x) (some v) r = if isV v = true then (if x = arg then (if r = cht v then (0, v) else (4, 0)) else (3, 0)) else (2, 0) := rfl
theorem ba_neq {x y : ByteArray} (h : x ≠ y) : (x.toList == y.toList) = false := beq_eq_false_iff_ne.2 fun e => h (ba_inj e)
def RetVl (r : Int × Int) (w : World) (e : Ending) (w' : World) : Prop := e = .returned (.tuple #[.int .i64 r.2, .int .i64 r.1]) ∧ Below w.heap.size w w'
theorem RetVl.of {r : Int × Int} {w w' : World} {f v : Int} (h : r = (f, v)) (hb : Below w.heap.size w w') : RetVl r w (.returned (.tuple #[.int .i64 v, .int .i64 f])) w' := by
  subst h; exact ⟨rfl, hb⟩
set_option maxRecDepth 100000 in
set_option maxHeartbeats 3200000 in
theorem l18Value_any (s : ByteArray) (arg : Int) (w : World) (hs : s.size ≤ 1000000) : Calls Tryd.prog 70 #[.string s, .int .i64 arg] w (RetVl (rwR s arg) w) := by
  have HPt := Lib.hid (fun wx => l01Split_any s 32 wx (by omega))
  unfold RetPs at HPt
  have hplen := splitB_len 32 s.size s (Nat.le_refl _)
  by_cases h3 : (splitB 32 s).length = 3
  · obtain ⟨x, a, b, he⟩ := three_ofA h3
    have hmem := splitB_memA 32 s.size s (Nat.le_refl _)
    have hrd := rwR_three (arg := arg) he
    rw [he] at HPt hmem
    have hx := hmem x (by simp)
    have ha := hmem a (by simp)
    have hb := hmem b (by simp)
    have HD1 := Lib.hid (fun wx => l01Number_any x wx (by omega))
    have HD2 := Lib.hid (fun wx => l01Number_any a wx (by omega))
    unfold RetN1 at HD1 HD2
    rw [hrd]
    clear he h3 hmem hrd hx ha hplen
    generalize readN x = p at *
    generalize readN a = q at *
    cases p with
    | none =>
      have HR := Lib.hid (rw3_none arg q b)
      simp only [Option.getD_none, Option.isSome_none] at HD1
      generalize q.getD 0 = q1 at *
      generalize q.isSome = q2 at *
      go_enter Tryd.func70, Tryd.ntmps70
      go_wp2_with fail
      refine (HPt.out _).mono ?_; rintro e w6 ⟨v6, rfl, ho6, hb6⟩
      obtain ⟨g6, c6, rfl, hW⟩ := own_wd3 ho6
      obtain ⟨q0, q1c, q2c⟩ := (⟨hW.c0, hW.c1, hW.c2⟩ : _ ∧ _ ∧ _)
      have HW := Lib.hid hW
      have HB6 := Lib.hid hb6
      clear ho6 hb6 HPt hW
      go_wp2_with fail
      refine (HD1.out _).mono ?_; rintro e w8 ⟨rfl, hb8⟩
      have HW8 := Lib.hid (HW.out.next hb8)
      have HB8 := Lib.hid (HB6.out.trans (hb8.mono HB6.out.size))
      have r1 := HW8.out.c1
      clear hb8 HB6 HW q0 q1c q2c HD1
      go_wp2_with fail
      refine (HD2.out _).mono ?_; rintro e w9 ⟨rfl, hb9⟩
      have HW9 := Lib.hid (HW8.out.next hb9)
      have HB := Lib.hid (HB8.out.trans (hb9.mono HB8.out.size))
      have q0 := HW9.out.c0
      have q1c := HW9.out.c1
      have q2c := HW9.out.c2
      have hg9 := HW9.out.lt
      clear hb9 HB8 HW8 r1 HD2 HW9
      go_wp2_with fail
      go_ret2
      exact RetVl.of HR.out HB.out
    | some x1 =>
      cases q with
      | none =>
        have HR := Lib.hid (rw3_none2 arg x1 b)
        simp only [Option.getD_some, Option.isSome_some] at HD1
        simp only [Option.getD_none, Option.isSome_none] at HD2
        go_enter Tryd.func70, Tryd.ntmps70
        go_wp2_with fail
        refine (HPt.out _).mono ?_; rintro e w6 ⟨v6, rfl, ho6, hb6⟩
        obtain ⟨g6, c6, rfl, hW⟩ := own_wd3 ho6
        obtain ⟨q0, q1c, q2c⟩ := (⟨hW.c0, hW.c1, hW.c2⟩ : _ ∧ _ ∧ _)
        have HW := Lib.hid hW
        have HB6 := Lib.hid hb6
        clear ho6 hb6 HPt hW
        go_wp2_with fail
        refine (HD1.out _).mono ?_; rintro e w8 ⟨rfl, hb8⟩
        have HW8 := Lib.hid (HW.out.next hb8)
        have HB8 := Lib.hid (HB6.out.trans (hb8.mono HB6.out.size))
        have r1 := HW8.out.c1
        clear hb8 HB6 HW q0 q1c q2c HD1
        go_wp2_with fail
        refine (HD2.out _).mono ?_; rintro e w9 ⟨rfl, hb9⟩
        have HW9 := Lib.hid (HW8.out.next hb9)
        have HB := Lib.hid (HB8.out.trans (hb9.mono HB8.out.size))
        have q0 := HW9.out.c0
        have q1c := HW9.out.c1
        have q2c := HW9.out.c2
        have hg9 := HW9.out.lt
        clear hb9 HB8 HW8 r1 HD2 HW9
        go_wp2_with fail
        go_ret2
        exact RetVl.of HR.out HB.out
      | some v1 =>
        simp only [Option.getD_some, Option.isSome_some] at HD1 HD2
        have HR := Lib.hid (rw3_some arg x1 v1 b)
        have HM := Lib.hid (show ∀ wx, Calls Tryd.prog 53 #[.int .i64 v1] wx fun e w' => e = .returned (.bool (isV v1)) ∧ wx = w' from fun wx => l17Most_c v1 wx)
        cases hv : isV v1 with
        | false =>
          rw [hv, if_neg (by simp)] at HR
          rw [hv] at HM
          clear hv
          go_enter Tryd.func70, Tryd.ntmps70
          go_wp2_with fail
          refine (HPt.out _).mono ?_; rintro e w6 ⟨v6, rfl, ho6, hb6⟩
          obtain ⟨g6, c6, rfl, hW⟩ := own_wd3 ho6
          obtain ⟨q0, q1c, q2c⟩ := (⟨hW.c0, hW.c1, hW.c2⟩ : _ ∧ _ ∧ _)
          have HW := Lib.hid hW
          have HB6 := Lib.hid hb6
          clear ho6 hb6 HPt hW
          go_wp2_with fail
          refine (HD1.out _).mono ?_; rintro e w8 ⟨rfl, hb8⟩
          have HW8 := Lib.hid (HW.out.next hb8)
          have HB8 := Lib.hid (HB6.out.trans (hb8.mono HB6.out.size))
          have r1 := HW8.out.c1
          clear hb8 HB6 HW q0 q1c q2c HD1
          go_wp2_with fail
          refine (HD2.out _).mono ?_; rintro e w9 ⟨rfl, hb9⟩
          have HW9 := Lib.hid (HW8.out.next hb9)
          have HB := Lib.hid (HB8.out.trans (hb9.mono HB8.out.size))
          have q0 := HW9.out.c0
          have q1c := HW9.out.c1
          have q2c := HW9.out.c2
          have hg9 := HW9.out.lt
          clear hb9 HB8 HW8 r1 HD2 HW9
          go_wp2_with fail
          refine (HM.out _).mono ?_; rintro e w5 ⟨rfl, rfl⟩
          go_wp2_with fail
          go_ret2
          exact RetVl.of HR.out HB.out
        | true =>
          rw [hv, if_pos rfl] at HR
          have hck := ck_bd v1
          have HK := Lib.hid (fun wx => l18Check_c v1 wx hv)
          have HS := Lib.hid (fun wx => l18Sign_c (ck v1) wx hck.1 hck.2)
          rw [hv] at HM
          rw [cht_eq] at HR
          clear hv
          generalize ck v1 = d at *
          generalize chS d = Z at *
          by_cases ha : x1 = arg
          · subst ha
            rw [if_pos rfl] at HR
            by_cases hz : b = Z
            · subst hz
              rw [if_pos rfl] at HR
              go_enter Tryd.func70, Tryd.ntmps70
              go_wp2_with fail
              refine (HPt.out _).mono ?_; rintro e w6 ⟨v6, rfl, ho6, hb6⟩
              obtain ⟨g6, c6, rfl, hW⟩ := own_wd3 ho6
              obtain ⟨q0, q1c, q2c⟩ := (⟨hW.c0, hW.c1, hW.c2⟩ : _ ∧ _ ∧ _)
              have HW := Lib.hid hW
              have HB6 := Lib.hid hb6
              clear ho6 hb6 HPt hW
              go_wp2_with fail
              refine (HD1.out _).mono ?_; rintro e w8 ⟨rfl, hb8⟩
              have HW8 := Lib.hid (HW.out.next hb8)
              have HB8 := Lib.hid (HB6.out.trans (hb8.mono HB6.out.size))
              have r1 := HW8.out.c1
              clear hb8 HB6 HW q0 q1c q2c HD1
              go_wp2_with fail
              refine (HD2.out _).mono ?_; rintro e w9 ⟨rfl, hb9⟩
              have HW9 := Lib.hid (HW8.out.next hb9)
              have HB := Lib.hid (HB8.out.trans (hb9.mono HB8.out.size))
              have q0 := HW9.out.c0
              have q1c := HW9.out.c1
              have q2c := HW9.out.c2
              have hg9 := HW9.out.lt
              clear hb9 HB8 HW8 r1 HD2 HW9
              go_wp2_with fail
              refine (HM.out _).mono ?_; rintro e w5 ⟨rfl, rfl⟩
              go_wp2_with fail
              refine wp_region_noPanic ?_
              refine wp_region_L [] (fun w' => w'.cell? ⟨g6, 2, none⟩ = some (.string b)) (by kernel_rfl) (q2c) (fun hHeld => ?_)
              refine take_F (i := 0) (d := some 44) (v := ?_) (by kernel_rfl) (by kernel_rfl) rfl rfl (by kernel_rfl) (by kernel_rfl) (by kernel_rfl) (fun _ _ _ h => h) (Or.inl ⟨by rfl, ?_⟩) (by assumption) ?_
              rotate_left
              · (intro w hSw; (try dsimp only at hSw); go_simp; (try rw [if_neg (by omega)]); (try (with_reducible rfl)))
              simp only [Act.put, List.setIfInBounds_toArray, List.set_cons_zero, List.set_cons_succ]
              refine take_F (i := 1) (d := some 45) (v := ?_) (by kernel_rfl) (by kernel_rfl) rfl rfl (by kernel_rfl) (by kernel_rfl) (by kernel_rfl) (fun _ _ _ h => h) (Or.inl ⟨by rfl, ?_⟩) (by assumption) ?_
              rotate_left
              · (intro w hSw; (try dsimp only at hSw); go_simp; (try rw [if_neg (by omega)]); (try (with_reducible rfl)))
              simp only [Act.put, List.setIfInBounds_toArray, List.set_cons_zero, List.set_cons_succ]
              refine take_L [2] (i := 2) (d := some 46) (v := ?_) (by kernel_rfl) (by kernel_rfl) (by kernel_rfl) (by kernel_rfl) rfl rfl (by kernel_rfl) (by kernel_rfl) (by kernel_rfl) (fun _ _ _ h => h) (Or.inl ⟨by rfl, ?_⟩) (by assumption) ?_
              rotate_left
              · (intro w hSw; (try dsimp only at hSw); go_simp; (try rw [if_neg (by omega)]); (try (with_reducible rfl)))
              simp only [Act.put, List.setIfInBounds_toArray, List.set_cons_zero, List.set_cons_succ]
              refine take_F (i := 3) (d := some 47) (v := ?_) (by kernel_rfl) (by kernel_rfl) rfl rfl (by kernel_rfl) (by kernel_rfl) (by kernel_rfl) (fun _ _ _ h => h) (Or.inl ⟨by rfl, ?_⟩) (by assumption) ?_
              rotate_left
              · (intro w hSw; (try dsimp only at hSw); go_simp; (try rw [if_neg (by omega)]); (try (with_reducible rfl)))
              simp only [Act.put, List.setIfInBounds_toArray, List.set_cons_zero, List.set_cons_succ]
              refine call_L (i := 4) (d := (some 48)) rfl rfl (by kernel_rfl) (fun Kq hKq => ?_)
              go_simp
              go_at_call 54
              refine (HK.out _).mono ?_; rintro e w3 ⟨rfl, rfl⟩
              (try go_wp2_with fail)
              refine hKq.out _ _ (q2c) (fun hHeld => ?_)
              clear hKq Kq
              (try simp only [Act.put, List.setIfInBounds_toArray, List.set_cons_zero, List.set_cons_succ])
              refine call_L (i := 5) (d := (some 49)) rfl rfl (by kernel_rfl) (fun Kq hKq => ?_)
              go_simp
              go_at_call 78
              refine (HS.out _).mono ?_; rintro e w4 ⟨rfl, hb4⟩
              have HB1 := Lib.hid (HB.out.trans ((below_undrew hb4).mono HB.out.size))
              have q4 := (hb4.cell (p := ⟨g6, 2, none⟩) hg9).trans q2c
              clear hb4
              (try go_wp2_with fail)
              refine hKq.out _ _ (q4) (fun hHeld => ?_)
              clear hKq Kq
              (try simp only [Act.put, List.setIfInBounds_toArray, List.set_cons_zero, List.set_cons_succ])
              refine take_F (i := 6) (d := some 50) (v := ?_) (by kernel_rfl) (by kernel_rfl) rfl rfl (by kernel_rfl) (by kernel_rfl) (by kernel_rfl) (fun _ _ _ h => h) (Or.inl ⟨by rfl, ?_⟩) (by assumption) ?_
              rotate_left
              · (intro w hSw; (try dsimp only at hSw); go_simp; (try rw [if_neg (by omega)]); (try (with_reducible rfl)))
              simp only [Act.put, List.setIfInBounds_toArray, List.set_cons_zero, List.set_cons_succ]
              refine done_L (by kernel_rfl) ?_ _
              refine NoPanic.normal ?_
              go_wp2_with fail
              go_ret2
              exact RetVl.of HR.out HB1.out
            · rw [if_neg hz] at HR
              have hz' := ba_neq hz
              clear hz
              go_enter Tryd.func70, Tryd.ntmps70
              go_wp2_with fail
              refine (HPt.out _).mono ?_; rintro e w6 ⟨v6, rfl, ho6, hb6⟩
              obtain ⟨g6, c6, rfl, hW⟩ := own_wd3 ho6
              obtain ⟨q0, q1c, q2c⟩ := (⟨hW.c0, hW.c1, hW.c2⟩ : _ ∧ _ ∧ _)
              have HW := Lib.hid hW
              have HB6 := Lib.hid hb6
              clear ho6 hb6 HPt hW
              go_wp2_with fail
              refine (HD1.out _).mono ?_; rintro e w8 ⟨rfl, hb8⟩
              have HW8 := Lib.hid (HW.out.next hb8)
              have HB8 := Lib.hid (HB6.out.trans (hb8.mono HB6.out.size))
              have r1 := HW8.out.c1
              clear hb8 HB6 HW q0 q1c q2c HD1
              go_wp2_with fail
              refine (HD2.out _).mono ?_; rintro e w9 ⟨rfl, hb9⟩
              have HW9 := Lib.hid (HW8.out.next hb9)
              have HB := Lib.hid (HB8.out.trans (hb9.mono HB8.out.size))
              have q0 := HW9.out.c0
              have q1c := HW9.out.c1
              have q2c := HW9.out.c2
              have hg9 := HW9.out.lt
              clear hb9 HB8 HW8 r1 HD2 HW9
              go_wp2_with fail
              refine (HM.out _).mono ?_; rintro e w5 ⟨rfl, rfl⟩
              go_wp2_with fail
              refine wp_region_noPanic ?_
              refine wp_region_L [] (fun w' => w'.cell? ⟨g6, 2, none⟩ = some (.string b)) (by kernel_rfl) (q2c) (fun hHeld => ?_)
              refine take_F (i := 0) (d := some 44) (v := ?_) (by kernel_rfl) (by kernel_rfl) rfl rfl (by kernel_rfl) (by kernel_rfl) (by kernel_rfl) (fun _ _ _ h => h) (Or.inl ⟨by rfl, ?_⟩) (by assumption) ?_
              rotate_left
              · (intro w hSw; (try dsimp only at hSw); go_simp; (try rw [if_neg (by omega)]); (try (with_reducible rfl)))
              simp only [Act.put, List.setIfInBounds_toArray, List.set_cons_zero, List.set_cons_succ]
              refine take_F (i := 1) (d := some 45) (v := ?_) (by kernel_rfl) (by kernel_rfl) rfl rfl (by kernel_rfl) (by kernel_rfl) (by kernel_rfl) (fun _ _ _ h => h) (Or.inl ⟨by rfl, ?_⟩) (by assumption) ?_
              rotate_left
              · (intro w hSw; (try dsimp only at hSw); go_simp; (try rw [if_neg (by omega)]); (try (with_reducible rfl)))
              simp only [Act.put, List.setIfInBounds_toArray, List.set_cons_zero, List.set_cons_succ]
              refine take_L [2] (i := 2) (d := some 46) (v := ?_) (by kernel_rfl) (by kernel_rfl) (by kernel_rfl) (by kernel_rfl) rfl rfl (by kernel_rfl) (by kernel_rfl) (by kernel_rfl) (fun _ _ _ h => h) (Or.inl ⟨by rfl, ?_⟩) (by assumption) ?_
              rotate_left
              · (intro w hSw; (try dsimp only at hSw); go_simp; (try rw [if_neg (by omega)]); (try (with_reducible rfl)))
              simp only [Act.put, List.setIfInBounds_toArray, List.set_cons_zero, List.set_cons_succ]
              refine take_F (i := 3) (d := some 47) (v := ?_) (by kernel_rfl) (by kernel_rfl) rfl rfl (by kernel_rfl) (by kernel_rfl) (by kernel_rfl) (fun _ _ _ h => h) (Or.inl ⟨by rfl, ?_⟩) (by assumption) ?_
              rotate_left
              · (intro w hSw; (try dsimp only at hSw); go_simp; (try rw [if_neg (by omega)]); (try (with_reducible rfl)))
              simp only [Act.put, List.setIfInBounds_toArray, List.set_cons_zero, List.set_cons_succ]
              refine call_L (i := 4) (d := (some 48)) rfl rfl (by kernel_rfl) (fun Kq hKq => ?_)
              go_simp
              go_at_call 54
              refine (HK.out _).mono ?_; rintro e w3 ⟨rfl, rfl⟩
              (try go_wp2_with fail)
              refine hKq.out _ _ (q2c) (fun hHeld => ?_)
              clear hKq Kq
              (try simp only [Act.put, List.setIfInBounds_toArray, List.set_cons_zero, List.set_cons_succ])
              refine call_L (i := 5) (d := (some 49)) rfl rfl (by kernel_rfl) (fun Kq hKq => ?_)
              go_simp
              go_at_call 78
              refine (HS.out _).mono ?_; rintro e w4 ⟨rfl, hb4⟩
              have HB1 := Lib.hid (HB.out.trans ((below_undrew hb4).mono HB.out.size))
              have q4 := (hb4.cell (p := ⟨g6, 2, none⟩) hg9).trans q2c
              clear hb4
              (try go_wp2_with fail)
              refine hKq.out _ _ (q4) (fun hHeld => ?_)
              clear hKq Kq
              (try simp only [Act.put, List.setIfInBounds_toArray, List.set_cons_zero, List.set_cons_succ])
              refine take_F (i := 6) (d := some 50) (v := ?_) (by kernel_rfl) (by kernel_rfl) rfl rfl (by kernel_rfl) (by kernel_rfl) (by kernel_rfl) (fun _ _ _ h => h) (Or.inl ⟨by rfl, ?_⟩) (by assumption) ?_
              rotate_left
              · (intro w hSw; (try dsimp only at hSw); go_simp; (try rw [if_neg (by omega)]); (try (with_reducible rfl)))
              simp only [Act.put, List.setIfInBounds_toArray, List.set_cons_zero, List.set_cons_succ]
              refine done_L (by kernel_rfl) ?_ _
              refine NoPanic.normal ?_
              go_wp2_with fail
              go_ret2
              exact RetVl.of HR.out HB1.out
          · rw [if_neg ha] at HR
            go_enter Tryd.func70, Tryd.ntmps70
            go_wp2_with fail
            refine (HPt.out _).mono ?_; rintro e w6 ⟨v6, rfl, ho6, hb6⟩
            obtain ⟨g6, c6, rfl, hW⟩ := own_wd3 ho6
            obtain ⟨q0, q1c, q2c⟩ := (⟨hW.c0, hW.c1, hW.c2⟩ : _ ∧ _ ∧ _)
            have HW := Lib.hid hW
            have HB6 := Lib.hid hb6
            clear ho6 hb6 HPt hW
            go_wp2_with fail
            refine (HD1.out _).mono ?_; rintro e w8 ⟨rfl, hb8⟩
            have HW8 := Lib.hid (HW.out.next hb8)
            have HB8 := Lib.hid (HB6.out.trans (hb8.mono HB6.out.size))
            have r1 := HW8.out.c1
            clear hb8 HB6 HW q0 q1c q2c HD1
            go_wp2_with fail
            refine (HD2.out _).mono ?_; rintro e w9 ⟨rfl, hb9⟩
            have HW9 := Lib.hid (HW8.out.next hb9)
            have HB := Lib.hid (HB8.out.trans (hb9.mono HB8.out.size))
            have q0 := HW9.out.c0
            have q1c := HW9.out.c1
            have q2c := HW9.out.c2
            have hg9 := HW9.out.lt
            clear hb9 HB8 HW8 r1 HD2 HW9
            go_wp2_with fail
            refine (HM.out _).mono ?_; rintro e w5 ⟨rfl, rfl⟩
            go_wp2_with fail
            go_ret2
            exact RetVl.of HR.out HB.out
  · have HR := Lib.hid (rwR_not (arg := arg) h3)
    have h3' : ¬ (((splitB 32 s).length : Int) = 3) := by omega
    clear h3
    go_enter Tryd.func70, Tryd.ntmps70
    go_wp2_with fail
    refine (HPt.out _).mono ?_; rintro e w5 ⟨v5, rfl, ho5, hb5⟩
    have HB := Lib.hid hb5
    obtain ⟨A5, c5, rfl⟩ := sl_of_own ho5
    generalize (splitB 32 s).length = n at *
    clear ho5 hb5 HPt
    go_wp2_with fail
    go_ret2
    exact RetVl.of HR.out HB.out
/-- a page under way in a block of the call's own -/
structure PgW (W w : World) (q : Nat) (s : ByteArray) (a b : Int) (v : Value) (n : Nat) (f : Nat → Int) : Prop where
  hq : w.heap[q]? = some (.cells #[.string s, .int .i64 a, .int .i64 b, v] 26 (0, 0))
  rq : W.heap.size ≤ q
  cur : w.ownsRow W.heap.size 2 1 v n (tab n f)
  bel : Below W.heap.size W w
theorem PgW.qlt {W w : World} {q : Nat} {s : ByteArray} {a b : Int} {v : Value} {n : Nat} {f : Nat → Int} (h : PgW W w q s a b v n f) : q < w.heap.size := (Array.getElem?_eq_some_iff.1 h.hq).1
theorem PgW.below {W w w' : World} {q : Nat} {s : ByteArray} {a b : Int} {v : Value} {n : Nat} {f : Nat → Int} (h : PgW W w q s a b v n f) (hb : Below w.heap.size w w') : PgW W w' q s a b v n f :=
  ⟨(hb.block q h.qlt).trans h.hq, h.rq, own_below h.cur hb, h.bel.trans (hb.mono h.bel.size)⟩
theorem PgW.sl {W w : World} {q : Nat} {s : ByteArray} {a b : Int} {v : Value} {n : Nat} {f : Nat → Int} (h : PgW W w q s a b v n f) : ∃ A c, v = .slice A n c := own_slP h.cur
theorem PgW.cells {W w : World} {q : Nat} {s : ByteArray} {a b : Int} {v : Value} {n : Nat} {f : Nat → Int} (h : PgW W w q s a b v n f) :
    w.cell? ⟨q, 0, none⟩ = some (.string s) ∧ w.cell? ⟨q, 1, none⟩ = some (.int .i64 a) ∧ w.cell? ⟨q, 2, none⟩ = some (.int .i64 b) ∧ w.cell? ⟨q, 3, none⟩ = some v ∧ w.frozen? ⟨q, 3, none⟩ = false := by
  obtain ⟨h0, h1, h2, h3, h4⟩ := blk4 h.hq
  exact ⟨h0, h1, h2, h3, h4 3⟩
theorem PgW.app {W w w1 : World} {q : Nat} {s : ByteArray} {a b : Int} {v v' : Value} {n : Nat} {f : Nat → Int} {y : Int} (h : PgW W w q s a b v n f) (hy : f n = y) (hg : w.grownBy w1 v.ownBlock)
    (hr : w1.ownsRow W.heap.size 2 1 v' (n + 1) (tab n f ++ (#[Value.int .i64 y] : Array Value).toList)) : PgW W (w1.setCell ⟨q, 3, none⟩ v') q s a b v' (n + 1) f ∧ w1.cell? ⟨q, 3, none⟩ = some v ∧ w1.frozen? ⟨q, 3, none⟩ = false := by
  have hq1 : w1.heap[q]? = some (.cells #[.string s, .int .i64 a, .int .i64 b, v] 26 (0, 0)) := (hg.block q h.qlt (fun e => pg_ne h.cur h.hq (by decide) e.symm)).trans h.hq
  have hr2 : w1.ownsRow W.heap.size 2 1 v' (n + 1) (tab (n + 1) f) := by rw [tab_succ, hy]; exact hr
  obtain ⟨_, _, _, q3, qz⟩ := blk4 hq1
  have hb1 : Below W.heap.size W w1 := below_apd h.bel h.cur hg (Nat.le_refl _) h.bel.size
  exact ⟨⟨heap_setCell_same w1 q 3 _ _ v' hq1, h.rq, ownsRow_setCell_other hr2 (a := ⟨q, 3, none⟩) (pg_ne hr2 hq1 (by decide)) v', hb1.setCell (p := ⟨q, 3, none⟩) h.rq v'⟩, q3, qz 3⟩
theorem PgW.new {W w : World} (h : Below W.heap.size W w) (s : ByteArray) (a b : Int) (f : Nat → Int) : PgW W (w.alloc (.cells #[.string s, .int .i64 a, .int .i64 b, .slice none 0 0] 26)) w.heap.size s a b (.slice none 0 0) 0 f :=
  ⟨heap_alloc_new w _, h.size, ⟨by simp [tab], .inl ⟨rfl, rfl⟩⟩, h.trans (((Below.refl w.heap.size w).alloc (Nat.le_refl _) _).mono h.size)⟩
def RetRr (r : Int × Int) (W : World) (q : Nat) (s : ByteArray) (a b : Int) (n : Nat) (F : Nat → Int) (e : Ending) (w' : World) : Prop :=
  e = .returned (.int .i64 r.1) ∧ Below W.heap.size W w' ∧ (r.1 = 0 → ∃ v', PgW W w' q s a b v' (n + 1) F)
theorem RetRr.no {r : Int × Int} {W : World} {q : Nat} {s : ByteArray} {a b : Int} {n : Nat} {F : Nat → Int} {w' : World} {f : Int} (h : r = (f, 0)) (hf : f ≠ 0) (hb : Below W.heap.size W w') : RetRr r W q s a b n F (.returned (.int .i64 f)) w' := by
  subst h; exact ⟨rfl, hb, fun e => absurd e hf⟩
theorem RetRr.yes {r : Int × Int} {W : World} {q : Nat} {s : ByteArray} {a b : Int} {n : Nat} {F : Nat → Int} {w' : World} {v' : Value} {y : Int} (h : r = (0, y)) (hp : PgW W w' q s a b v' (n + 1) F) : RetRr r W q s a b n F (.returned (.int .i64 0)) w' := by
  subst h; exact ⟨rfl, hp.bel, fun _ => ⟨v', hp⟩⟩
set_option maxRecDepth 100000 in
set_option maxHeartbeats 3200000 in
theorem readRow_any (W : World) (q : Nat) (s : ByteArray) (a b : Int) (v : Value) (n : Nat) (F : Nat → Int) (line : ByteArray) (w : World) (h : PgW W w q s a b v n F) (hs : line.size ≤ 1000000) (ha : -1000000 ≤ a ∧ a ≤ 1000000) (hP : 0 ≤ (n : Int) * b ∧ (n : Int) * b ≤ 59000) (hn : n ≤ 60) (hF : (rwR line (argA a b n)).1 = 0 → F n = (rwR line (argA a b n)).2) (ht : Tab w) :
    Calls Tryd.prog 68 #[.pointer (some ⟨q, 0, none⟩), .string line] w (RetRr (rwR line (argA a b n)) W q s a b n F) := by
  have HPt := Lib.hid (fun wx => parts_any line wx (by omega))
  unfold RetPs at HPt
  obtain ⟨A, c, rfl⟩ := h.sl
  have HP := Lib.hid h
  have Ht := Lib.hid ht
  have HAr := Lib.hid (fun wx => argument_c s a b (n : Int) A n c wx ha hP)
  have hag : argA a b n = a + (n : Int) * b := rfl
  rw [hag] at hF ⊢
  generalize a + (n : Int) * b = arg at *
  clear h ht hag hP
  by_cases h3 : (splitB 32 line).length = 3
  · obtain ⟨x, y, z, he⟩ := three_ofA h3
    have hmem := splitB_memA 32 line.size line (Nat.le_refl _)
    have hrd := rwR_three (arg := arg) he
    rw [he] at HPt hmem
    have hx := hmem x (by simp)
    have hy := hmem y (by simp)
    have hz := hmem z (by simp)
    have HD1 := Lib.hid (fun wx hx => ReadDecimal_any x wx (by omega) hx)
    have HD2 := Lib.hid (fun wx hx => ReadDecimal_any y wx (by omega) hx)
    unfold RetN1 at HD1 HD2
    rw [hrd] at hF ⊢
    clear he h3 hmem hrd hx hy
    generalize readN x = p at *
    generalize readN y = r at *
    cases p with
    | none =>
      have HR := Lib.hid (rw3_none arg r z)
      simp only [Option.getD_none, Option.isSome_none] at HD1
      generalize r.getD 0 = q1 at *
      generalize r.isSome = q2 at *
      clear hF
      go_enter Tryd.func68, Tryd.ntmps68
      go_wp2_with fail
      refine (HPt.out _).mono ?_; rintro e w6 ⟨v6, rfl, ho6, hb6⟩
      obtain ⟨g6, c6, rfl, hW⟩ := own_wd3 ho6
      have hW0 := hW.c0
      have HW := Lib.hid hW
      have Ht6 := Lib.hid (Ht.out.below hb6)
      have HP6 := Lib.hid (HP.out.below hb6)
      clear ho6 hb6 HPt hW
      go_wp2_with fail
      refine (HD1.out _ Ht6.out).mono ?_; rintro e w8 ⟨rfl, hb8⟩
      have HW8 := Lib.hid (HW.out.next hb8)
      have HP8 := Lib.hid (HP6.out.below hb8)
      have Ht8 := Lib.hid (Ht6.out.below hb8)
      have r1 := HW8.out.c1
      clear hb8 HW hW0 HD1 HP6 Ht6
      go_wp2_with fail
      refine (HD2.out _ Ht8.out).mono ?_; rintro e w9 ⟨rfl, hb9⟩
      have HW9 := Lib.hid (HW8.out.next hb9)
      have HPw := Lib.hid (HP8.out.below hb9)
      have Ht9 := Lib.hid (Ht8.out.below hb9)
      have k2 := HW9.out.c2
      have hg9 := HW9.out.lt
      obtain ⟨k10, k11, k12, k13, -⟩ := HPw.out.cells
      have hgq := HPw.out.qlt
      clear hb9 HW8 r1 HD2 HP8 Ht8
      go_wp2_with fail
      go_ret
      exact RetRr.no HR.out (by decide) HPw.out.bel
    | some x1 =>
      cases r with
      | none =>
        have HR := Lib.hid (rw3_none2 arg x1 z)
        simp only [Option.getD_some, Option.isSome_some] at HD1
        simp only [Option.getD_none, Option.isSome_none] at HD2
        clear hF
        go_enter Tryd.func68, Tryd.ntmps68
        go_wp2_with fail
        refine (HPt.out _).mono ?_; rintro e w6 ⟨v6, rfl, ho6, hb6⟩
        obtain ⟨g6, c6, rfl, hW⟩ := own_wd3 ho6
        have hW0 := hW.c0
        have HW := Lib.hid hW
        have Ht6 := Lib.hid (Ht.out.below hb6)
        have HP6 := Lib.hid (HP.out.below hb6)
        clear ho6 hb6 HPt hW
        go_wp2_with fail
        refine (HD1.out _ Ht6.out).mono ?_; rintro e w8 ⟨rfl, hb8⟩
        have HW8 := Lib.hid (HW.out.next hb8)
        have HP8 := Lib.hid (HP6.out.below hb8)
        have Ht8 := Lib.hid (Ht6.out.below hb8)
        have r1 := HW8.out.c1
        clear hb8 HW hW0 HD1 HP6 Ht6
        go_wp2_with fail
        refine (HD2.out _ Ht8.out).mono ?_; rintro e w9 ⟨rfl, hb9⟩
        have HW9 := Lib.hid (HW8.out.next hb9)
        have HPw := Lib.hid (HP8.out.below hb9)
        have Ht9 := Lib.hid (Ht8.out.below hb9)
        have k2 := HW9.out.c2
        have hg9 := HW9.out.lt
        obtain ⟨k10, k11, k12, k13, -⟩ := HPw.out.cells
        have hgq := HPw.out.qlt
        clear hb9 HW8 r1 HD2 HP8 Ht8
        go_wp2_with fail
        go_ret
        exact RetRr.no HR.out (by decide) HPw.out.bel
      | some v1 =>
        simp only [Option.getD_some, Option.isSome_some] at HD1 HD2
        have HR := Lib.hid (rw3_some arg x1 v1 z)
        have HM := Lib.hid (show ∀ wx, Calls Tryd.prog 51 #[.int .i64 v1] wx fun e w' => e = .returned (.bool (isV v1)) ∧ wx = w' from fun wx => isValue_c v1 wx)
        cases hv : isV v1 with
        | false =>
          rw [hv, if_neg (by simp)] at HR
          rw [hv] at HM
          clear hv hF
          go_enter Tryd.func68, Tryd.ntmps68
          go_wp2_with fail
          refine (HPt.out _).mono ?_; rintro e w6 ⟨v6, rfl, ho6, hb6⟩
          obtain ⟨g6, c6, rfl, hW⟩ := own_wd3 ho6
          have hW0 := hW.c0
          have HW := Lib.hid hW
          have Ht6 := Lib.hid (Ht.out.below hb6)
          have HP6 := Lib.hid (HP.out.below hb6)
          clear ho6 hb6 HPt hW
          go_wp2_with fail
          refine (HD1.out _ Ht6.out).mono ?_; rintro e w8 ⟨rfl, hb8⟩
          have HW8 := Lib.hid (HW.out.next hb8)
          have HP8 := Lib.hid (HP6.out.below hb8)
          have Ht8 := Lib.hid (Ht6.out.below hb8)
          have r1 := HW8.out.c1
          clear hb8 HW hW0 HD1 HP6 Ht6
          go_wp2_with fail
          refine (HD2.out _ Ht8.out).mono ?_; rintro e w9 ⟨rfl, hb9⟩
          have HW9 := Lib.hid (HW8.out.next hb9)
          have HPw := Lib.hid (HP8.out.below hb9)
          have Ht9 := Lib.hid (Ht8.out.below hb9)
          have k2 := HW9.out.c2
          have hg9 := HW9.out.lt
          obtain ⟨k10, k11, k12, k13, -⟩ := HPw.out.cells
          have hgq := HPw.out.qlt
          clear hb9 HW8 r1 HD2 HP8 Ht8
          go_wp2_with fail
          refine (HM.out _).mono ?_; rintro e w5 ⟨rfl, rfl⟩
          go_wp2_with fail
          go_ret
          exact RetRr.no HR.out (by decide) HPw.out.bel
        | true =>
          rw [hv, if_pos rfl] at HR
          have HK := Lib.hid (fun wx hx => checkText_c v1 wx hv hx)
          rw [hv] at HM
          clear hv
          generalize cht v1 = Z at *
          by_cases ha : x1 = arg
          · subst ha
            rw [if_pos rfl] at HR
            by_cases hz : z = Z
            · subst hz
              rw [if_pos rfl] at HR
              have HFn := Lib.hid (show F n = v1 by have := hF (by rw [HR.out]); rw [HR.out] at this; exact this)
              clear hF
              go_enter Tryd.func68, Tryd.ntmps68
              go_wp2_with fail
              refine (HPt.out _).mono ?_; rintro e w6 ⟨v6, rfl, ho6, hb6⟩
              obtain ⟨g6, c6, rfl, hW⟩ := own_wd3 ho6
              have hW0 := hW.c0
              have HW := Lib.hid hW
              have Ht6 := Lib.hid (Ht.out.below hb6)
              have HP6 := Lib.hid (HP.out.below hb6)
              clear ho6 hb6 HPt hW
              go_wp2_with fail
              refine (HD1.out _ Ht6.out).mono ?_; rintro e w8 ⟨rfl, hb8⟩
              have HW8 := Lib.hid (HW.out.next hb8)
              have HP8 := Lib.hid (HP6.out.below hb8)
              have Ht8 := Lib.hid (Ht6.out.below hb8)
              have r1 := HW8.out.c1
              clear hb8 HW hW0 HD1 HP6 Ht6
              go_wp2_with fail
              refine (HD2.out _ Ht8.out).mono ?_; rintro e w9 ⟨rfl, hb9⟩
              have HW9 := Lib.hid (HW8.out.next hb9)
              have HPw := Lib.hid (HP8.out.below hb9)
              have Ht9 := Lib.hid (Ht8.out.below hb9)
              have k2 := HW9.out.c2
              have hg9 := HW9.out.lt
              obtain ⟨k10, k11, k12, k13, -⟩ := HPw.out.cells
              have hgq := HPw.out.qlt
              clear hb9 HW8 r1 HD2 HP8 Ht8
              go_wp2_with fail
              refine (HM.out _).mono ?_; rintro e w5 ⟨rfl, rfl⟩
              go_wp2_with fail
              refine wp_region_noPanic ?_
              refine wp_region_L [] (fun w' => w'.cell? ⟨q, 0, none⟩ = some (.string s) ∧ w'.cell? ⟨q, 1, none⟩ = some (.int .i64 a) ∧ w'.cell? ⟨q, 2, none⟩ = some (.int .i64 b) ∧ w'.cell? ⟨q, 3, none⟩ = some (.slice A n c)) (by kernel_rfl) (⟨k10, k11, k12, k13⟩) (fun hHeld => ?_)
              refine take_F (i := 0) (d := some 42) (v := ?_) (by kernel_rfl) (by kernel_rfl) rfl rfl (by kernel_rfl) (by kernel_rfl) (by kernel_rfl) (fun _ _ _ h => h) (Or.inl ⟨by rfl, ?_⟩) (by assumption) ?_
              rotate_left
              · (intro w hSw; (try dsimp only at hSw); go_simp; (try rw [if_neg (by omega)]); (try (with_reducible rfl)))
              simp only [Act.put, List.setIfInBounds_toArray, List.set_cons_zero, List.set_cons_succ]
              refine take_F (i := 1) (d := some 43) (v := ?_) (by kernel_rfl) (by kernel_rfl) rfl rfl (by kernel_rfl) (by kernel_rfl) (by kernel_rfl) (fun _ _ _ h => h) (Or.inl ⟨by rfl, ?_⟩) (by assumption) ?_
              rotate_left
              · (intro w hSw; (try dsimp only at hSw); go_simp; (try rw [if_neg (by omega)]); (try (with_reducible rfl)))
              simp only [Act.put, List.setIfInBounds_toArray, List.set_cons_zero, List.set_cons_succ]
              refine take_F (i := 2) (d := some 44) (v := ?_) (by kernel_rfl) (by kernel_rfl) rfl rfl (by kernel_rfl) (by kernel_rfl) (by kernel_rfl) (fun _ _ _ h => h) (Or.inl ⟨by rfl, ?_⟩) (by assumption) ?_
              rotate_left
              · (intro w hSw; (try dsimp only at hSw); go_simp; (try rw [if_neg (by omega)]); (try (with_reducible rfl)))
              simp only [Act.put, List.setIfInBounds_toArray, List.set_cons_zero, List.set_cons_succ]
              refine take_L [9,3] (i := 3) (d := some 45) (v := ?_) (by kernel_rfl) (by kernel_rfl) (by kernel_rfl) (by kernel_rfl) rfl rfl (by kernel_rfl) (by kernel_rfl) (by kernel_rfl) (fun _ _ _ h => h) (Or.inl ⟨by rfl, ?_⟩) (by assumption) ?_
              rotate_left
              · (intro w hSw; (try dsimp only at hSw); go_simp; (try rw [if_neg (by omega)]); (try (with_reducible rfl)))
              simp only [Act.put, List.setIfInBounds_toArray, List.set_cons_zero, List.set_cons_succ]
              refine take_F (i := 4) (d := some 46) (v := ?_) (by kernel_rfl) (by kernel_rfl) rfl rfl (by kernel_rfl) (by kernel_rfl) (by kernel_rfl) (fun _ _ _ h => h) (Or.inl ⟨by rfl, ?_⟩) (by assumption) ?_
              rotate_left
              · (intro w hSw; (try dsimp only at hSw); go_simp; (try rw [if_neg (by omega)]); (try (with_reducible rfl)))
              simp only [Act.put, List.setIfInBounds_toArray, List.set_cons_zero, List.set_cons_succ]
              refine take_F (i := 5) (d := some 47) (v := ?_) (by kernel_rfl) (by kernel_rfl) rfl rfl (by kernel_rfl) (by kernel_rfl) (by kernel_rfl) (fun _ _ _ h => h) (Or.inl ⟨by rfl, ?_⟩) (by assumption) ?_
              rotate_left
              · (intro w hSw; (try dsimp only at hSw); go_simp; (try rw [if_neg (by omega)]); (try (with_reducible rfl)))
              simp only [Act.put, List.setIfInBounds_toArray, List.set_cons_zero, List.set_cons_succ]
              refine take_F (i := 6) (d := some 48) (v := ?_) (by kernel_rfl) (by kernel_rfl) rfl rfl (by kernel_rfl) (by kernel_rfl) (by kernel_rfl) (fun _ _ _ h => h) (Or.inl ⟨by rfl, ?_⟩) (by assumption) ?_
              rotate_left
              · (intro w hSw; (try dsimp only at hSw); go_simp; (try rw [if_neg (by omega)]); (try (with_reducible rfl)))
              simp only [Act.put, List.setIfInBounds_toArray, List.set_cons_zero, List.set_cons_succ]
              refine take_L [9,8,7] (i := 7) (d := some 49) (v := ?_) (by kernel_rfl) (by kernel_rfl) (by kernel_rfl) (by kernel_rfl) rfl rfl (by kernel_rfl) (by kernel_rfl) (by kernel_rfl) (fun _ _ _ h => h) (Or.inl ⟨by rfl, ?_⟩) (by assumption) ?_
              rotate_left
              · (intro w hSw; (try dsimp only at hSw); go_simp; (try rw [if_neg (by omega)]); (try (with_reducible rfl)))
              simp only [Act.put, List.setIfInBounds_toArray, List.set_cons_zero, List.set_cons_succ]
              refine take_F (i := 8) (d := some 50) (v := ?_) (by kernel_rfl) (by kernel_rfl) rfl rfl (by kernel_rfl) (by kernel_rfl) (by kernel_rfl) (fun _ _ _ h => h) (Or.inl ⟨by rfl, ?_⟩) (by assumption) ?_
              rotate_left
              · (intro w hSw; (try dsimp only at hSw); go_simp; (try rw [if_neg (by omega)]); (try (with_reducible rfl)))
              simp only [Act.put, List.setIfInBounds_toArray, List.set_cons_zero, List.set_cons_succ]
              refine call_L (i := 9) (d := (some 51)) rfl rfl (by kernel_rfl) (fun Kq hKq => ?_)
              go_simp
              go_at_call 45
              refine (HAr.out _).mono ?_; rintro e w3 ⟨rfl, hb3⟩
              have HP1 := Lib.hid (HPw.out.below (below_undrew hb3))
              have Ht1 := Lib.hid (Ht9.out.below (below_undrew hb3))
              have HW1 := Lib.hid (HW9.out.next (below_undrew hb3))
              obtain ⟨l0, l1, l2, l3, -⟩ := HP1.out.cells
              clear hb3
              (try go_wp2_with fail)
              refine hKq.out _ _ (⟨l0, l1, l2, l3⟩) (fun hHeld => ?_)
              clear hKq Kq
              (try simp only [Act.put, List.setIfInBounds_toArray, List.set_cons_zero, List.set_cons_succ])
              refine take_F (i := 10) (d := some 52) (v := ?_) (by kernel_rfl) (by kernel_rfl) rfl rfl (by kernel_rfl) (by kernel_rfl) (by kernel_rfl) (fun _ _ _ h => h) (Or.inl ⟨by rfl, ?_⟩) (by assumption) ?_
              rotate_left
              · (intro w hSw; (try dsimp only at hSw); go_simp; (try rw [if_neg (by omega)]); (try (with_reducible rfl)))
              simp only [Act.put, List.setIfInBounds_toArray, List.set_cons_zero, List.set_cons_succ]
              refine take_F (i := 11) (d := some 41) (v := ?_) (by kernel_rfl) (by kernel_rfl) rfl rfl (by kernel_rfl) (by kernel_rfl) (by kernel_rfl) (fun _ _ _ h => h) (Or.inl ⟨by rfl, ?_⟩) (by assumption) ?_
              rotate_left
              · (intro w hSw; (try dsimp only at hSw); go_simp; (try rw [if_neg (by omega)]); (try (with_reducible rfl)))
              simp only [Act.put, List.setIfInBounds_toArray, List.set_cons_zero, List.set_cons_succ]
              refine done_L (by kernel_rfl) ?_ _
              refine NoPanic.normal ?_
              go_wp2_with fail
              have m2 := HW1.out.c2
              refine wp_region_noPanic ?_
              refine wp_region_L [] (fun w' => w'.cell? ⟨g6, 2, none⟩ = some (.string z)) (by kernel_rfl) (m2) (fun hHeld => ?_)
              refine take_F (i := 0) (d := some 54) (v := ?_) (by kernel_rfl) (by kernel_rfl) rfl rfl (by kernel_rfl) (by kernel_rfl) (by kernel_rfl) (fun _ _ _ h => h) (Or.inl ⟨by rfl, ?_⟩) (by assumption) ?_
              rotate_left
              · (intro w hSw; (try dsimp only at hSw); go_simp; (try rw [if_neg (by omega)]); (try (with_reducible rfl)))
              simp only [Act.put, List.setIfInBounds_toArray, List.set_cons_zero, List.set_cons_succ]
              refine take_F (i := 1) (d := some 55) (v := ?_) (by kernel_rfl) (by kernel_rfl) rfl rfl (by kernel_rfl) (by kernel_rfl) (by kernel_rfl) (fun _ _ _ h => h) (Or.inl ⟨by rfl, ?_⟩) (by assumption) ?_
              rotate_left
              · (intro w hSw; (try dsimp only at hSw); go_simp; (try rw [if_neg (by omega)]); (try (with_reducible rfl)))
              simp only [Act.put, List.setIfInBounds_toArray, List.set_cons_zero, List.set_cons_succ]
              refine take_L [5,2] (i := 2) (d := some 56) (v := ?_) (by kernel_rfl) (by kernel_rfl) (by kernel_rfl) (by kernel_rfl) rfl rfl (by kernel_rfl) (by kernel_rfl) (by kernel_rfl) (fun _ _ _ h => h) (Or.inl ⟨by rfl, ?_⟩) (by assumption) ?_
              rotate_left
              · (intro w hSw; (try dsimp only at hSw); go_simp; (try rw [if_neg (by omega)]); (try (with_reducible rfl)))
              simp only [Act.put, List.setIfInBounds_toArray, List.set_cons_zero, List.set_cons_succ]
              refine take_F (i := 3) (d := some 57) (v := ?_) (by kernel_rfl) (by kernel_rfl) rfl rfl (by kernel_rfl) (by kernel_rfl) (by kernel_rfl) (fun _ _ _ h => h) (Or.inl ⟨by rfl, ?_⟩) (by assumption) ?_
              rotate_left
              · (intro w hSw; (try dsimp only at hSw); go_simp; (try rw [if_neg (by omega)]); (try (with_reducible rfl)))
              simp only [Act.put, List.setIfInBounds_toArray, List.set_cons_zero, List.set_cons_succ]
              refine call_L (i := 4) (d := (some 58)) rfl rfl (by kernel_rfl) (fun Kq hKq => ?_)
              go_simp
              go_at_call 60
              refine (HK.out _ (Ht1.out.below (Below.refl _ _).drew)).mono ?_; rintro e w4 ⟨rfl, hb4⟩
              have m4 := (hb4.cell (p := ⟨g6, 2, none⟩) HW1.out.lt).trans m2
              (try go_wp2_with fail)
              refine hKq.out _ _ (m4) (fun hHeld => ?_)
              clear hKq Kq
              (try simp only [Act.put, List.setIfInBounds_toArray, List.set_cons_zero, List.set_cons_succ])
              refine take_F (i := 5) (d := some 59) (v := ?_) (by kernel_rfl) (by kernel_rfl) rfl rfl (by kernel_rfl) (by kernel_rfl) (by kernel_rfl) (fun _ _ _ h => h) (Or.inl ⟨by rfl, ?_⟩) (by assumption) ?_
              rotate_left
              · (intro w hSw; (try dsimp only at hSw); go_simp; (try rw [if_neg (by omega)]); (try (with_reducible rfl)))
              simp only [Act.put, List.setIfInBounds_toArray, List.set_cons_zero, List.set_cons_succ]
              refine take_F (i := 6) (d := some 53) (v := ?_) (by kernel_rfl) (by kernel_rfl) rfl rfl (by kernel_rfl) (by kernel_rfl) (by kernel_rfl) (fun _ _ _ h => h) (Or.inl ⟨by rfl, ?_⟩) (by assumption) ?_
              rotate_left
              · (intro w hSw; (try dsimp only at hSw); go_simp; (try rw [if_neg (by omega)]); (try (with_reducible rfl)))
              simp only [Act.put, List.setIfInBounds_toArray, List.set_cons_zero, List.set_cons_succ]
              refine done_L (by kernel_rfl) ?_ _
              refine NoPanic.normal ?_
              have HP2 := Lib.hid (HP1.out.below (below_undrew hb4))
              obtain ⟨g0, g1, g2, g3, x3⟩ := HP2.out.cells
              have Hcur := Lib.hid HP2.out.cur
              have hzz := HP2.out.bel.size
              clear hb4
              go_wp2_with (at_builtin; refine wpList_apd 24 2 _ 1 8 Tryd.underlying24 infoD rfl (by omega) _ _ rfl rfl W.heap.size _ n _ rfl Hcur.out #[.int .i64 v1] 1 1 rfl rfl (by simp [Value.oneCell']) (by simp [maxLen]; omega) (by omega) hzz ?_; intro v7 w7 hown7 hg7; obtain ⟨hP7, z3, y3⟩ := HP2.out.app HFn.out hg7 hown7; obtain ⟨A7, c7, rfl⟩ := hP7.sl; have HP7 := Lib.hid hP7; clear hown7 hg7 hP7 g3 x3)
              go_ret
              exact RetRr.yes HR.out HP7.out
            · rw [if_neg hz] at HR
              have hz' := ba_neq hz
              clear hz hF
              go_enter Tryd.func68, Tryd.ntmps68
              go_wp2_with fail
              refine (HPt.out _).mono ?_; rintro e w6 ⟨v6, rfl, ho6, hb6⟩
              obtain ⟨g6, c6, rfl, hW⟩ := own_wd3 ho6
              have hW0 := hW.c0
              have HW := Lib.hid hW
              have Ht6 := Lib.hid (Ht.out.below hb6)
              have HP6 := Lib.hid (HP.out.below hb6)
              clear ho6 hb6 HPt hW
              go_wp2_with fail
              refine (HD1.out _ Ht6.out).mono ?_; rintro e w8 ⟨rfl, hb8⟩
              have HW8 := Lib.hid (HW.out.next hb8)
              have HP8 := Lib.hid (HP6.out.below hb8)
              have Ht8 := Lib.hid (Ht6.out.below hb8)
              have r1 := HW8.out.c1
              clear hb8 HW hW0 HD1 HP6 Ht6
              go_wp2_with fail
              refine (HD2.out _ Ht8.out).mono ?_; rintro e w9 ⟨rfl, hb9⟩
              have HW9 := Lib.hid (HW8.out.next hb9)
              have HPw := Lib.hid (HP8.out.below hb9)
              have Ht9 := Lib.hid (Ht8.out.below hb9)
              have k2 := HW9.out.c2
              have hg9 := HW9.out.lt
              obtain ⟨k10, k11, k12, k13, -⟩ := HPw.out.cells
              have hgq := HPw.out.qlt
              clear hb9 HW8 r1 HD2 HP8 Ht8
              go_wp2_with fail
              refine (HM.out _).mono ?_; rintro e w5 ⟨rfl, rfl⟩
              go_wp2_with fail
              refine wp_region_noPanic ?_
              refine wp_region_L [] (fun w' => w'.cell? ⟨q, 0, none⟩ = some (.string s) ∧ w'.cell? ⟨q, 1, none⟩ = some (.int .i64 a) ∧ w'.cell? ⟨q, 2, none⟩ = some (.int .i64 b) ∧ w'.cell? ⟨q, 3, none⟩ = some (.slice A n c)) (by kernel_rfl) (⟨k10, k11, k12, k13⟩) (fun hHeld => ?_)
              refine take_F (i := 0) (d := some 42) (v := ?_) (by kernel_rfl) (by kernel_rfl) rfl rfl (by kernel_rfl) (by kernel_rfl) (by kernel_rfl) (fun _ _ _ h => h) (Or.inl ⟨by rfl, ?_⟩) (by assumption) ?_
              rotate_left
              · (intro w hSw; (try dsimp only at hSw); go_simp; (try rw [if_neg (by omega)]); (try (with_reducible rfl)))
              simp only [Act.put, List.setIfInBounds_toArray, List.set_cons_zero, List.set_cons_succ]
              refine take_F (i := 1) (d := some 43) (v := ?_) (by kernel_rfl) (by kernel_rfl) rfl rfl (by kernel_rfl) (by kernel_rfl) (by kernel_rfl) (fun _ _ _ h => h) (Or.inl ⟨by rfl, ?_⟩) (by assumption) ?_
              rotate_left
              · (intro w hSw; (try dsimp only at hSw); go_simp; (try rw [if_neg (by omega)]); (try (with_reducible rfl)))
              simp only [Act.put, List.setIfInBounds_toArray, List.set_cons_zero, List.set_cons_succ]
              refine take_F (i := 2) (d := some 44) (v := ?_) (by kernel_rfl) (by kernel_rfl) rfl rfl (by kernel_rfl) (by kernel_rfl) (by kernel_rfl) (fun _ _ _ h => h) (Or.inl ⟨by rfl, ?_⟩) (by assumption) ?_
              rotate_left
              · (intro w hSw; (try dsimp only at hSw); go_simp; (try rw [if_neg (by omega)]); (try (with_reducible rfl)))
              simp only [Act.put, List.setIfInBounds_toArray, List.set_cons_zero, List.set_cons_succ]
              refine take_L [9,3] (i := 3) (d := some 45) (v := ?_) (by kernel_rfl) (by kernel_rfl) (by kernel_rfl) (by kernel_rfl) rfl rfl (by kernel_rfl) (by kernel_rfl) (by kernel_rfl) (fun _ _ _ h => h) (Or.inl ⟨by rfl, ?_⟩) (by assumption) ?_
              rotate_left
              · (intro w hSw; (try dsimp only at hSw); go_simp; (try rw [if_neg (by omega)]); (try (with_reducible rfl)))
              simp only [Act.put, List.setIfInBounds_toArray, List.set_cons_zero, List.set_cons_succ]
              refine take_F (i := 4) (d := some 46) (v := ?_) (by kernel_rfl) (by kernel_rfl) rfl rfl (by kernel_rfl) (by kernel_rfl) (by kernel_rfl) (fun _ _ _ h => h) (Or.inl ⟨by rfl, ?_⟩) (by assumption) ?_
              rotate_left
              · (intro w hSw; (try dsimp only at hSw); go_simp; (try rw [if_neg (by omega)]); (try (with_reducible rfl)))
              simp only [Act.put, List.setIfInBounds_toArray, List.set_cons_zero, List.set_cons_succ]
              refine take_F (i := 5) (d := some 47) (v := ?_) (by kernel_rfl) (by kernel_rfl) rfl rfl (by kernel_rfl) (by kernel_rfl) (by kernel_rfl) (fun _ _ _ h => h) (Or.inl ⟨by rfl, ?_⟩) (by assumption) ?_
              rotate_left
              · (intro w hSw; (try dsimp only at hSw); go_simp; (try rw [if_neg (by omega)]); (try (with_reducible rfl)))
              simp only [Act.put, List.setIfInBounds_toArray, List.set_cons_zero, List.set_cons_succ]
              refine take_F (i := 6) (d := some 48) (v := ?_) (by kernel_rfl) (by kernel_rfl) rfl rfl (by kernel_rfl) (by kernel_rfl) (by kernel_rfl) (fun _ _ _ h => h) (Or.inl ⟨by rfl, ?_⟩) (by assumption) ?_
              rotate_left
              · (intro w hSw; (try dsimp only at hSw); go_simp; (try rw [if_neg (by omega)]); (try (with_reducible rfl)))
              simp only [Act.put, List.setIfInBounds_toArray, List.set_cons_zero, List.set_cons_succ]
              refine take_L [9,8,7] (i := 7) (d := some 49) (v := ?_) (by kernel_rfl) (by kernel_rfl) (by kernel_rfl) (by kernel_rfl) rfl rfl (by kernel_rfl) (by kernel_rfl) (by kernel_rfl) (fun _ _ _ h => h) (Or.inl ⟨by rfl, ?_⟩) (by assumption) ?_
              rotate_left
              · (intro w hSw; (try dsimp only at hSw); go_simp; (try rw [if_neg (by omega)]); (try (with_reducible rfl)))
              simp only [Act.put, List.setIfInBounds_toArray, List.set_cons_zero, List.set_cons_succ]
              refine take_F (i := 8) (d := some 50) (v := ?_) (by kernel_rfl) (by kernel_rfl) rfl rfl (by kernel_rfl) (by kernel_rfl) (by kernel_rfl) (fun _ _ _ h => h) (Or.inl ⟨by rfl, ?_⟩) (by assumption) ?_
              rotate_left
              · (intro w hSw; (try dsimp only at hSw); go_simp; (try rw [if_neg (by omega)]); (try (with_reducible rfl)))
              simp only [Act.put, List.setIfInBounds_toArray, List.set_cons_zero, List.set_cons_succ]
              refine call_L (i := 9) (d := (some 51)) rfl rfl (by kernel_rfl) (fun Kq hKq => ?_)
              go_simp
              go_at_call 45
              refine (HAr.out _).mono ?_; rintro e w3 ⟨rfl, hb3⟩
              have HP1 := Lib.hid (HPw.out.below (below_undrew hb3))
              have Ht1 := Lib.hid (Ht9.out.below (below_undrew hb3))
              have HW1 := Lib.hid (HW9.out.next (below_undrew hb3))
              obtain ⟨l0, l1, l2, l3, -⟩ := HP1.out.cells
              clear hb3
              (try go_wp2_with fail)
              refine hKq.out _ _ (⟨l0, l1, l2, l3⟩) (fun hHeld => ?_)
              clear hKq Kq
              (try simp only [Act.put, List.setIfInBounds_toArray, List.set_cons_zero, List.set_cons_succ])
              refine take_F (i := 10) (d := some 52) (v := ?_) (by kernel_rfl) (by kernel_rfl) rfl rfl (by kernel_rfl) (by kernel_rfl) (by kernel_rfl) (fun _ _ _ h => h) (Or.inl ⟨by rfl, ?_⟩) (by assumption) ?_
              rotate_left
              · (intro w hSw; (try dsimp only at hSw); go_simp; (try rw [if_neg (by omega)]); (try (with_reducible rfl)))
              simp only [Act.put, List.setIfInBounds_toArray, List.set_cons_zero, List.set_cons_succ]
              refine take_F (i := 11) (d := some 41) (v := ?_) (by kernel_rfl) (by kernel_rfl) rfl rfl (by kernel_rfl) (by kernel_rfl) (by kernel_rfl) (fun _ _ _ h => h) (Or.inl ⟨by rfl, ?_⟩) (by assumption) ?_
              rotate_left
              · (intro w hSw; (try dsimp only at hSw); go_simp; (try rw [if_neg (by omega)]); (try (with_reducible rfl)))
              simp only [Act.put, List.setIfInBounds_toArray, List.set_cons_zero, List.set_cons_succ]
              refine done_L (by kernel_rfl) ?_ _
              refine NoPanic.normal ?_
              go_wp2_with fail
              have m2 := HW1.out.c2
              refine wp_region_noPanic ?_
              refine wp_region_L [] (fun w' => w'.cell? ⟨g6, 2, none⟩ = some (.string z)) (by kernel_rfl) (m2) (fun hHeld => ?_)
              refine take_F (i := 0) (d := some 54) (v := ?_) (by kernel_rfl) (by kernel_rfl) rfl rfl (by kernel_rfl) (by kernel_rfl) (by kernel_rfl) (fun _ _ _ h => h) (Or.inl ⟨by rfl, ?_⟩) (by assumption) ?_
              rotate_left
              · (intro w hSw; (try dsimp only at hSw); go_simp; (try rw [if_neg (by omega)]); (try (with_reducible rfl)))
              simp only [Act.put, List.setIfInBounds_toArray, List.set_cons_zero, List.set_cons_succ]
              refine take_F (i := 1) (d := some 55) (v := ?_) (by kernel_rfl) (by kernel_rfl) rfl rfl (by kernel_rfl) (by kernel_rfl) (by kernel_rfl) (fun _ _ _ h => h) (Or.inl ⟨by rfl, ?_⟩) (by assumption) ?_
              rotate_left
              · (intro w hSw; (try dsimp only at hSw); go_simp; (try rw [if_neg (by omega)]); (try (with_reducible rfl)))
              simp only [Act.put, List.setIfInBounds_toArray, List.set_cons_zero, List.set_cons_succ]
              refine take_L [5,2] (i := 2) (d := some 56) (v := ?_) (by kernel_rfl) (by kernel_rfl) (by kernel_rfl) (by kernel_rfl) rfl rfl (by kernel_rfl) (by kernel_rfl) (by kernel_rfl) (fun _ _ _ h => h) (Or.inl ⟨by rfl, ?_⟩) (by assumption) ?_
              rotate_left
              · (intro w hSw; (try dsimp only at hSw); go_simp; (try rw [if_neg (by omega)]); (try (with_reducible rfl)))
              simp only [Act.put, List.setIfInBounds_toArray, List.set_cons_zero, List.set_cons_succ]
              refine take_F (i := 3) (d := some 57) (v := ?_) (by kernel_rfl) (by kernel_rfl) rfl rfl (by kernel_rfl) (by kernel_rfl) (by kernel_rfl) (fun _ _ _ h => h) (Or.inl ⟨by rfl, ?_⟩) (by assumption) ?_
              rotate_left
              · (intro w hSw; (try dsimp only at hSw); go_simp; (try rw [if_neg (by omega)]); (try (with_reducible rfl)))
              simp only [Act.put, List.setIfInBounds_toArray, List.set_cons_zero, List.set_cons_succ]
              refine call_L (i := 4) (d := (some 58)) rfl rfl (by kernel_rfl) (fun Kq hKq => ?_)
              go_simp
              go_at_call 60
              refine (HK.out _ (Ht1.out.below (Below.refl _ _).drew)).mono ?_; rintro e w4 ⟨rfl, hb4⟩
              have m4 := (hb4.cell (p := ⟨g6, 2, none⟩) HW1.out.lt).trans m2
              (try go_wp2_with fail)
              refine hKq.out _ _ (m4) (fun hHeld => ?_)
              clear hKq Kq
              (try simp only [Act.put, List.setIfInBounds_toArray, List.set_cons_zero, List.set_cons_succ])
              refine take_F (i := 5) (d := some 59) (v := ?_) (by kernel_rfl) (by kernel_rfl) rfl rfl (by kernel_rfl) (by kernel_rfl) (by kernel_rfl) (fun _ _ _ h => h) (Or.inl ⟨by rfl, ?_⟩) (by assumption) ?_
              rotate_left
              · (intro w hSw; (try dsimp only at hSw); go_simp; (try rw [if_neg (by omega)]); (try (with_reducible rfl)))
              simp only [Act.put, List.setIfInBounds_toArray, List.set_cons_zero, List.set_cons_succ]
              refine take_F (i := 6) (d := some 53) (v := ?_) (by kernel_rfl) (by kernel_rfl) rfl rfl (by kernel_rfl) (by kernel_rfl) (by kernel_rfl) (fun _ _ _ h => h) (Or.inl ⟨by rfl, ?_⟩) (by assumption) ?_
              rotate_left
              · (intro w hSw; (try dsimp only at hSw); go_simp; (try rw [if_neg (by omega)]); (try (with_reducible rfl)))
              simp only [Act.put, List.setIfInBounds_toArray, List.set_cons_zero, List.set_cons_succ]
              refine done_L (by kernel_rfl) ?_ _
              refine NoPanic.normal ?_
              have HP2 := Lib.hid (HP1.out.below (below_undrew hb4))
              clear hb4
              go_wp2_with fail
              go_ret
              exact RetRr.no HR.out (by decide) HP2.out.bel
          · rw [if_neg ha] at HR
            clear hF
            go_enter Tryd.func68, Tryd.ntmps68
            go_wp2_with fail
            refine (HPt.out _).mono ?_; rintro e w6 ⟨v6, rfl, ho6, hb6⟩
            obtain ⟨g6, c6, rfl, hW⟩ := own_wd3 ho6
            have hW0 := hW.c0
            have HW := Lib.hid hW
            have Ht6 := Lib.hid (Ht.out.below hb6)
            have HP6 := Lib.hid (HP.out.below hb6)
            clear ho6 hb6 HPt hW
            go_wp2_with fail
            refine (HD1.out _ Ht6.out).mono ?_; rintro e w8 ⟨rfl, hb8⟩
            have HW8 := Lib.hid (HW.out.next hb8)
            have HP8 := Lib.hid (HP6.out.below hb8)
            have Ht8 := Lib.hid (Ht6.out.below hb8)
            have r1 := HW8.out.c1
            clear hb8 HW hW0 HD1 HP6 Ht6
            go_wp2_with fail
            refine (HD2.out _ Ht8.out).mono ?_; rintro e w9 ⟨rfl, hb9⟩
            have HW9 := Lib.hid (HW8.out.next hb9)
            have HPw := Lib.hid (HP8.out.below hb9)
            have Ht9 := Lib.hid (Ht8.out.below hb9)
            have k2 := HW9.out.c2
            have hg9 := HW9.out.lt
            obtain ⟨k10, k11, k12, k13, -⟩ := HPw.out.cells
            have hgq := HPw.out.qlt
            clear hb9 HW8 r1 HD2 HP8 Ht8
            go_wp2_with fail
            refine (HM.out _).mono ?_; rintro e w5 ⟨rfl, rfl⟩
            go_wp2_with fail
            refine wp_region_noPanic ?_
            refine wp_region_L [] (fun w' => w'.cell? ⟨q, 0, none⟩ = some (.string s) ∧ w'.cell? ⟨q, 1, none⟩ = some (.int .i64 a) ∧ w'.cell? ⟨q, 2, none⟩ = some (.int .i64 b) ∧ w'.cell? ⟨q, 3, none⟩ = some (.slice A n c)) (by kernel_rfl) (⟨k10, k11, k12, k13⟩) (fun hHeld => ?_)
            refine take_F (i := 0) (d := some 42) (v := ?_) (by kernel_rfl) (by kernel_rfl) rfl rfl (by kernel_rfl) (by kernel_rfl) (by kernel_rfl) (fun _ _ _ h => h) (Or.inl ⟨by rfl, ?_⟩) (by assumption) ?_
            rotate_left
            · (intro w hSw; (try dsimp only at hSw); go_simp; (try rw [if_neg (by omega)]); (try (with_reducible rfl)))
            simp only [Act.put, List.setIfInBounds_toArray, List.set_cons_zero, List.set_cons_succ]
            refine take_F (i := 1) (d := some 43) (v := ?_) (by kernel_rfl) (by kernel_rfl) rfl rfl (by kernel_rfl) (by kernel_rfl) (by kernel_rfl) (fun _ _ _ h => h) (Or.inl ⟨by rfl, ?_⟩) (by assumption) ?_
            rotate_left
            · (intro w hSw; (try dsimp only at hSw); go_simp; (try rw [if_neg (by omega)]); (try (with_reducible rfl)))
            simp only [Act.put, List.setIfInBounds_toArray, List.set_cons_zero, List.set_cons_succ]
            refine take_F (i := 2) (d := some 44) (v := ?_) (by kernel_rfl) (by kernel_rfl) rfl rfl (by kernel_rfl) (by kernel_rfl) (by kernel_rfl) (fun _ _ _ h => h) (Or.inl ⟨by rfl, ?_⟩) (by assumption) ?_
            rotate_left
            · (intro w hSw; (try dsimp only at hSw); go_simp; (try rw [if_neg (by omega)]); (try (with_reducible rfl)))
            simp only [Act.put, List.setIfInBounds_toArray, List.set_cons_zero, List.set_cons_succ]
            refine take_L [9,3] (i := 3) (d := some 45) (v := ?_) (by kernel_rfl) (by kernel_rfl) (by kernel_rfl) (by kernel_rfl) rfl rfl (by kernel_rfl) (by kernel_rfl) (by kernel_rfl) (fun _ _ _ h => h) (Or.inl ⟨by rfl, ?_⟩) (by assumption) ?_
            rotate_left
            · (intro w hSw; (try dsimp only at hSw); go_simp; (try rw [if_neg (by omega)]); (try (with_reducible rfl)))
            simp only [Act.put, List.setIfInBounds_toArray, List.set_cons_zero, List.set_cons_succ]
            refine take_F (i := 4) (d := some 46) (v := ?_) (by kernel_rfl) (by kernel_rfl) rfl rfl (by kernel_rfl) (by kernel_rfl) (by kernel_rfl) (fun _ _ _ h => h) (Or.inl ⟨by rfl, ?_⟩) (by assumption) ?_
            rotate_left
            · (intro w hSw; (try dsimp only at hSw); go_simp; (try rw [if_neg (by omega)]); (try (with_reducible rfl)))
            simp only [Act.put, List.setIfInBounds_toArray, List.set_cons_zero, List.set_cons_succ]
            refine take_F (i := 5) (d := some 47) (v := ?_) (by kernel_rfl) (by kernel_rfl) rfl rfl (by kernel_rfl) (by kernel_rfl) (by kernel_rfl) (fun _ _ _ h => h) (Or.inl ⟨by rfl, ?_⟩) (by assumption) ?_
            rotate_left
            · (intro w hSw; (try dsimp only at hSw); go_simp; (try rw [if_neg (by omega)]); (try (with_reducible rfl)))
            simp only [Act.put, List.setIfInBounds_toArray, List.set_cons_zero, List.set_cons_succ]
            refine take_F (i := 6) (d := some 48) (v := ?_) (by kernel_rfl) (by kernel_rfl) rfl rfl (by kernel_rfl) (by kernel_rfl) (by kernel_rfl) (fun _ _ _ h => h) (Or.inl ⟨by rfl, ?_⟩) (by assumption) ?_
            rotate_left
            · (intro w hSw; (try dsimp only at hSw); go_simp; (try rw [if_neg (by omega)]); (try (with_reducible rfl)))
            simp only [Act.put, List.setIfInBounds_toArray, List.set_cons_zero, List.set_cons_succ]
            refine take_L [9,8,7] (i := 7) (d := some 49) (v := ?_) (by kernel_rfl) (by kernel_rfl) (by kernel_rfl) (by kernel_rfl) rfl rfl (by kernel_rfl) (by kernel_rfl) (by kernel_rfl) (fun _ _ _ h => h) (Or.inl ⟨by rfl, ?_⟩) (by assumption) ?_
            rotate_left
            · (intro w hSw; (try dsimp only at hSw); go_simp; (try rw [if_neg (by omega)]); (try (with_reducible rfl)))
            simp only [Act.put, List.setIfInBounds_toArray, List.set_cons_zero, List.set_cons_succ]
            refine take_F (i := 8) (d := some 50) (v := ?_) (by kernel_rfl) (by kernel_rfl) rfl rfl (by kernel_rfl) (by kernel_rfl) (by kernel_rfl) (fun _ _ _ h => h) (Or.inl ⟨by rfl, ?_⟩) (by assumption) ?_
            rotate_left
            · (intro w hSw; (try dsimp only at hSw); go_simp; (try rw [if_neg (by omega)]); (try (with_reducible rfl)))
            simp only [Act.put, List.setIfInBounds_toArray, List.set_cons_zero, List.set_cons_succ]
            refine call_L (i := 9) (d := (some 51)) rfl rfl (by kernel_rfl) (fun Kq hKq => ?_)
            go_simp
            go_at_call 45
            refine (HAr.out _).mono ?_; rintro e w3 ⟨rfl, hb3⟩
            have HP1 := Lib.hid (HPw.out.below (below_undrew hb3))
            have Ht1 := Lib.hid (Ht9.out.below (below_undrew hb3))
            have HW1 := Lib.hid (HW9.out.next (below_undrew hb3))
            obtain ⟨l0, l1, l2, l3, -⟩ := HP1.out.cells
            clear hb3
            (try go_wp2_with fail)
            refine hKq.out _ _ (⟨l0, l1, l2, l3⟩) (fun hHeld => ?_)
            clear hKq Kq
            (try simp only [Act.put, List.setIfInBounds_toArray, List.set_cons_zero, List.set_cons_succ])
            refine take_F (i := 10) (d := some 52) (v := ?_) (by kernel_rfl) (by kernel_rfl) rfl rfl (by kernel_rfl) (by kernel_rfl) (by kernel_rfl) (fun _ _ _ h => h) (Or.inl ⟨by rfl, ?_⟩) (by assumption) ?_
            rotate_left
            · (intro w hSw; (try dsimp only at hSw); go_simp; (try rw [if_neg (by omega)]); (try (with_reducible rfl)))
            simp only [Act.put, List.setIfInBounds_toArray, List.set_cons_zero, List.set_cons_succ]
            refine take_F (i := 11) (d := some 41) (v := ?_) (by kernel_rfl) (by kernel_rfl) rfl rfl (by kernel_rfl) (by kernel_rfl) (by kernel_rfl) (fun _ _ _ h => h) (Or.inl ⟨by rfl, ?_⟩) (by assumption) ?_
            rotate_left
            · (intro w hSw; (try dsimp only at hSw); go_simp; (try rw [if_neg (by omega)]); (try (with_reducible rfl)))
            simp only [Act.put, List.setIfInBounds_toArray, List.set_cons_zero, List.set_cons_succ]
            refine done_L (by kernel_rfl) ?_ _
            refine NoPanic.normal ?_
            go_wp2_with fail
            go_ret
            exact RetRr.no HR.out (by decide) HP1.out.bel
  · have HR := Lib.hid (rwR_not (arg := arg) h3)
    have h3' : ¬ (((splitB 32 line).length : Int) = 3) := by omega
    clear h3 hF
    go_enter Tryd.func68, Tryd.ntmps68
    go_wp2_with fail
    refine (HPt.out _).mono ?_; rintro e w5 ⟨v5, rfl, ho5, hb5⟩
    have HPw := Lib.hid (HP.out.below hb5)
    obtain ⟨A5, c5, rfl⟩ := sl_of_own ho5
    generalize (splitB 32 line).length = m at *
    clear ho5 hb5 HPt
    go_wp2_with fail
    go_ret
    exact RetRr.no HR.out (by decide) HPw.out.bel
end Go.Proofs.YtnhngccfbnnpoaaDoor
