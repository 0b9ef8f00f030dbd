/- Merged texts: Pq5, Pq6, Pq7, Pq8. -/
import Derived.Test.YtepgfcjfdnakbaaDoorGCardPieces5
import Derived.Test.YtepgfcjfdnakbaaDoorGCardPieces4
import Derived.Deep.DeepCutAuto
import Derived.Deep.CutRange
/- Inventories, texts, part 5: l21Text and PiecesText of the reference (gen_pq4.py). -/
namespace Go.Proofs.YtepgfcjfdnakbaaDoor
open Go.RowKit Go.Joins

theorem three_keptP {w w' : World} {g i j k : Nat} {a b c : Value} (hl : g < w.heap.size) (hb : Below w.heap.size w w') (h : w.cell? ⟨g, i, none⟩ = some a ∧ w.cell? ⟨g, j, none⟩ = some b ∧ w.cell? ⟨g, k, none⟩ = some c) : w'.cell? ⟨g, i, none⟩ = some a ∧ w'.cell? ⟨g, j, none⟩ = some b ∧ w'.cell? ⟨g, k, none⟩ = some c :=
  ⟨(hb.cell (p := ⟨g, i, none⟩) hl).trans h.1, (hb.cell (p := ⟨g, j, none⟩) hl).trans h.2.1, (hb.cell (p := ⟨g, k, none⟩) hl).trans h.2.2⟩
/-- a string appended to a row of bytes, at a step of a region -/
theorem step_strP {P : Program} {w : World} {ops : Array Oper} {o : Oper} {a : Act} {K : Act → World → Prop} {Q : Exit → Act → World → Prop} {E : Prop} (t u e : TypeId)
    (ht : P.underlying t = some (.slice e)) (hu : P.underlying u = some .string) (hinfo : (P.info? e).map (fun i => (i.zero, i.size, i.bytes)) = some (some (.int .u8 0), 1, 1))
    (sl x : Operand) (hgd : o.guard = none) (ho : o.op = .call { callee := .builtin .append, args := #[sl, x], argTypes := #[t, u] })
    (base : Nat) (v : Value) (n : Nat) (xs : List Value) (hs : a.eval sl = v) (hown : w.ownsRow base e 1 v n xs) (s : ByteArray) (hx : a.eval x = .string s)
    (h63 : n + s.size ≤ maxLen) (hbytes : n + s.size ≤ 140737488355328) (hbase : base ≤ w.heap.size)
    (h : ∀ v' w', w'.ownsRow base e 1 v' (n + s.size) (xs ++ Lib.strCells s) → w.grownBy w' v.ownBlock → K (a.put o.dst v') w') :
    if Region.wanted o (yielded ops a.tmps) = true then Oper.wp P o a w K Q else E := by
  have hw : Region.wanted o (yielded ops a.tmps) = true := by simp [Region.wanted, hgd]
  rw [if_pos hw]
  obtain ⟨i, hi, hz, h2, h3⟩ := info_parts hinfo
  obtain ⟨v', w', hr, k2, k3, k4⟩ := Lib.run_append_own_string (P := P) w base t u o.type e i ht hu hi hz h2 h3 v n xs hown s h63 hbytes hbase
  unfold Oper.wp execOp
  simp only [ho, resolve, invoke, builtin, Sem.run_bind, Sem.run_pure, Result.andThen_ok, List.map_toArray, List.map_cons, List.map_nil, hs, hx, hr]
  exact h v' w' k2 k3
set_option maxRecDepth 100000 in
set_option maxHeartbeats 3200000 in
theorem l21Text_any (B : Nat) (v : Value) (xs : List Pc) (w : World) (h : RdP w B v xs) (hB : B ≤ w.heap.size) (hn : xs.length ≤ 100000) (hz : szP xs) (hg : GoodP xs) :
    Calls Tryd.prog 65 #[v] w fun e w' => e = .returned (.string (textP xs xs.length)) ∧ Below w.heap.size w w' := by
  have H := Lib.hid h
  have Hz := Lib.hid hz
  obtain ⟨A, c, rfl⟩ := h.slice
  have HS := Lib.hid hg.shp
  have HM := Lib.hid hg.nm
  have ho0 := Lib.hid (World.ownsRow_made (base := w.heap.size) (e := 5) (size := 1) w #[] 0 (Nat.le_refl _) (by simp [maxLen]) rfl)
  have hb0 := Lib.hid ((Below.refl w.heap.size w).alloc (Nat.le_refl _) (.cells #[] 5))
  clear h hz hg
  go_enter Tryd.func65, Tryd.ntmps65
  go_wp2_with fail
  go_loopw [3, 4] (fun o i wr => ∃ (k : Nat), k ≤ xs.length ∧ i = .int .i64 k ∧ (textP xs k).size ≤ k * 2097300 ∧ wr.ownsRow w.heap.size 5 1 o (textP xs k).size ((textP xs k).data.toList.map byV) ∧ Below w.heap.size w wr) (fun _ i _ => xs.length - (intOf i).toNat)
  case atStart => exact ⟨0, Nat.zero_le _, rfl, Nat.le_refl _, ho0.out, hb0.out⟩
  case round =>
    obtain ⟨k, hk, rfl, hsz, hown, hbl⟩ := hrel
    obtain ⟨A3, c3, rfl⟩ := own_sl hown
    clear ho0 hb0
    by_cases hlt : k < xs.length
    · obtain ⟨b1, o1, hA, hE⟩ := (H.out.below (hbl.mono hB)).at k hlt
      subst hA
      have Hown := Lib.hid hown
      have Hbl := Lib.hid hbl
      obtain ⟨hbB, c0, c1, c2, c3'⟩ := hE
      have hlt' : (k : Int) < (xs.length : Int) := by omega
      have hln := lineP_size HS.out (Nat.le_refl _) Hz.out HM.out hlt
      obtain ⟨m1, m2⟩ := HM.out k hlt
      have hof := ofP_size HS.out (Nat.le_refl _) Hz.out hlt
      have hnz := Hz.out k hlt
      have hp := HS.out.par_in hlt
      have Hst := Lib.hid (show textP xs (k + 1) = textP xs k ++ ((pg xs k).name ++ ⟨#[32]⟩ ++ ofP xs k ++ ⟨#[32]⟩ ++ decS (pg xs k).each ++ ⟨#[32]⟩ ++ decS (pg xs k).price ++ ⟨#[10]⟩) from rfl)
      have HA := Lib.hid (fun wx => l01Dec_any (pg xs k).each wx (by omega) (by omega))
      have HBd := Lib.hid (fun wx => l01Dec_any (pg xs k).price wx (by omega) (by omega))
      have s1 := decS_size (pg xs k).each (by omega) (by omega)
      have s2 := decS_size (pg xs k).price (by omega) (by omega)
      obtain ⟨p1, p2, p3, p4, p5, p6, p7⟩ := lineP_sizes hnz hof s1 s2
      have hsz2 : (textP xs (k + 1)).size ≤ (k + 1) * 2097300 := textP_size HS.out (Nat.le_refl _) Hz.out HM.out (k + 1) (by omega)
      have Hof := Lib.hid (show ofP xs k = if (pg xs k).par < 0 then ⟨#[45]⟩ else (pg xs (pg xs k).par.toNat).name from rfl)
      obtain ⟨T', hT'⟩ : ∃ z, textP xs (k + 1) = z := ⟨_, rfl⟩
      rw [hT'] at hsz2 Hst
      have HT := Lib.hid hT'
      clear hT' hln m1 m2
      generalize textP xs k = T at *
      generalize ofP xs k = O at *
      generalize (pg xs k).name = a0 at *
      generalize decS (pg xs k).each = d0 at *
      generalize decS (pg xs k).price = e0 at *
      generalize (pg xs k).each = f0 at *
      generalize (pg xs k).price = t0 at *
      have hk1000 : k ≤ 100000 := by omega
      have hjs : (a0 ++ ⟨#[32]⟩ ++ O ++ ⟨#[32]⟩ ++ d0 ++ ⟨#[32]⟩ ++ e0 ++ ⟨#[10]⟩ : ByteArray).size ≤ 2097300 := by rw [p7]; omega
      have hTm : T.size + (a0 ++ ⟨#[32]⟩ ++ O ++ ⟨#[32]⟩ ++ d0 ++ ⟨#[32]⟩ ++ e0 ++ ⟨#[10]⟩ : ByteArray).size ≤ maxLen := by simp only [maxLen]; omega
      have hTs : T.size + (a0 ++ ⟨#[32]⟩ ++ O ++ ⟨#[32]⟩ ++ d0 ++ ⟨#[32]⟩ ++ e0 ++ ⟨#[10]⟩ : ByteArray).size ≤ 140737488355328 := by omega
      have Hfin := Lib.hid (show ∀ (o : Value) (wq : World), wq.ownsRow w.heap.size 5 1 o (T.size + (a0 ++ ⟨#[32]⟩ ++ O ++ ⟨#[32]⟩ ++ d0 ++ ⟨#[32]⟩ ++ e0 ++ ⟨#[10]⟩ : ByteArray).size) (T.data.toList.map byV ++ Lib.strCells (a0 ++ ⟨#[32]⟩ ++ O ++ ⟨#[32]⟩ ++ d0 ++ ⟨#[32]⟩ ++ e0 ++ ⟨#[10]⟩)) → wq.ownsRow w.heap.size 5 1 o T'.size (T'.data.toList.map byV) from fun o wq hq => by
        rw [Hst.out, ByteArray.size_append]
        have e : (T ++ (a0 ++ ⟨#[32]⟩ ++ O ++ ⟨#[32]⟩ ++ d0 ++ ⟨#[32]⟩ ++ e0 ++ ⟨#[10]⟩)).data.toList.map byV = T.data.toList.map byV ++ Lib.strCells (a0 ++ ⟨#[32]⟩ ++ O ++ ⟨#[32]⟩ ++ d0 ++ ⟨#[32]⟩ ++ e0 ++ ⟨#[10]⟩) := by
          rw [ByteArray.data_append, Array.toList_append, List.map_append]; rfl
        rw [e]; exact hq)
      have hacc : Below w.heap.size w wr.drew := hbl.drew
      have hac2 : Below wr.heap.size wr wr.drew := (Below.refl _ _).drew
      have hbw : b1 < wr.heap.size := Nat.lt_of_lt_of_le hbB (Nat.le_trans hB hbl.size)
      clear hown
      by_cases hpn : (pg xs k).par < 0
      · have hof2 := Hof.out
        rw [if_pos hpn] at hof2
        subst hof2
        have hk0 : k = 0 := by
          by_cases h0 : k = 0
          · exact h0
          · have := HS.out.par k (by omega) hlt
            omega
        have hkz : ¬ ((0 : Int) < (k : Int)) := by omega
        clear hpn hp Hof hbl hk0
        go_upto_region 9 with (fail)
        refine wp_region_noPanic ?_
        refine wp_region_L [24,23] (fun w' => w'.cell? ⟨b1, o1 + k * 4, none⟩ = some (.string a0) ∧ w'.cell? ⟨b1, o1 + k * 4 + 2, none⟩ = some (.int .i64 f0) ∧ w'.cell? ⟨b1, o1 + k * 4 + 3, none⟩ = some (.int .i64 t0)) (by kernel_rfl) (⟨c0, c2, c3'⟩) (fun hHeld => ?_)
        refine take_F (i := 0) (d := some 27) (v := ?_) (by kernel_rfl) (by kernel_rfl) rfl rfl (by kernel_rfl) (by kernel_rfl) (by kernel_rfl) (fun _ _ _ h => h) (Or.inl ⟨by rfl, ?_⟩) (by assumption) ?_
        rotate_left
        · (intro w hSw; (try dsimp only at hSw); go_simp; (try rw [if_neg (by omega)]); (try (with_reducible rfl)))
        simp only [Act.put, List.setIfInBounds_toArray, List.set_cons_zero, List.set_cons_succ]
        refine take_F (i := 1) (d := some 28) (v := ?_) (by kernel_rfl) (by kernel_rfl) rfl rfl (by kernel_rfl) (by kernel_rfl) (by kernel_rfl) (fun _ _ _ h => h) (Or.inl ⟨by rfl, ?_⟩) (by assumption) ?_
        rotate_left
        · (intro w hSw; (try dsimp only at hSw); go_simp; (try rw [if_neg (by omega)]); (try (with_reducible rfl)))
        simp only [Act.put, List.setIfInBounds_toArray, List.set_cons_zero, List.set_cons_succ]
        refine take_F (i := 2) (d := some 29) (v := ?_) (by kernel_rfl) (by kernel_rfl) rfl rfl (by kernel_rfl) (by kernel_rfl) (by kernel_rfl) (fun _ _ _ h => h) (Or.inl ⟨by rfl, ?_⟩) (by assumption) ?_
        rotate_left
        · (intro w hSw; (try dsimp only at hSw); go_simp; (try rw [if_neg (by omega)]); (try (with_reducible rfl)))
        simp only [Act.put, List.setIfInBounds_toArray, List.set_cons_zero, List.set_cons_succ]
        refine take_F (i := 3) (d := some 30) (v := ?_) (by kernel_rfl) (by kernel_rfl) rfl rfl (by kernel_rfl) (by kernel_rfl) (by kernel_rfl) (fun _ _ _ h => h) (Or.inl ⟨by rfl, ?_⟩) (by assumption) ?_
        rotate_left
        · (intro w hSw; (try dsimp only at hSw); go_simp; (try rw [if_neg (by omega)]); (try (with_reducible rfl)))
        simp only [Act.put, List.setIfInBounds_toArray, List.set_cons_zero, List.set_cons_succ]
        refine take_L [22,21,15,14,8,7,5,4] (i := 4) (d := some 31) (v := ?_) (by kernel_rfl) (by kernel_rfl) (by kernel_rfl) (by kernel_rfl) rfl rfl (by kernel_rfl) (by kernel_rfl) (by kernel_rfl) (fun _ _ _ h => h) (Or.inl ⟨by rfl, ?_⟩) (by assumption) ?_
        rotate_left
        · (intro w hSw; (try dsimp only at hSw); go_simp; (try rw [if_neg (by omega)]); (try (with_reducible rfl)))
        simp only [Act.put, List.setIfInBounds_toArray, List.set_cons_zero, List.set_cons_succ]
        refine take_F (i := 5) (d := some 32) (v := ?_) (by kernel_rfl) (by kernel_rfl) rfl rfl (by kernel_rfl) (by kernel_rfl) (by kernel_rfl) (fun _ _ _ h => h) (Or.inl ⟨by rfl, ?_⟩) (by assumption) ?_
        rotate_left
        · (intro w hSw; (try dsimp only at hSw); go_simp; (try rw [if_neg (by omega)]); (try (with_reducible rfl)))
        simp only [Act.put, List.setIfInBounds_toArray, List.set_cons_zero, List.set_cons_succ]
        refine take_F (i := 6) (d := some 33) (v := ?_) (by kernel_rfl) (by kernel_rfl) rfl rfl (by kernel_rfl) (by kernel_rfl) (by kernel_rfl) (fun _ _ _ h => h) (Or.inl ⟨by rfl, ?_⟩) (by assumption) ?_
        rotate_left
        · (intro w hSw; (try dsimp only at hSw); go_simp; (try rw [if_neg (by omega)]); (try (with_reducible rfl)))
        simp only [Act.put, List.setIfInBounds_toArray, List.set_cons_zero, List.set_cons_succ]
        refine take_F (i := 7) (d := some 34) (v := ?_) (by kernel_rfl) (by kernel_rfl) rfl rfl (by kernel_rfl) (by kernel_rfl) (by kernel_rfl) (fun _ _ _ h => h) (Or.inl ⟨by rfl, ?_⟩) (by assumption) ?_
        rotate_left
        · (intro w hSw; (try dsimp only at hSw); go_simp; (try rw [if_neg (by omega)]); (try (with_reducible rfl)))
        simp only [Act.put, List.setIfInBounds_toArray, List.set_cons_zero, List.set_cons_succ]
        refine take_F (i := 8) (d := some 35) (v := ?_) (by kernel_rfl) (by kernel_rfl) rfl rfl (by kernel_rfl) (by kernel_rfl) (by kernel_rfl) (fun _ _ _ h => h) (Or.inl ⟨by rfl, ?_⟩) (by assumption) ?_
        rotate_left
        · (intro w hSw; (try dsimp only at hSw); go_simp; (try rw [if_neg (by omega)]); (try (with_reducible rfl)))
        simp only [Act.put, List.setIfInBounds_toArray, List.set_cons_zero, List.set_cons_succ]
        refine take_F (i := 9) (d := some 36) (v := ?_) (by kernel_rfl) (by kernel_rfl) rfl rfl (by kernel_rfl) (by kernel_rfl) (by kernel_rfl) (fun _ _ _ h => h) (Or.inl ⟨by rfl, ?_⟩) (by assumption) ?_
        rotate_left
        · (intro w hSw; (try dsimp only at hSw); go_simp; (try rw [if_neg (by omega)]); (try (with_reducible rfl)))
        simp only [Act.put, List.setIfInBounds_toArray, List.set_cons_zero, List.set_cons_succ]
        refine take_F (i := 10) (d := some 37) (v := ?_) (by kernel_rfl) (by kernel_rfl) rfl rfl (by kernel_rfl) (by kernel_rfl) (by kernel_rfl) (fun _ _ _ h => h) (Or.inl ⟨by rfl, ?_⟩) (by assumption) ?_
        rotate_left
        · (intro w hSw; (try dsimp only at hSw); go_simp; (try rw [if_neg (by omega)]); (try (with_reducible rfl)))
        simp only [Act.put, List.setIfInBounds_toArray, List.set_cons_zero, List.set_cons_succ]
        refine take_F (i := 11) (d := some 38) (v := ?_) (by kernel_rfl) (by kernel_rfl) rfl rfl (by kernel_rfl) (by kernel_rfl) (by kernel_rfl) (fun _ _ _ h => h) (Or.inl ⟨by rfl, ?_⟩) (by assumption) ?_
        rotate_left
        · (intro w hSw; (try dsimp only at hSw); go_simp; (try rw [if_neg (by omega)]); (try (with_reducible rfl)))
        simp only [Act.put, List.setIfInBounds_toArray, List.set_cons_zero, List.set_cons_succ]
        refine take_L [20,13,12] (i := 12) (d := some 39) (v := ?_) (by kernel_rfl) (by kernel_rfl) (by kernel_rfl) (by kernel_rfl) rfl rfl (by kernel_rfl) (by kernel_rfl) (by kernel_rfl) (fun _ _ _ h => h) (Or.inl ⟨by rfl, ?_⟩) (by assumption) ?_
        rotate_left
        · (intro w hSw; (try dsimp only at hSw); go_simp; (try rw [if_neg (by omega)]); (try (with_reducible rfl)))
        simp only [Act.put, List.setIfInBounds_toArray, List.set_cons_zero, List.set_cons_succ]
        refine take_F (i := 16) (d := some 43) (v := ?_) (by kernel_rfl) (by kernel_rfl) rfl rfl (by kernel_rfl) (by kernel_rfl) (by kernel_rfl) (fun _ _ _ h => h) (Or.inl ⟨by rfl, ?_⟩) (by assumption) ?_
        rotate_left
        · (intro w hSw; (try dsimp only at hSw); go_simp; (try rw [if_neg (by omega)]); (try (with_reducible rfl)))
        simp only [Act.put, List.setIfInBounds_toArray, List.set_cons_zero, List.set_cons_succ]
        refine take_F (i := 17) (d := some 44) (v := ?_) (by kernel_rfl) (by kernel_rfl) rfl rfl (by kernel_rfl) (by kernel_rfl) (by kernel_rfl) (fun _ _ _ h => h) (Or.inl ⟨by rfl, ?_⟩) (by assumption) ?_
        rotate_left
        · (intro w hSw; (try dsimp only at hSw); go_simp; (try rw [if_neg (by omega)]); (try (with_reducible rfl)))
        simp only [Act.put, List.setIfInBounds_toArray, List.set_cons_zero, List.set_cons_succ]
        refine take_F (i := 18) (d := some 45) (v := ?_) (by kernel_rfl) (by kernel_rfl) rfl rfl (by kernel_rfl) (by kernel_rfl) (by kernel_rfl) (fun _ _ _ h => h) (Or.inl ⟨by rfl, ?_⟩) (by assumption) ?_
        rotate_left
        · (intro w hSw; (try dsimp only at hSw); go_simp; (try rw [if_neg (by omega)]); (try (with_reducible rfl)))
        simp only [Act.put, List.setIfInBounds_toArray, List.set_cons_zero, List.set_cons_succ]
        refine take_L [20,19] (i := 19) (d := some 46) (v := ?_) (by kernel_rfl) (by kernel_rfl) (by kernel_rfl) (by kernel_rfl) rfl rfl (by kernel_rfl) (by kernel_rfl) (by kernel_rfl) (fun _ _ _ h => h) (Or.inl ⟨by rfl, ?_⟩) (by assumption) ?_
        rotate_left
        · (intro w hSw; (try dsimp only at hSw); go_simp; (try rw [if_neg (by omega)]); (try (with_reducible rfl)))
        simp only [Act.put, List.setIfInBounds_toArray, List.set_cons_zero, List.set_cons_succ]
        refine call_L (i := 13) (d := (some 40)) rfl rfl (by kernel_rfl) (fun Kq hKq => ?_)
        go_simp
        go_at_call 95
        refine (HA.out _).mono ?_; rintro e w5 ⟨rfl, hb5⟩
        have hS5 := three_keptP (w := wr.drew) hbw hb5 ⟨c0, c2, c3'⟩
        have hz5 := hb5.size
        have hacc5 := hacc.trans (hb5.mono hacc.size)
        have hac5 := hac2.trans (hb5.mono hac2.size)
        clear hacc hac2 hb5
        (try go_wp2_with fail)
        refine hKq.out _ _ (hS5) (fun hHeld => ?_)
        clear hKq Kq
        (try simp only [Act.put, List.setIfInBounds_toArray, List.set_cons_zero, List.set_cons_succ])
        refine take_F (i := 14) (d := some 41) (v := ?_) (by kernel_rfl) (by kernel_rfl) rfl rfl (by kernel_rfl) (by kernel_rfl) (by kernel_rfl) (fun _ _ _ h => h) (Or.inl ⟨by rfl, ?_⟩) (by assumption) ?_
        rotate_left
        · (intro w hSw; (try dsimp only at hSw); go_simp; (try rw [if_neg (by omega)]); (try (with_reducible rfl)))
        simp only [Act.put, List.setIfInBounds_toArray, List.set_cons_zero, List.set_cons_succ]
        refine take_F (i := 15) (d := some 42) (v := ?_) (by kernel_rfl) (by kernel_rfl) rfl rfl (by kernel_rfl) (by kernel_rfl) (by kernel_rfl) (fun _ _ _ h => h) (Or.inl ⟨by rfl, ?_⟩) (by assumption) ?_
        rotate_left
        · (intro w hSw; (try dsimp only at hSw); go_simp; (try rw [if_neg (by omega)]); (try (with_reducible rfl)))
        simp only [Act.put, List.setIfInBounds_toArray, List.set_cons_zero, List.set_cons_succ]
        refine call_L (i := 20) (d := (some 47)) rfl rfl (by kernel_rfl) (fun Kq hKq => ?_)
        go_simp
        go_at_call 95
        refine (HBd.out _).mono ?_; rintro e w6 ⟨rfl, hb6⟩
        have hS6 := three_keptP (Nat.lt_of_lt_of_le hbw hz5) hb6 hS5
        have hacc := hacc5.trans (hb6.mono hacc5.size)
        have hac2 := hac5.trans (hb6.mono hac5.size)
        clear hacc5 hac5 hb6
        (try go_wp2_with fail)
        refine hKq.out _ _ (hS6) (fun hHeld => ?_)
        clear hKq Kq
        (try simp only [Act.put, List.setIfInBounds_toArray, List.set_cons_zero, List.set_cons_succ])
        refine take_F (i := 21) (d := some 48) (v := ?_) (by kernel_rfl) (by kernel_rfl) rfl rfl (by kernel_rfl) (by kernel_rfl) (by kernel_rfl) (fun _ _ _ h => h) (Or.inl ⟨by rfl, ?_⟩) (by assumption) ?_
        rotate_left
        · (intro w hSw; (try dsimp only at hSw); go_simp; (try rw [if_neg (by omega)]); (try (with_reducible rfl)))
        simp only [Act.put, List.setIfInBounds_toArray, List.set_cons_zero, List.set_cons_succ]
        refine take_F (i := 22) (d := some 49) (v := ?_) (by kernel_rfl) (by kernel_rfl) rfl rfl (by kernel_rfl) (by kernel_rfl) (by kernel_rfl) (fun _ _ _ h => h) (Or.inl ⟨by rfl, ?_⟩) (by assumption) ?_
        rotate_left
        · (intro w hSw; (try dsimp only at hSw); go_simp; (try rw [if_neg (by omega)]); (try (with_reducible rfl)))
        simp only [Act.put, List.setIfInBounds_toArray, List.set_cons_zero, List.set_cons_succ]
        refine late_L (i := 23) (d := (some 50)) (by kernel_rfl) rfl rfl (by kernel_rfl) (fun Kq hKq => ?_)
        refine step_strP 22 9 5 Tryd.underlying22 Tryd.underlying9 infoB' _ _ (by rfl) (by rfl) w.heap.size _ T.size _ (by rfl) (own_below Hown.out hac2) _ (by rfl) hTm hTs hacc.size ?_; intro v' w1 hown1 hg1
        refine hKq.out _ _ ?_
        clear hKq Kq
        simp only [Act.put, List.setIfInBounds_toArray]
        refine late_L (i := 24) (d := (some 3)) (by kernel_rfl) rfl rfl (by kernel_rfl) (fun Kq hKq => ?_)
        go_simp
        refine hKq.out _ _ ?_
        clear hKq Kq
        refine done_L (by kernel_rfl) ?_ _
        refine NoPanic.normal ?_
        have Hb1 := Lib.hid (below_apd hacc (own_below Hown.out hac2) hg1 (Nat.le_refl _) hacc.size)
        have Ho1 := Lib.hid (Hfin.out _ _ hown1)
        clear hacc hac2 hown1 hg1 p1 p2 p3 p4 p5 p6 p7 hTm hTs hjs c0 c1 c2 c3' hS5 hS6
        go_wp2_with fail
        go_roundw
        case rel => exact ⟨k + 1, by omega, by go_num, by rw [HT.out]; exact hsz2, by rw [HT.out]; exact Ho1.out, Hb1.out⟩
        case measure => simp [intOf]; omega
      · have hof2 := Hof.out
        rw [if_neg hpn] at hof2
        obtain ⟨p, hpp⟩ : ∃ p : Nat, (pg xs k).par = (p : Int) := ⟨(pg xs k).par.toNat, by omega⟩
        rw [hpp, Int.toNat_natCast] at hof2
        rw [hpp] at hp
        obtain ⟨b2, o2, hA2, hE2⟩ := (H.out.below (Hbl.out.mono hB)).at p (by omega)
        have q0 := hE2.c0
        obtain ⟨rfl, rfl⟩ := adr_inj hA2
        rw [← hof2] at q0
        rw [hpp] at c1
        have hpl : (p : Int) < (xs.length : Int) := by omega
        have hk0 : (0 : Int) < (k : Int) := by omega
        clear hpn hpp Hof hbl hE2 hof2
        go_upto_region 9 with (fail)
        refine wp_region_noPanic ?_
        refine wp_region_L [24,23] (fun w' => w'.cell? ⟨b1, o1 + k * 4, none⟩ = some (.string a0) ∧ w'.cell? ⟨b1, o1 + k * 4 + 2, none⟩ = some (.int .i64 f0) ∧ w'.cell? ⟨b1, o1 + k * 4 + 3, none⟩ = some (.int .i64 t0)) (by kernel_rfl) (⟨c0, c2, c3'⟩) (fun hHeld => ?_)
        refine take_F (i := 0) (d := some 27) (v := ?_) (by kernel_rfl) (by kernel_rfl) rfl rfl (by kernel_rfl) (by kernel_rfl) (by kernel_rfl) (fun _ _ _ h => h) (Or.inl ⟨by rfl, ?_⟩) (by assumption) ?_
        rotate_left
        · (intro w hSw; (try dsimp only at hSw); go_simp; (try rw [if_neg (by omega)]); (try (with_reducible rfl)))
        simp only [Act.put, List.setIfInBounds_toArray, List.set_cons_zero, List.set_cons_succ]
        refine take_F (i := 1) (d := some 28) (v := ?_) (by kernel_rfl) (by kernel_rfl) rfl rfl (by kernel_rfl) (by kernel_rfl) (by kernel_rfl) (fun _ _ _ h => h) (Or.inl ⟨by rfl, ?_⟩) (by assumption) ?_
        rotate_left
        · (intro w hSw; (try dsimp only at hSw); go_simp; (try rw [if_neg (by omega)]); (try (with_reducible rfl)))
        simp only [Act.put, List.setIfInBounds_toArray, List.set_cons_zero, List.set_cons_succ]
        refine take_F (i := 2) (d := some 29) (v := ?_) (by kernel_rfl) (by kernel_rfl) rfl rfl (by kernel_rfl) (by kernel_rfl) (by kernel_rfl) (fun _ _ _ h => h) (Or.inl ⟨by rfl, ?_⟩) (by assumption) ?_
        rotate_left
        · (intro w hSw; (try dsimp only at hSw); go_simp; (try rw [if_neg (by omega)]); (try (with_reducible rfl)))
        simp only [Act.put, List.setIfInBounds_toArray, List.set_cons_zero, List.set_cons_succ]
        refine take_F (i := 3) (d := some 30) (v := ?_) (by kernel_rfl) (by kernel_rfl) rfl rfl (by kernel_rfl) (by kernel_rfl) (by kernel_rfl) (fun _ _ _ h => h) (Or.inl ⟨by rfl, ?_⟩) (by assumption) ?_
        rotate_left
        · (intro w hSw; (try dsimp only at hSw); go_simp; (try rw [if_neg (by omega)]); (try (with_reducible rfl)))
        simp only [Act.put, List.setIfInBounds_toArray, List.set_cons_zero, List.set_cons_succ]
        refine take_L [22,21,15,14,8,7,5,4] (i := 4) (d := some 31) (v := ?_) (by kernel_rfl) (by kernel_rfl) (by kernel_rfl) (by kernel_rfl) rfl rfl (by kernel_rfl) (by kernel_rfl) (by kernel_rfl) (fun _ _ _ h => h) (Or.inl ⟨by rfl, ?_⟩) (by assumption) ?_
        rotate_left
        · (intro w hSw; (try dsimp only at hSw); go_simp; (try rw [if_neg (by omega)]); (try (with_reducible rfl)))
        simp only [Act.put, List.setIfInBounds_toArray, List.set_cons_zero, List.set_cons_succ]
        refine take_F (i := 5) (d := some 32) (v := ?_) (by kernel_rfl) (by kernel_rfl) rfl rfl (by kernel_rfl) (by kernel_rfl) (by kernel_rfl) (fun _ _ _ h => h) (Or.inl ⟨by rfl, ?_⟩) (by assumption) ?_
        rotate_left
        · (intro w hSw; (try dsimp only at hSw); go_simp; (try rw [if_neg (by omega)]); (try (with_reducible rfl)))
        simp only [Act.put, List.setIfInBounds_toArray, List.set_cons_zero, List.set_cons_succ]
        refine take_F (i := 6) (d := some 33) (v := ?_) (by kernel_rfl) (by kernel_rfl) rfl rfl (by kernel_rfl) (by kernel_rfl) (by kernel_rfl) (fun _ _ _ h => h) (Or.inl ⟨by rfl, ?_⟩) (by assumption) ?_
        rotate_left
        · (intro w hSw; (try dsimp only at hSw); go_simp; (try rw [if_neg (by omega)]); (try (with_reducible rfl)))
        simp only [Act.put, List.setIfInBounds_toArray, List.set_cons_zero, List.set_cons_succ]
        refine take_F (i := 7) (d := some 34) (v := ?_) (by kernel_rfl) (by kernel_rfl) rfl rfl (by kernel_rfl) (by kernel_rfl) (by kernel_rfl) (fun _ _ _ h => h) (Or.inl ⟨by rfl, ?_⟩) (by assumption) ?_
        rotate_left
        · (intro w hSw; (try dsimp only at hSw); go_simp; (try rw [if_neg (by omega)]); (try (with_reducible rfl)))
        simp only [Act.put, List.setIfInBounds_toArray, List.set_cons_zero, List.set_cons_succ]
        refine take_F (i := 8) (d := some 35) (v := ?_) (by kernel_rfl) (by kernel_rfl) rfl rfl (by kernel_rfl) (by kernel_rfl) (by kernel_rfl) (fun _ _ _ h => h) (Or.inl ⟨by rfl, ?_⟩) (by assumption) ?_
        rotate_left
        · (intro w hSw; (try dsimp only at hSw); go_simp; (try rw [if_neg (by omega)]); (try (with_reducible rfl)))
        simp only [Act.put, List.setIfInBounds_toArray, List.set_cons_zero, List.set_cons_succ]
        refine take_F (i := 9) (d := some 36) (v := ?_) (by kernel_rfl) (by kernel_rfl) rfl rfl (by kernel_rfl) (by kernel_rfl) (by kernel_rfl) (fun _ _ _ h => h) (Or.inl ⟨by rfl, ?_⟩) (by assumption) ?_
        rotate_left
        · (intro w hSw; (try dsimp only at hSw); go_simp; (try rw [if_neg (by omega)]); (try (with_reducible rfl)))
        simp only [Act.put, List.setIfInBounds_toArray, List.set_cons_zero, List.set_cons_succ]
        refine take_F (i := 10) (d := some 37) (v := ?_) (by kernel_rfl) (by kernel_rfl) rfl rfl (by kernel_rfl) (by kernel_rfl) (by kernel_rfl) (fun _ _ _ h => h) (Or.inl ⟨by rfl, ?_⟩) (by assumption) ?_
        rotate_left
        · (intro w hSw; (try dsimp only at hSw); go_simp; (try rw [if_neg (by omega)]); (try (with_reducible rfl)))
        simp only [Act.put, List.setIfInBounds_toArray, List.set_cons_zero, List.set_cons_succ]
        refine take_F (i := 11) (d := some 38) (v := ?_) (by kernel_rfl) (by kernel_rfl) rfl rfl (by kernel_rfl) (by kernel_rfl) (by kernel_rfl) (fun _ _ _ h => h) (Or.inl ⟨by rfl, ?_⟩) (by assumption) ?_
        rotate_left
        · (intro w hSw; (try dsimp only at hSw); go_simp; (try rw [if_neg (by omega)]); (try (with_reducible rfl)))
        simp only [Act.put, List.setIfInBounds_toArray, List.set_cons_zero, List.set_cons_succ]
        refine take_L [20,13,12] (i := 12) (d := some 39) (v := ?_) (by kernel_rfl) (by kernel_rfl) (by kernel_rfl) (by kernel_rfl) rfl rfl (by kernel_rfl) (by kernel_rfl) (by kernel_rfl) (fun _ _ _ h => h) (Or.inl ⟨by rfl, ?_⟩) (by assumption) ?_
        rotate_left
        · (intro w hSw; (try dsimp only at hSw); go_simp; (try rw [if_neg (by omega)]); (try (with_reducible rfl)))
        simp only [Act.put, List.setIfInBounds_toArray, List.set_cons_zero, List.set_cons_succ]
        refine take_F (i := 16) (d := some 43) (v := ?_) (by kernel_rfl) (by kernel_rfl) rfl rfl (by kernel_rfl) (by kernel_rfl) (by kernel_rfl) (fun _ _ _ h => h) (Or.inl ⟨by rfl, ?_⟩) (by assumption) ?_
        rotate_left
        · (intro w hSw; (try dsimp only at hSw); go_simp; (try rw [if_neg (by omega)]); (try (with_reducible rfl)))
        simp only [Act.put, List.setIfInBounds_toArray, List.set_cons_zero, List.set_cons_succ]
        refine take_F (i := 17) (d := some 44) (v := ?_) (by kernel_rfl) (by kernel_rfl) rfl rfl (by kernel_rfl) (by kernel_rfl) (by kernel_rfl) (fun _ _ _ h => h) (Or.inl ⟨by rfl, ?_⟩) (by assumption) ?_
        rotate_left
        · (intro w hSw; (try dsimp only at hSw); go_simp; (try rw [if_neg (by omega)]); (try (with_reducible rfl)))
        simp only [Act.put, List.setIfInBounds_toArray, List.set_cons_zero, List.set_cons_succ]
        refine take_F (i := 18) (d := some 45) (v := ?_) (by kernel_rfl) (by kernel_rfl) rfl rfl (by kernel_rfl) (by kernel_rfl) (by kernel_rfl) (fun _ _ _ h => h) (Or.inl ⟨by rfl, ?_⟩) (by assumption) ?_
        rotate_left
        · (intro w hSw; (try dsimp only at hSw); go_simp; (try rw [if_neg (by omega)]); (try (with_reducible rfl)))
        simp only [Act.put, List.setIfInBounds_toArray, List.set_cons_zero, List.set_cons_succ]
        refine take_L [20,19] (i := 19) (d := some 46) (v := ?_) (by kernel_rfl) (by kernel_rfl) (by kernel_rfl) (by kernel_rfl) rfl rfl (by kernel_rfl) (by kernel_rfl) (by kernel_rfl) (fun _ _ _ h => h) (Or.inl ⟨by rfl, ?_⟩) (by assumption) ?_
        rotate_left
        · (intro w hSw; (try dsimp only at hSw); go_simp; (try rw [if_neg (by omega)]); (try (with_reducible rfl)))
        simp only [Act.put, List.setIfInBounds_toArray, List.set_cons_zero, List.set_cons_succ]
        refine call_L (i := 13) (d := (some 40)) rfl rfl (by kernel_rfl) (fun Kq hKq => ?_)
        go_simp
        go_at_call 95
        refine (HA.out _).mono ?_; rintro e w5 ⟨rfl, hb5⟩
        have hS5 := three_keptP (w := wr.drew) hbw hb5 ⟨c0, c2, c3'⟩
        have hz5 := hb5.size
        have hacc5 := hacc.trans (hb5.mono hacc.size)
        have hac5 := hac2.trans (hb5.mono hac2.size)
        clear hacc hac2 hb5
        (try go_wp2_with fail)
        refine hKq.out _ _ (hS5) (fun hHeld => ?_)
        clear hKq Kq
        (try simp only [Act.put, List.setIfInBounds_toArray, List.set_cons_zero, List.set_cons_succ])
        refine take_F (i := 14) (d := some 41) (v := ?_) (by kernel_rfl) (by kernel_rfl) rfl rfl (by kernel_rfl) (by kernel_rfl) (by kernel_rfl) (fun _ _ _ h => h) (Or.inl ⟨by rfl, ?_⟩) (by assumption) ?_
        rotate_left
        · (intro w hSw; (try dsimp only at hSw); go_simp; (try rw [if_neg (by omega)]); (try (with_reducible rfl)))
        simp only [Act.put, List.setIfInBounds_toArray, List.set_cons_zero, List.set_cons_succ]
        refine take_F (i := 15) (d := some 42) (v := ?_) (by kernel_rfl) (by kernel_rfl) rfl rfl (by kernel_rfl) (by kernel_rfl) (by kernel_rfl) (fun _ _ _ h => h) (Or.inl ⟨by rfl, ?_⟩) (by assumption) ?_
        rotate_left
        · (intro w hSw; (try dsimp only at hSw); go_simp; (try rw [if_neg (by omega)]); (try (with_reducible rfl)))
        simp only [Act.put, List.setIfInBounds_toArray, List.set_cons_zero, List.set_cons_succ]
        refine call_L (i := 20) (d := (some 47)) rfl rfl (by kernel_rfl) (fun Kq hKq => ?_)
        go_simp
        go_at_call 95
        refine (HBd.out _).mono ?_; rintro e w6 ⟨rfl, hb6⟩
        have hS6 := three_keptP (Nat.lt_of_lt_of_le hbw hz5) hb6 hS5
        have hacc := hacc5.trans (hb6.mono hacc5.size)
        have hac2 := hac5.trans (hb6.mono hac5.size)
        clear hacc5 hac5 hb6
        (try go_wp2_with fail)
        refine hKq.out _ _ (hS6) (fun hHeld => ?_)
        clear hKq Kq
        (try simp only [Act.put, List.setIfInBounds_toArray, List.set_cons_zero, List.set_cons_succ])
        refine take_F (i := 21) (d := some 48) (v := ?_) (by kernel_rfl) (by kernel_rfl) rfl rfl (by kernel_rfl) (by kernel_rfl) (by kernel_rfl) (fun _ _ _ h => h) (Or.inl ⟨by rfl, ?_⟩) (by assumption) ?_
        rotate_left
        · (intro w hSw; (try dsimp only at hSw); go_simp; (try rw [if_neg (by omega)]); (try (with_reducible rfl)))
        simp only [Act.put, List.setIfInBounds_toArray, List.set_cons_zero, List.set_cons_succ]
        refine take_F (i := 22) (d := some 49) (v := ?_) (by kernel_rfl) (by kernel_rfl) rfl rfl (by kernel_rfl) (by kernel_rfl) (by kernel_rfl) (fun _ _ _ h => h) (Or.inl ⟨by rfl, ?_⟩) (by assumption) ?_
        rotate_left
        · (intro w hSw; (try dsimp only at hSw); go_simp; (try rw [if_neg (by omega)]); (try (with_reducible rfl)))
        simp only [Act.put, List.setIfInBounds_toArray, List.set_cons_zero, List.set_cons_succ]
        refine late_L (i := 23) (d := (some 50)) (by kernel_rfl) rfl rfl (by kernel_rfl) (fun Kq hKq => ?_)
        refine step_strP 22 9 5 Tryd.underlying22 Tryd.underlying9 infoB' _ _ (by rfl) (by rfl) w.heap.size _ T.size _ (by rfl) (own_below Hown.out hac2) _ (by rfl) hTm hTs hacc.size ?_; intro v' w1 hown1 hg1
        refine hKq.out _ _ ?_
        clear hKq Kq
        simp only [Act.put, List.setIfInBounds_toArray]
        refine late_L (i := 24) (d := (some 3)) (by kernel_rfl) rfl rfl (by kernel_rfl) (fun Kq hKq => ?_)
        go_simp
        refine hKq.out _ _ ?_
        clear hKq Kq
        refine done_L (by kernel_rfl) ?_ _
        refine NoPanic.normal ?_
        have Hb1 := Lib.hid (below_apd hacc (own_below Hown.out hac2) hg1 (Nat.le_refl _) hacc.size)
        have Ho1 := Lib.hid (Hfin.out _ _ hown1)
        clear hacc hac2 hown1 hg1 p1 p2 p3 p4 p5 p6 p7 hTm hTs hjs c0 c1 c2 c3' hS5 hS6
        go_wp2_with fail
        go_roundw
        case rel => exact ⟨k + 1, by omega, by go_num, by rw [HT.out]; exact hsz2, by rw [HT.out]; exact Ho1.out, Hb1.out⟩
        case measure => simp [intOf]; omega
    · have hkn : k = xs.length := by omega
      subst hkn
      have hlt' : ¬ ((xs.length : Int) < (xs.length : Int)) := by omega
      have hconv := run_conv_own (P := Tryd.prog) 22 9 5 Tryd.underlying22 Tryd.underlying5 Tryd.underlying9 _ _ _ _ hown
      clear hown
      go_wp2_with fail
      go_ret
      exact ⟨by first | rfl | simp, hbl⟩
set_option maxRecDepth 100000 in
set_option maxHeartbeats 400000 in
theorem TextS_any (B : Nat) (v : Value) (xs : List Pc) (w : World) (h : RdP w B v xs) (hB : B ≤ w.heap.size) (hn : xs.length ≤ 100000) (hz : szP xs) :
    Calls Tryd.prog 23 #[v] w fun e w' => e = .returned (.string (txP xs)) ∧ Below w.heap.size w w' := by
  have HV := Lib.hid (ValidPS_any B v xs w h hB hn hz)
  have H := Lib.hid h
  obtain ⟨A, c, rfl⟩ := h.slice
  clear h
  cases hok : okP xs with
  | false =>
    have e0 := Lib.hid (show txP xs = ⟨#[]⟩ by unfold txP; rw [hok]; rfl)
    rw [hok] at HV
    clear hok
    go_enter Tryd.func23, Tryd.ntmps23
    go_wp2_with fail
    refine HV.out.mono ?_; rintro e w1 ⟨rfl, hb1⟩
    go_wp2_with fail
    go_ret
    rw [e0.out]; exact ⟨rfl, hb1⟩
  | true =>
    have e0 := Lib.hid (show txP xs = textP xs xs.length by unfold txP; rw [hok]; rfl)
    have HG := Lib.hid (show GoodP xs from ⟨(okP_ok hok).2.2.1, okP_nm hok⟩)
    rw [hok] at HV
    clear hok
    go_enter Tryd.func23, Tryd.ntmps23
    go_wp2_with fail
    refine HV.out.mono ?_; rintro e w1 ⟨rfl, hb1⟩
    have HT := Lib.hid (l21Text_any B (.slice A xs.length c) xs w1 (H.out.below (hb1.mono hB)) (Nat.le_trans hB hb1.size) hn hz HG.out)
    have Hb1 := Lib.hid hb1
    clear hb1 hz
    go_wp2_with fail
    refine HT.out.mono ?_; rintro e w2 ⟨rfl, hb2⟩
    have Hb2 := Lib.hid (Hb1.out.trans (hb2.mono Hb1.out.size))
    clear hb2
    go_wp2_with fail
    go_ret
    rw [e0.out]; exact ⟨rfl, Hb2.out⟩
end Go.Proofs.YtepgfcjfdnakbaaDoor
/- Inventories, texts, part 6: a text of an inventory is read back; what a text must be (plain law). -/
namespace Go.Proofs.YtepgfcjfdnakbaaDoor

theorem linesB_cutP {c : UInt8} {x y : ByteArray} (h : hasNo c x) : linesB c (x ++ ⟨#[c]⟩ ++ y) = (linesB c y).map (x :: ·) := by
  obtain ⟨h1, h2, h3⟩ := cut_parts (y := y) h
  rw [linesB_yes h1, h2, h3]
theorem nm_noP {x : ByteArray} (h : isNm x.data.toList = true) {c : UInt8} (hc : okC c.toNat = false) : hasNo c x := by
  intro b hb e
  unfold isNm at h
  split at h
  · cases h
  · rename_i c0 t hx
    simp only [Bool.and_eq_true, List.all_eq_true] at h
    have := h.2 b (by rw [← hx]; exact hb)
    rw [e, hc] at this; cases this
theorem lit_noP {c : UInt8} {l : Array UInt8} (h : l.toList.all (fun b => b != c) = true) : hasNo c ⟨l⟩ := fun b hb => by
  simpa using List.all_eq_true.1 h b hb
theorem linesB_textB (c : UInt8) : ∀ l : List ByteArray, (∀ x ∈ l, hasNo c x) → linesB c (textB c l) = some l := by
  intro l
  induction l with
  | nil => intro _; exact linesB_nil c _ rfl
  | cons x l ih =>
    intro h
    rw [textB_cons, linesB_cutP (h x (by simp)), ih (fun y hy => h y (by simp [hy]))]
    rfl
theorem textB_snoc (c : UInt8) (l : List ByteArray) (x : ByteArray) : textB c (l ++ [x]) = textB c l ++ (x ++ ⟨#[c]⟩) := by
  unfold textB
  refine ba_inj ?_
  rw [ByteArray.toList_eq, ByteArray.toList_eq]
  simp
/-! the words of a line -/
structure Rw where
  nm : ByteArray
  up : ByteArray
  ea : Int
  pr : Int
def bothW (x o : ByteArray) (a b : Option Int) : Option Rw := match a, b with
  | some a, some b => some ⟨x, o, a, b⟩
  | _, _ => none
def rdW (s : ByteArray) : Option Rw := match splitB 32 s with
  | [x, o, a, b] => bothW x o (readN a) (readN b)
  | _ => none
theorem rdW_four {s x o a b : ByteArray} (h : splitB 32 s = [x, o, a, b]) : rdW s = bothW x o (readN a) (readN b) := by unfold rdW; rw [h]
theorem rdW_not {s : ByteArray} (h : (splitB 32 s).length ≠ 4) : rdW s = none := by
  unfold rdW
  split
  · rename_i he; rw [he] at h; exact absurd rfl h
  · rfl
theorem bothW_some {x o : ByteArray} {a b : Option Int} {r : Rw} (h : bothW x o a b = some r) : r.nm = x ∧ r.up = o ∧ a = some r.ea ∧ b = some r.pr := by
  cases a with
  | none => cases h
  | some a =>
    cases b with
    | none => cases h
    | some b =>
      have := Option.some.inj h
      subst this
      exact ⟨rfl, rfl, rfl, rfl⟩
theorem four_ofP {L : List ByteArray} (h : L.length = 4) : ∃ x o a b, L = [x, o, a, b] := by
  match L, h with
  | [x, o, a, b], _ => exact ⟨x, o, a, b, rfl⟩
theorem rdW_text {s : ByteArray} {r : Rw} (h : rdW s = some r) : s = r.nm ++ ⟨#[32]⟩ ++ r.up ++ ⟨#[32]⟩ ++ decS r.ea ++ ⟨#[32]⟩ ++ decS r.pr := by
  unfold rdW at h
  split at h
  · rename_i x o a b he
    obtain ⟨e1, e2, e3, e4⟩ := bothW_some h
    obtain ⟨r1, h1, h2⟩ := splitB_cons he
    obtain ⟨r2, h3, h4⟩ := splitB_cons h2
    obtain ⟨r3, h5, h6⟩ := splitB_cons h4
    have h7 := splitB_one h6
    rw [readN_dec e3, readN_dec e4, e1, e2, h1, h3, h5, h7]
    simp only [ByteArray.append_assoc]
  · cases h
theorem rdW_size {s : ByteArray} {r : Rw} (h : rdW s = some r) : r.nm.size ≤ s.size ∧ r.up.size ≤ s.size := by
  unfold rdW at h
  split at h
  · rename_i x o a b he
    obtain ⟨e1, e2, _, _⟩ := bothW_some h
    have h1 := splitB_mem 32 s.size s (Nat.le_refl _)
    rw [he] at h1
    rw [e1, e2]
    exact ⟨h1 x (by simp), h1 o (by simp)⟩
  · cases h
/-- the piece of a line behind others: the program takes the first name, the reference the last -/
def nmZ (xs : List Pc) (s : ByteArray) : Nat → Int
  | 0 => -1
  | m + 1 => if (pg xs m).name = s then (m : Int) else nmZ xs s m
def addI (xs : List Pc) (l : ByteArray) : List Pc := match rdW l with
  | some r => xs ++ [⟨r.nm, nmI xs r.up xs.length, r.ea, r.pr⟩]
  | none => xs
def addZ (xs : List Pc) (l : ByteArray) : List Pc := match rdW l with
  | some r => xs ++ [⟨r.nm, nmZ xs r.up xs.length, r.ea, r.pr⟩]
  | none => xs
def mkI (l : List ByteArray) (k : Nat) : List Pc := (l.take k).foldl addI []
def mkZ (l : List ByteArray) (k : Nat) : List Pc := (l.take k).foldl addZ []
theorem mkI_step {l : List ByteArray} {k : Nat} {r : Rw} (hk : k < l.length) (h : rdW l[k] = some r) : mkI l (k + 1) = mkI l k ++ [⟨r.nm, nmI (mkI l k) r.up (mkI l k).length, r.ea, r.pr⟩] := by
  unfold mkI
  rw [List.take_succ_eq_append_getElem hk, List.foldl_append]
  show addI _ l[k] = _
  unfold addI
  rw [h]
theorem mkZ_step {l : List ByteArray} {k : Nat} {r : Rw} (hk : k < l.length) (h : rdW l[k] = some r) : mkZ l (k + 1) = mkZ l k ++ [⟨r.nm, nmZ (mkZ l k) r.up (mkZ l k).length, r.ea, r.pr⟩] := by
  unfold mkZ
  rw [List.take_succ_eq_append_getElem hk, List.foldl_append]
  show addZ _ l[k] = _
  unfold addZ
  rw [h]
/-- all of the first k lines have their words -/
def okWs (l : List ByteArray) (k : Nat) : Prop := ∀ i (hi : i < l.length), i < k → (rdW l[i]).isSome = true
theorem mkI_len {l : List ByteArray} : ∀ k, k ≤ l.length → okWs l k → (mkI l k).length = k := by
  intro k
  induction k with
  | zero => intro _ _; rfl
  | succ k ih =>
    intro hk ho
    obtain ⟨r, hr⟩ := Option.isSome_iff_exists.1 (ho k (by omega) (by omega))
    rw [mkI_step (by omega) hr, List.length_append, ih (by omega) (fun i hi hk' => ho i hi (by omega))]; rfl
theorem mkZ_len {l : List ByteArray} : ∀ k, k ≤ l.length → okWs l k → (mkZ l k).length = k := by
  intro k
  induction k with
  | zero => intro _ _; rfl
  | succ k ih =>
    intro hk ho
    obtain ⟨r, hr⟩ := Option.isSome_iff_exists.1 (ho k (by omega) (by omega))
    rw [mkZ_step (by omega) hr, List.length_append, ih (by omega) (fun i hi hk' => ho i hi (by omega))]; rfl
theorem pg_appL {xs ys : List Pc} {k : Nat} (h : k < xs.length) : pg (xs ++ ys) k = pg xs k := getD_left _ _ _ _ h
/-! a list with different names -/
theorem newB_ne {xs : List Pc} {i j : Nat} (h : allN xs.length (pcB xs) = true) (hij : i < j) (hj : j < xs.length) : (pg xs i).name ≠ (pg xs j).name := by
  have h1 := (pcB_ok (allN_get h hj)).2.1
  have h2 := allN_get h1 hij
  simpa using h2
theorem nmI_par {xs : List Pc} (h : allN xs.length (pcB xs) = true) {p : Nat} : ∀ m, p < m → m ≤ xs.length → nmI (xs.take m) (pg xs p).name m = (p : Int) := by
  intro m hp hm
  have hne : ∀ i, i ≤ p → nmI (xs.take m) (pg xs p).name i = -1 := by
    intro i
    induction i with
    | zero => intro _; rfl
    | succ i ih =>
      intro hi
      refine nmI_miss (ih (by omega)) ?_
      have e : pg (xs.take m) i = pg xs i := by
        have := pg_appL (xs := xs.take m) (ys := xs.drop m) (k := i) (by rw [List.length_take]; omega)
        rw [List.take_append_drop] at this
        exact this.symm
      rw [e]
      exact newB_ne h (by omega) (by omega)
  have e : pg (xs.take m) p = pg xs p := by
    have := pg_appL (xs := xs.take m) (ys := xs.drop m) (k := p) (by rw [List.length_take]; omega)
    rw [List.take_append_drop] at this
    exact this.symm
  exact nmI_hit (hne p (Nat.le_refl _)) (by rw [e]) hp
theorem nmZ_par {xs : List Pc} (h : allN xs.length (pcB xs) = true) {p n : Nat} (hn : n ≤ xs.length) : ∀ m, p < m → m ≤ n → nmZ (xs.take n) (pg xs p).name m = (p : Int) := by
  intro m
  induction m with
  | zero => intro h0; omega
  | succ m ih =>
    intro hp hm
    have e : pg (xs.take n) m = pg xs m := by
      have := pg_appL (xs := xs.take n) (ys := xs.drop n) (k := m) (by rw [List.length_take]; omega)
      rw [List.take_append_drop] at this
      exact this.symm
    show (if (pg (xs.take n) m).name = (pg xs p).name then (m : Int) else nmZ (xs.take n) (pg xs p).name m) = (p : Int)
    rw [e]
    by_cases hmp : m = p
    · subst hmp; rw [if_pos rfl]
    · rw [if_neg (fun he => newB_ne h (show p < m by omega) (by omega) he.symm), ih (by omega) (by omega)]
/-! the lines of a text -/
def bodsP (xs : List Pc) (n : Nat) : List ByteArray := (List.range n).map (bodyP xs)
theorem textP_bods (xs : List Pc) : ∀ n, textP xs n = textB 10 (bodsP xs n)
  | 0 => rfl
  | n + 1 => by
    unfold bodsP
    rw [List.range_succ, List.map_append]
    show textP xs n ++ (bodyP xs n ++ ⟨#[10]⟩) = textB 10 ((List.range n).map (bodyP xs) ++ [bodyP xs n])
    rw [textB_snoc, textP_bods xs n]; rfl
theorem ofP_no {xs : List Pc} (h : okP xs = true) {k : Nat} (hk : k < xs.length) {c : UInt8} (hc : okC c.toNat = false) (h45 : c ≠ 45) : hasNo c (ofP xs k) := by
  obtain ⟨_, hp, hs, _⟩ := okP_ok h
  have hpi := hs.par_in hk
  unfold ofP
  split
  · intro b hb e
    have : b = 45 := by simpa using hb
    exact h45 (e.symm.trans this)
  · exact nm_noP (pcB_ok (allN_get hp (by omega))).1 hc
theorem bodyP_no {xs : List Pc} (h : okP xs = true) {k : Nat} (hk : k < xs.length) : hasNo 10 (bodyP xs k) := by
  have hp := pcB_ok (allN_get (okP_ok h).2.1 hk)
  unfold bodyP
  exact hasNo_app (hasNo_app (hasNo_app (hasNo_app (hasNo_app (hasNo_app (nm_noP hp.1 rfl) (lit_noP rfl)) (ofP_no h hk rfl (by decide))) (lit_noP rfl)) (dec_noz _ rfl (by decide))) (lit_noP rfl)) (dec_noz _ rfl (by decide))
theorem rdW_body {xs : List Pc} (h : okP xs = true) {k : Nat} (hk : k < xs.length) : rdW (bodyP xs k) = some ⟨(pg xs k).name, ofP xs k, (pg xs k).each, (pg xs k).price⟩ := by
  have hp := pcB_ok (allN_get (okP_ok h).2.1 hk)
  have h2 := hp.2.2.1
  have h3 := hp.2.2.2.1
  have e : bodyP xs k = (pg xs k).name ++ ⟨#[32]⟩ ++ (ofP xs k ++ ⟨#[32]⟩ ++ (decS (pg xs k).each ++ ⟨#[32]⟩ ++ decS (pg xs k).price)) := by
    unfold bodyP
    simp only [ByteArray.append_assoc]
  have hs : splitB 32 (bodyP xs k) = [(pg xs k).name, ofP xs k, decS (pg xs k).each, decS (pg xs k).price] := by
    rw [e, splitB_cut (nm_noP hp.1 rfl), splitB_cut (ofP_no h hk rfl (by decide)), splitB_cut (dec_noz _ rfl (by decide)), splitB_last (dec_noz _ rfl (by decide))]
  rw [rdW_four hs, readN_decS _ (by omega) (by omega), readN_decS _ (by omega) (by omega)]; rfl
theorem linesB_textP {xs : List Pc} (h : okP xs = true) : linesB 10 (textP xs xs.length) = some (bodsP xs xs.length) := by
  rw [textP_bods]
  refine linesB_textB 10 _ (fun x hx => ?_)
  obtain ⟨k, hk, rfl⟩ := List.mem_map.1 hx
  exact bodyP_no h (List.mem_range.1 hk)
theorem bods_len (xs : List Pc) (n : Nat) : (bodsP xs n).length = n := by unfold bodsP; simp
theorem bods_at (xs : List Pc) {n k : Nat} (hk : k < (bodsP xs n).length) : (bodsP xs n)[k] = bodyP xs k := by
  have hk' : k < ((List.range n).map (bodyP xs)).length := hk
  show ((List.range n).map (bodyP xs))[k]'hk' = _
  rw [List.getElem_map, List.getElem_range]
theorem take_pg {xs : List Pc} {k : Nat} (hk : k < xs.length) : xs.take (k + 1) = xs.take k ++ [pg xs k] := by
  rw [List.take_succ_eq_append_getElem hk, pg_at hk]
/-- what is read of a list's text is the list -/
theorem mkI_back {xs : List Pc} (h : okP xs = true) : ∀ k, k ≤ xs.length → mkI (bodsP xs xs.length) k = xs.take k := by
  intro k
  induction k with
  | zero => intro _; rfl
  | succ k ih =>
    intro hk
    have hkb : k < (bodsP xs xs.length).length := by rw [bods_len]; omega
    obtain ⟨_, hp, hs, _⟩ := okP_ok h
    rw [mkI_step hkb (by rw [bods_at]; exact rdW_body h (by omega)), ih (by omega), take_pg (by omega)]
    have hl : (xs.take k).length = k := by rw [List.length_take]; omega
    have hpar : nmI (xs.take k) (ofP xs k) (xs.take k).length = (pg xs k).par := by
      rw [hl]
      by_cases h0 : k = 0
      · subst h0
        rw [hs.par0 (by omega)]; rfl
      · have hpi := hs.par k (by omega) (by omega)
        unfold ofP
        rw [if_neg (by omega), nmI_par hp k (by omega) (by omega)]
        omega
    rw [hpar]
theorem mkZ_back {xs : List Pc} (h : okP xs = true) : ∀ k, k ≤ xs.length → mkZ (bodsP xs xs.length) k = xs.take k := by
  intro k
  induction k with
  | zero => intro _; rfl
  | succ k ih =>
    intro hk
    have hkb : k < (bodsP xs xs.length).length := by rw [bods_len]; omega
    obtain ⟨_, hp, hs, _⟩ := okP_ok h
    rw [mkZ_step hkb (by rw [bods_at]; exact rdW_body h (by omega)), ih (by omega), take_pg (by omega)]
    have hl : (xs.take k).length = k := by rw [List.length_take]; omega
    have hpar : nmZ (xs.take k) (ofP xs k) (xs.take k).length = (pg xs k).par := by
      rw [hl]
      by_cases h0 : k = 0
      · subst h0
        rw [hs.par0 (by omega)]; rfl
      · have hpi := hs.par k (by omega) (by omega)
        unfold ofP
        rw [if_neg (by omega), nmZ_par hp (by omega) k (by omega) (Nat.le_refl _)]
        omega
    rw [hpar]
/-- the list that a text tells: the one whose text it is -/
def rdPcs (s : ByteArray) : Option (List Pc) := match linesB 10 s with
  | none => none
  | some l => if okP (mkI l l.length) = true ∧ textP (mkI l l.length) (mkI l l.length).length = s then some (mkI l l.length) else none
theorem rdPcs_iff {s : ByteArray} {xs : List Pc} : rdPcs s = some xs ↔ (okP xs = true ∧ textP xs xs.length = s) := by
  constructor
  · intro h
    unfold rdPcs at h
    split at h
    · cases h
    · split at h
      · rename_i h1
        have := Option.some.inj h
        subst this
        exact h1
      · cases h
  · rintro ⟨h1, rfl⟩
    unfold rdPcs
    rw [linesB_textP h1]
    simp only
    rw [bods_len, mkI_back h1 _ (Nat.le_refl _), List.take_length, if_pos ⟨h1, rfl⟩]
theorem rdPcs_lines {s : ByteArray} {xs : List Pc} {l : List ByteArray} (h : rdPcs s = some xs) (hl : linesB 10 s = some l) : okP xs = true ∧ textP xs xs.length = s ∧ l = bodsP xs xs.length := by
  obtain ⟨h1, h2⟩ := rdPcs_iff.1 h
  refine ⟨h1, h2, ?_⟩
  rw [← h2, linesB_textP h1] at hl
  exact (Option.some.inj hl).symm
theorem rdPcs_none {s : ByteArray} (h : linesB 10 s = none) : rdPcs s = none := by unfold rdPcs; rw [h]
theorem rdPcs_bad {s : ByteArray} {l : List ByteArray} (h : linesB 10 s = some l) (k : Nat) (hk : k < l.length) (hb : rdW l[k] = none) : rdPcs s = none := by
  cases hr : rdPcs s with
  | none => rfl
  | some xs =>
    obtain ⟨h1, h2, h3⟩ := rdPcs_lines hr h
    subst h3
    have hk' : k < xs.length := by rw [bods_len] at hk; exact hk
    rw [bods_at, rdW_body h1 hk'] at hb
    cases hb
theorem rdPcs_long {s : ByteArray} {l : List ByteArray} (h : linesB 10 s = some l) (hl : 40 < l.length) : rdPcs s = none := by
  cases hr : rdPcs s with
  | none => rfl
  | some xs =>
    obtain ⟨h1, h2, h3⟩ := rdPcs_lines hr h
    subst h3
    rw [bods_len] at hl
    have := (okP_ok h1).1
    omega
/-- the program's end -/
theorem rdPcs_prog {s : ByteArray} {l : List ByteArray} (h : linesB 10 s = some l) : rdPcs s = if txP (mkI l l.length) = s ∧ s ≠ ⟨#[]⟩ then some (mkI l l.length) else none := by
  cases hr : rdPcs s with
  | some xs =>
    obtain ⟨h1, h2, h3⟩ := rdPcs_lines hr h
    have h4 := mkI_back h1 _ (Nat.le_refl _)
    rw [← h3, List.take_length] at h4
    have hl : l.length = xs.length := by rw [h3, bods_len]
    rw [hl, h4, if_pos]
    refine ⟨by unfold txP; rw [h1]; exact h2, fun e => ?_⟩
    rw [e, linesB_nil 10 _ rfl] at h
    have := Option.some.inj h
    rw [← this] at hl
    have := (okP_ok h1).1
    simp at hl
    omega
  | none =>
    symm
    rw [if_neg]
    rintro ⟨e1, e2⟩
    have hk : okP (mkI l l.length) = true := by
      cases hq : okP (mkI l l.length) with
      | true => rfl
      | false => unfold txP at e1; rw [hq] at e1; exact absurd e1.symm e2
    have : rdPcs s = some (mkI l l.length) := rdPcs_iff.2 ⟨hk, by unfold txP at e1; rw [hk] at e1; exact e1⟩
    rw [hr] at this
    cases this
/-- the reference's tests of a line -/
theorem rdPcs_ref {s : ByteArray} {xs : List Pc} {l : List ByteArray} (h : rdPcs s = some xs) (hl : linesB 10 s = some l) {k : Nat} (hk : k < l.length) {r : Rw} (hr : rdW l[k] = some r) :
    (k = 0 → r.up = ⟨#[45]⟩) ∧ (0 < k → 0 ≤ nmZ (mkZ l k) r.up (mkZ l k).length) := by
  obtain ⟨h1, h2, h3⟩ := rdPcs_lines h hl
  obtain ⟨_, hp, hs, _⟩ := okP_ok h1
  subst h3
  have hk' : k < xs.length := by rw [bods_len] at hk; exact hk
  rw [bods_at, rdW_body h1 hk'] at hr
  have hr := Option.some.inj hr
  subst hr
  have hz := mkZ_back h1 k (by omega)
  have hlk : (xs.take k).length = k := by rw [List.length_take]; omega
  refine ⟨fun h0 => ?_, fun h0 => ?_⟩
  · subst h0
    show ofP xs 0 = _
    unfold ofP
    rw [hs.par0 hk', if_pos (by omega)]
  · have hpi := hs.par k h0 hk'
    rw [hz, hlk]
    show 0 ≤ nmZ (xs.take k) (ofP xs k) k
    unfold ofP
    rw [if_neg (by omega), nmZ_par hp (by omega) k (by omega) (Nat.le_refl _)]
    omega
theorem nmZ_name {xs : List Pc} {s : ByteArray} : ∀ m, 0 ≤ nmZ xs s m → ∃ p : Nat, p < m ∧ nmZ xs s m = (p : Int) ∧ (pg xs p).name = s
  | 0, h => by unfold nmZ at h; omega
  | m + 1, h => by
    unfold nmZ at h ⊢
    by_cases e : (pg xs m).name = s
    · rw [if_pos e] at h ⊢
      exact ⟨m, by omega, rfl, e⟩
    · rw [if_neg e] at h ⊢
      obtain ⟨p, h1, h2, h3⟩ := nmZ_name m h
      exact ⟨p, by omega, h2, h3⟩
/-- the first k lines pass the reference's tests -/
def ckZ (l : List ByteArray) (k : Nat) : Prop := ∀ i (hi : i < l.length), i < k → ∃ r, rdW l[i] = some r ∧ (i = 0 → r.up = ⟨#[45]⟩) ∧ (0 < i → 0 ≤ nmZ (mkZ l i) r.up (mkZ l i).length)
theorem ckZ_ok {l : List ByteArray} {k : Nat} (h : ckZ l k) : okWs l k := fun i hi hk => by
  obtain ⟨r, hr, _⟩ := h i hi hk
  rw [hr]; rfl
theorem mkZ_pref {l : List ByteArray} : ∀ n, n ≤ l.length → okWs l n → ∀ k, k ≤ n → (mkZ l n).take k = mkZ l k := by
  intro n
  induction n with
  | zero => intro _ _ k hk; rw [Nat.le_zero.1 hk]; rfl
  | succ n ih =>
    intro hn ho k hk
    have ho' : okWs l n := fun i hi h2 => ho i hi (by omega)
    by_cases e : k = n + 1
    · subst e
      rw [List.take_of_length_le (by rw [mkZ_len _ hn ho]; exact Nat.le_refl _)]
    · obtain ⟨r, hr⟩ := Option.isSome_iff_exists.1 (ho n (by omega) (by omega))
      rw [mkZ_step (by omega) hr, List.take_append_of_le_length (by rw [mkZ_len n (by omega) ho']; omega), ih (by omega) ho' k (by omega)]
theorem mkZ_pg {l : List ByteArray} {n k : Nat} (hn : n ≤ l.length) (ho : okWs l n) (hk : k < n) {r : Rw} (hr : rdW (l[k]'(by omega)) = some r) : pg (mkZ l n) k = ⟨r.nm, nmZ (mkZ l k) r.up (mkZ l k).length, r.ea, r.pr⟩ := by
  have ho' : okWs l k := fun i hi h2 => ho i hi (by omega)
  have h1 := mkZ_pref n hn ho (k + 1) (by omega)
  have h2 := mkZ_step (by omega) hr
  have hl := mkZ_len k (by omega) ho'
  have h3 : pg (mkZ l n) k = pg ((mkZ l n).take (k + 1)) k := by
    have := pg_appL (xs := (mkZ l n).take (k + 1)) (ys := (mkZ l n).drop (k + 1)) (k := k) (by rw [List.length_take, mkZ_len n hn ho]; omega)
    rw [List.take_append_drop] at this
    exact this
  rw [h3, h1, h2]
  have := pg_last (mkZ l k) ⟨r.nm, nmZ (mkZ l k) r.up (mkZ l k).length, r.ea, r.pr⟩
  rw [hl] at this
  rw [hl]
  exact this
/-- the reference's end -/
theorem rdPcs_refl {s : ByteArray} {l : List ByteArray} (hl : linesB 10 s = some l) (hc : ckZ l l.length) : rdPcs s = if okP (mkZ l l.length) = true then some (mkZ l l.length) else none := by
  have ho := ckZ_ok hc
  have hlen := mkZ_len l.length (Nat.le_refl _) ho
  cases hr : rdPcs s with
  | some xs =>
    obtain ⟨h1, h2, h3⟩ := rdPcs_lines hr hl
    have h4 := mkZ_back h1 _ (Nat.le_refl _)
    rw [← h3, List.take_length] at h4
    have hl2 : l.length = xs.length := by rw [h3, bods_len]
    rw [hl2, h4, if_pos h1]
  | none =>
    symm
    rw [if_neg]
    intro hk
    have ht : textP (mkZ l l.length) (mkZ l l.length).length = s := by
      rw [textP_bods, ← linesB_text 10 s.size s (Nat.le_refl _) l hl, hlen]
      congr 1
      refine List.ext_getElem (by rw [bods_len]) (fun i h1 h2 => ?_)
      rw [bods_at]
      obtain ⟨r, hr2, c1, c2⟩ := hc i h2 h2
      have hp := mkZ_pg (Nat.le_refl _) ho h2 hr2
      rw [rdW_text hr2]
      have hof : ofP (mkZ l l.length) i = r.up := by
        obtain ⟨_, _, hs, _⟩ := okP_ok hk
        unfold ofP
        by_cases h0 : i = 0
        · have hpar := hs.par0 (by omega)
          subst h0
          rw [hpar, if_pos (by omega), c1 rfl]
        · have hpi := hs.par i (by omega) (by omega)
          rw [if_neg (by omega)]
          obtain ⟨p, p1, p2, p3⟩ := nmZ_name _ (c2 (by omega))
          have hpar : (pg (mkZ l l.length) i).par = (p : Int) := by rw [hp]; exact p2
          rw [hpar, Int.toNat_natCast]
          have hli := mkZ_len i (by omega) (fun j hj h3 => ho j hj (by omega))
          have e : pg (mkZ l l.length) p = pg (mkZ l i) p := by
            have h3 := mkZ_pref l.length (Nat.le_refl _) ho i (by omega)
            have := pg_appL (xs := (mkZ l l.length).take i) (ys := (mkZ l l.length).drop i) (k := p) (by rw [h3]; omega)
            rw [List.take_append_drop, h3] at this
            exact this
          rw [e, p3]
      unfold bodyP
      rw [hof, hp]
    have : rdPcs s = some (mkZ l l.length) := rdPcs_iff.2 ⟨hk, ht⟩
    rw [hr] at this
    cases this
theorem txP_back {xs : List Pc} (h : txP xs ≠ ⟨#[]⟩) : rdPcs (txP xs) = some xs := by
  unfold txP at *
  cases hk : okP xs with
  | true => exact rdPcs_iff.2 ⟨hk, rfl⟩
  | false => rw [hk] at h; exact absurd rfl h
theorem txP_nil : rdPcs ⟨#[]⟩ = none := by
  cases hr : rdPcs ⟨#[]⟩ with
  | none => rfl
  | some xs =>
    obtain ⟨h1, h2, h3⟩ := rdPcs_lines hr (linesB_nil 10 _ rfl)
    have := congrArg List.length h3
    rw [bods_len] at this
    have h4 := (okP_ok h1).1
    simp at this
    omega
end Go.Proofs.YtepgfcjfdnakbaaDoor
/- Inventories, texts, part 7: ReadPieces of the program (gen_pq7.py). -/
namespace Go.Proofs.YtepgfcjfdnakbaaDoor
open Go.RowKit Go.Joins

def OwP (w : World) (base : Nat) (v : Value) (xs : List Pc) : Prop := w.ownsRow base 46 4 v xs.length (xs.flatMap cellsP)
theorem OwP.rd {w : World} {base : Nat} {v : Value} {xs : List Pc} (h : OwP w base v xs) : RdP w w.heap.size v xs := Rd.of_own h
def RetRx (w : World) (r : Option (List Pc)) (e : Ending) (w' : World) : Prop :=
  ∃ v, e = .returned (.tuple #[v, .bool r.isSome]) ∧ OwP w' w.heap.size v (r.getD []) ∧ Below w.heap.size w w'
theorem RetRx.none {w w' : World} {r : Option (List Pc)} (h : r = none) (hb : Below w.heap.size w w') : RetRx w r (.returned (.tuple #[.slice none 0 0, .bool false])) w' := by
  subst h; exact ⟨_, rfl, ⟨rfl, .inl ⟨rfl, rfl⟩⟩, hb⟩
theorem RetRx.some {w w' : World} {r : Option (List Pc)} {xs : List Pc} {v : Value} (h : r = some xs) (ho : OwP w' w.heap.size v xs) (hb : Below w.heap.size w w') : RetRx w r (.returned (.tuple #[v, .bool true])) w' := by
  subst h; exact ⟨_, rfl, ho, hb⟩
/-- a row of four words -/
structure W4 (w : World) (g : Nat) (x o a b : ByteArray) : Prop where
  lt : g < w.heap.size
  c0 : w.cell? ⟨g, 0, none⟩ = some (.string x)
  c1 : w.cell? ⟨g, 1, none⟩ = some (.string o)
  c2 : w.cell? ⟨g, 2, none⟩ = some (.string a)
  c3 : w.cell? ⟨g, 3, none⟩ = some (.string b)
theorem W4.next {w w' : World} {g : Nat} {x o a b : ByteArray} (h : W4 w g x o a b) (hb : Below w.heap.size w w') : W4 w' g x o a b :=
  ⟨Nat.lt_of_lt_of_le h.lt hb.size, (hb.cell (p := ⟨g, 0, none⟩) h.lt).trans h.c0, (hb.cell (p := ⟨g, 1, none⟩) h.lt).trans h.c1, (hb.cell (p := ⟨g, 2, none⟩) h.lt).trans h.c2, (hb.cell (p := ⟨g, 3, none⟩) h.lt).trans h.c3⟩
theorem own_w4 {w : World} {base : Nat} {v : Value} {x o a b : ByteArray} (h : w.ownsRow base 9 1 v [x, o, a, b].length ([x, o, a, b].map Value.string)) :
    ∃ g c, v = .slice (some ⟨g, 0, none⟩) 4 c ∧ W4 w g x o a b := by
  obtain ⟨g, c, hv, _, _, hlt, hc⟩ := own_strs h (by simp)
  exact ⟨g, c, hv, hlt, hc 0 (by simp), hc 1 (by simp), hc 2 (by simp), hc 3 (by simp)⟩
theorem bothW_fin {x o : ByteArray} {a b : Option Int} : (bothW x o a b).isSome = (a.isSome && b.isSome) ∧ ∀ r, bothW x o a b = some r → r = ⟨x, o, a.getD 0, b.getD 0⟩ := by
  cases a with
  | none => exact ⟨rfl, fun r h => by cases h⟩
  | some a =>
    cases b with
    | none => exact ⟨rfl, fun r h => by cases h⟩
    | some b => exact ⟨rfl, fun r h => (Option.some.inj h).symm⟩
theorem okWs_step {l : List ByteArray} {k : Nat} (h : okWs l k) {r : Rw} (hk : k < l.length) (hr : rdW l[k] = some r) : okWs l (k + 1) := fun i hi h2 => by
  by_cases e : i = k
  · subst e; rw [hr]; rfl
  · exact h i hi (by omega)
theorem mkI_sm {l : List ByteArray} {n : Nat} (hl : ∀ z ∈ l, z.size ≤ n) : ∀ k, k ≤ l.length → okWs l k → ∀ x ∈ mkI l k, x.name.size ≤ n := by
  intro k
  induction k with
  | zero => intro _ _ x hx; cases hx
  | succ k ih =>
    intro hk ho x hx
    obtain ⟨r, hr⟩ := Option.isSome_iff_exists.1 (ho k (by omega) (by omega))
    rw [mkI_step (by omega) hr] at hx
    rcases List.mem_append.1 hx with hx | hx
    · exact ih (by omega) (fun i hi h2 => ho i hi (by omega)) x hx
    · rw [List.mem_singleton.1 hx]
      exact Nat.le_trans (rdW_size hr).1 (hl _ (List.getElem_mem _))
theorem sm_szP {xs : List Pc} (h : ∀ x ∈ xs, x.name.size ≤ 1048576) : szP xs := fun k hk => by rw [pg_at hk]; exact h _ (List.getElem_mem hk)
theorem pc_snoc {xs : List Pc} {a : ByteArray} {b c d : Int} : xs.flatMap cellsP ++ (#[Value.string a, .int .i64 b, .int .i64 c, .int .i64 d] : Array Value).toList = (xs ++ [(⟨a, b, c, d⟩ : Pc)]).flatMap cellsP := by
  rw [List.flatMap_append]; simp [cellsP]
set_option maxRecDepth 100000 in
set_option maxHeartbeats 3200000 in
theorem ReadPI_any (s : ByteArray) (w : World) (hs : s.size ≤ 100000) (ht : Tab w) : Calls Tryd.prog 15 #[.string s] w (RetRx w (rdPcs s)) := by
  have HT := Lib.hid (textLines_any s w (by omega))
  have Ht := Lib.hid ht; clear ht
  cases hl : linesB 10 s with
  | none =>
    have Hr := Lib.hid (rdPcs_none hl)
    rw [hl] at HT
    clear hl
    go_enter Tryd.func15, Tryd.ntmps15
    go_wp2_with fail
    refine HT.out.mono ?_; rintro e w5 ⟨v5, rfl, _, hb5⟩
    have HB5 := Lib.hid hb5; clear hb5
    go_wp2_with fail
    go_ret2
    exact RetRx.none Hr.out HB5.out
  | some l =>
    have Hl := Lib.hid hl
    have hn6 := linesB_le hl
    have HM := Lib.hid (show ∀ z ∈ l, z.size ≤ 1048576 from fun z hz => Nat.le_trans (linesB_mem hl z hz) (by omega))
    rw [hl] at HT
    clear hl
    generalize hdl : l.length = n at *
    have Hdl := Lib.hid hdl; clear hdl
    go_enter Tryd.func15, Tryd.ntmps15
    go_wp2_with fail
    refine HT.out.mono ?_; rintro e w5 ⟨v5, rfl, ho5, hb5⟩
    obtain ⟨A5, c5, g5, rfl, hA5, hc5⟩ := own_strs0 (ho5 l rfl)
    rw [Hdl.out] at hA5 ⊢
    have HA5 := Lib.hid hA5
    have HC := Lib.hid hc5
    have HB5 := Lib.hid hb5
    have hb0 := Lib.hid ((Below.refl w5.heap.size w5).alloc (Nat.le_refl _) (.cells #[] 46))
    have ho0 := Lib.hid (World.ownsRow_made (base := w5.heap.size) (e := 46) (size := 4) w5 #[] 0 (Nat.le_refl _) (by simp [maxLen]) rfl)
    clear ho5 hb5 HT hA5 hc5
    go_wp2_with fail
    go_loopw [6, 24] (fun o i wr => ∃ k : Nat, k ≤ n ∧ i = .int .i64 (k : Int) ∧ okWs l k ∧ wr.ownsRow w5.heap.size 46 4 o k ((mkI l k).flatMap cellsP) ∧ Below w5.heap.size w5 wr) (fun _ i _ => n - (intOf i).toNat)
    case atStart => exact ⟨0, Nat.zero_le _, rfl, fun i hi h => by omega, ho0.out, hb0.out⟩
    case round =>
      obtain ⟨k, hk, rfl, hall, hown, hbl⟩ := hrel
      have Hown := Lib.hid hown
      have Hbl := Lib.hid hbl
      have Hall := Lib.hid hall
      obtain ⟨A6, c6, rfl⟩ := sl_of_own hown
      have Hml := Lib.hid (mkI_len k (by rw [Hdl.out]; exact hk) hall)
      clear hown hall hb0 ho0
      by_cases hlt : k < n
      · have hlt' : (k : Int) < (n : Int) := by omega
        have hkl : k < l.length := by rw [Hdl.out]; exact hlt
        obtain ⟨rfl, hlt5⟩ := HA5.out (by omega)
        have hce := (hbl.cell (p := ⟨g5, k, none⟩) hlt5).trans (HC.out k hkl)
        have hline := HM.out _ (List.getElem_mem hkl)
        have HP := Lib.hid (parts_any l[k] wr (by omega))
        have Hbad := Lib.hid (fun h => rdPcs_bad Hl.out k hkl h)
        have Hgood := Lib.hid (fun r h => (⟨okWs_step Hall.out hkl h, mkI_step hkl h⟩ : okWs l (k + 1) ∧ mkI l (k + 1) = mkI l k ++ [⟨(r : Rw).nm, nmI (mkI l k) r.up (mkI l k).length, r.ea, r.pr⟩]))
        unfold RetPs at HP
        generalize l[k] = line at *
        have hplen := splitB_len 32 line.size line (Nat.le_refl _)
        clear hbl
        by_cases h4 : (splitB 32 line).length = 4
        · obtain ⟨x, o, a, b, he⟩ := four_ofP h4
          have hmem := splitB_mem 32 line.size line (Nat.le_refl _)
          have hrd := rdW_four he
          rw [he] at HP hmem
          have ha := hmem a (by simp)
          have hbz := hmem b (by simp)
          have HD1 := Lib.hid (fun wx hq => ReadDecimal_any a wx (by omega) hq)
          have HD2 := Lib.hid (fun wx hq => ReadDecimal_any b wx (by omega) hq)
          unfold RetN1 at HD1 HD2
          have hfin := bothW_fin (x := x) (o := o) (a := readN a) (b := readN b)
          rw [← hrd] at hfin
          have Hfin := Lib.hid hfin
          clear he h4 hmem hplen hrd hfin ha hbz
          generalize (readN a).getD 0 = f at *
          generalize (readN b).getD 0 = t at *
          generalize (readN a).isSome = o1 at *
          generalize (readN b).isSome = o2 at *
          go_wp2_with fail
          refine HP.out.mono ?_; rintro e w6 ⟨v6, rfl, ho6, hb6⟩
          obtain ⟨g6, c6', rfl, hw6⟩ := own_w4 ho6
          have W6 := Lib.hid hw6
          obtain ⟨l6, q0, q1, q2, q3⟩ := hw6
          have Hb6 := Lib.hid (Hbl.out.trans (hb6.mono Hbl.out.size))
          have Ho6 := Lib.hid (own_below Hown.out hb6)
          clear ho6 hb6 HP Hown Hbl l6 hce
          go_wp2_with fail
          refine (HD1.out _ (Ht.out.below (HB5.out.trans (Hb6.out.mono HB5.out.size)))).mono ?_; rintro e w8 ⟨rfl, hb8⟩
          have Hb8 := Lib.hid (Hb6.out.trans (hb8.mono Hb6.out.size))
          have Ho8 := Lib.hid (own_below Ho6.out hb8)
          have W8 := Lib.hid (W6.out.next hb8)
          clear hb8 Hb6 Ho6 W6 HD1 q0 q1 q2 q3
          obtain ⟨l8, q0, q1, q2, q3⟩ := W8.out
          go_wp2_with fail
          refine (HD2.out _ (Ht.out.below (HB5.out.trans (Hb8.out.mono HB5.out.size)))).mono ?_; rintro e w9 ⟨rfl, hb9⟩
          have Hb9 := Lib.hid (Hb8.out.trans (hb9.mono Hb8.out.size))
          have Ho9 := Lib.hid (own_below Ho8.out hb9)
          have W9 := Lib.hid (W8.out.next hb9)
          clear hb9 Hb8 Ho8 W8 HD2 q0 q1 q2 q3 l8
          cases hr : rdW line with
          | none =>
            have Hr := Lib.hid (Hbad.out hr)
            have ho12 := Hfin.out.1
            rw [hr] at ho12
            clear hr Hbad Hgood Hfin
            cases o1 with
            | false =>
              clear ho12
              go_wp2_with fail
              go_ret2
              exact RetRx.none Hr.out (HB5.out.trans (Hb9.out.mono HB5.out.size))
            | true =>
              cases o2 with
              | true => cases ho12
              | false =>
                clear ho12
                go_wp2_with fail
                go_ret2
                exact RetRx.none Hr.out (HB5.out.trans (Hb9.out.mono HB5.out.size))
          | some y =>
            have ho12 := Hfin.out.1
            rw [hr] at ho12
            have hy := Hfin.out.2 y hr
            obtain ⟨hall2, hfl⟩ := Hgood.out _ hr
            rw [hy] at hfl
            have Hall2 := Lib.hid hall2
            have hz9 := Hb9.out.size
            obtain ⟨l9, q0, q1, q2, q3⟩ := W9.out
            have HN := Lib.hid (named_any w9.heap.size (.slice A6 k c6) (mkI l k) o w9.drew (by have h := Rd.of_own Ho9.out.drew; unfold RdP; rw [Hml.out]; exact h) (Nat.le_refl _) (by rw [Hml.out]; omega))
            generalize nmI (mkI l k) o (mkI l k).length = m at *
            have Hfl := Lib.hid hfl
            have Hon := Lib.hid (ones4 x m f t)
            have Hmx := Lib.hid (show k + 1 ≤ maxLen by simp only [maxLen]; omega)
            have Hby := Lib.hid (show (k + 1) * 40 ≤ 140737488355328 by omega)
            clear hr Hbad Hgood Hfin hall2 hfl hy
            cases o1 with
            | false => cases ho12
            | true =>
              cases o2 with
              | false => cases ho12
              | true =>
                clear ho12
                go_wp2_with fail
                refine wp_region_noPanic ?_
                refine wp_region_L [14,13] (fun w' => w'.cell? ⟨g6, 0, none⟩ = some (.string x) ∧ w'.cell? ⟨g6, 1, none⟩ = some (.string o)) (by kernel_rfl) (⟨q0, q1⟩) (fun hHeld => ?_)
                refine take_F (i := 0) (d := some 53) (v := ?_) (by kernel_rfl) (by kernel_rfl) rfl rfl (by kernel_rfl) (by kernel_rfl) (by kernel_rfl) (fun _ _ _ h => h) (Or.inl ⟨by rfl, ?_⟩) (by assumption) ?_
                rotate_left
                · (intro w hSw; (try dsimp only at hSw); go_simp; (try rw [if_neg (by omega)]); (try (with_reducible rfl)))
                simp only [Act.put, List.setIfInBounds_toArray, List.set_cons_zero, List.set_cons_succ]
                refine take_F (i := 1) (d := some 54) (v := ?_) (by kernel_rfl) (by kernel_rfl) rfl rfl (by kernel_rfl) (by kernel_rfl) (by kernel_rfl) (fun _ _ _ h => h) (Or.inl ⟨by rfl, ?_⟩) (by assumption) ?_
                rotate_left
                · (intro w hSw; (try dsimp only at hSw); go_simp; (try rw [if_neg (by omega)]); (try (with_reducible rfl)))
                simp only [Act.put, List.setIfInBounds_toArray, List.set_cons_zero, List.set_cons_succ]
                refine take_F (i := 2) (d := some 55) (v := ?_) (by kernel_rfl) (by kernel_rfl) rfl rfl (by kernel_rfl) (by kernel_rfl) (by kernel_rfl) (fun _ _ _ h => h) (Or.inl ⟨by rfl, ?_⟩) (by assumption) ?_
                rotate_left
                · (intro w hSw; (try dsimp only at hSw); go_simp; (try rw [if_neg (by omega)]); (try (with_reducible rfl)))
                simp only [Act.put, List.setIfInBounds_toArray, List.set_cons_zero, List.set_cons_succ]
                refine take_L [12,11,3] (i := 3) (d := some 56) (v := ?_) (by kernel_rfl) (by kernel_rfl) (by kernel_rfl) (by kernel_rfl) rfl rfl (by kernel_rfl) (by kernel_rfl) (by kernel_rfl) (fun _ _ _ h => h) (Or.inl ⟨by rfl, ?_⟩) (by assumption) ?_
                rotate_left
                · (intro w hSw; (try dsimp only at hSw); go_simp; (try rw [if_neg (by omega)]); (try (with_reducible rfl)))
                simp only [Act.put, List.setIfInBounds_toArray, List.set_cons_zero, List.set_cons_succ]
                refine take_F (i := 4) (d := some 57) (v := ?_) (by kernel_rfl) (by kernel_rfl) rfl rfl (by kernel_rfl) (by kernel_rfl) (by kernel_rfl) (fun _ _ _ h => h) (Or.inl ⟨by rfl, ?_⟩) (by assumption) ?_
                rotate_left
                · (intro w hSw; (try dsimp only at hSw); go_simp; (try rw [if_neg (by omega)]); (try (with_reducible rfl)))
                simp only [Act.put, List.setIfInBounds_toArray, List.set_cons_zero, List.set_cons_succ]
                refine take_F (i := 5) (d := some 58) (v := ?_) (by kernel_rfl) (by kernel_rfl) rfl rfl (by kernel_rfl) (by kernel_rfl) (by kernel_rfl) (fun _ _ _ h => h) (Or.inl ⟨by rfl, ?_⟩) (by assumption) ?_
                rotate_left
                · (intro w hSw; (try dsimp only at hSw); go_simp; (try rw [if_neg (by omega)]); (try (with_reducible rfl)))
                simp only [Act.put, List.setIfInBounds_toArray, List.set_cons_zero, List.set_cons_succ]
                refine take_F (i := 6) (d := some 59) (v := ?_) (by kernel_rfl) (by kernel_rfl) rfl rfl (by kernel_rfl) (by kernel_rfl) (by kernel_rfl) (fun _ _ _ h => h) (Or.inl ⟨by rfl, ?_⟩) (by assumption) ?_
                rotate_left
                · (intro w hSw; (try dsimp only at hSw); go_simp; (try rw [if_neg (by omega)]); (try (with_reducible rfl)))
                simp only [Act.put, List.setIfInBounds_toArray, List.set_cons_zero, List.set_cons_succ]
                refine take_L [8,7] (i := 7) (d := some 60) (v := ?_) (by kernel_rfl) (by kernel_rfl) (by kernel_rfl) (by kernel_rfl) rfl rfl (by kernel_rfl) (by kernel_rfl) (by kernel_rfl) (fun _ _ _ h => h) (Or.inl ⟨by rfl, ?_⟩) (by assumption) ?_
                rotate_left
                · (intro w hSw; (try dsimp only at hSw); go_simp; (try rw [if_neg (by omega)]); (try (with_reducible rfl)))
                simp only [Act.put, List.setIfInBounds_toArray, List.set_cons_zero, List.set_cons_succ]
                refine take_F (i := 9) (d := some 62) (v := ?_) (by kernel_rfl) (by kernel_rfl) rfl rfl (by kernel_rfl) (by kernel_rfl) (by kernel_rfl) (fun _ _ _ h => h) (Or.inl ⟨by rfl, ?_⟩) (by assumption) ?_
                rotate_left
                · (intro w hSw; (try dsimp only at hSw); go_simp; (try rw [if_neg (by omega)]); (try (with_reducible rfl)))
                simp only [Act.put, List.setIfInBounds_toArray, List.set_cons_zero, List.set_cons_succ]
                refine take_F (i := 10) (d := some 63) (v := ?_) (by kernel_rfl) (by kernel_rfl) rfl rfl (by kernel_rfl) (by kernel_rfl) (by kernel_rfl) (fun _ _ _ h => h) (Or.inl ⟨by rfl, ?_⟩) (by assumption) ?_
                rotate_left
                · (intro w hSw; (try dsimp only at hSw); go_simp; (try rw [if_neg (by omega)]); (try (with_reducible rfl)))
                simp only [Act.put, List.setIfInBounds_toArray, List.set_cons_zero, List.set_cons_succ]
                refine call_L (i := 8) (d := (some 61)) rfl rfl (by kernel_rfl) (fun Kq hKq => ?_)
                go_simp
                go_at_call 64
                refine HN.out.mono ?_; rintro e wa ⟨rfl, hba⟩
                have Hba := Lib.hid (Hb9.out.trans ((below_undrew hba).mono Hb9.out.size))
                have Hoa := Lib.hid (own_below Ho9.out (below_undrew hba))
                have qa0 := ((below_undrew hba).cell (p := ⟨g6, 0, none⟩) l9).trans q0
                have qa1 := ((below_undrew hba).cell (p := ⟨g6, 1, none⟩) l9).trans q1
                have hza := Hba.out.size
                clear hba
                (try go_wp2_with fail)
                refine hKq.out _ _ (⟨qa0, qa1⟩) (fun hHeld => ?_)
                clear hKq Kq
                (try simp only [Act.put, List.setIfInBounds_toArray, List.set_cons_zero, List.set_cons_succ])
                refine take_F (i := 11) (d := some 64) (v := ?_) (by kernel_rfl) (by kernel_rfl) rfl rfl (by kernel_rfl) (by kernel_rfl) (by kernel_rfl) (fun _ _ _ h => h) (Or.inl ⟨by rfl, ?_⟩) (by assumption) ?_
                rotate_left
                · (intro w hSw; (try dsimp only at hSw); go_simp; (try rw [if_neg (by omega)]); (try (with_reducible rfl)))
                simp only [Act.put, List.setIfInBounds_toArray, List.set_cons_zero, List.set_cons_succ]
                refine call_L (i := 12) (d := (some 65)) rfl rfl (by kernel_rfl) (fun Kq hKq => ?_)
                go_simp
                refine hKq.out _ _ (⟨cell_alloc (w := wa) qa0 _, cell_alloc (w := wa) qa1 _⟩) (fun hHeld => ?_)
                clear hKq Kq
                (try simp only [Act.put, List.setIfInBounds_toArray, List.set_cons_zero, List.set_cons_succ])
                refine late_L (i := 13) (d := (some 66)) (by kernel_rfl) rfl rfl (by kernel_rfl) (fun Kq hKq => ?_)
                refine step_apd0 24 46 _ 4 40 Tryd.underlying24 infoP rfl (by omega) _ _ (by rfl) (by rfl) w5.heap.size _ k _ (by rfl) Hoa.out #[.string x, .int .i64 m, .int .i64 f, .int .i64 t] 1 1 (by rfl) (by rfl) Hon.out Hmx.out Hby.out hza ?_; intro v10 w10 hown10 hg10
                have Hb10 := Lib.hid (below_apd Hba.out Hoa.out hg10 (Nat.le_refl _) hza)
                have Ho10 := Lib.hid hown10
                clear hown10 hg10
                refine hKq.out _ _ ?_
                clear hKq Kq
                simp only [Act.put, List.setIfInBounds_toArray]
                refine late_L (i := 14) (d := (some 6)) (by kernel_rfl) rfl rfl (by kernel_rfl) (fun Kq hKq => ?_)
                go_simp
                refine hKq.out _ _ ?_
                clear hKq Kq
                refine done_L (by kernel_rfl) ?_ _
                refine NoPanic.normal ?_
                (try go_wp2_with fail)
                go_roundw
                case rel => exact ⟨k + 1, by omega, by go_num, Hall2.out, by rw [Hfl.out, ← pc_snoc]; exact Ho10.out, Hb10.out⟩
                case measure => simp [intOf]; omega
        · have hnq : (((splitB 32 line).length : Int) == 4) = false := by rw [beq_eq_false_iff_ne]; omega
          have hnq2 : (((splitB 32 line).length : Int) != 4) = true := by simp [bne, hnq]
          have Hr := Lib.hid (Hbad.out (rdW_not h4))
          clear Hbad Hgood h4
          go_wp2_with fail
          refine HP.out.mono ?_; rintro e w6 ⟨v6, rfl, ho6, hb6⟩
          obtain ⟨A6', c6', rfl⟩ := sl_of_own ho6
          have Hb6 := Lib.hid (Hbl.out.trans (hb6.mono Hbl.out.size))
          generalize (splitB 32 line).length = m at *
          clear ho6 hb6 HP Hown Hbl hce
          go_wp2_with fail
          go_ret2
          exact RetRx.none Hr.out (HB5.out.trans (Hb6.out.mono HB5.out.size))
      · have hkn : k = n := by omega
        subst hkn
        have hlt' : ¬ (k : Int) < (k : Int) := by omega
        have hr := rdPcs_prog Hl.out
        rw [Hdl.out] at hr
        have hO : OwP wr w5.heap.size (.slice A6 k c6) (mkI l k) := by unfold OwP; rw [Hml.out]; exact Hown.out
        have HO := Lib.hid hO
        have hsm := sm_szP (mkI_sm HM.out k (by rw [Hdl.out]; exact Nat.le_refl _) Hall.out)
        have HX := Lib.hid (TextI_any wr.heap.size (.slice A6 k c6) (mkI l k) wr hO.rd (Nat.le_refl _) (by rw [Hml.out]; omega) hsm (Ht.out.below (HB5.out.trans (Hbl.out.mono HB5.out.size))))
        clear hO Hown Hall hsm hbl
        by_cases hs0 : s = ⟨#[]⟩
        · have Hr := Lib.hid (hr.trans (if_neg (fun h => h.2 hs0)))
          subst hs0
          clear hr HX
          go_wp2_with fail
          go_ret2
          exact RetRx.none Hr.out (HB5.out.trans (Hbl.out.mono HB5.out.size))
        · have hs1 : (s.toList == []) = false := by
            rw [beq_eq_false_iff_ne]
            intro e
            exact hs0 (ba_inj (by rw [e, ByteArray.toList_eq]))
          by_cases htx : txP (mkI l k) = s
          · have Hr := Lib.hid (hr.trans (if_pos ⟨htx, hs0⟩))
            rw [htx] at HX
            clear hr htx hs0
            go_wp2_with fail
            refine HX.out.mono ?_; rintro e w10 ⟨rfl, hb10⟩
            have Hb10 := Lib.hid (Hbl.out.trans (hb10.mono Hbl.out.size))
            have HO10 := Lib.hid (show OwP w10 w5.heap.size (.slice A6 k c6) (mkI l k) from own_below HO.out hb10)
            clear hb10
            go_wp2_with fail
            go_ret2
            exact RetRx.some Hr.out (ownsRow_le HO10.out HB5.out.size) (HB5.out.trans (Hb10.out.mono HB5.out.size))
          · have Hr := Lib.hid (hr.trans (if_neg (fun h => htx h.1)))
            have hs2 : ((txP (mkI l k)).toList == s.toList) = false := by
              rw [beq_eq_false_iff_ne]
              intro e
              exact htx (ba_inj e)
            clear hr htx hs0
            generalize txP (mkI l k) = T at *
            go_wp2_with fail
            refine HX.out.mono ?_; rintro e w10 ⟨rfl, hb10⟩
            have Hb10 := Lib.hid (Hbl.out.trans (hb10.mono Hbl.out.size))
            clear hb10
            go_wp2_with fail
            go_ret2
            exact RetRx.none Hr.out (HB5.out.trans (Hb10.out.mono HB5.out.size))
end Go.Proofs.YtepgfcjfdnakbaaDoor
/- Inventories, texts, part 8: ReadPieces of the reference (gen_pq8.py). -/
namespace Go.Proofs.YtepgfcjfdnakbaaDoor
open Go.RowKit Go.Joins

/-- a line is being read: the list in front, the words, the piece under way in block q -/
structure StZ (W w : World) (v : Value) (xs : List Pc) (g q : Nat) (x o a b : ByteArray) (p e r : Int) : Prop where
  own : w.ownsRow W.heap.size 46 4 v xs.length (xs.flatMap cellsP)
  bel : Below W.heap.size W w
  w4 : W4 w g x o a b
  blk : w.heap[q]? = some (.cells #[.string x, .int .i64 p, .int .i64 e, .int .i64 r] 46 (0, 0))
  ne : v.ownBlock ≠ some q
  lq : W.heap.size ≤ q
  qg : q ≠ g
theorem StZ.next {W w w' : World} {v : Value} {xs : List Pc} {g q : Nat} {x o a b : ByteArray} {p e r : Int} (h : StZ W w v xs g q x o a b p e r) (hb : Below w.heap.size w w') : StZ W w' v xs g q x o a b p e r :=
  ⟨own_below h.own hb, h.bel.trans (hb.mono h.bel.size), h.w4.next hb, (hb.block q (Array.getElem?_eq_some_iff.1 h.blk).1).trans h.blk, h.ne, h.lq, h.qg⟩
theorem StZ.set {W w : World} {v : Value} {xs : List Pc} {g q : Nat} {x o a b : ByteArray} {p e r : Int} (h : StZ W w v xs g q x o a b p e r) (i : Nat) (u : Int) {cs : Array Value} (hc : (#[.string x, .int .i64 p, .int .i64 e, .int .i64 r] : Array Value).setIfInBounds i (.int .i64 u) = cs) {p' e' r' : Int} (he : cs = #[.string x, .int .i64 p', .int .i64 e', .int .i64 r']) : StZ W (w.setCell ⟨q, i, none⟩ (.int .i64 u)) v xs g q x o a b p' e' r' := by
  have h1 := heap_setCell_same w q i _ _ (.int .i64 u) h.blk
  rw [hc, he] at h1
  have hg : w.grownBy (w.setCell ⟨q, i, none⟩ (.int .i64 u)) (some q) := grown_setCell (a := w) (p := ⟨q, i, none⟩) ⟨rfl, rfl, rfl, Nat.le_refl _, fun _ _ _ => rfl⟩ (.inl rfl) _
  have k4 := h.w4
  have hk : ∀ j, (w.setCell ⟨q, i, none⟩ (.int .i64 u)).cell? ⟨g, j, none⟩ = w.cell? ⟨g, j, none⟩ := fun j =>
    World.cell?_of_block (a := ⟨g, j, none⟩) (hg.block g k4.lt (fun e => h.qg (by injection e with e; exact e.symm)))
  refine ⟨ownsRow_setCell_other h.own (a := ⟨q, i, none⟩) h.ne _, h.bel.setCell (p := ⟨q, i, none⟩) h.lq _, ⟨Nat.lt_of_lt_of_le k4.lt hg.size, (hk 0).trans k4.c0, (hk 1).trans k4.c1, (hk 2).trans k4.c2, (hk 3).trans k4.c3⟩, h1, h.ne, h.lq, h.qg⟩
theorem nmZ_yes {xs : List Pc} {s : ByteArray} {m : Nat} (h : (pg xs m).name = s) : nmZ xs s (m + 1) = (m : Int) := by unfold nmZ; rw [if_pos h]
theorem nmZ_no {xs : List Pc} {s : ByteArray} {m : Nat} (h : (pg xs m).name ≠ s) : nmZ xs s (m + 1) = nmZ xs s m := by
  show (if (pg xs m).name = s then (m : Int) else nmZ xs s m) = _
  rw [if_neg h]
theorem nmZ_bd (xs : List Pc) (s : ByteArray) : ∀ m, -1 ≤ nmZ xs s m ∧ nmZ xs s m < (m : Int)
  | 0 => by unfold nmZ; omega
  | m + 1 => by
    have := nmZ_bd xs s m
    show -1 ≤ (if (pg xs m).name = s then (m : Int) else nmZ xs s m) ∧ (if (pg xs m).name = s then (m : Int) else nmZ xs s m) < ((m + 1 : Nat) : Int)
    split <;> omega
theorem ckZ_step {l : List ByteArray} {k : Nat} (h : ckZ l k) {r : Rw} (hk : k < l.length) (hr : rdW l[k] = some r) (h1 : k = 0 → r.up = ⟨#[45]⟩) (h2 : 0 < k → 0 ≤ nmZ (mkZ l k) r.up (mkZ l k).length) : ckZ l (k + 1) := fun i hi hik => by
  by_cases e : i = k
  · subst e; exact ⟨r, hr, h1, h2⟩
  · exact h i hi (by omega)
theorem mkZ_sm {l : List ByteArray} {n : Nat} (hl : ∀ z ∈ l, z.size ≤ n) : ∀ k, k ≤ l.length → okWs l k → ∀ x ∈ mkZ l k, x.name.size ≤ n := by
  intro k
  induction k with
  | zero => intro _ _ x hx; cases hx
  | succ k ih =>
    intro hk ho x hx
    obtain ⟨r, hr⟩ := Option.isSome_iff_exists.1 (ho k (by omega) (by omega))
    rw [mkZ_step (by omega) hr] at hx
    rcases List.mem_append.1 hx with hx | hx
    · exact ih (by omega) (fun i hi h2 => ho i hi (by omega)) x hx
    · rw [List.mem_singleton.1 hx]
      exact Nat.le_trans (rdW_size hr).1 (hl _ (List.getElem_mem _))
theorem ne_someP {x : ByteArray} (h : x.size ≠ 0) : (x.toList == []) = false := by
  rw [beq_eq_false_iff_ne]
  intro e
  rw [ByteArray.toList_eq] at e
  have h1 : x.data.toList.length = x.size := by simp
  rw [e] at h1
  exact h h1.symm
theorem ne_noneP {x : ByteArray} (h : x.size = 0) : (x.toList == []) = true := by
  rw [beq_iff_eq, ByteArray.toList_eq]
  exact List.eq_nil_of_length_eq_zero (by simpa using h)
set_option maxRecDepth 100000 in
set_option maxHeartbeats 3200000 in
theorem ReadPS_any (s : ByteArray) (w : World) (hs : s.size ≤ 100000) : Calls Tryd.prog 17 #[.string s] w (RetRx w (rdPcs s)) := by
  have HSp := Lib.hid (fun wx => l01Split_any s 10 wx (by omega))
  unfold RetPs at HSp
  have hlen := splitB_len 10 s.size s (Nat.le_refl _)
  obtain ⟨x, hx, hcs⟩ := lines_last (s := s)
  have hmem := splitB_mem 10 s.size s (Nat.le_refl _)
  have hpos : 0 < (splitB 10 s).length := List.length_pos_iff.2 (splitB_ne 10 s)
  have Hcs := Lib.hid hcs
  generalize hL : splitB 10 s = L at *
  have hxl : L[L.length - 1]'(by omega) = x := by
    rw [List.getLast?_eq_getElem?, List.getElem?_eq_getElem (by omega)] at hx
    exact Option.some.inj hx
  clear hL hx hcs
  obtain ⟨n, hn⟩ : ∃ n, L.length = n + 1 := ⟨L.length - 1, by omega⟩
  have Hn := Lib.hid hn
  go_enter Tryd.func17, Tryd.ntmps17
  go_wp2_with fail
  refine (HSp.out _).mono ?_; rintro e w5 ⟨v5, rfl, ho5, hb5⟩
  obtain ⟨g5, c5, rfl, _, _, hlt5, hc5⟩ := own_strs ho5 hpos
  have hlast := hc5 (L.length - 1) (by omega)
  rw [hxl] at hlast
  have HC5 := Lib.hid hc5
  have Hmem := Lib.hid hmem
  simp only [hn, Nat.add_sub_cancel] at hlast
  rw [hn]
  have Hlt5 := Lib.hid hlt5
  have HB5 := Lib.hid hb5
  have hb0 := Lib.hid ((Below.refl w5.heap.size w5).alloc (Nat.le_refl _) (.cells #[] 46))
  have ho0 := Lib.hid (World.ownsRow_made (base := w5.heap.size) (e := 46) (size := 4) w5 #[] 0 (Nat.le_refl _) (by simp [maxLen]) rfl)
  have hlast2 := (hb0.out.cell (p := ⟨g5, n, none⟩) hlt5).trans hlast
  have hn6 : n ≤ 100000 := by omega
  clear ho5 hb5 HSp hxl hlast hc5 hmem hlt5 hn hpos hlen
  rcases Hcs.out with ⟨hx0, hl⟩ | ⟨hx0, hl⟩
  · have Hr := Lib.hid (rdPcs_none hl)
    have hne := ne_someP hx0
    clear Hcs hl
    go_wp2_with fail
    go_ret2
    exact RetRx.none Hr.out (HB5.out.trans (hb0.out.mono HB5.out.size))
  · have hne := ne_noneP hx0
    by_cases h41 : 40 < n
    · have Hr := Lib.hid (rdPcs_long hl (by rw [List.length_dropLast, Hn.out]; omega))
      have h41' : (41 : Int) < (n : Int) + 1 := by omega
      clear Hcs hl
      go_wp2_with fail
      go_ret2
      exact RetRx.none Hr.out (HB5.out.trans (hb0.out.mono HB5.out.size))
    · have h41' : ¬ (41 : Int) < (n : Int) + 1 := by omega
      have Hl := Lib.hid hl
      have hdl : L.dropLast.length = n := by rw [List.length_dropLast, Hn.out]; omega
      have Hget := Lib.hid (fun k (h : k < L.dropLast.length) => drop_get h)
      have HM := Lib.hid (show ∀ z ∈ L.dropLast, z.size ≤ 1048576 from fun z hz => Nat.le_trans (Hmem.out z (List.dropLast_subset _ hz)) (by omega))
      have HC := Lib.hid (show ∀ (k : Nat) (h : k < L.dropLast.length), w5.cell? ⟨g5, k, none⟩ = some (.string L.dropLast[k]) from fun k h => by rw [Hget.out k h]; exact HC5.out k _)
      clear Hcs hl HC5 Hmem Hget Hn
      generalize L.dropLast = l at *
      have Hdl := Lib.hid hdl; clear hdl
      go_wp2_with fail
      go_loopw [5, 6] (fun o i wr => ∃ k : Nat, k ≤ n ∧ i = .int .i64 (k : Int) ∧ ckZ l k ∧ wr.ownsRow w5.heap.size 46 4 o k ((mkZ l k).flatMap cellsP) ∧ Below w5.heap.size w5 wr) (fun _ i _ => n - (intOf i).toNat)
      case atStart => exact ⟨0, Nat.zero_le _, rfl, fun i hi h => by omega, ho0.out, hb0.out⟩
      case round =>
        obtain ⟨k, hk, rfl, hall, hown, hbl⟩ := hrel
        have Hown := Lib.hid hown
        have Hbl := Lib.hid hbl
        have Hall := Lib.hid hall
        obtain ⟨A6, c6, rfl⟩ := sl_of_own hown
        have Hml := Lib.hid (mkZ_len k (by rw [Hdl.out]; exact hk) (ckZ_ok hall))
        clear hown hall hb0 ho0
        by_cases hlt : k < n
        · have hlt' : (k : Int) < (n : Int) := by omega
          have hkl : k < l.length := by rw [Hdl.out]; exact hlt
          have hce := (hbl.cell (p := ⟨g5, k, none⟩) Hlt5.out).trans (HC.out k hkl)
          have hline := HM.out _ (List.getElem_mem hkl)
          have HP := Lib.hid (l01Split_any l[k] 32 wr (by omega))
          have Hbad := Lib.hid (fun h => rdPcs_bad Hl.out k hkl h)
          have Href := Lib.hid (fun (r : Rw) (hr : rdW l[k] = some r) (hno : ¬ ((k = 0 → r.up = ⟨#[45]⟩) ∧ (0 < k → 0 ≤ nmZ (mkZ l k) r.up (mkZ l k).length))) => (show rdPcs s = none from by
            cases hq : rdPcs s with
            | none => rfl
            | some xs => exact absurd (rdPcs_ref hq Hl.out hkl hr) hno))
          have Hgood := Lib.hid (fun (r : Rw) h h1 h2 => (⟨ckZ_step Hall.out hkl h h1 h2, mkZ_step hkl h⟩ : ckZ l (k + 1) ∧ mkZ l (k + 1) = mkZ l k ++ [⟨r.nm, nmZ (mkZ l k) r.up (mkZ l k).length, r.ea, r.pr⟩]))
          unfold RetPs at HP
          generalize l[k] = line at *
          have hplen := splitB_len 32 line.size line (Nat.le_refl _)
          clear hbl
          by_cases h4 : (splitB 32 line).length = 4
          · obtain ⟨x, o, a, b, he⟩ := four_ofP h4
            have hmem := splitB_mem 32 line.size line (Nat.le_refl _)
            have hrd := rdW_four he
            rw [he] at HP hmem
            have ha := hmem a (by simp)
            have hbz := hmem b (by simp)
            have HD1 := Lib.hid (fun wx => l01Number_any a wx (by omega))
            have HD2 := Lib.hid (fun wx => l01Number_any b wx (by omega))
            unfold RetN1 at HD1 HD2
            have hfin := bothW_fin (x := x) (o := o) (a := readN a) (b := readN b)
            rw [← hrd] at hfin
            have Hfin := Lib.hid hfin
            clear he h4 hmem hplen hrd hfin ha hbz
            generalize (readN a).getD 0 = f at *
            generalize (readN b).getD 0 = t at *
            generalize (readN a).isSome = o1 at *
            generalize (readN b).isSome = o2 at *
            go_wp2_with fail
            refine HP.out.mono ?_; rintro e w6 ⟨v6, rfl, ho6, hb6⟩
            obtain ⟨g6, c6', rfl, hw6⟩ := own_w4 ho6
            have hb6t := Hbl.out.trans (hb6.mono Hbl.out.size)
            have hz6 := hw6.lt
            have ho6t := own_below Hown.out hb6
            have hna := heap_alloc_new w6 (.cells #[.string x, .int .i64 (-1), .int .i64 0, .int .i64 0] 46)
            have hba := (Below.refl w6.heap.size w6).alloc (Nat.le_refl _) (.cells #[.string x, .int .i64 (-1), .int .i64 0, .int .i64 0] 46)
            have HZ := Lib.hid (show StZ w5 (w6.alloc (.cells #[.string x, .int .i64 (-1), .int .i64 0, .int .i64 0] 46)) (.slice A6 k c6) (mkZ l k) g6 w6.heap.size x o a b (nmZ (mkZ l k) o 0) 0 0 from
              ⟨own_below (by rw [Hml.out]; exact ho6t) hba, hb6t.trans (hba.mono hb6t.size), hw6.next hba, hna, fun e => Nat.lt_irrefl _ (ho6t.lt _ e).2, hb6t.size, by omega⟩)
            obtain ⟨_, q0, q1, q2, q3⟩ := hw6
            clear ho6 hb6 HP Hown Hbl hce hb6t ho6t hna hba hz6
            go_upto_region 12 with (fail)
            generalize w6.alloc (.cells #[.string x, .int .i64 (-1), .int .i64 0, .int .i64 0] 46) = wa at *
            generalize w6.heap.size = q at *
            clear q0 q1 q2 q3
            go_wp2_with fail
            go_loopw [9] (fun i wy => ∃ m : Nat, m ≤ k ∧ i = .int .i64 (m : Int) ∧ StZ w5 wy (.slice A6 k c6) (mkZ l k) g6 q x o a b (nmZ (mkZ l k) o m) 0 0) (fun i _ => k - (intOf i).toNat)
            case atStart => exact ⟨0, Nat.zero_le _, rfl, HZ.out⟩
            case round =>
              obtain ⟨m, hm, rfl, hz⟩ := hrel
              have HZm := Lib.hid hz
              clear HZ
              by_cases hmk : m < k
              · have hmk' : (m : Int) < (k : Int) := by omega
                obtain ⟨gb, ob, hA, hat⟩ := RdP.at (xs := mkZ l k) (by have h := Rd.of_own hz.own; unfold RdP; rw [Hml.out] at h ⊢; exact h) m (by rw [Hml.out]; exact hmk)
                subst hA
                have y0 := hat.c0
                have y1 := hz.w4.c1
                obtain ⟨⟨_, z1, _, _⟩, _, f1, _, _⟩ := blk4p hz.blk
                obtain ⟨wq, rfl⟩ : ∃ z, z = wr := ⟨_, rfl⟩
                by_cases hnm : (pg (mkZ l k) m).name = o
                · have hz2 := (hz.next ((Below.refl wq.heap.size wq).drew)).set 1 (m : Int) rfl rfl
                  rw [← nmZ_yes hnm] at hz2
                  have Hst := Lib.hid (fun nq => (show StZ w5 ((wq.drewN nq).setCell ⟨q, 1, none⟩ (.int .i64 (m : Int))) (.slice (some ⟨gb, ob, none⟩) k c6) (mkZ l k) g6 q x o a b (nmZ (mkZ l k) o (m + 1)) 0 0 from by rw [nmZ_yes hnm]; exact (HZm.out.next (below_drewN (Below.refl _ _) nq)).set 1 (m : Int) rfl rfl))
                  rw [hnm] at y0
                  clear hat hz hz2 hnm
                  go_wp2_with fail
                  go_quiet (fail)
                  have hst := Hst.out nq
                  go_wp2_with fail
                  go_roundw
                  case rel => exact ⟨m + 1, by omega, by go_num, hst⟩
                  case measure => first | (simp [intOf]; done) | (simp [intOf]; omega)
                · have Hst := Lib.hid (fun nq => (show StZ w5 (wq.drewN nq) (.slice (some ⟨gb, ob, none⟩) k c6) (mkZ l k) g6 q x o a b (nmZ (mkZ l k) o (m + 1)) 0 0 from by rw [nmZ_no hnm]; exact HZm.out.next (below_drewN (Below.refl _ _) nq)))
                  have hnm' : ((pg (mkZ l k) m).name.toList == o.toList) = false := beq_eq_false_iff_ne.2 fun h => hnm (ba_inj h)
                  clear hat hz hnm
                  generalize (pg (mkZ l k) m).name = nm at *
                  go_wp2_with fail
                  go_quiet (fail)
                  have hst := Hst.out nq
                  go_wp2_with fail
                  go_roundw
                  case rel => exact ⟨m + 1, by omega, by go_num, hst⟩
                  case measure => first | (simp [intOf]; done) | (simp [intOf]; omega)
              · have hmk0 : m = k := by omega
                subst hmk0
                have hmk' : ¬ (m : Int) < (m : Int) := by omega
                have y2 := hz.w4.c2
                clear hz
                go_wp2_with fail
                refine (HD1.out _).mono ?_; rintro e w8 ⟨rfl, hb8⟩
                have HZ8 := Lib.hid (HZm.out.next hb8)
                have y3 := HZ8.out.w4.c3
                clear hb8 HZm y2 HD1
                go_wp2_with fail
                refine (HD2.out _).mono ?_; rintro e w9 ⟨rfl, hb9⟩
                have HZ9 := Lib.hid (HZ8.out.next hb9)
                clear hb9 HZ8 y3 HD2
                have y1 := HZ9.out.w4.c1
                obtain ⟨⟨z0, z1, z2, z3⟩, _, f1, f2, f3⟩ := blk4p HZ9.out.blk
                have hbel := Lib.hid (HB5.out.trans (HZ9.out.bel.mono HB5.out.size))
                have hnb := nmZ_bd (mkZ l m) o m
                cases hr : rdW line with
                | none =>
                  have Hr := Lib.hid (Hbad.out hr)
                  have ho12 := Hfin.out.1
                  rw [hr] at ho12
                  clear hr Hbad Hgood Hfin Href
                  generalize nmZ (mkZ l m) o m = pz at *
                  cases o1 with
                  | false =>
                    clear ho12
                    go_wp2_with fail
                    go_ret2
                    exact RetRx.none Hr.out hbel.out
                  | true =>
                    cases o2 with
                    | true => cases ho12
                    | false =>
                      clear ho12
                      go_wp2_with fail
                      go_ret2
                      exact RetRx.none Hr.out hbel.out
                | some y =>
                  have ho12 := Hfin.out.1
                  rw [hr] at ho12
                  have hy := Hfin.out.2 y hr
                  have Hrf := Lib.hid (Href.out y hr)
                  have Hgd := Lib.hid (Hgood.out y hr)
                  rw [hy, Hml.out] at Hrf Hgd
                  dsimp only at Hrf Hgd
                  clear hr Hbad Hgood Hfin Href hy
                  cases o1 with
                  | false => cases ho12
                  | true =>
                    cases o2 with
                    | false => cases ho12
                    | true =>
                      clear ho12
                      by_cases hm0 : m = 0
                      · by_cases ho : o = ⟨#[45]⟩
                        · obtain ⟨hck, hmz⟩ := Hgd.out (fun _ => ho) (fun h => absurd hm0 (by omega))
                          have hk0 : ((m : Int) == 0) = true := by rw [beq_iff_eq]; omega
                          have hk1 : ¬ ((0 : Int) < (m : Int)) := by omega
                          have Hm0 := Lib.hid hm0
                          have Hmz := Lib.hid hmz
                          have Hck := Lib.hid hck
                          have hod : (o.toList == [45]) = true := by rw [ho, ByteArray.toList_eq]; rfl
                          clear Hrf Hgd ho hm0 hmz hck
                          generalize nmZ (mkZ l m) o m = pz at *
                          have HZa := Lib.hid (HZ9.out.set 2 f rfl rfl)
                          have HZb := Lib.hid (HZa.out.set 3 t rfl rfl)
                          obtain ⟨wb, hwb⟩ : ∃ z, w9.setCell ⟨q, 2, none⟩ (.int .i64 f) = z := ⟨_, rfl⟩
                          rw [hwb] at HZa HZb
                          obtain ⟨wc, hwc⟩ : ∃ z, wb.setCell ⟨q, 3, none⟩ (.int .i64 t) = z := ⟨_, rfl⟩
                          rw [hwc] at HZb
                          obtain ⟨⟨a0, a1, a2, a3⟩, _, _, _, g3⟩ := blk4p HZa.out.blk
                          obtain ⟨⟨b0, b1, b2, b3⟩, -⟩ := blk4p HZb.out.blk
                          have Hoc := Lib.hid (show wc.ownsRow w5.heap.size 46 4 (.slice A6 m c6) m ((mkZ l m).flatMap cellsP) from by have h := HZb.out.own; rw [Hml.out] at h; exact h)
                          have Hbc := Lib.hid HZb.out.bel
                          have hzc := HZb.out.bel.size
                          have Hon := Lib.hid (ones4 x pz f t)
                          clear HZ9 HZa HZb hnb
                          go_wp2_with (at_builtin; refine wpList_apd 24 46 _ 4 40 Tryd.underlying24 infoP rfl (by omega) _ _ rfl rfl w5.heap.size _ m _ rfl Hoc.out #[.string x, .int .i64 pz, .int .i64 f, .int .i64 t] 1 1 rfl rfl Hon.out (by simp [maxLen]; omega) (by omega) hzc ?_; intro v10 w10 hown10 hg10; have Hb10 := Lib.hid (below_apd Hbc.out Hoc.out hg10 (Nat.le_refl _) hzc); have Ho10 := Lib.hid hown10; clear hown10 hg10)
                          go_roundw
                          case rel => exact ⟨m + 1, by omega, by go_num, Hck.out, by rw [Hmz.out, ← pc_snoc]; exact Ho10.out, Hb10.out⟩
                          case measure => simp [intOf]; omega
                        · have Hr := Lib.hid (Hrf.out (fun h => ho (h.1 hm0)))
                          have hk0 : ((m : Int) == 0) = true := by rw [beq_iff_eq]; omega
                          have hod : (o.toList == [45]) = false := by
                            rw [beq_eq_false_iff_ne]
                            intro e
                            exact ho (ba_inj (by rw [e, ByteArray.toList_eq]))
                          generalize nmZ (mkZ l m) o m = pz at *
                          clear Hrf Hgd ho hm0
                          go_wp2_with fail
                          go_ret2
                          exact RetRx.none Hr.out hbel.out
                      · have hk0 : ((m : Int) == 0) = false := by rw [beq_eq_false_iff_ne]; omega
                        have hk1 : (0 : Int) < (m : Int) := by omega
                        by_cases hpz : nmZ (mkZ l m) o m < 0
                        · have Hr := Lib.hid (Hrf.out (fun h => by have := h.2 (by omega); omega))
                          generalize nmZ (mkZ l m) o m = pz at *
                          clear Hrf Hgd
                          go_wp2_with fail
                          go_ret2
                          exact RetRx.none Hr.out hbel.out
                        · obtain ⟨hck, hmz⟩ := Hgd.out (fun h => absurd h hm0) (fun _ => by omega)
                          have hpz' : ¬ (nmZ (mkZ l m) o m < 0) := hpz
                          have Hmz := Lib.hid hmz
                          have Hck := Lib.hid hck
                          clear Hrf Hgd hmz hck hpz
                          generalize nmZ (mkZ l m) o m = pz at *
                          have HZa := Lib.hid (HZ9.out.set 2 f rfl rfl)
                          have HZb := Lib.hid (HZa.out.set 3 t rfl rfl)
                          obtain ⟨wb, hwb⟩ : ∃ z, w9.setCell ⟨q, 2, none⟩ (.int .i64 f) = z := ⟨_, rfl⟩
                          rw [hwb] at HZa HZb
                          obtain ⟨wc, hwc⟩ : ∃ z, wb.setCell ⟨q, 3, none⟩ (.int .i64 t) = z := ⟨_, rfl⟩
                          rw [hwc] at HZb
                          obtain ⟨⟨a0, a1, a2, a3⟩, _, _, _, g3⟩ := blk4p HZa.out.blk
                          obtain ⟨⟨b0, b1, b2, b3⟩, -⟩ := blk4p HZb.out.blk
                          have Hoc := Lib.hid (show wc.ownsRow w5.heap.size 46 4 (.slice A6 m c6) m ((mkZ l m).flatMap cellsP) from by have h := HZb.out.own; rw [Hml.out] at h; exact h)
                          have Hbc := Lib.hid HZb.out.bel
                          have hzc := HZb.out.bel.size
                          have Hon := Lib.hid (ones4 x pz f t)
                          clear HZ9 HZa HZb hnb
                          go_wp2_with (at_builtin; refine wpList_apd 24 46 _ 4 40 Tryd.underlying24 infoP rfl (by omega) _ _ rfl rfl w5.heap.size _ m _ rfl Hoc.out #[.string x, .int .i64 pz, .int .i64 f, .int .i64 t] 1 1 rfl rfl Hon.out (by simp [maxLen]; omega) (by omega) hzc ?_; intro v10 w10 hown10 hg10; have Hb10 := Lib.hid (below_apd Hbc.out Hoc.out hg10 (Nat.le_refl _) hzc); have Ho10 := Lib.hid hown10; clear hown10 hg10)
                          go_roundw
                          case rel => exact ⟨m + 1, by omega, by go_num, Hck.out, by rw [Hmz.out, ← pc_snoc]; exact Ho10.out, Hb10.out⟩
                          case measure => simp [intOf]; omega
          · have hnq : (((splitB 32 line).length : Int) == 4) = false := by rw [beq_eq_false_iff_ne]; omega
            have hnq2 : (((splitB 32 line).length : Int) != 4) = true := by simp [bne, hnq]
            have Hr := Lib.hid (Hbad.out (rdW_not h4))
            clear Hbad Hgood Href h4
            go_wp2_with fail
            refine HP.out.mono ?_; rintro e w6 ⟨v6, rfl, ho6, hb6⟩
            obtain ⟨A6', c6', rfl⟩ := sl_of_own ho6
            have Hb6 := Lib.hid (Hbl.out.trans (hb6.mono Hbl.out.size))
            generalize (splitB 32 line).length = m at *
            clear ho6 hb6 HP Hown Hbl hce
            go_wp2_with fail
            go_ret2
            exact RetRx.none Hr.out (HB5.out.trans (Hb6.out.mono HB5.out.size))
        · have hkn : k = n := by omega
          subst hkn
          have hlt' : ¬ (k : Int) < (k : Int) := by omega
          have hr := rdPcs_refl Hl.out (by rw [Hdl.out]; exact Hall.out)
          rw [Hdl.out] at hr
          have hO : OwP wr w5.heap.size (.slice A6 k c6) (mkZ l k) := by unfold OwP; rw [Hml.out]; exact Hown.out
          have HO := Lib.hid hO
          have hsm := sm_szP (mkZ_sm HM.out k (by rw [Hdl.out]; exact Nat.le_refl _) (ckZ_ok Hall.out))
          have HK := Lib.hid (ValidPS_any wr.heap.size (.slice A6 k c6) (mkZ l k) wr hO.rd (Nat.le_refl _) (by rw [Hml.out]; omega) hsm)
          clear hO Hown Hall hsm
          cases hok : okP (mkZ l k) with
          | true =>
            have Hr := Lib.hid (hr.trans (if_pos hok))
            rw [hok] at HK
            clear hok hr
            go_wp2_with fail
            refine HK.out.mono ?_; rintro e w9 ⟨rfl, hb9⟩
            have Hb9 := Lib.hid (hbl.trans (hb9.mono hbl.size))
            have HO9 := Lib.hid (show OwP w9 w5.heap.size (.slice A6 k c6) (mkZ l k) from own_below HO.out hb9)
            clear hb9
            go_wp2_with fail
            go_ret2
            exact RetRx.some Hr.out (ownsRow_le HO9.out HB5.out.size) (HB5.out.trans (Hb9.out.mono HB5.out.size))
          | false =>
            have Hr := Lib.hid (hr.trans (if_neg (by rw [hok]; simp)))
            rw [hok] at HK
            clear hok hr
            go_wp2_with fail
            refine HK.out.mono ?_; rintro e w9 ⟨rfl, hb9⟩
            have Hb9 := Lib.hid (hbl.trans (hb9.mono hbl.size))
            clear hb9
            go_wp2_with fail
            go_ret2
            exact RetRx.none Hr.out (HB5.out.trans (Hb9.out.mono HB5.out.size))
end Go.Proofs.YtepgfcjfdnakbaaDoor
