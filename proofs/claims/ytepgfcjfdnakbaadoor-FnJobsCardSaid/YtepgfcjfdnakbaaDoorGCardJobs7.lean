/- Merged texts: Pq5, Pq6, Jc5, Jc6. -/
import Derived.Test.YtepgfcjfdnakbaaDoorGCardJobs6
import Derived.Test.YtepgfcjfdnakbaaDoorGCardJobs5
import Derived.Test.YtepgfcjfdnakbaaDoorGCardJobs4
/- Inventories, texts, part 5: l21Text and PiecesText of the reference (gen_pq4.py). -/
namespace Go.Proofs.YtepgfcjfdnakbaaDoor
open Go.RowKit Go.Joins

theorem three_keptP {w w' : World} {g i j k : Nat} {a b c : Value} (hl : g < w.heap.size) (hb : Below w.heap.size w w') (h : w.cell? ⟨g, i, none⟩ = some a ∧ w.cell? ⟨g, j, none⟩ = some b ∧ w.cell? ⟨g, k, none⟩ = some c) : w'.cell? ⟨g, i, none⟩ = some a ∧ w'.cell? ⟨g, j, none⟩ = some b ∧ w'.cell? ⟨g, k, none⟩ = some c :=
  ⟨(hb.cell (p := ⟨g, i, none⟩) hl).trans h.1, (hb.cell (p := ⟨g, j, none⟩) hl).trans h.2.1, (hb.cell (p := ⟨g, k, none⟩) hl).trans h.2.2⟩
/-- a string appended to a row of bytes, at a step of a region -/
theorem step_strP {P : Program} {w : World} {ops : Array Oper} {o : Oper} {a : Act} {K : Act → World → Prop} {Q : Exit → Act → World → Prop} {E : Prop} (t u e : TypeId)
    (ht : P.underlying t = some (.slice e)) (hu : P.underlying u = some .string) (hinfo : (P.info? e).map (fun i => (i.zero, i.size, i.bytes)) = some (some (.int .u8 0), 1, 1))
    (sl x : Operand) (hgd : o.guard = none) (ho : o.op = .call { callee := .builtin .append, args := #[sl, x], argTypes := #[t, u] })
    (base : Nat) (v : Value) (n : Nat) (xs : List Value) (hs : a.eval sl = v) (hown : w.ownsRow base e 1 v n xs) (s : ByteArray) (hx : a.eval x = .string s)
    (h63 : n + s.size ≤ maxLen) (hbytes : n + s.size ≤ 140737488355328) (hbase : base ≤ w.heap.size)
    (h : ∀ v' w', w'.ownsRow base e 1 v' (n + s.size) (xs ++ Lib.strCells s) → w.grownBy w' v.ownBlock → K (a.put o.dst v') w') :
    if Region.wanted o (yielded ops a.tmps) = true then Oper.wp P o a w K Q else E := by
  have hw : Region.wanted o (yielded ops a.tmps) = true := by simp [Region.wanted, hgd]
  rw [if_pos hw]
  obtain ⟨i, hi, hz, h2, h3⟩ := info_parts hinfo
  obtain ⟨v', w', hr, k2, k3, k4⟩ := Lib.run_append_own_string (P := P) w base t u o.type e i ht hu hi hz h2 h3 v n xs hown s h63 hbytes hbase
  unfold Oper.wp execOp
  simp only [ho, resolve, invoke, builtin, Sem.run_bind, Sem.run_pure, Result.andThen_ok, List.map_toArray, List.map_cons, List.map_nil, hs, hx, hr]
  exact h v' w' k2 k3
set_option maxRecDepth 100000 in
set_option maxHeartbeats 3200000 in
theorem l21Text_any (B : Nat) (v : Value) (xs : List Pc) (w : World) (h : RdP w B v xs) (hB : B ≤ w.heap.size) (hn : xs.length ≤ 100000) (hz : szP xs) (hg : GoodP xs) :
    Calls Tryd.prog 65 #[v] w fun e w' => e = .returned (.string (textP xs xs.length)) ∧ Below w.heap.size w w' := by
  have H := Lib.hid h
  have Hz := Lib.hid hz
  obtain ⟨A, c, rfl⟩ := h.slice
  have HS := Lib.hid hg.shp
  have HM := Lib.hid hg.nm
  have ho0 := Lib.hid (World.ownsRow_made (base := w.heap.size) (e := 5) (size := 1) w #[] 0 (Nat.le_refl _) (by simp [maxLen]) rfl)
  have hb0 := Lib.hid ((Below.refl w.heap.size w).alloc (Nat.le_refl _) (.cells #[] 5))
  clear h hz hg
  go_enter Tryd.func65, Tryd.ntmps65
  go_wp2_with fail
  go_loopw [3, 4] (fun o i wr => ∃ (k : Nat), k ≤ xs.length ∧ i = .int .i64 k ∧ (textP xs k).size ≤ k * 2097300 ∧ wr.ownsRow w.heap.size 5 1 o (textP xs k).size ((textP xs k).data.toList.map byV) ∧ Below w.heap.size w wr) (fun _ i _ => xs.length - (intOf i).toNat)
  case atStart => exact ⟨0, Nat.zero_le _, rfl, Nat.le_refl _, ho0.out, hb0.out⟩
  case round =>
    obtain ⟨k, hk, rfl, hsz, hown, hbl⟩ := hrel
    obtain ⟨A3, c3, rfl⟩ := own_sl hown
    clear ho0 hb0
    by_cases hlt : k < xs.length
    · obtain ⟨b1, o1, hA, hE⟩ := (H.out.below (hbl.mono hB)).at k hlt
      subst hA
      have Hown := Lib.hid hown
      have Hbl := Lib.hid hbl
      obtain ⟨hbB, c0, c1, c2, c3'⟩ := hE
      have hlt' : (k : Int) < (xs.length : Int) := by omega
      have hln := lineP_size HS.out (Nat.le_refl _) Hz.out HM.out hlt
      obtain ⟨m1, m2⟩ := HM.out k hlt
      have hof := ofP_size HS.out (Nat.le_refl _) Hz.out hlt
      have hnz := Hz.out k hlt
      have hp := HS.out.par_in hlt
      have Hst := Lib.hid (show textP xs (k + 1) = textP xs k ++ ((pg xs k).name ++ ⟨#[32]⟩ ++ ofP xs k ++ ⟨#[32]⟩ ++ decS (pg xs k).each ++ ⟨#[32]⟩ ++ decS (pg xs k).price ++ ⟨#[10]⟩) from rfl)
      have HA := Lib.hid (fun wx => l01Dec_any (pg xs k).each wx (by omega) (by omega))
      have HBd := Lib.hid (fun wx => l01Dec_any (pg xs k).price wx (by omega) (by omega))
      have s1 := decS_size (pg xs k).each (by omega) (by omega)
      have s2 := decS_size (pg xs k).price (by omega) (by omega)
      obtain ⟨p1, p2, p3, p4, p5, p6, p7⟩ := lineP_sizes hnz hof s1 s2
      have hsz2 : (textP xs (k + 1)).size ≤ (k + 1) * 2097300 := textP_size HS.out (Nat.le_refl _) Hz.out HM.out (k + 1) (by omega)
      have Hof := Lib.hid (show ofP xs k = if (pg xs k).par < 0 then ⟨#[45]⟩ else (pg xs (pg xs k).par.toNat).name from rfl)
      obtain ⟨T', hT'⟩ : ∃ z, textP xs (k + 1) = z := ⟨_, rfl⟩
      rw [hT'] at hsz2 Hst
      have HT := Lib.hid hT'
      clear hT' hln m1 m2
      generalize textP xs k = T at *
      generalize ofP xs k = O at *
      generalize (pg xs k).name = a0 at *
      generalize decS (pg xs k).each = d0 at *
      generalize decS (pg xs k).price = e0 at *
      generalize (pg xs k).each = f0 at *
      generalize (pg xs k).price = t0 at *
      have hk1000 : k ≤ 100000 := by omega
      have hjs : (a0 ++ ⟨#[32]⟩ ++ O ++ ⟨#[32]⟩ ++ d0 ++ ⟨#[32]⟩ ++ e0 ++ ⟨#[10]⟩ : ByteArray).size ≤ 2097300 := by rw [p7]; omega
      have hTm : T.size + (a0 ++ ⟨#[32]⟩ ++ O ++ ⟨#[32]⟩ ++ d0 ++ ⟨#[32]⟩ ++ e0 ++ ⟨#[10]⟩ : ByteArray).size ≤ maxLen := by simp only [maxLen]; omega
      have hTs : T.size + (a0 ++ ⟨#[32]⟩ ++ O ++ ⟨#[32]⟩ ++ d0 ++ ⟨#[32]⟩ ++ e0 ++ ⟨#[10]⟩ : ByteArray).size ≤ 140737488355328 := by omega
      have Hfin := Lib.hid (show ∀ (o : Value) (wq : World), wq.ownsRow w.heap.size 5 1 o (T.size + (a0 ++ ⟨#[32]⟩ ++ O ++ ⟨#[32]⟩ ++ d0 ++ ⟨#[32]⟩ ++ e0 ++ ⟨#[10]⟩ : ByteArray).size) (T.data.toList.map byV ++ Lib.strCells (a0 ++ ⟨#[32]⟩ ++ O ++ ⟨#[32]⟩ ++ d0 ++ ⟨#[32]⟩ ++ e0 ++ ⟨#[10]⟩)) → wq.ownsRow w.heap.size 5 1 o T'.size (T'.data.toList.map byV) from fun o wq hq => by
        rw [Hst.out, ByteArray.size_append]
        have e : (T ++ (a0 ++ ⟨#[32]⟩ ++ O ++ ⟨#[32]⟩ ++ d0 ++ ⟨#[32]⟩ ++ e0 ++ ⟨#[10]⟩)).data.toList.map byV = T.data.toList.map byV ++ Lib.strCells (a0 ++ ⟨#[32]⟩ ++ O ++ ⟨#[32]⟩ ++ d0 ++ ⟨#[32]⟩ ++ e0 ++ ⟨#[10]⟩) := by
          rw [ByteArray.data_append, Array.toList_append, List.map_append]; rfl
        rw [e]; exact hq)
      have hacc : Below w.heap.size w wr.drew := hbl.drew
      have hac2 : Below wr.heap.size wr wr.drew := (Below.refl _ _).drew
      have hbw : b1 < wr.heap.size := Nat.lt_of_lt_of_le hbB (Nat.le_trans hB hbl.size)
      clear hown
      by_cases hpn : (pg xs k).par < 0
      · have hof2 := Hof.out
        rw [if_pos hpn] at hof2
        subst hof2
        have hk0 : k = 0 := by
          by_cases h0 : k = 0
          · exact h0
          · have := HS.out.par k (by omega) hlt
            omega
        have hkz : ¬ ((0 : Int) < (k : Int)) := by omega
        clear hpn hp Hof hbl hk0
        go_upto_region 9 with (fail)
        refine wp_region_noPanic ?_
        refine wp_region_L [24,23] (fun w' => w'.cell? ⟨b1, o1 + k * 4, none⟩ = some (.string a0) ∧ w'.cell? ⟨b1, o1 + k * 4 + 2, none⟩ = some (.int .i64 f0) ∧ w'.cell? ⟨b1, o1 + k * 4 + 3, none⟩ = some (.int .i64 t0)) (by kernel_rfl) (⟨c0, c2, c3'⟩) (fun hHeld => ?_)
        refine take_F (i := 0) (d := some 27) (v := ?_) (by kernel_rfl) (by kernel_rfl) rfl rfl (by kernel_rfl) (by kernel_rfl) (by kernel_rfl) (fun _ _ _ h => h) (Or.inl ⟨by rfl, ?_⟩) (by assumption) ?_
        rotate_left
        · (intro w hSw; (try dsimp only at hSw); go_simp; (try rw [if_neg (by omega)]); (try (with_reducible rfl)))
        simp only [Act.put, List.setIfInBounds_toArray, List.set_cons_zero, List.set_cons_succ]
        refine take_F (i := 1) (d := some 28) (v := ?_) (by kernel_rfl) (by kernel_rfl) rfl rfl (by kernel_rfl) (by kernel_rfl) (by kernel_rfl) (fun _ _ _ h => h) (Or.inl ⟨by rfl, ?_⟩) (by assumption) ?_
        rotate_left
        · (intro w hSw; (try dsimp only at hSw); go_simp; (try rw [if_neg (by omega)]); (try (with_reducible rfl)))
        simp only [Act.put, List.setIfInBounds_toArray, List.set_cons_zero, List.set_cons_succ]
        refine take_F (i := 2) (d := some 29) (v := ?_) (by kernel_rfl) (by kernel_rfl) rfl rfl (by kernel_rfl) (by kernel_rfl) (by kernel_rfl) (fun _ _ _ h => h) (Or.inl ⟨by rfl, ?_⟩) (by assumption) ?_
        rotate_left
        · (intro w hSw; (try dsimp only at hSw); go_simp; (try rw [if_neg (by omega)]); (try (with_reducible rfl)))
        simp only [Act.put, List.setIfInBounds_toArray, List.set_cons_zero, List.set_cons_succ]
        refine take_F (i := 3) (d := some 30) (v := ?_) (by kernel_rfl) (by kernel_rfl) rfl rfl (by kernel_rfl) (by kernel_rfl) (by kernel_rfl) (fun _ _ _ h => h) (Or.inl ⟨by rfl, ?_⟩) (by assumption) ?_
        rotate_left
        · (intro w hSw; (try dsimp only at hSw); go_simp; (try rw [if_neg (by omega)]); (try (with_reducible rfl)))
        simp only [Act.put, List.setIfInBounds_toArray, List.set_cons_zero, List.set_cons_succ]
        refine take_L [22,21,15,14,8,7,5,4] (i := 4) (d := some 31) (v := ?_) (by kernel_rfl) (by kernel_rfl) (by kernel_rfl) (by kernel_rfl) rfl rfl (by kernel_rfl) (by kernel_rfl) (by kernel_rfl) (fun _ _ _ h => h) (Or.inl ⟨by rfl, ?_⟩) (by assumption) ?_
        rotate_left
        · (intro w hSw; (try dsimp only at hSw); go_simp; (try rw [if_neg (by omega)]); (try (with_reducible rfl)))
        simp only [Act.put, List.setIfInBounds_toArray, List.set_cons_zero, List.set_cons_succ]
        refine take_F (i := 5) (d := some 32) (v := ?_) (by kernel_rfl) (by kernel_rfl) rfl rfl (by kernel_rfl) (by kernel_rfl) (by kernel_rfl) (fun _ _ _ h => h) (Or.inl ⟨by rfl, ?_⟩) (by assumption) ?_
        rotate_left
        · (intro w hSw; (try dsimp only at hSw); go_simp; (try rw [if_neg (by omega)]); (try (with_reducible rfl)))
        simp only [Act.put, List.setIfInBounds_toArray, List.set_cons_zero, List.set_cons_succ]
        refine take_F (i := 6) (d := some 33) (v := ?_) (by kernel_rfl) (by kernel_rfl) rfl rfl (by kernel_rfl) (by kernel_rfl) (by kernel_rfl) (fun _ _ _ h => h) (Or.inl ⟨by rfl, ?_⟩) (by assumption) ?_
        rotate_left
        · (intro w hSw; (try dsimp only at hSw); go_simp; (try rw [if_neg (by omega)]); (try (with_reducible rfl)))
        simp only [Act.put, List.setIfInBounds_toArray, List.set_cons_zero, List.set_cons_succ]
        refine take_F (i := 7) (d := some 34) (v := ?_) (by kernel_rfl) (by kernel_rfl) rfl rfl (by kernel_rfl) (by kernel_rfl) (by kernel_rfl) (fun _ _ _ h => h) (Or.inl ⟨by rfl, ?_⟩) (by assumption) ?_
        rotate_left
        · (intro w hSw; (try dsimp only at hSw); go_simp; (try rw [if_neg (by omega)]); (try (with_reducible rfl)))
        simp only [Act.put, List.setIfInBounds_toArray, List.set_cons_zero, List.set_cons_succ]
        refine take_F (i := 8) (d := some 35) (v := ?_) (by kernel_rfl) (by kernel_rfl) rfl rfl (by kernel_rfl) (by kernel_rfl) (by kernel_rfl) (fun _ _ _ h => h) (Or.inl ⟨by rfl, ?_⟩) (by assumption) ?_
        rotate_left
        · (intro w hSw; (try dsimp only at hSw); go_simp; (try rw [if_neg (by omega)]); (try (with_reducible rfl)))
        simp only [Act.put, List.setIfInBounds_toArray, List.set_cons_zero, List.set_cons_succ]
        refine take_F (i := 9) (d := some 36) (v := ?_) (by kernel_rfl) (by kernel_rfl) rfl rfl (by kernel_rfl) (by kernel_rfl) (by kernel_rfl) (fun _ _ _ h => h) (Or.inl ⟨by rfl, ?_⟩) (by assumption) ?_
        rotate_left
        · (intro w hSw; (try dsimp only at hSw); go_simp; (try rw [if_neg (by omega)]); (try (with_reducible rfl)))
        simp only [Act.put, List.setIfInBounds_toArray, List.set_cons_zero, List.set_cons_succ]
        refine take_F (i := 10) (d := some 37) (v := ?_) (by kernel_rfl) (by kernel_rfl) rfl rfl (by kernel_rfl) (by kernel_rfl) (by kernel_rfl) (fun _ _ _ h => h) (Or.inl ⟨by rfl, ?_⟩) (by assumption) ?_
        rotate_left
        · (intro w hSw; (try dsimp only at hSw); go_simp; (try rw [if_neg (by omega)]); (try (with_reducible rfl)))
        simp only [Act.put, List.setIfInBounds_toArray, List.set_cons_zero, List.set_cons_succ]
        refine take_F (i := 11) (d := some 38) (v := ?_) (by kernel_rfl) (by kernel_rfl) rfl rfl (by kernel_rfl) (by kernel_rfl) (by kernel_rfl) (fun _ _ _ h => h) (Or.inl ⟨by rfl, ?_⟩) (by assumption) ?_
        rotate_left
        · (intro w hSw; (try dsimp only at hSw); go_simp; (try rw [if_neg (by omega)]); (try (with_reducible rfl)))
        simp only [Act.put, List.setIfInBounds_toArray, List.set_cons_zero, List.set_cons_succ]
        refine take_L [20,13,12] (i := 12) (d := some 39) (v := ?_) (by kernel_rfl) (by kernel_rfl) (by kernel_rfl) (by kernel_rfl) rfl rfl (by kernel_rfl) (by kernel_rfl) (by kernel_rfl) (fun _ _ _ h => h) (Or.inl ⟨by rfl, ?_⟩) (by assumption) ?_
        rotate_left
        · (intro w hSw; (try dsimp only at hSw); go_simp; (try rw [if_neg (by omega)]); (try (with_reducible rfl)))
        simp only [Act.put, List.setIfInBounds_toArray, List.set_cons_zero, List.set_cons_succ]
        refine take_F (i := 16) (d := some 43) (v := ?_) (by kernel_rfl) (by kernel_rfl) rfl rfl (by kernel_rfl) (by kernel_rfl) (by kernel_rfl) (fun _ _ _ h => h) (Or.inl ⟨by rfl, ?_⟩) (by assumption) ?_
        rotate_left
        · (intro w hSw; (try dsimp only at hSw); go_simp; (try rw [if_neg (by omega)]); (try (with_reducible rfl)))
        simp only [Act.put, List.setIfInBounds_toArray, List.set_cons_zero, List.set_cons_succ]
        refine take_F (i := 17) (d := some 44) (v := ?_) (by kernel_rfl) (by kernel_rfl) rfl rfl (by kernel_rfl) (by kernel_rfl) (by kernel_rfl) (fun _ _ _ h => h) (Or.inl ⟨by rfl, ?_⟩) (by assumption) ?_
        rotate_left
        · (intro w hSw; (try dsimp only at hSw); go_simp; (try rw [if_neg (by omega)]); (try (with_reducible rfl)))
        simp only [Act.put, List.setIfInBounds_toArray, List.set_cons_zero, List.set_cons_succ]
        refine take_F (i := 18) (d := some 45) (v := ?_) (by kernel_rfl) (by kernel_rfl) rfl rfl (by kernel_rfl) (by kernel_rfl) (by kernel_rfl) (fun _ _ _ h => h) (Or.inl ⟨by rfl, ?_⟩) (by assumption) ?_
        rotate_left
        · (intro w hSw; (try dsimp only at hSw); go_simp; (try rw [if_neg (by omega)]); (try (with_reducible rfl)))
        simp only [Act.put, List.setIfInBounds_toArray, List.set_cons_zero, List.set_cons_succ]
        refine take_L [20,19] (i := 19) (d := some 46) (v := ?_) (by kernel_rfl) (by kernel_rfl) (by kernel_rfl) (by kernel_rfl) rfl rfl (by kernel_rfl) (by kernel_rfl) (by kernel_rfl) (fun _ _ _ h => h) (Or.inl ⟨by rfl, ?_⟩) (by assumption) ?_
        rotate_left
        · (intro w hSw; (try dsimp only at hSw); go_simp; (try rw [if_neg (by omega)]); (try (with_reducible rfl)))
        simp only [Act.put, List.setIfInBounds_toArray, List.set_cons_zero, List.set_cons_succ]
        refine call_L (i := 13) (d := (some 40)) rfl rfl (by kernel_rfl) (fun Kq hKq => ?_)
        go_simp
        go_at_call 95
        refine (HA.out _).mono ?_; rintro e w5 ⟨rfl, hb5⟩
        have hS5 := three_keptP (w := wr.drew) hbw hb5 ⟨c0, c2, c3'⟩
        have hz5 := hb5.size
        have hacc5 := hacc.trans (hb5.mono hacc.size)
        have hac5 := hac2.trans (hb5.mono hac2.size)
        clear hacc hac2 hb5
        (try go_wp2_with fail)
        refine hKq.out _ _ (hS5) (fun hHeld => ?_)
        clear hKq Kq
        (try simp only [Act.put, List.setIfInBounds_toArray, List.set_cons_zero, List.set_cons_succ])
        refine take_F (i := 14) (d := some 41) (v := ?_) (by kernel_rfl) (by kernel_rfl) rfl rfl (by kernel_rfl) (by kernel_rfl) (by kernel_rfl) (fun _ _ _ h => h) (Or.inl ⟨by rfl, ?_⟩) (by assumption) ?_
        rotate_left
        · (intro w hSw; (try dsimp only at hSw); go_simp; (try rw [if_neg (by omega)]); (try (with_reducible rfl)))
        simp only [Act.put, List.setIfInBounds_toArray, List.set_cons_zero, List.set_cons_succ]
        refine take_F (i := 15) (d := some 42) (v := ?_) (by kernel_rfl) (by kernel_rfl) rfl rfl (by kernel_rfl) (by kernel_rfl) (by kernel_rfl) (fun _ _ _ h => h) (Or.inl ⟨by rfl, ?_⟩) (by assumption) ?_
        rotate_left
        · (intro w hSw; (try dsimp only at hSw); go_simp; (try rw [if_neg (by omega)]); (try (with_reducible rfl)))
        simp only [Act.put, List.setIfInBounds_toArray, List.set_cons_zero, List.set_cons_succ]
        refine call_L (i := 20) (d := (some 47)) rfl rfl (by kernel_rfl) (fun Kq hKq => ?_)
        go_simp
        go_at_call 95
        refine (HBd.out _).mono ?_; rintro e w6 ⟨rfl, hb6⟩
        have hS6 := three_keptP (Nat.lt_of_lt_of_le hbw hz5) hb6 hS5
        have hacc := hacc5.trans (hb6.mono hacc5.size)
        have hac2 := hac5.trans (hb6.mono hac5.size)
        clear hacc5 hac5 hb6
        (try go_wp2_with fail)
        refine hKq.out _ _ (hS6) (fun hHeld => ?_)
        clear hKq Kq
        (try simp only [Act.put, List.setIfInBounds_toArray, List.set_cons_zero, List.set_cons_succ])
        refine take_F (i := 21) (d := some 48) (v := ?_) (by kernel_rfl) (by kernel_rfl) rfl rfl (by kernel_rfl) (by kernel_rfl) (by kernel_rfl) (fun _ _ _ h => h) (Or.inl ⟨by rfl, ?_⟩) (by assumption) ?_
        rotate_left
        · (intro w hSw; (try dsimp only at hSw); go_simp; (try rw [if_neg (by omega)]); (try (with_reducible rfl)))
        simp only [Act.put, List.setIfInBounds_toArray, List.set_cons_zero, List.set_cons_succ]
        refine take_F (i := 22) (d := some 49) (v := ?_) (by kernel_rfl) (by kernel_rfl) rfl rfl (by kernel_rfl) (by kernel_rfl) (by kernel_rfl) (fun _ _ _ h => h) (Or.inl ⟨by rfl, ?_⟩) (by assumption) ?_
        rotate_left
        · (intro w hSw; (try dsimp only at hSw); go_simp; (try rw [if_neg (by omega)]); (try (with_reducible rfl)))
        simp only [Act.put, List.setIfInBounds_toArray, List.set_cons_zero, List.set_cons_succ]
        refine late_L (i := 23) (d := (some 50)) (by kernel_rfl) rfl rfl (by kernel_rfl) (fun Kq hKq => ?_)
        refine step_strP 22 9 5 Tryd.underlying22 Tryd.underlying9 infoB' _ _ (by rfl) (by rfl) w.heap.size _ T.size _ (by rfl) (own_below Hown.out hac2) _ (by rfl) hTm hTs hacc.size ?_; intro v' w1 hown1 hg1
        refine hKq.out _ _ ?_
        clear hKq Kq
        simp only [Act.put, List.setIfInBounds_toArray]
        refine late_L (i := 24) (d := (some 3)) (by kernel_rfl) rfl rfl (by kernel_rfl) (fun Kq hKq => ?_)
        go_simp
        refine hKq.out _ _ ?_
        clear hKq Kq
        refine done_L (by kernel_rfl) ?_ _
        refine NoPanic.normal ?_
        have Hb1 := Lib.hid (below_apd hacc (own_below Hown.out hac2) hg1 (Nat.le_refl _) hacc.size)
        have Ho1 := Lib.hid (Hfin.out _ _ hown1)
        clear hacc hac2 hown1 hg1 p1 p2 p3 p4 p5 p6 p7 hTm hTs hjs c0 c1 c2 c3' hS5 hS6
        go_wp2_with fail
        go_roundw
        case rel => exact ⟨k + 1, by omega, by go_num, by rw [HT.out]; exact hsz2, by rw [HT.out]; exact Ho1.out, Hb1.out⟩
        case measure => simp [intOf]; omega
      · have hof2 := Hof.out
        rw [if_neg hpn] at hof2
        obtain ⟨p, hpp⟩ : ∃ p : Nat, (pg xs k).par = (p : Int) := ⟨(pg xs k).par.toNat, by omega⟩
        rw [hpp, Int.toNat_natCast] at hof2
        rw [hpp] at hp
        obtain ⟨b2, o2, hA2, hE2⟩ := (H.out.below (Hbl.out.mono hB)).at p (by omega)
        have q0 := hE2.c0
        obtain ⟨rfl, rfl⟩ := adr_inj hA2
        rw [← hof2] at q0
        rw [hpp] at c1
        have hpl : (p : Int) < (xs.length : Int) := by omega
        have hk0 : (0 : Int) < (k : Int) := by omega
        clear hpn hpp Hof hbl hE2 hof2
        go_upto_region 9 with (fail)
        refine wp_region_noPanic ?_
        refine wp_region_L [24,23] (fun w' => w'.cell? ⟨b1, o1 + k * 4, none⟩ = some (.string a0) ∧ w'.cell? ⟨b1, o1 + k * 4 + 2, none⟩ = some (.int .i64 f0) ∧ w'.cell? ⟨b1, o1 + k * 4 + 3, none⟩ = some (.int .i64 t0)) (by kernel_rfl) (⟨c0, c2, c3'⟩) (fun hHeld => ?_)
        refine take_F (i := 0) (d := some 27) (v := ?_) (by kernel_rfl) (by kernel_rfl) rfl rfl (by kernel_rfl) (by kernel_rfl) (by kernel_rfl) (fun _ _ _ h => h) (Or.inl ⟨by rfl, ?_⟩) (by assumption) ?_
        rotate_left
        · (intro w hSw; (try dsimp only at hSw); go_simp; (try rw [if_neg (by omega)]); (try (with_reducible rfl)))
        simp only [Act.put, List.setIfInBounds_toArray, List.set_cons_zero, List.set_cons_succ]
        refine take_F (i := 1) (d := some 28) (v := ?_) (by kernel_rfl) (by kernel_rfl) rfl rfl (by kernel_rfl) (by kernel_rfl) (by kernel_rfl) (fun _ _ _ h => h) (Or.inl ⟨by rfl, ?_⟩) (by assumption) ?_
        rotate_left
        · (intro w hSw; (try dsimp only at hSw); go_simp; (try rw [if_neg (by omega)]); (try (with_reducible rfl)))
        simp only [Act.put, List.setIfInBounds_toArray, List.set_cons_zero, List.set_cons_succ]
        refine take_F (i := 2) (d := some 29) (v := ?_) (by kernel_rfl) (by kernel_rfl) rfl rfl (by kernel_rfl) (by kernel_rfl) (by kernel_rfl) (fun _ _ _ h => h) (Or.inl ⟨by rfl, ?_⟩) (by assumption) ?_
        rotate_left
        · (intro w hSw; (try dsimp only at hSw); go_simp; (try rw [if_neg (by omega)]); (try (with_reducible rfl)))
        simp only [Act.put, List.setIfInBounds_toArray, List.set_cons_zero, List.set_cons_succ]
        refine take_F (i := 3) (d := some 30) (v := ?_) (by kernel_rfl) (by kernel_rfl) rfl rfl (by kernel_rfl) (by kernel_rfl) (by kernel_rfl) (fun _ _ _ h => h) (Or.inl ⟨by rfl, ?_⟩) (by assumption) ?_
        rotate_left
        · (intro w hSw; (try dsimp only at hSw); go_simp; (try rw [if_neg (by omega)]); (try (with_reducible rfl)))
        simp only [Act.put, List.setIfInBounds_toArray, List.set_cons_zero, List.set_cons_succ]
        refine take_L [22,21,15,14,8,7,5,4] (i := 4) (d := some 31) (v := ?_) (by kernel_rfl) (by kernel_rfl) (by kernel_rfl) (by kernel_rfl) rfl rfl (by kernel_rfl) (by kernel_rfl) (by kernel_rfl) (fun _ _ _ h => h) (Or.inl ⟨by rfl, ?_⟩) (by assumption) ?_
        rotate_left
        · (intro w hSw; (try dsimp only at hSw); go_simp; (try rw [if_neg (by omega)]); (try (with_reducible rfl)))
        simp only [Act.put, List.setIfInBounds_toArray, List.set_cons_zero, List.set_cons_succ]
        refine take_F (i := 5) (d := some 32) (v := ?_) (by kernel_rfl) (by kernel_rfl) rfl rfl (by kernel_rfl) (by kernel_rfl) (by kernel_rfl) (fun _ _ _ h => h) (Or.inl ⟨by rfl, ?_⟩) (by assumption) ?_
        rotate_left
        · (intro w hSw; (try dsimp only at hSw); go_simp; (try rw [if_neg (by omega)]); (try (with_reducible rfl)))
        simp only [Act.put, List.setIfInBounds_toArray, List.set_cons_zero, List.set_cons_succ]
        refine take_F (i := 6) (d := some 33) (v := ?_) (by kernel_rfl) (by kernel_rfl) rfl rfl (by kernel_rfl) (by kernel_rfl) (by kernel_rfl) (fun _ _ _ h => h) (Or.inl ⟨by rfl, ?_⟩) (by assumption) ?_
        rotate_left
        · (intro w hSw; (try dsimp only at hSw); go_simp; (try rw [if_neg (by omega)]); (try (with_reducible rfl)))
        simp only [Act.put, List.setIfInBounds_toArray, List.set_cons_zero, List.set_cons_succ]
        refine take_F (i := 7) (d := some 34) (v := ?_) (by kernel_rfl) (by kernel_rfl) rfl rfl (by kernel_rfl) (by kernel_rfl) (by kernel_rfl) (fun _ _ _ h => h) (Or.inl ⟨by rfl, ?_⟩) (by assumption) ?_
        rotate_left
        · (intro w hSw; (try dsimp only at hSw); go_simp; (try rw [if_neg (by omega)]); (try (with_reducible rfl)))
        simp only [Act.put, List.setIfInBounds_toArray, List.set_cons_zero, List.set_cons_succ]
        refine take_F (i := 8) (d := some 35) (v := ?_) (by kernel_rfl) (by kernel_rfl) rfl rfl (by kernel_rfl) (by kernel_rfl) (by kernel_rfl) (fun _ _ _ h => h) (Or.inl ⟨by rfl, ?_⟩) (by assumption) ?_
        rotate_left
        · (intro w hSw; (try dsimp only at hSw); go_simp; (try rw [if_neg (by omega)]); (try (with_reducible rfl)))
        simp only [Act.put, List.setIfInBounds_toArray, List.set_cons_zero, List.set_cons_succ]
        refine take_F (i := 9) (d := some 36) (v := ?_) (by kernel_rfl) (by kernel_rfl) rfl rfl (by kernel_rfl) (by kernel_rfl) (by kernel_rfl) (fun _ _ _ h => h) (Or.inl ⟨by rfl, ?_⟩) (by assumption) ?_
        rotate_left
        · (intro w hSw; (try dsimp only at hSw); go_simp; (try rw [if_neg (by omega)]); (try (with_reducible rfl)))
        simp only [Act.put, List.setIfInBounds_toArray, List.set_cons_zero, List.set_cons_succ]
        refine take_F (i := 10) (d := some 37) (v := ?_) (by kernel_rfl) (by kernel_rfl) rfl rfl (by kernel_rfl) (by kernel_rfl) (by kernel_rfl) (fun _ _ _ h => h) (Or.inl ⟨by rfl, ?_⟩) (by assumption) ?_
        rotate_left
        · (intro w hSw; (try dsimp only at hSw); go_simp; (try rw [if_neg (by omega)]); (try (with_reducible rfl)))
        simp only [Act.put, List.setIfInBounds_toArray, List.set_cons_zero, List.set_cons_succ]
        refine take_F (i := 11) (d := some 38) (v := ?_) (by kernel_rfl) (by kernel_rfl) rfl rfl (by kernel_rfl) (by kernel_rfl) (by kernel_rfl) (fun _ _ _ h => h) (Or.inl ⟨by rfl, ?_⟩) (by assumption) ?_
        rotate_left
        · (intro w hSw; (try dsimp only at hSw); go_simp; (try rw [if_neg (by omega)]); (try (with_reducible rfl)))
        simp only [Act.put, List.setIfInBounds_toArray, List.set_cons_zero, List.set_cons_succ]
        refine take_L [20,13,12] (i := 12) (d := some 39) (v := ?_) (by kernel_rfl) (by kernel_rfl) (by kernel_rfl) (by kernel_rfl) rfl rfl (by kernel_rfl) (by kernel_rfl) (by kernel_rfl) (fun _ _ _ h => h) (Or.inl ⟨by rfl, ?_⟩) (by assumption) ?_
        rotate_left
        · (intro w hSw; (try dsimp only at hSw); go_simp; (try rw [if_neg (by omega)]); (try (with_reducible rfl)))
        simp only [Act.put, List.setIfInBounds_toArray, List.set_cons_zero, List.set_cons_succ]
        refine take_F (i := 16) (d := some 43) (v := ?_) (by kernel_rfl) (by kernel_rfl) rfl rfl (by kernel_rfl) (by kernel_rfl) (by kernel_rfl) (fun _ _ _ h => h) (Or.inl ⟨by rfl, ?_⟩) (by assumption) ?_
        rotate_left
        · (intro w hSw; (try dsimp only at hSw); go_simp; (try rw [if_neg (by omega)]); (try (with_reducible rfl)))
        simp only [Act.put, List.setIfInBounds_toArray, List.set_cons_zero, List.set_cons_succ]
        refine take_F (i := 17) (d := some 44) (v := ?_) (by kernel_rfl) (by kernel_rfl) rfl rfl (by kernel_rfl) (by kernel_rfl) (by kernel_rfl) (fun _ _ _ h => h) (Or.inl ⟨by rfl, ?_⟩) (by assumption) ?_
        rotate_left
        · (intro w hSw; (try dsimp only at hSw); go_simp; (try rw [if_neg (by omega)]); (try (with_reducible rfl)))
        simp only [Act.put, List.setIfInBounds_toArray, List.set_cons_zero, List.set_cons_succ]
        refine take_F (i := 18) (d := some 45) (v := ?_) (by kernel_rfl) (by kernel_rfl) rfl rfl (by kernel_rfl) (by kernel_rfl) (by kernel_rfl) (fun _ _ _ h => h) (Or.inl ⟨by rfl, ?_⟩) (by assumption) ?_
        rotate_left
        · (intro w hSw; (try dsimp only at hSw); go_simp; (try rw [if_neg (by omega)]); (try (with_reducible rfl)))
        simp only [Act.put, List.setIfInBounds_toArray, List.set_cons_zero, List.set_cons_succ]
        refine take_L [20,19] (i := 19) (d := some 46) (v := ?_) (by kernel_rfl) (by kernel_rfl) (by kernel_rfl) (by kernel_rfl) rfl rfl (by kernel_rfl) (by kernel_rfl) (by kernel_rfl) (fun _ _ _ h => h) (Or.inl ⟨by rfl, ?_⟩) (by assumption) ?_
        rotate_left
        · (intro w hSw; (try dsimp only at hSw); go_simp; (try rw [if_neg (by omega)]); (try (with_reducible rfl)))
        simp only [Act.put, List.setIfInBounds_toArray, List.set_cons_zero, List.set_cons_succ]
        refine call_L (i := 13) (d := (some 40)) rfl rfl (by kernel_rfl) (fun Kq hKq => ?_)
        go_simp
        go_at_call 95
        refine (HA.out _).mono ?_; rintro e w5 ⟨rfl, hb5⟩
        have hS5 := three_keptP (w := wr.drew) hbw hb5 ⟨c0, c2, c3'⟩
        have hz5 := hb5.size
        have hacc5 := hacc.trans (hb5.mono hacc.size)
        have hac5 := hac2.trans (hb5.mono hac2.size)
        clear hacc hac2 hb5
        (try go_wp2_with fail)
        refine hKq.out _ _ (hS5) (fun hHeld => ?_)
        clear hKq Kq
        (try simp only [Act.put, List.setIfInBounds_toArray, List.set_cons_zero, List.set_cons_succ])
        refine take_F (i := 14) (d := some 41) (v := ?_) (by kernel_rfl) (by kernel_rfl) rfl rfl (by kernel_rfl) (by kernel_rfl) (by kernel_rfl) (fun _ _ _ h => h) (Or.inl ⟨by rfl, ?_⟩) (by assumption) ?_
        rotate_left
        · (intro w hSw; (try dsimp only at hSw); go_simp; (try rw [if_neg (by omega)]); (try (with_reducible rfl)))
        simp only [Act.put, List.setIfInBounds_toArray, List.set_cons_zero, List.set_cons_succ]
        refine take_F (i := 15) (d := some 42) (v := ?_) (by kernel_rfl) (by kernel_rfl) rfl rfl (by kernel_rfl) (by kernel_rfl) (by kernel_rfl) (fun _ _ _ h => h) (Or.inl ⟨by rfl, ?_⟩) (by assumption) ?_
        rotate_left
        · (intro w hSw; (try dsimp only at hSw); go_simp; (try rw [if_neg (by omega)]); (try (with_reducible rfl)))
        simp only [Act.put, List.setIfInBounds_toArray, List.set_cons_zero, List.set_cons_succ]
        refine call_L (i := 20) (d := (some 47)) rfl rfl (by kernel_rfl) (fun Kq hKq => ?_)
        go_simp
        go_at_call 95
        refine (HBd.out _).mono ?_; rintro e w6 ⟨rfl, hb6⟩
        have hS6 := three_keptP (Nat.lt_of_lt_of_le hbw hz5) hb6 hS5
        have hacc := hacc5.trans (hb6.mono hacc5.size)
        have hac2 := hac5.trans (hb6.mono hac5.size)
        clear hacc5 hac5 hb6
        (try go_wp2_with fail)
        refine hKq.out _ _ (hS6) (fun hHeld => ?_)
        clear hKq Kq
        (try simp only [Act.put, List.setIfInBounds_toArray, List.set_cons_zero, List.set_cons_succ])
        refine take_F (i := 21) (d := some 48) (v := ?_) (by kernel_rfl) (by kernel_rfl) rfl rfl (by kernel_rfl) (by kernel_rfl) (by kernel_rfl) (fun _ _ _ h => h) (Or.inl ⟨by rfl, ?_⟩) (by assumption) ?_
        rotate_left
        · (intro w hSw; (try dsimp only at hSw); go_simp; (try rw [if_neg (by omega)]); (try (with_reducible rfl)))
        simp only [Act.put, List.setIfInBounds_toArray, List.set_cons_zero, List.set_cons_succ]
        refine take_F (i := 22) (d := some 49) (v := ?_) (by kernel_rfl) (by kernel_rfl) rfl rfl (by kernel_rfl) (by kernel_rfl) (by kernel_rfl) (fun _ _ _ h => h) (Or.inl ⟨by rfl, ?_⟩) (by assumption) ?_
        rotate_left
        · (intro w hSw; (try dsimp only at hSw); go_simp; (try rw [if_neg (by omega)]); (try (with_reducible rfl)))
        simp only [Act.put, List.setIfInBounds_toArray, List.set_cons_zero, List.set_cons_succ]
        refine late_L (i := 23) (d := (some 50)) (by kernel_rfl) rfl rfl (by kernel_rfl) (fun Kq hKq => ?_)
        refine step_strP 22 9 5 Tryd.underlying22 Tryd.underlying9 infoB' _ _ (by rfl) (by rfl) w.heap.size _ T.size _ (by rfl) (own_below Hown.out hac2) _ (by rfl) hTm hTs hacc.size ?_; intro v' w1 hown1 hg1
        refine hKq.out _ _ ?_
        clear hKq Kq
        simp only [Act.put, List.setIfInBounds_toArray]
        refine late_L (i := 24) (d := (some 3)) (by kernel_rfl) rfl rfl (by kernel_rfl) (fun Kq hKq => ?_)
        go_simp
        refine hKq.out _ _ ?_
        clear hKq Kq
        refine done_L (by kernel_rfl) ?_ _
        refine NoPanic.normal ?_
        have Hb1 := Lib.hid (below_apd hacc (own_below Hown.out hac2) hg1 (Nat.le_refl _) hacc.size)
        have Ho1 := Lib.hid (Hfin.out _ _ hown1)
        clear hacc hac2 hown1 hg1 p1 p2 p3 p4 p5 p6 p7 hTm hTs hjs c0 c1 c2 c3' hS5 hS6
        go_wp2_with fail
        go_roundw
        case rel => exact ⟨k + 1, by omega, by go_num, by rw [HT.out]; exact hsz2, by rw [HT.out]; exact Ho1.out, Hb1.out⟩
        case measure => simp [intOf]; omega
    · have hkn : k = xs.length := by omega
      subst hkn
      have hlt' : ¬ ((xs.length : Int) < (xs.length : Int)) := by omega
      have hconv := run_conv_own (P := Tryd.prog) 22 9 5 Tryd.underlying22 Tryd.underlying5 Tryd.underlying9 _ _ _ _ hown
      clear hown
      go_wp2_with fail
      go_ret
      exact ⟨by first | rfl | simp, hbl⟩
set_option maxRecDepth 100000 in
set_option maxHeartbeats 400000 in
theorem TextS_any (B : Nat) (v : Value) (xs : List Pc) (w : World) (h : RdP w B v xs) (hB : B ≤ w.heap.size) (hn : xs.length ≤ 100000) (hz : szP xs) :
    Calls Tryd.prog 23 #[v] w fun e w' => e = .returned (.string (txP xs)) ∧ Below w.heap.size w w' := by
  have HV := Lib.hid (ValidPS_any B v xs w h hB hn hz)
  have H := Lib.hid h
  obtain ⟨A, c, rfl⟩ := h.slice
  clear h
  cases hok : okP xs with
  | false =>
    have e0 := Lib.hid (show txP xs = ⟨#[]⟩ by unfold txP; rw [hok]; rfl)
    rw [hok] at HV
    clear hok
    go_enter Tryd.func23, Tryd.ntmps23
    go_wp2_with fail
    refine HV.out.mono ?_; rintro e w1 ⟨rfl, hb1⟩
    go_wp2_with fail
    go_ret
    rw [e0.out]; exact ⟨rfl, hb1⟩
  | true =>
    have e0 := Lib.hid (show txP xs = textP xs xs.length by unfold txP; rw [hok]; rfl)
    have HG := Lib.hid (show GoodP xs from ⟨(okP_ok hok).2.2.1, okP_nm hok⟩)
    rw [hok] at HV
    clear hok
    go_enter Tryd.func23, Tryd.ntmps23
    go_wp2_with fail
    refine HV.out.mono ?_; rintro e w1 ⟨rfl, hb1⟩
    have HT := Lib.hid (l21Text_any B (.slice A xs.length c) xs w1 (H.out.below (hb1.mono hB)) (Nat.le_trans hB hb1.size) hn hz HG.out)
    have Hb1 := Lib.hid hb1
    clear hb1 hz
    go_wp2_with fail
    refine HT.out.mono ?_; rintro e w2 ⟨rfl, hb2⟩
    have Hb2 := Lib.hid (Hb1.out.trans (hb2.mono Hb1.out.size))
    clear hb2
    go_wp2_with fail
    go_ret
    rw [e0.out]; exact ⟨rfl, Hb2.out⟩
end Go.Proofs.YtepgfcjfdnakbaaDoor
/- Inventories, texts, part 6: a text of an inventory is read back; what a text must be (plain law). -/
namespace Go.Proofs.YtepgfcjfdnakbaaDoor

theorem linesB_cutP {c : UInt8} {x y : ByteArray} (h : hasNo c x) : linesB c (x ++ ⟨#[c]⟩ ++ y) = (linesB c y).map (x :: ·) := by
  obtain ⟨h1, h2, h3⟩ := cut_parts (y := y) h
  rw [linesB_yes h1, h2, h3]
theorem nm_noP {x : ByteArray} (h : isNm x.data.toList = true) {c : UInt8} (hc : okC c.toNat = false) : hasNo c x := by
  intro b hb e
  unfold isNm at h
  split at h
  · cases h
  · rename_i c0 t hx
    simp only [Bool.and_eq_true, List.all_eq_true] at h
    have := h.2 b (by rw [← hx]; exact hb)
    rw [e, hc] at this; cases this
theorem lit_noP {c : UInt8} {l : Array UInt8} (h : l.toList.all (fun b => b != c) = true) : hasNo c ⟨l⟩ := fun b hb => by
  simpa using List.all_eq_true.1 h b hb
theorem linesB_textB (c : UInt8) : ∀ l : List ByteArray, (∀ x ∈ l, hasNo c x) → linesB c (textB c l) = some l := by
  intro l
  induction l with
  | nil => intro _; exact linesB_nil c _ rfl
  | cons x l ih =>
    intro h
    rw [textB_cons, linesB_cutP (h x (by simp)), ih (fun y hy => h y (by simp [hy]))]
    rfl
theorem textB_snoc (c : UInt8) (l : List ByteArray) (x : ByteArray) : textB c (l ++ [x]) = textB c l ++ (x ++ ⟨#[c]⟩) := by
  unfold textB
  refine ba_inj ?_
  rw [ByteArray.toList_eq, ByteArray.toList_eq]
  simp
/-! the words of a line -/
structure Rw where
  nm : ByteArray
  up : ByteArray
  ea : Int
  pr : Int
def bothW (x o : ByteArray) (a b : Option Int) : Option Rw := match a, b with
  | some a, some b => some ⟨x, o, a, b⟩
  | _, _ => none
def rdW (s : ByteArray) : Option Rw := match splitB 32 s with
  | [x, o, a, b] => bothW x o (readN a) (readN b)
  | _ => none
theorem rdW_four {s x o a b : ByteArray} (h : splitB 32 s = [x, o, a, b]) : rdW s = bothW x o (readN a) (readN b) := by unfold rdW; rw [h]
theorem rdW_not {s : ByteArray} (h : (splitB 32 s).length ≠ 4) : rdW s = none := by
  unfold rdW
  split
  · rename_i he; rw [he] at h; exact absurd rfl h
  · rfl
theorem bothW_some {x o : ByteArray} {a b : Option Int} {r : Rw} (h : bothW x o a b = some r) : r.nm = x ∧ r.up = o ∧ a = some r.ea ∧ b = some r.pr := by
  cases a with
  | none => cases h
  | some a =>
    cases b with
    | none => cases h
    | some b =>
      have := Option.some.inj h
      subst this
      exact ⟨rfl, rfl, rfl, rfl⟩
theorem four_ofP {L : List ByteArray} (h : L.length = 4) : ∃ x o a b, L = [x, o, a, b] := by
  match L, h with
  | [x, o, a, b], _ => exact ⟨x, o, a, b, rfl⟩
theorem rdW_text {s : ByteArray} {r : Rw} (h : rdW s = some r) : s = r.nm ++ ⟨#[32]⟩ ++ r.up ++ ⟨#[32]⟩ ++ decS r.ea ++ ⟨#[32]⟩ ++ decS r.pr := by
  unfold rdW at h
  split at h
  · rename_i x o a b he
    obtain ⟨e1, e2, e3, e4⟩ := bothW_some h
    obtain ⟨r1, h1, h2⟩ := splitB_cons he
    obtain ⟨r2, h3, h4⟩ := splitB_cons h2
    obtain ⟨r3, h5, h6⟩ := splitB_cons h4
    have h7 := splitB_one h6
    rw [readN_dec e3, readN_dec e4, e1, e2, h1, h3, h5, h7]
    simp only [ByteArray.append_assoc]
  · cases h
theorem rdW_size {s : ByteArray} {r : Rw} (h : rdW s = some r) : r.nm.size ≤ s.size ∧ r.up.size ≤ s.size := by
  unfold rdW at h
  split at h
  · rename_i x o a b he
    obtain ⟨e1, e2, _, _⟩ := bothW_some h
    have h1 := splitB_mem 32 s.size s (Nat.le_refl _)
    rw [he] at h1
    rw [e1, e2]
    exact ⟨h1 x (by simp), h1 o (by simp)⟩
  · cases h
/-- the piece of a line behind others: the program takes the first name, the reference the last -/
def nmZ (xs : List Pc) (s : ByteArray) : Nat → Int
  | 0 => -1
  | m + 1 => if (pg xs m).name = s then (m : Int) else nmZ xs s m
def addI (xs : List Pc) (l : ByteArray) : List Pc := match rdW l with
  | some r => xs ++ [⟨r.nm, nmI xs r.up xs.length, r.ea, r.pr⟩]
  | none => xs
def addZ (xs : List Pc) (l : ByteArray) : List Pc := match rdW l with
  | some r => xs ++ [⟨r.nm, nmZ xs r.up xs.length, r.ea, r.pr⟩]
  | none => xs
def mkI (l : List ByteArray) (k : Nat) : List Pc := (l.take k).foldl addI []
def mkZ (l : List ByteArray) (k : Nat) : List Pc := (l.take k).foldl addZ []
theorem mkI_step {l : List ByteArray} {k : Nat} {r : Rw} (hk : k < l.length) (h : rdW l[k] = some r) : mkI l (k + 1) = mkI l k ++ [⟨r.nm, nmI (mkI l k) r.up (mkI l k).length, r.ea, r.pr⟩] := by
  unfold mkI
  rw [List.take_succ_eq_append_getElem hk, List.foldl_append]
  show addI _ l[k] = _
  unfold addI
  rw [h]
theorem mkZ_step {l : List ByteArray} {k : Nat} {r : Rw} (hk : k < l.length) (h : rdW l[k] = some r) : mkZ l (k + 1) = mkZ l k ++ [⟨r.nm, nmZ (mkZ l k) r.up (mkZ l k).length, r.ea, r.pr⟩] := by
  unfold mkZ
  rw [List.take_succ_eq_append_getElem hk, List.foldl_append]
  show addZ _ l[k] = _
  unfold addZ
  rw [h]
/-- all of the first k lines have their words -/
def okWs (l : List ByteArray) (k : Nat) : Prop := ∀ i (hi : i < l.length), i < k → (rdW l[i]).isSome = true
theorem mkI_len {l : List ByteArray} : ∀ k, k ≤ l.length → okWs l k → (mkI l k).length = k := by
  intro k
  induction k with
  | zero => intro _ _; rfl
  | succ k ih =>
    intro hk ho
    obtain ⟨r, hr⟩ := Option.isSome_iff_exists.1 (ho k (by omega) (by omega))
    rw [mkI_step (by omega) hr, List.length_append, ih (by omega) (fun i hi hk' => ho i hi (by omega))]; rfl
theorem mkZ_len {l : List ByteArray} : ∀ k, k ≤ l.length → okWs l k → (mkZ l k).length = k := by
  intro k
  induction k with
  | zero => intro _ _; rfl
  | succ k ih =>
    intro hk ho
    obtain ⟨r, hr⟩ := Option.isSome_iff_exists.1 (ho k (by omega) (by omega))
    rw [mkZ_step (by omega) hr, List.length_append, ih (by omega) (fun i hi hk' => ho i hi (by omega))]; rfl
theorem pg_appL {xs ys : List Pc} {k : Nat} (h : k < xs.length) : pg (xs ++ ys) k = pg xs k := getD_left _ _ _ _ h
/-! a list with different names -/
theorem newB_ne {xs : List Pc} {i j : Nat} (h : allN xs.length (pcB xs) = true) (hij : i < j) (hj : j < xs.length) : (pg xs i).name ≠ (pg xs j).name := by
  have h1 := (pcB_ok (allN_get h hj)).2.1
  have h2 := allN_get h1 hij
  simpa using h2
theorem nmI_par {xs : List Pc} (h : allN xs.length (pcB xs) = true) {p : Nat} : ∀ m, p < m → m ≤ xs.length → nmI (xs.take m) (pg xs p).name m = (p : Int) := by
  intro m hp hm
  have hne : ∀ i, i ≤ p → nmI (xs.take m) (pg xs p).name i = -1 := by
    intro i
    induction i with
    | zero => intro _; rfl
    | succ i ih =>
      intro hi
      refine nmI_miss (ih (by omega)) ?_
      have e : pg (xs.take m) i = pg xs i := by
        have := pg_appL (xs := xs.take m) (ys := xs.drop m) (k := i) (by rw [List.length_take]; omega)
        rw [List.take_append_drop] at this
        exact this.symm
      rw [e]
      exact newB_ne h (by omega) (by omega)
  have e : pg (xs.take m) p = pg xs p := by
    have := pg_appL (xs := xs.take m) (ys := xs.drop m) (k := p) (by rw [List.length_take]; omega)
    rw [List.take_append_drop] at this
    exact this.symm
  exact nmI_hit (hne p (Nat.le_refl _)) (by rw [e]) hp
theorem nmZ_par {xs : List Pc} (h : allN xs.length (pcB xs) = true) {p n : Nat} (hn : n ≤ xs.length) : ∀ m, p < m → m ≤ n → nmZ (xs.take n) (pg xs p).name m = (p : Int) := by
  intro m
  induction m with
  | zero => intro h0; omega
  | succ m ih =>
    intro hp hm
    have e : pg (xs.take n) m = pg xs m := by
      have := pg_appL (xs := xs.take n) (ys := xs.drop n) (k := m) (by rw [List.length_take]; omega)
      rw [List.take_append_drop] at this
      exact this.symm
    show (if (pg (xs.take n) m).name = (pg xs p).name then (m : Int) else nmZ (xs.take n) (pg xs p).name m) = (p : Int)
    rw [e]
    by_cases hmp : m = p
    · subst hmp; rw [if_pos rfl]
    · rw [if_neg (fun he => newB_ne h (show p < m by omega) (by omega) he.symm), ih (by omega) (by omega)]
/-! the lines of a text -/
def bodsP (xs : List Pc) (n : Nat) : List ByteArray := (List.range n).map (bodyP xs)
theorem textP_bods (xs : List Pc) : ∀ n, textP xs n = textB 10 (bodsP xs n)
  | 0 => rfl
  | n + 1 => by
    unfold bodsP
    rw [List.range_succ, List.map_append]
    show textP xs n ++ (bodyP xs n ++ ⟨#[10]⟩) = textB 10 ((List.range n).map (bodyP xs) ++ [bodyP xs n])
    rw [textB_snoc, textP_bods xs n]; rfl
theorem ofP_no {xs : List Pc} (h : okP xs = true) {k : Nat} (hk : k < xs.length) {c : UInt8} (hc : okC c.toNat = false) (h45 : c ≠ 45) : hasNo c (ofP xs k) := by
  obtain ⟨_, hp, hs, _⟩ := okP_ok h
  have hpi := hs.par_in hk
  unfold ofP
  split
  · intro b hb e
    have : b = 45 := by simpa using hb
    exact h45 (e.symm.trans this)
  · exact nm_noP (pcB_ok (allN_get hp (by omega))).1 hc
theorem bodyP_no {xs : List Pc} (h : okP xs = true) {k : Nat} (hk : k < xs.length) : hasNo 10 (bodyP xs k) := by
  have hp := pcB_ok (allN_get (okP_ok h).2.1 hk)
  unfold bodyP
  exact hasNo_app (hasNo_app (hasNo_app (hasNo_app (hasNo_app (hasNo_app (nm_noP hp.1 rfl) (lit_noP rfl)) (ofP_no h hk rfl (by decide))) (lit_noP rfl)) (dec_noz _ rfl (by decide))) (lit_noP rfl)) (dec_noz _ rfl (by decide))
theorem rdW_body {xs : List Pc} (h : okP xs = true) {k : Nat} (hk : k < xs.length) : rdW (bodyP xs k) = some ⟨(pg xs k).name, ofP xs k, (pg xs k).each, (pg xs k).price⟩ := by
  have hp := pcB_ok (allN_get (okP_ok h).2.1 hk)
  have h2 := hp.2.2.1
  have h3 := hp.2.2.2.1
  have e : bodyP xs k = (pg xs k).name ++ ⟨#[32]⟩ ++ (ofP xs k ++ ⟨#[32]⟩ ++ (decS (pg xs k).each ++ ⟨#[32]⟩ ++ decS (pg xs k).price)) := by
    unfold bodyP
    simp only [ByteArray.append_assoc]
  have hs : splitB 32 (bodyP xs k) = [(pg xs k).name, ofP xs k, decS (pg xs k).each, decS (pg xs k).price] := by
    rw [e, splitB_cut (nm_noP hp.1 rfl), splitB_cut (ofP_no h hk rfl (by decide)), splitB_cut (dec_noz _ rfl (by decide)), splitB_last (dec_noz _ rfl (by decide))]
  rw [rdW_four hs, readN_decS _ (by omega) (by omega), readN_decS _ (by omega) (by omega)]; rfl
theorem linesB_textP {xs : List Pc} (h : okP xs = true) : linesB 10 (textP xs xs.length) = some (bodsP xs xs.length) := by
  rw [textP_bods]
  refine linesB_textB 10 _ (fun x hx => ?_)
  obtain ⟨k, hk, rfl⟩ := List.mem_map.1 hx
  exact bodyP_no h (List.mem_range.1 hk)
theorem bods_len (xs : List Pc) (n : Nat) : (bodsP xs n).length = n := by unfold bodsP; simp
theorem bods_at (xs : List Pc) {n k : Nat} (hk : k < (bodsP xs n).length) : (bodsP xs n)[k] = bodyP xs k := by
  have hk' : k < ((List.range n).map (bodyP xs)).length := hk
  show ((List.range n).map (bodyP xs))[k]'hk' = _
  rw [List.getElem_map, List.getElem_range]
theorem take_pg {xs : List Pc} {k : Nat} (hk : k < xs.length) : xs.take (k + 1) = xs.take k ++ [pg xs k] := by
  rw [List.take_succ_eq_append_getElem hk, pg_at hk]
/-- what is read of a list's text is the list -/
theorem mkI_back {xs : List Pc} (h : okP xs = true) : ∀ k, k ≤ xs.length → mkI (bodsP xs xs.length) k = xs.take k := by
  intro k
  induction k with
  | zero => intro _; rfl
  | succ k ih =>
    intro hk
    have hkb : k < (bodsP xs xs.length).length := by rw [bods_len]; omega
    obtain ⟨_, hp, hs, _⟩ := okP_ok h
    rw [mkI_step hkb (by rw [bods_at]; exact rdW_body h (by omega)), ih (by omega), take_pg (by omega)]
    have hl : (xs.take k).length = k := by rw [List.length_take]; omega
    have hpar : nmI (xs.take k) (ofP xs k) (xs.take k).length = (pg xs k).par := by
      rw [hl]
      by_cases h0 : k = 0
      · subst h0
        rw [hs.par0 (by omega)]; rfl
      · have hpi := hs.par k (by omega) (by omega)
        unfold ofP
        rw [if_neg (by omega), nmI_par hp k (by omega) (by omega)]
        omega
    rw [hpar]
theorem mkZ_back {xs : List Pc} (h : okP xs = true) : ∀ k, k ≤ xs.length → mkZ (bodsP xs xs.length) k = xs.take k := by
  intro k
  induction k with
  | zero => intro _; rfl
  | succ k ih =>
    intro hk
    have hkb : k < (bodsP xs xs.length).length := by rw [bods_len]; omega
    obtain ⟨_, hp, hs, _⟩ := okP_ok h
    rw [mkZ_step hkb (by rw [bods_at]; exact rdW_body h (by omega)), ih (by omega), take_pg (by omega)]
    have hl : (xs.take k).length = k := by rw [List.length_take]; omega
    have hpar : nmZ (xs.take k) (ofP xs k) (xs.take k).length = (pg xs k).par := by
      rw [hl]
      by_cases h0 : k = 0
      · subst h0
        rw [hs.par0 (by omega)]; rfl
      · have hpi := hs.par k (by omega) (by omega)
        unfold ofP
        rw [if_neg (by omega), nmZ_par hp (by omega) k (by omega) (Nat.le_refl _)]
        omega
    rw [hpar]
/-- the list that a text tells: the one whose text it is -/
def rdPcs (s : ByteArray) : Option (List Pc) := match linesB 10 s with
  | none => none
  | some l => if okP (mkI l l.length) = true ∧ textP (mkI l l.length) (mkI l l.length).length = s then some (mkI l l.length) else none
theorem rdPcs_iff {s : ByteArray} {xs : List Pc} : rdPcs s = some xs ↔ (okP xs = true ∧ textP xs xs.length = s) := by
  constructor
  · intro h
    unfold rdPcs at h
    split at h
    · cases h
    · split at h
      · rename_i h1
        have := Option.some.inj h
        subst this
        exact h1
      · cases h
  · rintro ⟨h1, rfl⟩
    unfold rdPcs
    rw [linesB_textP h1]
    simp only
    rw [bods_len, mkI_back h1 _ (Nat.le_refl _), List.take_length, if_pos ⟨h1, rfl⟩]
theorem rdPcs_lines {s : ByteArray} {xs : List Pc} {l : List ByteArray} (h : rdPcs s = some xs) (hl : linesB 10 s = some l) : okP xs = true ∧ textP xs xs.length = s ∧ l = bodsP xs xs.length := by
  obtain ⟨h1, h2⟩ := rdPcs_iff.1 h
  refine ⟨h1, h2, ?_⟩
  rw [← h2, linesB_textP h1] at hl
  exact (Option.some.inj hl).symm
theorem rdPcs_none {s : ByteArray} (h : linesB 10 s = none) : rdPcs s = none := by unfold rdPcs; rw [h]
theorem rdPcs_bad {s : ByteArray} {l : List ByteArray} (h : linesB 10 s = some l) (k : Nat) (hk : k < l.length) (hb : rdW l[k] = none) : rdPcs s = none := by
  cases hr : rdPcs s with
  | none => rfl
  | some xs =>
    obtain ⟨h1, h2, h3⟩ := rdPcs_lines hr h
    subst h3
    have hk' : k < xs.length := by rw [bods_len] at hk; exact hk
    rw [bods_at, rdW_body h1 hk'] at hb
    cases hb
theorem rdPcs_long {s : ByteArray} {l : List ByteArray} (h : linesB 10 s = some l) (hl : 40 < l.length) : rdPcs s = none := by
  cases hr : rdPcs s with
  | none => rfl
  | some xs =>
    obtain ⟨h1, h2, h3⟩ := rdPcs_lines hr h
    subst h3
    rw [bods_len] at hl
    have := (okP_ok h1).1
    omega
/-- the program's end -/
theorem rdPcs_prog {s : ByteArray} {l : List ByteArray} (h : linesB 10 s = some l) : rdPcs s = if txP (mkI l l.length) = s ∧ s ≠ ⟨#[]⟩ then some (mkI l l.length) else none := by
  cases hr : rdPcs s with
  | some xs =>
    obtain ⟨h1, h2, h3⟩ := rdPcs_lines hr h
    have h4 := mkI_back h1 _ (Nat.le_refl _)
    rw [← h3, List.take_length] at h4
    have hl : l.length = xs.length := by rw [h3, bods_len]
    rw [hl, h4, if_pos]
    refine ⟨by unfold txP; rw [h1]; exact h2, fun e => ?_⟩
    rw [e, linesB_nil 10 _ rfl] at h
    have := Option.some.inj h
    rw [← this] at hl
    have := (okP_ok h1).1
    simp at hl
    omega
  | none =>
    symm
    rw [if_neg]
    rintro ⟨e1, e2⟩
    have hk : okP (mkI l l.length) = true := by
      cases hq : okP (mkI l l.length) with
      | true => rfl
      | false => unfold txP at e1; rw [hq] at e1; exact absurd e1.symm e2
    have : rdPcs s = some (mkI l l.length) := rdPcs_iff.2 ⟨hk, by unfold txP at e1; rw [hk] at e1; exact e1⟩
    rw [hr] at this
    cases this
/-- the reference's tests of a line -/
theorem rdPcs_ref {s : ByteArray} {xs : List Pc} {l : List ByteArray} (h : rdPcs s = some xs) (hl : linesB 10 s = some l) {k : Nat} (hk : k < l.length) {r : Rw} (hr : rdW l[k] = some r) :
    (k = 0 → r.up = ⟨#[45]⟩) ∧ (0 < k → 0 ≤ nmZ (mkZ l k) r.up (mkZ l k).length) := by
  obtain ⟨h1, h2, h3⟩ := rdPcs_lines h hl
  obtain ⟨_, hp, hs, _⟩ := okP_ok h1
  subst h3
  have hk' : k < xs.length := by rw [bods_len] at hk; exact hk
  rw [bods_at, rdW_body h1 hk'] at hr
  have hr := Option.some.inj hr
  subst hr
  have hz := mkZ_back h1 k (by omega)
  have hlk : (xs.take k).length = k := by rw [List.length_take]; omega
  refine ⟨fun h0 => ?_, fun h0 => ?_⟩
  · subst h0
    show ofP xs 0 = _
    unfold ofP
    rw [hs.par0 hk', if_pos (by omega)]
  · have hpi := hs.par k h0 hk'
    rw [hz, hlk]
    show 0 ≤ nmZ (xs.take k) (ofP xs k) k
    unfold ofP
    rw [if_neg (by omega), nmZ_par hp (by omega) k (by omega) (Nat.le_refl _)]
    omega
theorem nmZ_name {xs : List Pc} {s : ByteArray} : ∀ m, 0 ≤ nmZ xs s m → ∃ p : Nat, p < m ∧ nmZ xs s m = (p : Int) ∧ (pg xs p).name = s
  | 0, h => by unfold nmZ at h; omega
  | m + 1, h => by
    unfold nmZ at h ⊢
    by_cases e : (pg xs m).name = s
    · rw [if_pos e] at h ⊢
      exact ⟨m, by omega, rfl, e⟩
    · rw [if_neg e] at h ⊢
      obtain ⟨p, h1, h2, h3⟩ := nmZ_name m h
      exact ⟨p, by omega, h2, h3⟩
/-- the first k lines pass the reference's tests -/
def ckZ (l : List ByteArray) (k : Nat) : Prop := ∀ i (hi : i < l.length), i < k → ∃ r, rdW l[i] = some r ∧ (i = 0 → r.up = ⟨#[45]⟩) ∧ (0 < i → 0 ≤ nmZ (mkZ l i) r.up (mkZ l i).length)
theorem ckZ_ok {l : List ByteArray} {k : Nat} (h : ckZ l k) : okWs l k := fun i hi hk => by
  obtain ⟨r, hr, _⟩ := h i hi hk
  rw [hr]; rfl
theorem mkZ_pref {l : List ByteArray} : ∀ n, n ≤ l.length → okWs l n → ∀ k, k ≤ n → (mkZ l n).take k = mkZ l k := by
  intro n
  induction n with
  | zero => intro _ _ k hk; rw [Nat.le_zero.1 hk]; rfl
  | succ n ih =>
    intro hn ho k hk
    have ho' : okWs l n := fun i hi h2 => ho i hi (by omega)
    by_cases e : k = n + 1
    · subst e
      rw [List.take_of_length_le (by rw [mkZ_len _ hn ho]; exact Nat.le_refl _)]
    · obtain ⟨r, hr⟩ := Option.isSome_iff_exists.1 (ho n (by omega) (by omega))
      rw [mkZ_step (by omega) hr, List.take_append_of_le_length (by rw [mkZ_len n (by omega) ho']; omega), ih (by omega) ho' k (by omega)]
theorem mkZ_pg {l : List ByteArray} {n k : Nat} (hn : n ≤ l.length) (ho : okWs l n) (hk : k < n) {r : Rw} (hr : rdW (l[k]'(by omega)) = some r) : pg (mkZ l n) k = ⟨r.nm, nmZ (mkZ l k) r.up (mkZ l k).length, r.ea, r.pr⟩ := by
  have ho' : okWs l k := fun i hi h2 => ho i hi (by omega)
  have h1 := mkZ_pref n hn ho (k + 1) (by omega)
  have h2 := mkZ_step (by omega) hr
  have hl := mkZ_len k (by omega) ho'
  have h3 : pg (mkZ l n) k = pg ((mkZ l n).take (k + 1)) k := by
    have := pg_appL (xs := (mkZ l n).take (k + 1)) (ys := (mkZ l n).drop (k + 1)) (k := k) (by rw [List.length_take, mkZ_len n hn ho]; omega)
    rw [List.take_append_drop] at this
    exact this
  rw [h3, h1, h2]
  have := pg_last (mkZ l k) ⟨r.nm, nmZ (mkZ l k) r.up (mkZ l k).length, r.ea, r.pr⟩
  rw [hl] at this
  rw [hl]
  exact this
/-- the reference's end -/
theorem rdPcs_refl {s : ByteArray} {l : List ByteArray} (hl : linesB 10 s = some l) (hc : ckZ l l.length) : rdPcs s = if okP (mkZ l l.length) = true then some (mkZ l l.length) else none := by
  have ho := ckZ_ok hc
  have hlen := mkZ_len l.length (Nat.le_refl _) ho
  cases hr : rdPcs s with
  | some xs =>
    obtain ⟨h1, h2, h3⟩ := rdPcs_lines hr hl
    have h4 := mkZ_back h1 _ (Nat.le_refl _)
    rw [← h3, List.take_length] at h4
    have hl2 : l.length = xs.length := by rw [h3, bods_len]
    rw [hl2, h4, if_pos h1]
  | none =>
    symm
    rw [if_neg]
    intro hk
    have ht : textP (mkZ l l.length) (mkZ l l.length).length = s := by
      rw [textP_bods, ← linesB_text 10 s.size s (Nat.le_refl _) l hl, hlen]
      congr 1
      refine List.ext_getElem (by rw [bods_len]) (fun i h1 h2 => ?_)
      rw [bods_at]
      obtain ⟨r, hr2, c1, c2⟩ := hc i h2 h2
      have hp := mkZ_pg (Nat.le_refl _) ho h2 hr2
      rw [rdW_text hr2]
      have hof : ofP (mkZ l l.length) i = r.up := by
        obtain ⟨_, _, hs, _⟩ := okP_ok hk
        unfold ofP
        by_cases h0 : i = 0
        · have hpar := hs.par0 (by omega)
          subst h0
          rw [hpar, if_pos (by omega), c1 rfl]
        · have hpi := hs.par i (by omega) (by omega)
          rw [if_neg (by omega)]
          obtain ⟨p, p1, p2, p3⟩ := nmZ_name _ (c2 (by omega))
          have hpar : (pg (mkZ l l.length) i).par = (p : Int) := by rw [hp]; exact p2
          rw [hpar, Int.toNat_natCast]
          have hli := mkZ_len i (by omega) (fun j hj h3 => ho j hj (by omega))
          have e : pg (mkZ l l.length) p = pg (mkZ l i) p := by
            have h3 := mkZ_pref l.length (Nat.le_refl _) ho i (by omega)
            have := pg_appL (xs := (mkZ l l.length).take i) (ys := (mkZ l l.length).drop i) (k := p) (by rw [h3]; omega)
            rw [List.take_append_drop, h3] at this
            exact this
          rw [e, p3]
      unfold bodyP
      rw [hof, hp]
    have : rdPcs s = some (mkZ l l.length) := rdPcs_iff.2 ⟨hk, ht⟩
    rw [hr] at this
    cases this
theorem txP_back {xs : List Pc} (h : txP xs ≠ ⟨#[]⟩) : rdPcs (txP xs) = some xs := by
  unfold txP at *
  cases hk : okP xs with
  | true => exact rdPcs_iff.2 ⟨hk, rfl⟩
  | false => rw [hk] at h; exact absurd rfl h
theorem txP_nil : rdPcs ⟨#[]⟩ = none := by
  cases hr : rdPcs ⟨#[]⟩ with
  | none => rfl
  | some xs =>
    obtain ⟨h1, h2, h3⟩ := rdPcs_lines hr (linesB_nil 10 _ rfl)
    have := congrArg List.length h3
    rw [bods_len] at this
    have h4 := (okP_ok h1).1
    simp at this
    omega
end Go.Proofs.YtepgfcjfdnakbaaDoor
/- Jobs, texts and laws, part 5: the text of jobs, in plain words. -/
namespace Go.Proofs.YtepgfcjfdnakbaaDoor
open Go.RowKit Go.Joins

/-- words behind a line's head, each with a space ahead of it -/
def tailJ : List ByteArray → ByteArray
  | [] => ⟨#[]⟩
  | w :: ws => ⟨#[32]⟩ ++ w ++ tailJ ws
theorem tailJ_snoc (w : ByteArray) : ∀ ws, tailJ (ws ++ [w]) = tailJ ws ++ (⟨#[32]⟩ ++ w)
  | [] => by
    show ⟨#[32]⟩ ++ w ++ ⟨#[]⟩ = ⟨#[]⟩ ++ (⟨#[32]⟩ ++ w)
    refine ba_inj ?_
    rw [ByteArray.toList_eq, ByteArray.toList_eq]
    simp
  | x :: ws => by
    show ⟨#[32]⟩ ++ x ++ tailJ (ws ++ [w]) = ⟨#[32]⟩ ++ x ++ tailJ ws ++ (⟨#[32]⟩ ++ w)
    rw [tailJ_snoc w ws]
    simp only [ByteArray.append_assoc]
/-- the names of needs -/
def ndNms (xs : List Jb) (nd : List Int) : List ByteArray := nd.map fun n => (jg xs n.toNat).nm
def ndT (xs : List Jb) (nd : List Int) (i : Nat) : ByteArray := tailJ ((ndNms xs nd).take i)
theorem ndT_step (xs : List Jb) {nd : List Int} {i : Nat} (h : i < nd.length) : ndT xs nd (i + 1) = ndT xs nd i ++ (⟨#[32]⟩ ++ (jg xs (nd.getD i 0).toNat).nm) := by
  unfold ndT
  have hl : i < (ndNms xs nd).length := by unfold ndNms; rw [List.length_map]; exact h
  rw [List.take_succ_eq_append_getElem hl, tailJ_snoc]
  have e : (ndNms xs nd)[i] = (jg xs (nd.getD i 0).toNat).nm := by
    have hm : i < (nd.map fun n => (jg xs n.toNat).nm).length := hl
    show (nd.map fun n => (jg xs n.toNat).nm)[i]'hm = _
    rw [List.getElem_map, getD_getI h]
  rw [e]
theorem ndT_zero (xs : List Jb) (nd : List Int) : ndT xs nd 0 = ⟨#[]⟩ := rfl
theorem ndT_all (xs : List Jb) (nd : List Int) : ndT xs nd nd.length = tailJ (ndNms xs nd) := by
  unfold ndT
  rw [List.take_of_length_le (by unfold ndNms; rw [List.length_map]; exact Nat.le_refl _)]
def headJ (xs : List Jb) (k : Nat) : ByteArray := (jg xs k).nm ++ ⟨#[32]⟩ ++ decS (jg xs k).days ++ ⟨#[32]⟩ ++ decS (jg xs k).cost
def bodyJ (xs : List Jb) (k : Nat) : ByteArray := headJ xs k ++ ndT xs (jg xs k).needs (jg xs k).needs.length
def textJ (xs : List Jb) : Nat → ByteArray
  | 0 => ⟨#[]⟩
  | k + 1 => textJ xs k ++ (bodyJ xs k ++ ⟨#[10]⟩)
/-- the text of a list, empty where it is not valid -/
def txJ (xs : List Jb) : ByteArray := if okJ xs then textJ xs xs.length else ⟨#[]⟩
/-- what a text needs -/
structure GoodJ (xs : List Jb) : Prop where
  len : xs.length ≤ 30
  need : ∀ k, k < xs.length → ∀ n ∈ (jg xs k).needs, 0 ≤ n ∧ n < (k : Int)
  days : ∀ k, k < xs.length → 0 ≤ (jg xs k).days ∧ (jg xs k).days ≤ 1000000
  cost : ∀ k, k < xs.length → 0 ≤ (jg xs k).cost ∧ (jg xs k).cost ≤ 1000000
theorem OkJ.good {xs : List Jb} (h : OkJ xs) : GoodJ xs := ⟨h.len, h.need, fun k hk => by have := h.days k hk; omega, h.cost⟩
theorem good_at {xs : List Jb} (h : GoodJ xs) {k i : Nat} (hk : k < xs.length) (hi : i < (jg xs k).needs.length) : ∃ p : Nat, p < k ∧ (jg xs k).needs.getD i 0 = (p : Int) ∧ (jg xs k).needs[i] = (p : Int) := by
  have := h.need k hk _ (List.getElem_mem hi)
  exact ⟨((jg xs k).needs[i]).toNat, by omega, by rw [getD_getI hi]; omega, by omega⟩
/-! sizes -/
theorem headJ_sizes {a d e : ByteArray} : (a ++ ⟨#[32]⟩ : ByteArray).size = a.size + 1 ∧ (a ++ ⟨#[32]⟩ ++ d : ByteArray).size = a.size + 1 + d.size ∧ (a ++ ⟨#[32]⟩ ++ d ++ ⟨#[32]⟩ : ByteArray).size = a.size + 1 + d.size + 1 ∧ (a ++ ⟨#[32]⟩ ++ d ++ ⟨#[32]⟩ ++ e : ByteArray).size = a.size + 1 + d.size + 1 + e.size := by
  have p1 : (a ++ ⟨#[32]⟩ : ByteArray).size = a.size + 1 := ByteArray.size_append
  have p2 : (a ++ ⟨#[32]⟩ ++ d : ByteArray).size = a.size + 1 + d.size := by rw [ByteArray.size_append, p1]
  have p3 : (a ++ ⟨#[32]⟩ ++ d ++ ⟨#[32]⟩ : ByteArray).size = a.size + 1 + d.size + 1 := by rw [ByteArray.size_append, p2]; rfl
  exact ⟨p1, p2, p3, by rw [ByteArray.size_append, p3]⟩
theorem headJ_size {xs : List Jb} (hg : GoodJ xs) (hz : szJ xs) {k : Nat} (hk : k < xs.length) : (headJ xs k).size ≤ 1048620 := by
  have h1 := hg.days k hk
  have h2 := hg.cost k hk
  have a := (hz k hk).1
  have c := decS_size (jg xs k).days (by omega) (by omega)
  have d := decS_size (jg xs k).cost (by omega) (by omega)
  unfold headJ
  rw [headJ_sizes.2.2.2]
  omega
theorem tailJ_size : ∀ ws : List ByteArray, (∀ w ∈ ws, w.size ≤ 1048576) → (tailJ ws).size ≤ ws.length * 1048577
  | [], _ => Nat.le_refl _
  | w :: ws, h => by
    have h1 := tailJ_size ws (fun y hy => h y (by simp [hy]))
    have h2 := h w (by simp)
    show (⟨#[32]⟩ ++ w ++ tailJ ws : ByteArray).size ≤ _
    rw [ByteArray.size_append, ByteArray.size_append, List.length_cons]
    have h3 : (⟨#[32]⟩ : ByteArray).size = 1 := rfl
    omega
theorem ndT_size {xs : List Jb} (hg : GoodJ xs) (hz : szJ xs) {k : Nat} (hk : k < xs.length) (i : Nat) (hi : i ≤ (jg xs k).needs.length) : (ndT xs (jg xs k).needs i).size ≤ i * 1048577 := by
  have h := tailJ_size ((ndNms xs (jg xs k).needs).take i) (fun w hw => by
    obtain ⟨n, hn, rfl⟩ := List.mem_map.1 (List.mem_of_mem_take hw)
    have := hg.need k hk n hn
    exact (hz n.toNat (by omega)).1)
  unfold ndT
  refine Nat.le_trans h (Nat.mul_le_mul_right _ ?_)
  rw [List.length_take]
  omega
theorem bodyJ_size {xs : List Jb} (hg : GoodJ xs) (hz : szJ xs) {k : Nat} (hk : k < xs.length) : (bodyJ xs k).size ≤ 1099513800000 := by
  have h1 := headJ_size hg hz hk
  have h2 := ndT_size hg hz hk _ (Nat.le_refl _)
  have h3 := (hz k hk).2
  unfold bodyJ
  rw [ByteArray.size_append]
  have h4 : (jg xs k).needs.length * 1048577 ≤ 1048576 * 1048577 := Nat.mul_le_mul_right _ h3
  omega
theorem textJ_size {xs : List Jb} (hg : GoodJ xs) (hz : szJ xs) : ∀ k, k ≤ xs.length → (textJ xs k).size ≤ k * 1099513900000
  | 0, _ => Nat.le_refl _
  | k + 1, hk => by
    show (textJ xs k ++ (bodyJ xs k ++ ⟨#[10]⟩) : ByteArray).size ≤ _
    rw [ByteArray.size_append, ByteArray.size_append]
    have h1 := textJ_size hg hz k (by omega)
    have h2 := bodyJ_size hg hz (k := k) (by omega)
    have h3 : (⟨#[10]⟩ : ByteArray).size = 1 := rfl
    omega
/-! the words of a line -/
structure Wj where
  nm : ByteArray
  days : Int
  cost : Int
  ws : List ByteArray
def mkWj (x : ByteArray) (ws : List ByteArray) (a b : Option Int) : Option Wj := match a, b with
  | some a, some b => some ⟨x, a, b, ws⟩
  | _, _ => none
def rdWJ (s : ByteArray) : Option Wj := match splitB 32 s with
  | x :: a :: b :: ws => mkWj x ws (readN a) (readN b)
  | _ => none
theorem rdWJ_more {s x a b : ByteArray} {ws : List ByteArray} (h : splitB 32 s = x :: a :: b :: ws) : rdWJ s = mkWj x ws (readN a) (readN b) := by unfold rdWJ; rw [h]
theorem rdWJ_few {s : ByteArray} (h : (splitB 32 s).length < 3) : rdWJ s = none := by
  unfold rdWJ
  split
  · rename_i he; rw [he] at h; simp at h; omega
  · rfl
theorem mkWj_some {x : ByteArray} {ws : List ByteArray} {a b : Option Int} {r : Wj} (h : mkWj x ws a b = some r) : r.nm = x ∧ r.ws = ws ∧ a = some r.days ∧ b = some r.cost := by
  cases a with
  | none => cases h
  | some a =>
    cases b with
    | none => cases h
    | some b =>
      have := Option.some.inj h
      subst this
      exact ⟨rfl, rfl, rfl, rfl⟩
theorem mkWj_fin {x : ByteArray} {ws : List ByteArray} {a b : Option Int} : (mkWj x ws a b).isSome = (a.isSome && b.isSome) ∧ ∀ r, mkWj x ws a b = some r → r = ⟨x, a.getD 0, b.getD 0, ws⟩ := by
  cases a with
  | none => exact ⟨rfl, fun r h => by cases h⟩
  | some a =>
    cases b with
    | none => exact ⟨rfl, fun r h => by cases h⟩
    | some b => exact ⟨rfl, fun r h => (Option.some.inj h).symm⟩
theorem three_ofJ {L : List ByteArray} (h : ¬ L.length < 3) : ∃ x a b ws, L = x :: a :: b :: ws := by
  match L, h with
  | x :: a :: b :: ws, _ => exact ⟨x, a, b, ws, rfl⟩
  | [], h => exact absurd (by simp) h
  | [_], h => exact absurd (by simp) h
  | [_, _], h => exact absurd (by simp) h
theorem splitB_tail : ∀ (ws : List ByteArray) {s x : ByteArray}, splitB 32 s = x :: ws → s = x ++ tailJ ws
  | [], s, x, h => by
    rw [splitB_one h]
    show x = x ++ ⟨#[]⟩
    refine ba_inj ?_
    rw [ByteArray.toList_eq, ByteArray.toList_eq]
    simp
  | w :: ws, s, x, h => by
    obtain ⟨r, h1, h2⟩ := splitB_cons h
    rw [h1, splitB_tail ws h2]
    show _ = x ++ (⟨#[32]⟩ ++ w ++ tailJ ws)
    simp only [ByteArray.append_assoc]
theorem tail_splitB : ∀ (ws : List ByteArray) {x : ByteArray}, hasNo 32 x → (∀ w ∈ ws, hasNo 32 w) → splitB 32 (x ++ tailJ ws) = x :: ws
  | [], x, h, _ => by
    have : x ++ tailJ [] = x := by
      show x ++ ⟨#[]⟩ = x
      refine ba_inj ?_
      rw [ByteArray.toList_eq, ByteArray.toList_eq]
      simp
    rw [this, splitB_last h]
  | w :: ws, x, h, hw => by
    have : x ++ tailJ (w :: ws) = x ++ ⟨#[32]⟩ ++ (w ++ tailJ ws) := by
      show x ++ (⟨#[32]⟩ ++ w ++ tailJ ws) = _
      simp only [ByteArray.append_assoc]
    rw [this, splitB_cut h, tail_splitB ws (hw w (by simp)) (fun y hy => hw y (by simp [hy]))]
theorem rdWJ_text {s : ByteArray} {r : Wj} (h : rdWJ s = some r) : s = r.nm ++ ⟨#[32]⟩ ++ decS r.days ++ ⟨#[32]⟩ ++ decS r.cost ++ tailJ r.ws := by
  unfold rdWJ at h
  split at h
  · rename_i x a b ws he
    obtain ⟨e1, e2, e3, e4⟩ := mkWj_some h
    rw [readN_dec e3, readN_dec e4, e1, e2, splitB_tail _ he]
    show x ++ (⟨#[32]⟩ ++ a ++ (⟨#[32]⟩ ++ b ++ tailJ ws)) = _
    simp only [ByteArray.append_assoc]
  · cases h
theorem rdWJ_size {s : ByteArray} {r : Wj} (h : rdWJ s = some r) : r.nm.size ≤ s.size ∧ r.ws.length ≤ s.size + 1 := by
  unfold rdWJ at h
  split at h
  · rename_i x a b ws he
    obtain ⟨e1, e2, _, _⟩ := mkWj_some h
    have h1 := splitB_mem 32 s.size s (Nat.le_refl _)
    have h2 := splitB_len 32 s.size s (Nat.le_refl _)
    rw [he] at h1 h2
    simp only [List.length_cons] at h2
    rw [e1, e2]
    exact ⟨h1 x (by simp), by omega⟩
  · cases h
/-- the last job with a name -/
def lastJ (xs : List Jb) (s : ByteArray) : Nat → Int
  | 0 => -1
  | m + 1 => if (jg xs m).nm = s then (m : Int) else lastJ xs s m
theorem lastJ_bd (xs : List Jb) (s : ByteArray) : ∀ m, -1 ≤ lastJ xs s m ∧ lastJ xs s m < (m : Int)
  | 0 => by unfold lastJ; omega
  | m + 1 => by
    have := lastJ_bd xs s m
    unfold lastJ
    split <;> omega
theorem lastJ_name {xs : List Jb} {s : ByteArray} : ∀ m, 0 ≤ lastJ xs s m → (jg xs (lastJ xs s m).toNat).nm = s
  | 0, h => by unfold lastJ at h; omega
  | m + 1, h => by
    unfold lastJ at h ⊢
    by_cases e : (jg xs m).nm = s
    · rw [if_pos e, Int.toNat_natCast]; exact e
    · rw [if_neg e] at h ⊢; exact lastJ_name m h
theorem jg_appL {xs ys : List Jb} {k : Nat} (h : k < xs.length) : jg (xs ++ ys) k = jg xs k := getD_left _ _ _ _ h
theorem jg_last (xs : List Jb) (x : Jb) : jg (xs ++ [x]) xs.length = x := getD_last _ _ _
theorem jg_take {xs : List Jb} {n k : Nat} (h : k < n) (hn : n ≤ xs.length) : jg (xs.take n) k = jg xs k := by
  have := jg_appL (xs := xs.take n) (ys := xs.drop n) (k := k) (by rw [List.length_take]; omega)
  rw [List.take_append_drop] at this
  exact this.symm
theorem lastJ_congr {xs ys : List Jb} {s : ByteArray} : ∀ m, (∀ i, i < m → jg xs i = jg ys i) → lastJ xs s m = lastJ ys s m
  | 0, _ => rfl
  | m + 1, h => by
    unfold lastJ
    rw [h m (by omega), lastJ_congr m fun i hi => h i (by omega)]
/-- the list that lines make -/
def addJ (xs : List Jb) (l : ByteArray) : List Jb := match rdWJ l with
  | some r => xs ++ [⟨r.nm, r.days, r.cost, r.ws.map fun s => lastJ xs s xs.length⟩]
  | none => xs
def mkJ (l : List ByteArray) (k : Nat) : List Jb := (l.take k).foldl addJ []
theorem mkJ_step {l : List ByteArray} {k : Nat} {r : Wj} (hk : k < l.length) (h : rdWJ l[k] = some r) : mkJ l (k + 1) = mkJ l k ++ [⟨r.nm, r.days, r.cost, r.ws.map fun s => lastJ (mkJ l k) s (mkJ l k).length⟩] := by
  unfold mkJ
  rw [List.take_succ_eq_append_getElem hk, List.foldl_append]
  show addJ _ l[k] = _
  unfold addJ
  rw [h]
/-- the first k lines have their words -/
def okWJ (l : List ByteArray) (k : Nat) : Prop := ∀ i (hi : i < l.length), i < k → (rdWJ l[i]).isSome = true
theorem okWJ_step {l : List ByteArray} {k : Nat} (h : okWJ l k) {r : Wj} (hk : k < l.length) (hr : rdWJ l[k] = some r) : okWJ l (k + 1) := fun i hi h2 => by
  by_cases e : i = k
  · subst e; rw [hr]; rfl
  · exact h i hi (by omega)
theorem mkJ_len {l : List ByteArray} : ∀ k, k ≤ l.length → okWJ l k → (mkJ l k).length = k := by
  intro k
  induction k with
  | zero => intro _ _; rfl
  | succ k ih =>
    intro hk ho
    obtain ⟨r, hr⟩ := Option.isSome_iff_exists.1 (ho k (by omega) (by omega))
    rw [mkJ_step (by omega) hr, List.length_append, ih (by omega) (fun i hi hk' => ho i hi (by omega))]; rfl
theorem mkJ_pref {l : List ByteArray} : ∀ n, n ≤ l.length → okWJ l n → ∀ k, k ≤ n → (mkJ l n).take k = mkJ l k := by
  intro n
  induction n with
  | zero => intro _ _ k hk; rw [Nat.le_zero.1 hk]; rfl
  | succ n ih =>
    intro hn ho k hk
    have ho' : okWJ l n := fun i hi h2 => ho i hi (by omega)
    by_cases e : k = n + 1
    · subst e
      rw [List.take_of_length_le (by rw [mkJ_len _ hn ho]; exact Nat.le_refl _)]
    · obtain ⟨r, hr⟩ := Option.isSome_iff_exists.1 (ho n (by omega) (by omega))
      rw [mkJ_step (by omega) hr, List.take_append_of_le_length (by rw [mkJ_len n (by omega) ho']; omega), ih (by omega) ho' k (by omega)]
theorem mkJ_jg {l : List ByteArray} {n k : Nat} (hn : n ≤ l.length) (ho : okWJ l n) (hk : k < n) {r : Wj} (hr : rdWJ (l[k]'(by omega)) = some r) : jg (mkJ l n) k = ⟨r.nm, r.days, r.cost, r.ws.map fun s => lastJ (mkJ l k) s (mkJ l k).length⟩ := by
  have ho' : okWJ l k := fun i hi h2 => ho i hi (by omega)
  have h1 := mkJ_pref n hn ho (k + 1) (by omega)
  have h2 := mkJ_step (by omega) hr
  have hl := mkJ_len k (by omega) ho'
  have h3 := jg_take (xs := mkJ l n) (n := k + 1) (k := k) (by omega) (by rw [mkJ_len n hn ho]; omega)
  rw [← h3, h1, h2]
  have := jg_last (mkJ l k) ⟨r.nm, r.days, r.cost, r.ws.map fun s => lastJ (mkJ l k) s (mkJ l k).length⟩
  rw [hl] at this
  rw [hl]
  exact this
/-- the jobs that a text tells -/
def rdJobs (s : ByteArray) : Option (List Jb) := match linesB 10 s with
  | none => none
  | some l => if (l.all fun x => (rdWJ x).isSome) = true ∧ okJ (mkJ l l.length) = true then some (mkJ l l.length) else none
theorem rdJobs_none {s : ByteArray} (h : linesB 10 s = none) : rdJobs s = none := by unfold rdJobs; rw [h]
theorem rdJobs_bad {s : ByteArray} {l : List ByteArray} (h : linesB 10 s = some l) (k : Nat) (hk : k < l.length) (hb : rdWJ l[k] = none) : rdJobs s = none := by
  unfold rdJobs
  rw [h]
  show (if _ then _ else _) = _
  rw [if_neg]
  rintro ⟨h1, _⟩
  have := List.all_eq_true.1 h1 _ (List.getElem_mem hk)
  rw [hb] at this; cases this
theorem all_okWJ {l : List ByteArray} (h : okWJ l l.length) : (l.all fun x => (rdWJ x).isSome) = true := by
  rw [List.all_eq_true]
  intro x hx
  obtain ⟨i, hi, rfl⟩ := List.mem_iff_getElem.1 hx
  exact h i hi hi
theorem okWJ_all {l : List ByteArray} (h : (l.all fun x => (rdWJ x).isSome) = true) : okWJ l l.length := fun i hi _ => List.all_eq_true.1 h _ (List.getElem_mem hi)
theorem rdJobs_all {s : ByteArray} {l : List ByteArray} (h : linesB 10 s = some l) (ho : okWJ l l.length) : rdJobs s = if okJ (mkJ l l.length) = true then some (mkJ l l.length) else none := by
  unfold rdJobs
  rw [h]
  show (if _ then _ else _) = _
  by_cases hk : okJ (mkJ l l.length) = true
  · rw [if_pos ⟨all_okWJ ho, hk⟩, if_pos hk]
  · rw [if_neg (fun h => hk h.2), if_neg hk]
theorem rdJobs_long {s : ByteArray} {l : List ByteArray} (h : linesB 10 s = some l) (hl : 30 < l.length) : rdJobs s = none := by
  unfold rdJobs
  rw [h]
  show (if _ then _ else _) = _
  rw [if_neg]
  rintro ⟨h1, h2⟩
  have := (okJ_ok h2).len
  rw [mkJ_len _ (Nat.le_refl _) (okWJ_all h1)] at this
  omega
/-- an unknown name -/
theorem rdJobs_unk {s : ByteArray} {l : List ByteArray} (h : linesB 10 s = some l) (k : Nat) (hk : k < l.length) {r : Wj} (hr : rdWJ l[k] = some r) {w : ByteArray} (hw : w ∈ r.ws) (hn : lastJ (mkJ l k) w (mkJ l k).length < 0) : rdJobs s = none := by
  unfold rdJobs
  rw [h]
  show (if _ then _ else _) = _
  rw [if_neg]
  rintro ⟨h1, h2⟩
  have ho := okWJ_all h1
  have h3 := (okJ_ok h2).need k (by rw [mkJ_len _ (Nat.le_refl _) ho]; exact hk)
  rw [mkJ_jg (Nat.le_refl _) ho hk hr] at h3
  have := h3 _ (List.mem_map.2 ⟨w, hw, rfl⟩)
  omega
/-! a list's text is read back -/
def bodsJ (xs : List Jb) (n : Nat) : List ByteArray := (List.range n).map (bodyJ xs)
theorem bodsJ_len (xs : List Jb) (n : Nat) : (bodsJ xs n).length = n := by unfold bodsJ; simp
theorem bodsJ_at (xs : List Jb) {n k : Nat} (hk : k < (bodsJ xs n).length) : (bodsJ xs n)[k] = bodyJ xs k := by
  have hk' : k < ((List.range n).map (bodyJ xs)).length := hk
  show ((List.range n).map (bodyJ xs))[k]'hk' = _
  rw [List.getElem_map, List.getElem_range]
theorem textJ_bods (xs : List Jb) : ∀ n, textJ xs n = textB 10 (bodsJ xs n)
  | 0 => rfl
  | n + 1 => by
    unfold bodsJ
    rw [List.range_succ, List.map_append]
    show textJ xs n ++ (bodyJ xs n ++ ⟨#[10]⟩) = textB 10 ((List.range n).map (bodyJ xs) ++ [bodyJ xs n])
    rw [textB_snoc, textJ_bods xs n]; rfl
theorem okJ_jbB {xs : List Jb} (h : okJ xs = true) {k : Nat} (hk : k < xs.length) : jbB xs k = true := by
  unfold okJ at h
  simp only [Bool.and_eq_true, decide_eq_true_eq] at h
  exact allN_get h.2.1 hk
theorem nm_okJ {xs : List Jb} (h : okJ xs = true) {k : Nat} (hk : k < xs.length) : isNm (jg xs k).nm.data.toList = true := (jbB_ok (okJ_jbB h hk)).1
theorem newJ_ne {xs : List Jb} (h : okJ xs = true) {i j : Nat} (hij : i < j) (hj : j < xs.length) : (jg xs i).nm ≠ (jg xs j).nm := by
  have h1 := (jbB_ok (okJ_jbB h hj)).2.1
  have h2 := allN_get h1 hij
  simpa using h2
theorem lastJ_par {xs : List Jb} (h : okJ xs = true) {p n : Nat} (hn : n ≤ xs.length) : ∀ m, p < m → m ≤ n → lastJ (xs.take n) (jg xs p).nm m = (p : Int) := by
  intro m
  induction m with
  | zero => intro h0; omega
  | succ m ih =>
    intro hp hm
    show (if (jg (xs.take n) m).nm = (jg xs p).nm then (m : Int) else lastJ (xs.take n) (jg xs p).nm m) = (p : Int)
    rw [jg_take (by omega) hn]
    by_cases hmp : m = p
    · subst hmp; rw [if_pos rfl]
    · rw [if_neg (fun he => newJ_ne h (show p < m by omega) (by omega) he.symm), ih (by omega) (by omega)]
theorem ndNms_mem {xs : List Jb} (h : okJ xs = true) {k : Nat} (hk : k < xs.length) : ∀ w ∈ ndNms xs (jg xs k).needs, isNm w.data.toList = true := fun w hw => by
  obtain ⟨n, hn, rfl⟩ := List.mem_map.1 hw
  have := (okJ_ok h).need k hk n hn
  exact nm_okJ h (by omega)
theorem tailJ_no {c : UInt8} (hc : (32 : UInt8) ≠ c) : ∀ ws : List ByteArray, (∀ w ∈ ws, hasNo c w) → hasNo c (tailJ ws)
  | [], _ => fun b hb => by simp [tailJ] at hb
  | w :: ws, h => by
    refine hasNo_app (hasNo_app (fun b hb e => ?_) (h w (by simp))) (tailJ_no hc ws fun y hy => h y (by simp [hy]))
    have : b = 32 := by simpa using hb
    exact hc (this.symm.trans e)
theorem bodyJ_no {xs : List Jb} (h : okJ xs = true) {k : Nat} (hk : k < xs.length) : hasNo 10 (bodyJ xs k) := by
  unfold bodyJ headJ
  rw [ndT_all]
  exact hasNo_app (hasNo_app (hasNo_app (hasNo_app (hasNo_app (nm_noP (nm_okJ h hk) rfl) (lit_noP rfl)) (dec_noz _ rfl (by decide))) (lit_noP rfl)) (dec_noz _ rfl (by decide))) (tailJ_no (by decide) _ fun w hw => nm_noP (ndNms_mem h hk w hw) rfl)
theorem rdWJ_body {xs : List Jb} (h : okJ xs = true) {k : Nat} (hk : k < xs.length) : rdWJ (bodyJ xs k) = some ⟨(jg xs k).nm, (jg xs k).days, (jg xs k).cost, ndNms xs (jg xs k).needs⟩ := by
  have hp := jbB_ok (okJ_jbB h hk)
  have h2 := hp.2.2.1
  have h3 := hp.2.2.2.1
  have e : bodyJ xs k = (jg xs k).nm ++ tailJ (decS (jg xs k).days :: decS (jg xs k).cost :: ndNms xs (jg xs k).needs) := by
    unfold bodyJ headJ
    rw [ndT_all]
    show _ = (jg xs k).nm ++ (⟨#[32]⟩ ++ decS (jg xs k).days ++ (⟨#[32]⟩ ++ decS (jg xs k).cost ++ tailJ _))
    simp only [ByteArray.append_assoc]
  have hs : splitB 32 (bodyJ xs k) = (jg xs k).nm :: decS (jg xs k).days :: decS (jg xs k).cost :: ndNms xs (jg xs k).needs := by
    rw [e, tail_splitB _ (nm_noP hp.1 rfl) (fun w hw => ?_)]
    rcases List.mem_cons.1 hw with rfl | hw
    · exact dec_noz _ rfl (by decide)
    · rcases List.mem_cons.1 hw with rfl | hw
      · exact dec_noz _ rfl (by decide)
      · exact nm_noP (ndNms_mem h hk w hw) rfl
  rw [rdWJ_more hs, readN_decS _ (by omega) (by omega), readN_decS _ (by omega) (by omega)]; rfl
theorem linesB_textJ {xs : List Jb} (h : okJ xs = true) : linesB 10 (textJ xs xs.length) = some (bodsJ xs xs.length) := by
  rw [textJ_bods]
  refine linesB_textB 10 _ (fun x hx => ?_)
  obtain ⟨k, hk, rfl⟩ := List.mem_map.1 hx
  exact bodyJ_no h (List.mem_range.1 hk)
theorem take_jg {xs : List Jb} {k : Nat} (hk : k < xs.length) : xs.take (k + 1) = xs.take k ++ [jg xs k] := by
  rw [List.take_succ_eq_append_getElem hk, jg_at hk]
theorem mkJ_back {xs : List Jb} (h : okJ xs = true) : ∀ k, k ≤ xs.length → mkJ (bodsJ xs xs.length) k = xs.take k := by
  intro k
  induction k with
  | zero => intro _; rfl
  | succ k ih =>
    intro hk
    have hkb : k < (bodsJ xs xs.length).length := by rw [bodsJ_len]; omega
    rw [mkJ_step hkb (by rw [bodsJ_at]; exact rdWJ_body h (by omega)), ih (by omega), take_jg (by omega)]
    have hl : (xs.take k).length = k := by rw [List.length_take]; omega
    congr 2
    have hnd : (ndNms xs (jg xs k).needs).map (fun s => lastJ (xs.take k) s (xs.take k).length) = (jg xs k).needs := by
      unfold ndNms
      rw [List.map_map]
      refine (List.map_congr_left (g := fun n => n) fun n hn => ?_).trans (List.map_id' _)
      have h3 := (okJ_ok h).need k (by omega) n hn
      show lastJ (xs.take k) (jg xs n.toNat).nm (xs.take k).length = n
      rw [hl, lastJ_par h (p := n.toNat) (n := k) (by omega) k (by omega) (Nat.le_refl _)]
      omega
    dsimp only
    rw [hnd]
theorem rdJobs_back {xs : List Jb} (h : okJ xs = true) : rdJobs (textJ xs xs.length) = some xs := by
  rw [rdJobs_all (linesB_textJ h) (fun i hi h2 => by rw [bodsJ_at, rdWJ_body h (by rw [bodsJ_len] at hi; exact hi)]; rfl), bodsJ_len, mkJ_back h _ (Nat.le_refl _), List.take_length, if_pos h]
theorem txJ_back {xs : List Jb} (h : txJ xs ≠ ⟨#[]⟩) : rdJobs (txJ xs) = some xs := by
  unfold txJ at *
  cases hk : okJ xs with
  | true => exact rdJobs_back hk
  | false => rw [hk] at h; exact absurd rfl h
/-- the text of what is read is the text -/
theorem mkJ_text {s : ByteArray} {l : List ByteArray} (hl : linesB 10 s = some l) (ho : okWJ l l.length) (hk : okJ (mkJ l l.length) = true) : textJ (mkJ l l.length) (mkJ l l.length).length = s := by
  have hlen := mkJ_len l.length (Nat.le_refl _) ho
  rw [textJ_bods, ← linesB_text 10 s.size s (Nat.le_refl _) l hl, hlen]
  congr 1
  refine List.ext_getElem (by rw [bodsJ_len]) (fun i h1 h2 => ?_)
  rw [bodsJ_at]
  obtain ⟨r, hr2⟩ := Option.isSome_iff_exists.1 (ho i h2 h2)
  have hp := mkJ_jg (Nat.le_refl _) ho h2 hr2
  have hli := mkJ_len i (by omega) (fun j hj h3 => ho j hj (by omega))
  have hpre := mkJ_pref l.length (Nat.le_refl _) ho i (by omega)
  rw [rdWJ_text hr2]
  unfold bodyJ headJ
  rw [ndT_all]
  have hnd := (okJ_ok hk).need i (by rw [hlen]; exact h2)
  have hns : ndNms (mkJ l l.length) (jg (mkJ l l.length) i).needs = r.ws := by
    rw [hp] at hnd ⊢
    unfold ndNms
    dsimp only at hnd ⊢
    rw [List.map_map]
    refine (List.map_congr_left (g := fun s => s) fun w hw => ?_).trans (List.map_id' _)
    have h3 := hnd _ (List.mem_map.2 ⟨w, hw, rfl⟩)
    show (jg (mkJ l l.length) (lastJ (mkJ l i) w (mkJ l i).length).toNat).nm = w
    have h4 := lastJ_name (mkJ l i).length h3.1
    have h5 := jg_take (xs := mkJ l l.length) (n := i) (k := (lastJ (mkJ l i) w (mkJ l i).length).toNat) (by omega) (by rw [hlen]; omega)
    rw [hpre] at h5
    rw [← h5]
    exact h4
  rw [hns, hp]
/-- the program's end -/
theorem rdJobs_prog {s : ByteArray} {l : List ByteArray} (hl : linesB 10 s = some l) (ho : okWJ l l.length) (hk : okJ (mkJ l l.length) = true) : txJ (mkJ l l.length) = s := by
  unfold txJ
  rw [hk]
  exact mkJ_text hl ho hk
end Go.Proofs.YtepgfcjfdnakbaaDoor
/- Jobs, texts and laws, part 6: JobsText of the program. -/
namespace Go.Proofs.YtepgfcjfdnakbaaDoor
open Go.RowKit Go.Joins

/-- a line under way: i needs are written -/
def lnJ (xs : List Jb) (k i : Nat) : ByteArray := textJ xs k ++ headJ xs k ++ ndT xs (jg xs k).needs i
theorem lnJ_zero (xs : List Jb) (k : Nat) : lnJ xs k 0 = textJ xs k ++ headJ xs k := by
  unfold lnJ
  rw [ndT_zero]
  refine ba_inj ?_
  rw [ByteArray.toList_eq, ByteArray.toList_eq]
  simp
theorem lnJ_step (xs : List Jb) {k i : Nat} (h : i < (jg xs k).needs.length) : lnJ xs k (i + 1) = lnJ xs k i ++ (⟨#[32]⟩ ++ (jg xs ((jg xs k).needs.getD i 0).toNat).nm) := by
  unfold lnJ
  rw [ndT_step xs h]
  simp only [ByteArray.append_assoc]
theorem lnJ_all (xs : List Jb) (k : Nat) : lnJ xs k (jg xs k).needs.length ++ ⟨#[10]⟩ = textJ xs (k + 1) := by
  show _ = textJ xs k ++ (headJ xs k ++ ndT xs (jg xs k).needs (jg xs k).needs.length ++ ⟨#[10]⟩)
  unfold lnJ
  simp only [ByteArray.append_assoc]
theorem lnJ_size {xs : List Jb} (hg : GoodJ xs) (hz : szJ xs) {k : Nat} (hk : k < xs.length) (i : Nat) (hi : i ≤ (jg xs k).needs.length) : (lnJ xs k i).size ≤ 35000000000000 := by
  have h1 := textJ_size hg hz k (by omega)
  have h2 := headJ_size hg hz hk
  have h3 := ndT_size hg hz hk i hi
  have h4 := (hz k hk).2
  have h5 : i * 1048577 ≤ 1048576 * 1048577 := Nat.mul_le_mul_right _ (by omega)
  have h6 := hg.len
  have h7 : k * 1099513900000 ≤ 30 * 1099513900000 := Nat.mul_le_mul_right _ (by omega)
  unfold lnJ
  rw [ByteArray.size_append, ByteArray.size_append]
  omega
set_option maxRecDepth 100000 in
set_option maxHeartbeats 6400000 in
theorem TextJI_any (B : Nat) (v : Value) (xs : List Jb) (w : World) (h : RdJ w B v xs) (hB : B ≤ w.heap.size) (hn : xs.length ≤ 100000) (hz : szJ xs) (ht : Tab w) :
    Calls Tryd.prog 41 #[v] w fun e w' => e = .returned (.string (txJ xs)) ∧ Below w.heap.size w w' := by
  have HV := Lib.hid (ValidJI_any B v xs w h hB hn hz)
  have H := Lib.hid h
  have Ht := Lib.hid ht
  have Hz := Lib.hid hz
  obtain ⟨A, c, rfl⟩ := h.slice
  clear h ht hz
  cases hok : okJ xs with
  | false =>
    have e0 := Lib.hid (show txJ xs = ⟨#[]⟩ by unfold txJ; rw [hok]; rfl)
    rw [hok] at HV
    clear hok
    go_enter Tryd.func41, Tryd.ntmps41
    go_wp2_with fail
    refine HV.out.mono ?_; rintro e w1 ⟨rfl, hb1⟩
    go_wp2_with fail
    go_ret
    rw [e0.out]; exact ⟨rfl, hb1⟩
  | true =>
    have e0 := Lib.hid (show txJ xs = textJ xs xs.length by unfold txJ; rw [hok]; rfl)
    have HG := Lib.hid (okJ_ok hok).good
    have hl30 := HG.out.len
    rw [hok] at HV
    clear hok
    go_enter Tryd.func41, Tryd.ntmps41
    go_wp2_with fail
    refine HV.out.mono ?_; rintro e w1 ⟨rfl, hb1⟩
    go_wp2_with fail
    go_loopw [3, 13] (fun o i wr => ∃ (k : Nat), k ≤ xs.length ∧ i = .int .i64 k ∧ o = .string (textJ xs k) ∧ Below w.heap.size w wr) (fun _ i _ => xs.length - (intOf i).toNat)
    case atStart => exact ⟨0, Nat.zero_le _, rfl, rfl, hb1⟩
    case round =>
      obtain ⟨k, hk, rfl, rfl, hbl⟩ := hrel
      by_cases hlt : k < xs.length
      · obtain ⟨b1, o1, A', c', hA, hE⟩ := (H.out.below (hbl.mono hB)).at k hlt
        subst hA
        have hlt' : (k : Int) < (xs.length : Int) := by omega
        have hT := textJ_size HG.out Hz.out k (by omega)
        have hTb : (textJ xs k).size ≤ 33000000000000 := by have : k * 1099513900000 ≤ 30 * 1099513900000 := Nat.mul_le_mul_right _ (by omega); omega
        have m1 := HG.out.days k hlt
        have m2 := HG.out.cost k hlt
        obtain ⟨hnz, hsn⟩ := Hz.out k hlt
        have HA := Lib.hid (fun wx hx => Decimal_any (jg xs k).days wx (by omega) (by omega) hx)
        have HBd := Lib.hid (fun wx hx => Decimal_any (jg xs k).cost wx (by omega) (by omega) hx)
        have s1 := decS_size (jg xs k).days (by omega) (by omega)
        have s2 := decS_size (jg xs k).cost (by omega) (by omega)
        obtain ⟨p1, p2, p3, p4⟩ := headJ_sizes (a := (jg xs k).nm) (d := decS (jg xs k).days) (e := decS (jg xs k).cost)
        have HL0 := Lib.hid (show lnJ xs k 0 = textJ xs k ++ ((jg xs k).nm ++ ⟨#[32]⟩ ++ decS (jg xs k).days ++ ⟨#[32]⟩ ++ decS (jg xs k).cost) from lnJ_zero xs k)
        have HLs := Lib.hid (fun i h => lnJ_step xs (k := k) (i := i) h)
        have HLa := Lib.hid (lnJ_all xs k)
        have HLz := Lib.hid (fun i h => lnJ_size HG.out Hz.out hlt i h)
        have Hnd := Lib.hid (fun i hi => good_at HG.out (k := k) (i := i) hlt hi)
        clear hT m1 m2
        generalize textJ xs k = T at *
        obtain ⟨hbB, c0, c1, c2, c3, hnds⟩ := hE
        have HN := Lib.hid hnds
        clear hnds
        have hz5 := hbl.size
        have hba := (Below.refl wr.heap.size wr).alloc (Nat.le_refl _) (.cells #[.string (jg xs k).nm, .int .i64 (jg xs k).days, .int .i64 (jg xs k).cost, .slice A' (jg xs k).needs.length c'] 62)
        have Hbl := Lib.hid (hbl.trans (hba.mono hbl.size))
        have HNa := Lib.hid (HN.out.below (hba.mono (by omega)))
        have hblk := heap_alloc_new wr (.cells #[.string (jg xs k).nm, .int .i64 (jg xs k).days, .int .i64 (jg xs k).cost, .slice A' (jg xs k).needs.length c'] 62)
        obtain ⟨wn, hwn⟩ : ∃ z, wr.alloc (.cells #[.string (jg xs k).nm, .int .i64 (jg xs k).days, .int .i64 (jg xs k).cost, .slice A' (jg xs k).needs.length c'] 62) = z := ⟨_, rfl⟩
        rw [hwn] at Hbl hblk HNa
        have hzn : B ≤ wn.heap.size := by have := Hbl.out.size; omega
        obtain ⟨⟨f0, f1, f2, f3⟩, -⟩ := blk4p hblk
        clear hblk hba hbl HN
        generalize (jg xs k).nm = a at *
        generalize decS (jg xs k).days = D at *
        generalize decS (jg xs k).cost = E at *
        generalize (jg xs k).days = f at *
        generalize (jg xs k).cost = t at *
        generalize (jg xs k).needs = nd at *
        obtain ⟨nl, hnl⟩ : ∃ z, nd.length = z := ⟨_, rfl⟩
        have Hnl := Lib.hid hnl
        rw [hnl] at HLa HNa f3 hwn c3 hsn
        clear hnl
        go_upto_region 7 with (fail)
        clear hwn c0 c1 c2 c3
        have hacc := Hbl.out.drew
        have hac2 : Below wn.heap.size wn wn.drew := (Below.refl _ _).drew
        refine wp_region_noPanic ?_
        refine wp_region_L [] (fun w' => w'.cell? ⟨wr.heap.size, 0, none⟩ = some (.string a) ∧ w'.cell? ⟨wr.heap.size, 1, none⟩ = some (.int .i64 f) ∧ w'.cell? ⟨wr.heap.size, 2, none⟩ = some (.int .i64 t) ∧ w'.cell? ⟨wr.heap.size, 3, none⟩ = some (.slice A' nl c')) (by kernel_rfl) (⟨f0, f1, f2, f3⟩) (fun hHeld => ?_)
        refine take_F (i := 0) (d := some 17) (v := ?_) (by kernel_rfl) (by kernel_rfl) rfl rfl (by kernel_rfl) (by kernel_rfl) (by kernel_rfl) (fun _ _ _ h => h) (Or.inl ⟨by rfl, ?_⟩) (by assumption) ?_
        rotate_left
        · (intro w hSw; (try dsimp only at hSw); go_simp; (try rw [if_neg (by omega)]); (try (with_reducible rfl)))
        simp only [Act.put, List.setIfInBounds_toArray, List.set_cons_zero, List.set_cons_succ]
        refine take_F (i := 1) (d := some 18) (v := ?_) (by kernel_rfl) (by kernel_rfl) rfl rfl (by kernel_rfl) (by kernel_rfl) (by kernel_rfl) (fun _ _ _ h => h) (Or.inl ⟨by rfl, ?_⟩) (by assumption) ?_
        rotate_left
        · (intro w hSw; (try dsimp only at hSw); go_simp; (try rw [if_neg (by omega)]); (try (with_reducible rfl)))
        simp only [Act.put, List.setIfInBounds_toArray, List.set_cons_zero, List.set_cons_succ]
        refine take_L [2] (i := 2) (d := some 19) (v := ?_) (by kernel_rfl) (by kernel_rfl) (by kernel_rfl) (by kernel_rfl) rfl rfl (by kernel_rfl) (by kernel_rfl) (by kernel_rfl) (fun _ _ _ h => h) (Or.inl ⟨by rfl, ?_⟩) (by assumption) ?_
        rotate_left
        · (intro w hSw; (try dsimp only at hSw); go_simp; (try rw [if_neg (by omega)]); (try (with_reducible rfl)))
        simp only [Act.put, List.setIfInBounds_toArray, List.set_cons_zero, List.set_cons_succ]
        refine take_F (i := 3) (d := some 20) (v := ?_) (by kernel_rfl) (by kernel_rfl) rfl rfl (by kernel_rfl) (by kernel_rfl) (by kernel_rfl) (fun _ _ _ h => h) (Or.inl ⟨by rfl, ?_⟩) (by assumption) ?_
        rotate_left
        · (intro w hSw; (try dsimp only at hSw); go_simp; (try rw [if_neg (by omega)]); (try (with_reducible rfl)))
        simp only [Act.put, List.setIfInBounds_toArray, List.set_cons_zero, List.set_cons_succ]
        refine take_F (i := 4) (d := some 21) (v := ?_) (by kernel_rfl) (by kernel_rfl) rfl rfl (by kernel_rfl) (by kernel_rfl) (by kernel_rfl) (fun _ _ _ h => h) (Or.inl ⟨by rfl, ?_⟩) (by assumption) ?_
        rotate_left
        · (intro w hSw; (try dsimp only at hSw); go_simp; (try rw [if_neg (by omega)]); (try (with_reducible rfl)))
        simp only [Act.put, List.setIfInBounds_toArray, List.set_cons_zero, List.set_cons_succ]
        refine take_L [5] (i := 5) (d := some 22) (v := ?_) (by kernel_rfl) (by kernel_rfl) (by kernel_rfl) (by kernel_rfl) rfl rfl (by kernel_rfl) (by kernel_rfl) (by kernel_rfl) (fun _ _ _ h => h) (Or.inl ⟨by rfl, ?_⟩) (by assumption) ?_
        rotate_left
        · (intro w hSw; (try dsimp only at hSw); go_simp; (try rw [if_neg (by omega)]); (try (with_reducible rfl)))
        simp only [Act.put, List.setIfInBounds_toArray, List.set_cons_zero, List.set_cons_succ]
        refine take_F (i := 9) (d := some 26) (v := ?_) (by kernel_rfl) (by kernel_rfl) rfl rfl (by kernel_rfl) (by kernel_rfl) (by kernel_rfl) (fun _ _ _ h => h) (Or.inl ⟨by rfl, ?_⟩) (by assumption) ?_
        rotate_left
        · (intro w hSw; (try dsimp only at hSw); go_simp; (try rw [if_neg (by omega)]); (try (with_reducible rfl)))
        simp only [Act.put, List.setIfInBounds_toArray, List.set_cons_zero, List.set_cons_succ]
        refine take_L [10] (i := 10) (d := some 27) (v := ?_) (by kernel_rfl) (by kernel_rfl) (by kernel_rfl) (by kernel_rfl) rfl rfl (by kernel_rfl) (by kernel_rfl) (by kernel_rfl) (fun _ _ _ h => h) (Or.inl ⟨by rfl, ?_⟩) (by assumption) ?_
        rotate_left
        · (intro w hSw; (try dsimp only at hSw); go_simp; (try rw [if_neg (by omega)]); (try (with_reducible rfl)))
        simp only [Act.put, List.setIfInBounds_toArray, List.set_cons_zero, List.set_cons_succ]
        refine call_L (i := 6) (d := (some 23)) rfl rfl (by kernel_rfl) (fun Kq hKq => ?_)
        go_simp
        go_at_call 60
        refine (HA.out _ (Ht.out.below hacc)).mono ?_; rintro e w5 ⟨rfl, hb5⟩
        have hS5 := four_keptP hb5 ⟨f0, f1, f2, f3⟩
        have hacc5 := hacc.trans (hb5.mono hacc.size)
        have hac5 := hac2.trans (hb5.mono hac2.size)
        clear hacc hac2 hb5
        (try go_wp2_with fail)
        refine hKq.out _ _ (hS5) (fun hHeld => ?_)
        clear hKq Kq
        (try simp only [Act.put, List.setIfInBounds_toArray, List.set_cons_zero, List.set_cons_succ])
        refine take_F (i := 7) (d := some 24) (v := ?_) (by kernel_rfl) (by kernel_rfl) rfl rfl (by kernel_rfl) (by kernel_rfl) (by kernel_rfl) (fun _ _ _ h => h) (Or.inl ⟨by rfl, ?_⟩) (by assumption) ?_
        rotate_left
        · (intro w hSw; (try dsimp only at hSw); go_simp; (try rw [if_neg (by omega)]); (try (with_reducible rfl)))
        simp only [Act.put, List.setIfInBounds_toArray, List.set_cons_zero, List.set_cons_succ]
        refine take_F (i := 8) (d := some 25) (v := ?_) (by kernel_rfl) (by kernel_rfl) rfl rfl (by kernel_rfl) (by kernel_rfl) (by kernel_rfl) (fun _ _ _ h => h) (Or.inl ⟨by rfl, ?_⟩) (by assumption) ?_
        rotate_left
        · (intro w hSw; (try dsimp only at hSw); go_simp; (try rw [if_neg (by omega)]); (try (with_reducible rfl)))
        simp only [Act.put, List.setIfInBounds_toArray, List.set_cons_zero, List.set_cons_succ]
        refine call_L (i := 11) (d := (some 28)) rfl rfl (by kernel_rfl) (fun Kq hKq => ?_)
        go_simp
        go_at_call 60
        refine (HBd.out _ (Ht.out.below hacc5)).mono ?_; rintro e w6 ⟨rfl, hb6⟩
        have hS6 := four_keptP hb6 hS5
        have hacc := hacc5.trans (hb6.mono hacc5.size)
        have hac2 := hac5.trans (hb6.mono hac5.size)
        clear hacc5 hac5 hb6
        (try go_wp2_with fail)
        refine hKq.out _ _ (hS6) (fun hHeld => ?_)
        clear hKq Kq
        (try simp only [Act.put, List.setIfInBounds_toArray, List.set_cons_zero, List.set_cons_succ])
        refine take_F (i := 12) (d := some 29) (v := ?_) (by kernel_rfl) (by kernel_rfl) rfl rfl (by kernel_rfl) (by kernel_rfl) (by kernel_rfl) (fun _ _ _ h => h) (Or.inl ⟨by rfl, ?_⟩) (by assumption) ?_
        rotate_left
        · (intro w hSw; (try dsimp only at hSw); go_simp; (try rw [if_neg (by omega)]); (try (with_reducible rfl)))
        simp only [Act.put, List.setIfInBounds_toArray, List.set_cons_zero, List.set_cons_succ]
        refine take_F (i := 13) (d := some 30) (v := ?_) (by kernel_rfl) (by kernel_rfl) rfl rfl (by kernel_rfl) (by kernel_rfl) (by kernel_rfl) (fun _ _ _ h => h) (Or.inl ⟨by rfl, ?_⟩) (by assumption) ?_
        rotate_left
        · (intro w hSw; (try dsimp only at hSw); go_simp; (try rw [if_neg (by omega)]); (try (with_reducible rfl)))
        simp only [Act.put, List.setIfInBounds_toArray, List.set_cons_zero, List.set_cons_succ]
        refine take_F (i := 14) (d := some 3) (v := ?_) (by kernel_rfl) (by kernel_rfl) rfl rfl (by kernel_rfl) (by kernel_rfl) (by kernel_rfl) (fun _ _ _ h => h) (Or.inl ⟨by rfl, ?_⟩) (by assumption) ?_
        rotate_left
        · (intro w hSw; (try dsimp only at hSw); go_simp; (try rw [if_neg (by omega)]); (try (with_reducible rfl)))
        simp only [Act.put, List.setIfInBounds_toArray, List.set_cons_zero, List.set_cons_succ]
        refine done_L (by kernel_rfl) ?_ _
        refine NoPanic.normal ?_
        rw [← HL0.out]
        have Hbl6 := Lib.hid hacc
        have HN6 := Lib.hid (HNa.out.below (hac2.mono hzn))
        have y3 := hS6.2.2.2
        clear p1 p2 p3 p4 f0 f1 f2 f3 hS5 hS6 hacc hac2 HNa Hbl hTb hnz s1 s2 HA HBd HL0
        go_wp2_with fail
        clear y3
        go_loopw [3, 34] (fun o i wx => ∃ i' : Nat, i' ≤ nl ∧ i = .int .i64 (i' : Int) ∧ o = .string (lnJ xs k i') ∧ wx = w6) (fun _ i _ => nl - (intOf i).toNat)
        case atStart => exact ⟨0, Nat.zero_le _, rfl, rfl, rfl⟩
        case round =>
          obtain ⟨i, hi, rfl, rfl, rfl⟩ := hrel
          by_cases hil : i < nl
          · have hil' : (i : Int) < (nl : Int) := by omega
            have hid : i < nd.length := by rw [Hnl.out]; exact hil
            obtain ⟨b2, o2, hA2, _, hcc⟩ := rdI_at HN6.out Hnl.out (by omega)
            subst hA2
            have q1 := hcc i hid
            obtain ⟨p, hp, hge, hne⟩ := Hnd.out i hid
            rw [hne] at q1
            have hpl : (p : Int) < (xs.length : Int) := by omega
            obtain ⟨gb', ob', A4, c4, hA4, hat4⟩ := (H.out.below (Hbl6.out.mono hB)).at p (by omega)
            injection hA4 with hA4
            injection hA4 with e1 e2
            subst e1 e2
            have t1 := hat4.c0
            have hst := HLs.out i hid
            rw [hge, Int.toNat_natCast] at hst
            have hy1 := HLz.out i (by omega)
            have hy2 := (Hz.out p (by omega)).1
            have hy3 : (⟨#[32]⟩ ++ (jg xs p).nm : ByteArray).size = 1 + (jg xs p).nm.size := ByteArray.size_append
            have Hst := Lib.hid hst
            clear hcc hat4 hge hne hst
            generalize lnJ xs k i = Y at *
            generalize (jg xs p).nm = z at *
            go_wp2_with fail
            go_roundw
            case rel => refine ⟨i + 1, by omega, by go_num, by rw [Hst.out], ?_⟩; first | exact trivial | rfl
            case measure => first | (simp [intOf]; done) | (simp [intOf]; omega)
          · obtain rfl : nl = i := by omega
            have hil' : ¬ ((nl : Int) < (nl : Int)) := by omega
            have hy1 := HLz.out nl (by rw [Hnl.out]; exact Nat.le_refl _)
            generalize lnJ xs k nl = Y at *
            go_wp2_with fail
            go_roundw
            case rel => exact ⟨k + 1, by omega, by go_num, by rw [← HLa.out], Hbl6.out⟩
            case measure => simp [intOf]; omega
      · have hkn : k = xs.length := by omega
        subst hkn
        have hlt' : ¬ ((xs.length : Int) < (xs.length : Int)) := by omega
        go_wp2_with fail
        go_ret
        rw [e0.out]; exact ⟨rfl, hbl⟩
end Go.Proofs.YtepgfcjfdnakbaaDoor
