/- Merged texts: Jc7, Jb9, Jb10, Jb11, Jb12, Jb13, Jb14, Jb15, Jb16, Jb17, Jb18, Jb19, Jb20, Jb21, Jb22, Pq7. -/
import Derived.Test.YtepgfcjfdnakbaaDoorGCardJobs7
import Derived.Test.YtepgfcjfdnakbaaDoorGCardJobs4
import Derived.Test.YtepgfcjfdnakbaaDoorGCardJobs6
import Derived.Test.YtepgfcjfdnakbaaDoorGCardJobs5
/- Jobs, texts and laws, part 7: l22Text and JobsText of the reference. -/
namespace Go.Proofs.YtepgfcjfdnakbaaDoor
open Go.RowKit Go.Joins

theorem wpList_strJ {P : Program} {w : World} {ops : Array Oper} {rest : List Oper} {o : Oper} {a : Act} {Q : Exit → Act → World → Prop} (t u e : TypeId)
    (ht : P.underlying t = some (.slice e)) (hu : P.underlying u = some .string) (hinfo : (P.info? e).map (fun i => (i.zero, i.size, i.bytes)) = some (some (.int .u8 0), 1, 1))
    (sl x : Operand) (hgd : o.guard = none) (ho : o.op = .call { callee := .builtin .append, args := #[sl, x], argTypes := #[t, u] })
    (base : Nat) (v : Value) (n : Nat) (xs : List Value) (hs : a.eval sl = v) (hown : w.ownsRow base e 1 v n xs) (s : ByteArray) (hx : a.eval x = .string s)
    (h63 : n + s.size ≤ maxLen) (hbytes : n + s.size ≤ 140737488355328) (hbase : base ≤ w.heap.size)
    (h : ∀ v' w', w'.ownsRow base e 1 v' (n + s.size) (xs ++ Lib.strCells s) → w.grownBy w' v.ownBlock → wpList P ops Q rest (a.put o.dst v') w') :
    wpList P ops Q (o :: rest) a w := by
  obtain ⟨i, hi, hz, h2, h3⟩ := info_parts hinfo
  exact Lib.wpList_append_own_string w hgd sl x t u ho base e i ht hu hi hz h2 h3 v n xs hs hown s hx h63 hbytes hbase fun v' w' p q _ => h v' w' p q
theorem own_strJ {w : World} {base : Nat} {e : TypeId} {o : Value} {T s R : ByteArray} (hR : T ++ s = R) (h : w.ownsRow base e 1 o (T.size + s.size) (T.data.toList.map byV ++ Lib.strCells s)) : w.ownsRow base e 1 o R.size (R.data.toList.map byV) := by
  subst hR
  rw [ByteArray.size_append]
  have e1 : (T ++ s).data.toList.map byV = T.data.toList.map byV ++ Lib.strCells s := by
    rw [ByteArray.data_append, Array.toList_append, List.map_append]; rfl
  rw [e1]; exact h
theorem own_nlJ {w : World} {base : Nat} {e : TypeId} {o : Value} {T R : ByteArray} (hR : T ++ ⟨#[10]⟩ = R) (h : w.ownsRow base e 1 o (T.size + 1) (T.data.toList.map byV ++ (#[Value.int .u8 10] : Array Value).toList)) : w.ownsRow base e 1 o R.size (R.data.toList.map byV) := by
  subst hR
  have e0 : (T ++ ⟨#[10]⟩ : ByteArray).size = T.size + 1 := ByteArray.size_append
  have e1 : (T ++ ⟨#[10]⟩).data.toList.map byV = T.data.toList.map byV ++ (#[Value.int .u8 10] : Array Value).toList := by
    rw [ByteArray.data_append, Array.toList_append, List.map_append]; rfl
  rw [e0, e1]; exact h
set_option maxRecDepth 100000 in
set_option maxHeartbeats 6400000 in
theorem l22Text_any (B : Nat) (v : Value) (xs : List Jb) (w : World) (h : RdJ w B v xs) (hB : B ≤ w.heap.size) (hz : szJ xs) (hg : GoodJ xs) :
    Calls Tryd.prog 85 #[v] w fun e w' => e = .returned (.string (textJ xs xs.length)) ∧ Below w.heap.size w w' := by
  have H := Lib.hid h
  have Hz := Lib.hid hz
  have HG := Lib.hid hg
  have hl30 := hg.len
  obtain ⟨A, c, rfl⟩ := h.slice
  have ho0 := Lib.hid (World.ownsRow_made (base := w.heap.size) (e := 5) (size := 1) w #[] 0 (Nat.le_refl _) (by simp [maxLen]) rfl)
  have hb0 := Lib.hid ((Below.refl w.heap.size w).alloc (Nat.le_refl _) (.cells #[] 5))
  clear h hz hg
  go_enter Tryd.func85, Tryd.ntmps85
  go_wp2_with fail
  go_loopw [3, 4] (fun o i wr => ∃ (k : Nat), k ≤ xs.length ∧ i = .int .i64 k ∧ wr.ownsRow w.heap.size 5 1 o (textJ xs k).size ((textJ xs k).data.toList.map byV) ∧ Below w.heap.size w wr) (fun _ i _ => xs.length - (intOf i).toNat)
  case atStart => exact ⟨0, Nat.zero_le _, rfl, ho0.out, hb0.out⟩
  case round =>
    obtain ⟨k, hk, rfl, hown, hbl⟩ := hrel
    obtain ⟨A3, c3, rfl⟩ := own_sl hown
    clear ho0 hb0
    by_cases hlt : k < xs.length
    · obtain ⟨b1, o1, A', c', hA, hE⟩ := (H.out.below (hbl.mono hB)).at k hlt
      subst hA
      have Hown := Lib.hid hown
      have Hbl := Lib.hid hbl
      have hlt' : (k : Int) < (xs.length : Int) := by omega
      have hT := textJ_size HG.out Hz.out k (by omega)
      have hTb : (textJ xs k).size ≤ 33000000000000 := by have : k * 1099513900000 ≤ 30 * 1099513900000 := Nat.mul_le_mul_right _ (by omega); omega
      have m1 := HG.out.days k hlt
      have m2 := HG.out.cost k hlt
      obtain ⟨hnz, hsn⟩ := Hz.out k hlt
      have HA := Lib.hid (fun wx => l01Dec_any (jg xs k).days wx (by omega) (by omega))
      have HBd := Lib.hid (fun wx => l01Dec_any (jg xs k).cost wx (by omega) (by omega))
      have s1 := decS_size (jg xs k).days (by omega) (by omega)
      have s2 := decS_size (jg xs k).cost (by omega) (by omega)
      obtain ⟨p1, p2, p3, p4⟩ := headJ_sizes (a := (jg xs k).nm) (d := decS (jg xs k).days) (e := decS (jg xs k).cost)
      have HL0 := Lib.hid (show lnJ xs k 0 = textJ xs k ++ ((jg xs k).nm ++ ⟨#[32]⟩ ++ decS (jg xs k).days ++ ⟨#[32]⟩ ++ decS (jg xs k).cost) from lnJ_zero xs k)
      have HLs := Lib.hid (fun i h => lnJ_step xs (k := k) (i := i) h)
      have HLa := Lib.hid (lnJ_all xs k)
      have HLz := Lib.hid (fun i h => lnJ_size HG.out Hz.out hlt i h)
      have Hnd := Lib.hid (fun i hi => good_at HG.out (k := k) (i := i) hlt hi)
      have HE := Lib.hid hE
      obtain ⟨hbB, c0, c1, c2, c3', -⟩ := hE
      clear hT m1 m2 hown hbl
      generalize textJ xs k = T at *
      obtain ⟨nl, hnl⟩ : ∃ z, (jg xs k).needs.length = z := ⟨_, rfl⟩
      have Hnl := Lib.hid hnl
      rw [hnl] at HLa hsn c3'
      clear hnl
      generalize hg1 : (jg xs k).nm = a0 at *
      generalize decS (jg xs k).days = d0 at *
      generalize decS (jg xs k).cost = e0 at *
      generalize hg2 : (jg xs k).days = f0 at *
      generalize hg3 : (jg xs k).cost = t0 at *
      have hjs : (a0 ++ ⟨#[32]⟩ ++ d0 ++ ⟨#[32]⟩ ++ e0 : ByteArray).size ≤ 1048620 := by rw [p4]; omega
      have hTm : T.size + (a0 ++ ⟨#[32]⟩ ++ d0 ++ ⟨#[32]⟩ ++ e0 : ByteArray).size ≤ maxLen := by simp only [maxLen]; omega
      have hTs : T.size + (a0 ++ ⟨#[32]⟩ ++ d0 ++ ⟨#[32]⟩ ++ e0 : ByteArray).size ≤ 140737488355328 := by omega
      clear hg1 hg2 hg3
      have hacc : Below w.heap.size w wr.drew := Hbl.out.drew
      have hac2 : Below wr.heap.size wr wr.drew := (Below.refl _ _).drew
      have hbw : b1 < wr.heap.size := Nat.lt_of_lt_of_le hbB (Nat.le_trans hB Hbl.out.size)
      go_upto_region 6 with (fail)
      refine wp_region_noPanic ?_
      refine wp_region_L [20,19] (fun w' => w'.cell? ⟨b1, o1 + k * 4, none⟩ = some (.string a0) ∧ w'.cell? ⟨b1, o1 + k * 4 + 1, none⟩ = some (.int .i64 f0) ∧ w'.cell? ⟨b1, o1 + k * 4 + 2, none⟩ = some (.int .i64 t0)) (by kernel_rfl) (⟨c0, c1, c2⟩) (fun hHeld => ?_)
      refine take_F (i := 0) (d := some 17) (v := ?_) (by kernel_rfl) (by kernel_rfl) rfl rfl (by kernel_rfl) (by kernel_rfl) (by kernel_rfl) (fun _ _ _ h => h) (Or.inl ⟨by rfl, ?_⟩) (by assumption) ?_
      rotate_left
      · (intro w hSw; (try dsimp only at hSw); go_simp; (try rw [if_neg (by omega)]); (try (with_reducible rfl)))
      simp only [Act.put, List.setIfInBounds_toArray, List.set_cons_zero, List.set_cons_succ]
      refine take_F (i := 1) (d := some 18) (v := ?_) (by kernel_rfl) (by kernel_rfl) rfl rfl (by kernel_rfl) (by kernel_rfl) (by kernel_rfl) (fun _ _ _ h => h) (Or.inl ⟨by rfl, ?_⟩) (by assumption) ?_
      rotate_left
      · (intro w hSw; (try dsimp only at hSw); go_simp; (try rw [if_neg (by omega)]); (try (with_reducible rfl)))
      simp only [Act.put, List.setIfInBounds_toArray, List.set_cons_zero, List.set_cons_succ]
      refine take_F (i := 2) (d := some 19) (v := ?_) (by kernel_rfl) (by kernel_rfl) rfl rfl (by kernel_rfl) (by kernel_rfl) (by kernel_rfl) (fun _ _ _ h => h) (Or.inl ⟨by rfl, ?_⟩) (by assumption) ?_
      rotate_left
      · (intro w hSw; (try dsimp only at hSw); go_simp; (try rw [if_neg (by omega)]); (try (with_reducible rfl)))
      simp only [Act.put, List.setIfInBounds_toArray, List.set_cons_zero, List.set_cons_succ]
      refine take_F (i := 3) (d := some 20) (v := ?_) (by kernel_rfl) (by kernel_rfl) rfl rfl (by kernel_rfl) (by kernel_rfl) (by kernel_rfl) (fun _ _ _ h => h) (Or.inl ⟨by rfl, ?_⟩) (by assumption) ?_
      rotate_left
      · (intro w hSw; (try dsimp only at hSw); go_simp; (try rw [if_neg (by omega)]); (try (with_reducible rfl)))
      simp only [Act.put, List.setIfInBounds_toArray, List.set_cons_zero, List.set_cons_succ]
      refine take_L [18,12,11,5,4] (i := 4) (d := some 21) (v := ?_) (by kernel_rfl) (by kernel_rfl) (by kernel_rfl) (by kernel_rfl) rfl rfl (by kernel_rfl) (by kernel_rfl) (by kernel_rfl) (fun _ _ _ h => h) (Or.inl ⟨by rfl, ?_⟩) (by assumption) ?_
      rotate_left
      · (intro w hSw; (try dsimp only at hSw); go_simp; (try rw [if_neg (by omega)]); (try (with_reducible rfl)))
      simp only [Act.put, List.setIfInBounds_toArray, List.set_cons_zero, List.set_cons_succ]
      refine take_F (i := 5) (d := some 22) (v := ?_) (by kernel_rfl) (by kernel_rfl) rfl rfl (by kernel_rfl) (by kernel_rfl) (by kernel_rfl) (fun _ _ _ h => h) (Or.inl ⟨by rfl, ?_⟩) (by assumption) ?_
      rotate_left
      · (intro w hSw; (try dsimp only at hSw); go_simp; (try rw [if_neg (by omega)]); (try (with_reducible rfl)))
      simp only [Act.put, List.setIfInBounds_toArray, List.set_cons_zero, List.set_cons_succ]
      refine take_F (i := 6) (d := some 23) (v := ?_) (by kernel_rfl) (by kernel_rfl) rfl rfl (by kernel_rfl) (by kernel_rfl) (by kernel_rfl) (fun _ _ _ h => h) (Or.inl ⟨by rfl, ?_⟩) (by assumption) ?_
      rotate_left
      · (intro w hSw; (try dsimp only at hSw); go_simp; (try rw [if_neg (by omega)]); (try (with_reducible rfl)))
      simp only [Act.put, List.setIfInBounds_toArray, List.set_cons_zero, List.set_cons_succ]
      refine take_F (i := 7) (d := some 24) (v := ?_) (by kernel_rfl) (by kernel_rfl) rfl rfl (by kernel_rfl) (by kernel_rfl) (by kernel_rfl) (fun _ _ _ h => h) (Or.inl ⟨by rfl, ?_⟩) (by assumption) ?_
      rotate_left
      · (intro w hSw; (try dsimp only at hSw); go_simp; (try rw [if_neg (by omega)]); (try (with_reducible rfl)))
      simp only [Act.put, List.setIfInBounds_toArray, List.set_cons_zero, List.set_cons_succ]
      refine take_F (i := 8) (d := some 25) (v := ?_) (by kernel_rfl) (by kernel_rfl) rfl rfl (by kernel_rfl) (by kernel_rfl) (by kernel_rfl) (fun _ _ _ h => h) (Or.inl ⟨by rfl, ?_⟩) (by assumption) ?_
      rotate_left
      · (intro w hSw; (try dsimp only at hSw); go_simp; (try rw [if_neg (by omega)]); (try (with_reducible rfl)))
      simp only [Act.put, List.setIfInBounds_toArray, List.set_cons_zero, List.set_cons_succ]
      refine take_L [17,10,9] (i := 9) (d := some 26) (v := ?_) (by kernel_rfl) (by kernel_rfl) (by kernel_rfl) (by kernel_rfl) rfl rfl (by kernel_rfl) (by kernel_rfl) (by kernel_rfl) (fun _ _ _ h => h) (Or.inl ⟨by rfl, ?_⟩) (by assumption) ?_
      rotate_left
      · (intro w hSw; (try dsimp only at hSw); go_simp; (try rw [if_neg (by omega)]); (try (with_reducible rfl)))
      simp only [Act.put, List.setIfInBounds_toArray, List.set_cons_zero, List.set_cons_succ]
      refine take_F (i := 13) (d := some 30) (v := ?_) (by kernel_rfl) (by kernel_rfl) rfl rfl (by kernel_rfl) (by kernel_rfl) (by kernel_rfl) (fun _ _ _ h => h) (Or.inl ⟨by rfl, ?_⟩) (by assumption) ?_
      rotate_left
      · (intro w hSw; (try dsimp only at hSw); go_simp; (try rw [if_neg (by omega)]); (try (with_reducible rfl)))
      simp only [Act.put, List.setIfInBounds_toArray, List.set_cons_zero, List.set_cons_succ]
      refine take_F (i := 14) (d := some 31) (v := ?_) (by kernel_rfl) (by kernel_rfl) rfl rfl (by kernel_rfl) (by kernel_rfl) (by kernel_rfl) (fun _ _ _ h => h) (Or.inl ⟨by rfl, ?_⟩) (by assumption) ?_
      rotate_left
      · (intro w hSw; (try dsimp only at hSw); go_simp; (try rw [if_neg (by omega)]); (try (with_reducible rfl)))
      simp only [Act.put, List.setIfInBounds_toArray, List.set_cons_zero, List.set_cons_succ]
      refine take_F (i := 15) (d := some 32) (v := ?_) (by kernel_rfl) (by kernel_rfl) rfl rfl (by kernel_rfl) (by kernel_rfl) (by kernel_rfl) (fun _ _ _ h => h) (Or.inl ⟨by rfl, ?_⟩) (by assumption) ?_
      rotate_left
      · (intro w hSw; (try dsimp only at hSw); go_simp; (try rw [if_neg (by omega)]); (try (with_reducible rfl)))
      simp only [Act.put, List.setIfInBounds_toArray, List.set_cons_zero, List.set_cons_succ]
      refine take_L [17,16] (i := 16) (d := some 33) (v := ?_) (by kernel_rfl) (by kernel_rfl) (by kernel_rfl) (by kernel_rfl) rfl rfl (by kernel_rfl) (by kernel_rfl) (by kernel_rfl) (fun _ _ _ h => h) (Or.inl ⟨by rfl, ?_⟩) (by assumption) ?_
      rotate_left
      · (intro w hSw; (try dsimp only at hSw); go_simp; (try rw [if_neg (by omega)]); (try (with_reducible rfl)))
      simp only [Act.put, List.setIfInBounds_toArray, List.set_cons_zero, List.set_cons_succ]
      refine call_L (i := 10) (d := (some 27)) rfl rfl (by kernel_rfl) (fun Kq hKq => ?_)
      go_simp
      go_at_call 95
      refine (HA.out _).mono ?_; rintro e w5 ⟨rfl, hb5⟩
      have hS5 := three_keptP (w := wr.drew) hbw hb5 ⟨c0, c1, c2⟩
      have hz5 := hb5.size
      have hacc5 := hacc.trans (hb5.mono hacc.size)
      have hac5 := hac2.trans (hb5.mono hac2.size)
      clear hacc hac2 hb5
      (try go_wp2_with fail)
      refine hKq.out _ _ (hS5) (fun hHeld => ?_)
      clear hKq Kq
      (try simp only [Act.put, List.setIfInBounds_toArray, List.set_cons_zero, List.set_cons_succ])
      refine take_F (i := 11) (d := some 28) (v := ?_) (by kernel_rfl) (by kernel_rfl) rfl rfl (by kernel_rfl) (by kernel_rfl) (by kernel_rfl) (fun _ _ _ h => h) (Or.inl ⟨by rfl, ?_⟩) (by assumption) ?_
      rotate_left
      · (intro w hSw; (try dsimp only at hSw); go_simp; (try rw [if_neg (by omega)]); (try (with_reducible rfl)))
      simp only [Act.put, List.setIfInBounds_toArray, List.set_cons_zero, List.set_cons_succ]
      refine take_F (i := 12) (d := some 29) (v := ?_) (by kernel_rfl) (by kernel_rfl) rfl rfl (by kernel_rfl) (by kernel_rfl) (by kernel_rfl) (fun _ _ _ h => h) (Or.inl ⟨by rfl, ?_⟩) (by assumption) ?_
      rotate_left
      · (intro w hSw; (try dsimp only at hSw); go_simp; (try rw [if_neg (by omega)]); (try (with_reducible rfl)))
      simp only [Act.put, List.setIfInBounds_toArray, List.set_cons_zero, List.set_cons_succ]
      refine call_L (i := 17) (d := (some 34)) rfl rfl (by kernel_rfl) (fun Kq hKq => ?_)
      go_simp
      go_at_call 95
      refine (HBd.out _).mono ?_; rintro e w6 ⟨rfl, hb6⟩
      have hS6 := three_keptP (Nat.lt_of_lt_of_le hbw hz5) hb6 hS5
      have hacc := hacc5.trans (hb6.mono hacc5.size)
      have hac2 := hac5.trans (hb6.mono hac5.size)
      clear hacc5 hac5 hb6
      (try go_wp2_with fail)
      refine hKq.out _ _ (hS6) (fun hHeld => ?_)
      clear hKq Kq
      (try simp only [Act.put, List.setIfInBounds_toArray, List.set_cons_zero, List.set_cons_succ])
      refine take_F (i := 18) (d := some 35) (v := ?_) (by kernel_rfl) (by kernel_rfl) rfl rfl (by kernel_rfl) (by kernel_rfl) (by kernel_rfl) (fun _ _ _ h => h) (Or.inl ⟨by rfl, ?_⟩) (by assumption) ?_
      rotate_left
      · (intro w hSw; (try dsimp only at hSw); go_simp; (try rw [if_neg (by omega)]); (try (with_reducible rfl)))
      simp only [Act.put, List.setIfInBounds_toArray, List.set_cons_zero, List.set_cons_succ]
      refine late_L (i := 19) (d := (some 36)) (by kernel_rfl) rfl rfl (by kernel_rfl) (fun Kq hKq => ?_)
      refine step_strP 22 9 5 Tryd.underlying22 Tryd.underlying9 infoB' _ _ (by rfl) (by rfl) w.heap.size _ T.size _ (by rfl) (own_below Hown.out hac2) _ (by rfl) hTm hTs hacc.size ?_; intro v' w1 hown1 hg1
      refine hKq.out _ _ ?_
      clear hKq Kq
      simp only [Act.put, List.setIfInBounds_toArray]
      refine late_L (i := 20) (d := (some 3)) (by kernel_rfl) rfl rfl (by kernel_rfl) (fun Kq hKq => ?_)
      go_simp
      refine hKq.out _ _ ?_
      clear hKq Kq
      refine done_L (by kernel_rfl) ?_ _
      refine NoPanic.normal ?_
      have Hb1 := Lib.hid (below_apd hacc (own_below Hown.out hac2) hg1 (Nat.le_refl _) hacc.size)
      have Ho1 := Lib.hid (own_strJ HL0.out.symm hown1)
      clear hacc hac2 hown1 hg1 p1 p2 p3 p4 hTm hTs hjs c0 c1 c2 c3' hS5 hS6 hTb hnz s1 s2 HA HBd HL0 Hown Hbl hz5 hbw
      go_wp2_with fail
      go_loopw [3, 6] (fun o i wr => ∃ i' : Nat, i' ≤ nl ∧ i = .int .i64 (i' : Int) ∧ wr.ownsRow w.heap.size 5 1 o (lnJ xs k i').size ((lnJ xs k i').data.toList.map byV) ∧ Below w.heap.size w wr) (fun _ i _ => nl - (intOf i).toNat)
      case atStart => exact ⟨0, Nat.zero_le _, rfl, Ho1.out, Hb1.out⟩
      case round =>
        clear Ho1 Hb1
        obtain ⟨i, hi, rfl, hown, hbl⟩ := hrel
        obtain ⟨A5, c5, rfl⟩ := own_sl hown
        obtain ⟨b1', o1', A6, c6, hA6, hE6⟩ := (H.out.below (hbl.mono hB)).at k hlt
        obtain ⟨rfl, rfl⟩ := adr_inj hA6
        have y3 := hE6.c3
        have hnds := hE6.needs
        rw [Hnl.out] at y3 hnds
        have Hown := Lib.hid hown
        have Hbl := Lib.hid hbl
        have hbz := hbl.size
        by_cases hil : i < nl
        · have hil' : (i : Int) < (nl : Int) := by omega
          have hid : i < (jg xs k).needs.length := by rw [Hnl.out]; exact hil
          obtain ⟨b2, o2, hA2, _, hcc⟩ := rdI_at hnds Hnl.out (by omega)
          subst hA2
          have q1 := hcc i hid
          obtain ⟨p, hp, hge, hne⟩ := Hnd.out i hid
          rw [hne] at q1
          have hpl : (p : Int) < (xs.length : Int) := by omega
          obtain ⟨gb', ob', A4, c4, hA4, hat4⟩ := (H.out.below (hbl.mono hB)).at p (by omega)
          obtain ⟨rfl, rfl⟩ := adr_inj hA4
          have t1 := hat4.c0
          have hst := HLs.out i hid
          rw [hge, Int.toNat_natCast] at hst
          have hy1 := HLz.out i (by omega)
          have hy2 := (Hz.out p (by omega)).1
          have hy3 : (⟨#[32]⟩ ++ (jg xs p).nm : ByteArray).size = 1 + (jg xs p).nm.size := ByteArray.size_append
          have Hst := Lib.hid hst
          clear hcc hat4 hge hne hst hE6 hnds hown hbl
          generalize lnJ xs k i = Y at *
          generalize (jg xs p).nm = z at *
          have r3 : Y.size + (⟨#[32]⟩ ++ z : ByteArray).size ≤ maxLen := by simp only [maxLen]; omega
          have r2 : Y.size + (⟨#[32]⟩ ++ z : ByteArray).size ≤ 140737488355328 := by omega
          go_wp2_with (at_builtin; refine wpList_strJ 22 9 5 Tryd.underlying22 Tryd.underlying9 infoB' _ _ rfl rfl w.heap.size _ Y.size _ rfl Hown.out (⟨#[32]⟩ ++ z) rfl r3 r2 hbz ?_; intro v8 w8 hown8 hg8; have Hb8 := Lib.hid (below_apd Hbl.out Hown.out hg8 (Nat.le_refl _) hbz); have Ho8 := Lib.hid (own_strJ Hst.out.symm hown8); clear hown8 hg8)
          go_roundw
          case rel => exact ⟨i + 1, by omega, by go_num, Ho8.out, Hb8.out⟩
          case measure => first | (simp [intOf]; done) | (simp [intOf]; omega)
        · obtain rfl : nl = i := by omega
          have hil' : ¬ ((nl : Int) < (nl : Int)) := by omega
          have hy1 := HLz.out nl (by rw [Hnl.out]; exact Nat.le_refl _)
          clear hown hbl hE6 hnds
          generalize lnJ xs k nl = Y at *
          go_wp2_with (at_builtin; refine wpList_apd 22 5 _ 1 1 Tryd.underlying22 infoB' rfl (by omega) _ _ rfl rfl w.heap.size _ Y.size _ rfl Hown.out #[.int .u8 10] 1 1 rfl rfl (by simp [Value.oneCell']) (by simp [maxLen]; omega) (by omega) hbz ?_; intro v8 w8 hown8 hg8; have Hb8 := Lib.hid (below_apd Hbl.out Hown.out hg8 (Nat.le_refl _) hbz); have Ho8 := Lib.hid (own_nlJ HLa.out hown8); clear hown8 hg8)
          go_roundw
          case rel => exact ⟨k + 1, by omega, by go_num, Ho8.out, Hb8.out⟩
          case measure => simp [intOf]; omega
    · have hkn : k = xs.length := by omega
      subst hkn
      have hlt' : ¬ ((xs.length : Int) < (xs.length : Int)) := by omega
      have hconv := run_conv_own (P := Tryd.prog) 22 9 5 Tryd.underlying22 Tryd.underlying5 Tryd.underlying9 _ _ _ _ hown
      clear hown
      go_wp2_with fail
      go_ret
      exact ⟨by first | rfl | simp, hbl⟩
set_option maxRecDepth 100000 in
set_option maxHeartbeats 400000 in
theorem TextJS_any (B : Nat) (v : Value) (xs : List Jb) (w : World) (h : RdJ w B v xs) (hB : B ≤ w.heap.size) (hn : xs.length ≤ 100000) (hz : szJ xs) :
    Calls Tryd.prog 46 #[v] w fun e w' => e = .returned (.string (txJ xs)) ∧ Below w.heap.size w w' := by
  have HV := Lib.hid (OkJS_any B v xs w h hB hn hz)
  have H := Lib.hid h
  obtain ⟨A, c, rfl⟩ := h.slice
  clear h
  cases hok : okJ xs with
  | false =>
    have e0 := Lib.hid (show txJ xs = ⟨#[]⟩ by unfold txJ; rw [hok]; rfl)
    rw [hok] at HV
    clear hok
    go_enter Tryd.func46, Tryd.ntmps46
    go_wp2_with fail
    refine HV.out.mono ?_; rintro e w1 ⟨rfl, hb1⟩
    go_wp2_with fail
    go_ret
    rw [e0.out]; exact ⟨rfl, hb1⟩
  | true =>
    have e0 := Lib.hid (show txJ xs = textJ xs xs.length by unfold txJ; rw [hok]; rfl)
    have HG := Lib.hid (okJ_ok hok).good
    rw [hok] at HV
    clear hok
    go_enter Tryd.func46, Tryd.ntmps46
    go_wp2_with fail
    refine HV.out.mono ?_; rintro e w1 ⟨rfl, hb1⟩
    have HT := Lib.hid (l22Text_any B (.slice A xs.length c) xs w1 (H.out.below (hb1.mono hB)) (Nat.le_trans hB hb1.size) hz HG.out)
    have Hb1 := Lib.hid hb1
    clear hb1 hz
    go_wp2_with fail
    refine HT.out.mono ?_; rintro e w2 ⟨rfl, hb2⟩
    have Hb2 := Lib.hid (Hb1.out.trans (hb2.mono Hb1.out.size))
    clear hb2
    go_wp2_with fail
    go_ret
    rw [e0.out]; exact ⟨rfl, Hb2.out⟩
end Go.Proofs.YtepgfcjfdnakbaaDoor
/- Jobs, part 9: jobs that can begin, workers that are busy. -/
namespace Go.Proofs.YtepgfcjfdnakbaaDoor
open Go.RowKit Go.Joins

/-- job p is done at a day -/
def doneB (xs : List Jb) (S : Nat → Int) (day : Int) (p : Nat) : Bool := decide (0 ≤ S p) && decide (S p + (jg xs p).days ≤ day)
def rdyB (xs : List Jb) (S : Nat → Int) (k : Nat) (day : Int) : Bool := allN (jg xs k).needs.length fun i => doneB xs S day ((jg xs k).needs.getD i 0).toNat
def bsB (xs : List Jb) (S : Nat → Int) (day : Int) (p : Nat) : Bool := decide (0 ≤ S p) && (decide (S p ≤ day) && decide (day < S p + (jg xs p).days))
def bsy (xs : List Jb) (S : Nat → Int) (day : Int) : Nat → Nat
  | 0 => 0
  | k + 1 => bsy xs S day k + (if bsB xs S day k = true then 1 else 0)
theorem bsy_le (xs : List Jb) (S : Nat → Int) (day : Int) : ∀ k, bsy xs S day k ≤ k
  | 0 => Nat.le_refl _
  | k + 1 => by
    have := bsy_le xs S day k
    show bsy xs S day k + (if _ then 1 else 0) ≤ k + 1
    split <;> omega
theorem doneB_no1 {xs : List Jb} {S : Nat → Int} {day : Int} {p : Nat} (h : S p < 0) : doneB xs S day p = false := by unfold doneB; rw [decide_eq_false (by omega)]; rfl
theorem doneB_no2 {xs : List Jb} {S : Nat → Int} {day : Int} {p : Nat} (h : day < S p + (jg xs p).days) : doneB xs S day p = false := by unfold doneB; rw [decide_eq_false (p := S p + (jg xs p).days ≤ day) (by omega), Bool.and_false]
theorem doneB_yes {xs : List Jb} {S : Nat → Int} {day : Int} {p : Nat} (h1 : 0 ≤ S p) (h2 : S p + (jg xs p).days ≤ day) : doneB xs S day p = true := by unfold doneB; rw [decide_eq_true h1, decide_eq_true h2]; rfl
theorem bsB_no1 {xs : List Jb} {S : Nat → Int} {day : Int} {p : Nat} (h : S p < 0) : bsB xs S day p = false := by unfold bsB; rw [decide_eq_false (by omega)]; rfl
theorem bsB_no2 {xs : List Jb} {S : Nat → Int} {day : Int} {p : Nat} (h : day < S p) : bsB xs S day p = false := by unfold bsB; rw [decide_eq_false (p := S p ≤ day) (by omega), Bool.false_and, Bool.and_false]
theorem bsB_no3 {xs : List Jb} {S : Nat → Int} {day : Int} {p : Nat} (h : S p + (jg xs p).days ≤ day) : bsB xs S day p = false := by unfold bsB; rw [decide_eq_false (p := day < S p + (jg xs p).days) (by omega), Bool.and_false, Bool.and_false]
theorem bsB_yes {xs : List Jb} {S : Nat → Int} {day : Int} {p : Nat} (h1 : 0 ≤ S p) (h2 : S p ≤ day) (h3 : day < S p + (jg xs p).days) : bsB xs S day p = true := by unfold bsB; rw [decide_eq_true h1, decide_eq_true h2, decide_eq_true h3]; rfl
theorem bsy_no {xs : List Jb} {S : Nat → Int} {day : Int} {k : Nat} (h : bsB xs S day k = false) : bsy xs S day (k + 1) = bsy xs S day k := by show _ + (if _ then 1 else 0) = _; rw [h]; rfl
theorem bsy_yes {xs : List Jb} {S : Nat → Int} {day : Int} {k : Nat} (h : bsB xs S day k = true) : bsy xs S day (k + 1) = bsy xs S day k + 1 := by show _ + (if _ then 1 else 0) = _; rw [h]; rfl
def Sbd (n : Nat) (S : Nat → Int) : Prop := ∀ i, i < n → -1 ≤ S i ∧ S i ≤ 400
end Go.Proofs.YtepgfcjfdnakbaaDoor
/- Jobs, part 10: workers that are busy. -/
namespace Go.Proofs.YtepgfcjfdnakbaaDoor
open Go.RowKit Go.Joins

theorem bsB_in {xs : List Jb} {S : Nat → Int} {day : Int} {p : Nat} (h : 0 ≤ S p) : bsB xs S day p = inB day (S p) (S p + (jg xs p).days - 1) := by
  unfold bsB inB
  rw [decide_eq_true h, Bool.true_and]
  congr 1
  rw [Bool.eq_iff_iff, decide_eq_true_iff, decide_eq_true_iff]
  omega
end Go.Proofs.YtepgfcjfdnakbaaDoor
/- Jobs, part 11: the plain law of plans. -/
namespace Go.Proofs.YtepgfcjfdnakbaaDoor
open Go.RowKit Go.Joins

theorem allN_mk {n : Nat} {f : Nat → Bool} (h : ∀ {i}, i < n → f i = true) : allN n f = true := List.all_eq_true.2 fun i hi => h (List.mem_range.1 hi)
/-! sums -/
def sumI (f : Nat → Int) : Nat → Int
  | 0 => 0
  | k + 1 => sumI f k + f k
theorem sumI_congr {f g : Nat → Int} : ∀ {n}, (∀ i, i < n → f i = g i) → sumI f n = sumI g n
  | 0, _ => rfl
  | n + 1, h => by
    show sumI f n + f n = sumI g n + g n
    rw [sumI_congr (fun i hi => h i (by omega)), h n (by omega)]
theorem sumI_le {f g : Nat → Int} : ∀ {n}, (∀ i, i < n → f i ≤ g i) → sumI f n ≤ sumI g n
  | 0, _ => Int.le_refl _
  | n + 1, h => by
    have h1 := sumI_le (n := n) (f := f) (g := g) (fun i hi => h i (by omega))
    have h2 := h n (by omega)
    show sumI f n + f n ≤ sumI g n + g n
    omega
theorem sumI_lt {f g : Nat → Int} {b : Nat} : ∀ {n}, b < n → (∀ i, i < n → f i ≤ g i) → f b + 1 ≤ g b → sumI f n + 1 ≤ sumI g n
  | 0, hb, _, _ => by omega
  | n + 1, hb, h, h1 => by
    show sumI f n + f n + 1 ≤ sumI g n + g n
    by_cases e : b = n
    · subst e
      have := sumI_le (n := b) (f := f) (g := g) (fun i hi => h i (by omega))
      omega
    · have := sumI_lt (n := n) (f := f) (g := g) (b := b) (by omega) (fun i hi => h i (by omega)) h1
      have := h n (by omega)
      omega
theorem sumI_one {f g : Nat → Int} {b : Nat} : ∀ {n}, b < n → (∀ i, i ≠ b → f i = g i) → sumI f n - f b = sumI g n - g b
  | 0, hb, _ => by omega
  | n + 1, hb, h => by
    show sumI f n + f n - f b = sumI g n + g n - g b
    by_cases e : b = n
    · subst e
      have := sumI_congr (n := b) (fun i hi => h i (by omega))
      omega
    · have := sumI_one (show b < n by omega) h
      have := h n (by omega)
      omega
theorem sumI_pos {f : Nat → Int} : ∀ {n}, 0 < sumI f n → ∃ i, i < n ∧ 0 < f i
  | 0, h => absurd h (by show ¬ (0 : Int) < 0; omega)
  | n + 1, h => by
    by_cases e : 0 < f n
    · exact ⟨n, by omega, e⟩
    · have h' : 0 < sumI f n + f n := h
      obtain ⟨i, hi, h2⟩ := sumI_pos (n := n) (f := f) (by omega)
      exact ⟨i, by omega, h2⟩
theorem sumI_nn {f : Nat → Int} (h : ∀ i, 0 ≤ f i) : ∀ n, 0 ≤ sumI f n
  | 0 => Int.le_refl _
  | n + 1 => by
    have h1 := sumI_nn h n
    have h2 := h n
    show 0 ≤ sumI f n + f n
    omega
theorem sumI_get {f : Nat → Int} (h : ∀ i, 0 ≤ f i) : ∀ {n i}, i < n → f i ≤ sumI f n
  | 0, i, hi => by omega
  | n + 1, i, hi => by
    show f i ≤ sumI f n + f n
    have h2 := h n
    by_cases e : i = n
    · subst e
      have := sumI_nn h i
      omega
    · have := sumI_get h (show i < n by omega)
      omega
theorem sumD_sum (xs : List Jb) : ∀ k, sumD xs k = sumI (fun i => (jg xs i).days) k
  | 0 => rfl
  | k + 1 => by show sumD xs k + _ = sumI _ k + _; rw [sumD_sum xs k]
/-! plans -/
def unF (S : Nat → Int) (i : Nat) : Int := if S i < 0 then 1 else 0
def unS (S : Nat → Int) (n : Nat) : Int := sumI (unF S) n
def bsF (xs : List Jb) (S : Nat → Int) (d : Int) (i : Nat) : Int := if bsB xs S d i = true then 1 else 0
theorem bsy_sum (xs : List Jb) (S : Nat → Int) (d : Int) : ∀ k, (bsy xs S d k : Int) = sumI (bsF xs S d) k
  | 0 => rfl
  | k + 1 => by
    show ((bsy xs S d k + (if _ then 1 else 0) : Nat) : Int) = sumI _ k + bsF xs S d k
    rw [Int.natCast_add, bsy_sum xs S d k]
    unfold bsF
    split <;> rfl
def remF (xs : List Jb) (S : Nat → Int) (d : Int) (i : Nat) : Int := if S i < 0 then (jg xs i).days else max 0 (S i + (jg xs i).days - d)
def bst (xs : List Jb) (S L : Nat → Int) (day : Int) : Nat → Int
  | 0 => -1
  | k + 1 => if (S k < 0 ∧ rdyB xs S k day = true) ∧ (bst xs S L day k < 0 ∨ L k < L (bst xs S L day k).toNat) then (k : Int) else bst xs S L day k
theorem bst_bd (xs : List Jb) (S L : Nat → Int) (day : Int) : ∀ k, -1 ≤ bst xs S L day k ∧ bst xs S L day k < (k : Int)
  | 0 => by show (-1 : Int) ≤ -1 ∧ (-1 : Int) < ((0 : Nat) : Int); omega
  | k + 1 => by
    have := bst_bd xs S L day k
    show -1 ≤ (if _ then (k : Int) else bst xs S L day k) ∧ (if _ then (k : Int) else bst xs S L day k) < _
    split <;> omega
theorem bst_ok {xs : List Jb} {S L : Nat → Int} {day : Int} : ∀ {k}, 0 ≤ bst xs S L day k → S (bst xs S L day k).toNat < 0 ∧ rdyB xs S (bst xs S L day k).toNat day = true
  | 0, h => absurd h (by show ¬ (0 : Int) ≤ -1; omega)
  | k + 1, h => by
    by_cases c : (S k < 0 ∧ rdyB xs S k day = true) ∧ (bst xs S L day k < 0 ∨ L k < L (bst xs S L day k).toNat)
    · have e : bst xs S L day (k + 1) = (k : Int) := if_pos c
      rw [e, Int.toNat_natCast]
      exact c.1
    · have e : bst xs S L day (k + 1) = bst xs S L day k := if_neg c
      rw [e] at h ⊢
      exact bst_ok h
theorem bst_none {xs : List Jb} {S L : Nat → Int} {day : Int} : ∀ {k}, bst xs S L day k < 0 → ∀ i, i < k → S i < 0 → rdyB xs S i day = true → False
  | 0, _, i, hi, _, _ => by omega
  | k + 1, h, i, hi, h1, h2 => by
    by_cases c : (S k < 0 ∧ rdyB xs S k day = true) ∧ (bst xs S L day k < 0 ∨ L k < L (bst xs S L day k).toNat)
    · have e : bst xs S L day (k + 1) = (k : Int) := if_pos c
      omega
    · have e : bst xs S L day (k + 1) = bst xs S L day k := if_neg c
      rw [e] at h
      by_cases ei : i = k
      · subst ei
        exact c ⟨⟨h1, h2⟩, .inl h⟩
      · exact bst_none h i (by omega) h1 h2
/-- one day -/
def inn (xs : List Jb) (L : Nat → Int) (wk day : Int) : Nat → (Nat → Int) → (Nat → Int)
  | 0, S => S
  | f + 1, S => if (bsy xs S day xs.length : Int) < wk ∧ 0 ≤ bst xs S L day xs.length then inn xs L wk day f (put S (bst xs S L day xs.length).toNat day) else S
/-- all days -/
def pln (xs : List Jb) (L : Nat → Int) (wk : Int) : Nat → Int → (Nat → Int) → (Nat → Int)
  | 0, _, S => S
  | f + 1, day, S => if unS S xs.length = 0 then S else pln xs L wk f (day + 1) (inn xs L wk day xs.length S)
def plan (xs : List Jb) (wk : Int) : Nat → Int := pln xs (late xs) wk 401 0 (fun _ => -1)
/-- what holds all the time -/
structure St (xs : List Jb) (wk : Int) (S : Nat → Int) (day : Int) : Prop where
  lo : ∀ i, i < xs.length → S i = -1 ∨ 0 ≤ S i
  up : ∀ i, i < xs.length → S i ≤ day
  dn : ∀ i, i < xs.length → 0 ≤ S i → rdyB xs S i (S i) = true
  bz : ∀ d, (bsy xs S d xs.length : Int) ≤ wk
  ms : day + sumI (remF xs S day) xs.length ≤ 400
theorem unF_nn (S : Nat → Int) (i : Nat) : 0 ≤ unF S i := by unfold unF; split <;> omega
theorem bsF_nn (xs : List Jb) (S : Nat → Int) (d : Int) (i : Nat) : 0 ≤ bsF xs S d i := by unfold bsF; split <;> omega
theorem unS_nn (S : Nat → Int) (n : Nat) : 0 ≤ unS S n := sumI_nn (unF_nn S) n
theorem unS_zero {S : Nat → Int} {n : Nat} (h : unS S n = 0) {i : Nat} (hi : i < n) : 0 ≤ S i := by
  have h1 := sumI_get (unF_nn S) hi
  have h2 : sumI (unF S) n = 0 := h
  rw [h2] at h1
  unfold unF at h1
  split at h1 <;> omega
theorem unS_some {S : Nat → Int} {n : Nat} (h : 0 < unS S n) : ∃ i, i < n ∧ S i < 0 := by
  obtain ⟨i, hi, h1⟩ := sumI_pos h
  refine ⟨i, hi, ?_⟩
  unfold unF at h1
  split at h1 <;> omega
theorem unS_put {S : Nat → Int} {n b : Nat} {d : Int} (hb : b < n) (h : S b < 0) (hd : 0 ≤ d) : unS (put S b d) n + 1 = unS S n := by
  have h1 := sumI_one (f := unF (put S b d)) (g := unF S) hb (fun i hi => by unfold unF; rw [put_other S d hi])
  have h2 : unF (put S b d) b = 0 := by unfold unF; rw [put_same, if_neg (by omega)]
  have h3 : unF S b = 1 := by unfold unF; rw [if_pos h]
  unfold unS
  omega
/-- a job that is begun keeps what is done -/
theorem rdy_put {xs : List Jb} {S : Nat → Int} {b i : Nat} {d day : Int} (h : rdyB xs S i day = true) (hb : S b < 0) : rdyB xs (put S b d) i day = true := by
  unfold rdyB at h ⊢
  refine allN_mk (fun {j} hj => ?_)
  have h1 := allN_get h hj
  unfold doneB at h1 ⊢
  rw [Bool.and_eq_true, decide_eq_true_iff, decide_eq_true_iff] at h1 ⊢
  have e : ((jg xs i).needs.getD j 0).toNat ≠ b := fun e => by rw [e] at h1; omega
  rw [put_other S d e]
  exact h1
end Go.Proofs.YtepgfcjfdnakbaaDoor
/- Jobs, part 12: the plain law of plans, goes on. -/
namespace Go.Proofs.YtepgfcjfdnakbaaDoor
open Go.RowKit Go.Joins

theorem bsF_one {xs : List Jb} {S : Nat → Int} {d : Int} {i : Nat} (h : bsB xs S d i = true) : bsF xs S d i = 1 := by unfold bsF; rw [if_pos h]
theorem bsF_zero {xs : List Jb} {S : Nat → Int} {d : Int} {i : Nat} (h : bsB xs S d i = false) : bsF xs S d i = 0 := by unfold bsF; rw [h]; rfl
theorem bsB_congr {xs : List Jb} {S S' : Nat → Int} {d : Int} {i : Nat} (h : S i = S' i) : bsB xs S d i = bsB xs S' d i := by unfold bsB; rw [h]
theorem bsB_iff {xs : List Jb} {S : Nat → Int} {d : Int} {i : Nat} : bsB xs S d i = true ↔ 0 ≤ S i ∧ S i ≤ d ∧ d < S i + (jg xs i).days := by unfold bsB; simp only [Bool.and_eq_true, decide_eq_true_iff]
theorem bsy_put_lt {xs : List Jb} {S : Nat → Int} {b : Nat} {d day : Int} {n : Nat} (hb : b < n) (h : S b < 0) (hd : d < day) (h0 : 0 ≤ day) : (bsy xs (put S b day) d n : Int) = bsy xs S d n := by
  rw [bsy_sum, bsy_sum]
  refine sumI_congr fun i _ => ?_
  by_cases e : i = b
  · subst e
    rw [bsF_zero (bsB_no1 h), bsF_zero (bsB_no2 (by rw [put_same]; exact hd))]
  · unfold bsF
    rw [bsB_congr (put_other S day e)]
theorem bsy_put_at {xs : List Jb} {S : Nat → Int} {b : Nat} {day : Int} {n : Nat} (hb : b < n) (h : S b < 0) (h0 : 0 ≤ day) (hd : 1 ≤ (jg xs b).days) : (bsy xs (put S b day) day n : Int) = bsy xs S day n + 1 := by
  rw [bsy_sum, bsy_sum]
  have h1 := sumI_one (f := bsF xs (put S b day) day) (g := bsF xs S day) hb (fun i hi => by unfold bsF; rw [bsB_congr (put_other S day hi)])
  rw [bsF_zero (bsB_no1 h), bsF_one (bsB_iff.2 (by rw [put_same]; omega))] at h1
  omega
theorem bsy_later {xs : List Jb} {S : Nat → Int} {d day : Int} {n : Nat} (hu : ∀ i, i < n → S i ≤ day) (hd : day ≤ d) : (bsy xs S d n : Int) ≤ bsy xs S day n := by
  rw [bsy_sum, bsy_sum]
  refine sumI_le fun i hi => ?_
  cases hb : bsB xs S d i with
  | false => rw [bsF_zero hb]; exact bsF_nn xs S day i
  | true =>
    have h1 := bsB_iff.1 hb
    have h2 := hu i hi
    rw [bsF_one hb, bsF_one (bsB_iff.2 (by omega))]
    exact Int.le_refl _
theorem bsy_some {xs : List Jb} {S : Nat → Int} {d : Int} {n : Nat} (h : 1 ≤ (bsy xs S d n : Int)) : ∃ i, i < n ∧ bsB xs S d i = true := by
  rw [bsy_sum] at h
  obtain ⟨i, hi, h1⟩ := sumI_pos (n := n) (f := bsF xs S d) (by omega)
  refine ⟨i, hi, ?_⟩
  cases hb : bsB xs S d i with
  | true => rfl
  | false => rw [bsF_zero hb] at h1; omega
theorem bsy_get {xs : List Jb} {S : Nat → Int} {d : Int} {n i : Nat} (hi : i < n) (h : bsB xs S d i = true) : 1 ≤ (bsy xs S d n : Int) := by
  have h1 := sumI_get (bsF_nn xs S d) hi
  rw [bsF_one h] at h1
  rw [bsy_sum]
  exact h1
theorem remF_congr {xs : List Jb} {S S' : Nat → Int} {d : Int} {i : Nat} (h : S i = S' i) : remF xs S d i = remF xs S' d i := by unfold remF; rw [h]
theorem St.start {xs : List Jb} {wk day : Int} {S : Nat → Int} {b : Nat} (h : St xs wk S day) (hk : OkJ xs) (h0 : 0 ≤ day) (hb : b < xs.length) (hs : S b < 0) (hr : rdyB xs S b day = true) (hw : (bsy xs S day xs.length : Int) < wk) : St xs wk (put S b day) day := by
  have hd := hk.days b hb
  have hup : ∀ i, i < xs.length → put S b day i ≤ day := fun i hi => by
    by_cases e : i = b
    · subst e; rw [put_same]; omega
    · rw [put_other S day e]; exact h.up i hi
  refine ⟨fun i hi => ?_, hup, fun i hi hi0 => ?_, fun d => ?_, ?_⟩
  · by_cases e : i = b
    · subst e; rw [put_same]; exact .inr h0
    · rw [put_other S day e]; exact h.lo i hi
  · by_cases e : i = b
    · subst e; rw [put_same]; exact rdy_put hr hs
    · rw [put_other S day e] at hi0 ⊢
      exact rdy_put (h.dn i hi hi0) hs
  · by_cases c : d < day
    · rw [bsy_put_lt hb hs c h0]; exact h.bz d
    · have h1 := bsy_later (xs := xs) (d := d) hup (by omega)
      rw [bsy_put_at hb hs h0 hd.1] at h1
      omega
  · have h1 := sumI_one (f := remF xs (put S b day) day) (g := remF xs S day) hb (fun i hi => remF_congr (put_other S day hi))
    have e1 : remF xs (put S b day) day b = (jg xs b).days := by unfold remF; rw [put_same, if_neg (by omega)]; omega
    have e2 : remF xs S day b = (jg xs b).days := by unfold remF; rw [if_pos hs]
    have := h.ms
    omega
theorem St.next {xs : List Jb} {wk day : Int} {S : Nat → Int} (h : St xs wk S day) (hb : 1 ≤ (bsy xs S day xs.length : Int)) : St xs wk S (day + 1) := by
  refine ⟨h.lo, fun i hi => by have := h.up i hi; omega, h.dn, h.bz, ?_⟩
  obtain ⟨b, hbl, hbb⟩ := bsy_some hb
  have h1 := bsB_iff.1 hbb
  have h2 := sumI_lt (f := remF xs S (day + 1)) (g := remF xs S day) hbl (fun i _ => by unfold remF; split <;> omega) (by unfold remF; rw [if_neg (by omega), if_neg (by omega)]; omega)
  have := h.ms
  omega
/-- if no job can begin, a job is being done -/
theorem run_some {xs : List Jb} {wk day : Int} {S L : Nat → Int} (h : St xs wk S day) (hk : OkJ xs) (hu : 1 ≤ unS S xs.length) (hb : bst xs S L day xs.length < 0) : 1 ≤ (bsy xs S day xs.length : Int) := by
  refine Classical.byContradiction fun hc => ?_
  have hall : ∀ i, i < xs.length → bsB xs S day i = true → False := fun i hi hi2 => hc (bsy_get hi hi2)
  obtain ⟨u, hul, hus⟩ := unS_some (S := S) (n := xs.length) (by omega)
  have : ∀ k, k < xs.length → 0 ≤ S k := by
    intro k
    induction k using Nat.strongRecOn with
    | ind k ih =>
      intro hkl
      refine Classical.byContradiction fun hn => ?_
      refine bst_none hb k hkl (by omega) ?_
      unfold rdyB
      refine allN_mk fun {j} hj => ?_
      obtain ⟨p, hp, he, _⟩ := nd_at hk hkl hj
      rw [he, Int.toNat_natCast]
      have h1 := ih p hp (by omega)
      have h2 := h.up p (by omega)
      refine doneB_yes h1 (Classical.byContradiction fun hx => hall p (by omega) (bsB_iff.2 (by omega)))
  have := this u hul
  omega
theorem inn_ok {xs : List Jb} {wk day : Int} {L : Nat → Int} (hk : OkJ xs) (h0 : 0 ≤ day) : ∀ (f : Nat) (S : Nat → Int), unS S xs.length ≤ f → St xs wk S day → (1 ≤ unS S xs.length ∨ 1 ≤ (bsy xs S day xs.length : Int)) →
    St xs wk (inn xs L wk day f S) day ∧ (wk ≤ (bsy xs (inn xs L wk day f S) day xs.length : Int) ∨ bst xs (inn xs L wk day f S) L day xs.length < 0) ∧ (1 ≤ unS (inn xs L wk day f S) xs.length ∨ 1 ≤ (bsy xs (inn xs L wk day f S) day xs.length : Int))
  | 0, S, hf, hs, hor => by
    refine ⟨hs, ?_, hor⟩
    show wk ≤ (bsy xs S day xs.length : Int) ∨ bst xs S L day xs.length < 0
    refine .inr (Classical.byContradiction fun hc => ?_)
    have h1 := bst_bd xs S L day xs.length
    have h2 := bst_ok (xs := xs) (S := S) (L := L) (day := day) (k := xs.length) (by omega)
    have h3 := unS_nn S xs.length
    have h4 := unS_zero (S := S) (n := xs.length) (by omega) (i := (bst xs S L day xs.length).toNat) (by omega)
    omega
  | f + 1, S, hf, hs, hor => by
    by_cases c : (bsy xs S day xs.length : Int) < wk ∧ 0 ≤ bst xs S L day xs.length
    · have e : inn xs L wk day (f + 1) S = inn xs L wk day f (put S (bst xs S L day xs.length).toNat day) := if_pos c
      have h1 := bst_bd xs S L day xs.length
      have h2 := bst_ok (xs := xs) (S := S) (L := L) (day := day) (k := xs.length) c.2
      have h3 := unS_put (S := S) (n := xs.length) (b := (bst xs S L day xs.length).toNat) (d := day) (by omega) h2.1 h0
      have h4 := bsy_put_at (xs := xs) (S := S) (n := xs.length) (b := (bst xs S L day xs.length).toNat) (day := day) (by omega) h2.1 h0 (hk.days _ (by omega)).1
      rw [e]
      exact inn_ok hk h0 f _ (by omega) (hs.start hk h0 (by omega) h2.1 h2.2 c.1) (.inr (by omega))
    · have e : inn xs L wk day (f + 1) S = S := if_neg c
      rw [e]
      refine ⟨hs, ?_, hor⟩
      omega
theorem unS_le (S : Nat → Int) : ∀ n : Nat, unS S n ≤ n
  | 0 => Int.le_refl _
  | n + 1 => by
    have := unS_le S n
    show unS S n + unF S n ≤ _
    unfold unF
    split <;> omega
/-- a day is over -/
theorem inn_next {xs : List Jb} {wk day : Int} {L S : Nat → Int} (hk : OkJ xs) (hw : 1 ≤ wk) (h0 : 0 ≤ day) (hs : St xs wk S day) (hu : 1 ≤ unS S xs.length) : St xs wk (inn xs L wk day xs.length S) (day + 1) := by
  obtain ⟨h1, h2, h3⟩ := inn_ok (L := L) hk h0 xs.length S (unS_le S xs.length) hs (.inl hu)
  refine h1.next ?_
  rcases h3 with h3 | h3
  · rcases h2 with h2 | h2
    · omega
    · exact run_some h1 hk h3 h2
  · exact h3
theorem remF_nn (xs : List Jb) (hk : OkJ xs) (S : Nat → Int) (d : Int) (i : Nat) (hi : i < xs.length) : 0 ≤ remF xs S d i := by
  have := hk.days i hi
  unfold remF
  split <;> omega
theorem St.day {xs : List Jb} {wk day : Int} {S : Nat → Int} (h : St xs wk S day) (hk : OkJ xs) : day ≤ 400 ∧ (1 ≤ unS S xs.length → day ≤ 399) := by
  have h1 := h.ms
  have h2 := sumI_le (f := fun _ => 0) (g := remF xs S day) (n := xs.length) (fun i hi => remF_nn xs hk S day i hi)
  have h3 : ∀ n, sumI (fun _ => 0) n = 0 := fun n => by
    induction n with
    | zero => rfl
    | succ n ih => show sumI (fun _ => 0) n + 0 = 0; rw [ih]; rfl
  rw [h3] at h2
  refine ⟨by omega, fun hu => ?_⟩
  obtain ⟨u, hul, hus⟩ := unS_some (S := S) (n := xs.length) (by omega)
  have h4 := sumI_lt (f := fun _ => 0) (g := remF xs S day) hul (fun i hi => remF_nn xs hk S day i hi) (by have := hk.days u hul; unfold remF; rw [if_pos hus]; omega)
  rw [h3] at h4
  omega
theorem pln_ok {xs : List Jb} {wk : Int} {L : Nat → Int} (hk : OkJ xs) (hw : 1 ≤ wk) : ∀ (f : Nat) (day : Int) (S : Nat → Int), 0 ≤ day → day + f = 401 → St xs wk S day →
    ∃ d, d ≤ 400 ∧ St xs wk (pln xs L wk f day S) d ∧ unS (pln xs L wk f day S) xs.length = 0
  | 0, day, S, h0, hf, hs => by have := (hs.day hk).1; omega
  | f + 1, day, S, h0, hf, hs => by
    by_cases c : unS S xs.length = 0
    · have e : pln xs L wk (f + 1) day S = S := if_pos c
      rw [e]
      exact ⟨day, (hs.day hk).1, hs, c⟩
    · have e : pln xs L wk (f + 1) day S = pln xs L wk f (day + 1) (inn xs L wk day xs.length S) := if_neg c
      rw [e]
      have := unS_nn S xs.length
      exact pln_ok hk hw f (day + 1) _ (by omega) (by omega) (inn_next hk hw h0 hs (by omega))
theorem St_start {xs : List Jb} {wk : Int} (hk : OkJ xs) (hw : 1 ≤ wk) : St xs wk (fun _ => -1) 0 := by
  refine ⟨fun _ _ => .inl rfl, fun _ _ => by show (-1 : Int) ≤ 0; omega, fun i _ h => absurd h (by show ¬ (0 : Int) ≤ -1; omega), fun d => ?_, ?_⟩
  · have e : ∀ n, bsy xs (fun _ => -1) d n = 0 := fun n => by
      induction n with
      | zero => rfl
      | succ n ih => rw [bsy_no (bsB_no1 (by show (-1 : Int) < 0; omega)), ih]
    rw [e]
    show (0 : Int) ≤ wk
    omega
  · have e := sumI_congr (f := remF xs (fun _ => -1) 0) (g := fun i => (jg xs i).days) (n := xs.length) (fun i _ => by unfold remF; rw [if_pos (by show (-1 : Int) < 0; decide)])
    rw [e, ← sumD_sum]
    have := hk.sum
    omega
theorem plan_ok {xs : List Jb} {wk : Int} (hk : OkJ xs) (hw : 1 ≤ wk) : ∃ d, d ≤ 400 ∧ St xs wk (plan xs wk) d ∧ unS (plan xs wk) xs.length = 0 := pln_ok hk hw 401 0 _ (Int.le_refl _) rfl (St_start hk hw)
end Go.Proofs.YtepgfcjfdnakbaaDoor
/- Jobs, part 13: ends of plans; plans with enough workers. -/
namespace Go.Proofs.YtepgfcjfdnakbaaDoor
open Go.RowKit Go.Joins

/-- the last end -/
def endS (xs : List Jb) (S : Nat → Int) : Nat → Int
  | 0 => 0
  | k + 1 => max (endS xs S k) (S k + (jg xs k).days)
/-- the last end of the jobs that are begun -/
def endP (xs : List Jb) (S : Nat → Int) : Nat → Int
  | 0 => 0
  | k + 1 => max (endP xs S k) (if S k < 0 then 0 else S k + (jg xs k).days)
theorem endP_S {xs : List Jb} {S : Nat → Int} : ∀ {n}, (∀ i, i < n → 0 ≤ S i) → endP xs S n = endS xs S n
  | 0, _ => rfl
  | n + 1, h => by
    show max (endP xs S n) (if S n < 0 then 0 else _) = max (endS xs S n) _
    rw [endP_S (fun i hi => h i (by omega)), if_neg (by have := h n (by omega); omega)]
theorem endP_congr {xs : List Jb} {S S' : Nat → Int} : ∀ {n}, (∀ i, i < n → S i = S' i) → endP xs S n = endP xs S' n
  | 0, _ => rfl
  | n + 1, h => by
    show max (endP xs S n) (if S n < 0 then 0 else _) = max (endP xs S' n) (if S' n < 0 then 0 else _)
    rw [endP_congr (fun i hi => h i (by omega)), h n (by omega)]
theorem endP_nn (xs : List Jb) (S : Nat → Int) : ∀ n, 0 ≤ endP xs S n
  | 0 => Int.le_refl _
  | n + 1 => by
    have := endP_nn xs S n
    show 0 ≤ max _ _
    omega
theorem endP_put {xs : List Jb} {S : Nat → Int} {b : Nat} {d : Int} (h : S b < 0) (hd : 0 ≤ d) : ∀ {n}, b < n → endP xs (put S b d) n = max (endP xs S n) (d + (jg xs b).days)
  | 0, hb => by omega
  | n + 1, hb => by
    by_cases e : b = n
    · subst e
      have h1 := endP_congr (xs := xs) (S := put S b d) (S' := S) (n := b) (fun i hi => put_other S d (by omega))
      have h2 := endP_nn xs S b
      show max (endP xs (put S b d) b) (if put S b d b < 0 then 0 else put S b d b + _) = max (max (endP xs S b) (if S b < 0 then 0 else _)) _
      rw [h1, put_same, if_pos h, if_neg (by omega)]
      omega
    · show max (endP xs (put S b d) n) (if put S b d n < 0 then 0 else put S b d n + _) = max (max (endP xs S n) (if S n < 0 then 0 else _)) _
      rw [endP_put h hd (show b < n by omega), put_other S d (by omega)]
      omega
theorem endP_le {xs : List Jb} {S : Nat → Int} {M : Int} (h0 : 0 ≤ M) : ∀ {n}, (∀ i, i < n → S i + (jg xs i).days ≤ M) → endP xs S n ≤ M
  | 0, _ => h0
  | n + 1, h => by
    have h1 := endP_le h0 (n := n) (fun i hi => h i (by omega))
    have h2 := h n (by omega)
    show max _ (if S n < 0 then 0 else _) ≤ M
    split <;> omega
theorem endS_ge {xs : List Jb} {S : Nat → Int} : ∀ {n i}, i < n → S i + (jg xs i).days ≤ endS xs S n
  | 0, i, hi => by omega
  | n + 1, i, hi => by
    show _ ≤ max _ _
    by_cases e : i = n
    · subst e; omega
    · have := endS_ge (xs := xs) (S := S) (show i < n by omega)
      omega
theorem endS_nn (xs : List Jb) (S : Nat → Int) : ∀ n, 0 ≤ endS xs S n
  | 0 => Int.le_refl _
  | n + 1 => by
    have := endS_nn xs S n
    show 0 ≤ max _ _
    omega
theorem endS_le {xs : List Jb} {S : Nat → Int} {M : Int} (h0 : 0 ≤ M) : ∀ {n}, (∀ i, i < n → S i + (jg xs i).days ≤ M) → endS xs S n ≤ M
  | 0, _ => h0
  | n + 1, h => by
    have h1 := endS_le h0 (n := n) (fun i hi => h i (by omega))
    have h2 := h n (by omega)
    show max _ _ ≤ M
    omega
theorem allD_le {xs : List Jb} {M : Int} (h0 : 0 ≤ M) : ∀ {n}, (∀ i, i < n → erl xs i + (jg xs i).days ≤ M) → allD xs n ≤ M
  | 0, _ => h0
  | n + 1, h => by
    have h1 := allD_le h0 (n := n) (fun i hi => h i (by omega))
    have h2 := h n (by omega)
    show max _ _ ≤ M
    omega
/-- no start is earlier than the earliest one -/
theorem St.erl {xs : List Jb} {wk day : Int} {S : Nat → Int} (h : St xs wk S day) (hk : OkJ xs) : ∀ k, k < xs.length → 0 ≤ S k → erl xs k ≤ S k := by
  intro k
  induction k using Nat.strongRecOn with
  | ind k ih =>
    intro hkl h0
    rw [erl_eq hk hkl]
    refine (erP_bd h0 (fun j hj => ?_) _ (Nat.le_refl _)).2
    have h1 := allN_get (h.dn k hkl h0) hj
    obtain ⟨p, hp, he, _⟩ := nd_at hk hkl hj
    unfold doneB at h1
    rw [he, Int.toNat_natCast, Bool.and_eq_true, decide_eq_true_iff, decide_eq_true_iff] at h1
    rw [he, Int.toNat_natCast]
    have h2 := ih p hp (by omega) h1.1
    omega
/-- enough workers: all begin at once -/
structure Ea (xs : List Jb) (S : Nat → Int) (day : Int) : Prop where
  ok : ∀ i, i < xs.length → 0 ≤ S i → S i = erl xs i
  dn : ∀ i, i < xs.length → erl xs i < day → 0 ≤ S i
theorem Ea.start {xs : List Jb} {S : Nat → Int} {day : Int} {b : Nat} (h : Ea xs S day) (hk : OkJ xs) (h0 : 0 ≤ day) (hb : b < xs.length) (hs : S b < 0) (hr : rdyB xs S b day = true) : Ea xs (put S b day) day := by
  have e1 : erl xs b = day := by
    have h1 : ¬ erl xs b < day := fun hc => by have := h.dn b hb hc; omega
    have h2 : erl xs b ≤ day := by
      rw [erl_eq hk hb]
      refine (erP_bd h0 (fun j hj => ?_) _ (Nat.le_refl _)).2
      have h1 := allN_get hr hj
      obtain ⟨p, hp, he, _⟩ := nd_at hk hb hj
      unfold doneB at h1
      rw [he, Int.toNat_natCast, Bool.and_eq_true, decide_eq_true_iff, decide_eq_true_iff] at h1
      rw [he, Int.toNat_natCast, ← h.ok p (by omega) h1.1]
      exact h1.2
    omega
  refine ⟨fun i hi hi0 => ?_, fun i hi hi0 => ?_⟩
  · by_cases e : i = b
    · subst e; rw [put_same]; exact e1.symm
    · rw [put_other S day e] at hi0 ⊢
      exact h.ok i hi hi0
  · by_cases e : i = b
    · subst e; rw [put_same]; exact h0
    · rw [put_other S day e]
      exact h.dn i hi hi0
theorem bsy_miss {xs : List Jb} {S : Nat → Int} {d : Int} {n i : Nat} (hi : i < n) (h : S i < 0) : (bsy xs S d n : Int) + 1 ≤ n := by
  have h1 := sumI_lt (f := bsF xs S d) (g := fun _ => 1) hi (fun i _ => by unfold bsF; split <;> omega) (by rw [bsF_zero (bsB_no1 h)]; omega)
  have h3 : ∀ n : Nat, sumI (fun _ => 1) n = n := fun n => by
    induction n with
    | zero => rfl
    | succ n ih => show sumI (fun _ => 1) n + 1 = _; rw [ih]; omega
  rw [h3] at h1
  rw [bsy_sum]
  exact h1
theorem Ea.next {xs : List Jb} {S L : Nat → Int} {wk day : Int} (h : Ea xs S day) (hk : OkJ xs) (hw : (xs.length : Int) ≤ wk) (hx : wk ≤ (bsy xs S day xs.length : Int) ∨ bst xs S L day xs.length < 0) : Ea xs S (day + 1) := by
  refine ⟨h.ok, fun i hi hi0 => Classical.byContradiction fun hc => ?_⟩
  rcases hx with hx | hx
  · have := bsy_miss (xs := xs) (d := day) hi (show S i < 0 by omega)
    omega
  · refine bst_none hx i hi (by omega) ?_
    unfold rdyB
    refine allN_mk fun {j} hj => ?_
    obtain ⟨p, hp, he, _⟩ := nd_at hk hi hj
    have h1 := erP_ge (xs := xs) (e := Go.Proofs.YtepgfcjfdnakbaaDoor.erl xs) (nd := (jg xs i).needs) hj
    rw [← erl_eq hk hi, he, Int.toNat_natCast] at h1
    have h2 := hk.days p (by omega)
    have h3 := h.dn p (by omega) (by omega)
    have h4 := h.ok p (by omega) h3
    rw [he, Int.toNat_natCast]
    exact doneB_yes h3 (by omega)
theorem inn_ea {xs : List Jb} {wk day : Int} {L : Nat → Int} (hk : OkJ xs) (h0 : 0 ≤ day) : ∀ (f : Nat) (S : Nat → Int), Ea xs S day → Ea xs (inn xs L wk day f S) day
  | 0, S, h => h
  | f + 1, S, h => by
    by_cases c : (bsy xs S day xs.length : Int) < wk ∧ 0 ≤ bst xs S L day xs.length
    · have e : inn xs L wk day (f + 1) S = inn xs L wk day f (put S (bst xs S L day xs.length).toNat day) := if_pos c
      have h1 := bst_bd xs S L day xs.length
      have h2 := bst_ok (xs := xs) (S := S) (L := L) (day := day) (k := xs.length) c.2
      rw [e]
      exact inn_ea hk h0 f _ (h.start hk h0 (by omega) h2.1 h2.2)
    · have e : inn xs L wk day (f + 1) S = S := if_neg c
      rw [e]
      exact h
theorem pln_ea {xs : List Jb} {wk : Int} {L : Nat → Int} (hk : OkJ xs) (hw : 1 ≤ wk) (hw2 : (xs.length : Int) ≤ wk) : ∀ (f : Nat) (day : Int) (S : Nat → Int), 0 ≤ day → St xs wk S day → Ea xs S day → ∃ d, Ea xs (pln xs L wk f day S) d
  | 0, day, S, _, _, h => ⟨day, h⟩
  | f + 1, day, S, h0, hs, h => by
    by_cases c : unS S xs.length = 0
    · have e : pln xs L wk (f + 1) day S = S := if_pos c
      rw [e]
      exact ⟨day, h⟩
    · have e : pln xs L wk (f + 1) day S = pln xs L wk f (day + 1) (inn xs L wk day xs.length S) := if_neg c
      rw [e]
      have hu := unS_nn S xs.length
      obtain ⟨_, h2, _⟩ := inn_ok (L := L) hk h0 xs.length S (unS_le S xs.length) hs (.inl (by omega))
      exact pln_ea hk hw hw2 f (day + 1) _ (by omega) (inn_next hk hw h0 hs (by omega)) ((inn_ea hk h0 xs.length S h).next hk hw2 h2)
theorem plan_quick {xs : List Jb} {wk : Int} (hk : OkJ xs) (hw : 1 ≤ wk) (hw2 : (xs.length : Int) ≤ wk) (i : Nat) (hi : i < xs.length) : plan xs wk i = erl xs i := by
  obtain ⟨_, _, _, hu⟩ := plan_ok hk hw
  obtain ⟨_, h⟩ := pln_ea (L := late xs) hk hw hw2 401 0 (fun _ => -1) (Int.le_refl _) (St_start hk hw) ⟨fun _ _ h => absurd h (by show ¬ (0 : Int) ≤ -1; omega), fun i hi h => by have := erl_bd hk i hi; omega⟩
  exact h.ok i hi (unS_zero hu hi)
/-- WHAT A PLAN IS -/
structure Plan (xs : List Jb) (wk : Int) : Prop where
  bd : ∀ i, i < xs.length → 0 ≤ plan xs wk i ∧ plan xs wk i ≤ 400
  dn : ∀ i, i < xs.length → rdyB xs (plan xs wk) i (plan xs wk i) = true
  bz : ∀ d, (bsy xs (plan xs wk) d xs.length : Int) ≤ wk
  ge : allD xs xs.length ≤ endS xs (plan xs wk) xs.length
  le : endS xs (plan xs wk) xs.length ≤ 460
  quick : (xs.length : Int) ≤ wk → endS xs (plan xs wk) xs.length = allD xs xs.length
theorem plan_law {xs : List Jb} {wk : Int} (hk : OkJ xs) (hw : 1 ≤ wk) : Plan xs wk := by
  obtain ⟨d, hd, hs, hu⟩ := plan_ok hk hw
  have h0 := fun i hi => unS_zero hu (i := i) hi
  refine ⟨fun i hi => ⟨h0 i hi, by have := hs.up i hi; omega⟩, fun i hi => hs.dn i hi (h0 i hi), hs.bz, ?_, ?_, fun hw2 => ?_⟩
  · refine allD_le (endS_nn _ _ _) fun i hi => ?_
    have h1 := hs.erl hk i hi (h0 i hi)
    have h2 := endS_ge (xs := xs) (S := plan xs wk) hi
    omega
  · refine endS_le (by omega) fun i hi => ?_
    have h1 := hs.up i hi
    have h2 := hk.days i hi
    omega
  · have h1 := endS_le (xs := xs) (S := plan xs wk) (n := xs.length) (allD_bd hk xs.length (Nat.le_refl _)).1 fun i hi => by
      rw [plan_quick hk hw hw2 i hi]
      exact allD_ge hi
    have h2 := allD_le (xs := xs) (M := endS xs (plan xs wk) xs.length) (n := xs.length) (endS_nn _ _ _) fun i hi => by
      rw [← plan_quick hk hw hw2 i hi]
      exact endS_ge hi
    omega
end Go.Proofs.YtepgfcjfdnakbaaDoor
/- Jobs, part 14: the next job of a plan. -/
namespace Go.Proofs.YtepgfcjfdnakbaaDoor
open Go.RowKit Go.Joins

theorem bst_yes {xs : List Jb} {S L : Nat → Int} {day : Int} {k : Nat} (h1 : S k < 0) (h2 : rdyB xs S k day = true) (h3 : bst xs S L day k < 0 ∨ L k < L (bst xs S L day k).toNat) : bst xs S L day (k + 1) = (k : Int) := if_pos ⟨⟨h1, h2⟩, h3⟩
theorem bst_no1 {xs : List Jb} {S L : Nat → Int} {day : Int} {k : Nat} (h : ¬ S k < 0) : bst xs S L day (k + 1) = bst xs S L day k := if_neg fun hc => h hc.1.1
theorem bst_no2 {xs : List Jb} {S L : Nat → Int} {day : Int} {k : Nat} (h : rdyB xs S k day = false) : bst xs S L day (k + 1) = bst xs S L day k := if_neg fun hc => by have := hc.1.2; rw [h] at this; exact absurd this (by decide)
theorem bst_no3 {xs : List Jb} {S L : Nat → Int} {day : Int} {k : Nat} (h : 0 ≤ bst xs S L day k) (h2 : ¬ L k < L (bst xs S L day k).toNat) : bst xs S L day (k + 1) = bst xs S L day k := if_neg fun hc => by rcases hc.2 with h3 | h3 <;> omega
end Go.Proofs.YtepgfcjfdnakbaaDoor
/- Jobs, part 15: the plan of the reference. -/
namespace Go.Proofs.YtepgfcjfdnakbaaDoor
open Go.RowKit Go.Joins

theorem own_keptJ {w w' : World} {base n size g : Nat} {e : TypeId} {v : Value} {cs : List Value} (h : w.ownsRow base e size v n cs) (hg : w.grownBy w' (some g)) (hlt : g < base) : w'.ownsRow base e size v n cs :=
  h.kept hg (by
    cases hv : v.ownBlock with
    | none => exact .inl rfl
    | some x => exact .inr fun e => by have := (h.lt x hv).1; injection e; omega)
theorem inn_stop {xs : List Jb} {L S : Nat → Int} {wk day : Int} (f : Nat) (h : ¬ ((bsy xs S day xs.length : Int) < wk ∧ 0 ≤ bst xs S L day xs.length)) : inn xs L wk day f S = S := by
  cases f with
  | zero => rfl
  | succ f => exact if_neg h
theorem inn_go {xs : List Jb} {L S : Nat → Int} {wk day : Int} {f b : Nat} (h1 : (bsy xs S day xs.length : Int) < wk) (h2 : bst xs S L day xs.length = (b : Int)) (h0 : 0 ≤ day) (hf : unS S xs.length ≤ f) :
    b < xs.length ∧ S b < 0 ∧ rdyB xs S b day = true ∧ unS (put S b day) xs.length = unS S xs.length - 1 ∧ ∃ f', unS (put S b day) xs.length ≤ (f' : Nat) ∧ inn xs L wk day f S = inn xs L wk day f' (put S b day) := by
  have h3 := bst_bd xs S L day xs.length
  have h4 := bst_ok (xs := xs) (S := S) (L := L) (day := day) (k := xs.length) (by omega)
  rw [h2, Int.toNat_natCast] at h4
  have h5 := unS_put (S := S) (n := xs.length) (b := b) (d := day) (by omega) h4.1 h0
  have h6 := unS_nn (put S b day) xs.length
  refine ⟨by omega, h4.1, h4.2, by omega, ?_⟩
  cases f with
  | zero => exact absurd hf (by omega)
  | succ f =>
    refine ⟨f, by omega, ?_⟩
    have e : inn xs L wk day (f + 1) S = inn xs L wk day f (put S (bst xs S L day xs.length).toNat day) := if_pos ⟨h1, by omega⟩
    rw [e, h2, Int.toNat_natCast]
theorem pln_zero {xs : List Jb} {L S : Nat → Int} {wk day : Int} (f : Nat) (h : unS S xs.length = 0) : pln xs L wk f day S = S := by
  cases f with
  | zero => rfl
  | succ f => exact if_pos h
theorem St.sbd {xs : List Jb} {wk day : Int} {S : Nat → Int} (h : St xs wk S day) (hd : day ≤ 400) : Sbd xs.length S := fun i hi => by
  have h1 := h.lo i hi
  have h2 := h.up i hi
  omega
/-- the rows of a plan -/
structure PlS (w : World) (b4 g c : Nat) (xs : List Jb) (vl : Value) (wr : World) (S : Nat → Int) : Prop where
  bel : Below w.heap.size w wr
  own : wr.ownsRow w.heap.size 2 1 (.slice (some ⟨g, 0, none⟩) xs.length c) xs.length (tab xs.length S)
  lat : wr.ownsRow b4 2 1 vl xs.length (tab xs.length (late xs))
  lt : g < b4
theorem PlS.drewN {w : World} {b4 g c : Nat} {xs : List Jb} {vl : Value} {wr : World} {S : Nat → Int} (h : PlS w b4 g c xs vl wr S) (n : Nat) : PlS w b4 g c xs vl (wr.drewN n) S :=
  ⟨below_drewN h.bel n, World.ownsRow.drewN h.own n, World.ownsRow.drewN h.lat n, h.lt⟩
theorem PlS.below {w : World} {b4 g c : Nat} {xs : List Jb} {vl : Value} {wr wz : World} {S : Nat → Int} (h : PlS w b4 g c xs vl wr S) (hb : Below wr.heap.size wr wz) : PlS w b4 g c xs vl wz S :=
  ⟨h.bel.trans (hb.mono h.bel.size), own_below h.own hb, own_below h.lat hb, h.lt⟩
theorem PlS.put {w : World} {b4 g c : Nat} {xs : List Jb} {vl : Value} {wr : World} {S : Nat → Int} (h : PlS w b4 g c xs vl wr S) (b : Nat) (y : Int) : PlS w b4 g c xs vl (wr.setCell ⟨g, b, none⟩ (.int .i64 y)) (put S b y) := by
  have h1 := h.own.stored b (.int .i64 y)
  refine ⟨h.bel.setCell (p := ⟨g, b, none⟩) (h.own.lt g rfl).1 _, ?_, own_keptJ h.lat h1.2 h.lt, h.lt⟩
  rw [← tab_set]
  exact h1.1
theorem PlS.rd {w : World} {b4 g c : Nat} {xs : List Jb} {vl : Value} {wr : World} {S : Nat → Int} (h : PlS w b4 g c xs vl wr S) : Rd wr wr.heap.size (.slice (some ⟨g, 0, none⟩) xs.length c) xs.length 1 (tab xs.length S) := Rd.of_own h.own
theorem PlS.rl {w : World} {b4 g c : Nat} {xs : List Jb} {vl : Value} {wr : World} {S : Nat → Int} (h : PlS w b4 g c xs vl wr S) : Rd wr wr.heap.size vl xs.length 1 (tab xs.length (late xs)) := Rd.of_own h.lat
end Go.Proofs.YtepgfcjfdnakbaaDoor
/- Jobs, part 16: l22Plan. -/
namespace Go.Proofs.YtepgfcjfdnakbaaDoor
open Go.RowKit Go.Joins

end Go.Proofs.YtepgfcjfdnakbaaDoor
/- Jobs, part 17: PlanFor of the program. -/
namespace Go.Proofs.YtepgfcjfdnakbaaDoor
open Go.RowKit Go.Joins

/-- the rows of a plan, in any order -/
structure PlI (w : World) (g c : Nat) (xs : List Jb) (vl : Value) (wr : World) (S : Nat → Int) : Prop where
  bel : Below w.heap.size w wr
  own : wr.ownsRow w.heap.size 2 1 (.slice (some ⟨g, 0, none⟩) xs.length c) xs.length (tab xs.length S)
  lat : wr.ownsRow w.heap.size 2 1 vl xs.length (tab xs.length (late xs))
  ne : ∀ x, vl.ownBlock = some x → x ≠ g
theorem PlI.below {w : World} {g c : Nat} {xs : List Jb} {vl : Value} {wr wz : World} {S : Nat → Int} (h : PlI w g c xs vl wr S) (hb : Below wr.heap.size wr wz) : PlI w g c xs vl wz S :=
  ⟨h.bel.trans (hb.mono h.bel.size), own_below h.own hb, own_below h.lat hb, h.ne⟩
theorem PlI.put {w : World} {g c : Nat} {xs : List Jb} {vl : Value} {wr : World} {S : Nat → Int} (h : PlI w g c xs vl wr S) (b : Nat) (y : Int) : PlI w g c xs vl (wr.setCell ⟨g, b, none⟩ (.int .i64 y)) (put S b y) := by
  have h1 := h.own.stored b (.int .i64 y)
  refine ⟨h.bel.setCell (p := ⟨g, b, none⟩) (h.own.lt g rfl).1 _, ?_, h.lat.kept h1.2 ?_, h.ne⟩
  · rw [← tab_set]
    exact h1.1
  · cases hv : vl.ownBlock with
    | none => exact .inl rfl
    | some x => exact .inr fun e => h.ne x hv (by injection e)
theorem PlI.congr {w : World} {g c : Nat} {xs : List Jb} {vl : Value} {wr : World} {S S' : Nat → Int} (h : PlI w g c xs vl wr S) (e : tab xs.length S = tab xs.length S') : PlI w g c xs vl wr S' := ⟨h.bel, e ▸ h.own, h.lat, h.ne⟩
theorem PlI.rd {w : World} {g c : Nat} {xs : List Jb} {vl : Value} {wr : World} {S : Nat → Int} (h : PlI w g c xs vl wr S) : Rd wr wr.heap.size (.slice (some ⟨g, 0, none⟩) xs.length c) xs.length 1 (tab xs.length S) := Rd.of_own h.own
theorem PlI.rl {w : World} {g c : Nat} {xs : List Jb} {vl : Value} {wr : World} {S : Nat → Int} (h : PlI w g c xs vl wr S) : Rd wr wr.heap.size vl xs.length 1 (tab xs.length (late xs)) := Rd.of_own h.lat
/-- the code, the number of days, the last end -/
def pfC (xs : List Jb) (wk : Int) : Int := if okJ xs = true then (if inB wk 1 30 = true then 0 else 2) else 1
def pfN (xs : List Jb) (wk : Int) : Nat := if pfC xs wk = 0 then xs.length else 0
def pfE (xs : List Jb) (wk : Int) : Int := if pfC xs wk = 0 then endS xs (plan xs wk) xs.length else 0
def RetPF (xs : List Jb) (wk : Int) (w : World) (e : Ending) (w' : World) : Prop := ∃ v, e = .returned (.tuple #[v, .int .i64 (pfE xs wk), .int .i64 (pfC xs wk)]) ∧ w'.ownsRow w.heap.size 2 1 v (pfN xs wk) (tab (pfN xs wk) (plan xs wk)) ∧ Below w.heap.size w w'
theorem RetPF.bad {xs : List Jb} {wk c : Int} {w w' : World} (h : pfC xs wk = c) (hc : c ≠ 0) (hb : Below w.heap.size w w') : RetPF xs wk w (.returned (.tuple #[.slice none 0 0, .int .i64 0, .int .i64 c])) w' := by
  have e1 : pfN xs wk = 0 := by unfold pfN; rw [h, if_neg hc]
  have e2 : pfE xs wk = 0 := by unfold pfE; rw [h, if_neg hc]
  refine ⟨_, by rw [h, e2], ?_, hb⟩
  rw [e1]
  exact ⟨by simp [tab], .inl ⟨rfl, rfl⟩⟩
theorem RetPF.good {xs : List Jb} {wk y : Int} {w w' : World} {v : Value} (h : pfC xs wk = 0) (hy : endS xs (plan xs wk) xs.length = y) (ho : w'.ownsRow w.heap.size 2 1 v xs.length (tab xs.length (plan xs wk))) (hb : Below w.heap.size w w') : RetPF xs wk w (.returned (.tuple #[v, .int .i64 y, .int .i64 0])) w' := by
  have e1 : pfN xs wk = xs.length := by unfold pfN; rw [if_pos h]
  have e2 : pfE xs wk = y := by unfold pfE; rw [if_pos h]; exact hy
  refine ⟨_, by rw [h, e2], ?_, hb⟩
  rw [e1]
  exact ho
theorem pfC_no {xs : List Jb} {wk : Int} (h : okJ xs = false) : pfC xs wk = 1 := by unfold pfC; rw [h]; rfl
theorem pfC_wk {xs : List Jb} {wk : Int} (h : okJ xs = true) (h2 : inB wk 1 30 = false) : pfC xs wk = 2 := by unfold pfC; rw [h, h2]; rfl
theorem pfC_ok {xs : List Jb} {wk : Int} (h : okJ xs = true) (h2 : inB wk 1 30 = true) : pfC xs wk = 0 := by unfold pfC; rw [h, h2]; rfl
end Go.Proofs.YtepgfcjfdnakbaaDoor
/- Jobs, part 18: PlanFor of the reference; codes. -/
namespace Go.Proofs.YtepgfcjfdnakbaaDoor
open Go.RowKit Go.Joins

theorem pfC_cases {xs : List Jb} {wk : Int} : (pfC xs wk = 0 ∧ okJ xs = true ∧ 1 ≤ wk ∧ wk ≤ 30) ∨ pfC xs wk = 1 ∨ pfC xs wk = 2 := by
  cases hv : okJ xs with
  | false => exact .inr (.inl (pfC_no hv))
  | true =>
    cases hi : inB wk 1 30 with
    | false => exact .inr (.inr (pfC_wk hv hi))
    | true => exact .inl ⟨pfC_ok hv hi, rfl, inB_iff.1 hi⟩
end Go.Proofs.YtepgfcjfdnakbaaDoor
/- Jobs, part 19: codes of plans that are given, both sides; what they cost. -/
namespace Go.Proofs.YtepgfcjfdnakbaaDoor
open Go.RowKit Go.Joins

def sdB (M : Nat) (S : Nat → Int) : Bool := allN M fun i => inB (S i) 0 400
def stB (xs : List Jb) (M : Nat) (S : Nat → Int) : Bool := sdB M S && decide (M = xs.length)
def pcC (xs : List Jb) (M : Nat) (S : Nat → Int) : Int := if okJ xs = true then (if stB xs M S = true then 0 else 2) else 1
theorem pcC_no {xs : List Jb} {M : Nat} {S : Nat → Int} (h : okJ xs = false) : pcC xs M S = 1 := by unfold pcC; rw [h]; rfl
theorem pcC_st {xs : List Jb} {M : Nat} {S : Nat → Int} (h : okJ xs = true) (h2 : stB xs M S = false) : pcC xs M S = 2 := by unfold pcC; rw [h, h2]; rfl
theorem pcC_ok {xs : List Jb} {M : Nat} {S : Nat → Int} (h : okJ xs = true) (h2 : stB xs M S = true) : pcC xs M S = 0 := by unfold pcC; rw [h, h2]; rfl
theorem stB_len {xs : List Jb} {M : Nat} {S : Nat → Int} (h : M ≠ xs.length) : stB xs M S = false := by unfold stB; rw [decide_eq_false h, Bool.and_false]
theorem stB_bad {xs : List Jb} {M : Nat} {S : Nat → Int} (h : sdB M S = false) : stB xs M S = false := by unfold stB; rw [h, Bool.false_and]
theorem stB_eq {xs : List Jb} {M : Nat} {S : Nat → Int} (h : sdB M S = true) : stB xs M S = decide (M = xs.length) := by unfold stB; rw [h, Bool.true_and]
theorem stB_ok {xs : List Jb} {M : Nat} {S : Nat → Int} (h : stB xs M S = true) : M = xs.length ∧ ∀ i, i < M → 0 ≤ S i ∧ S i ≤ 400 := by
  unfold stB at h
  rw [Bool.and_eq_true, decide_eq_true_iff] at h
  exact ⟨h.2, fun i hi => inB_iff.1 (allN_get h.1 hi)⟩
def csS (xs : List Jb) (S : Nat → Int) (day : Int) : Nat → Int
  | 0 => 0
  | k + 1 => if S k < day then csS xs S day k + (jg xs k).cost else csS xs S day k
theorem csS_bd {xs : List Jb} (h : OkJ xs) (S : Nat → Int) (day : Int) : ∀ k : Nat, k ≤ xs.length → 0 ≤ csS xs S day k ∧ csS xs S day k ≤ 1000000 * (k : Int)
  | 0, _ => by show (0 : Int) ≤ 0 ∧ (0 : Int) ≤ 1000000 * ((0 : Nat) : Int); omega
  | k + 1, hk => by
    have h1 := csS_bd h S day k (by omega)
    have h2 := h.cost k (by omega)
    by_cases c : S k < day
    · rw [show csS xs S day (k + 1) = csS xs S day k + (jg xs k).cost from if_pos c]; omega
    · rw [show csS xs S day (k + 1) = csS xs S day k from if_neg c]; omega
def cbV (xs : List Jb) (M : Nat) (S : Nat → Int) (day : Int) : Int := if pcC xs M S = 0 then csS xs S day xs.length else 0
theorem cbV_no {xs : List Jb} {M : Nat} {S : Nat → Int} {day c : Int} (h : pcC xs M S = c) (hc : c ≠ 0) : cbV xs M S day = 0 := by unfold cbV; rw [h, if_neg hc]
theorem cbV_ok {xs : List Jb} {M : Nat} {S : Nat → Int} {day : Int} (h : pcC xs M S = 0) : cbV xs M S day = csS xs S day xs.length := by unfold cbV; rw [if_pos h]
theorem pcC_zero {xs : List Jb} {M : Nat} {S : Nat → Int} (h : pcC xs M S = 0) : okJ xs = true ∧ M = xs.length ∧ ∀ i, i < M → 0 ≤ S i ∧ S i ≤ 400 := by
  cases hv : okJ xs with
  | false => rw [pcC_no hv] at h; omega
  | true =>
    cases hs : stB xs M S with
    | false => rw [pcC_st hv hs] at h; omega
    | true => exact ⟨rfl, stB_ok hs⟩
/-- two numbers -/
def Ret2n (x y : Int) (w : World) (e : Ending) (w' : World) : Prop := e = .returned (.tuple #[.int .i64 x, .int .i64 y]) ∧ Below w.heap.size w w'
end Go.Proofs.YtepgfcjfdnakbaaDoor
/- Jobs, part 20: CostBy of the reference; PlanFault, both sides. -/
namespace Go.Proofs.YtepgfcjfdnakbaaDoor
open Go.RowKit Go.Joins

/-! the first fault -/
def fltB (xs : List Jb) (S : Nat → Int) (wk : Int) (k : Nat) : Bool := rdyB xs S k (S k) && decide ((bsy xs S (S k) xs.length : Int) ≤ wk)
def fltF (xs : List Jb) (S : Nat → Int) (wk : Int) : Nat → Nat → Int
  | 0, _ => -1
  | f + 1, k => if fltB xs S wk k = true then fltF xs S wk f (k + 1) else (k : Int)
def pltC (xs : List Jb) (M : Nat) (S : Nat → Int) (wk : Int) : Int := if okJ xs = true then (if (stB xs M S && inB wk 1 30) = true then 0 else 2) else 1
def pltV (xs : List Jb) (M : Nat) (S : Nat → Int) (wk : Int) : Int := if pltC xs M S wk = 0 then fltF xs S wk xs.length 0 else 0
theorem fltF_yes {xs : List Jb} {S : Nat → Int} {wk : Int} {f k : Nat} (h : fltB xs S wk k = true) : fltF xs S wk (f + 1) k = fltF xs S wk f (k + 1) := if_pos h
theorem fltF_no {xs : List Jb} {S : Nat → Int} {wk : Int} {f k : Nat} (h : fltB xs S wk k = false) : fltF xs S wk (f + 1) k = (k : Int) := if_neg (by rw [h]; decide)
theorem fltB_no1 {xs : List Jb} {S : Nat → Int} {wk : Int} {k : Nat} (h : rdyB xs S k (S k) = false) : fltB xs S wk k = false := by unfold fltB; rw [h]; rfl
theorem fltB_no2 {xs : List Jb} {S : Nat → Int} {wk : Int} {k : Nat} (h : wk < (bsy xs S (S k) xs.length : Int)) : fltB xs S wk k = false := by unfold fltB; rw [decide_eq_false (by omega), Bool.and_false]
theorem fltB_yes {xs : List Jb} {S : Nat → Int} {wk : Int} {k : Nat} (h1 : rdyB xs S k (S k) = true) (h : ¬ wk < (bsy xs S (S k) xs.length : Int)) : fltB xs S wk k = true := by unfold fltB; rw [h1, decide_eq_true (by omega)]; rfl
theorem fltF_all {xs : List Jb} {S : Nat → Int} {wk : Int} (h : ∀ k, k < xs.length → fltB xs S wk k = true) : ∀ f k, f + k ≤ xs.length → fltF xs S wk f k = -1
  | 0, _, _ => rfl
  | f + 1, k, hk => by
    rw [fltF_yes (h k (by omega))]
    exact fltF_all h f (k + 1) (by omega)
theorem pltC_cases (xs : List Jb) (M : Nat) (S : Nat → Int) (wk : Int) : (okJ xs = false ∧ pltC xs M S wk = 1) ∨ (okJ xs = true ∧ stB xs M S = false ∧ pltC xs M S wk = 2) ∨ (okJ xs = true ∧ stB xs M S = true ∧ inB wk 1 30 = false ∧ pltC xs M S wk = 2) ∨ (okJ xs = true ∧ stB xs M S = true ∧ inB wk 1 30 = true ∧ pltC xs M S wk = 0) := by
  unfold pltC
  cases okJ xs <;> cases stB xs M S <;> cases inB wk 1 30 <;> simp
theorem pltV_no {xs : List Jb} {M : Nat} {S : Nat → Int} {wk c : Int} (h : pltC xs M S wk = c) (hc : c ≠ 0) : pltV xs M S wk = 0 := by unfold pltV; rw [h, if_neg hc]
theorem pltV_ok {xs : List Jb} {M : Nat} {S : Nat → Int} {wk : Int} (h : pltC xs M S wk = 0) : pltV xs M S wk = fltF xs S wk xs.length 0 := by unfold pltV; rw [if_pos h]
end Go.Proofs.YtepgfcjfdnakbaaDoor
/- Jobs, part 21: PlanFault, both sides. -/
namespace Go.Proofs.YtepgfcjfdnakbaaDoor
open Go.RowKit Go.Joins

end Go.Proofs.YtepgfcjfdnakbaaDoor
/- Jobs, part 22: lists of jobs that are drawn. -/
namespace Go.Proofs.YtepgfcjfdnakbaaDoor
open Go.RowKit Go.Joins

/-- a drawn list of jobs: a row of jobs, each with a row of needs of its own -/
structure DrJ (W w : World) (B g k : Nat) (bs : List UInt8) (v : Value) (ys : List (Jb × Value)) : Prop where
  dr : DrR W w B g k bs 62 4 v ys.length (ys.flatMap cellsJ)
  nds : ∀ y ∈ ys, w.ownsRow W.heap.size 2 1 y.2 y.1.needs.length (intV y.1.needs)
  len : ys.length ≤ 62
  sm : ∀ y ∈ ys, y.1.nm.size ≤ 16 ∧ y.1.needs.length ≤ 62
  nn : ∃ b c, v = .slice (some ⟨b, 0, none⟩) ys.length c
theorem DrJ.draw {W w w' : World} {B g k k' : Nat} {bs : List UInt8} {v : Value} {ys : List (Jb × Value)} (h : DrJ W w B g k bs v ys) (hs : SrcAt w' B g k' bs) (hg : w.grownBy w' (some g)) : DrJ W w' B g k' bs v ys :=
  ⟨h.dr.draw hs hg, fun y hy => own_keptJ (h.nds y hy) hg h.dr.lt, h.len, h.sm, h.nn⟩
theorem DrJ.more {W w : World} {B g k k' : Nat} {bs : List UInt8} {v : Value} {ys : List (Jb × Value)} (h : DrJ W w B g k bs v ys) (hk : k ≤ k') : DrJ W w B g k' bs v ys := ⟨h.dr.more hk, h.nds, h.len, h.sm, h.nn⟩
theorem DrJ.below {W w w' : World} {B g k : Nat} {bs : List UInt8} {v : Value} {ys : List (Jb × Value)} (h : DrJ W w B g k bs v ys) (hb : Below w.heap.size w w') : DrJ W w' B g k bs v ys := ⟨h.dr.below hb, fun y hy => own_below (h.nds y hy) hb, h.len, h.sm, h.nn⟩
theorem DrJ.drewN {W w : World} {B g k : Nat} {bs : List UInt8} {v : Value} {ys : List (Jb × Value)} (h : DrJ W w B g k bs v ys) (n : Nat) : DrJ W (w.drewN n) B g k bs v ys := ⟨h.dr.drewN n, fun y hy => World.ownsRow.drewN (h.nds y hy) n, h.len, h.sm, h.nn⟩
theorem DrJ.drew {W w : World} {B g k : Nat} {bs : List UInt8} {v : Value} {ys : List (Jb × Value)} (h : DrJ W w B g k bs v ys) : DrJ W w.drew B g k bs v ys := h.drewN 1
theorem DrJ.from {W W' w : World} {B g k : Nat} {bs : List UInt8} {v : Value} {ys : List (Jb × Value)} (h : DrJ W' w B g k bs v ys) (hg : W.grownBy W' (some g)) (hl : g < W.heap.size) : DrJ W w B g k bs v ys := ⟨h.dr.from hg hl, fun y hy => ownsRow_le (h.nds y hy) hg.size, h.len, h.sm, h.nn⟩
def jbsOf (ys : List (Jb × Value)) : List Jb := ys.map (·.1)
theorem jbsOf_len (ys : List (Jb × Value)) : (jbsOf ys).length = ys.length := by unfold jbsOf; rw [List.length_map]
theorem DrJ.rd {W w : World} {B g k : Nat} {bs : List UInt8} {v : Value} {ys : List (Jb × Value)} (h : DrJ W w B g k bs v ys) : RdJ w w.heap.size v (jbsOf ys) :=
  ⟨ys, rfl, by rw [jbsOf_len]; exact Rd.of_own h.dr.row, fun y hy => Rd.of_own (h.nds y hy)⟩
theorem DrJ.sz {W w : World} {B g k : Nat} {bs : List UInt8} {v : Value} {ys : List (Jb × Value)} (h : DrJ W w B g k bs v ys) : szJ (jbsOf ys) := fun i hi => by
  rw [jg_at hi]
  obtain ⟨y, hy, e⟩ := List.mem_map.1 (List.getElem_mem hi)
  have := h.sm y hy
  have e2 : (jbsOf ys)[i] = y.1 := e.symm
  rw [e2]
  omega
/-- .. and a job under way in block q -/
structure JbQ (W w : World) (B g k : Nat) (bs : List UInt8) (v : Value) (ys : List (Jb × Value)) (q : Nat) (a b c d : Value) (l : List Int) : Prop extends DrJ W w B g k bs v ys where
  hq : w.heap[q]? = some (.cells #[a, b, c, d] 62 (0, 0))
  rq : W.heap.size ≤ q
  ne : v.ownBlock ≠ some q
  old : ∀ y ∈ ys, ∀ x, y.2.ownBlock = some x → x < q
  cur : w.ownsRow (q + 1) 2 1 d l.length (intV l)
theorem JbQ.qlt {W w : World} {B g k q : Nat} {bs : List UInt8} {v a b c d : Value} {ys : List (Jb × Value)} {l : List Int} (h : JbQ W w B g k bs v ys q a b c d l) : q < w.heap.size := (Array.getElem?_eq_some_iff.1 h.hq).1
theorem JbQ.draw {W w w' : World} {B g k k' q : Nat} {bs : List UInt8} {v a b c d : Value} {ys : List (Jb × Value)} {l : List Int} (h : JbQ W w B g k bs v ys q a b c d l) (hs : SrcAt w' B g k' bs) (hg : w.grownBy w' (some g)) : JbQ W w' B g k' bs v ys q a b c d l :=
  ⟨h.toDrJ.draw hs hg, (hg.block q h.qlt (fun e => by have := h.dr.lt; have := h.rq; injection e; omega)).trans h.hq, h.rq, h.ne, h.old, own_keptJ h.cur hg (by have := h.dr.lt; have := h.rq; omega)⟩
theorem JbQ.below {W w w' : World} {B g k q : Nat} {bs : List UInt8} {v a b c d : Value} {ys : List (Jb × Value)} {l : List Int} (h : JbQ W w B g k bs v ys q a b c d l) (hb : Below w.heap.size w w') : JbQ W w' B g k bs v ys q a b c d l :=
  ⟨h.toDrJ.below hb, ((grown_of_below hb none).block q h.qlt (fun e => by cases e)).trans h.hq, h.rq, h.ne, h.old, own_below h.cur hb⟩
theorem JbQ.drew {W w : World} {B g k q : Nat} {bs : List UInt8} {v a b c d : Value} {ys : List (Jb × Value)} {l : List Int} (h : JbQ W w B g k bs v ys q a b c d l) : JbQ W w.drew B g k bs v ys q a b c d l := ⟨h.toDrJ.drew, h.hq, h.rq, h.ne, h.old, World.ownsRow.drewN h.cur 1⟩
theorem JbQ.more {W w : World} {B g k k' q : Nat} {bs : List UInt8} {v a b c d : Value} {ys : List (Jb × Value)} {l : List Int} (h : JbQ W w B g k bs v ys q a b c d l) (hk : k ≤ k') : JbQ W w B g k' bs v ys q a b c d l := ⟨h.toDrJ.more hk, h.hq, h.rq, h.ne, h.old, h.cur⟩
theorem JbQ.new {W w : World} {B g k : Nat} {bs : List UInt8} {v : Value} {ys : List (Jb × Value)} (h : DrJ W w B g k bs v ys) (a b c : Value) : JbQ W (w.alloc (.cells #[a, b, c, .slice none 0 0] 62)) B g k bs v ys w.heap.size a b c (.slice none 0 0) [] :=
  ⟨h.below ((Below.refl w.heap.size w).alloc (Nat.le_refl _) _), heap_alloc_new w _, h.dr.size, fun e => Nat.lt_irrefl _ (h.dr.row.lt _ e).2, fun y hy x hx => ((h.nds y hy).lt x hx).2, ⟨by simp [intV], .inl ⟨rfl, rfl⟩⟩⟩
theorem JbQ.set {W w : World} {B g k q : Nat} {bs : List UInt8} {v a b c d : Value} {ys : List (Jb × Value)} {l : List Int} (h : JbQ W w B g k bs v ys q a b c d l) (i : Nat) (u : Value) {cs : Array Value} (hc : (#[a, b, c, d] : Array Value).setIfInBounds i u = cs) {a' b' c' : Value} (he : cs = #[a', b', c', d]) : JbQ W (w.setCell ⟨q, i, none⟩ u) B g k bs v ys q a' b' c' d l := by
  have h1 := heap_setCell_same w q i _ _ u h.hq
  rw [hc, he] at h1
  have hg : w.grownBy (w.setCell ⟨q, i, none⟩ u) (some q) := grown_setCell (a := w) (p := ⟨q, i, none⟩) ⟨rfl, rfl, rfl, Nat.le_refl _, fun _ _ _ => rfl⟩ (.inl rfl) u
  have hlt := h.dr.lt
  refine ⟨⟨⟨hlt, h.dr.src.grown hg (fun x hx => by cases hx; exact Nat.lt_of_lt_of_le hlt h.rq), ownsRow_setCell_other h.dr.row (a := ⟨q, i, none⟩) h.ne u, grownBy_row h.dr.gr hg (fun x hx => by cases hx; exact h.rq)⟩, fun y hy => ?_, h.len, h.sm, h.nn⟩, h1, h.rq, h.ne, h.old, ?_⟩
  · exact ownsRow_setCell_other (h.nds y hy) (a := ⟨q, i, none⟩) (fun e => Nat.lt_irrefl _ (h.old y hy q e)) u
  · exact ownsRow_setCell_other h.cur (a := ⟨q, i, none⟩) (fun e => by have := (h.cur.lt q e).1; omega) u
/-- a need comes to the job's needs -/
theorem JbQ.app {W w w1 : World} {B g k q : Nat} {bs : List UInt8} {v a b c d d' : Value} {ys : List (Jb × Value)} {l : List Int} {n : Int} (h : JbQ W w B g k bs v ys q a b c d l) (hg : w.grownBy w1 d.ownBlock)
    (hr : w1.ownsRow (q + 1) 2 1 d' (l.length + 1) (intV l ++ (#[Value.int .i64 n] : Array Value).toList)) : JbQ W (w1.setCell ⟨q, 3, none⟩ d') B g k bs v ys q a b c d' (l ++ [n]) ∧ w1.heap[q]? = some (.cells #[a, b, c, d] 62 (0, 0)) := by
  have hlt := h.dr.lt
  have hrq := h.rq
  have hdb : ∀ x, d.ownBlock = some x → q + 1 ≤ x := fun x hx => (h.cur.lt x hx).1
  have hq1 : w1.heap[q]? = some (.cells #[a, b, c, d] 62 (0, 0)) := (hg.block q h.qlt (fun e => by have := hdb q e.symm; omega)).trans h.hq
  have hr2 : w1.ownsRow (q + 1) 2 1 d' (l ++ [n]).length (intV (l ++ [n])) := by
    have e : intV (l ++ [n]) = intV l ++ (#[Value.int .i64 n] : Array Value).toList := by simp [intV]
    rw [e, List.length_append]
    exact hr
  have hg2 : w1.grownBy (w1.setCell ⟨q, 3, none⟩ d') (some q) := grown_setCell (a := w1) (p := ⟨q, 3, none⟩) ⟨rfl, rfl, rfl, Nat.le_refl _, fun _ _ _ => rfl⟩ (.inl rfl) d'
  have hrow := h.dr.row.kept hg (apart_p h.dr.row h.cur (by decide))
  refine ⟨⟨⟨⟨hlt, (h.dr.src.grown hg (fun x hx => by have := hdb x hx; omega)).grown hg2 (fun x hx => by cases hx; omega), ownsRow_setCell_other hrow (a := ⟨q, 3, none⟩) h.ne d', grownBy_row (grownBy_row h.dr.gr hg (fun x hx => by have := hdb x hx; omega)) hg2 (fun x hx => by cases hx; exact hrq)⟩, fun y hy => ?_, h.len, h.sm, h.nn⟩, ?_, hrq, h.ne, h.old, ?_⟩, hq1⟩
  · have h1 : w1.ownsRow W.heap.size 2 1 y.2 y.1.needs.length (intV y.1.needs) := (h.nds y hy).kept hg (by
      cases hv : y.2.ownBlock with
      | none => exact .inl rfl
      | some x => exact .inr fun e => by have h1 := h.old y hy x hv; have h2 := hdb x e.symm; omega)
    exact ownsRow_setCell_other h1 (a := ⟨q, 3, none⟩) (fun e => Nat.lt_irrefl _ (h.old y hy q e)) d'
  · have h1 := heap_setCell_same w1 q 3 _ _ d' hq1
    exact h1
  · exact ownsRow_setCell_other hr2 (a := ⟨q, 3, none⟩) (fun e => by have := (hr2.lt q e).1; omega) d'
/-- the job comes to the list's end -/
theorem JbQ.snoc {W w w' : World} {B g k q : Nat} {bs : List UInt8} {v v' d : Value} {ys : List (Jb × Value)} {nm : ByteArray} {dd cc : Int} {l : List Int} (h : JbQ W w B g k bs v ys q (.string nm) (.int .i64 dd) (.int .i64 cc) d l) (hl : ys.length < 62) (hx : nm.size ≤ 16) (hll : l.length ≤ 62)
    (hr : w'.ownsRow W.heap.size 62 4 v' (ys.length + 1) (ys.flatMap cellsJ ++ (#[Value.string nm, .int .i64 dd, .int .i64 cc, d] : Array Value).toList)) (hg : w.grownBy w' v.ownBlock) :
    ∃ zs, zs.length = ys.length + 1 ∧ zs = ys ++ [(⟨nm, dd, cc, l⟩, d)] ∧ DrJ W w' B g k bs v' zs := by
  have e : ys.flatMap cellsJ ++ (#[Value.string nm, .int .i64 dd, .int .i64 cc, d] : Array Value).toList = (ys ++ [((⟨nm, dd, cc, l⟩ : Jb), d)]).flatMap cellsJ := by
    rw [List.flatMap_append]; simp [cellsJ]
  rw [e] at hr
  have hlen : (ys ++ [((⟨nm, dd, cc, l⟩ : Jb), d)]).length = ys.length + 1 := by simp
  refine ⟨_, hlen, rfl, ⟨h.dr.app (by rw [hlen]; exact hr) hg, fun y hy => ?_, by rw [hlen]; omega, fun y hy => ?_, ?_⟩⟩
  · rcases List.mem_append.1 hy with hy | hy
    · exact (h.nds y hy).kept hg (apart_p (h.nds y hy) h.dr.row (by decide))
    · rw [List.mem_singleton.1 hy]
      exact ownsRow_le (h.cur.kept hg (apart_p h.cur h.dr.row (by decide))) (by have := h.rq; omega)
  · rcases List.mem_append.1 hy with hy | hy
    · exact h.sm y hy
    · rw [List.mem_singleton.1 hy]; exact ⟨hx, hll⟩
  · obtain ⟨b, c, hv, _⟩ := own_posC hr (by omega)
    exact ⟨b, c, by rw [hv, hlen]⟩
end Go.Proofs.YtepgfcjfdnakbaaDoor
/- Inventories, texts, part 7: ReadPieces of the program (gen_pq7.py). -/
namespace Go.Proofs.YtepgfcjfdnakbaaDoor
open Go.RowKit Go.Joins

def OwP (w : World) (base : Nat) (v : Value) (xs : List Pc) : Prop := w.ownsRow base 46 4 v xs.length (xs.flatMap cellsP)
theorem OwP.rd {w : World} {base : Nat} {v : Value} {xs : List Pc} (h : OwP w base v xs) : RdP w w.heap.size v xs := Rd.of_own h
def RetRx (w : World) (r : Option (List Pc)) (e : Ending) (w' : World) : Prop :=
  ∃ v, e = .returned (.tuple #[v, .bool r.isSome]) ∧ OwP w' w.heap.size v (r.getD []) ∧ Below w.heap.size w w'
theorem RetRx.none {w w' : World} {r : Option (List Pc)} (h : r = none) (hb : Below w.heap.size w w') : RetRx w r (.returned (.tuple #[.slice none 0 0, .bool false])) w' := by
  subst h; exact ⟨_, rfl, ⟨rfl, .inl ⟨rfl, rfl⟩⟩, hb⟩
theorem RetRx.some {w w' : World} {r : Option (List Pc)} {xs : List Pc} {v : Value} (h : r = some xs) (ho : OwP w' w.heap.size v xs) (hb : Below w.heap.size w w') : RetRx w r (.returned (.tuple #[v, .bool true])) w' := by
  subst h; exact ⟨_, rfl, ho, hb⟩
/-- a row of four words -/
structure W4 (w : World) (g : Nat) (x o a b : ByteArray) : Prop where
  lt : g < w.heap.size
  c0 : w.cell? ⟨g, 0, none⟩ = some (.string x)
  c1 : w.cell? ⟨g, 1, none⟩ = some (.string o)
  c2 : w.cell? ⟨g, 2, none⟩ = some (.string a)
  c3 : w.cell? ⟨g, 3, none⟩ = some (.string b)
theorem W4.next {w w' : World} {g : Nat} {x o a b : ByteArray} (h : W4 w g x o a b) (hb : Below w.heap.size w w') : W4 w' g x o a b :=
  ⟨Nat.lt_of_lt_of_le h.lt hb.size, (hb.cell (p := ⟨g, 0, none⟩) h.lt).trans h.c0, (hb.cell (p := ⟨g, 1, none⟩) h.lt).trans h.c1, (hb.cell (p := ⟨g, 2, none⟩) h.lt).trans h.c2, (hb.cell (p := ⟨g, 3, none⟩) h.lt).trans h.c3⟩
theorem own_w4 {w : World} {base : Nat} {v : Value} {x o a b : ByteArray} (h : w.ownsRow base 9 1 v [x, o, a, b].length ([x, o, a, b].map Value.string)) :
    ∃ g c, v = .slice (some ⟨g, 0, none⟩) 4 c ∧ W4 w g x o a b := by
  obtain ⟨g, c, hv, _, _, hlt, hc⟩ := own_strs h (by simp)
  exact ⟨g, c, hv, hlt, hc 0 (by simp), hc 1 (by simp), hc 2 (by simp), hc 3 (by simp)⟩
theorem bothW_fin {x o : ByteArray} {a b : Option Int} : (bothW x o a b).isSome = (a.isSome && b.isSome) ∧ ∀ r, bothW x o a b = some r → r = ⟨x, o, a.getD 0, b.getD 0⟩ := by
  cases a with
  | none => exact ⟨rfl, fun r h => by cases h⟩
  | some a =>
    cases b with
    | none => exact ⟨rfl, fun r h => by cases h⟩
    | some b => exact ⟨rfl, fun r h => (Option.some.inj h).symm⟩
theorem okWs_step {l : List ByteArray} {k : Nat} (h : okWs l k) {r : Rw} (hk : k < l.length) (hr : rdW l[k] = some r) : okWs l (k + 1) := fun i hi h2 => by
  by_cases e : i = k
  · subst e; rw [hr]; rfl
  · exact h i hi (by omega)
theorem mkI_sm {l : List ByteArray} {n : Nat} (hl : ∀ z ∈ l, z.size ≤ n) : ∀ k, k ≤ l.length → okWs l k → ∀ x ∈ mkI l k, x.name.size ≤ n := by
  intro k
  induction k with
  | zero => intro _ _ x hx; cases hx
  | succ k ih =>
    intro hk ho x hx
    obtain ⟨r, hr⟩ := Option.isSome_iff_exists.1 (ho k (by omega) (by omega))
    rw [mkI_step (by omega) hr] at hx
    rcases List.mem_append.1 hx with hx | hx
    · exact ih (by omega) (fun i hi h2 => ho i hi (by omega)) x hx
    · rw [List.mem_singleton.1 hx]
      exact Nat.le_trans (rdW_size hr).1 (hl _ (List.getElem_mem _))
theorem sm_szP {xs : List Pc} (h : ∀ x ∈ xs, x.name.size ≤ 1048576) : szP xs := fun k hk => by rw [pg_at hk]; exact h _ (List.getElem_mem hk)
theorem pc_snoc {xs : List Pc} {a : ByteArray} {b c d : Int} : xs.flatMap cellsP ++ (#[Value.string a, .int .i64 b, .int .i64 c, .int .i64 d] : Array Value).toList = (xs ++ [(⟨a, b, c, d⟩ : Pc)]).flatMap cellsP := by
  rw [List.flatMap_append]; simp [cellsP]
set_option maxRecDepth 100000 in
set_option maxHeartbeats 3200000 in
theorem ReadPI_any (s : ByteArray) (w : World) (hs : s.size ≤ 100000) (ht : Tab w) : Calls Tryd.prog 15 #[.string s] w (RetRx w (rdPcs s)) := by
  have HT := Lib.hid (textLines_any s w (by omega))
  have Ht := Lib.hid ht; clear ht
  cases hl : linesB 10 s with
  | none =>
    have Hr := Lib.hid (rdPcs_none hl)
    rw [hl] at HT
    clear hl
    go_enter Tryd.func15, Tryd.ntmps15
    go_wp2_with fail
    refine HT.out.mono ?_; rintro e w5 ⟨v5, rfl, _, hb5⟩
    have HB5 := Lib.hid hb5; clear hb5
    go_wp2_with fail
    go_ret2
    exact RetRx.none Hr.out HB5.out
  | some l =>
    have Hl := Lib.hid hl
    have hn6 := linesB_le hl
    have HM := Lib.hid (show ∀ z ∈ l, z.size ≤ 1048576 from fun z hz => Nat.le_trans (linesB_mem hl z hz) (by omega))
    rw [hl] at HT
    clear hl
    generalize hdl : l.length = n at *
    have Hdl := Lib.hid hdl; clear hdl
    go_enter Tryd.func15, Tryd.ntmps15
    go_wp2_with fail
    refine HT.out.mono ?_; rintro e w5 ⟨v5, rfl, ho5, hb5⟩
    obtain ⟨A5, c5, g5, rfl, hA5, hc5⟩ := own_strs0 (ho5 l rfl)
    rw [Hdl.out] at hA5 ⊢
    have HA5 := Lib.hid hA5
    have HC := Lib.hid hc5
    have HB5 := Lib.hid hb5
    have hb0 := Lib.hid ((Below.refl w5.heap.size w5).alloc (Nat.le_refl _) (.cells #[] 46))
    have ho0 := Lib.hid (World.ownsRow_made (base := w5.heap.size) (e := 46) (size := 4) w5 #[] 0 (Nat.le_refl _) (by simp [maxLen]) rfl)
    clear ho5 hb5 HT hA5 hc5
    go_wp2_with fail
    go_loopw [6, 24] (fun o i wr => ∃ k : Nat, k ≤ n ∧ i = .int .i64 (k : Int) ∧ okWs l k ∧ wr.ownsRow w5.heap.size 46 4 o k ((mkI l k).flatMap cellsP) ∧ Below w5.heap.size w5 wr) (fun _ i _ => n - (intOf i).toNat)
    case atStart => exact ⟨0, Nat.zero_le _, rfl, fun i hi h => by omega, ho0.out, hb0.out⟩
    case round =>
      obtain ⟨k, hk, rfl, hall, hown, hbl⟩ := hrel
      have Hown := Lib.hid hown
      have Hbl := Lib.hid hbl
      have Hall := Lib.hid hall
      obtain ⟨A6, c6, rfl⟩ := sl_of_own hown
      have Hml := Lib.hid (mkI_len k (by rw [Hdl.out]; exact hk) hall)
      clear hown hall hb0 ho0
      by_cases hlt : k < n
      · have hlt' : (k : Int) < (n : Int) := by omega
        have hkl : k < l.length := by rw [Hdl.out]; exact hlt
        obtain ⟨rfl, hlt5⟩ := HA5.out (by omega)
        have hce := (hbl.cell (p := ⟨g5, k, none⟩) hlt5).trans (HC.out k hkl)
        have hline := HM.out _ (List.getElem_mem hkl)
        have HP := Lib.hid (parts_any l[k] wr (by omega))
        have Hbad := Lib.hid (fun h => rdPcs_bad Hl.out k hkl h)
        have Hgood := Lib.hid (fun r h => (⟨okWs_step Hall.out hkl h, mkI_step hkl h⟩ : okWs l (k + 1) ∧ mkI l (k + 1) = mkI l k ++ [⟨(r : Rw).nm, nmI (mkI l k) r.up (mkI l k).length, r.ea, r.pr⟩]))
        unfold RetPs at HP
        generalize l[k] = line at *
        have hplen := splitB_len 32 line.size line (Nat.le_refl _)
        clear hbl
        by_cases h4 : (splitB 32 line).length = 4
        · obtain ⟨x, o, a, b, he⟩ := four_ofP h4
          have hmem := splitB_mem 32 line.size line (Nat.le_refl _)
          have hrd := rdW_four he
          rw [he] at HP hmem
          have ha := hmem a (by simp)
          have hbz := hmem b (by simp)
          have HD1 := Lib.hid (fun wx hq => ReadDecimal_any a wx (by omega) hq)
          have HD2 := Lib.hid (fun wx hq => ReadDecimal_any b wx (by omega) hq)
          unfold RetN1 at HD1 HD2
          have hfin := bothW_fin (x := x) (o := o) (a := readN a) (b := readN b)
          rw [← hrd] at hfin
          have Hfin := Lib.hid hfin
          clear he h4 hmem hplen hrd hfin ha hbz
          generalize (readN a).getD 0 = f at *
          generalize (readN b).getD 0 = t at *
          generalize (readN a).isSome = o1 at *
          generalize (readN b).isSome = o2 at *
          go_wp2_with fail
          refine HP.out.mono ?_; rintro e w6 ⟨v6, rfl, ho6, hb6⟩
          obtain ⟨g6, c6', rfl, hw6⟩ := own_w4 ho6
          have W6 := Lib.hid hw6
          obtain ⟨l6, q0, q1, q2, q3⟩ := hw6
          have Hb6 := Lib.hid (Hbl.out.trans (hb6.mono Hbl.out.size))
          have Ho6 := Lib.hid (own_below Hown.out hb6)
          clear ho6 hb6 HP Hown Hbl l6 hce
          go_wp2_with fail
          refine (HD1.out _ (Ht.out.below (HB5.out.trans (Hb6.out.mono HB5.out.size)))).mono ?_; rintro e w8 ⟨rfl, hb8⟩
          have Hb8 := Lib.hid (Hb6.out.trans (hb8.mono Hb6.out.size))
          have Ho8 := Lib.hid (own_below Ho6.out hb8)
          have W8 := Lib.hid (W6.out.next hb8)
          clear hb8 Hb6 Ho6 W6 HD1 q0 q1 q2 q3
          obtain ⟨l8, q0, q1, q2, q3⟩ := W8.out
          go_wp2_with fail
          refine (HD2.out _ (Ht.out.below (HB5.out.trans (Hb8.out.mono HB5.out.size)))).mono ?_; rintro e w9 ⟨rfl, hb9⟩
          have Hb9 := Lib.hid (Hb8.out.trans (hb9.mono Hb8.out.size))
          have Ho9 := Lib.hid (own_below Ho8.out hb9)
          have W9 := Lib.hid (W8.out.next hb9)
          clear hb9 Hb8 Ho8 W8 HD2 q0 q1 q2 q3 l8
          cases hr : rdW line with
          | none =>
            have Hr := Lib.hid (Hbad.out hr)
            have ho12 := Hfin.out.1
            rw [hr] at ho12
            clear hr Hbad Hgood Hfin
            cases o1 with
            | false =>
              clear ho12
              go_wp2_with fail
              go_ret2
              exact RetRx.none Hr.out (HB5.out.trans (Hb9.out.mono HB5.out.size))
            | true =>
              cases o2 with
              | true => cases ho12
              | false =>
                clear ho12
                go_wp2_with fail
                go_ret2
                exact RetRx.none Hr.out (HB5.out.trans (Hb9.out.mono HB5.out.size))
          | some y =>
            have ho12 := Hfin.out.1
            rw [hr] at ho12
            have hy := Hfin.out.2 y hr
            obtain ⟨hall2, hfl⟩ := Hgood.out _ hr
            rw [hy] at hfl
            have Hall2 := Lib.hid hall2
            have hz9 := Hb9.out.size
            obtain ⟨l9, q0, q1, q2, q3⟩ := W9.out
            have HN := Lib.hid (named_any w9.heap.size (.slice A6 k c6) (mkI l k) o w9.drew (by have h := Rd.of_own Ho9.out.drew; unfold RdP; rw [Hml.out]; exact h) (Nat.le_refl _) (by rw [Hml.out]; omega))
            generalize nmI (mkI l k) o (mkI l k).length = m at *
            have Hfl := Lib.hid hfl
            have Hon := Lib.hid (ones4 x m f t)
            have Hmx := Lib.hid (show k + 1 ≤ maxLen by simp only [maxLen]; omega)
            have Hby := Lib.hid (show (k + 1) * 40 ≤ 140737488355328 by omega)
            clear hr Hbad Hgood Hfin hall2 hfl hy
            cases o1 with
            | false => cases ho12
            | true =>
              cases o2 with
              | false => cases ho12
              | true =>
                clear ho12
                go_wp2_with fail
                refine wp_region_noPanic ?_
                refine wp_region_L [14,13] (fun w' => w'.cell? ⟨g6, 0, none⟩ = some (.string x) ∧ w'.cell? ⟨g6, 1, none⟩ = some (.string o)) (by kernel_rfl) (⟨q0, q1⟩) (fun hHeld => ?_)
                refine take_F (i := 0) (d := some 53) (v := ?_) (by kernel_rfl) (by kernel_rfl) rfl rfl (by kernel_rfl) (by kernel_rfl) (by kernel_rfl) (fun _ _ _ h => h) (Or.inl ⟨by rfl, ?_⟩) (by assumption) ?_
                rotate_left
                · (intro w hSw; (try dsimp only at hSw); go_simp; (try rw [if_neg (by omega)]); (try (with_reducible rfl)))
                simp only [Act.put, List.setIfInBounds_toArray, List.set_cons_zero, List.set_cons_succ]
                refine take_F (i := 1) (d := some 54) (v := ?_) (by kernel_rfl) (by kernel_rfl) rfl rfl (by kernel_rfl) (by kernel_rfl) (by kernel_rfl) (fun _ _ _ h => h) (Or.inl ⟨by rfl, ?_⟩) (by assumption) ?_
                rotate_left
                · (intro w hSw; (try dsimp only at hSw); go_simp; (try rw [if_neg (by omega)]); (try (with_reducible rfl)))
                simp only [Act.put, List.setIfInBounds_toArray, List.set_cons_zero, List.set_cons_succ]
                refine take_F (i := 2) (d := some 55) (v := ?_) (by kernel_rfl) (by kernel_rfl) rfl rfl (by kernel_rfl) (by kernel_rfl) (by kernel_rfl) (fun _ _ _ h => h) (Or.inl ⟨by rfl, ?_⟩) (by assumption) ?_
                rotate_left
                · (intro w hSw; (try dsimp only at hSw); go_simp; (try rw [if_neg (by omega)]); (try (with_reducible rfl)))
                simp only [Act.put, List.setIfInBounds_toArray, List.set_cons_zero, List.set_cons_succ]
                refine take_L [12,11,3] (i := 3) (d := some 56) (v := ?_) (by kernel_rfl) (by kernel_rfl) (by kernel_rfl) (by kernel_rfl) rfl rfl (by kernel_rfl) (by kernel_rfl) (by kernel_rfl) (fun _ _ _ h => h) (Or.inl ⟨by rfl, ?_⟩) (by assumption) ?_
                rotate_left
                · (intro w hSw; (try dsimp only at hSw); go_simp; (try rw [if_neg (by omega)]); (try (with_reducible rfl)))
                simp only [Act.put, List.setIfInBounds_toArray, List.set_cons_zero, List.set_cons_succ]
                refine take_F (i := 4) (d := some 57) (v := ?_) (by kernel_rfl) (by kernel_rfl) rfl rfl (by kernel_rfl) (by kernel_rfl) (by kernel_rfl) (fun _ _ _ h => h) (Or.inl ⟨by rfl, ?_⟩) (by assumption) ?_
                rotate_left
                · (intro w hSw; (try dsimp only at hSw); go_simp; (try rw [if_neg (by omega)]); (try (with_reducible rfl)))
                simp only [Act.put, List.setIfInBounds_toArray, List.set_cons_zero, List.set_cons_succ]
                refine take_F (i := 5) (d := some 58) (v := ?_) (by kernel_rfl) (by kernel_rfl) rfl rfl (by kernel_rfl) (by kernel_rfl) (by kernel_rfl) (fun _ _ _ h => h) (Or.inl ⟨by rfl, ?_⟩) (by assumption) ?_
                rotate_left
                · (intro w hSw; (try dsimp only at hSw); go_simp; (try rw [if_neg (by omega)]); (try (with_reducible rfl)))
                simp only [Act.put, List.setIfInBounds_toArray, List.set_cons_zero, List.set_cons_succ]
                refine take_F (i := 6) (d := some 59) (v := ?_) (by kernel_rfl) (by kernel_rfl) rfl rfl (by kernel_rfl) (by kernel_rfl) (by kernel_rfl) (fun _ _ _ h => h) (Or.inl ⟨by rfl, ?_⟩) (by assumption) ?_
                rotate_left
                · (intro w hSw; (try dsimp only at hSw); go_simp; (try rw [if_neg (by omega)]); (try (with_reducible rfl)))
                simp only [Act.put, List.setIfInBounds_toArray, List.set_cons_zero, List.set_cons_succ]
                refine take_L [8,7] (i := 7) (d := some 60) (v := ?_) (by kernel_rfl) (by kernel_rfl) (by kernel_rfl) (by kernel_rfl) rfl rfl (by kernel_rfl) (by kernel_rfl) (by kernel_rfl) (fun _ _ _ h => h) (Or.inl ⟨by rfl, ?_⟩) (by assumption) ?_
                rotate_left
                · (intro w hSw; (try dsimp only at hSw); go_simp; (try rw [if_neg (by omega)]); (try (with_reducible rfl)))
                simp only [Act.put, List.setIfInBounds_toArray, List.set_cons_zero, List.set_cons_succ]
                refine take_F (i := 9) (d := some 62) (v := ?_) (by kernel_rfl) (by kernel_rfl) rfl rfl (by kernel_rfl) (by kernel_rfl) (by kernel_rfl) (fun _ _ _ h => h) (Or.inl ⟨by rfl, ?_⟩) (by assumption) ?_
                rotate_left
                · (intro w hSw; (try dsimp only at hSw); go_simp; (try rw [if_neg (by omega)]); (try (with_reducible rfl)))
                simp only [Act.put, List.setIfInBounds_toArray, List.set_cons_zero, List.set_cons_succ]
                refine take_F (i := 10) (d := some 63) (v := ?_) (by kernel_rfl) (by kernel_rfl) rfl rfl (by kernel_rfl) (by kernel_rfl) (by kernel_rfl) (fun _ _ _ h => h) (Or.inl ⟨by rfl, ?_⟩) (by assumption) ?_
                rotate_left
                · (intro w hSw; (try dsimp only at hSw); go_simp; (try rw [if_neg (by omega)]); (try (with_reducible rfl)))
                simp only [Act.put, List.setIfInBounds_toArray, List.set_cons_zero, List.set_cons_succ]
                refine call_L (i := 8) (d := (some 61)) rfl rfl (by kernel_rfl) (fun Kq hKq => ?_)
                go_simp
                go_at_call 64
                refine HN.out.mono ?_; rintro e wa ⟨rfl, hba⟩
                have Hba := Lib.hid (Hb9.out.trans ((below_undrew hba).mono Hb9.out.size))
                have Hoa := Lib.hid (own_below Ho9.out (below_undrew hba))
                have qa0 := ((below_undrew hba).cell (p := ⟨g6, 0, none⟩) l9).trans q0
                have qa1 := ((below_undrew hba).cell (p := ⟨g6, 1, none⟩) l9).trans q1
                have hza := Hba.out.size
                clear hba
                (try go_wp2_with fail)
                refine hKq.out _ _ (⟨qa0, qa1⟩) (fun hHeld => ?_)
                clear hKq Kq
                (try simp only [Act.put, List.setIfInBounds_toArray, List.set_cons_zero, List.set_cons_succ])
                refine take_F (i := 11) (d := some 64) (v := ?_) (by kernel_rfl) (by kernel_rfl) rfl rfl (by kernel_rfl) (by kernel_rfl) (by kernel_rfl) (fun _ _ _ h => h) (Or.inl ⟨by rfl, ?_⟩) (by assumption) ?_
                rotate_left
                · (intro w hSw; (try dsimp only at hSw); go_simp; (try rw [if_neg (by omega)]); (try (with_reducible rfl)))
                simp only [Act.put, List.setIfInBounds_toArray, List.set_cons_zero, List.set_cons_succ]
                refine call_L (i := 12) (d := (some 65)) rfl rfl (by kernel_rfl) (fun Kq hKq => ?_)
                go_simp
                refine hKq.out _ _ (⟨cell_alloc (w := wa) qa0 _, cell_alloc (w := wa) qa1 _⟩) (fun hHeld => ?_)
                clear hKq Kq
                (try simp only [Act.put, List.setIfInBounds_toArray, List.set_cons_zero, List.set_cons_succ])
                refine late_L (i := 13) (d := (some 66)) (by kernel_rfl) rfl rfl (by kernel_rfl) (fun Kq hKq => ?_)
                refine step_apd0 24 46 _ 4 40 Tryd.underlying24 infoP rfl (by omega) _ _ (by rfl) (by rfl) w5.heap.size _ k _ (by rfl) Hoa.out #[.string x, .int .i64 m, .int .i64 f, .int .i64 t] 1 1 (by rfl) (by rfl) Hon.out Hmx.out Hby.out hza ?_; intro v10 w10 hown10 hg10
                have Hb10 := Lib.hid (below_apd Hba.out Hoa.out hg10 (Nat.le_refl _) hza)
                have Ho10 := Lib.hid hown10
                clear hown10 hg10
                refine hKq.out _ _ ?_
                clear hKq Kq
                simp only [Act.put, List.setIfInBounds_toArray]
                refine late_L (i := 14) (d := (some 6)) (by kernel_rfl) rfl rfl (by kernel_rfl) (fun Kq hKq => ?_)
                go_simp
                refine hKq.out _ _ ?_
                clear hKq Kq
                refine done_L (by kernel_rfl) ?_ _
                refine NoPanic.normal ?_
                (try go_wp2_with fail)
                go_roundw
                case rel => exact ⟨k + 1, by omega, by go_num, Hall2.out, by rw [Hfl.out, ← pc_snoc]; exact Ho10.out, Hb10.out⟩
                case measure => simp [intOf]; omega
        · have hnq : (((splitB 32 line).length : Int) == 4) = false := by rw [beq_eq_false_iff_ne]; omega
          have hnq2 : (((splitB 32 line).length : Int) != 4) = true := by simp [bne, hnq]
          have Hr := Lib.hid (Hbad.out (rdW_not h4))
          clear Hbad Hgood h4
          go_wp2_with fail
          refine HP.out.mono ?_; rintro e w6 ⟨v6, rfl, ho6, hb6⟩
          obtain ⟨A6', c6', rfl⟩ := sl_of_own ho6
          have Hb6 := Lib.hid (Hbl.out.trans (hb6.mono Hbl.out.size))
          generalize (splitB 32 line).length = m at *
          clear ho6 hb6 HP Hown Hbl hce
          go_wp2_with fail
          go_ret2
          exact RetRx.none Hr.out (HB5.out.trans (Hb6.out.mono HB5.out.size))
      · have hkn : k = n := by omega
        subst hkn
        have hlt' : ¬ (k : Int) < (k : Int) := by omega
        have hr := rdPcs_prog Hl.out
        rw [Hdl.out] at hr
        have hO : OwP wr w5.heap.size (.slice A6 k c6) (mkI l k) := by unfold OwP; rw [Hml.out]; exact Hown.out
        have HO := Lib.hid hO
        have hsm := sm_szP (mkI_sm HM.out k (by rw [Hdl.out]; exact Nat.le_refl _) Hall.out)
        have HX := Lib.hid (TextI_any wr.heap.size (.slice A6 k c6) (mkI l k) wr hO.rd (Nat.le_refl _) (by rw [Hml.out]; omega) hsm (Ht.out.below (HB5.out.trans (Hbl.out.mono HB5.out.size))))
        clear hO Hown Hall hsm hbl
        by_cases hs0 : s = ⟨#[]⟩
        · have Hr := Lib.hid (hr.trans (if_neg (fun h => h.2 hs0)))
          subst hs0
          clear hr HX
          go_wp2_with fail
          go_ret2
          exact RetRx.none Hr.out (HB5.out.trans (Hbl.out.mono HB5.out.size))
        · have hs1 : (s.toList == []) = false := by
            rw [beq_eq_false_iff_ne]
            intro e
            exact hs0 (ba_inj (by rw [e, ByteArray.toList_eq]))
          by_cases htx : txP (mkI l k) = s
          · have Hr := Lib.hid (hr.trans (if_pos ⟨htx, hs0⟩))
            rw [htx] at HX
            clear hr htx hs0
            go_wp2_with fail
            refine HX.out.mono ?_; rintro e w10 ⟨rfl, hb10⟩
            have Hb10 := Lib.hid (Hbl.out.trans (hb10.mono Hbl.out.size))
            have HO10 := Lib.hid (show OwP w10 w5.heap.size (.slice A6 k c6) (mkI l k) from own_below HO.out hb10)
            clear hb10
            go_wp2_with fail
            go_ret2
            exact RetRx.some Hr.out (ownsRow_le HO10.out HB5.out.size) (HB5.out.trans (Hb10.out.mono HB5.out.size))
          · have Hr := Lib.hid (hr.trans (if_neg (fun h => htx h.1)))
            have hs2 : ((txP (mkI l k)).toList == s.toList) = false := by
              rw [beq_eq_false_iff_ne]
              intro e
              exact htx (ba_inj e)
            clear hr htx hs0
            generalize txP (mkI l k) = T at *
            go_wp2_with fail
            refine HX.out.mono ?_; rintro e w10 ⟨rfl, hb10⟩
            have Hb10 := Lib.hid (Hbl.out.trans (hb10.mono Hbl.out.size))
            clear hb10
            go_wp2_with fail
            go_ret2
            exact RetRx.none Hr.out (HB5.out.trans (Hb10.out.mono HB5.out.size))
end Go.Proofs.YtepgfcjfdnakbaaDoor
