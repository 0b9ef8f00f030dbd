/- Entries' texts, part 2: the reference's side. -/
import Derived.Test.YtplpeeienpaaeaaDoorEt1
import Derived.Test.YtplpeeienpaaeaaDoorEn9
namespace Go.Proofs.YtplpeeienpaaeaaDoor
open Go.RowKit Go.Joins

theorem wpList_str {P : Program} {w : World} {ops : Array Oper} {rest : List Oper} {o : Oper} {a : Act} {Q : Exit → Act → World → Prop} (t u e : TypeId)
    (ht : P.underlying t = some (.slice e)) (hu : P.underlying u = some .string) (hinfo : (P.info? e).map (fun i => (i.zero, i.size, i.bytes)) = some (some (.int .u8 0), 1, 1))
    (sl x : Operand) (hgd : o.guard = none) (ho : o.op = .call { callee := .builtin .append, args := #[sl, x], argTypes := #[t, u] })
    (base : Nat) (v : Value) (n : Nat) (xs : List Value) (hs : a.eval sl = v) (hown : w.ownsRow base e 1 v n xs) (s : ByteArray) (hx : a.eval x = .string s)
    (h63 : n + s.size ≤ maxLen) (hbytes : n + s.size ≤ 140737488355328) (hbase : base ≤ w.heap.size)
    (h : ∀ v' w', w'.ownsRow base e 1 v' (n + s.size) (xs ++ Lib.strCells s) → w.grownBy w' v.ownBlock → wpList P ops Q rest (a.put o.dst v') w') :
    wpList P ops Q (o :: rest) a w := by
  obtain ⟨i, hi, hz, h2, h3⟩ := info_parts hinfo
  exact Lib.wpList_append_own_string w hgd sl x t u ho base e i ht hu hi hz h2 h3 v n xs hs hown s hx h63 hbytes hbase fun v' w' p q _ => h v' w' p q
theorem own_str {w : World} {base : Nat} {e : TypeId} {o : Value} {T s R : ByteArray} (hR : T ++ s = R) (h : w.ownsRow base e 1 o (T.size + s.size) (T.data.toList.map byV ++ Lib.strCells s)) : w.ownsRow base e 1 o R.size (R.data.toList.map byV) := by
  subst hR
  rw [ByteArray.size_append]
  have e1 : (T ++ s).data.toList.map byV = T.data.toList.map byV ++ Lib.strCells s := by
    rw [ByteArray.data_append, Array.toList_append, List.map_append]; rfl
  rw [e1]; exact h
theorem EntAt.five {w : World} {B b o c : Nat} {x : Ent} {A : Option Addr} (h : EntAt w B b o x A c) :
    w.cell? ⟨b, o, none⟩ = some (.int .i64 x.num) ∧ w.cell? ⟨b, o + 1, none⟩ = some (.string x.name) ∧ w.cell? ⟨b, o + 2, none⟩ = some (.string x.maker) ∧ w.cell? ⟨b, o + 3, none⟩ = some (.int .i64 x.year) ∧ w.cell? ⟨b, o + 4, none⟩ = some (.slice A x.words.length c) :=
  ⟨h.c0, h.c1, h.c2, h.c3, h.c4⟩

set_option maxRecDepth 100000 in
set_option maxHeartbeats 3200000 in
theorem l25Text_any (B : Nat) (v : Value) (xs : List Ent) (w : World) (h : RdE w B v xs) (hB : B ≤ w.heap.size) (h60 : xs.length ≤ 50) (hsm : ∀ x ∈ xs, smE x) (hg : ∀ k (hk : k < xs.length), entOk xs[k] = true) :
    Calls Tryd.prog 34 #[v] w fun e w' => e = .returned (.string (catF lineE xs)) ∧ Below w.heap.size w w' := by
  have H := Lib.hid h
  have Hsm := Lib.hid hsm
  have HG := Lib.hid hg
  obtain ⟨A, c, rfl⟩ := h.slice
  clear h hsm hg
  have hb0 := Lib.hid ((Below.refl w.heap.size w).alloc (Nat.le_refl _) (.cells #[] 5))
  have ho0 := Lib.hid (World.ownsRow_made (base := w.heap.size) (e := 5) (size := 1) w #[] 0 (Nat.le_refl _) (by simp [maxLen]) rfl)
  go_enter Tryd.func34, Tryd.ntmps34
  go_wp2_with fail
  go_loopw [3, 4] (fun o i wr => ∃ (k : Nat), k ≤ xs.length ∧ i = .int .i64 k ∧ wr.ownsRow w.heap.size 5 1 o (catF lineE (xs.take k)).size ((catF lineE (xs.take k)).data.toList.map byV) ∧ (catF lineE (xs.take k)).size ≤ k * 10485900 ∧ Below w.heap.size w wr) (fun _ i _ => xs.length - (intOf i).toNat)
  case atStart => exact ⟨0, Nat.zero_le _, rfl, ho0.out, Nat.le_refl _, hb0.out⟩
  case round =>
    obtain ⟨k, hk, rfl, hown, hsz, hbl⟩ := hrel
    by_cases hlt : k < xs.length
    · obtain ⟨b1, o1, A3, c3, hA, hE0⟩ := H.out.at k hlt
      subst hA
      have hlt' : (k : Int) < (xs.length : Int) := by omega
      have hsx := Hsm.out xs[k] (List.getElem_mem hlt)
      have hgx := HG.out k hlt
      have hst := catF_step lineE xs k hlt
      have hz1 : b1 < wr.heap.size := Nat.lt_of_lt_of_le hE0.lt (Nat.le_trans hB hbl.size)
      obtain ⟨T', hT0⟩ : ∃ X, X = catF lineE (xs.take (k + 1)) := ⟨_, rfl⟩
      rw [← hT0] at hst
      have HT' := Lib.hid hT0; clear hT0
      generalize catF lineE (xs.take k) = T at *
      generalize xs[k] = x at *
      obtain ⟨d1, d2, d3, d4, d5⟩ := ent_facts hgx
      have s1 := decS_size x.num (by omega) (by omega)
      have s2 := decS_size x.year (by omega) (by omega)
      have HLx := Lib.hid (show lineE x = decS x.num ++ ⟨#[32]⟩ ++ x.name ++ ⟨#[32]⟩ ++ x.maker ++ ⟨#[32]⟩ ++ decS x.year ++ catF wordT x.words ++ ⟨#[10]⟩ from rfl)
      generalize lineE x = L at *
      obtain ⟨num, name, maker, year, ws⟩ := x
      obtain ⟨hs1, hs2, _, hs4⟩ := hsx
      dsimp only at d1 d2 d3 d4 d5
      obtain ⟨num, rfl⟩ : ∃ f' : Nat, num = f' := ⟨num.toNat, by omega⟩
      obtain ⟨year, rfl⟩ : ∃ t' : Nat, year = t' := ⟨year.toNat, by omega⟩
      have HA := Lib.hid (fun wx => l01Dec_nonneg num wx (by omega))
      have HB := Lib.hid (fun wx => l01Dec_nonneg year wx (by omega))
      have HE := Lib.hid hE0
      obtain ⟨e0, e1, e2, e3, e4⟩ := (hE0.below (hbl.mono hB)).five
      dsimp only at e0 e1 e2 e3 e4 HLx s1 s2 hs1 hs2 hs4
      clear hgx d1 d2 d3 d4 hE0
      have Hs4 := Lib.hid hs4; clear hs4
      generalize decS num = D at *
      generalize decS year = E at *
      have p1 : (D ++ ⟨#[32]⟩ : ByteArray).size = D.size + 1 := ByteArray.size_append
      have p2 : (D ++ ⟨#[32]⟩ ++ name : ByteArray).size = D.size + 1 + name.size := by rw [ByteArray.size_append, p1]
      have p3 : (D ++ ⟨#[32]⟩ ++ name ++ ⟨#[32]⟩ : ByteArray).size = D.size + 1 + name.size + 1 := by rw [ByteArray.size_append, p2]; rfl
      have p4 : (D ++ ⟨#[32]⟩ ++ name ++ ⟨#[32]⟩ ++ maker : ByteArray).size = D.size + 1 + name.size + 1 + maker.size := by rw [ByteArray.size_append, p3]
      have p5 : (D ++ ⟨#[32]⟩ ++ name ++ ⟨#[32]⟩ ++ maker ++ ⟨#[32]⟩ : ByteArray).size = D.size + 1 + name.size + 1 + maker.size + 1 := by rw [ByteArray.size_append, p4]; rfl
      have p6 : (D ++ ⟨#[32]⟩ ++ name ++ ⟨#[32]⟩ ++ maker ++ ⟨#[32]⟩ ++ E : ByteArray).size = D.size + 1 + name.size + 1 + maker.size + 1 + E.size := by rw [ByteArray.size_append, p5]
      have hTs : T.size + (D ++ ⟨#[32]⟩ ++ name ++ ⟨#[32]⟩ ++ maker ++ ⟨#[32]⟩ ++ E : ByteArray).size ≤ 140737488355328 := by rw [p6]; omega
      have hTm : T.size + (D ++ ⟨#[32]⟩ ++ name ++ ⟨#[32]⟩ ++ maker ++ ⟨#[32]⟩ ++ E : ByteArray).size ≤ maxLen := by rw [p6]; simp only [maxLen]; omega
      have hacc : Below w.heap.size w wr.drew := hbl.drew
      have Hown := Lib.hid hown
      have hac2 : Below wr.heap.size wr wr.drew := (Below.refl _ _).drew
      have hwz := hbl.size
      clear hbl hown
      go_wp2_with fail
      refine wp_region_noPanic ?_
      refine wp_region_L [26,25] (fun w' => w'.cell? ⟨b1, o1 + k * 5, none⟩ = some (.int .i64 num) ∧ w'.cell? ⟨b1, o1 + k * 5 + 1, none⟩ = some (.string name) ∧ w'.cell? ⟨b1, o1 + k * 5 + 2, none⟩ = some (.string maker) ∧ w'.cell? ⟨b1, o1 + k * 5 + 3, none⟩ = some (.int .i64 year) ∧ w'.cell? ⟨b1, o1 + k * 5 + 4, none⟩ = some (.slice A3 ws.length c3)) (by kernel_rfl) (⟨e0, e1, e2, e3, e4⟩) (fun hHeld => ?_)
      refine take_F (i := 0) (d := some 17) (v := ?_) (by kernel_rfl) (by kernel_rfl) rfl rfl (by kernel_rfl) (by kernel_rfl) (by kernel_rfl) (fun _ _ _ h => h) (Or.inl ⟨by rfl, ?_⟩) (by assumption) ?_
      rotate_left
      · (intro w hSw; (try dsimp only at hSw); go_simp; (try rw [if_neg (by omega)]); (try (with_reducible rfl)))
      simp only [Act.put, List.setIfInBounds_toArray, List.set_cons_zero, List.set_cons_succ]
      refine take_F (i := 1) (d := some 18) (v := ?_) (by kernel_rfl) (by kernel_rfl) rfl rfl (by kernel_rfl) (by kernel_rfl) (by kernel_rfl) (fun _ _ _ h => h) (Or.inl ⟨by rfl, ?_⟩) (by assumption) ?_
      rotate_left
      · (intro w hSw; (try dsimp only at hSw); go_simp; (try rw [if_neg (by omega)]); (try (with_reducible rfl)))
      simp only [Act.put, List.setIfInBounds_toArray, List.set_cons_zero, List.set_cons_succ]
      refine take_F (i := 7) (d := some 24) (v := ?_) (by kernel_rfl) (by kernel_rfl) rfl rfl (by kernel_rfl) (by kernel_rfl) (by kernel_rfl) (fun _ _ _ h => h) (Or.inl ⟨by rfl, ?_⟩) (by assumption) ?_
      rotate_left
      · (intro w hSw; (try dsimp only at hSw); go_simp; (try rw [if_neg (by omega)]); (try (with_reducible rfl)))
      simp only [Act.put, List.setIfInBounds_toArray, List.set_cons_zero, List.set_cons_succ]
      refine take_F (i := 13) (d := some 30) (v := ?_) (by kernel_rfl) (by kernel_rfl) rfl rfl (by kernel_rfl) (by kernel_rfl) (by kernel_rfl) (fun _ _ _ h => h) (Or.inl ⟨by rfl, ?_⟩) (by assumption) ?_
      rotate_left
      · (intro w hSw; (try dsimp only at hSw); go_simp; (try rw [if_neg (by omega)]); (try (with_reducible rfl)))
      simp only [Act.put, List.setIfInBounds_toArray, List.set_cons_zero, List.set_cons_succ]
      refine take_F (i := 19) (d := some 36) (v := ?_) (by kernel_rfl) (by kernel_rfl) rfl rfl (by kernel_rfl) (by kernel_rfl) (by kernel_rfl) (fun _ _ _ h => h) (Or.inl ⟨by rfl, ?_⟩) (by assumption) ?_
      rotate_left
      · (intro w hSw; (try dsimp only at hSw); go_simp; (try rw [if_neg (by omega)]); (try (with_reducible rfl)))
      simp only [Act.put, List.setIfInBounds_toArray, List.set_cons_zero, List.set_cons_succ]
      refine take_F (i := 2) (d := some 19) (v := ?_) (by kernel_rfl) (by kernel_rfl) rfl rfl (by kernel_rfl) (by kernel_rfl) (by kernel_rfl) (fun _ _ _ h => h) (Or.inl ⟨by rfl, ?_⟩) (by assumption) ?_
      rotate_left
      · (intro w hSw; (try dsimp only at hSw); go_simp; (try rw [if_neg (by omega)]); (try (with_reducible rfl)))
      simp only [Act.put, List.setIfInBounds_toArray, List.set_cons_zero, List.set_cons_succ]
      refine take_F (i := 8) (d := some 25) (v := ?_) (by kernel_rfl) (by kernel_rfl) rfl rfl (by kernel_rfl) (by kernel_rfl) (by kernel_rfl) (fun _ _ _ h => h) (Or.inl ⟨by rfl, ?_⟩) (by assumption) ?_
      rotate_left
      · (intro w hSw; (try dsimp only at hSw); go_simp; (try rw [if_neg (by omega)]); (try (with_reducible rfl)))
      simp only [Act.put, List.setIfInBounds_toArray, List.set_cons_zero, List.set_cons_succ]
      refine take_F (i := 14) (d := some 31) (v := ?_) (by kernel_rfl) (by kernel_rfl) rfl rfl (by kernel_rfl) (by kernel_rfl) (by kernel_rfl) (fun _ _ _ h => h) (Or.inl ⟨by rfl, ?_⟩) (by assumption) ?_
      rotate_left
      · (intro w hSw; (try dsimp only at hSw); go_simp; (try rw [if_neg (by omega)]); (try (with_reducible rfl)))
      simp only [Act.put, List.setIfInBounds_toArray, List.set_cons_zero, List.set_cons_succ]
      refine take_F (i := 20) (d := some 37) (v := ?_) (by kernel_rfl) (by kernel_rfl) rfl rfl (by kernel_rfl) (by kernel_rfl) (by kernel_rfl) (fun _ _ _ h => h) (Or.inl ⟨by rfl, ?_⟩) (by assumption) ?_
      rotate_left
      · (intro w hSw; (try dsimp only at hSw); go_simp; (try rw [if_neg (by omega)]); (try (with_reducible rfl)))
      simp only [Act.put, List.setIfInBounds_toArray, List.set_cons_zero, List.set_cons_succ]
      refine take_F (i := 3) (d := some 20) (v := ?_) (by kernel_rfl) (by kernel_rfl) rfl rfl (by kernel_rfl) (by kernel_rfl) (by kernel_rfl) (fun _ _ _ h => h) (Or.inl ⟨by rfl, ?_⟩) (by assumption) ?_
      rotate_left
      · (intro w hSw; (try dsimp only at hSw); go_simp; (try rw [if_neg (by omega)]); (try (with_reducible rfl)))
      simp only [Act.put, List.setIfInBounds_toArray, List.set_cons_zero, List.set_cons_succ]
      refine take_F (i := 9) (d := some 26) (v := ?_) (by kernel_rfl) (by kernel_rfl) rfl rfl (by kernel_rfl) (by kernel_rfl) (by kernel_rfl) (fun _ _ _ h => h) (Or.inl ⟨by rfl, ?_⟩) (by assumption) ?_
      rotate_left
      · (intro w hSw; (try dsimp only at hSw); go_simp; (try rw [if_neg (by omega)]); (try (with_reducible rfl)))
      simp only [Act.put, List.setIfInBounds_toArray, List.set_cons_zero, List.set_cons_succ]
      refine take_F (i := 15) (d := some 32) (v := ?_) (by kernel_rfl) (by kernel_rfl) rfl rfl (by kernel_rfl) (by kernel_rfl) (by kernel_rfl) (fun _ _ _ h => h) (Or.inl ⟨by rfl, ?_⟩) (by assumption) ?_
      rotate_left
      · (intro w hSw; (try dsimp only at hSw); go_simp; (try rw [if_neg (by omega)]); (try (with_reducible rfl)))
      simp only [Act.put, List.setIfInBounds_toArray, List.set_cons_zero, List.set_cons_succ]
      refine take_F (i := 21) (d := some 38) (v := ?_) (by kernel_rfl) (by kernel_rfl) rfl rfl (by kernel_rfl) (by kernel_rfl) (by kernel_rfl) (fun _ _ _ h => h) (Or.inl ⟨by rfl, ?_⟩) (by assumption) ?_
      rotate_left
      · (intro w hSw; (try dsimp only at hSw); go_simp; (try rw [if_neg (by omega)]); (try (with_reducible rfl)))
      simp only [Act.put, List.setIfInBounds_toArray, List.set_cons_zero, List.set_cons_succ]
      refine take_L [23,5,4] (i := 4) (d := some 21) (v := ?_) (by kernel_rfl) (by kernel_rfl) (by kernel_rfl) (by kernel_rfl) rfl rfl (by kernel_rfl) (by kernel_rfl) (by kernel_rfl) (fun _ _ _ h => h) (Or.inl ⟨by rfl, ?_⟩) (by assumption) ?_
      rotate_left
      · (intro w hSw; (try dsimp only at hSw); go_simp; (try rw [if_neg (by omega)]); (try (with_reducible rfl)))
      simp only [Act.put, List.setIfInBounds_toArray, List.set_cons_zero, List.set_cons_succ]
      refine take_L [24,18,17,12,11,10] (i := 10) (d := some 27) (v := ?_) (by kernel_rfl) (by kernel_rfl) (by kernel_rfl) (by kernel_rfl) rfl rfl (by kernel_rfl) (by kernel_rfl) (by kernel_rfl) (fun _ _ _ h => h) (Or.inl ⟨by rfl, ?_⟩) (by assumption) ?_
      rotate_left
      · (intro w hSw; (try dsimp only at hSw); go_simp; (try rw [if_neg (by omega)]); (try (with_reducible rfl)))
      simp only [Act.put, List.setIfInBounds_toArray, List.set_cons_zero, List.set_cons_succ]
      refine take_L [24,18,17,16] (i := 16) (d := some 33) (v := ?_) (by kernel_rfl) (by kernel_rfl) (by kernel_rfl) (by kernel_rfl) rfl rfl (by kernel_rfl) (by kernel_rfl) (by kernel_rfl) (fun _ _ _ h => h) (Or.inl ⟨by rfl, ?_⟩) (by assumption) ?_
      rotate_left
      · (intro w hSw; (try dsimp only at hSw); go_simp; (try rw [if_neg (by omega)]); (try (with_reducible rfl)))
      simp only [Act.put, List.setIfInBounds_toArray, List.set_cons_zero, List.set_cons_succ]
      refine take_L [23,22] (i := 22) (d := some 39) (v := ?_) (by kernel_rfl) (by kernel_rfl) (by kernel_rfl) (by kernel_rfl) rfl rfl (by kernel_rfl) (by kernel_rfl) (by kernel_rfl) (fun _ _ _ h => h) (Or.inl ⟨by rfl, ?_⟩) (by assumption) ?_
      rotate_left
      · (intro w hSw; (try dsimp only at hSw); go_simp; (try rw [if_neg (by omega)]); (try (with_reducible rfl)))
      simp only [Act.put, List.setIfInBounds_toArray, List.set_cons_zero, List.set_cons_succ]
      refine call_L (i := 5) (d := (some 22)) rfl rfl (by kernel_rfl) (fun Kq hKq => ?_)
      go_simp
      go_at_call 48
      refine (HA.out _).mono ?_; rintro e w5 ⟨rfl, hb5⟩
      have hS5 := five_kept hb5 ⟨e0, e1, e2, e3, e4⟩
      have hacc5 := hacc.trans (hb5.mono hacc.size)
      have hac5 := hac2.trans (hb5.mono hac2.size)
      clear hacc hac2 hb5
      (try go_wp2_with fail)
      refine hKq.out _ _ (hS5) (fun hHeld => ?_)
      clear hKq Kq
      (try simp only [Act.put, List.setIfInBounds_toArray, List.set_cons_zero, List.set_cons_succ])
      refine take_F (i := 6) (d := some 23) (v := ?_) (by kernel_rfl) (by kernel_rfl) rfl rfl (by kernel_rfl) (by kernel_rfl) (by kernel_rfl) (fun _ _ _ h => h) (Or.inl ⟨by rfl, ?_⟩) (by assumption) ?_
      rotate_left
      · (intro w hSw; (try dsimp only at hSw); go_simp; (try rw [if_neg (by omega)]); (try (with_reducible rfl)))
      simp only [Act.put, List.setIfInBounds_toArray, List.set_cons_zero, List.set_cons_succ]
      refine take_F (i := 11) (d := some 28) (v := ?_) (by kernel_rfl) (by kernel_rfl) rfl rfl (by kernel_rfl) (by kernel_rfl) (by kernel_rfl) (fun _ _ _ h => h) (Or.inl ⟨by rfl, ?_⟩) (by assumption) ?_
      rotate_left
      · (intro w hSw; (try dsimp only at hSw); go_simp; (try rw [if_neg (by omega)]); (try (with_reducible rfl)))
      simp only [Act.put, List.setIfInBounds_toArray, List.set_cons_zero, List.set_cons_succ]
      refine take_F (i := 12) (d := some 29) (v := ?_) (by kernel_rfl) (by kernel_rfl) rfl rfl (by kernel_rfl) (by kernel_rfl) (by kernel_rfl) (fun _ _ _ h => h) (Or.inl ⟨by rfl, ?_⟩) (by assumption) ?_
      rotate_left
      · (intro w hSw; (try dsimp only at hSw); go_simp; (try rw [if_neg (by omega)]); (try (with_reducible rfl)))
      simp only [Act.put, List.setIfInBounds_toArray, List.set_cons_zero, List.set_cons_succ]
      refine take_F (i := 17) (d := some 34) (v := ?_) (by kernel_rfl) (by kernel_rfl) rfl rfl (by kernel_rfl) (by kernel_rfl) (by kernel_rfl) (fun _ _ _ h => h) (Or.inl ⟨by rfl, ?_⟩) (by assumption) ?_
      rotate_left
      · (intro w hSw; (try dsimp only at hSw); go_simp; (try rw [if_neg (by omega)]); (try (with_reducible rfl)))
      simp only [Act.put, List.setIfInBounds_toArray, List.set_cons_zero, List.set_cons_succ]
      refine take_F (i := 18) (d := some 35) (v := ?_) (by kernel_rfl) (by kernel_rfl) rfl rfl (by kernel_rfl) (by kernel_rfl) (by kernel_rfl) (fun _ _ _ h => h) (Or.inl ⟨by rfl, ?_⟩) (by assumption) ?_
      rotate_left
      · (intro w hSw; (try dsimp only at hSw); go_simp; (try rw [if_neg (by omega)]); (try (with_reducible rfl)))
      simp only [Act.put, List.setIfInBounds_toArray, List.set_cons_zero, List.set_cons_succ]
      refine call_L (i := 23) (d := (some 40)) rfl rfl (by kernel_rfl) (fun Kq hKq => ?_)
      go_simp
      go_at_call 48
      refine (HB.out _).mono ?_; rintro e w6 ⟨rfl, hb6⟩
      have hS6 := five_kept hb6 hS5
      have hacc := hacc5.trans (hb6.mono hacc5.size)
      have hac2 := hac5.trans (hb6.mono hac5.size)
      clear hacc5 hac5 hb6
      (try go_wp2_with fail)
      refine hKq.out _ _ (hS6) (fun hHeld => ?_)
      clear hKq Kq
      (try simp only [Act.put, List.setIfInBounds_toArray, List.set_cons_zero, List.set_cons_succ])
      refine take_F (i := 24) (d := some 41) (v := ?_) (by kernel_rfl) (by kernel_rfl) rfl rfl (by kernel_rfl) (by kernel_rfl) (by kernel_rfl) (fun _ _ _ h => h) (Or.inl ⟨by rfl, ?_⟩) (by assumption) ?_
      rotate_left
      · (intro w hSw; (try dsimp only at hSw); go_simp; (try rw [if_neg (by omega)]); (try (with_reducible rfl)))
      simp only [Act.put, List.setIfInBounds_toArray, List.set_cons_zero, List.set_cons_succ]
      refine late_L (i := 25) (d := (some 42)) (by kernel_rfl) rfl rfl (by kernel_rfl) (fun Kq hKq => ?_)
      refine step_str 76 9 5 Tryd.underlying76 Tryd.underlying9 infoB' _ _ (by rfl) (by rfl) w.heap.size _ T.size _ (by rfl) (own_below Hown.out hac2) _ (by rfl) hTm hTs hacc.size ?_; intro v7 w7 hown7 hg7
      refine hKq.out _ _ ?_
      clear hKq Kq
      simp only [Act.put, List.setIfInBounds_toArray]
      refine late_L (i := 26) (d := (some 3)) (by kernel_rfl) rfl rfl (by kernel_rfl) (fun Kq hKq => ?_)
      go_simp
      refine hKq.out _ _ ?_
      clear hKq Kq
      refine done_L (by kernel_rfl) ?_ _
      refine NoPanic.normal ?_
      have Hb7 := Lib.hid (below_apd hacc (own_below Hown.out hac2) hg7 (Nat.le_refl _) hacc.size)
      have Ho7 := Lib.hid (own_str rfl hown7)
      have q1 : (T ++ (D ++ ⟨#[32]⟩ ++ name ++ ⟨#[32]⟩ ++ maker ++ ⟨#[32]⟩ ++ E) : ByteArray).size ≤ k * 10485900 + 2097250 := by rw [ByteArray.size_append, p6]; omega
      have hfin : T ++ (D ++ ⟨#[32]⟩ ++ name ++ ⟨#[32]⟩ ++ maker ++ ⟨#[32]⟩ ++ E) ++ catF wordT ws ++ ⟨#[10]⟩ = T' := by rw [hst, HLx.out]; simp only [ba_assoc]
      clear hacc hac2 hown7 hg7 p1 p2 p3 p4 p5 p6 HLx hst HA HB hTs hTm e0 e1 e2 e3 e4 Hown
      generalize T ++ (D ++ ⟨#[32]⟩ ++ name ++ ⟨#[32]⟩ ++ maker ++ ⟨#[32]⟩ ++ E) = T1 at *
      have Hfin := Lib.hid hfin; clear hfin
      go_wp2_with fail
      go_loopw [3, 6] (fun o i wy => ∃ (j : Nat), j ≤ ws.length ∧ i = .int .i64 j ∧ wy.ownsRow w.heap.size 5 1 o (T1 ++ catF wordT (ws.take j)).size ((T1 ++ catF wordT (ws.take j)).data.toList.map byV) ∧ (T1 ++ catF wordT (ws.take j)).size ≤ k * 10485900 + 2097250 + j * 1048577 ∧ Below w.heap.size w wy) (fun _ i _ => ws.length - (intOf i).toNat)
      case atStart => exact ⟨0, Nat.zero_le _, rfl, by rw [cat0]; exact Ho7.out, by rw [cat0]; omega, Hb7.out⟩
      case round =>
        obtain ⟨j, hj, rfl, hown, hz, hby⟩ := hrel
        have hEy := HE.out.below (hby.mono hB)
        obtain ⟨_, _, _, _, y4⟩ := hEy.five
        have hws := hEy.words
        dsimp only at y4 hws
        clear hEy
        by_cases hlj : j < ws.length
        · obtain ⟨_, b2, o2, hA2, hx2⟩ := rd_at hws j hlj
          subst hA2
          have hlj' : (j : Int) < (ws.length : Int) := by omega
          have hsw := Hs4.out ws[j] (List.getElem_mem hlj)
          have hstw := catF_step wordT ws j hlj
          obtain ⟨V', hV0⟩ : ∃ X, X = catF wordT (ws.take (j + 1)) := ⟨_, rfl⟩
          rw [← hV0] at hstw
          have HV' := Lib.hid hV0; clear hV0
          generalize catF wordT (ws.take j) = V at *
          generalize ws[j] = sx at *
          have hcat : T1 ++ V ++ (⟨#[32]⟩ ++ sx) = T1 ++ V' := by rw [hstw, ba_assoc]; rfl
          have r1 : (⟨#[32]⟩ ++ sx : ByteArray).size = 1 + sx.size := ByteArray.size_append
          have hz2 : (T1 ++ V').size ≤ k * 10485900 + 2097250 + (j + 1) * 1048577 := by rw [← hcat, ByteArray.size_append, r1]; omega
          have r2 : (T1 ++ V : ByteArray).size + (⟨#[32]⟩ ++ sx : ByteArray).size ≤ 140737488355328 := by rw [r1]; omega
          have r3 : (T1 ++ V : ByteArray).size + (⟨#[32]⟩ ++ sx : ByteArray).size ≤ maxLen := by rw [r1]; simp only [maxLen]; omega
          have hb2 := World.block_lt_of_cell? _ _ hx2
          have Hown := Lib.hid hown
          have Hcat := Lib.hid hcat
          have Hby := Lib.hid hby
          have hbz := hby.size
          clear hown hcat hstw hws hby
          generalize T1 ++ V = U at *
          go_wp2_with (at_builtin; refine wpList_str 76 9 5 Tryd.underlying76 Tryd.underlying9 infoB' _ _ rfl rfl w.heap.size _ U.size _ rfl Hown.out (⟨#[32]⟩ ++ sx) rfl r3 r2 hbz ?_; intro v8 w8 hown8 hg8; have Hb8 := Lib.hid (below_apd Hby.out Hown.out hg8 (Nat.le_refl _) hbz); have Ho8 := Lib.hid (own_str Hcat.out hown8); clear hown8 hg8)
          go_roundw
          case rel => exact ⟨j + 1, by omega, by go_num, by rw [← HV'.out]; exact Ho8.out, by rw [← HV'.out]; exact hz2, Hb8.out⟩
          case measure => simp [intOf]; omega
        · have hd : ws.take j = ws := List.take_of_length_le (by omega)
          rw [hd] at hz hown
          clear hd
          have hlj' : (ws.length : Int) ≤ (j : Int) := by omega
          have hT : T'.size ≤ (k + 1) * 10485900 := by rw [← Hfin.out, ByteArray.size_append]; show _ + 1 ≤ _; omega
          have Hown := Lib.hid hown
          have Hby := Lib.hid hby
          have hbz := hby.size
          clear hown hby hws
          generalize T1 ++ catF wordT ws = V at *
          go_wp2_with (at_builtin; refine wpList_apd 76 5 _ 1 1 Tryd.underlying76 infoB' rfl (by omega) _ _ rfl rfl w.heap.size _ V.size _ rfl Hown.out #[.int .u8 10] 1 1 rfl rfl (by simp [Value.oneCell']) (by simp [maxLen]; omega) (by omega) hbz ?_; intro v8 w8 hown8 hg8; have Hb8 := Lib.hid (below_apd Hby.out Hown.out hg8 (Nat.le_refl _) hbz); have Ho8 := Lib.hid (own_str Hfin.out hown8); clear hown8 hg8)
          go_roundw
          case rel => exact ⟨k + 1, by omega, by go_num, by rw [← HT'.out]; exact Ho8.out, by rw [← HT'.out]; exact hT, Hb8.out⟩
          case measure => simp [intOf]; omega
    · have hd : xs.take k = xs := List.take_of_length_le (by omega)
      rw [hd] at hown
      clear hd
      have hconv := run_conv_own (P := Tryd.prog) 76 9 5 Tryd.underlying76 Tryd.underlying5 Tryd.underlying9 _ _ _ _ hown
      have hlt' : (xs.length : Int) ≤ (k : Int) := by omega
      clear hown
      go_wp2_with fail
      go_ret
      exact ⟨by first | rfl | simp, hbl⟩

set_option maxRecDepth 100000 in
set_option maxHeartbeats 800000 in
theorem EntriesTextS_any (B : Nat) (v : Value) (xs : List Ent) (w : World) (h : RdE w B v xs) (hB : B ≤ w.heap.size) (hl : xs.length ≤ 1048576) (hsm : ∀ x ∈ xs, smE x) :
    Calls Tryd.prog 12 #[v] w fun e w' => e = .returned (.string (txE xs)) ∧ Below w.heap.size w w' := by
  have HV := Lib.hid (l25Ok_any B v xs w h hl hsm)
  cases hok : entsOk xs with
  | false =>
    have e0 := Lib.hid (show txE xs = ⟨#[]⟩ by unfold txE; rw [hok]; rfl)
    rw [hok] at HV
    clear hok h hsm
    have hb0 := fun n => below_drewN (Below.refl w.heap.size w) n
    go_enter Tryd.func12, Tryd.ntmps12
    go_wp2_with fail
    refine HV.out.mono ?_; rintro e w1 ⟨rfl, m, rfl⟩
    go_wp2_with fail
    go_ret
    rw [e0.out]; exact ⟨rfl, hb0 m⟩
  | true =>
    have e0 := Lib.hid (show txE xs = catF lineE xs by unfold txE; rw [hok]; rfl)
    have HT := Lib.hid (fun m => l25Text_any B v xs (w.drewN m) (h.drewN m) hB (ents_50 hok) hsm (fun k hk => ents_at hok k hk))
    rw [hok] at HV
    clear hok h hsm
    have hb0 := fun n => below_drewN (Below.refl w.heap.size w) n
    go_enter Tryd.func12, Tryd.ntmps12
    go_wp2_with fail
    refine HV.out.mono ?_; rintro e w1 ⟨rfl, m, rfl⟩
    go_wp2_with fail
    refine (HT.out m).mono ?_; rintro e w2 ⟨rfl, hb2⟩
    have hb := (hb0 m).trans hb2
    clear hb2
    go_wp2_with fail
    go_ret
    rw [e0.out]; exact ⟨rfl, hb⟩
end Go.Proofs.YtplpeeienpaaeaaDoor
