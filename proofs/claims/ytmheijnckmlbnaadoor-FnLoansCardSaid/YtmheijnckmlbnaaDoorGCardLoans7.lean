/- Merged texts: Dl4, Dl6, Lq2, Lq3, Rn6, Ld6, Ld7, Lq4, Dl3. -/
import Derived.Test.YtmheijnckmlbnaaDoorGCardLoans6
import Derived.Test.YtmheijnckmlbnaaDoorGCardLoans1
import Derived.Test.YtmheijnckmlbnaaDoorGCardLoans2
import Derived.Test.YtmheijnckmlbnaaDoorGCardLoans5
import Derived.Deep.DeepCutAuto
import Derived.Deep.CutRange
import Derived.Test.YtmheijnckmlbnaaDoorGCardLoans3
/- Loans: the law's draws, from the code. -/
namespace Go.Proofs.YtmheijnckmlbnaaDoor
open Go.RowKit Go.Joins

/-- a list of loans of the call's own -/
structure NewLs (w w' : World) (v : Value) (xs : List Ln) : Prop where
  own : OwnL w' w.heap.size v xs
  len : xs.length ≤ 62
  sm : ∀ x ∈ xs, smX x
  nn : ∃ b c, v = .slice (some ⟨b, 0, none⟩) xs.length c
  bel : Below w.heap.size w w'
theorem below_srcL {W w1 w : World} {g : Nat} (h : Below W.heap.size W w1) (hg : w1.grownBy w (some g)) (hl : W.heap.size ≤ g) : Below W.heap.size W w :=
  h.grown hg h.size (fun x hx => by cases hx; exact hl)
theorem NewLs.of {w w1 w' : World} {B g k : Nat} {bs : List UInt8} {v : Value} {xs : List Ln} (h : DrM w1 w' B g k bs v xs) (hb : Below w.heap.size w w1) (hg : w.heap.size ≤ g) : NewLs w w' v xs :=
  ⟨ownsRow_le h.dr.row hb.size, h.len, h.sm, h.nn, below_srcL hb h.dr.gr hg⟩
theorem NewLs.drewN {w w' : World} {v : Value} {xs : List Ln} (h : NewLs w w' v xs) (n : Nat) : NewLs w (w'.drewN n) v xs := ⟨World.ownsRow.drewN h.own n, h.len, h.sm, h.nn, below_drewN h.bel n⟩
theorem NewLs.below {w w' w2 : World} {v : Value} {xs : List Ln} (h : NewLs w w' v xs) (hb : Below w'.heap.size w' w2) : NewLs w w2 v xs := ⟨own_below h.own hb, h.len, h.sm, h.nn, h.bel.trans (hb.mono h.bel.size)⟩

def TwoR (w : World) (e : Ending) (w' : World) : Prop := ∃ (v : Value) (xs : List Ln) (s : ByteArray) (d : Int), e = .returned (.tuple #[v, .string s, .int .i64 d]) ∧ NewLs w w' v xs
set_option maxRecDepth 100000 in
set_option maxHeartbeats 3200000 in
theorem l23Two_any (B : Nat) (cv : Value) (bs : List UInt8) (w : World) (h : Rd w B cv bs.length 1 (bs.map byV)) (hB : B ≤ w.heap.size) : Calls Tryd.prog 53 #[cv] w (TwoR w) := by
  have HF := Lib.hid (l00From_any B cv bs w h hB)
  obtain ⟨_, A, c, rfl, _⟩ := h
  go_enter Tryd.func53, Tryd.ntmps53
  go_wp2_with fail
  refine HF.out.mono ?_; rintro e w1 ⟨rfl, hs1, hb1, hl1⟩
  have Hs1 := Lib.hid hs1
  have Hb1 := Lib.hid hb1
  clear hs1 hb1 HF
  go_wp2_with fail
  refine (l23Bent_any B _ 0 bs _ Hs1.out (by omega)).mono ?_; rintro e w2 ⟨v2, xs, rfl, hd2⟩
  obtain ⟨b0, c0, rfl⟩ := hd2.nn
  have HD2 := Lib.hid hd2
  clear hd2 Hs1
  go_wp2_with fail
  refine (exhibit_any B _ _ bs _ HD2.out.dr.src (by omega)).mono ?_; rintro e w3 ⟨z, rfl, hz, hs3, hg3⟩
  have HD3 := Lib.hid (HD2.out.draw hs3 hg3)
  have hxl := HD2.out.len
  clear hs3 hg3 HD2
  by_cases hl0 : xs.length = 0
  · have h00 : ¬ (0 : Int) < (xs.length : Int) := by omega
    have Hl0 := Lib.hid hl0; clear hl0
    go_wp2_with fail
    refine (pick_any B _ _ bs 75 _ HD3.out.dr.src (by omega)).mono ?_; rintro e w4 ⟨y, rfl, ⟨hy0, hy1, _⟩, hs4, hg4⟩
    have hy75 := hy1 (by omega)
    have HD4 := Lib.hid (HD3.out.draw hs4 hg4)
    clear hs4 hg4 hy1 HD3
    go_wp2_with fail
    go_ret3
    exact ⟨_, xs, z, y - 3, rfl, NewLs.of HD4.out Hb1.out (Nat.le_refl _)⟩
  · have h00 : (0 : Int) < (xs.length : Int) := by omega
    go_wp2_with fail
    refine (one_any B _ _ bs 2 _ HD3.out.dr.src (by omega)).mono ?_; rintro e w4 ⟨y, rfl, hs4, hg4⟩
    have HD4 := Lib.hid (HD3.out.draw hs4 hg4)
    clear hs4 hg4 HD3
    cases y with
    | false =>
      go_wp2_with fail
      refine (pick_any B _ _ bs 75 _ HD4.out.dr.src (by omega)).mono ?_; rintro e w5 ⟨y, rfl, ⟨hy0, hy1, _⟩, hs5, hg5⟩
      have hy75 := hy1 (by omega)
      have HD5 := Lib.hid (HD4.out.draw hs5 hg5)
      clear hs5 hg5 hy1 HD4
      go_wp2_with fail
      go_ret3
      exact ⟨_, xs, z, y - 3, rfl, NewLs.of HD5.out Hb1.out (Nat.le_refl _)⟩
    | true =>
      go_wp2_with fail
      refine (pick_any B _ _ bs _ _ HD4.out.dr.src (by omega)).mono ?_; rintro e w5 ⟨x, rfl, ⟨hx0, hx1, hx2⟩, hs5, hg5⟩
      obtain ⟨i, rfl⟩ : ∃ i : Nat, x = i := ⟨x.toNat, by omega⟩
      have hi : i < xs.length := by
        by_cases h1 : xs.length = 1
        · have := hx2 (by omega); omega
        · have := hx1 (by omega); omega
      have hi' : (i : Int) < (xs.length : Int) := by omega
      have HD5 := Lib.hid (HD4.out.draw hs5 hg5)
      obtain ⟨p0, p1, p2, p3, _, _, _, _⟩ := HD5.out.cellsAt i hi
      clear hs5 hg5 hx1 hx2 HD4
      generalize xs[i] = x at *
      obtain ⟨a, b, f, t⟩ := x
      dsimp only at p0 p1 p2 p3
      obtain ⟨f0, f1, f2, f3⟩ := four_at (heap_alloc_new w5 (.cells #[.string a, .string b, .int .i64 f, .int .i64 t] 26))
      have hba := Lib.hid ((Below.refl w5.heap.size w5).alloc (Nat.le_refl _) (.cells #[.string a, .string b, .int .i64 f, .int .i64 t] 26))
      go_wp2_with fail
      go_quiet (fail)
      go_wp2_with fail
      go_ret3
      exact ⟨_, xs, a, f, rfl, NewLs.drewN (NewLs.of (HD5.out.below hba.out) Hb1.out (Nat.le_refl _)) _⟩
set_option maxRecDepth 100000 in
set_option maxHeartbeats 800000 in
theorem drawCL_any (B : Nat) (cv : Value) (bs : List UInt8) (w : World) (h : Rd w B cv bs.length 1 (bs.map byV)) (hB : B ≤ w.heap.size) : Calls Tryd.prog 10 #[cv] w (TwoR w) := by
  have HF := Lib.hid (l23Two_any B cv bs w h hB)
  obtain ⟨_, A, c, rfl, _⟩ := h
  go_enter Tryd.func10, Tryd.ntmps10
  go_wp2_with fail
  refine HF.out.mono ?_; rintro e w1 ⟨v, xs, s, d, rfl, hn⟩
  obtain ⟨b0, c0, rfl⟩ := hn.nn
  have HN := Lib.hid hn; clear hn
  go_wp2_with fail
  go_ret3
  exact ⟨_, xs, s, d, rfl, HN.out⟩
def OneR (w : World) (e : Ending) (w' : World) : Prop := ∃ (v : Value) (xs : List Ln), e = .returned v ∧ NewLs w w' v xs
set_option maxRecDepth 100000 in
set_option maxHeartbeats 800000 in
theorem drawLT_any (B : Nat) (cv : Value) (bs : List UInt8) (w : World) (h : Rd w B cv bs.length 1 (bs.map byV)) (hB : B ≤ w.heap.size) : Calls Tryd.prog 17 #[cv] w (OneR w) := by
  have HF := Lib.hid (l00From_any B cv bs w h hB)
  obtain ⟨_, A, c, rfl, _⟩ := h
  go_enter Tryd.func17, Tryd.ntmps17
  go_wp2_with fail
  refine HF.out.mono ?_; rintro e w1 ⟨rfl, hs1, hb1, hl1⟩
  have Hs1 := Lib.hid hs1
  have Hb1 := Lib.hid hb1
  clear hs1 hb1 HF
  go_wp2_with fail
  refine (l23Bent_any B _ 0 bs _ Hs1.out (by omega)).mono ?_; rintro e w2 ⟨v2, xs, rfl, hd2⟩
  obtain ⟨b0, c0, rfl⟩ := hd2.nn
  have HD2 := Lib.hid hd2
  clear hd2 Hs1
  go_wp2_with fail
  go_ret
  exact ⟨_, xs, rfl, NewLs.of HD2.out Hb1.out (Nat.le_refl _)⟩

theorem lineL_sz {x : Ln} (h : loanOk x = true) (hs : smX x) : (lineL x).size ≤ 80 := by
  have hd := loan_days h
  have h1 := decS_size x.from_ (by omega) (by omega)
  have h2 := decS_size x.till (by omega) (by omega)
  obtain ⟨s1, s2⟩ := hs
  unfold lineL
  simp only [ByteArray.size_append]
  show _ + 2 + _ + 1 + _ + 1 + _ + 1 ≤ _
  omega
theorem textL_sz : ∀ (xs : List Ln), (∀ x ∈ xs, loanOk x = true ∧ smX x) → (textL xs).size ≤ xs.length * 80 := by
  intro xs
  induction xs with
  | nil => intro _; exact Nat.le_refl _
  | cons x l ih =>
    intro h
    have h1 := ih fun y hy => h y (by simp [hy])
    obtain ⟨h2, h3⟩ := h x (by simp)
    have h4 := lineL_sz h2 h3
    have e : textL (x :: l) = lineL x ++ textL l := by
      unfold textL
      refine ba_inj ?_
      rw [ByteArray.toList_eq, ByteArray.toList_eq]
      simp
    rw [e, ByteArray.size_append, List.length_cons]
    omega
set_option maxRecDepth 100000 in
set_option maxHeartbeats 1600000 in
theorem drawRL_any (B : Nat) (cv : Value) (bs : List UInt8) (w : World) (h : Rd w B cv bs.length 1 (bs.map byV)) (hB : B ≤ w.heap.size) : Calls Tryd.prog 20 #[cv] w fun e w' => ∃ s : ByteArray, e = .returned (.string s) ∧ s.size ≤ 1048576 ∧ Below w.heap.size w w' := by
  have HF := Lib.hid (l00From_any B cv bs w h hB)
  obtain ⟨_, A, c, rfl, _⟩ := h
  go_enter Tryd.func20, Tryd.ntmps20
  go_wp2_with fail
  refine HF.out.mono ?_; rintro e w1 ⟨rfl, hs1, hb1, hl1⟩
  have Hs1 := Lib.hid hs1
  have Hb1 := Lib.hid hb1
  clear hs1 hb1 HF
  go_wp2_with fail
  refine (l23Draw_any B _ 0 bs _ Hs1.out (by omega)).mono ?_; rintro e w2 ⟨v2, xs, rfl, hd2, hok⟩
  obtain ⟨b0, c0, rfl⟩ := hd2.nn
  have HD2 := Lib.hid hd2
  have hP := OkP.of hok
  have hxl := hP.len
  have HT := Lib.hid (l23Text_any w2.heap.size _ xs w2 hd2.rd (Nat.le_refl _) hxl (fun x hx => (hd2.sm x hx).sm) (fun k hk => hP.one k hk))
  have hts := textL_sz xs (fun x hx => by
    obtain ⟨i, hi, rfl⟩ := List.mem_iff_getElem.1 hx
    exact ⟨hP.one i hi, hd2.sm _ (List.getElem_mem hi)⟩)
  generalize textL xs = t at *
  clear hd2 hok hP Hs1
  go_wp2_with fail
  refine HT.out.mono ?_; rintro e w3 ⟨rfl, hb3⟩
  have HD3 := Lib.hid (HD2.out.below hb3)
  clear hb3 HD2 HT
  go_wp2_with fail
  refine (one_any B _ _ bs 3 _ HD3.out.dr.src (by omega)).mono ?_; rintro e w4 ⟨y, rfl, hs4, hg4⟩
  have HD4 := Lib.hid (HD3.out.draw hs4 hg4)
  clear hs4 hg4 HD3
  cases y with
  | false =>
    go_wp2_with fail
    go_ret
    exact ⟨t, rfl, by omega, below_srcL Hb1.out HD4.out.dr.gr (Nat.le_refl _)⟩
  | true =>
    go_wp2_with fail
    refine (spoil_any B _ _ bs t _ HD4.out.dr.src (by omega) (by omega)).mono ?_; rintro e w5 ⟨z, rfl, hz, hs5, hg5⟩
    have HD5 := Lib.hid (HD4.out.draw hs5 hg5)
    clear hs5 hg5 HD4
    go_wp2_with fail
    go_ret
    exact ⟨z, rfl, by omega, below_srcL Hb1.out HD5.out.dr.gr (Nat.le_refl _)⟩
end Go.Proofs.YtmheijnckmlbnaaDoor
/- Loans: DrawAddLoan. -/
namespace Go.Proofs.YtmheijnckmlbnaaDoor
open Go.RowKit Go.Joins

def AddDr (w : World) (e : Ending) (w' : World) : Prop := ∃ (v : Value) (xs : List Ln) (x : Ln), e = .returned (.tuple #[v, aggL x]) ∧ NewLs w w' v xs ∧ smX x
theorem AddDr.hr {w w1 w5 : World} {B g k : Nat} {bs : List UInt8} {v : Value} {xs : List Ln} (h : DrM w1 w5 B g k bs v xs) (hr : w1.heap[w.heap.size]? = some (.cells #[.string ⟨#[]⟩, .string ⟨#[]⟩, .int .i64 0, .int .i64 0] 26 (0, 0))) (hg : g = w.heap.size + 1) : w5.heap[w.heap.size]? = some (.cells #[.string ⟨#[]⟩, .string ⟨#[]⟩, .int .i64 0, .int .i64 0] 26 (0, 0)) :=
  (h.dr.gr.block _ (Array.getElem?_eq_some_iff.1 hr).1 (fun e => by injection e; omega)).trans hr
theorem own_ne {w : World} {base q n sz : Nat} {e : TypeId} {v : Value} {cs : List Value} (h : w.ownsRow base e sz v n cs) (hq : q < base ∨ w.heap.size ≤ q) : v.ownBlock = none ∨ v.ownBlock ≠ some q := by
  cases hv : v.ownBlock with
  | none => exact .inl rfl
  | some x => exact .inr fun e => by have := h.lt x hv; injection e; omega
theorem grown_put4 {w : World} {g : Nat} (a b c d : Value) : w.grownBy (put4 w g a b c d) (some g) := by
  have g0 : w.grownBy w (some g) := ⟨rfl, rfl, rfl, Nat.le_refl _, fun _ _ _ => rfl⟩
  exact grown_setCell (grown_setCell (grown_setCell (grown_setCell g0 (p := ⟨g, 0, none⟩) (.inl rfl) a) (p := ⟨g, 1, none⟩) (.inl rfl) b) (p := ⟨g, 2, none⟩) (.inl rfl) c) (p := ⟨g, 3, none⟩) (.inl rfl) d
theorem AddDr.fin {w w1 w5 : World} {B g k : Nat} {bs : List UInt8} {v : Value} {xs : List Ln} (h : DrM w1 w5 B g k bs v xs) (hb : Below w.heap.size w w1) (hr : w1.heap[w.heap.size]? = some (.cells #[.string ⟨#[]⟩, .string ⟨#[]⟩, .int .i64 0, .int .i64 0] 26 (0, 0))) (hg : g = w.heap.size + 1) (a b c d : Value) :
    ((put4 w5 w.heap.size a b c d).cell? ⟨w.heap.size, 0, none⟩ = some a ∧ (put4 w5 w.heap.size a b c d).cell? ⟨w.heap.size, 1, none⟩ = some b ∧ (put4 w5 w.heap.size a b c d).cell? ⟨w.heap.size, 2, none⟩ = some c ∧ (put4 w5 w.heap.size a b c d).cell? ⟨w.heap.size, 3, none⟩ = some d) ∧
    NewLs w (put4 w5 w.heap.size a b c d) v xs := by
  have hr5 := AddDr.hr h hr hg
  have hlt1 := (Array.getElem?_eq_some_iff.1 hr).1
  have g4 := heap_setCell_same _ w.heap.size 3 _ _ d (heap_setCell_same _ w.heap.size 2 _ _ c (heap_setCell_same _ w.heap.size 1 _ _ b (heap_setCell_same w5 w.heap.size 0 _ _ a hr5)))
  have hg4 := grown_put4 (w := w5) (g := w.heap.size) a b c d
  refine ⟨(blk4 g4).1, ownsRow_le (h.dr.row.kept hg4 (own_ne h.dr.row (.inl hlt1))) hb.size, h.len, h.sm, h.nn, ?_⟩
  have h1 : Below w.heap.size w w5 := below_srcL hb h.dr.gr (by omega)
  exact h1.grown hg4 h1.size (fun x hx => by cases hx; exact Nat.le_refl _)
/-- the loan that is added: its own block is written anew -/
theorem put4q_DrM {W w : World} {B g k q : Nat} {bs : List UInt8} {v : Value} {xs : List Ln} (h : DrM W w B g k bs v xs) (hq : W.heap.size ≤ q) (hne : v.ownBlock = none ∨ v.ownBlock ≠ some q) {a b c d : Value} (hh : w.heap[q]? = some (.cells #[a, b, c, d] 26 (0, 0))) (a' b' c' d' : Value) :
    DrM W (put4 w q a' b' c' d') B g k bs v xs ∧ (put4 w q a' b' c' d').heap[q]? = some (.cells #[a', b', c', d'] 26 (0, 0)) := by
  have hg4 := grown_put4 (w := w) (g := q) a' b' c' d'
  have g4 := heap_setCell_same _ q 3 _ _ d' (heap_setCell_same _ q 2 _ _ c' (heap_setCell_same _ q 1 _ _ b' (heap_setCell_same w q 0 _ _ a' hh)))
  exact ⟨⟨⟨h.dr.lt, h.dr.src.grown hg4 (fun x hx => by cases hx; exact Nat.lt_of_lt_of_le h.dr.lt hq), h.dr.row.kept hg4 hne, grownBy_row h.dr.gr hg4 (fun x hx => by cases hx; exact hq)⟩, h.len, h.sm, h.nn⟩, g4⟩

set_option maxRecDepth 100000 in
set_option maxHeartbeats 3200000 in
theorem drawAL_any (B : Nat) (cv : Value) (bs : List UInt8) (w : World) (h : Rd w B cv bs.length 1 (bs.map byV)) (hB : B ≤ w.heap.size) : Calls Tryd.prog 7 #[cv] w (AddDr w) := by
  have hb0 := (Below.refl w.heap.size w).alloc (Nat.le_refl _) (.cells #[.string ⟨#[]⟩, .string ⟨#[]⟩, .int .i64 0, .int .i64 0] 26)
  have HF := Lib.hid (l00From_any B cv bs (w.alloc (.cells #[.string ⟨#[]⟩, .string ⟨#[]⟩, .int .i64 0, .int .i64 0] 26)) (h.below (hb0.mono hB)) (Nat.le_trans hB hb0.size))
  have Hr0 := Lib.hid (heap_alloc_new w (.cells #[.string ⟨#[]⟩, .string ⟨#[]⟩, .int .i64 0, .int .i64 0] 26))
  have Hb0 := Lib.hid hb0
  have hsz : (w.alloc (.cells #[.string ⟨#[]⟩, .string ⟨#[]⟩, .int .i64 0, .int .i64 0] 26)).heap.size = w.heap.size + 1 := Array.size_push _
  obtain ⟨_, A, c, rfl, _⟩ := h
  clear hb0
  go_enter Tryd.func7, Tryd.ntmps7
  go_wp2_with fail
  refine HF.out.mono ?_; rintro e w1 ⟨rfl, hs1, hb1, hl1⟩
  have Hs1 := Lib.hid hs1
  have Hr := Lib.hid ((hb1.block w.heap.size (by omega)).trans Hr0.out)
  have Hb1 := Lib.hid (Hb0.out.trans (hb1.mono (by omega)))
  generalize hgw0 : (w.alloc (.cells #[.string ⟨#[]⟩, .string ⟨#[]⟩, .int .i64 0, .int .i64 0] 26)).heap.size = g at *
  have hgw := hsz
  clear hs1 hb1 HF Hr0 Hb0 hsz hgw0
  subst hgw
  go_wp2_with fail
  refine (l23Bent_any B (w.heap.size + 1) 0 bs _ Hs1.out (by omega)).mono ?_; rintro e w2 ⟨v2, xs, rfl, hd2⟩
  obtain ⟨b0, c0, rfl⟩ := hd2.nn
  have HD2 := Lib.hid hd2
  clear hd2 Hs1
  go_wp2_with fail
  refine (l23New_any B (w.heap.size + 1) _ bs _ HD2.out.dr.src (by omega)).mono ?_; rintro e w3 ⟨⟨xa, xb, xf, xt⟩, rfl, hxa, hxb, hs3, hg3⟩
  dsimp only at hxa hxb
  have HM3 := Lib.hid (HD2.out.draw hs3 hg3)
  have hbw := (Below.refl w3.heap.size w3).alloc (Nat.le_refl _) (.cells #[.string xa, .string xb, .int .i64 xf, .int .i64 xt] 26)
  have HM4 := Lib.hid (HM3.out.below hbw)
  have HQ4 := Lib.hid (heap_alloc_new w3 (.cells #[.string xa, .string xb, .int .i64 xf, .int .i64 xt] 26))
  have hqb : b0 ≠ w3.heap.size := by have := (HM3.out.dr.row.lt b0 rfl).2; omega
  have hqW : w1.heap.size ≤ w3.heap.size := HM3.out.dr.gr.size
  have hqg : w.heap.size + 1 ≠ w3.heap.size := by have := HM3.out.dr.lt; omega
  have hqs : w3.heap.size < (w3.alloc (.cells #[.string xa, .string xb, .int .i64 xf, .int .i64 xt] 26)).heap.size := Nat.lt_of_lt_of_eq (Nat.lt_succ_self _) (Array.size_push _).symm
  clear hs3 hg3 HD2 hbw HM3
  go_upto_region 4 with (fail)
  generalize hq : w3.heap.size = q at *
  generalize w3.alloc (.cells #[.string xa, .string xb, .int .i64 xf, .int .i64 xt] 26) = w4 at *
  clear hq
  go_wp2_with fail
  refine (one_any B (w.heap.size + 1) _ bs 20 w4 HM4.out.dr.src (by omega)).mono ?_; rintro e w5 ⟨y, rfl, hs5, hg5⟩
  have HM5 := Lib.hid (HM4.out.draw hs5 hg5)
  have HQ5 := Lib.hid ((hg5.block q hqs (fun e => hqg (by injection e; omega))).trans HQ4.out)
  clear hs5 hg5 HM4 HQ4 hqs
  cases y with
  | false =>
    have HM := HM5
    have HQ := HQ5
    clear HM5 HQ5
    go_upto_region 6 with (fail)
    obtain ⟨⟨q0, q1, q2, q3⟩, _⟩ := blk4 HQ.out
    obtain ⟨⟨r0, r1, r2, r3⟩, s0, s1, s2, s3⟩ := blk4 (AddDr.hr HM.out Hr.out rfl)
    have HD := Lib.hid (AddDr.fin HM.out Hb1.out Hr.out rfl (.string xa) (.string xb) (.int .i64 xf) (.int .i64 xt))
    clear HM HQ Hb1 Hr
    refine wp_region_noPanic ?_
    refine wp_region_L [3] (fun w' => w'.cell? ⟨q, 0, none⟩ = some (.string xa) ∧ w'.cell? ⟨q, 1, none⟩ = some (.string xb) ∧ w'.cell? ⟨q, 2, none⟩ = some (.int .i64 xf) ∧ w'.cell? ⟨q, 3, none⟩ = some (.int .i64 xt)) (by kernel_rfl) (⟨q0, q1, q2, q3⟩) (fun hHeld => ?_)
    refine take_F (i := 0) (d := some 16) (v := ?_) (by kernel_rfl) (by kernel_rfl) rfl rfl (by kernel_rfl) (by kernel_rfl) (by kernel_rfl) (fun _ _ _ h => h) (Or.inl ⟨by rfl, ?_⟩) (by assumption) ?_
    rotate_left
    · (intro w hSw; (try dsimp only at hSw); go_simp; (try rw [if_neg (by omega)]); (try (with_reducible rfl)))
    simp only [Act.put, List.setIfInBounds_toArray, List.set_cons_zero, List.set_cons_succ]
    refine take_L [1] (i := 1) (d := some 17) (v := ?_) (by kernel_rfl) (by kernel_rfl) (by kernel_rfl) (by kernel_rfl) rfl rfl (by kernel_rfl) (by kernel_rfl) (by kernel_rfl) (fun _ _ _ h => h) (Or.inl ⟨by rfl, ?_⟩) (by assumption) ?_
    rotate_left
    · (intro w hSw; (try dsimp only at hSw); go_simp; (try rw [if_neg (by omega)]); (try (with_reducible rfl)))
    simp only [Act.put, List.setIfInBounds_toArray, List.set_cons_zero, List.set_cons_succ]
    refine take_F (i := 2) (d := some 2) (v := ?_) (by kernel_rfl) (by kernel_rfl) rfl rfl (by kernel_rfl) (by kernel_rfl) (by kernel_rfl) (fun _ _ _ h => h) (Or.inl ⟨by rfl, ?_⟩) (by assumption) ?_
    rotate_left
    · (intro w hSw; (try dsimp only at hSw); go_simp; (try rw [if_neg (by omega)]); (try (with_reducible rfl)))
    simp only [Act.put, List.setIfInBounds_toArray, List.set_cons_zero, List.set_cons_succ]
    refine late_L (i := 3) (d := none) (by kernel_rfl) rfl rfl (by kernel_rfl) (fun Kq hKq => ?_)
    go_simp
    refine hKq.out _ _ ?_
    clear hKq Kq
    refine done_L (by kernel_rfl) ?_ _
    refine NoPanic.normal ?_
    go_wp2_with fail
    obtain ⟨⟨k0, k1, k2, k3⟩, hfin⟩ := HD.out
    refine bodyPost_ret (v := .tuple #[.slice (some ⟨b0, 0, none⟩) xs.length c0, .agg #[.string xa, .string xb, .int .i64 xf, .int .i64 xt]]) (by simp [results, Tryd.results7, go_sem, k0, k1, k2, k3]) rfl ?_
    exact ⟨_, xs, ⟨xa, xb, xf, xt⟩, rfl, hfin.drewN 1, ⟨Nat.le_trans hxa (by omega), Nat.le_trans hxb (by omega)⟩⟩
  | true =>
    obtain ⟨⟨p0, p1, p2, p3⟩, f0, f1, f2, f3⟩ := blk4 HQ5.out
    obtain ⟨hM, hQ⟩ := put4q_DrM HM5.out hqW (.inr (fun e => hqb (by injection e))) HQ5.out (.string ⟨#[101, 110, 103, 105, 110, 101]⟩) (.string ⟨#[98, 111, 110, 110]⟩) (.int .i64 1) (.int .i64 2)
    unfold put4 at hM hQ
    have HM := Lib.hid hM
    have HQ := Lib.hid hQ
    clear hM hQ HM5 HQ5
    go_upto_region 6 with (fail)
    generalize (((w5.setCell ⟨q, 0, none⟩ (.string ⟨#[101, 110, 103, 105, 110, 101]⟩)).setCell ⟨q, 1, none⟩ (.string ⟨#[98, 111, 110, 110]⟩)).setCell ⟨q, 2, none⟩ (.int .i64 1)).setCell ⟨q, 3, none⟩ (.int .i64 2) = w6 at *
    clear f0 f1 f2 f3 p0 p1 p2 p3
    obtain ⟨⟨q0, q1, q2, q3⟩, _⟩ := blk4 HQ.out
    obtain ⟨⟨r0, r1, r2, r3⟩, s0, s1, s2, s3⟩ := blk4 (AddDr.hr HM.out Hr.out rfl)
    have HD := Lib.hid (AddDr.fin HM.out Hb1.out Hr.out rfl (.string ⟨#[101, 110, 103, 105, 110, 101]⟩) (.string ⟨#[98, 111, 110, 110]⟩) (.int .i64 1) (.int .i64 2))
    clear HM HQ Hb1 Hr
    refine wp_region_noPanic ?_
    refine wp_region_L [3] (fun w' => w'.cell? ⟨q, 0, none⟩ = some (.string ⟨#[101, 110, 103, 105, 110, 101]⟩) ∧ w'.cell? ⟨q, 1, none⟩ = some (.string ⟨#[98, 111, 110, 110]⟩) ∧ w'.cell? ⟨q, 2, none⟩ = some (.int .i64 1) ∧ w'.cell? ⟨q, 3, none⟩ = some (.int .i64 2)) (by kernel_rfl) (⟨q0, q1, q2, q3⟩) (fun hHeld => ?_)
    refine take_F (i := 0) (d := some 16) (v := ?_) (by kernel_rfl) (by kernel_rfl) rfl rfl (by kernel_rfl) (by kernel_rfl) (by kernel_rfl) (fun _ _ _ h => h) (Or.inl ⟨by rfl, ?_⟩) (by assumption) ?_
    rotate_left
    · (intro w hSw; (try dsimp only at hSw); go_simp; (try rw [if_neg (by omega)]); (try (with_reducible rfl)))
    simp only [Act.put, List.setIfInBounds_toArray, List.set_cons_zero, List.set_cons_succ]
    refine take_L [1] (i := 1) (d := some 17) (v := ?_) (by kernel_rfl) (by kernel_rfl) (by kernel_rfl) (by kernel_rfl) rfl rfl (by kernel_rfl) (by kernel_rfl) (by kernel_rfl) (fun _ _ _ h => h) (Or.inl ⟨by rfl, ?_⟩) (by assumption) ?_
    rotate_left
    · (intro w hSw; (try dsimp only at hSw); go_simp; (try rw [if_neg (by omega)]); (try (with_reducible rfl)))
    simp only [Act.put, List.setIfInBounds_toArray, List.set_cons_zero, List.set_cons_succ]
    refine take_F (i := 2) (d := some 2) (v := ?_) (by kernel_rfl) (by kernel_rfl) rfl rfl (by kernel_rfl) (by kernel_rfl) (by kernel_rfl) (fun _ _ _ h => h) (Or.inl ⟨by rfl, ?_⟩) (by assumption) ?_
    rotate_left
    · (intro w hSw; (try dsimp only at hSw); go_simp; (try rw [if_neg (by omega)]); (try (with_reducible rfl)))
    simp only [Act.put, List.setIfInBounds_toArray, List.set_cons_zero, List.set_cons_succ]
    refine late_L (i := 3) (d := none) (by kernel_rfl) rfl rfl (by kernel_rfl) (fun Kq hKq => ?_)
    go_simp
    refine hKq.out _ _ ?_
    clear hKq Kq
    refine done_L (by kernel_rfl) ?_ _
    refine NoPanic.normal ?_
    go_wp2_with fail
    obtain ⟨⟨k0, k1, k2, k3⟩, hfin⟩ := HD.out
    refine bodyPost_ret (v := .tuple #[.slice (some ⟨b0, 0, none⟩) xs.length c0, .agg #[.string ⟨#[101, 110, 103, 105, 110, 101]⟩, .string ⟨#[98, 111, 110, 110]⟩, .int .i64 1, .int .i64 2]]) (by simp [results, Tryd.results7, go_sem, k0, k1, k2, k3]) rfl ?_
    exact ⟨_, xs, ⟨⟨#[101, 110, 103, 105, 110, 101]⟩, ⟨#[98, 111, 110, 110]⟩, 1, 2⟩, rfl, hfin.drewN 1, ⟨(by decide : 6 ≤ 16), (by decide : 4 ≤ 16)⟩⟩
end Go.Proofs.YtmheijnckmlbnaaDoor
/- Loans: CancelLoan and BorrowerAt, both sides. -/
namespace Go.Proofs.YtmheijnckmlbnaaDoor
open Go.RowKit Go.Joins

def canR (xs : List Ln) (s : ByteArray) (d : Int) : List Ln := if askLc xs s d = 0 then xs.take (askLi xs s d).toNat ++ xs.drop ((askLi xs s d).toNat + 1) else []
def borS (xs : List Ln) (s : ByteArray) (d : Int) : ByteArray := if askLc xs s d = 0 then (atL xs (askLi xs s d).toNat).who else ⟨#[]⟩
theorem canR_len (xs : List Ln) (s : ByteArray) (d : Int) : (canR xs s d).length ≤ xs.length := by
  unfold canR; split
  · rw [List.length_append, List.length_take, List.length_drop]; omega
  · simp
theorem canR_mem {xs : List Ln} {s : ByteArray} {d : Int} : ∀ x ∈ canR xs s d, x ∈ xs := by
  unfold canR; split
  · intro x hx
    rcases List.mem_append.1 hx with hx | hx
    · exact List.mem_of_mem_take hx
    · exact List.mem_of_mem_drop hx
  · simp
theorem can_cases (xs : List Ln) (s : ByteArray) (d : Int) : (loansOk xs = false ∧ askLc xs s d = 1 ∧ askLi xs s d = 0 ∧ canR xs s d = [] ∧ borS xs s d = ⟨#[]⟩) ∨ (loansOk xs = true ∧ findL xs s d 0 = -1 ∧ askLc xs s d = 3 ∧ askLi xs s d = 0 ∧ canR xs s d = [] ∧ borS xs s d = ⟨#[]⟩) ∨
    ∃ (i : Nat) (hi : i < xs.length), loansOk xs = true ∧ findL xs s d 0 = (i : Int) ∧ askLc xs s d = 0 ∧ askLi xs s d = (i : Int) ∧ canR xs s d = xs.take i ++ xs.drop (i + 1) ∧ borS xs s d = xs[i].who := by
  rcases askL_cases xs s d with ⟨h1, h2, h3⟩ | ⟨h1, h2, h3, h4⟩ | ⟨i, hi, h1, h2, h3, h4⟩
  · exact .inl ⟨h1, h2, h3, by unfold canR; rw [h2]; rfl, by unfold borS; rw [h2]; rfl⟩
  · exact .inr (.inl ⟨h1, h2, h3, h4, by unfold canR; rw [h3]; rfl, by unfold borS; rw [h3]; rfl⟩)
  · refine .inr (.inr ⟨i, hi, h1, h2, h3, h4, ?_, ?_⟩)
    · unfold canR
      rw [if_pos h3, h4, Int.toNat_natCast]
    · unfold borS
      rw [if_pos h3, h4, Int.toNat_natCast, atL_at xs i hi]
theorem flat_take4 (xs : List Ln) (i : Nat) (h : i ≤ xs.length) : ((xs.take i).flatMap cellsL).length = i * 4 := by rw [flat_len cellsL 4 (fun _ => rfl), List.length_take]; omega
theorem flat_drop4 (xs : List Ln) (i : Nat) : ((xs.drop i).flatMap cellsL).length = (xs.length - i) * 4 := by rw [flat_len cellsL 4 (fun _ => rfl), List.length_drop]
theorem can_own {w : World} {base base' : Nat} {v : Value} {xs : List Ln} {i : Nat} (hi : i < xs.length) (h : w.ownsRow base' 26 4 v (i + (xs.length - (i + 1))) ([] ++ (xs.take i).flatMap cellsL ++ (xs.drop (i + 1)).flatMap cellsL)) (hb : base ≤ base') : OwnL w base v (xs.take i ++ xs.drop (i + 1)) := by
  refine OwnL.of h hb ?_ ?_
  · rw [List.length_append, List.length_take, List.length_drop]; omega
  · rw [List.nil_append, List.flatMap_append]
def canO (o c i : Nat) : Nat := if c = i + 1 then o else o + (i + 1) * 4
theorem canO_addr (b o c i : Nat) : (if c = i + 1 then some (⟨b, o, none⟩ : Addr) else some ⟨b, o + (i + 1) * 4, none⟩) = some ⟨b, canO o c i, none⟩ := by unfold canO; split <;> rfl
theorem can_rest {w : World} {B b o c : Nat} {xs : List Ln} {i : Nat} (h : RdL w B (.slice (some ⟨b, o, none⟩) xs.length c) xs) (hi : i < xs.length) (hc : xs.length ≤ c) :
    ∀ (j : Nat) (u : Value), ((xs.drop (i + 1)).flatMap cellsL)[j]? = some u → w.cell? ⟨b, canO o c i + j, none⟩ = some u := by
  intro j u hu
  unfold canO
  by_cases e : c = i + 1
  · have h1 := (List.getElem?_eq_some_iff.1 hu).1
    rw [flat_drop4] at h1
    have : xs.length - (i + 1) = 0 := by omega
    rw [this] at h1; omega
  · rw [if_neg e]; exact h.tail (i + 1) (by omega) j u hu
theorem own_sl_of {w : World} {base n size : Nat} {e : TypeId} {v : Value} {cs : List Value} (h : w.ownsRow base e size v n cs) : ∃ A c, v = .slice A n c := by
  obtain ⟨_, A, c, hv, _⟩ := Rd.of_own h
  exact ⟨A, c, hv⟩
theorem own_one {w w4 : World} {v : Value} {n : Nat} {cs : List Value} (_ho : w4.ownsRow w.heap.size 26 4 v n cs) (hg : (w.alloc (.cells #[] 26)).drew.grownBy w4 (some w.heap.size)) : Below w.heap.size w w4 :=
  ((Below.refl w.heap.size w).alloc (Nat.le_refl _) _).grown (grown_undrew hg) (by simp) (fun k e => by cases e; exact Nat.le_refl _)

theorem own_oneS {w w4 : World} {v : Value} {n : Nat} {cs : List Value} (_ho : w4.ownsRow w.heap.size 26 4 v n cs) (hg : (w.alloc (.cells #[] 26)).grownBy w4 (some w.heap.size)) : Below w.heap.size w w4 :=
  ((Below.refl w.heap.size w).alloc (Nat.le_refl _) _).grown hg (by simp) (fun k e => by cases e; exact Nat.le_refl _)

set_option maxRecDepth 100000 in
set_option maxHeartbeats 3200000 in
theorem CancelI_any (B b o c : Nat) (xs : List Ln) (s : ByteArray) (d : Int) (w : World) (h : RdL w B (.slice (some ⟨b, o, none⟩) xs.length c) xs) (hB : B ≤ w.heap.size) (hl : xs.length ≤ 1048576) (hsm : ∀ x ∈ xs, smL x) (hc : xs.length ≤ c) (hc2 : c ≤ maxLen) :
    Calls Tryd.prog 11 #[.slice (some ⟨b, o, none⟩) xs.length c, .string s, .int .i64 d] w (RetLn (askLc xs s d) (canR xs s d) w) := by
  have HV := Lib.hid (ValidLoansI_any B (.slice (some ⟨b, o, none⟩) xs.length c) xs w h hB hl hsm (fun A n c' e => by injection e with _ e2 e3; exact ⟨by omega, by omega⟩))
  have HA := Lib.hid (fun wx hx hz => loanAt_any B (.slice (some ⟨b, o, none⟩) xs.length c) xs s d wx hx hz hl)
  have hcs := can_cases xs s d
  generalize askLc xs s d = C at *
  generalize canR xs s d = R at *
  have H := Lib.hid h
  clear h hsm
  rcases hcs with ⟨g1, g2, _, g3, _⟩ | ⟨g1, g2, g3, _, g4, _⟩ | ⟨i, hi, g1, g2, g3, _, g4, _⟩
  · have Hf := Lib.hid (And.intro g2 g3)
    rw [g1] at HV
    clear g1 g2 g3
    go_enter Tryd.func11, Tryd.ntmps11
    go_wp2_with fail
    refine HV.out.mono ?_; rintro e w1 ⟨rfl, hb1⟩
    go_wp2_with fail
    go_ret2
    exact RetLn_no Hf.out hb1
  · have Hf := Lib.hid (And.intro g3 g4)
    rw [g1] at HV
    rw [g2] at HA
    clear g1 g2 g3 g4
    go_enter Tryd.func11, Tryd.ntmps11
    go_wp2_with fail
    refine HV.out.mono ?_; rintro e w1 ⟨rfl, hb1⟩
    go_wp2_with fail
    refine (HA.out _ (H.out.below (hb1.mono hB)) (Nat.le_trans hB hb1.size)).mono ?_; rintro e w2 ⟨rfl, hb2⟩
    go_wp2_with fail
    go_ret2
    exact RetLn_no Hf.out (hb1.trans (hb2.mono hb1.size))
  · have Hf := Lib.hid (And.intro g3 g4)
    rw [g1] at HV
    rw [g2] at HA
    have hi' : (i : Int) < (xs.length : Int) := by omega
    have hi0 : ¬ ((i : Int) < 0) := by omega
    have hiz : (0 : Int) ≤ (i : Int) := by omega
    have hic : (i : Int) ≤ (c : Int) := by omega
    have hi1 : (i : Int) + 1 ≤ (xs.length : Int) := by omega
    have hi1c : (i : Int) + 1 ≤ (c : Int) := by omega
    have Hcc := Lib.hid hc
    simp only [maxLen] at hc2
    clear g1 g2 g3 g4
    go_enter Tryd.func11, Tryd.ntmps11
    go_wp2_with fail
    refine HV.out.mono ?_; rintro e w1 ⟨rfl, hb1⟩
    go_wp2_with fail
    refine (HA.out _ (H.out.below (hb1.mono hB)) (Nat.le_trans hB hb1.size)).mono ?_; rintro e w2 ⟨rfl, hb2⟩
    have hbl := hb1.trans (hb2.mono hb1.size)
    have Hbl := Lib.hid hbl
    have HL2 := Lib.hid (H.out.below (hbl.mono hB))
    have ho0 := Lib.hid (World.ownsRow_made (base := w2.heap.size) (e := 26) (size := 4) w2 #[] 0 (Nat.le_refl _) (by simp [maxLen]) rfl)
    have hba := Lib.hid ((Below.refl w2.heap.size w2).alloc (Nat.le_refl _) (.cells #[] 26))
    have HL3 := Lib.hid (show RdL (w2.alloc (.cells #[] 26)).drew B (.slice (some ⟨b, o, none⟩) xs.length c) xs from RdL.drewN (RdL.below HL2.out (hba.out.mono (Nat.le_trans hB hbl.size))) 1)
    have Hz1 := Lib.hid (show w2.heap.size ≤ (w2.alloc (.cells #[] 26)).drew.heap.size by simp)
    have Hhead := Lib.hid (fun (j : Nat) (u : Value) (hu : ((xs.take i).flatMap cellsL)[j]? = some u) => HL3.out.head i j u hu)
    have Hl1 := Lib.hid (flat_take4 xs i (by omega))
    have Hl2 := Lib.hid (flat_drop4 xs (i + 1))
    have Hm1 := Lib.hid (show 0 + i ≤ maxLen by simp only [maxLen]; omega)
    have Hm2 := Lib.hid (show i + (xs.length - (i + 1)) ≤ maxLen by simp only [maxLen]; omega)
    have Hn1 := Lib.hid (show (0 + i) * 48 ≤ 140737488355328 by omega)
    have Hn2 := Lib.hid (show (i + (xs.length - (i + 1))) * 48 ≤ 140737488355328 by omega)
    have Hwr := Lib.hid (show IntKind.i64.wrap ((i : Int) + 1) = (i : Int) + 1 from IntWalk.i64_in _ (by omega))
    have HBw := Lib.hid (Nat.le_trans hB hbl.size)
    have Ho2 := Lib.hid (canO_addr b o c i)
    clear hb1 hb2 hbl hc
    have hwr := Hwr.out
    have hw1 : ((i : Int) + 1).toNat = i + 1 := by omega
    have hw0 : (0 : Int) ≤ (i : Int) + 1 := by omega
    go_wp2_with fail
    refine wp_region_noPanic ?_
    refine wp_region_L [] (fun _ => True) (by kernel_rfl) (trivial) (fun hHeld => ?_)
    refine take_F (i := 1) (d := some 19) (v := ?_) (by kernel_rfl) (by kernel_rfl) rfl rfl (by kernel_rfl) (by kernel_rfl) (by kernel_rfl) (fun _ _ _ h => h) (Or.inl ⟨by rfl, ?_⟩) (by assumption) ?_
    rotate_left
    · (intro w hSw; (try dsimp only at hSw); go_simp; (try rw [if_neg (by omega)]); (try (with_reducible rfl)))
    simp only [Act.put, List.setIfInBounds_toArray, List.set_cons_zero, List.set_cons_succ]
    refine take_F (i := 2) (d := some 20) (v := ?_) (by kernel_rfl) (by kernel_rfl) rfl rfl (by kernel_rfl) (by kernel_rfl) (by kernel_rfl) (fun _ _ _ h => h) (Or.inl ⟨by rfl, ?_⟩) (by assumption) ?_
    rotate_left
    · (intro w hSw; (try dsimp only at hSw); go_simp; (try rw [if_neg (by omega)]); (try (with_reducible rfl)))
    simp only [Act.put, List.setIfInBounds_toArray, List.set_cons_zero, List.set_cons_succ]
    refine take_F (i := 3) (d := some 21) (v := ?_) (by kernel_rfl) (by kernel_rfl) rfl rfl (by kernel_rfl) (by kernel_rfl) (by kernel_rfl) (fun _ _ _ h => h) (Or.inl ⟨by rfl, ?_⟩) (by assumption) ?_
    rotate_left
    · (intro w hSw; (try dsimp only at hSw); go_simp; (try rw [if_neg (by omega)]); (try (with_reducible rfl)))
    simp only [Act.put, List.setIfInBounds_toArray, List.set_cons_zero, List.set_cons_succ]
    refine take_F (i := 5) (d := some 23) (v := ?_) (by kernel_rfl) (by kernel_rfl) rfl rfl (by kernel_rfl) (by kernel_rfl) (by kernel_rfl) (fun _ _ _ h => h) (Or.inl ⟨by rfl, ?_⟩) (by assumption) ?_
    rotate_left
    · (intro w hSw; (try dsimp only at hSw); go_simp; (try rw [if_neg (by omega)]); (try (with_reducible rfl)))
    simp only [Act.put, List.setIfInBounds_toArray, List.set_cons_zero, List.set_cons_succ]
    refine take_F (i := 6) (d := some 24) (v := ?_) (by kernel_rfl) (by kernel_rfl) rfl rfl (by kernel_rfl) (by kernel_rfl) (by kernel_rfl) (fun _ _ _ h => h) (Or.inl ⟨by rfl, ?_⟩) (by assumption) ?_
    rotate_left
    · (intro w hSw; (try dsimp only at hSw); go_simp; (try rw [if_neg (by omega)]); (try (with_reducible rfl)))
    simp only [Act.put, List.setIfInBounds_toArray, List.set_cons_zero, List.set_cons_succ]
    refine take_F (i := 7) (d := some 25) (v := ?_) (by kernel_rfl) (by kernel_rfl) rfl rfl (by kernel_rfl) (by kernel_rfl) (by kernel_rfl) (fun _ _ _ h => h) (Or.inl ⟨by rfl, ?_⟩) (by assumption) ?_
    rotate_left
    · (intro w hSw; (try dsimp only at hSw); go_simp; (try rw [if_neg (by omega)]); (try (with_reducible rfl)))
    simp only [Act.put, List.setIfInBounds_toArray, List.set_cons_zero, List.set_cons_succ]
    refine take_F (i := 8) (d := some 26) (v := .slice (some ⟨b, canO o c i, none⟩) (xs.length - (i + 1)) (c - (i + 1))) (by kernel_rfl) (by kernel_rfl) rfl rfl (by kernel_rfl) (by kernel_rfl) (by kernel_rfl) (fun _ _ _ h => h) (Or.inl ⟨by rfl, ?_⟩) (by assumption) ?_
    · (intro w hSw; (try dsimp only at hSw); go_simp; rw [← Ho2.out])
    simp only [Act.put, List.setIfInBounds_toArray, List.set_cons_zero, List.set_cons_succ]
    clear hwr hw1 hw0
    refine call_L (i := 0) (d := (some 18)) rfl rfl (by kernel_rfl) (fun Kq hKq => ?_)
    go_simp
    refine hKq.out _ _ (trivial) (fun hHeld => ?_)
    clear hKq Kq
    (try simp only [Act.put, List.setIfInBounds_toArray, List.set_cons_zero, List.set_cons_succ])
    refine call_L (i := 4) (d := (some 22)) rfl rfl (by kernel_rfl) (fun Kq hKq => ?_)
    refine step_apr 24 26 _ 4 48 Tryd.underlying24 infoL rfl (by omega) _ _ (by rfl) (by rfl) w2.heap.size _ 0 [] (by rfl) ho0.out.drew b o i c ((xs.take i).flatMap cellsL) (by rfl) Hl1.out Hhead.out (cellsL_one _) Hm1.out Hn1.out Hz1.out ?_; intro v4 w4 hu4 hg4
    rw [Nat.zero_add] at hu4
    have hb4 := own_one hu4 hg4
    have Hu4 := Lib.hid hu4
    have Hb4 := Lib.hid hb4
    have hz4 := hb4.size
    have Hrest := Lib.hid (can_rest (RdL.below HL2.out (hb4.mono HBw.out)) hi Hcc.out)
    clear hu4 hg4 hb4
    refine hKq.out _ _ (trivial) (fun hHeld => ?_)
    clear hKq Kq
    simp only [Act.put, List.getElem_toArray, List.getElem_cons_succ, List.getElem_cons_zero, List.setIfInBounds_toArray, List.set_cons_succ, List.set_cons_zero]
    refine call_L (i := 9) (d := (some 27)) rfl rfl (by kernel_rfl) (fun Kq hKq => ?_)
    refine step_apr 24 26 _ 4 48 Tryd.underlying24 infoL rfl (by omega) _ _ (by rfl) (by rfl) w2.heap.size _ i _ (by rfl) Hu4.out b (canO o c i) (xs.length - (i + 1)) (c - (i + 1)) ((xs.drop (i + 1)).flatMap cellsL) (by rfl) Hl2.out Hrest.out (cellsL_one _) Hm2.out Hn2.out hz4 ?_; intro v5 w5 hu5 hg5
    have Hb5 := Lib.hid (below_apd Hb4.out Hu4.out hg5 (Nat.le_refl _) hz4)
    have Hu5 := Lib.hid hu5
    obtain ⟨A5, c5, rfl⟩ := own_sl_of hu5
    clear hu5 hg5
    refine hKq.out _ _ (trivial) (fun hHeld => ?_)
    clear hKq Kq
    simp only [Act.put, List.getElem_toArray, List.getElem_cons_succ, List.getElem_cons_zero, List.setIfInBounds_toArray, List.set_cons_succ, List.set_cons_zero]
    refine take_F (i := 10) (d := some 6) (v := ?_) (by kernel_rfl) (by kernel_rfl) rfl rfl (by kernel_rfl) (by kernel_rfl) (by kernel_rfl) (fun _ _ _ h => h) (Or.inl ⟨by rfl, ?_⟩) (by assumption) ?_
    rotate_left
    · (intro w hSw; (try dsimp only at hSw); go_simp; (try rw [if_neg (by omega)]); (try (with_reducible rfl)))
    simp only [Act.put, List.setIfInBounds_toArray, List.set_cons_zero, List.set_cons_succ]
    refine take_F (i := 11) (d := some 7) (v := ?_) (by kernel_rfl) (by kernel_rfl) rfl rfl (by kernel_rfl) (by kernel_rfl) (by kernel_rfl) (fun _ _ _ h => h) (Or.inl ⟨by rfl, ?_⟩) (by assumption) ?_
    rotate_left
    · (intro w hSw; (try dsimp only at hSw); go_simp; (try rw [if_neg (by omega)]); (try (with_reducible rfl)))
    simp only [Act.put, List.setIfInBounds_toArray, List.set_cons_zero, List.set_cons_succ]
    refine done_L (by kernel_rfl) ?_ _
    refine NoPanic.normal ?_
    go_wp2_with fail
    go_ret2
    have hfin := RetLn_yes Hf.out (can_own hi Hu5.out Hbl.out.size) (Hbl.out.trans (Hb5.out.mono Hbl.out.size))
    exact hfin

set_option maxRecDepth 100000 in
set_option maxHeartbeats 3200000 in
theorem CancelS_any (B b o c : Nat) (xs : List Ln) (s : ByteArray) (d : Int) (w : World) (h : RdL w B (.slice (some ⟨b, o, none⟩) xs.length c) xs) (hB : B ≤ w.heap.size) (hl : xs.length ≤ 1048576) (hsm : ∀ x ∈ xs, smL x) (hc : xs.length ≤ c) (_hc2 : c ≤ maxLen) :
    Calls Tryd.prog 12 #[.slice (some ⟨b, o, none⟩) xs.length c, .string s, .int .i64 d] w (RetLn (askLc xs s d) (canR xs s d) w) := by
  have HA := Lib.hid (l23Ask_any B (.slice (some ⟨b, o, none⟩) xs.length c) xs s d w h hl hsm)
  have hcs := can_cases xs s d
  generalize askLc xs s d = C at *
  generalize askLi xs s d = I at *
  generalize canR xs s d = R at *
  have H := Lib.hid h
  clear h hsm
  have hb00 := Lib.hid (Below.refl w.heap.size w)
  rcases hcs with ⟨g1, g2, g0, g3, _⟩ | ⟨g1, g2, g3, g0, g4, _⟩ | ⟨i, hi, g1, g2, g3, g0, g4, _⟩
  · have Hf := Lib.hid (And.intro g2 g3)
    rw [g2, g0] at HA
    clear g0 g1 g2 g3
    go_enter Tryd.func12, Tryd.ntmps12
    go_wp2_with fail
    refine HA.out.mono ?_; rintro e w1 ⟨rfl, n1, rfl⟩
    go_wp2_with fail
    go_ret2
    exact RetLn_no Hf.out (below_drewN hb00.out n1)
  · have Hf := Lib.hid (And.intro g3 g4)
    rw [g3, g0] at HA
    clear g0 g1 g2 g3 g4
    go_enter Tryd.func12, Tryd.ntmps12
    go_wp2_with fail
    refine HA.out.mono ?_; rintro e w1 ⟨rfl, n1, rfl⟩
    go_wp2_with fail
    go_ret2
    exact RetLn_no Hf.out (below_drewN hb00.out n1)
  · have Hf := Lib.hid (And.intro g3 g4)
    rw [g3, g0] at HA
    have hi' : (i : Int) < (xs.length : Int) := by omega
    have hic : (i : Int) ≤ (c : Int) := by omega
    have hi1 : (i : Int) + 1 ≤ (xs.length : Int) := by omega
    have hi1c : (i : Int) + 1 ≤ (c : Int) := by omega
    have Hcc := Lib.hid hc
    clear g0 g1 g2 g3 g4
    go_enter Tryd.func12, Tryd.ntmps12
    go_wp2_with fail
    refine HA.out.mono ?_; rintro e w1 ⟨rfl, n1, hw⟩
    have hbl : Below w.heap.size w w1 := by rw [hw]; exact below_drewN hb00.out n1
    clear hw
    generalize w1 = w2 at *
    have Hbl := Lib.hid hbl
    have HL2 := Lib.hid (H.out.below (hbl.mono hB))
    have ho0 := Lib.hid (World.ownsRow_made (base := w2.heap.size) (e := 26) (size := 4) w2 #[] 0 (Nat.le_refl _) (by simp [maxLen]) rfl)
    have hba := Lib.hid ((Below.refl w2.heap.size w2).alloc (Nat.le_refl _) (.cells #[] 26))
    have HL3 := Lib.hid (show RdL (w2.alloc (.cells #[] 26)) B (.slice (some ⟨b, o, none⟩) xs.length c) xs from RdL.below HL2.out (hba.out.mono (Nat.le_trans hB hbl.size)))
    have Hhead := Lib.hid (fun (j : Nat) (u : Value) (hu : ((xs.take i).flatMap cellsL)[j]? = some u) => HL3.out.head i j u hu)
    have Hl1 := Lib.hid (flat_take4 xs i (by omega))
    have Hl2 := Lib.hid (flat_drop4 xs (i + 1))
    have HBw := Lib.hid (Nat.le_trans hB hbl.size)
    have ho2 := canO_addr b o c i
    clear hbl hc hB
    go_wp2_with (first | (at_builtin; refine wpList_apr 24 26 _ 4 48 Tryd.underlying24 infoL rfl (by omega) _ _ rfl rfl w2.heap.size _ 0 _ rfl ho0.out b o i c ((xs.take i).flatMap cellsL) rfl Hl1.out Hhead.out (cellsL_one _) (by simp [maxLen]; omega) (by omega) hba.out.size ?_; intro v4 w4 hu4 hg4; rw [Nat.zero_add] at hu4; have hb4 := own_oneS hu4 hg4; have Hu4 := Lib.hid hu4; have Hb4 := Lib.hid hb4; have hz4 := hb4.size; have Hrest := Lib.hid (can_rest (RdL.below HL2.out (hb4.mono HBw.out)) hi Hcc.out); obtain ⟨A4, c4, rfl⟩ := own_sl_of hu4; clear hu4 hg4 hb4) | (at_builtin; refine wpList_apr 24 26 _ 4 48 Tryd.underlying24 infoL rfl (by omega) _ _ rfl rfl w2.heap.size _ i _ rfl Hu4.out b (canO o c i) (xs.length - (i + 1)) (c - (i + 1)) ((xs.drop (i + 1)).flatMap cellsL) rfl Hl2.out Hrest.out (cellsL_one _) (by simp [maxLen]; omega) (by omega) hz4 ?_; intro v5 w5 hu5 hg5; have Hb5 := Lib.hid (below_apd Hb4.out Hu4.out hg5 (Nat.le_refl _) hz4); have Hu5 := Lib.hid hu5; obtain ⟨A5, c5, rfl⟩ := own_sl_of hu5; clear hu5 hg5))
    go_ret2
    have hfin := RetLn_yes Hf.out (can_own hi Hu5.out Hbl.out.size) (Hbl.out.trans (Hb5.out.mono Hbl.out.size))
    exact hfin

def RetBw (w : World) (xs : List Ln) (s : ByteArray) (d : Int) (e : Ending) (w' : World) : Prop := e = .returned (.tuple #[.string (borS xs s d), .int .i64 (askLc xs s d)]) ∧ Below w.heap.size w w'
set_option maxRecDepth 100000 in
set_option maxHeartbeats 1600000 in
theorem BorrowI_any (B b o c : Nat) (xs : List Ln) (s : ByteArray) (d : Int) (w : World) (h : RdL w B (.slice (some ⟨b, o, none⟩) xs.length c) xs) (hB : B ≤ w.heap.size) (hl : xs.length ≤ 1048576) (hsm : ∀ x ∈ xs, smL x) (hc : xs.length ≤ c) (hc2 : c ≤ maxLen) :
    Calls Tryd.prog 13 #[.slice (some ⟨b, o, none⟩) xs.length c, .string s, .int .i64 d] w (RetBw w xs s d) := by
  have HV := Lib.hid (ValidLoansI_any B (.slice (some ⟨b, o, none⟩) xs.length c) xs w h hB hl hsm (fun A n c' e => by injection e with _ e2 e3; exact ⟨by omega, by omega⟩))
  have HA := Lib.hid (fun wx hx hz => loanAt_any B (.slice (some ⟨b, o, none⟩) xs.length c) xs s d wx hx hz hl)
  have hcs := can_cases xs s d
  unfold RetBw
  generalize askLc xs s d = C at *
  generalize borS xs s d = R at *
  have H := Lib.hid h
  clear h hsm hc2
  rcases hcs with ⟨g1, g2, _, _, g3⟩ | ⟨g1, g2, g3, _, _, g4⟩ | ⟨i, hi, g1, g2, g3, _, _, g4⟩
  · subst g2 g3
    rw [g1] at HV
    clear g1
    go_enter Tryd.func13, Tryd.ntmps13
    go_wp2_with fail
    refine HV.out.mono ?_; rintro e w1 ⟨rfl, hb1⟩
    go_wp2_with fail
    go_ret2
    exact ⟨rfl, hb1⟩
  · subst g3 g4
    rw [g1] at HV
    rw [g2] at HA
    clear g1 g2
    go_enter Tryd.func13, Tryd.ntmps13
    go_wp2_with fail
    refine HV.out.mono ?_; rintro e w1 ⟨rfl, hb1⟩
    go_wp2_with fail
    refine (HA.out _ (H.out.below (hb1.mono hB)) (Nat.le_trans hB hb1.size)).mono ?_; rintro e w2 ⟨rfl, hb2⟩
    go_wp2_with fail
    go_ret2
    exact ⟨rfl, hb1.trans (hb2.mono hb1.size)⟩
  · subst g3
    rw [g1] at HV
    rw [g2] at HA
    have hi' : (i : Int) < (xs.length : Int) := by omega
    have hi0 : ¬ ((i : Int) < 0) := by omega
    have Hg4 := Lib.hid g4
    clear g1 g2 g4
    go_enter Tryd.func13, Tryd.ntmps13
    go_wp2_with fail
    refine HV.out.mono ?_; rintro e w1 ⟨rfl, hb1⟩
    go_wp2_with fail
    refine (HA.out _ (H.out.below (hb1.mono hB)) (Nat.le_trans hB hb1.size)).mono ?_; rintro e w2 ⟨rfl, hb2⟩
    have hbl := hb1.trans (hb2.mono hb1.size)
    obtain ⟨b1, o1, hA1, hE⟩ := (H.out.below (hbl.mono hB)).at i hi
    injection hA1 with hA2
    injection hA2 with hA3 hA4
    subst hA3 hA4
    obtain ⟨_, _, p1, _, _⟩ := hE
    rw [← Hg4.out] at p1
    go_wp2_with fail
    go_ret2
    exact ⟨rfl, hbl⟩
set_option maxRecDepth 100000 in
set_option maxHeartbeats 1600000 in
theorem BorrowS_any (B b o c : Nat) (xs : List Ln) (s : ByteArray) (d : Int) (w : World) (h : RdL w B (.slice (some ⟨b, o, none⟩) xs.length c) xs) (_hB : B ≤ w.heap.size) (hl : xs.length ≤ 1048576) (hsm : ∀ x ∈ xs, smL x) :
    Calls Tryd.prog 14 #[.slice (some ⟨b, o, none⟩) xs.length c, .string s, .int .i64 d] w (RetBw w xs s d) := by
  have HA := Lib.hid (l23Ask_any B (.slice (some ⟨b, o, none⟩) xs.length c) xs s d w h hl hsm)
  have hcs := can_cases xs s d
  unfold RetBw
  generalize askLc xs s d = C at *
  generalize askLi xs s d = I at *
  generalize borS xs s d = R at *
  have H := Lib.hid h
  clear h hsm
  have hb00 := Lib.hid (Below.refl w.heap.size w)
  rcases hcs with ⟨g1, g2, g0, _, g3⟩ | ⟨g1, g2, g3, g0, _, g4⟩ | ⟨i, hi, g1, g2, g3, g0, _, g4⟩
  · subst g2 g3 g0
    clear g1
    go_enter Tryd.func14, Tryd.ntmps14
    go_wp2_with fail
    refine HA.out.mono ?_; rintro e w1 ⟨rfl, n1, rfl⟩
    go_wp2_with fail
    go_ret2
    exact ⟨rfl, below_drewN hb00.out n1⟩
  · subst g3 g4 g0
    clear g1 g2
    go_enter Tryd.func14, Tryd.ntmps14
    go_wp2_with fail
    refine HA.out.mono ?_; rintro e w1 ⟨rfl, n1, rfl⟩
    go_wp2_with fail
    go_ret2
    exact ⟨rfl, below_drewN hb00.out n1⟩
  · subst g3 g0
    have hi' : (i : Int) < (xs.length : Int) := by omega
    have Hg4 := Lib.hid g4
    clear g1 g2 g4
    go_enter Tryd.func14, Tryd.ntmps14
    go_wp2_with fail
    refine HA.out.mono ?_; rintro e w1 ⟨rfl, n1, rfl⟩
    obtain ⟨b1, o1, hA1, hE⟩ := H.out.at i hi
    injection hA1 with hA2
    injection hA2 with hA3 hA4
    subst hA3 hA4
    obtain ⟨_, _, p1, _, _⟩ := hE
    rw [← Hg4.out] at p1
    go_wp2_with fail
    go_ret2
    exact ⟨rfl, below_drewN hb00.out n1⟩
end Go.Proofs.YtmheijnckmlbnaaDoor
/- Loans: the plain law of FnLoans. -/
namespace Go.Proofs.YtmheijnckmlbnaaDoor

theorem loan_days' {x : Ln} (h : loanOk x = true) : 0 ≤ x.from_ ∧ x.from_ ≤ x.till := by
  unfold loanOk inB at h
  simp only [Bool.and_eq_true, decide_eq_true_eq] at h
  omega
theorem hits_uniq {xs : List Ln} (h : OkP xs) {s : ByteArray} {d : Int} {i j : Nat} (hi : i < xs.length) (hj : j < xs.length) (h1 : hits xs[i] s d = true) (h2 : hits xs[j] s d = true) : i = j := by
  have key : ∀ i j (hi : i < xs.length) (hj : j < xs.length), hits xs[i] s d = true → hits xs[j] s d = true → ¬ i < j := fun i j hi hj h1 h2 hij => by
    have hc := (h.two i j hi hj hij).2
    unfold hits inB at h1 h2
    unfold clash at hc
    simp only [Bool.and_eq_true, decide_eq_true_eq] at h1 h2
    have : (decide (xs[i].what = xs[j].what) && decide (xs[i].from_ ≤ xs[j].till) && decide (xs[j].from_ ≤ xs[i].till)) = true := by
      simp only [Bool.and_eq_true, decide_eq_true_eq]
      exact ⟨⟨h1.1.trans h2.1.symm, by omega⟩, by omega⟩
    rw [hc] at this; cases this
  rcases Nat.lt_trichotomy i j with h3 | h3 | h3
  · exact absurd h3 (key i j hi hj h1 h2)
  · exact h3
  · exact absurd h3 (key j i hj hi h2 h1)
theorem find_hit : ∀ (l : List Ln) (s : ByteArray) (d : Int) (k : Nat), findL l s d k = -1 ∨ ∃ i, ∃ hi : i < l.length, findL l s d k = ((k + i : Nat) : Int) ∧ hits l[i] s d = true := by
  intro l
  induction l with
  | nil => intro s d k; exact .inl rfl
  | cons x l ih =>
    intro s d k
    unfold findL
    split
    · rename_i h; exact .inr ⟨0, by simp, by simp, h⟩
    · rcases ih s d (k + 1) with h | ⟨i, hi, h1, h2⟩
      · exact .inl h
      · exact .inr ⟨i + 1, by simp; omega, by rw [h1]; congr 1; omega, h2⟩
theorem find_none : ∀ (l : List Ln) (s : ByteArray) (d : Int) (k : Nat), (∀ x ∈ l, hits x s d = false) → findL l s d k = -1 := by
  intro l
  induction l with
  | nil => intro s d k _; rfl
  | cons x l ih =>
    intro s d k h
    unfold findL
    rw [if_neg (by rw [h x (by simp)]; simp)]
    exact ih s d (k + 1) (fun y hy => h y (by simp [hy]))
theorem find_some {xs : List Ln} {s : ByteArray} {d : Int} {i : Nat} (h : OkP xs) (hi : i < xs.length) (h1 : hits xs[i] s d = true) : findL xs s d 0 = (i : Int) := by
  rcases find_hit xs s d 0 with h2 | ⟨j, hj, h2, h3⟩
  · exfalso
    have key : ∀ (l : List Ln) (k : Nat), findL l s d k = -1 → ∀ x ∈ l, hits x s d = false := by
      intro l
      induction l with
      | nil => intro k _ x hx; cases hx
      | cons y l ih =>
        intro k hk x hx
        unfold findL at hk
        split at hk
        · omega
        · rename_i hy
          rcases List.mem_cons.1 hx with rfl | hx
          · simpa using hy
          · exact ih (k + 1) hk x hx
    rw [key xs 0 h2 xs[i] (List.getElem_mem hi)] at h1
    cases h1
  · rw [h2, Nat.zero_add, hits_uniq h hj hi h3 h1]
theorem ask_0 {xs : List Ln} {s : ByteArray} {d : Int} (h : askLc xs s d = 0) : ∃ i, ∃ hi : i < xs.length, OkP xs ∧ hits xs[i] s d = true ∧ canR xs s d = xs.take i ++ xs.drop (i + 1) ∧ borS xs s d = xs[i].who ∧ retR xs s d = xs.set i ⟨xs[i].what, xs[i].who, xs[i].from_, d⟩ := by
  rcases can_cases xs s d with ⟨_, h2, _⟩ | ⟨_, _, h2, _⟩ | ⟨i, hi, h1, h2, h3, h4, h5, h6⟩
  · rw [h] at h2; cases h2
  · rw [h] at h2; cases h2
  · refine ⟨i, hi, OkP.of h1, ?_, h5, h6, ?_⟩
    · rcases find_hit xs s d 0 with h7 | ⟨j, hj, h7, h8⟩
      · rw [h2] at h7; omega
      · rw [h2] at h7
        have : j = i := by omega
        subst this; exact h8
    · rcases ret_cases xs s d with ⟨_, g2, _⟩ | ⟨_, _, g2, _⟩ | ⟨j, hj, _, g2, _, _, g5⟩
      · rw [h] at g2; cases g2
      · rw [h] at g2; cases g2
      · rw [h2] at g2
        have : i = j := by omega
        subst this; exact g5
theorem ask_of {xs : List Ln} {s : ByteArray} {d : Int} {i : Nat} (h : OkP xs) (hi : i < xs.length) (h1 : hits xs[i] s d = true) : askLc xs s d = 0 ∧ canR xs s d = xs.take i ++ xs.drop (i + 1) ∧ borS xs s d = xs[i].who := by
  have hf := find_some h hi h1
  have hk := h.to
  rcases can_cases xs s d with ⟨g1, _⟩ | ⟨_, g2, _⟩ | ⟨j, hj, g1, g2, g3, g4, g5, g6⟩
  · rw [hk] at g1; cases g1
  · rw [hf] at g2; omega
  · rw [hf] at g2
    have : i = j := by omega
    subst this
    exact ⟨g3, g5, g6⟩
theorem ask_none {xs : List Ln} {s : ByteArray} {d : Int} (h : OkP xs) (h1 : ∀ x ∈ xs, hits x s d = false) : askLc xs s d = 3 := by
  have hf := find_none xs s d 0 h1
  unfold askLc
  rw [if_neg (by rw [h.to]; simp), hf]; rfl
theorem del_at {xs : List Ln} {i : Nat} (hi : i < xs.length) (j : Nat) (hj : j < (xs.take i ++ xs.drop (i + 1)).length) : ∃ m, ∃ hm : m < xs.length, (xs.take i ++ xs.drop (i + 1))[j] = xs[m] ∧ m ≠ i ∧ ((j < i ∧ m = j) ∨ (i ≤ j ∧ m = j + 1)) := by
  have hl : (xs.take i).length = i := by rw [List.length_take]; omega
  have hjl : j < i + (xs.length - (i + 1)) := by rw [List.length_append, hl, List.length_drop] at hj; exact hj
  by_cases h : j < i
  · refine ⟨j, by omega, ?_, by omega, .inl ⟨h, rfl⟩⟩
    rw [List.getElem_append_left (by omega), List.getElem_take]
  · refine ⟨j + 1, by omega, ?_, by omega, .inr ⟨by omega, rfl⟩⟩
    rw [List.getElem_append_right (by omega), List.getElem_drop]
    simp only [hl]
    congr 1; omega
/-- what is cancelled is free again, and the list stays valid -/
theorem cancel_law {xs : List Ln} {s : ByteArray} {d : Int} (h : askLc xs s d = 0) : loansOk (canR xs s d) = true ∧ askLc (canR xs s d) s d = 3 ∧ loansOk (retR xs s d) = true := by
  obtain ⟨i, hi, hP, hh, hc, _, hr⟩ := ask_0 h
  have hP2 : OkP (canR xs s d) := by
    rw [hc]
    refine ⟨by have := hP.len; rw [List.length_append, List.length_take, List.length_drop]; omega, fun j hj => ?_, fun j k hj hk hjk => ?_⟩
    · obtain ⟨m, hm, he, _⟩ := del_at hi j hj
      rw [he]; exact hP.one m hm
    · obtain ⟨m, hm, he, _, h1⟩ := del_at hi j hj
      obtain ⟨m2, hm2, he2, _, h2⟩ := del_at hi k hk
      rw [he, he2]
      exact hP.two m m2 hm hm2 (by omega)
  refine ⟨hP2.to, ?_, ?_⟩
  · refine ask_none hP2 fun x hx => ?_
    rw [hc] at hx
    obtain ⟨j, hj, rfl⟩ := List.mem_iff_getElem.1 hx
    obtain ⟨m, hm, he, hne, _⟩ := del_at hi j hj
    rw [he]
    cases hq : hits xs[m] s d with
    | false => rfl
    | true => exact absurd (hits_uniq hP hm hi hq hh) hne
  · rw [hr]
    unfold hits inB at hh
    simp only [Bool.and_eq_true, decide_eq_true_eq] at hh
    have hx := hP.one i hi
    have hd := loan_days' hx
    refine OkP.to ⟨by rw [List.length_set]; exact hP.len, fun j hj => ?_, fun j k hj hk hjk => ?_⟩
    · rw [List.length_set] at hj
      by_cases e : i = j
      · subst e
        rw [List.getElem_set_self]
        unfold loanOk inB at hx ⊢
        simp only [Bool.and_eq_true, decide_eq_true_eq] at hx ⊢
        exact ⟨⟨⟨⟨hx.1.1.1.1, hx.1.1.1.2⟩, hx.1.1.2⟩, by omega⟩, by omega⟩
      · rw [List.getElem_set_ne e]; exact hP.one j hj
    · rw [List.length_set] at hj hk
      obtain ⟨t1, t2⟩ := hP.two j k hj hk hjk
      by_cases e : i = j
      · subst e
        rw [List.getElem_set_self, List.getElem_set_ne (by omega)]
        refine ⟨by unfold before at t1 ⊢; exact t1, ?_⟩
        unfold clash at t2 ⊢
        simp only [Bool.and_eq_false_iff, decide_eq_false_iff_not] at t2 ⊢
        rcases t2 with (t2 | t2) | t2
        · exact .inl (.inl t2)
        · exact .inl (.inr t2)
        · exact .inr (by omega)
      · rw [List.getElem_set_ne e]
        by_cases e2 : i = k
        · subst e2
          rw [List.getElem_set_self]
          refine ⟨by unfold before at t1 ⊢; exact t1, ?_⟩
          unfold clash at t2 ⊢
          simp only [Bool.and_eq_false_iff, decide_eq_false_iff_not] at t2 ⊢
          rcases t2 with (t2 | t2) | t2
          · exact .inl (.inl t2)
          · exact .inl (.inr (by omega))
          · exact .inr t2
        · rw [List.getElem_set_ne e2]; exact ⟨t1, t2⟩
/-- what is lent has its borrower, and is undone -/
theorem add_law {xs : List Ln} {x : Ln} (h : addC xs x = 0) (d : Int) (h0 : x.from_ ≤ d) (h1 : d ≤ x.till) : askLc (addR xs x) x.what d = 0 ∧ borS (addR xs x) x.what d = x.who ∧ canR (addR xs x) x.what d = xs := by
  have hP := OkP.of (add_ok h)
  obtain ⟨k, hk, he, _⟩ := add_facts h
  have hl : (xs.take k).length = k := by rw [List.length_take]; omega
  have hki : k < (addR xs x).length := by rw [he, List.length_append, List.length_cons, hl]; omega
  have hx : (addR xs x)[k] = x := by
    simp only [he]
    rw [List.getElem_append_right (by omega)]
    simp [hl]
  have hh : hits (addR xs x)[k] x.what d = true := by
    rw [hx]
    unfold hits inB
    simp only [Bool.and_eq_true, decide_eq_true_eq]
    exact ⟨trivial, h0, h1⟩
  obtain ⟨a1, a2, a3⟩ := ask_of hP hki hh
  refine ⟨a1, by rw [a3, hx], ?_⟩
  rw [a2, he, List.take_append_of_le_length (by omega), List.take_of_length_le (by omega), List.drop_append, hl, List.drop_of_length_le (by omega), List.nil_append, show k + 1 - k = 1 by omega]
  simp
end Go.Proofs.YtmheijnckmlbnaaDoor
/- Numbers read from texts, part 6: a decimal form is read back. -/
namespace Go.Proofs.YtmheijnckmlbnaaDoor

theorem dgt_ok (d : Nat) (h : d < 10) : isDg (UInt8.ofNat (48 + d)) = true ∧ (UInt8.ofNat (48 + d)).toNat - 48 = d ∧ UInt8.ofNat (48 + d) ≠ 45 := by
  have hh : ∀ m : Fin 10, isDg (UInt8.ofNat (48 + m.1)) = true ∧ (UInt8.ofNat (48 + m.1)).toNat - 48 = m.1 ∧ UInt8.ofNat (48 + m.1) ≠ 45 := by decide
  exact hh ⟨d, h⟩
theorem dec_facts (u : Nat) : (∀ c ∈ Lib.decDigits u, isDg c = true ∧ c ≠ 45) ∧ numVN (Lib.decDigits u) = u := by
  induction u using Nat.strongRecOn with
  | _ u ih =>
    by_cases h : u < 10
    · rw [Lib.decDigits, dif_pos h]
      obtain ⟨h1, h2, h3⟩ := dgt_ok u h
      refine ⟨fun c hc => ?_, ?_⟩
      · rw [List.mem_singleton.1 hc]; exact ⟨h1, h3⟩
      · show 10 * 0 + ((UInt8.ofNat (48 + u)).toNat - 48) = u
        omega
    · rw [Lib.decDigits, dif_neg h]
      obtain ⟨h1, h2, h3⟩ := dgt_ok (u % 10) (Nat.mod_lt _ (by omega))
      obtain ⟨k1, k2⟩ := ih (u / 10) (by omega)
      refine ⟨fun c hc => ?_, ?_⟩
      · rcases List.mem_append.1 hc with hc | hc
        · exact k1 c hc
        · rw [List.mem_singleton.1 hc]; exact ⟨h1, h3⟩
      · rw [numVN_snoc, k2, h2]; omega
theorem nDig18 (u : Nat) (h : u < 1000000000000000000) : 1 ≤ Lib.nDigits u ∧ Lib.nDigits u ≤ 18 := by
  refine ⟨Lib.nDigits_pos u, ?_⟩
  by_cases h0 : u < 10
  · rw [Lib.nDigits_small h0]; omega
  · rcases Nat.lt_or_ge 18 (Lib.nDigits u) with hl | hg
    · exfalso
      have key : ∀ (k v : Nat), v < 10 ^ (k + 1) → Lib.nDigits v ≤ k + 1 := by
        intro k
        induction k with
        | zero => intro v hv; rw [Lib.nDigits_small (by simpa using hv)]; omega
        | succ k ih =>
          intro v hv
          by_cases hs : v < 10
          · rw [Lib.nDigits_small hs]; omega
          · rw [Lib.nDigits_big hs]
            have := ih (v / 10) (by rw [Nat.pow_succ] at hv; omega)
            omega
      have := key 17 u h
      omega
    · exact hg
theorem readN_decS (a : Int) (h0 : -1000000000000000000 < a) (h1 : a < 1000000000000000000) : readN (decS a) = some a := by
  by_cases hn : a < 0
  · obtain ⟨u, hu⟩ : ∃ u : Nat, a = -(u : Int) := ⟨(-a).toNat, by omega⟩
    obtain ⟨k1, k2⟩ := dec_facts u
    obtain ⟨d1, d2⟩ := nDig18 u (by omega)
    have hs : decS a = ⟨(45 :: Lib.decDigits u).toArray⟩ := by
      unfold decS Lib.itoa
      rw [if_pos hn, show a.natAbs = u by omega]
    have hb : bodyN (decS a) = ⟨(Lib.decDigits u).toArray⟩ := by
      unfold bodyN
      rw [hs, if_pos (by rfl)]
      apply ByteArray.ext
      rw [ByteArray.data_extract]
      simp [ByteArray.size]
    have hz : (bodyN (decS a)).size = Lib.nDigits u := by rw [hb, ← Lib.decDigits_length]; simp [ByteArray.size]
    have hzz : (decS a).size = Lib.nDigits u + 1 := by rw [hs, ← Lib.decDigits_length]; simp [ByteArray.size]
    have hv : valN (decS a) = a := by
      unfold valN
      rw [if_pos (by omega), hb]
      show -((numVN (Lib.decDigits u) : Nat) : Int) = a
      rw [k2]; exact hu.symm
    rw [readN_val (by omega) (by rw [hb]; exact fun c hc => (k1 c hc).1), hv, if_pos rfl]
  · obtain ⟨u, rfl⟩ : ∃ u : Nat, a = (u : Int) := ⟨a.toNat, by omega⟩
    obtain ⟨k1, k2⟩ := dec_facts u
    obtain ⟨d1, d2⟩ := nDig18 u (by omega)
    have hs : decS (u : Int) = ⟨(Lib.decDigits u).toArray⟩ := by
      unfold decS Lib.itoa
      rw [if_neg hn]; rfl
    have hh : (decS (u : Int)).data.toList.head? ≠ some 45 := by
      rw [hs]
      intro e
      have e2 : (Lib.decDigits u).head? = some 45 := e
      exact (k1 45 (List.mem_of_mem_head? e2)).2 rfl
    have hb : bodyN (decS (u : Int)) = decS (u : Int) := by unfold bodyN; rw [if_neg hh]
    have hz : (decS (u : Int)).size = Lib.nDigits u := by rw [hs, ← Lib.decDigits_length]; simp [ByteArray.size]
    have hv : valN (decS (u : Int)) = u := by
      unfold valN
      rw [hb, if_neg (by omega), hs]
      show ((numVN (Lib.decDigits u) : Nat) : Int) = u
      rw [k2]
    rw [readN_val (by rw [hb]; omega) (by rw [hb, hs]; exact fun c hc => (k1 c hc).1), hv, if_pos rfl]
end Go.Proofs.YtmheijnckmlbnaaDoor
/- Loans' texts, read by the reference: ReadLoans. -/
namespace Go.Proofs.YtmheijnckmlbnaaDoor
open Go.RowKit Go.Joins

def RetRn (w : World) (r : Option (List Ln)) (e : Ending) (w' : World) : Prop :=
  ∃ v, e = .returned (.tuple #[v, .bool r.isSome]) ∧ OwnL w' w.heap.size v (r.getD []) ∧ Below w.heap.size w w'
theorem RetRn.none {w w' : World} {r : Option (List Ln)} (h : r = none) (hb : Below w.heap.size w w') : RetRn w r (.returned (.tuple #[.slice none 0 0, .bool false])) w' := by
  subst h; exact ⟨_, rfl, ⟨rfl, .inl ⟨rfl, rfl⟩⟩, hb⟩
theorem RetRn.some {w w' : World} {r : Option (List Ln)} {xs : List Ln} {v : Value} (h : r = some xs) (ho : OwnL w' w.heap.size v xs) (hb : Below w.heap.size w w') : RetRn w r (.returned (.tuple #[v, .bool true])) w' := by
  subst h; exact ⟨_, rfl, ho, hb⟩
theorem ones4 (a b : ByteArray) (f t : Int) : ∀ u ∈ (#[Value.string a, Value.string b, .int .i64 f, .int .i64 t] : Array Value).toList, u.oneCell' = true := by
  simp [Value.oneCell']
theorem ln_snoc {xs : List Ln} {a b : ByteArray} {f t : Int} : xs.flatMap cellsL ++ (#[Value.string a, Value.string b, .int .i64 f, .int .i64 t] : Array Value).toList = (xs ++ [(⟨a, b, f, t⟩ : Ln)]).flatMap cellsL := by
  rw [List.flatMap_append]; simp [cellsL]

set_option maxRecDepth 100000 in
set_option maxHeartbeats 3200000 in
theorem ReadLoansS_any (s : ByteArray) (w : World) (hs : s.size ≤ 1048576) : Calls Tryd.prog 21 #[.string s] w (RetRn w (rdLoans s)) := by
  have HSp := Lib.hid (fun wx => l01Split_any s 10 wx (by omega))
  unfold RetPs at HSp
  have hlen := splitB_len 10 s.size s (Nat.le_refl _)
  obtain ⟨x, hx, hcs⟩ := lines_last (s := s)
  have hmem := splitB_mem 10 s.size s (Nat.le_refl _)
  have hpos : 0 < (splitB 10 s).length := List.length_pos_iff.2 (splitB_ne 10 s)
  have Hcs := Lib.hid hcs
  generalize hL : splitB 10 s = L at *
  have hxl : L[L.length - 1]'(by omega) = x := by
    rw [List.getLast?_eq_getElem?, List.getElem?_eq_getElem (by omega)] at hx
    exact Option.some.inj hx
  clear hL hx hcs
  obtain ⟨n, hn⟩ : ∃ n, L.length = n + 1 := ⟨L.length - 1, by omega⟩
  have Hn := Lib.hid hn
  have HB0 := Lib.hid (Below.refl w.heap.size w)
  go_enter Tryd.func21, Tryd.ntmps21
  go_wp2_with fail
  refine (HSp.out _).mono ?_; rintro e w5 ⟨v5, rfl, ho5, hb5⟩
  obtain ⟨g5, c5, rfl, _, _, hlt5, hc5⟩ := own_strs ho5 hpos
  have hlast := hc5 (L.length - 1) (by omega)
  rw [hxl] at hlast
  have HC5 := Lib.hid hc5
  have Hmem := Lib.hid hmem
  simp only [hn, Nat.add_sub_cancel] at hlast
  rw [hn]
  have Hlt5 := Lib.hid hlt5
  have HB5 := Lib.hid hb5
  have hb0 := Lib.hid ((Below.refl w5.heap.size w5).alloc (Nat.le_refl _) (.cells #[] 26))
  have ho0 := Lib.hid (World.ownsRow_made (base := w5.heap.size) (e := 26) (size := 4) w5 #[] 0 (Nat.le_refl _) (by simp [maxLen]) rfl)
  have hlast2 := (hb0.out.cell (p := ⟨g5, n, none⟩) hlt5).trans hlast
  have hn6 : n ≤ 1048576 := by omega
  clear ho5 hb5 HSp hxl hlast hc5 hmem hlt5 hn hpos hlen
  rcases Hcs.out with ⟨hx0, hl⟩ | ⟨hx0, hl⟩
  · have Hr := Lib.hid (rdLoans_none hl)
    have hne := ne_some (s := x) (by omega)
    clear Hcs hl
    go_wp2_with fail
    go_ret2
    exact RetRn.none Hr.out (HB5.out.trans (hb0.out.mono HB5.out.size))
  · have hne := ne_none hx0
    by_cases h61 : 60 < n
    · have Hr := Lib.hid (rdLoans_long hl (by rw [List.length_dropLast, Hn.out]; omega))
      have h61' : (61 : Int) < (n : Int) + 1 := by omega
      clear Hcs hl
      go_wp2_with fail
      go_ret2
      exact RetRn.none Hr.out (HB5.out.trans (hb0.out.mono HB5.out.size))
    · have h61' : ¬ (61 : Int) < (n : Int) + 1 := by omega
      have Hl := Lib.hid hl
      have hdl : L.dropLast.length = n := by rw [List.length_dropLast, Hn.out]; omega
      have Hget := Lib.hid (fun k (h : k < L.dropLast.length) => drop_get h)
      have HM := Lib.hid (show ∀ z ∈ L.dropLast, z.size ≤ 1048576 from fun z hz => Nat.le_trans (Hmem.out z (List.dropLast_subset _ hz)) hs)
      have HC := Lib.hid (show ∀ (k : Nat) (h : k < L.dropLast.length), w5.cell? ⟨g5, k, none⟩ = some (.string L.dropLast[k]) from fun k h => by rw [Hget.out k h]; exact HC5.out k _)
      clear Hcs hl HC5 Hmem Hget Hn hne
      generalize L.dropLast = l at *
      have hne := ne_none hx0
      have Hdl := Lib.hid hdl; clear hdl
      go_wp2_with fail
      go_loopw [5, 6] (fun o i wr => ∃ k : Nat, k ≤ n ∧ i = .int .i64 (k : Int) ∧ (l.take k).all okLn = true ∧ wr.ownsRow w5.heap.size 26 4 o k (((l.take k).filterMap rdLn).flatMap cellsL) ∧ Below w5.heap.size w5 wr) (fun _ i _ => n - (intOf i).toNat)
      case atStart => exact ⟨0, Nat.zero_le _, rfl, rfl, ho0.out, hb0.out⟩
      case round =>
        obtain ⟨k, hk, rfl, hall, hown, hbl⟩ := hrel
        have Hown := Lib.hid hown
        have Hbl := Lib.hid hbl
        have Hall := Lib.hid hall
        obtain ⟨A6, c6, rfl⟩ := sl_of_own hown
        clear hown hall
        by_cases hlt : k < n
        · have hlt' : (k : Int) < (n : Int) := by omega
          have hkl : k < l.length := by rw [Hdl.out]; exact hlt
          have hce := (hbl.cell (p := ⟨g5, k, none⟩) Hlt5.out).trans (HC.out k hkl)
          have HL := Lib.hid (l23Line_any l[k] wr (Nat.le_trans (HM.out _ (List.getElem_mem hkl)) (by omega)))
          have Hbad := Lib.hid (fun h => rdLoans_bad Hl.out k hkl (okLn_none h))
          have Hgood := Lib.hid (fun x h => okLn_step (x := x) hkl Hall.out h)
          unfold RetLl at HL
          generalize l[k] = line at *
          clear hbl
          go_wp2_with fail
          refine HL.out.mono ?_; rintro e w6 ⟨⟨a, b, f, t⟩, rfl, hx, hb6⟩
          have HX := Lib.hid hx
          have Hb6 := Lib.hid (Hbl.out.trans (hb6.mono Hbl.out.size))
          have Ho6 := Lib.hid (own_below Hown.out hb6)
          have Hb7 := Lib.hid (Hb6.out.alloc Hb6.out.size (.cells #[.string a, .string b, .int .i64 f, .int .i64 t] 26))
          have Ho7 := Lib.hid (own_below Ho6.out ((Below.refl w6.heap.size w6).alloc (Nat.le_refl _) (.cells #[.string a, .string b, .int .i64 f, .int .i64 t] 26)))
          obtain ⟨c0, c1, c2, c3⟩ := four_at (heap_alloc_new w6 (.cells #[.string a, .string b, .int .i64 f, .int .i64 t] 26))
          have hz7 := Hb7.out.size
          clear hx hb6 HL hce Hown Hbl Hb6 Ho6
          cases hr : rdLn line with
          | none =>
            have Hr := Lib.hid (Hbad.out hr)
            clear hr Hbad Hgood HX
            go_wp2_with fail
            go_ret2
            exact RetRn.none Hr.out (HB5.out.trans (Hb7.out.mono HB5.out.size))
          | some y =>
            have hy := HX.out y hr
            subst hy
            obtain ⟨hall2, hfl⟩ := Hgood.out _ hr
            have Hall2 := Lib.hid hall2
            have Hfl := Lib.hid hfl
            have Hon := Lib.hid (ones4 a b f t)
            clear hr Hbad Hgood HX hall2 hfl
            go_upto_region 11 with (fail)
            generalize w6.alloc (.cells #[.string a, .string b, .int .i64 f, .int .i64 t] 26) = w8 at *
            go_wp2_with (at_builtin; refine wpList_apd 24 26 _ 4 48 Tryd.underlying24 infoL rfl (by omega) _ _ rfl rfl w5.heap.size _ k _ rfl Ho7.out #[.string a, .string b, .int .i64 f, .int .i64 t] 1 1 rfl rfl Hon.out (by simp [maxLen]; omega) (by omega) hz7 ?_; intro v9 w9 hown9 hg9; have Hb9 := Lib.hid (below_apd Hb7.out Ho7.out hg9 (Nat.le_refl _) hz7); have Ho9 := Lib.hid hown9; clear hown9 hg9)
            go_roundw
            case rel => exact ⟨k + 1, by omega, by go_num, Hall2.out, by rw [Hfl.out, ← ln_snoc]; exact Ho9.out, Hb9.out⟩
            case measure => simp [intOf]; omega
        · have hkn : k = n := by omega
          subst hkn
          have hlt' : ¬ (k : Int) < (k : Int) := by omega
          have htk : l.take k = l := List.take_of_length_le (by rw [Hdl.out]; exact Nat.le_refl _)
          have hal := Hall.out
          have hown2 := Hown.out
          rw [htk] at hal hown2
          have hr := rdLoans_at Hl.out hal
          have hfl : (l.filterMap rdLn).length = k := (filter_len hal).trans Hdl.out
          have hO : OwnL wr w5.heap.size (.slice A6 k c6) (l.filterMap rdLn) := by unfold OwnL; rw [hfl]; exact hown2
          have HO := Lib.hid hO
          have HK := Lib.hid (l23Ok_any wr.heap.size _ (l.filterMap rdLn) wr hO.rd (by rw [hfl]; exact hn6) (filter_sm (Nat.le_refl _) HM.out))
          clear hal hown2 htk hfl hO Hown Hall
          cases hok : loansOk (l.filterMap rdLn) with
          | true =>
            have Hr := Lib.hid (hr.trans (if_pos hok))
            rw [hok] at HK
            clear hok hr
            go_wp2_with fail
            refine HK.out.mono ?_; rintro e w9 ⟨rfl, q9, rfl⟩
            go_wp2_with fail
            go_ret2
            exact RetRn.some Hr.out (ownsRow_le (HO.out.drewN q9) HB5.out.size) (HB5.out.trans ((below_drewN hbl q9).mono HB5.out.size))
          | false =>
            have Hr := Lib.hid (hr.trans (if_neg (by rw [hok]; simp)))
            rw [hok] at HK
            clear hok hr
            go_wp2_with fail
            refine HK.out.mono ?_; rintro e w9 ⟨rfl, q9, rfl⟩
            go_wp2_with fail
            go_ret2
            exact RetRn.none Hr.out (HB5.out.trans ((below_drewN hbl q9).mono HB5.out.size))
end Go.Proofs.YtmheijnckmlbnaaDoor
/- Loans' texts, read by the program: ReadLoans. -/
namespace Go.Proofs.YtmheijnckmlbnaaDoor
open Go.RowKit Go.Joins

theorem W3.drewN {w : World} {g : Nat} {x a b : ByteArray} (h : W3 w g x a b) (n : Nat) : W3 (w.drewN n) g x a b := ⟨h.1, h.2, h.3, h.4⟩
theorem two2_no {x : ByteArray} (h : ¬ fnd2 46 x < x.size) : two2 x = none := by unfold two2; rw [if_neg h]
theorem two2_yes {x : ByteArray} (h : fnd2 46 x < x.size) : two2 x = both (readN (x.extract 0 (fnd2 46 x))) (readN (x.extract (fnd2 46 x + 2) x.size)) := by unfold two2; rw [if_pos h]
theorem cut2_yes (s : ByteArray) (c : UInt8) (w : World) (hs : s.size ≤ 1073741824) (h : fnd2 c s < s.size) : Calls Tryd.prog 59 #[.string s, .string ⟨#[c, c]⟩] w fun e w' => e = .returned (.tuple #[.string (s.extract 0 (fnd2 c s)), .string (s.extract (fnd2 c s + 2) s.size), .bool true]) ∧ ∃ n, w' = w.drewN n :=
  (cut2_any s c w hs).mono fun e w' ⟨h1, h2⟩ => ⟨by rwa [if_pos h] at h1, h2⟩
theorem cut2_no (s : ByteArray) (c : UInt8) (w : World) (hs : s.size ≤ 1073741824) (h : ¬ fnd2 c s < s.size) : Calls Tryd.prog 59 #[.string s, .string ⟨#[c, c]⟩] w fun e w' => e = .returned (.tuple #[.string s, .string ⟨#[]⟩, .bool false]) ∧ ∃ n, w' = w.drewN n :=
  (cut2_any s c w hs).mono fun e w' ⟨h1, h2⟩ => ⟨by rwa [if_neg h] at h1, h2⟩
theorem txL_of {s : ByteArray} {l : List ByteArray} (hl : linesB 10 s = some l) (ha : l.all okLn = true) (hk : loansOk (l.filterMap rdLn) = true) : txL (l.filterMap rdLn) = s := by
  unfold txL
  rw [if_pos hk, readLn_text l ha, linesB_text 10 s.size s (Nat.le_refl _) l hl]

set_option maxRecDepth 100000 in
set_option maxHeartbeats 3200000 in
theorem ReadLoansI_any (s : ByteArray) (w : World) (hs : s.size ≤ 1048576) (ht : Tab w) : Calls Tryd.prog 19 #[.string s] w (RetRn w (rdLoans s)) := by
  have HT := Lib.hid (textLines_any s w (by omega))
  have Ht := Lib.hid ht; clear ht
  cases hl : linesB 10 s with
  | none =>
    have Hr := Lib.hid (rdLoans_none hl)
    rw [hl] at HT
    clear hl
    go_enter Tryd.func19, Tryd.ntmps19
    go_wp2_with fail
    refine HT.out.mono ?_; rintro e w5 ⟨v5, rfl, _, hb5⟩
    have HB5 := Lib.hid hb5; clear hb5
    go_wp2_with fail
    go_ret2
    exact RetRn.none Hr.out HB5.out
  | some l =>
    have Hl := Lib.hid hl
    have hn6 := linesB_le hl
    have HM := Lib.hid (show ∀ z ∈ l, z.size ≤ 1048576 from fun z hz => Nat.le_trans (linesB_mem hl z hz) hs)
    rw [hl] at HT
    clear hl
    generalize hdl : l.length = n at *
    have Hdl := Lib.hid hdl; clear hdl
    go_enter Tryd.func19, Tryd.ntmps19
    go_wp2_with fail
    refine HT.out.mono ?_; rintro e w5 ⟨v5, rfl, ho5, hb5⟩
    obtain ⟨A5, c5, g5, rfl, hA5, hc5⟩ := own_strs0 (ho5 l rfl)
    rw [Hdl.out] at hA5 ⊢
    have HA5 := Lib.hid hA5
    have HC := Lib.hid hc5
    have HB5 := Lib.hid hb5
    have hb0 := Lib.hid ((Below.refl w5.heap.size w5).alloc (Nat.le_refl _) (.cells #[] 26))
    have ho0 := Lib.hid (World.ownsRow_made (base := w5.heap.size) (e := 26) (size := 4) w5 #[] 0 (Nat.le_refl _) (by simp [maxLen]) rfl)
    clear ho5 hb5 HT hA5 hc5
    go_wp2_with fail
    go_loopw [6, 27] (fun o i wr => ∃ k : Nat, k ≤ n ∧ i = .int .i64 (k : Int) ∧ (l.take k).all okLn = true ∧ wr.ownsRow w5.heap.size 26 4 o k (((l.take k).filterMap rdLn).flatMap cellsL) ∧ Below w5.heap.size w5 wr) (fun _ i _ => n - (intOf i).toNat)
    case atStart => exact ⟨0, Nat.zero_le _, rfl, rfl, ho0.out, hb0.out⟩
    case round =>
      obtain ⟨k, hk, rfl, hall, hown, hbl⟩ := hrel
      have Hown := Lib.hid hown
      have Hbl := Lib.hid hbl
      have Hall := Lib.hid hall
      obtain ⟨A6, c6, rfl⟩ := sl_of_own hown
      clear hown hall
      by_cases hlt : k < n
      · have hlt' : (k : Int) < (n : Int) := by omega
        have hkl : k < l.length := by rw [Hdl.out]; exact hlt
        obtain ⟨rfl, hlt5⟩ := HA5.out (by omega)
        have hce := (hbl.cell (p := ⟨g5, k, none⟩) hlt5).trans (HC.out k hkl)
        have hline := HM.out _ (List.getElem_mem hkl)
        have HP := Lib.hid (parts_any l[k] wr (by omega))
        have Hbad := Lib.hid (fun h => rdLoans_bad Hl.out k hkl (okLn_none h))
        have Hgood := Lib.hid (fun x h => okLn_step (x := x) hkl Hall.out h)
        unfold RetPs at HP
        generalize l[k] = line at *
        have hplen := splitB_len 32 line.size line (Nat.le_refl _)
        clear hbl
        by_cases h3 : (splitB 32 line).length = 3
        · obtain ⟨x, a, b, he⟩ := three_of h3
          have hmem := splitB_mem 32 line.size line (Nat.le_refl _)
          rw [he] at HP hmem
          have hx : x.size ≤ 1073741824 := Nat.le_trans (hmem x (by simp)) (by omega)
          have He := Lib.hid he
          clear he h3 hmem hplen
          go_wp2_with fail
          refine HP.out.mono ?_; rintro e w6 ⟨v6, rfl, ho6, hb6⟩
          obtain ⟨g6, c6', rfl, hw6⟩ := own_w3 ho6
          have W6 := Lib.hid hw6
          obtain ⟨l6, q0, q1, q2⟩ := hw6
          have Hb6 := Lib.hid (Hbl.out.trans (hb6.mono Hbl.out.size))
          have Ho6 := Lib.hid (own_below Hown.out hb6)
          clear ho6 hb6 HP Hown Hbl l6 hce
          go_wp2_with fail
          by_cases hf : fnd2 46 x < x.size
          · have HC2 := Lib.hid (fun wx => cut2_yes x 46 wx hx hf)
            have ht2 := two2_yes hf
            have HD1 := Lib.hid (fun wx hq => ReadDecimal_any (x.extract 0 (fnd2 46 x)) wx (by rw [ByteArray.size_extract]; omega) hq)
            have HD2 := Lib.hid (fun wx hq => ReadDecimal_any (x.extract (fnd2 46 x + 2) x.size) wx (by rw [ByteArray.size_extract]; omega) hq)
            unfold RetN1 at HD1 HD2
            have Hfin := Lib.hid (ll_fin He.out ht2)
            generalize x.extract 0 (fnd2 46 x) = p at *
            generalize x.extract (fnd2 46 x + 2) x.size = q at *
            generalize (readN p).getD 0 = f at *
            generalize (readN q).getD 0 = t at *
            generalize (readN p).isSome = o1 at *
            generalize (readN q).isSome = o2 at *
            clear ht2 hf
            refine (HC2.out _).mono ?_; rintro e w7 ⟨rfl, n7, hw7⟩
            have Hb7 := Lib.hid (show Below w5.heap.size w5 w7 from hw7 ▸ below_drewN Hb6.out n7)
            have Ho7 := Lib.hid (show w7.ownsRow w5.heap.size 26 4 (.slice A6 k c6) k (((l.take k).filterMap rdLn).flatMap cellsL) from hw7 ▸ Ho6.out.drewN n7)
            have W7 := Lib.hid (show W3 w7 g6 x a b from hw7 ▸ W6.out.drewN n7)
            clear hw7 Hb6 Ho6 W6 HC2 q0 q1 q2
            go_wp2_with fail
            refine (HD1.out _ (Ht.out.below (HB5.out.trans (Hb7.out.mono HB5.out.size)))).mono ?_; rintro e w8 ⟨rfl, hb8⟩
            have Hb8 := Lib.hid (Hb7.out.trans (hb8.mono Hb7.out.size))
            have Ho8 := Lib.hid (own_below Ho7.out hb8)
            have W8 := Lib.hid (W7.out.next hb8)
            clear hb8 Hb7 Ho7 W7 HD1
            go_wp2_with fail
            refine (HD2.out _ (Ht.out.below (HB5.out.trans (Hb8.out.mono HB5.out.size)))).mono ?_; rintro e w9 ⟨rfl, hb9⟩
            have Hb9 := Lib.hid (Hb8.out.trans (hb9.mono Hb8.out.size))
            have Ho9 := Lib.hid (own_below Ho8.out hb9)
            have W9 := Lib.hid (W8.out.next hb9)
            clear hb9 Hb8 Ho8 W8 HD2
            cases hr : rdLn line with
            | none =>
              have Hr := Lib.hid (Hbad.out hr)
              have ho12 := Hfin.out.1
              rw [hr] at ho12
              clear hr Hbad Hgood Hfin
              cases o1 with
              | false =>
                clear ho12
                go_wp2_with fail
                go_ret2
                exact RetRn.none Hr.out (HB5.out.trans (Hb9.out.mono HB5.out.size))
              | true =>
                cases o2 with
                | true => cases ho12
                | false =>
                  clear ho12
                  go_wp2_with fail
                  go_ret2
                  exact RetRn.none Hr.out (HB5.out.trans (Hb9.out.mono HB5.out.size))
            | some y =>
              have ho12 := Hfin.out.1
              rw [hr] at ho12
              have hy := Hfin.out.2 y hr
              subst hy
              obtain ⟨hall2, hfl⟩ := Hgood.out _ hr
              have Hall2 := Lib.hid hall2
              have Hfl := Lib.hid hfl
              have Hon := Lib.hid (ones4 a b f t)
              have hz9 := Hb9.out.size
              obtain ⟨l9, _, q1, q2⟩ := W9.out
              have Hmx := Lib.hid (show k + 1 ≤ maxLen by simp only [maxLen]; omega)
              have Hby := Lib.hid (show (k + 1) * 48 ≤ 140737488355328 by omega)
              clear hr Hbad Hgood Hfin hall2 hfl
              cases o1 with
              | false => cases ho12
              | true =>
                cases o2 with
                | false => cases ho12
                | true =>
                  clear ho12
                  go_wp2_with fail
                  refine wp_region_noPanic ?_
                  refine wp_region_L [12,11] (fun w' => w'.cell? ⟨g6, 1, none⟩ = some (.string a) ∧ w'.cell? ⟨g6, 2, none⟩ = some (.string b)) (by kernel_rfl) (⟨q1, q2⟩) (fun hHeld => ?_)
                  refine take_F (i := 0) (d := some 64) (v := ?_) (by kernel_rfl) (by kernel_rfl) rfl rfl (by kernel_rfl) (by kernel_rfl) (by kernel_rfl) (fun _ _ _ h => h) (Or.inl ⟨by rfl, ?_⟩) (by assumption) ?_
                  rotate_left
                  · (intro w hSw; (try dsimp only at hSw); go_simp; (try rw [if_neg (by omega)]); (try (with_reducible rfl)))
                  simp only [Act.put, List.setIfInBounds_toArray, List.set_cons_zero, List.set_cons_succ]
                  refine take_F (i := 1) (d := some 65) (v := ?_) (by kernel_rfl) (by kernel_rfl) rfl rfl (by kernel_rfl) (by kernel_rfl) (by kernel_rfl) (fun _ _ _ h => h) (Or.inl ⟨by rfl, ?_⟩) (by assumption) ?_
                  rotate_left
                  · (intro w hSw; (try dsimp only at hSw); go_simp; (try rw [if_neg (by omega)]); (try (with_reducible rfl)))
                  simp only [Act.put, List.setIfInBounds_toArray, List.set_cons_zero, List.set_cons_succ]
                  refine take_F (i := 2) (d := some 66) (v := ?_) (by kernel_rfl) (by kernel_rfl) rfl rfl (by kernel_rfl) (by kernel_rfl) (by kernel_rfl) (fun _ _ _ h => h) (Or.inl ⟨by rfl, ?_⟩) (by assumption) ?_
                  rotate_left
                  · (intro w hSw; (try dsimp only at hSw); go_simp; (try rw [if_neg (by omega)]); (try (with_reducible rfl)))
                  simp only [Act.put, List.setIfInBounds_toArray, List.set_cons_zero, List.set_cons_succ]
                  refine take_L [10,9,3] (i := 3) (d := some 67) (v := ?_) (by kernel_rfl) (by kernel_rfl) (by kernel_rfl) (by kernel_rfl) rfl rfl (by kernel_rfl) (by kernel_rfl) (by kernel_rfl) (fun _ _ _ h => h) (Or.inl ⟨by rfl, ?_⟩) (by assumption) ?_
                  rotate_left
                  · (intro w hSw; (try dsimp only at hSw); go_simp; (try rw [if_neg (by omega)]); (try (with_reducible rfl)))
                  simp only [Act.put, List.setIfInBounds_toArray, List.set_cons_zero, List.set_cons_succ]
                  refine take_F (i := 4) (d := some 68) (v := ?_) (by kernel_rfl) (by kernel_rfl) rfl rfl (by kernel_rfl) (by kernel_rfl) (by kernel_rfl) (fun _ _ _ h => h) (Or.inl ⟨by rfl, ?_⟩) (by assumption) ?_
                  rotate_left
                  · (intro w hSw; (try dsimp only at hSw); go_simp; (try rw [if_neg (by omega)]); (try (with_reducible rfl)))
                  simp only [Act.put, List.setIfInBounds_toArray, List.set_cons_zero, List.set_cons_succ]
                  refine take_F (i := 5) (d := some 69) (v := ?_) (by kernel_rfl) (by kernel_rfl) rfl rfl (by kernel_rfl) (by kernel_rfl) (by kernel_rfl) (fun _ _ _ h => h) (Or.inl ⟨by rfl, ?_⟩) (by assumption) ?_
                  rotate_left
                  · (intro w hSw; (try dsimp only at hSw); go_simp; (try rw [if_neg (by omega)]); (try (with_reducible rfl)))
                  simp only [Act.put, List.setIfInBounds_toArray, List.set_cons_zero, List.set_cons_succ]
                  refine take_L [10,9,6] (i := 6) (d := some 70) (v := ?_) (by kernel_rfl) (by kernel_rfl) (by kernel_rfl) (by kernel_rfl) rfl rfl (by kernel_rfl) (by kernel_rfl) (by kernel_rfl) (fun _ _ _ h => h) (Or.inl ⟨by rfl, ?_⟩) (by assumption) ?_
                  rotate_left
                  · (intro w hSw; (try dsimp only at hSw); go_simp; (try rw [if_neg (by omega)]); (try (with_reducible rfl)))
                  simp only [Act.put, List.setIfInBounds_toArray, List.set_cons_zero, List.set_cons_succ]
                  refine take_F (i := 7) (d := some 71) (v := ?_) (by kernel_rfl) (by kernel_rfl) rfl rfl (by kernel_rfl) (by kernel_rfl) (by kernel_rfl) (fun _ _ _ h => h) (Or.inl ⟨by rfl, ?_⟩) (by assumption) ?_
                  rotate_left
                  · (intro w hSw; (try dsimp only at hSw); go_simp; (try rw [if_neg (by omega)]); (try (with_reducible rfl)))
                  simp only [Act.put, List.setIfInBounds_toArray, List.set_cons_zero, List.set_cons_succ]
                  refine take_F (i := 8) (d := some 72) (v := ?_) (by kernel_rfl) (by kernel_rfl) rfl rfl (by kernel_rfl) (by kernel_rfl) (by kernel_rfl) (fun _ _ _ h => h) (Or.inl ⟨by rfl, ?_⟩) (by assumption) ?_
                  rotate_left
                  · (intro w hSw; (try dsimp only at hSw); go_simp; (try rw [if_neg (by omega)]); (try (with_reducible rfl)))
                  simp only [Act.put, List.setIfInBounds_toArray, List.set_cons_zero, List.set_cons_succ]
                  refine take_F (i := 9) (d := some 73) (v := ?_) (by kernel_rfl) (by kernel_rfl) rfl rfl (by kernel_rfl) (by kernel_rfl) (by kernel_rfl) (fun _ _ _ h => h) (Or.inl ⟨by rfl, ?_⟩) (by assumption) ?_
                  rotate_left
                  · (intro w hSw; (try dsimp only at hSw); go_simp; (try rw [if_neg (by omega)]); (try (with_reducible rfl)))
                  simp only [Act.put, List.setIfInBounds_toArray, List.set_cons_zero, List.set_cons_succ]
                  refine call_L (i := 10) (d := (some 74)) rfl rfl (by kernel_rfl) (fun Kq hKq => ?_)
                  go_simp
                  refine hKq.out _ _ (⟨cell_alloc (w := w9.drew) q1 _, cell_alloc (w := w9.drew) q2 _⟩) (fun hHeld => ?_)
                  clear hKq Kq
                  (try simp only [Act.put, List.setIfInBounds_toArray, List.set_cons_zero, List.set_cons_succ])
                  refine late_L (i := 11) (d := (some 75)) (by kernel_rfl) rfl rfl (by kernel_rfl) (fun Kq hKq => ?_)
                  refine step_apd 24 26 _ 4 48 Tryd.underlying24 infoL rfl (by omega) _ _ (by rfl) (by rfl) w5.heap.size _ k _ (by rfl) Ho9.out #[.string a, .string b, .int .i64 f, .int .i64 t] 1 1 (by rfl) (by rfl) Hon.out Hmx.out Hby.out hz9 ?_; intro v10 w10 hown10 hg10
                  have Hb10 := Lib.hid (below_apd Hb9.out Ho9.out hg10 (Nat.le_refl _) hz9)
                  have Ho10 := Lib.hid hown10
                  clear hown10 hg10
                  refine hKq.out _ _ ?_
                  clear hKq Kq
                  simp only [Act.put, List.setIfInBounds_toArray]
                  refine late_L (i := 12) (d := (some 6)) (by kernel_rfl) rfl rfl (by kernel_rfl) (fun Kq hKq => ?_)
                  go_simp
                  refine hKq.out _ _ ?_
                  clear hKq Kq
                  refine done_L (by kernel_rfl) ?_ _
                  refine NoPanic.normal ?_
                  (try go_wp2_with fail)
                  go_roundw
                  case rel => exact ⟨k + 1, by omega, by go_num, Hall2.out, by rw [Hfl.out, ← ln_snoc]; exact Ho10.out, Hb10.out⟩
                  case measure => simp [intOf]; omega
          · have HC2 := Lib.hid (fun wx => cut2_no x 46 wx hx hf)
            have HD1 := Lib.hid (fun wx hq => ReadDecimal_any x wx hx hq)
            have HD2 := Lib.hid (fun wx hq => ReadDecimal_any ⟨#[]⟩ wx (Nat.zero_le _) hq)
            unfold RetN1 at HD1 HD2
            have Hr := Lib.hid (Hbad.out (by rw [rdLn_three He.out, two2_no hf]; rfl))
            generalize (readN x).getD 0 = f at *
            generalize (readN ⟨#[]⟩).getD 0 = t at *
            generalize (readN x).isSome = o1 at *
            generalize (readN ⟨#[]⟩).isSome = o2 at *
            clear hf Hbad Hgood
            refine (HC2.out _).mono ?_; rintro e w7 ⟨rfl, n7, hw7⟩
            have Hb7 := Lib.hid (show Below w5.heap.size w5 w7 from hw7 ▸ below_drewN Hb6.out n7)
            clear hw7 Hb6 Ho6 W6 HC2 q0 q1 q2
            go_wp2_with fail
            refine (HD1.out _ (Ht.out.below (HB5.out.trans (Hb7.out.mono HB5.out.size)))).mono ?_; rintro e w8 ⟨rfl, hb8⟩
            have Hb8 := Lib.hid (Hb7.out.trans (hb8.mono Hb7.out.size))
            clear hb8 Hb7 HD1
            go_wp2_with fail
            refine (HD2.out _ (Ht.out.below (HB5.out.trans (Hb8.out.mono HB5.out.size)))).mono ?_; rintro e w9 ⟨rfl, hb9⟩
            have Hb9 := Lib.hid (Hb8.out.trans (hb9.mono Hb8.out.size))
            clear hb9 Hb8 HD2
            go_wp2_with fail
            go_ret2
            exact RetRn.none Hr.out (HB5.out.trans (Hb9.out.mono HB5.out.size))
        · have hnq : (((splitB 32 line).length : Int) == 3) = false := by rw [beq_eq_false_iff_ne]; omega
          have hnq2 : (((splitB 32 line).length : Int) != 3) = true := by simp [bne, hnq]
          have Hr := Lib.hid (Hbad.out (rdLn_not h3))
          clear Hbad Hgood h3
          go_wp2_with fail
          refine HP.out.mono ?_; rintro e w6 ⟨v6, rfl, ho6, hb6⟩
          obtain ⟨A6', c6', rfl⟩ := sl_of_own ho6
          have Hb6 := Lib.hid (Hbl.out.trans (hb6.mono Hbl.out.size))
          generalize (splitB 32 line).length = m at *
          clear ho6 hb6 HP Hown Hbl hce
          go_wp2_with fail
          go_ret2
          exact RetRn.none Hr.out (HB5.out.trans (Hb6.out.mono HB5.out.size))
      · have hkn : k = n := by omega
        subst hkn
        have hlt' : ¬ (k : Int) < (k : Int) := by omega
        have htk : l.take k = l := List.take_of_length_le (by rw [Hdl.out]; exact Nat.le_refl _)
        have hal := Hall.out
        have hown2 := Hown.out
        rw [htk] at hal hown2
        have hr := rdLoans_at Hl.out hal
        have hfl : (l.filterMap rdLn).length = k := (filter_len hal).trans Hdl.out
        have hO : OwnL wr w5.heap.size (.slice A6 k c6) (l.filterMap rdLn) := by unfold OwnL; rw [hfl]; exact hown2
        have hcap : ∀ A n c, Value.slice A6 k c6 = .slice A n c → n ≤ c ∧ c ≤ maxLen := fun A n c h => by
          injection h with _ h1 h2
          subst h1 h2
          exact own_cap hown2
        have HO := Lib.hid hO
        have hsm := filter_sm (l := l) (Nat.le_refl _) HM.out
        have HK := Lib.hid (ValidLoansI_any wr.heap.size _ (l.filterMap rdLn) wr hO.rd (Nat.le_refl _) (by rw [hfl]; omega) hsm hcap)
        have HX := Lib.hid (fun wx (hx : RdL wx wx.heap.size (.slice A6 k c6) (l.filterMap rdLn)) hq => LoansTextI_any wx.heap.size _ (l.filterMap rdLn) wx hx (Nat.le_refl _) (by rw [hfl]; omega) hsm hcap hq)
        have Htx := Lib.hid (fun h => txL_of Hl.out hal h)
        have Hbl2 := Lib.hid hbl
        clear hal hown2 htk hfl hO Hown Hall hcap hsm hbl
        cases hok : loansOk (l.filterMap rdLn) with
        | true =>
          have Hr := Lib.hid (hr.trans (if_pos hok))
          have htx := Htx.out hok
          rw [htx] at HX
          rw [hok] at HK
          clear hok hr htx Htx
          go_wp2_with fail
          refine HK.out.mono ?_; rintro e w9 ⟨rfl, hb9⟩
          have Hb9 := Lib.hid (Hbl.out.trans (hb9.mono Hbl.out.size))
          have HO9 := Lib.hid (own_below HO.out hb9)
          clear hb9
          go_wp2_with fail
          refine (HX.out _ (OwnL.rd HO9.out) (Ht.out.below (HB5.out.trans (Hb9.out.mono HB5.out.size)))).mono ?_; rintro e w10 ⟨rfl, hb10⟩
          have Hb10 := Lib.hid (Hb9.out.trans (hb10.mono Hb9.out.size))
          have HO10 := Lib.hid (own_below HO9.out hb10)
          clear hb10
          go_wp2_with fail
          go_ret2
          exact RetRn.some Hr.out (ownsRow_le HO10.out HB5.out.size) (HB5.out.trans (Hb10.out.mono HB5.out.size))
        | false =>
          have Hr := Lib.hid (hr.trans (if_neg (by rw [hok]; simp)))
          rw [hok] at HK
          clear hok hr Htx HX
          go_wp2_with fail
          refine HK.out.mono ?_; rintro e w9 ⟨rfl, hb9⟩
          have Hb9 := Lib.hid (Hbl.out.trans (hb9.mono Hbl.out.size))
          clear hb9
          go_wp2_with fail
          go_ret2
          exact RetRn.none Hr.out (HB5.out.trans (Hb9.out.mono HB5.out.size))
end Go.Proofs.YtmheijnckmlbnaaDoor
/- Loans: a text of loans is read back. -/
namespace Go.Proofs.YtmheijnckmlbnaaDoor

/-- the text does not hold the byte -/
def hasNo (c : UInt8) (x : ByteArray) : Prop := ∀ b ∈ x.data.toList, b ≠ c
theorem hasNo_app {c : UInt8} {x y : ByteArray} (h : hasNo c x) (k : hasNo c y) : hasNo c (x ++ y) := fun b hb => by
  have h2 : (x ++ y).data.toList = x.data.toList ++ y.data.toList := by simp
  rw [h2] at hb
  rcases List.mem_append.1 hb with hb | hb
  · exact h b hb
  · exact k b hb
theorem fnd_hasNo {c : UInt8} {x : ByteArray} (h : hasNo c x) : fnd c x = x.size := by
  unfold fnd
  rw [List.findIdx_eq_length_of_false (fun b hb => by simpa using h b hb)]
  simp
theorem fnd_cut {c : UInt8} {x y : ByteArray} (h : hasNo c x) : fnd c (x ++ ⟨#[c]⟩ ++ y) = x.size := by
  have h := fnd_hasNo h
  unfold fnd at *
  have h2 : (x ++ ⟨#[c]⟩ ++ y).data.toList = x.data.toList ++ (c :: y.data.toList) := by simp
  have h3 : x.data.toList.length = x.size := by simp
  rw [h2, List.findIdx_append]
  have hn : ¬ List.findIdx (fun z => z == c) x.data.toList < x.data.toList.length := by rw [h, h3]; omega
  rw [if_neg hn, List.findIdx_cons]
  simp
theorem cut_parts {c : UInt8} {x y : ByteArray} (h : hasNo c x) : fnd c (x ++ ⟨#[c]⟩ ++ y) < (x ++ ⟨#[c]⟩ ++ y).size ∧ (x ++ ⟨#[c]⟩ ++ y).extract 0 (fnd c (x ++ ⟨#[c]⟩ ++ y)) = x ∧ (x ++ ⟨#[c]⟩ ++ y).extract (fnd c (x ++ ⟨#[c]⟩ ++ y) + 1) (x ++ ⟨#[c]⟩ ++ y).size = y := by
  rw [fnd_cut h]
  have h1 : (⟨#[c]⟩ : ByteArray).size = 1 := rfl
  refine ⟨by rw [ByteArray.size_append, ByteArray.size_append, h1]; omega, ?_, ?_⟩
  · rw [ByteArray.append_assoc]
    exact ByteArray.extract_append_eq_left rfl
  · exact ByteArray.extract_append_eq_right (by rw [ByteArray.size_append]; rfl) (by rw [ByteArray.size_append])
theorem splitB_cut {c : UInt8} {x y : ByteArray} (h : hasNo c x) : splitB c (x ++ ⟨#[c]⟩ ++ y) = x :: splitB c y := by
  obtain ⟨h1, h2, h3⟩ := cut_parts (y := y) h
  rw [splitB_yes h1, h2, h3]
theorem splitB_last {c : UInt8} {x : ByteArray} (h : hasNo c x) : splitB c x = [x] := splitB_no (by rw [fnd_hasNo h]; exact Nat.le_refl _)
theorem linesB_cut {c : UInt8} {x y : ByteArray} (h : hasNo c x) : linesB c (x ++ ⟨#[c]⟩ ++ y) = (linesB c y).map (x :: ·) := by
  obtain ⟨h1, h2, h3⟩ := cut_parts (y := y) h
  rw [linesB_yes h1, h2, h3]
theorem dec_no {a : Int} (h : 0 ≤ a) {c : UInt8} (hc : isDg c = false) : hasNo c (decS a) := by
  obtain ⟨u, rfl⟩ : ∃ u : Nat, a = (u : Int) := ⟨a.toNat, by omega⟩
  have hs : decS (u : Int) = ⟨(Lib.decDigits u).toArray⟩ := by
    unfold decS Lib.itoa
    rw [if_neg (by omega)]; rfl
  intro b hb e
  rw [hs] at hb
  have := ((dec_facts u).1 b (by simpa using hb)).1
  rw [e, hc] at this; cases this
theorem nm_no {x : ByteArray} (h : isNm x.data.toList = true) {c : UInt8} (hc : okC c.toNat = false) : hasNo c x := by
  intro b hb e
  unfold isNm at h
  split at h
  · cases h
  · rename_i c0 t hx
    simp only [Bool.and_eq_true, List.all_eq_true] at h
    have := h.2 b (by rw [← hx]; exact hb)
    rw [e, hc] at this; cases this
/-- a line without its end -/
def bodyL (x : Ln) : ByteArray := decS x.from_ ++ ⟨#[46, 46]⟩ ++ decS x.till ++ ⟨#[32]⟩ ++ x.what ++ ⟨#[32]⟩ ++ x.who
theorem lineL_body (x : Ln) : lineL x = bodyL x ++ ⟨#[10]⟩ := rfl
theorem loan_nm {x : Ln} (h : loanOk x = true) : isNm x.what.data.toList = true ∧ isNm x.who.data.toList = true := by
  unfold loanOk at h
  simp only [Bool.and_eq_true] at h
  exact ⟨h.1.1.1.1, h.1.1.1.2⟩
theorem lit_no {c : UInt8} {l : Array UInt8} (h : l.toList.all (fun b => b != c) = true) : hasNo c ⟨l⟩ := fun b hb => by
  simpa using List.all_eq_true.1 h b hb
theorem bodyL_no {x : Ln} (h : loanOk x = true) : hasNo 10 (bodyL x) := by
  obtain ⟨h1, h2⟩ := loan_nm h
  have hd := loan_days h
  unfold bodyL
  exact hasNo_app (hasNo_app (hasNo_app (hasNo_app (hasNo_app (hasNo_app (dec_no (by omega) rfl) (lit_no rfl)) (dec_no (by omega) rfl)) (lit_no rfl)) (nm_no h1 rfl)) (lit_no rfl)) (nm_no h2 rfl)
theorem two2_days {a b : Int} (ha : 0 ≤ a) (hb : 0 ≤ b) (ha2 : a ≤ 100000) (hb2 : b ≤ 100000) : two2 (decS a ++ ⟨#[46, 46]⟩ ++ decS b) = some (a, b) := by
  have e1 : decS a ++ ⟨#[46, 46]⟩ ++ decS b = decS a ++ ⟨#[46]⟩ ++ (⟨#[]⟩ ++ ⟨#[46]⟩ ++ decS b) := by
    apply ByteArray.ext
    rw [← Array.toList_inj]
    simp
  have hs : splitB 46 (decS a ++ ⟨#[46, 46]⟩ ++ decS b) = [decS a, ⟨#[]⟩, decS b] := by
    rw [e1, splitB_cut (dec_no ha rfl), splitB_cut (lit_no rfl), splitB_last (dec_no hb rfl)]
  obtain ⟨h1, h2, h3⟩ := split3 hs rfl
  rw [two2_yes h1, ← h2, ← h3, readN_decS a (by omega) (by omega), readN_decS b (by omega) (by omega)]; rfl
theorem rdLn_body {x : Ln} (h : loanOk x = true) : rdLn (bodyL x) = some x := by
  obtain ⟨h1, h2⟩ := loan_nm h
  have hd := loan_days h
  have e1 : bodyL x = (decS x.from_ ++ ⟨#[46, 46]⟩ ++ decS x.till) ++ ⟨#[32]⟩ ++ (x.what ++ ⟨#[32]⟩ ++ x.who) := by unfold bodyL; apply ByteArray.ext; simp
  have hs : splitB 32 (bodyL x) = [decS x.from_ ++ ⟨#[46, 46]⟩ ++ decS x.till, x.what, x.who] := by
    rw [e1, splitB_cut (hasNo_app (hasNo_app (dec_no (by omega) rfl) (lit_no rfl)) (dec_no (by omega) rfl)), splitB_cut (nm_no h1 rfl), splitB_last (nm_no h2 rfl)]
  rw [rdLn_three hs, two2_days (by omega) (by omega) (by omega) (by omega)]; rfl
theorem textL_cons (x : Ln) (xs : List Ln) : textL (x :: xs) = bodyL x ++ ⟨#[10]⟩ ++ textL xs := by
  rw [← lineL_body]
  unfold textL
  apply ByteArray.ext
  simp
theorem linesB_textL : ∀ xs : List Ln, (∀ x ∈ xs, loanOk x = true) → linesB 10 (textL xs) = some (xs.map bodyL) := by
  intro xs
  induction xs with
  | nil => intro _; exact linesB_nil 10 _ rfl
  | cons x xs ih =>
    intro h
    rw [textL_cons, linesB_cut (bodyL_no (h x (by simp))), ih (fun y hy => h y (by simp [hy]))]
    rfl
theorem filterMap_body : ∀ xs : List Ln, (∀ x ∈ xs, loanOk x = true) → (xs.map bodyL).filterMap rdLn = xs := by
  intro xs
  induction xs with
  | nil => intro _; rfl
  | cons x xs ih =>
    intro h
    rw [List.map_cons, List.filterMap_cons, rdLn_body (h x (by simp)), ih (fun y hy => h y (by simp [hy]))]
theorem rdLoans_textL {xs : List Ln} (h : loansOk xs = true) : rdLoans (textL xs) = some xs := by
  have hP := OkP.of h
  have hall : ∀ x ∈ xs, loanOk x = true := fun x hx => by
    obtain ⟨i, hi, rfl⟩ := List.mem_iff_getElem.1 hx
    exact hP.one i hi
  have hl := linesB_textL xs hall
  have ha : (xs.map bodyL).all okLn = true := by
    rw [List.all_eq_true]
    intro z hz
    obtain ⟨x, hx, rfl⟩ := List.mem_map.1 hz
    exact okLn_some (rdLn_body (hall x hx))
  rw [rdLoans_at hl ha, filterMap_body xs hall, if_pos h]
/-- a text that is not empty is read back -/
theorem txL_back {xs : List Ln} (h : txL xs ≠ ⟨#[]⟩) : rdLoans (txL xs) = some xs := by
  unfold txL at *
  split
  · rename_i hk; exact rdLoans_textL hk
  · rename_i hk; rw [if_neg hk] at h; exact absurd rfl h
end Go.Proofs.YtmheijnckmlbnaaDoor
/- Lists of loans are compared (SameLoans). -/
namespace Go.Proofs.YtmheijnckmlbnaaDoor
open Go.RowKit Go.Joins

theorem take_eqL {xs ys : List Ln} (k : Nat) (hx : k < xs.length) (hy : k < ys.length) (h0 : xs.take k = ys.take k) (h : xs[k] = ys[k]) : xs.take (k + 1) = ys.take (k + 1) := by
  rw [List.take_succ_eq_append_getElem hx, List.take_succ_eq_append_getElem hy, h0, h]
theorem ne_ofL {xs ys : List Ln} (k : Nat) (hx : k < xs.length) (hy : k < ys.length) (h : xs[k] ≠ ys[k]) : decide (xs = ys) = false :=
  decide_eq_false fun e => h (by subst e; rfl)

set_option maxRecDepth 100000 in
set_option maxHeartbeats 1600000 in
theorem SameLI_any (B1 B2 : Nat) (v1 v2 : Value) (xs ys : List Ln) (w : World) (h1 : RdL w B1 v1 xs) (h2 : RdL w B2 v2 ys) (hx : xs.length ≤ 1048576) :
    Calls Tryd.prog 25 #[v1, v2] w fun e w' => e = .returned (.bool (decide (xs = ys))) ∧ ∃ n, w' = w.drewN n := by
  have H1 := Lib.hid h1
  have H2 := Lib.hid h2
  obtain ⟨A1, c1, rfl⟩ := h1.slice
  obtain ⟨A2, c2, rfl⟩ := h2.slice
  clear h1 h2
  by_cases hl : xs.length = ys.length
  · have hl' : ((xs.length : Int) == (ys.length : Int)) = true := by rw [beq_iff_eq]; omega
    have hl2 : ((xs.length : Int) != (ys.length : Int)) = false := by simp [bne, hl']
    have Hl := Lib.hid hl; clear hl
    go_enter Tryd.func25, Tryd.ntmps25
    go_wp2_with fail
    go_loopw [13] (fun i wr => ∃ k : Nat, k ≤ xs.length ∧ i = .int .i64 (k : Int) ∧ xs.take k = ys.take k ∧ ∃ n, wr = w.drewN n) (fun i _ => xs.length - (intOf i).toNat)
    case atStart => exact ⟨0, Nat.zero_le _, rfl, rfl, 0, rfl⟩
    case round =>
      obtain ⟨k, hk, rfl, htk, n0, rfl⟩ := hrel
      have Htk := Lib.hid htk
      clear htk
      by_cases hlt : k < xs.length
      · have hlt' : (k : Int) < (xs.length : Int) := by omega
        have hlt2 : (k : Int) < (ys.length : Int) := by have := Hl.out; omega
        have hky : k < ys.length := by have := Hl.out; omega
        obtain ⟨b1, o1, hA1, hE1⟩ := H1.out.at k hlt
        obtain ⟨b2, o2, hA2, hE2⟩ := H2.out.at k hky
        subst hA1 hA2
        have hkz : (0 : Int) ≤ (k : Int) := by omega
        have Hst := Lib.hid (fun h => take_eqL (xs := xs) (ys := ys) k hlt hky Htk.out h)
        have Hbad := Lib.hid (fun h => ne_ofL (xs := xs) (ys := ys) k hlt hky h)
        generalize xs[k] = x at *
        generalize ys[k] = y at *
        obtain ⟨a, b, f, t⟩ := x
        obtain ⟨a2, b2', f2, t2⟩ := y
        obtain ⟨_, p0, p1, p2, p3⟩ := hE1
        obtain ⟨_, q0, q1, q2, q3⟩ := hE2
        dsimp only at p0 p1 p2 p3 q0 q1 q2 q3
        by_cases he : (⟨a, b, f, t⟩ : Ln) = ⟨a2, b2', f2, t2⟩
        · have Hs2 := Lib.hid (Hst.out he)
          injection he with e1 e2 e3 e4
          subst e1 e2 e3 e4
          clear Hst Hbad
          go_wp2_with fail
          go_quiet (fail)
          go_wp2_with fail
          go_roundw
          case rel => exact ⟨k + 1, by omega, by go_num, Hs2.out, _, rfl⟩
          case measure => simp [intOf]; omega
        · have Hb2 := Lib.hid (Hbad.out he)
          clear Hst Hbad
          by_cases h1 : a = a2
          · subst h1
            by_cases h2 : b = b2'
            · subst h2
              by_cases h3 : f = f2
              · subst h3
                have h4 : (t == t2) = false := beq_eq_false_iff_ne.2 fun h => he (by rw [h])
                go_wp2_with fail
                go_quiet (fail)
                go_wp2_with fail
                go_ret
                exact ⟨by rw [Hb2.out]; rfl, _, World.drewN_drewN _ _ _⟩
              · have h4 : (f == f2) = false := beq_eq_false_iff_ne.2 h3
                go_wp2_with fail
                go_quiet (fail)
                go_wp2_with fail
                go_ret
                exact ⟨by rw [Hb2.out]; rfl, _, World.drewN_drewN _ _ _⟩
            · have h4 : (b.toList == b2'.toList) = false := beq_eq_false_iff_ne.2 fun h => h2 (ba_inj h)
              go_wp2_with fail
              go_quiet (fail)
              go_wp2_with fail
              go_ret
              exact ⟨by rw [Hb2.out]; rfl, _, World.drewN_drewN _ _ _⟩
          · have h4 : (a.toList == a2.toList) = false := beq_eq_false_iff_ne.2 fun h => h1 (ba_inj h)
            go_wp2_with fail
            go_quiet (fail)
            go_wp2_with fail
            go_ret
            exact ⟨by rw [Hb2.out]; rfl, _, World.drewN_drewN _ _ _⟩
      · have hkk : k = xs.length := by omega
        subst hkk
        have hlt' : (xs.length : Int) ≤ (xs.length : Int) := Int.le_refl _
        have he : xs = ys := by
          have h := Htk.out
          have h3 := Hl.out
          rw [List.take_length, h3, List.take_length] at h
          exact h
        have He := Lib.hid (decide_eq_true he)
        clear he
        go_wp2_with fail
        go_ret
        exact ⟨by rw [He.out]; rfl, n0, rfl⟩
  · have hl' : ((xs.length : Int) == (ys.length : Int)) = false := by rw [beq_eq_false_iff_ne]; omega
    have hl2 : ((xs.length : Int) != (ys.length : Int)) = true := by simp [bne, hl']
    have He := Lib.hid (show decide (xs = ys) = false from decide_eq_false (fun h => hl (by rw [h])))
    clear hl
    go_enter Tryd.func25, Tryd.ntmps25
    go_wp2_with fail
    go_ret
    exact ⟨by rw [He.out]; rfl, 0, rfl⟩

set_option maxRecDepth 100000 in
set_option maxHeartbeats 1600000 in
theorem SameLS_any (B1 B2 : Nat) (v1 v2 : Value) (xs ys : List Ln) (w : World) (h1 : RdL w B1 v1 xs) (h2 : RdL w B2 v2 ys) (hx : xs.length ≤ 1048576) :
    Calls Tryd.prog 23 #[v1, v2] w fun e w' => e = .returned (.bool (decide (xs = ys))) ∧ ∃ n, w' = w.drewN n := by
  have H1 := Lib.hid h1
  have H2 := Lib.hid h2
  obtain ⟨A1, c1, rfl⟩ := h1.slice
  obtain ⟨A2, c2, rfl⟩ := h2.slice
  clear h1 h2
  by_cases hl : xs.length = ys.length
  · have hl' : ((xs.length : Int) == (ys.length : Int)) = true := by rw [beq_iff_eq]; omega
    have hl2 : ((xs.length : Int) != (ys.length : Int)) = false := by simp [bne, hl']
    have Hl := Lib.hid hl; clear hl
    go_enter Tryd.func23, Tryd.ntmps23
    go_wp2_with fail
    go_loopw [5] (fun i wr => ∃ k : Nat, k ≤ xs.length ∧ i = .int .i64 (k : Int) ∧ xs.take k = ys.take k ∧ ∃ n, wr = w.drewN n) (fun i _ => xs.length - (intOf i).toNat)
    case atStart => exact ⟨0, Nat.zero_le _, rfl, rfl, 0, rfl⟩
    case round =>
      obtain ⟨k, hk, rfl, htk, n0, rfl⟩ := hrel
      have Htk := Lib.hid htk
      clear htk
      by_cases hlt : k < xs.length
      · have hlt' : (k : Int) < (xs.length : Int) := by omega
        have hlt2 : (k : Int) < (ys.length : Int) := by have := Hl.out; omega
        have hky : k < ys.length := by have := Hl.out; omega
        obtain ⟨b1, o1, hA1, hE1⟩ := H1.out.at k hlt
        obtain ⟨b2, o2, hA2, hE2⟩ := H2.out.at k hky
        subst hA1 hA2
        have hkz : (0 : Int) ≤ (k : Int) := by omega
        have Hst := Lib.hid (fun h => take_eqL (xs := xs) (ys := ys) k hlt hky Htk.out h)
        have Hbad := Lib.hid (fun h => ne_ofL (xs := xs) (ys := ys) k hlt hky h)
        generalize xs[k] = x at *
        generalize ys[k] = y at *
        obtain ⟨a, b, f, t⟩ := x
        obtain ⟨a2, b2', f2, t2⟩ := y
        obtain ⟨_, p0, p1, p2, p3⟩ := hE1
        obtain ⟨_, q0, q1, q2, q3⟩ := hE2
        dsimp only at p0 p1 p2 p3 q0 q1 q2 q3
        by_cases he : (⟨a, b, f, t⟩ : Ln) = ⟨a2, b2', f2, t2⟩
        · have Hs2 := Lib.hid (Hst.out he)
          injection he with e1 e2 e3 e4
          subst e1 e2 e3 e4
          clear Hst Hbad
          go_wp2_with fail
          go_quiet (fail)
          go_wp2_with fail
          go_roundw
          case rel => exact ⟨k + 1, by omega, by go_num, Hs2.out, _, rfl⟩
          case measure => simp [intOf]; omega
        · have Hb2 := Lib.hid (Hbad.out he)
          clear Hst Hbad
          by_cases h1 : a = a2
          · subst h1
            by_cases h2 : b = b2'
            · subst h2
              by_cases h3 : f = f2
              · subst h3
                have h4 : (t == t2) = false := beq_eq_false_iff_ne.2 fun h => he (by rw [h])
                go_wp2_with fail
                go_quiet (fail)
                go_wp2_with fail
                go_ret
                exact ⟨by rw [Hb2.out]; rfl, _, World.drewN_drewN _ _ _⟩
              · have h4 : (f == f2) = false := beq_eq_false_iff_ne.2 h3
                go_wp2_with fail
                go_quiet (fail)
                go_wp2_with fail
                go_ret
                exact ⟨by rw [Hb2.out]; rfl, _, World.drewN_drewN _ _ _⟩
            · have h4 : (b.toList == b2'.toList) = false := beq_eq_false_iff_ne.2 fun h => h2 (ba_inj h)
              go_wp2_with fail
              go_quiet (fail)
              go_wp2_with fail
              go_ret
              exact ⟨by rw [Hb2.out]; rfl, _, World.drewN_drewN _ _ _⟩
          · have h4 : (a.toList == a2.toList) = false := beq_eq_false_iff_ne.2 fun h => h1 (ba_inj h)
            go_wp2_with fail
            go_quiet (fail)
            go_wp2_with fail
            go_ret
            exact ⟨by rw [Hb2.out]; rfl, _, World.drewN_drewN _ _ _⟩
      · have hkk : k = xs.length := by omega
        subst hkk
        have hlt' : (xs.length : Int) ≤ (xs.length : Int) := Int.le_refl _
        have he : xs = ys := by
          have h := Htk.out
          have h3 := Hl.out
          rw [List.take_length, h3, List.take_length] at h
          exact h
        have He := Lib.hid (decide_eq_true he)
        clear he
        go_wp2_with fail
        go_ret
        exact ⟨by rw [He.out]; rfl, n0, rfl⟩
  · have hl' : ((xs.length : Int) == (ys.length : Int)) = false := by rw [beq_eq_false_iff_ne]; omega
    have hl2 : ((xs.length : Int) != (ys.length : Int)) = true := by simp [bne, hl']
    have He := Lib.hid (show decide (xs = ys) = false from decide_eq_false (fun h => hl (by rw [h])))
    clear hl
    go_enter Tryd.func23, Tryd.ntmps23
    go_wp2_with fail
    go_ret
    exact ⟨by rw [He.out]; rfl, 0, rfl⟩
end Go.Proofs.YtmheijnckmlbnaaDoor
