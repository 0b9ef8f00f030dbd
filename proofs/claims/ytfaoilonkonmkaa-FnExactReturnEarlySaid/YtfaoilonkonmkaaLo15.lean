/- Loans, part 15 (printed by genlo15.py): the law FnExactAddLoan. -/
import Derived.Test.YtfaoilonkonmkaaLo14
import Derived.Test.YtfaoilonkonmkaaSi6
namespace Go.Proofs.Ytfaoilonkonmkaa
open Go.ChangeShapes Go.WideShapes Go.ChangeAt Go.RowKit
open Go.Joins

theorem own_MK {B0 hi base n size : Nat} {w wr : World} {e : TypeId} {v : Value} {zs : List Value} (h : w.ownsRow base e size v n zs) (hm : MK B0 hi w wr) (hb : hi ≤ base) : wr.ownsRow base e size v n zs := by
  refine ⟨h.1, ?_⟩
  rcases h.2 with hn | ⟨g, cap, cur, rfl, hbg, hgg, rest⟩
  · exact .inl hn
  · exact .inr ⟨g, cap, cur, rfl, hbg, (hm.2 g (Nat.le_trans hb hbg) (Array.getElem?_eq_some_iff.1 hgg).1).trans hgg, rest⟩
set_option maxRecDepth 100000 in
theorem rd_loan {H : Type} {enc : TypeId × Value → H} {W : World} {base : Nat} {r : Reach} {v : Value} {d : DataW H} {p : List MemPlace} (ok : Value.okWide Try.prog W r base 56 v) (h : DataW.Trod enc Try.prog W 0 (fun _ => true) true 56 v d p) :
    ∃ x : Ln, v = aggL x ∧ lenL x := by
  obtain ⟨cs, rfl, hsz⟩ := okWide_struct Try.underlying56 ok
  obtain ⟨fuel, hf⟩ := h
  obtain ⟨x, hx, hg⟩ := elem_loan _ _ _ hf
  refine ⟨x, ?_, hg⟩
  obtain ⟨l⟩ := cs
  have : l = cellsL x := hx
  subst this
  rfl
theorem toLoanS_b (B : Nat) (v : Value) (xs : List Ln) (w : World) (h : RdL w B v xs) (hB : B ≤ w.heap.size) (hl : xs.length ≤ 1048576) :
    Calls Try.prog 41 #[v] w fun e w' => ∃ b, e = .returned (.slice (some ⟨b, 0, none⟩) xs.length xs.length) ∧ RdL w' w'.heap.size (.slice (some ⟨b, 0, none⟩) xs.length xs.length) xs ∧ Below w.heap.size w w' := by
  refine (toLoanS_any B v xs w h hB hl).mono ?_
  rintro e w' ⟨rfl, ho, hb⟩
  exact ⟨_, rfl, Rd.of_own ho, hb⟩

set_option maxRecDepth 100000 in
set_option maxHeartbeats 3200000 in
theorem walkFnExactAddLoan {W : World} (v1 : Value) (xs : List Ln) (h1 : RdL W W.heap.size v1 xs) (m1 : xs.length ≤ maxLen ∧ ∀ x ∈ xs, lenL x) (x : Ln) (mx : lenL x) :
    Calls Try.prog 9 #[v1, aggL x] W fun e w' => e = .returned (.bool true) ∧ Below W.heap.size W w' := by
  have Hx1 := Lib.hid (fun l wx q0 q1 => szLoan_any x l wx mx q0 q1)
  have HT2 := Lib.hid (fun wx => toLoan_any x wx)
  have HC1 := Lib.hid (fun (s1 : xs.length ≤ 1048576) (hsm : ∀ x ∈ xs, smL x) (hsx : smL x) wx b hx => AddS_any wx.heap.size b 0 xs.length xs x wx hx (Nat.le_refl _) s1 hsm hsx (Nat.le_refl _) (by simp only [maxLen]; omega))
  have HC2 := Lib.hid (fun (s1 : xs.length ≤ 1048576) (hsm : ∀ x ∈ xs, smL x) (hsx : smL x) wx b hx => AddI_any wx.heap.size b 0 xs.length xs x wx hx (Nat.le_refl _) s1 hsm hsx (Nat.le_refl _) (by simp only [maxLen]; omega))
  have hlenR : xs.length ≤ 1048576 → (addR xs x).length ≤ 1048577 := by
    intro h
    have := addAt_le xs x
    unfold addR
    split
    · simp; omega
    · simp
  unfold RetLn OwnL at HC1 HC2
  generalize addR xs x = L at *
  generalize addC xs x = C at *
  generalize hn : L.length = n at *
  have Hn := Lib.hid hn; clear hn
  clear mx
  obtain ⟨xa, xb, xf, xt⟩ := x
  dsimp only [aggL] at *
  have hb0 := Lib.hid ((Below.refl W.heap.size W).alloc (Nat.le_refl _) (.cells #[.string xa, .string xb, .int .i64 xf, .int .i64 xt] 56))
  have Hnw := Lib.hid (heap_alloc_new W (.cells #[.string xa, .string xb, .int .i64 xf, .int .i64 xt] 56))
  have hlw : W.heap.size < (W.alloc (.cells #[.string xa, .string xb, .int .i64 xf, .int .i64 xt] 56)).heap.size := by simp
  have hzB : W.heap.size ≤ (W.alloc (.cells #[.string xa, .string xb, .int .i64 xf, .int .i64 xt] 56)).heap.size := Nat.le_of_lt hlw
  have HS1 := Lib.hid (szLoanS_any W.heap.size v1 xs 1048576 (W.alloc (.cells #[.string xa, .string xb, .int .i64 xf, .int .i64 xt] 56)) (h1.below hb0.out) hb0.out.size m1.1 m1.2 (by omega) (by omega))
  have HT1 := Lib.hid (fun wx hx hz hl => toLoanS_b W.heap.size v1 xs wx hx hz hl)
  have HU1 := Lib.hid (fun wx hx hz hl => toLoanS_any W.heap.size v1 xs wx hx hz hl)
  have HL := Lib.hid (h1.below hb0.out)
  obtain ⟨A1, c1, rfl⟩ := h1.slice
  clear h1 m1
  go_enter Try.func9, Try.ntmps9
  go_wp2_with fail
  generalize W.alloc (.cells #[.string xa, .string xb, .int .i64 xf, .int .i64 xt] 56) = wn at *
  refine HS1.out.mono ?_; rintro e w1 ⟨r, rfl, hr1, hr2, hacc⟩
  have Hr2 := Lib.hid hr2; clear hr2
  by_cases n1 : r < 0
  · go_wp2_with fail
    go_ret
    exact ⟨rfl, hb0.out.trans (hacc.mono hb0.out.size)⟩
  have s1 := (Hr2.out (by omega)).1
  have Hsm := Lib.hid (Hr2.out (by omega)).2
  obtain ⟨d0, d1, d2, d3⟩ := four_at ((hacc.block _ hlw).trans Hnw.out)
  clear Hr2 HS1
  go_wp2_with fail
  refine (Hx1.out r w1 (by omega) (by omega)).mono ?_; rintro e w2 ⟨r2, rfl, hr2, hsx, hb2⟩
  have hacc' := hacc.trans (hb2.mono hacc.size); clear hacc; have hacc := hacc'; clear hacc'
  have Hsx := Lib.hid hsx; clear hsx hb2
  by_cases n2 : r2 < 0
  · clear d0 d1 d2 d3
    go_wp2_with fail
    go_ret
    exact ⟨rfl, hb0.out.trans (hacc.mono hb0.out.size)⟩
  have HD1 := Lib.hid (HC1.out s1 Hsm.out (Hsx.out (by omega)))
  have HD2 := Lib.hid (HC2.out s1 Hsm.out (Hsx.out (by omega)))
  have hlen := hlenR s1
  clear HC1 HC2 Hsx Hsm hlenR d0 d1 d2 d3
  obtain ⟨d0, d1, d2, d3⟩ := four_at ((hacc.block _ hlw).trans Hnw.out)
  go_wp2_with fail
  have hacc' := hacc.drew; clear hacc; have hacc := hacc'; clear hacc'
  go_region_held3 (fun w' => w'.cell? ⟨W.heap.size, 0, none⟩ = some (.string xa) ∧ w'.cell? ⟨W.heap.size, 1, none⟩ = some (.string xb) ∧ w'.cell? ⟨W.heap.size, 2, none⟩ = some (.int .i64 xf) ∧ w'.cell? ⟨W.heap.size, 3, none⟩ = some (.int .i64 xt))
    (first | go_keep | assumption)
    (((first
      | (go_at_call 41; ((with_reducible refine (HT1.out _ (HL.out.below (hacc.mono hzB)) (Nat.le_trans hzB hacc.size) s1).mono ?_)); rintro e wq ⟨b3, rfl, he3, hbq⟩)
      | (go_at_call 42; ((with_reducible refine (HT2.out _).mono ?_)); rintro e wq ⟨rfl, hbq⟩; try (have he3' := he3.next hbq; clear he3; have he3 := he3'; clear he3'))
      | (go_at_call 40; ((with_reducible refine (HD1.out _ _ he3).mono ?_)); rintro e wq ⟨v5, rfl, ho5, hbq⟩; obtain ⟨_, A5, c5, rfl, _⟩ := Rd.of_own ho5));
      have hSq := four_kept hbq (by assumption); have hacc' := hacc.trans (hbq.mono hacc.size); clear hacc; have hacc := hacc'; clear hacc'))
  clear hSq he3 hbq
  have R5 := Lib.hid (Rd.of_own ho5)
  clear ho5
  generalize wq = w5 at *
  have hb05 := Lib.hid hacc
  go_wp2_with fail
  refine (HU1.out _ (HL.out.below (hacc.mono hzB)) (Nat.le_trans hzB hacc.size) s1).mono ?_; rintro e w6 ⟨rfl, ho6, hb6⟩
  have hacc' := hacc.trans (hb6.mono hacc.size); clear hacc; have hacc := hacc'; clear hacc'
  have B6 := Lib.hid hb6
  have hz6 := hb6.size
  have Ho6 := Lib.hid ho6
  have hlt6 := (ho6.lt _ rfl).2
  clear ho6 hb6
  obtain ⟨d0, d1, d2, d3⟩ := four_at ((hacc.block _ hlw).trans Hnw.out)
  clear hacc
  go_wp2_with fail
  refine (HT2.out _).mono ?_; rintro e w7 ⟨rfl, hb7⟩
  have E7 := Lib.hid (show RdL w7 w7.heap.size (.slice (some ⟨w5.heap.size, 0, none⟩) xs.length xs.length) xs from RdL.next (Rd.of_own Ho6.out) hb7)
  have B67 := Lib.hid hb7
  have hz7 := hb7.size
  clear hb7 d0 d1 d2 d3
  go_wp2_with fail
  refine (HD2.out _ _ E7.out).mono ?_; rintro e w8 ⟨v8, rfl, ho8, hb8⟩
  have B68 := Lib.hid (B67.out.trans (hb8.mono hz7))
  have Ho8 := Lib.hid (ownsRow_le ho8 hz7)
  obtain ⟨_, A8, c8, rfl, _⟩ := Rd.of_own ho8
  clear ho8 hb8 E7 B67
  have HE := Lib.hid (eqLoanS_same _ _ (.slice A8 n c8) (.slice A5 n c5) L w8 (by unfold RdL; rw [Hn.out]; exact Rd.of_own Ho8.out) (by unfold RdL; rw [Hn.out]; exact R5.out.below (B6.out.trans (B68.out.mono hz6))) (Nat.le_refl _) (Nat.le_trans hz6 B68.out.size) (by rw [Hn.out]; omega))
  go_wp2_with fail
  refine HE.out.mono ?_; rintro e w9 ⟨rfl, hb9⟩
  have B69 := Lib.hid (B68.out.trans (hb9.mono B68.out.size))
  have Ho9 := Lib.hid (own_below Ho8.out hb9)
  have hacc := hb05.out.trans ((B6.out.trans (B69.out.mono hz6)).mono hb05.out.size)
  clear HE hb9 B68 Ho8
  go_wp2_with fail
  refine (HT1.out _ (HL.out.below (hacc.mono hzB)) (Nat.le_trans hzB hacc.size) s1).mono ?_; rintro e w10 ⟨b10, rfl, he10, hb10⟩
  have B610 := Lib.hid (B69.out.trans (hb10.mono B69.out.size))
  have Ho10 := Lib.hid (own_below Ho9.out hb10)
  have HE := Lib.hid (eqLoanS_same _ _ _ _ xs w10 (RdL.below (Rd.of_own Ho6.out) B610.out) he10 B610.out.size (Nat.le_refl _) (by omega))
  clear hacc he10 hb10 B69 Ho9
  go_wp2_with fail
  refine HE.out.mono ?_; rintro e w11 ⟨rfl, hb11⟩
  have B611 := Lib.hid (B610.out.trans (hb11.mono B610.out.size))
  have Ho11 := Lib.hid (own_below Ho10.out hb11)
  clear HE hb11 B610 Ho10
  go_wp2_with fail
  refine (markLoanS_any _ _ 1 xs.length _ w11 (own_below Ho6.out B611.out) (by omega) (by omega)).mono ?_; rintro e w12 ⟨rfl, hg12, ho12⟩
  have hm12 : MK w5.heap.size w6.heap.size w11 w12 := (MK.refl _ _ _).step hg12 (fun g e => by cases e; exact ⟨Nat.le_refl _, hlt6⟩) (Nat.le_trans hz6 B611.out.size)
  have B512 := Lib.hid ((B6.out.trans (B611.out.mono hz6)).trans hm12.1)
  have Ho12 := Lib.hid (own_MK Ho11.out hm12 (Nat.le_refl _))
  have hz12 : w6.heap.size ≤ w12.heap.size := Nat.le_trans B611.out.size hm12.1.size
  clear hm12 hg12 ho12 Ho11 B611 B6 Ho6
  have HE := Lib.hid (eqLoanS_same _ _ (.slice A8 n c8) (.slice A5 n c5) L w12 (by unfold RdL; rw [Hn.out]; exact Rd.of_own Ho12.out) (by unfold RdL; rw [Hn.out]; exact R5.out.below B512.out) (Nat.le_refl _) B512.out.size (by rw [Hn.out]; omega))
  have hk1 : ¬ ((1 : Int) + 4 * (xs.length : Int) < 0) := by omega
  go_wp2_with fail
  refine HE.out.mono ?_; rintro e w13 ⟨rfl, hb13⟩
  have B513 := Lib.hid (B512.out.trans (hb13.mono B512.out.size))
  have Ho13 := Lib.hid (own_below Ho12.out hb13)
  clear HE hb13 B512 Ho12
  go_wp2_with fail
  refine (markLoanS_any _ _ 1 n _ w13 Ho13.out (by omega) (by omega)).mono ?_; rintro e w14 ⟨rfl, hg14, ho14⟩
  have B514 := Lib.hid (B513.out.grown hg14 B513.out.size (fun k hk => Nat.le_trans hz6 ((Ho13.out.lt k hk).1)))
  have Ho14 := Lib.hid ho14
  clear hg14 ho14 B513 Ho13
  have HE := Lib.hid (heldLoanS_any _ (.slice A8 n c8) 1 n w14 (by unfold RdL; rw [marksL_len]; exact Rd.of_own Ho14.out) (Nat.le_refl _) (by omega) (by omega))
  have hk2 : ¬ ((1 : Int) + 4 * (n : Int) < 0) := by omega
  go_wp2_with fail
  refine HE.out.mono ?_; rintro e w15 ⟨rfl, hb15⟩
  have B515 := Lib.hid (B514.out.trans (hb15.mono B514.out.size))
  have Ho15 := Lib.hid (own_below Ho14.out hb15)
  have hacc : Below wn.heap.size wn w15.drew := (hb05.out.trans (B515.out.mono hb05.out.size)).drew
  obtain ⟨d0, d1, d2, d3⟩ := four_at ((hacc.block _ hlw).trans Hnw.out)
  have hacw : Below w15.heap.size w15 w15.drew := (Below.refl _ _).drew
  clear HE hb15 B514 Ho14
  go_wp2_with fail
  go_region_held3 (fun w' => w'.cell? ⟨W.heap.size, 0, none⟩ = some (.string xa) ∧ w'.cell? ⟨W.heap.size, 1, none⟩ = some (.string xb) ∧ w'.cell? ⟨W.heap.size, 2, none⟩ = some (.int .i64 xf) ∧ w'.cell? ⟨W.heap.size, 3, none⟩ = some (.int .i64 xt))
    (first | go_keep | assumption)
    (((first
      | (go_at_call 41; ((with_reducible refine (HT1.out _ (HL.out.below (hacc.mono hzB)) (Nat.le_trans hzB hacc.size) s1).mono ?_)); rintro e wq ⟨b3, rfl, he3, hbq⟩)
      | (go_at_call 42; ((with_reducible refine (HT2.out _).mono ?_)); rintro e wq ⟨rfl, hbq⟩; try (have he3' := he3.next hbq; clear he3; have he3 := he3'; clear he3'))
      | (go_at_call 43; ((with_reducible refine (HD2.out _ _ he3).mono ?_)); rintro e wq ⟨v16, rfl, ho5, hbq⟩; obtain ⟨_, A16, c16, rfl, _⟩ := Rd.of_own ho5));
      have hSq := four_kept hbq (by assumption); have hacc' := hacc.trans (hbq.mono hacc.size); clear hacc; have hacc := hacc'; clear hacc'; have hacw' := hacw.trans (hbq.mono hacw.size); clear hacw; have hacw := hacw'; clear hacw'))
  clear hSq he3 hbq
  have B516 := Lib.hid (B515.out.trans (hacw.mono B515.out.size))
  have Ho16 := Lib.hid (own_below Ho15.out hacw)
  have HE := Lib.hid (eqLoanS_same _ _ _ _ L wq (by unfold RdL; rw [Hn.out]; exact Rd.of_own ho5) (by unfold RdL; rw [Hn.out]; exact R5.out.below B516.out) (Nat.le_refl _) B516.out.size (by rw [Hn.out]; omega))
  clear ho5 hacc hacw B515 Ho15
  go_wp2_with fail
  refine HE.out.mono ?_; rintro e w17 ⟨rfl, hb17⟩
  have B517 := Lib.hid (B516.out.trans (hb17.mono B516.out.size))
  have Ho17 := Lib.hid (own_below Ho16.out hb17)
  clear HE hb17 B516 Ho16
  have HE := Lib.hid (heldLoanS_any _ (.slice A8 n c8) 1 n w17 (by unfold RdL; rw [marksL_len]; exact Rd.of_own Ho17.out) (Nat.le_refl _) (by omega) (by omega))
  go_wp2_with fail
  refine HE.out.mono ?_; rintro e w18 ⟨rfl, hb18⟩
  have B518 := B517.out.trans (hb18.mono B517.out.size)
  have hfin := Lib.hid (hb0.out.trans ((hb05.out.trans (B518.mono hb05.out.size)).mono hb0.out.size))
  clear HE
  go_wp2_with fail
  go_ret
  exact ⟨rfl, hfin.out⟩
end Go.Proofs.Ytfaoilonkonmkaa
