/- Merged texts: Dl5, Lq5, Dl7. -/
import Derived.Test.YtmheijnckmlbnaaDoorGCardLoans7
import Derived.Test.YtmheijnckmlbnaaDoorGCardLoans1
import Derived.Test.YtmheijnckmlbnaaDoorGCardLoans6
/- Loans: DrawSameLoans, DrawAddLoan. -/
namespace Go.Proofs.YtmheijnckmlbnaaDoor
open Go.RowKit Go.Joins

theorem own_sl_of3 {w : World} {base n size : Nat} {e : TypeId} {v : Value} {cs : List Value} (h : w.ownsRow base e size v n cs) : ∃ A c, v = .slice A n c := by
  obtain ⟨_, A, c, hv, _⟩ := Rd.of_own h
  exact ⟨A, c, hv⟩
theorem own_cells0L {w : World} {base b n c sz : Nat} {e : TypeId} {cs : List Value} (h : w.ownsRow base e sz (.slice (some ⟨b, 0, none⟩) n c) n cs) : ∀ (i : Nat) (u : Value), cs[i]? = some u → w.cell? ⟨b, 0 + i, none⟩ = some u := fun i u hu => by
  have hc := h.cells (g := b) rfl i u hu
  have e0 : (⟨b, 0, none⟩ : Addr).add i = ⟨b, 0 + i, none⟩ := by unfold Addr.add; split <;> simp_all
  rwa [e0] at hc
structure DrN (W w : World) (B g k : Nat) (bs : List UInt8) (v : Value) (xs : List Ln) : Prop where
  dr : DrR W w B g k bs 26 4 v xs.length (xs.flatMap cellsL)
  len : xs.length ≤ 62
  sm : ∀ x ∈ xs, smX x
theorem DrM.n {W w : World} {B g k : Nat} {bs : List UInt8} {v : Value} {xs : List Ln} (h : DrM W w B g k bs v xs) : DrN W w B g k bs v xs := ⟨h.dr, h.len, h.sm⟩
theorem DrN.draw {W w w' : World} {B g k k' : Nat} {bs : List UInt8} {v : Value} {xs : List Ln} (h : DrN W w B g k bs v xs) (hs : SrcAt w' B g k' bs) (hg : w.grownBy w' (some g)) : DrN W w' B g k' bs v xs := ⟨h.dr.draw hs hg, h.len, h.sm⟩
theorem DrN.snocZ {W w w' : World} {B g k : Nat} {bs : List UInt8} {v v' : Value} {xs : List Ln} (h : DrN W w B g k bs v xs) (hr : w'.ownsRow W.heap.size 26 4 v' (xs.length + 1) (xs.flatMap cellsL ++ (#[Value.string ⟨#[]⟩, .string ⟨#[]⟩, .int .i64 0, .int .i64 0] : Array Value).toList)) (hg : w.grownBy w' v.ownBlock) :
    ∃ (zs : List Ln), zs.length = xs.length + 1 ∧ DrR W w' B g k bs 26 4 v' zs.length (zs.flatMap cellsL) := by
  have e : xs.flatMap cellsL ++ (#[Value.string ⟨#[]⟩, .string ⟨#[]⟩, .int .i64 0, .int .i64 0] : Array Value).toList = (xs ++ [noLn]).flatMap cellsL := by
    rw [List.flatMap_append]; simp [cellsL, noLn]
  rw [e] at hr
  have hlen : (xs ++ [noLn]).length = xs.length + 1 := by simp
  exact ⟨_, hlen, h.dr.app (by rw [hlen]; exact hr) hg⟩
def SameLr (w : World) (e : Ending) (w' : World) : Prop := ∃ (v1 v2 : Value) (l1 l2 : List Ln), e = .returned (.tuple #[v1, v2]) ∧ OwnL w' w.heap.size v1 l1 ∧ OwnL w' w.heap.size v2 l2 ∧ l1.length ≤ 70 ∧ l2.length ≤ 70 ∧ Below w.heap.size w w'
theorem SameLr.of2 {w w1 w2 w' : World} {B k k' : Nat} {bs : List UInt8} {v1 v2 : Value} {l1 l2 : List Ln} (ha : DrM w1 w2 B w.heap.size k bs v1 l1) (hb : DrR w2 w' B w.heap.size k' bs 26 4 v2 l2.length (l2.flatMap cellsL)) (h1 : Below w.heap.size w w1) (hL : l2.length ≤ 70) :
    SameLr w (.returned (.tuple #[v1, v2])) w' := by
  have hk := ha.dr.draw hb.src hb.gr
  exact ⟨v1, v2, l1, l2, rfl, ownsRow_le hk.row h1.size, ownsRow_le hb.row (Nat.le_trans h1.size ha.dr.gr.size), by have := ha.len; omega, hL, below_srcL h1 (grown_trans ha.dr.gr hb.gr) (Nat.le_refl _)⟩
theorem SameLr.of {w w1 w2 w' : World} {B k k' : Nat} {bs : List UInt8} {v1 v2 : Value} {l1 l2 : List Ln} (ha : DrM w1 w2 B w.heap.size k bs v1 l1) (hb : DrN w2 w' B w.heap.size k' bs v2 l2) (h1 : Below w.heap.size w w1) :
    SameLr w (.returned (.tuple #[v1, v2])) w' := SameLr.of2 ha hb.dr h1 (by have := hb.len; omega)

set_option maxRecDepth 100000 in
set_option maxHeartbeats 3200000 in
theorem drawSL_any (B : Nat) (cv : Value) (bs : List UInt8) (w : World) (h : Rd w B cv bs.length 1 (bs.map byV)) (hB : B ≤ w.heap.size) : Calls Tryd.prog 22 #[cv] w (SameLr w) := by
  have HF := Lib.hid (l00From_any B cv bs w h hB)
  obtain ⟨_, A, c, rfl, _⟩ := h
  go_enter Tryd.func22, Tryd.ntmps22
  go_wp2_with fail
  refine HF.out.mono ?_; rintro e w1 ⟨rfl, hs1, hb1, hl1⟩
  have Hs1 := Lib.hid hs1
  have Hb1 := Lib.hid hb1
  clear hs1 hb1 HF
  go_wp2_with fail
  refine (l23Draw_any B _ 0 bs _ Hs1.out (by omega)).mono ?_; rintro e w2 ⟨v2, xs, rfl, hd2, _⟩
  obtain ⟨b2, c2, rfl⟩ := hd2.nn
  have HA := Lib.hid hd2.toDrM
  have Hbd := Lib.hid hd2.bd
  have hll := hd2.len
  have Hsm := Lib.hid hd2.sm
  have Hc2 := Lib.hid (own_cells0L hd2.dr.row)
  have HM := Lib.hid (DrR.made hd2.dr.src 26 4)
  have Hlt2 := Lib.hid (hd2.dr.row.lt b2 rfl)
  have Hfl := Lib.hid (show (xs.flatMap cellsL).length = xs.length * 4 from flat_len cellsL 4 (fun _ => rfl) xs)
  clear hd2 Hs1
  have Hcc := Lib.hid (fun (i : Nat) (u : Value) (hu : (xs.flatMap cellsL)[i]? = some u) => (((Below.refl w2.heap.size w2).alloc (Nat.le_refl _) (.cells #[] 26)).cell (p := ⟨b2, 0 + i, none⟩) Hlt2.out.2).trans (Hc2.out i u hu))
  by_cases hl0 : xs.length = 0
  · have h00 : ¬ (0 : Int) < (xs.length : Int) := by omega
    have Hl0 := Lib.hid hl0; clear hl0
    go_wp2_with (at_builtin; refine wpList_apr 24 26 _ 4 48 Tryd.underlying24 infoL rfl (by omega) _ _ rfl rfl w2.heap.size _ 0 _ rfl HM.out.row b2 0 xs.length c2 (xs.flatMap cellsL) rfl Hfl.out Hcc.out (cellsL_one _) (by simp [maxLen]; omega) (by omega) HM.out.size ?_; intro v3 w3 hown3 hg3; rw [Nat.zero_add, List.nil_append] at hown3; have HD3 := Lib.hid (show DrN w2 w3 B w.heap.size _ bs v3 xs from ⟨HM.out.app hown3 hg3, hll, Hsm.out⟩); have Hown3 := Lib.hid hown3; obtain ⟨A3, c3, rfl⟩ := own_sl_of3 hown3; clear hown3 hg3 HM)
    clear Hown3
    go_wp2_with fail
    refine (one_any B _ _ bs 5 _ HD3.out.dr.src (by omega)).mono ?_; rintro e w8 ⟨y8, rfl, hs8, hg8⟩
    have HD8 := Lib.hid (DrN.draw HD3.out hs8 hg8)
    clear hs8 hg8 HD3
    cases y8 with
    | false =>
      go_wp2_with fail
      go_ret2
      have hfin := SameLr.of HA.out HD8.out Hb1.out
      exact hfin
    | true =>
      have hll8 := HD8.out.len
      have Hon := Lib.hid (ones4 ⟨#[]⟩ ⟨#[]⟩ 0 0)
      go_wp2_with (at_builtin; refine wpList_apd 24 26 _ 4 48 Tryd.underlying24 infoL rfl (by omega) _ _ rfl rfl w2.heap.size _ _ _ rfl HD8.out.dr.row #[.string ⟨#[]⟩, .string ⟨#[]⟩, .int .i64 0, .int .i64 0] 1 1 rfl rfl Hon.out (by simp [maxLen]; omega) (by omega) HD8.out.dr.size ?_; intro v9 w9 hown9 hg9; have HD9 := Lib.hid (HD8.out.snocZ hown9 hg9); obtain ⟨A9, c9, rfl⟩ := own_sl_of3 hown9; clear hown9 hg9)
      go_ret2
      obtain ⟨l9, hl9, hfin⟩ := HD9.out
      have hfin2 := SameLr.of2 HA.out hfin Hb1.out (by omega)
      exact hfin2
  · have h00 : (0 : Int) < (xs.length : Int) := by omega
    go_wp2_with (at_builtin; refine wpList_apr 24 26 _ 4 48 Tryd.underlying24 infoL rfl (by omega) _ _ rfl rfl w2.heap.size _ 0 _ rfl HM.out.row b2 0 xs.length c2 (xs.flatMap cellsL) rfl Hfl.out Hcc.out (cellsL_one _) (by simp [maxLen]; omega) (by omega) HM.out.size ?_; intro v3 w3 hown3 hg3; rw [Nat.zero_add, List.nil_append] at hown3; have HD3 := Lib.hid (show DrN w2 w3 B w.heap.size _ bs v3 xs from ⟨HM.out.app hown3 hg3, hll, Hsm.out⟩); have Hown3 := Lib.hid hown3; obtain ⟨A3, c3, rfl⟩ := own_sl_of3 hown3; clear hown3 hg3 HM)
    obtain ⟨b3, c3', hv, _⟩ := own_posC Hown3.out (by omega)
    injection hv with hv1 _ hv2
    subst hv1 hv2
    refine (one_any B _ _ bs 2 _ HD3.out.dr.src (by omega)).mono ?_; rintro e w4 ⟨y4, rfl, hs4, hg4⟩
    have HN3 := Lib.hid (show DrM w2 w3 B w.heap.size _ bs _ xs from ⟨HD3.out.dr, HD3.out.len, HD3.out.sm, ⟨b3, _, rfl⟩⟩)
    have HD4 := Lib.hid (DrM.draw HN3.out hs4 hg4)
    clear hs4 hg4 HD3 Hown3 HN3
    cases y4 with
    | false =>
      have HD4n := Lib.hid (DrM.n HD4.out); clear HD4
      go_wp2_with fail
      refine (one_any B _ _ bs 5 _ HD4n.out.dr.src (by omega)).mono ?_; rintro e w8 ⟨y8, rfl, hs8, hg8⟩
      have HD8 := Lib.hid (DrN.draw HD4n.out hs8 hg8)
      clear hs8 hg8 HD4n
      cases y8 with
      | false =>
        go_wp2_with fail
        go_ret2
        have hfin := SameLr.of HA.out HD8.out Hb1.out
        exact hfin
      | true =>
        have hll8 := HD8.out.len
        have Hon := Lib.hid (ones4 ⟨#[]⟩ ⟨#[]⟩ 0 0)
        go_wp2_with (at_builtin; refine wpList_apd 24 26 _ 4 48 Tryd.underlying24 infoL rfl (by omega) _ _ rfl rfl w2.heap.size _ _ _ rfl HD8.out.dr.row #[.string ⟨#[]⟩, .string ⟨#[]⟩, .int .i64 0, .int .i64 0] 1 1 rfl rfl Hon.out (by simp [maxLen]; omega) (by omega) HD8.out.dr.size ?_; intro v9 w9 hown9 hg9; have HD9 := Lib.hid (HD8.out.snocZ hown9 hg9); obtain ⟨A9, c9, rfl⟩ := own_sl_of3 hown9; clear hown9 hg9)
        go_ret2
        obtain ⟨l9, hl9, hfin⟩ := HD9.out
        have hfin2 := SameLr.of2 HA.out hfin Hb1.out (by omega)
        exact hfin2
    | true =>
      obtain ⟨_, _, _, p3, _, _, _, q3⟩ := HD4.out.cellsAt 0 (by omega)
      obtain ⟨ht0, ht1⟩ := Hbd.out xs[0] (List.getElem_mem (by omega))
      have Hput := Lib.hid (fun z k' w' (hs : SrcAt w' B w.heap.size k' bs) (hg : w4.grownBy w' (some w.heap.size)) => (DrM.draw HD4.out hs hg).putT 0 (by omega) z)
      have HP := Lib.hid (pick_any B w.heap.size _ bs 2 w4.drew (SrcAt.drew HD4.out.dr.src) (by omega))
      have hbg : b3 ≠ w.heap.size := by have := (HD4.out.dr.row.lt b3 rfl).1; have := HD4.out.dr.lt; omega
      have hblt := (HD4.out.dr.row.lt b3 rfl).2
      generalize xs[0].till = T at *
      rw [Nat.zero_mul, Nat.zero_add] at p3 q3
      go_wp2_with fail
      refine wp_region_noPanic ?_
      refine wp_region_L [9] (fun w' => w'.cell? ⟨b3, 3, none⟩ = some (.int .i64 T)) (by kernel_rfl) (p3) (fun hHeld => ?_)
      refine take_F (i := 0) (d := some 21) (v := ?_) (by kernel_rfl) (by kernel_rfl) rfl rfl (by kernel_rfl) (by kernel_rfl) (by kernel_rfl) (fun _ _ _ h => h) (Or.inl ⟨by rfl, ?_⟩) (by assumption) ?_
      rotate_left
      · (intro w hSw; (try dsimp only at hSw); go_simp; (try rw [if_neg (by omega)]); (try (with_reducible rfl)))
      simp only [Act.put, List.setIfInBounds_toArray, List.set_cons_zero, List.set_cons_succ]
      refine take_F (i := 1) (d := some 22) (v := ?_) (by kernel_rfl) (by kernel_rfl) rfl rfl (by kernel_rfl) (by kernel_rfl) (by kernel_rfl) (fun _ _ _ h => h) (Or.inl ⟨by rfl, ?_⟩) (by assumption) ?_
      rotate_left
      · (intro w hSw; (try dsimp only at hSw); go_simp; (try rw [if_neg (by omega)]); (try (with_reducible rfl)))
      simp only [Act.put, List.setIfInBounds_toArray, List.set_cons_zero, List.set_cons_succ]
      refine take_F (i := 2) (d := some 23) (v := ?_) (by kernel_rfl) (by kernel_rfl) rfl rfl (by kernel_rfl) (by kernel_rfl) (by kernel_rfl) (fun _ _ _ h => h) (Or.inl ⟨by rfl, ?_⟩) (by assumption) ?_
      rotate_left
      · (intro w hSw; (try dsimp only at hSw); go_simp; (try rw [if_neg (by omega)]); (try (with_reducible rfl)))
      simp only [Act.put, List.setIfInBounds_toArray, List.set_cons_zero, List.set_cons_succ]
      refine take_L [3] (i := 3) (d := some 24) (v := ?_) (by kernel_rfl) (by kernel_rfl) (by kernel_rfl) (by kernel_rfl) rfl rfl (by kernel_rfl) (by kernel_rfl) (by kernel_rfl) (fun _ _ _ h => h) (Or.inl ⟨by rfl, ?_⟩) (by assumption) ?_
      rotate_left
      · (intro w hSw; (try dsimp only at hSw); go_simp; (try rw [if_neg (by omega)]); (try (with_reducible rfl)))
      simp only [Act.put, List.setIfInBounds_toArray, List.set_cons_zero, List.set_cons_succ]
      refine take_F (i := 4) (d := some 25) (v := ?_) (by kernel_rfl) (by kernel_rfl) rfl rfl (by kernel_rfl) (by kernel_rfl) (by kernel_rfl) (fun _ _ _ h => h) (Or.inl ⟨by rfl, ?_⟩) (by assumption) ?_
      rotate_left
      · (intro w hSw; (try dsimp only at hSw); go_simp; (try rw [if_neg (by omega)]); (try (with_reducible rfl)))
      simp only [Act.put, List.setIfInBounds_toArray, List.set_cons_zero, List.set_cons_succ]
      refine call_L (i := 5) (d := (some 26)) rfl rfl (by kernel_rfl) (fun Kq hKq => ?_)
      go_simp
      go_at_call 66
      refine HP.out.mono ?_; rintro e w5 ⟨y, rfl, ⟨hy0, hy1, _⟩, hs5, hg5⟩
      have hy2 := hy1 (by omega)
      have q5 := (World.cell?_of_block (a := ⟨b3, 3, none⟩) (hg5.block b3 (by simpa using hblt) (fun e => hbg (by injection e)))).trans p3
      have f5 := (World.frozen?_of_block (a := ⟨b3, 3, none⟩) (hg5.block b3 (by simpa using hblt) (fun e => hbg (by injection e)))).trans q3
      obtain ⟨zs, hzl, hd6⟩ := Hput.out (T + y) _ _ hs5 (grown_undrew hg5)
      rw [Nat.zero_mul, Nat.zero_add] at hd6
      have HD6 := Lib.hid hd6
      have hwr : IntKind.i64.wrap (T + y) = T + y := IntWalk.i64_in _ (by omega)
      clear hs5 hg5 hy1 hzl hd6 p3 q3
      (try go_wp2_with fail)
      refine hKq.out _ _ (q5) (fun hHeld => ?_)
      clear hKq Kq
      (try simp only [Act.put, List.setIfInBounds_toArray, List.set_cons_zero, List.set_cons_succ])
      refine take_F (i := 6) (d := some 27) (v := ?_) (by kernel_rfl) (by kernel_rfl) rfl rfl (by kernel_rfl) (by kernel_rfl) (by kernel_rfl) (fun _ _ _ h => h) (Or.inl ⟨by rfl, ?_⟩) (by assumption) ?_
      rotate_left
      · (intro w hSw; (try dsimp only at hSw); go_simp; (try rw [if_neg (by omega)]); (try (with_reducible rfl)))
      simp only [Act.put, List.setIfInBounds_toArray, List.set_cons_zero, List.set_cons_succ]
      refine take_F (i := 7) (d := some 28) (v := ?_) (by kernel_rfl) (by kernel_rfl) rfl rfl (by kernel_rfl) (by kernel_rfl) (by kernel_rfl) (fun _ _ _ h => h) (Or.inl ⟨by rfl, ?_⟩) (by assumption) ?_
      rotate_left
      · (intro w hSw; (try dsimp only at hSw); go_simp; (try rw [if_neg (by omega)]); (try (with_reducible rfl)))
      simp only [Act.put, List.setIfInBounds_toArray, List.set_cons_zero, List.set_cons_succ]
      refine take_F (i := 8) (d := some 29) (v := ?_) (by kernel_rfl) (by kernel_rfl) rfl rfl (by kernel_rfl) (by kernel_rfl) (by kernel_rfl) (fun _ _ _ h => h) (Or.inl ⟨by rfl, ?_⟩) (by assumption) ?_
      rotate_left
      · (intro w hSw; (try dsimp only at hSw); go_simp; (try rw [if_neg (by omega)]); (try (with_reducible rfl)))
      simp only [Act.put, List.setIfInBounds_toArray, List.set_cons_zero, List.set_cons_succ]
      refine late_L (i := 9) (d := none) (by kernel_rfl) rfl rfl (by kernel_rfl) (fun Kq hKq => ?_)
      go_simp
      refine hKq.out _ _ ?_
      clear hKq Kq
      refine done_L (by kernel_rfl) ?_ _
      refine NoPanic.normal ?_
      clear q5 f5 HD4 HP Hput hwr
      have HD6n := Lib.hid (DrM.n HD6.out); clear HD6
      go_wp2_with fail
      refine (one_any B _ _ bs 5 _ HD6n.out.dr.src (by omega)).mono ?_; rintro e w8 ⟨y8, rfl, hs8, hg8⟩
      have HD8 := Lib.hid (DrN.draw HD6n.out hs8 hg8)
      clear hs8 hg8 HD6n
      cases y8 with
      | false =>
        go_wp2_with fail
        go_ret2
        have hfin := SameLr.of HA.out HD8.out Hb1.out
        exact hfin
      | true =>
        have hll8 := HD8.out.len
        have Hon := Lib.hid (ones4 ⟨#[]⟩ ⟨#[]⟩ 0 0)
        go_wp2_with (at_builtin; refine wpList_apd 24 26 _ 4 48 Tryd.underlying24 infoL rfl (by omega) _ _ rfl rfl w2.heap.size _ _ _ rfl HD8.out.dr.row #[.string ⟨#[]⟩, .string ⟨#[]⟩, .int .i64 0, .int .i64 0] 1 1 rfl rfl Hon.out (by simp [maxLen]; omega) (by omega) HD8.out.dr.size ?_; intro v9 w9 hown9 hg9; have HD9 := Lib.hid (HD8.out.snocZ hown9 hg9); obtain ⟨A9, c9, rfl⟩ := own_sl_of3 hown9; clear hown9 hg9)
        go_ret2
        obtain ⟨l9, hl9, hfin⟩ := HD9.out
        have hfin2 := SameLr.of2 HA.out hfin Hb1.out (by omega)
        exact hfin2
end Go.Proofs.YtmheijnckmlbnaaDoor
/- Loans: small contracts and bounds that the law FnLoans needs. -/
namespace Go.Proofs.YtmheijnckmlbnaaDoor
open Go.RowKit Go.Joins

set_option maxRecDepth 100000 in
set_option maxHeartbeats 1600000 in
/-- a day at which nothing is lent: the row may be empty -/
theorem BorrowN_any (B : Nat) (v : Value) (xs : List Ln) (s : ByteArray) (d : Int) (w : World) (h : RdL w B v xs) (hB : B ≤ w.heap.size) (hl : xs.length ≤ 1048576) (hsm : ∀ x ∈ xs, smL x) (hcap : ∀ A n c, v = .slice A n c → n ≤ c ∧ c ≤ maxLen) (hok : loansOk xs = true) (hn : askLc xs s d = 3) :
    Calls Tryd.prog 13 #[v, .string s, .int .i64 d] w fun e w' => e = .returned (.tuple #[.string ⟨#[]⟩, .int .i64 3]) ∧ Below w.heap.size w w' := by
  have HV := Lib.hid (ValidLoansI_any B v xs w h hB hl hsm hcap)
  have HA := Lib.hid (fun wx hx hz => loanAt_any B v xs s d wx hx hz hl)
  have H := Lib.hid h
  obtain ⟨A, c, rfl⟩ := h.slice
  rcases can_cases xs s d with ⟨g1, g2, _, _, g3⟩ | ⟨g1, g2, g3, _, _, g4⟩ | ⟨i, hi, g1, g2, g3, _, _, g4⟩
  · rw [hok] at g1; cases g1
  · rw [g1] at HV
    rw [g2] at HA
    clear g1 g2 h hsm hok hn g3 g4 hcap
    go_enter Tryd.func13, Tryd.ntmps13
    go_wp2_with fail
    refine HV.out.mono ?_; rintro e w1 ⟨rfl, hb1⟩
    go_wp2_with fail
    refine (HA.out _ (H.out.below (hb1.mono hB)) (Nat.le_trans hB hb1.size)).mono ?_; rintro e w2 ⟨rfl, hb2⟩
    go_wp2_with fail
    go_ret2
    exact ⟨rfl, hb1.trans (hb2.mono hb1.size)⟩
  · rw [hn] at g3; cases g3
set_option maxRecDepth 100000 in
set_option maxHeartbeats 400000 in
theorem ValidLoansS_any (B : Nat) (v : Value) (xs : List Ln) (w : World) (h : RdL w B v xs) (hl : xs.length ≤ 1048576) (hsm : ∀ x ∈ xs, smL x) : Calls Tryd.prog 27 #[v] w fun e w' => e = .returned (.bool (loansOk xs)) ∧ ∃ n, w' = w.drewN n := by
  have HV := Lib.hid (l23Ok_any B v xs w h hl hsm)
  obtain ⟨A, c, rfl⟩ := h.slice
  clear h
  go_enter Tryd.func27, Tryd.ntmps27
  go_wp2_with fail
  refine HV.out.mono ?_; rintro e w1 ⟨rfl, n1, rfl⟩
  go_wp2_with fail
  go_ret
  exact ⟨rfl, n1, rfl⟩
set_option maxRecDepth 100000 in
set_option maxHeartbeats 400000 in
theorem f6big_l (B n : Nat) (v : Value) (xs : List Value) (w : World) (h : Rd w B v n 1 xs) : Calls Tryd.prog 6 #[v] w fun e w' => e = .returned (.bool (decide (4096 < n))) ∧ w = w' := by
  obtain ⟨_, A, c, rfl, _⟩ := h
  by_cases hn : 4096 < n
  · have hn' : (4096 : Int) < (n : Int) := by omega
    rw [decide_eq_true hn]
    go_enter Tryd.func6, Tryd.ntmps6
    go_wp2_with fail
    go_ret
    exact ⟨rfl, rfl⟩
  · have hn' : ¬ (4096 : Int) < (n : Int) := by omega
    rw [decide_eq_false hn]
    go_enter Tryd.func6, Tryd.ntmps6
    go_wp2_with fail
    go_ret
    exact ⟨rfl, rfl⟩
theorem below_eqL {w w' : World} {n : Nat} (h : w' = w.drewN n) : Below w.heap.size w w' := by rw [h]; exact below_drewN (Below.refl _ _) n
theorem rdNL {w w' : World} {v : Value} {xs : List Ln} (h : RdL w w.heap.size v xs) (hb : Below w.heap.size w w') : RdL w' w'.heap.size v xs := h.next hb
theorem blkN {w w' : World} {q : Nat} {o : Obj} (h : w.heap[q]? = some o) (hb : Below w.heap.size w w') : w'.heap[q]? = some o := (hb.block q (Array.getElem?_eq_some_iff.1 h).1).trans h
theorem rdL_some {w : World} {B n c : Nat} {A : Option Addr} {xs : List Ln} (h : RdL w B (.slice A n c) xs) (hn : 0 < xs.length) : ∃ b o, A = some ⟨b, o, none⟩ := by
  obtain ⟨_, A', c', hv, h2⟩ := h
  injection hv with e1 _ _
  obtain ⟨b, o, hA, _⟩ := h2 (by omega)
  exact ⟨b, o, e1.trans hA⟩
theorem retR_sm {xs : List Ln} {s : ByteArray} {d : Int} (h : ∀ x ∈ xs, smX x) : ∀ x ∈ retR xs s d, smL x := by
  rcases ret_cases xs s d with ⟨_, _, _, g⟩ | ⟨_, _, _, _, g⟩ | ⟨i, hi, _, _, _, _, g⟩
  · rw [g]; intro x hx; cases hx
  · rw [g]; intro x hx; cases hx
  · rw [g]
    intro x hx
    rcases List.mem_or_eq_of_mem_set hx with hx | rfl
    · exact (h x hx).sm
    · have := h xs[i] (List.getElem_mem hi); exact this.sm
theorem addR_len (xs : List Ln) (x : Ln) : (addR xs x).length ≤ xs.length + 1 := by
  unfold addR
  split
  · rw [List.length_append, List.length_cons, List.length_take, List.length_drop]; omega
  · simp
theorem rdLoans_len (s : ByteArray) : ((rdLoans s).getD []).length ≤ 60 := by
  unfold rdLoans
  split
  · simp
  · split
    · split
      · rename_i h; exact (OkP.of h).len
      · simp
    · simp
theorem txL_sz {xs : List Ln} (hs : ∀ x ∈ xs, smX x) : (txL xs).size ≤ 1048576 := by
  unfold txL
  split
  · rename_i h
    have hP := OkP.of h
    have hl := hP.len
    have := textL_sz xs (fun x hx => by
      obtain ⟨i, hi, rfl⟩ := List.mem_iff_getElem.1 hx
      exact ⟨hP.one i hi, hs _ (List.getElem_mem hi)⟩)
    omega
  · exact Nat.zero_le _
/-- what the law asks behind a loan that was added -/
theorem add_law2 {xs : List Ln} {x : Ln} (h : addC xs x = 0) : (askLc (addR xs x) x.what x.from_ = 0 ∧ borS (addR xs x) x.what x.from_ = x.who) ∧ (askLc (addR xs x) x.what x.till = 0 ∧ borS (addR xs x) x.what x.till = x.who ∧ canR (addR xs x) x.what x.till = xs) ∧ 0 < (addR xs x).length := by
  obtain ⟨k, hk, he, _, hx, _⟩ := add_facts h
  have hd := loan_days' hx
  obtain ⟨h1, h2, _⟩ := add_law h x.from_ (by omega) (by omega)
  obtain ⟨h3, h4, h5⟩ := add_law h x.till (by omega) (by omega)
  exact ⟨⟨h1, h2⟩, ⟨h3, h4, h5⟩, by rw [he]; simp; omega⟩
end Go.Proofs.YtmheijnckmlbnaaDoor
/- The law FnLoans: the walk. -/
namespace Go.Proofs.YtmheijnckmlbnaaDoor
open Go.RowKit Go.Joins
theorem sl_of_ownL {w : World} {base n size : Nat} {e : TypeId} {v : Value} {cs : List Value} (h : w.ownsRow base e size v n cs) : ∃ A c, v = .slice A n c := by
  obtain ⟨_, A, c, hv, _⟩ := Rd.of_own h
  exact ⟨A, c, hv⟩

theorem undef_no {b : Bool} (h : some undef = some (Value.bool b)) : False := by
  injection h with h
  cases h
set_option maxRecDepth 100000 in
set_option maxHeartbeats 25600000 in
theorem walkFnLoans {W : World} (v : Value) (bs : List UInt8) (h : Rd W W.heap.size v bs.length 1 (bs.map byV)) (_hl : bs.length ≤ maxLen) (ht : Tab W) :
    Calls Tryd.prog 3 #[v] W fun e w' => e = .returned (.bool true) ∧ Below W.heap.size W w' := by
  have HB := Lib.hid (Below.refl W.heap.size W)
  have HC := Lib.hid h
  have Ht := Lib.hid ht; clear ht
  have HG := Lib.hid (f6big_l _ _ v _ W h)
  obtain ⟨_, A0, c0, rfl, _⟩ := h
  by_cases hbig : 4096 < bs.length
  · rw [decide_eq_true hbig] at HG
    clear hbig
    go_enter Tryd.func3, Tryd.ntmps3
    go_wp2_with fail
    refine HG.out.mono ?_; rintro e w1 ⟨rfl, rfl⟩
    go_wp2_with fail
    go_ret
    exact ⟨rfl, HB.out⟩
  rw [decide_eq_false hbig] at HG
  clear hbig
  go_enter Tryd.func3, Tryd.ntmps3
  go_wp2_with fail
  refine HG.out.mono ?_; rintro e w1 ⟨rfl, rfl⟩
  clear HG
  go_wp2_with fail
  refine (drawAL_any _ _ bs _ (HC.out.below HB.out) HB.out.size).mono ?_; rintro e wn ⟨v3, xs, ⟨xa, xb, xf, xt⟩, rfl, hn, hx⟩
  have RL0 := Lib.hid (Rd.of_own hn.own)
  have HB' := Lib.hid (HB.out.trans (hn.bel.mono HB.out.size)); clear HB; have HB := HB'; clear HB'
  have RL := RL0; clear RL0
  obtain ⟨b3, c3, rfl⟩ := hn.nn
  have Hc3 := Lib.hid (own_cap3 hn.own)
  have hl3 := hn.len
  have Hsx3 := Lib.hid hn.sm
  have Hsm3 := Lib.hid (show ∀ x ∈ xs, smL x from fun x hx => (hn.sm x hx).sm)
  clear hn
  have hm3 : xs.length ≤ 1048576 := by omega
  have Hx := Lib.hid hx.sm; clear hx
  have HAI := Lib.hid (fun wx hx => AddI_any wx.heap.size b3 0 c3 xs ⟨xa, xb, xf, xt⟩ wx hx (Nat.le_refl _) hm3 Hsm3.out Hx.out Hc3.out.1 Hc3.out.2)
  have HAS := Lib.hid (fun wx hx => AddS_any wx.heap.size b3 0 c3 xs ⟨xa, xb, xf, xt⟩ wx hx (Nat.le_refl _) hm3 Hsm3.out Hx.out Hc3.out.1 Hc3.out.2)
  have HVI := Lib.hid (fun wx (hx : RdL wx wx.heap.size (.slice (some ⟨b3, 0, none⟩) xs.length c3) xs) => ValidLoansI_any _ _ xs wx hx (Nat.le_refl _) hm3 Hsm3.out (fun A n c' e => by injection e with _ e2 e3; exact ⟨by have := Hc3.out.1; omega, by have := Hc3.out.2; omega⟩))
  have HVS := Lib.hid (fun wx (hx : RdL wx wx.heap.size (.slice (some ⟨b3, 0, none⟩) xs.length c3) xs) => ValidLoansS_any _ _ xs wx hx hm3 Hsm3.out)
  have hX : (addR xs ⟨xa, xb, xf, xt⟩).length ≤ 1048576 := by have := addR_len xs ⟨xa, xb, xf, xt⟩; omega
  have HsX := Lib.hid (show ∀ y ∈ addR xs ⟨xa, xb, xf, xt⟩, smL y from fun y hy => (addR_mem y hy).elim (fun h => Hsm3.out y h) (fun h => by rw [h]; exact Hx.out))
  have HL := Lib.hid (fun h => add_law2 (xs := xs) (x := ⟨xa, xb, xf, xt⟩) h)
  dsimp only at HL
  unfold RetLn at HAI HAS
  generalize addC xs ⟨xa, xb, xf, xt⟩ = C1 at *
  generalize addR xs ⟨xa, xb, xf, xt⟩ = X at *
  go_upto_region 4 with (fail)
  have hbw := (Below.refl wn.heap.size wn).alloc (Nat.le_refl _) (.cells #[.string xa, .string xb, .int .i64 xf, .int .i64 xt] 26)
  have HQ := Lib.hid (heap_alloc_new wn (.cells #[.string xa, .string xb, .int .i64 xf, .int .i64 xt] 26))
  have RL' := Lib.hid (rdNL RL.out hbw)
  clear RL; have RL := RL'; clear RL'
  have HB' := Lib.hid (HB.out.trans (hbw.mono HB.out.size)); clear HB; have HB := HB'; clear HB'
  clear hbw
  generalize hq : wn.heap.size = q at *
  generalize wn.alloc (.cells #[.string xa, .string xb, .int .i64 xf, .int .i64 xt] 26) = w5 at *
  clear hq
  obtain ⟨⟨p0, p1, p2, p3⟩, _⟩ := blk4 HQ.out
  go_wp2_with fail
  refine (HAI.out _ RL.out).mono ?_; rintro e wn ⟨v4, rfl, ho, hb⟩
  have RX0 := Lib.hid (Rd.of_own ho)
  have RL' := Lib.hid (rdNL RL.out hb)
  clear RL; have RL := RL'; clear RL'
  have HQ' := Lib.hid (blkN HQ.out hb); clear HQ; have HQ := HQ'; clear HQ'
  have HB' := Lib.hid (HB.out.trans (hb.mono HB.out.size)); clear HB; have HB := HB'; clear HB'
  have RX := RX0; clear RX0
  obtain ⟨A4, c4, rfl⟩ := sl_of_ownL ho
  have Hc4 := Lib.hid (own_cap3 ho)
  clear ho hb p0 p1 p2 p3 HAI
  obtain ⟨⟨p0, p1, p2, p3⟩, _⟩ := blk4 HQ.out
  go_wp2_with fail
  refine (HAS.out _ RL.out).mono ?_; rintro e wn ⟨v5, rfl, ho, hb⟩
  have RM0 := Lib.hid (Rd.of_own ho)
  have RL' := Lib.hid (rdNL RL.out hb)
  have RX' := Lib.hid (rdNL RX.out hb)
  clear RL; have RL := RL'; clear RL'
  clear RX; have RX := RX'; clear RX'
  have HQ' := Lib.hid (blkN HQ.out hb); clear HQ; have HQ := HQ'; clear HQ'
  have HB' := Lib.hid (HB.out.trans (hb.mono HB.out.size)); clear HB; have HB := HB'; clear HB'
  have RM := RM0; clear RM0
  obtain ⟨A5, c5, rfl⟩ := sl_of_ownL ho
  clear ho hb p0 p1 p2 p3 HAS
  go_wp2_with fail
  refine (drawCL_any _ _ bs _ (HC.out.below HB.out) HB.out.size).mono ?_; rintro e wn ⟨v6, cs, s, d, rfl, hn⟩
  have RC0 := Lib.hid (Rd.of_own hn.own)
  have RL' := Lib.hid (rdNL RL.out hn.bel)
  have RX' := Lib.hid (rdNL RX.out hn.bel)
  have RM' := Lib.hid (rdNL RM.out hn.bel)
  clear RL; have RL := RL'; clear RL'
  clear RX; have RX := RX'; clear RX'
  clear RM; have RM := RM'; clear RM'
  have HQ' := Lib.hid (blkN HQ.out hn.bel); clear HQ; have HQ := HQ'; clear HQ'
  have HB' := Lib.hid (HB.out.trans (hn.bel.mono HB.out.size)); clear HB; have HB := HB'; clear HB'
  have RC := RC0; clear RC0
  obtain ⟨b6, c6, rfl⟩ := hn.nn
  have Hc6 := Lib.hid (own_cap3 hn.own)
  have hl6 := hn.len
  have Hsx6 := Lib.hid hn.sm
  have Hsm6 := Lib.hid (show ∀ x ∈ cs, smL x from fun x hx => (hn.sm x hx).sm)
  clear hn
  have hm6 : cs.length ≤ 1048576 := by omega
  have HCI := Lib.hid (fun wx hx => CancelI_any wx.heap.size b6 0 c6 cs s d wx hx (Nat.le_refl _) hm6 Hsm6.out Hc6.out.1 Hc6.out.2)
  have HCS := Lib.hid (fun wx hx => CancelS_any wx.heap.size b6 0 c6 cs s d wx hx (Nat.le_refl _) hm6 Hsm6.out Hc6.out.1 Hc6.out.2)
  have HBI := Lib.hid (fun wx hx => BorrowI_any wx.heap.size b6 0 c6 cs s d wx hx (Nat.le_refl _) hm6 Hsm6.out Hc6.out.1 Hc6.out.2)
  have HRI := Lib.hid (fun wx hx => ReturnI_any wx.heap.size b6 0 c6 cs s d wx hx (Nat.le_refl _) hm6 Hsm6.out Hc6.out.1 Hc6.out.2)
  have HBS := Lib.hid (fun wx hx => BorrowS_any wx.heap.size b6 0 c6 cs s d wx hx (Nat.le_refl _) hm6 Hsm6.out)
  have HRS := Lib.hid (fun wx hx => ReturnS_any wx.heap.size b6 0 c6 cs s d wx hx (Nat.le_refl _) hm6 Hsm6.out)
  have hY : (canR cs s d).length ≤ 1048576 := by have := canR_len cs s d; omega
  have hZ : (retR cs s d).length ≤ 1048576 := by have := retR_len cs s d; omega
  have HsY := Lib.hid (show ∀ y ∈ canR cs s d, smL y from fun y hy => Hsm6.out y (canR_mem y hy))
  have HsZ := Lib.hid (retR_sm (s := s) (d := d) Hsx6.out)
  have HLC := Lib.hid (fun h => cancel_law (xs := cs) (s := s) (d := d) h)
  unfold RetLn at HCI HCS HRI HRS
  unfold RetBw at HBI HBS
  generalize canR cs s d = Y at *
  generalize retR cs s d = Z at *
  generalize askLc cs s d = C2 at *
  generalize borS cs s d = WHO at *
  go_wp2_with fail
  refine (HCI.out _ RC.out).mono ?_; rintro e wn ⟨v7, rfl, ho, hb⟩
  have RY0 := Lib.hid (Rd.of_own ho)
  have RL' := Lib.hid (rdNL RL.out hb)
  have RX' := Lib.hid (rdNL RX.out hb)
  have RM' := Lib.hid (rdNL RM.out hb)
  have RC' := Lib.hid (rdNL RC.out hb)
  clear RL; have RL := RL'; clear RL'
  clear RX; have RX := RX'; clear RX'
  clear RM; have RM := RM'; clear RM'
  clear RC; have RC := RC'; clear RC'
  have HQ' := Lib.hid (blkN HQ.out hb); clear HQ; have HQ := HQ'; clear HQ'
  have HB' := Lib.hid (HB.out.trans (hb.mono HB.out.size)); clear HB; have HB := HB'; clear HB'
  have RY := RY0; clear RY0
  obtain ⟨A7, c7, rfl⟩ := sl_of_ownL ho
  have Hc7 := Lib.hid (own_cap3 ho)
  clear ho hb
  go_wp2_with fail
  refine (HCS.out _ RC.out).mono ?_; rintro e wn ⟨v8, rfl, ho, hb⟩
  have RYS0 := Lib.hid (Rd.of_own ho)
  have RL' := Lib.hid (rdNL RL.out hb)
  have RX' := Lib.hid (rdNL RX.out hb)
  have RM' := Lib.hid (rdNL RM.out hb)
  have RC' := Lib.hid (rdNL RC.out hb)
  have RY' := Lib.hid (rdNL RY.out hb)
  clear RL; have RL := RL'; clear RL'
  clear RX; have RX := RX'; clear RX'
  clear RM; have RM := RM'; clear RM'
  clear RC; have RC := RC'; clear RC'
  clear RY; have RY := RY'; clear RY'
  have HQ' := Lib.hid (blkN HQ.out hb); clear HQ; have HQ := HQ'; clear HQ'
  have HB' := Lib.hid (HB.out.trans (hb.mono HB.out.size)); clear HB; have HB := HB'; clear HB'
  have RYS := RYS0; clear RYS0
  obtain ⟨A8, c8, rfl⟩ := sl_of_ownL ho
  have Hc8 := Lib.hid (own_cap3 ho)
  clear ho hb
  clear HCI HCS Hc8
  go_wp2_with fail
  refine (HBI.out _ RC.out).mono ?_; rintro e wn ⟨rfl, hb⟩
  have RL' := Lib.hid (rdNL RL.out hb)
  have RX' := Lib.hid (rdNL RX.out hb)
  have RM' := Lib.hid (rdNL RM.out hb)
  have RC' := Lib.hid (rdNL RC.out hb)
  have RY' := Lib.hid (rdNL RY.out hb)
  have RYS' := Lib.hid (rdNL RYS.out hb)
  clear RL; have RL := RL'; clear RL'
  clear RX; have RX := RX'; clear RX'
  clear RM; have RM := RM'; clear RM'
  clear RC; have RC := RC'; clear RC'
  clear RY; have RY := RY'; clear RY'
  clear RYS; have RYS := RYS'; clear RYS'
  have HQ' := Lib.hid (blkN HQ.out hb); clear HQ; have HQ := HQ'; clear HQ'
  have HB' := Lib.hid (HB.out.trans (hb.mono HB.out.size)); clear HB; have HB := HB'; clear HB'
  clear hb
  go_wp2_with fail
  refine (HBS.out _ RC.out).mono ?_; rintro e wn ⟨rfl, hb⟩
  have RL' := Lib.hid (rdNL RL.out hb)
  have RX' := Lib.hid (rdNL RX.out hb)
  have RM' := Lib.hid (rdNL RM.out hb)
  have RC' := Lib.hid (rdNL RC.out hb)
  have RY' := Lib.hid (rdNL RY.out hb)
  have RYS' := Lib.hid (rdNL RYS.out hb)
  clear RL; have RL := RL'; clear RL'
  clear RX; have RX := RX'; clear RX'
  clear RM; have RM := RM'; clear RM'
  clear RC; have RC := RC'; clear RC'
  clear RY; have RY := RY'; clear RY'
  clear RYS; have RYS := RYS'; clear RYS'
  have HQ' := Lib.hid (blkN HQ.out hb); clear HQ; have HQ := HQ'; clear HQ'
  have HB' := Lib.hid (HB.out.trans (hb.mono HB.out.size)); clear HB; have HB := HB'; clear HB'
  clear hb HBI HBS
  go_wp2_with fail
  refine (HRI.out _ RC.out).mono ?_; rintro e wn ⟨v9, rfl, ho, hb⟩
  have RZ0 := Lib.hid (Rd.of_own ho)
  have RL' := Lib.hid (rdNL RL.out hb)
  have RX' := Lib.hid (rdNL RX.out hb)
  have RM' := Lib.hid (rdNL RM.out hb)
  have RC' := Lib.hid (rdNL RC.out hb)
  have RY' := Lib.hid (rdNL RY.out hb)
  have RYS' := Lib.hid (rdNL RYS.out hb)
  clear RL; have RL := RL'; clear RL'
  clear RX; have RX := RX'; clear RX'
  clear RM; have RM := RM'; clear RM'
  clear RC; have RC := RC'; clear RC'
  clear RY; have RY := RY'; clear RY'
  clear RYS; have RYS := RYS'; clear RYS'
  have HQ' := Lib.hid (blkN HQ.out hb); clear HQ; have HQ := HQ'; clear HQ'
  have HB' := Lib.hid (HB.out.trans (hb.mono HB.out.size)); clear HB; have HB := HB'; clear HB'
  have RZ := RZ0; clear RZ0
  obtain ⟨A9, c9, rfl⟩ := sl_of_ownL ho
  have Hc9 := Lib.hid (own_cap3 ho)
  clear ho hb
  go_wp2_with fail
  refine (HRS.out _ RC.out).mono ?_; rintro e wn ⟨v10, rfl, ho, hb⟩
  have RZS0 := Lib.hid (Rd.of_own ho)
  have RL' := Lib.hid (rdNL RL.out hb)
  have RX' := Lib.hid (rdNL RX.out hb)
  have RM' := Lib.hid (rdNL RM.out hb)
  have RC' := Lib.hid (rdNL RC.out hb)
  have RY' := Lib.hid (rdNL RY.out hb)
  have RYS' := Lib.hid (rdNL RYS.out hb)
  have RZ' := Lib.hid (rdNL RZ.out hb)
  clear RL; have RL := RL'; clear RL'
  clear RX; have RX := RX'; clear RX'
  clear RM; have RM := RM'; clear RM'
  clear RC; have RC := RC'; clear RC'
  clear RY; have RY := RY'; clear RY'
  clear RYS; have RYS := RYS'; clear RYS'
  clear RZ; have RZ := RZ'; clear RZ'
  have HQ' := Lib.hid (blkN HQ.out hb); clear HQ; have HQ := HQ'; clear HQ'
  have HB' := Lib.hid (HB.out.trans (hb.mono HB.out.size)); clear HB; have HB := HB'; clear HB'
  have RZS := RZS0; clear RZS0
  obtain ⟨A10, c10, rfl⟩ := sl_of_ownL ho
  have Hc10 := Lib.hid (own_cap3 ho)
  clear ho hb
  clear HRI HRS Hc10
  clear RC
  clear Hc6 Hsm6 Hsx6 hl6 hm6
  go_wp2_with fail
  refine (drawLT_any _ _ bs _ (HC.out.below HB.out) HB.out.size).mono ?_; rintro e wn ⟨v11, ts, rfl, hn⟩
  have RT0 := Lib.hid (Rd.of_own hn.own)
  have RL' := Lib.hid (rdNL RL.out hn.bel)
  have RX' := Lib.hid (rdNL RX.out hn.bel)
  have RM' := Lib.hid (rdNL RM.out hn.bel)
  have RY' := Lib.hid (rdNL RY.out hn.bel)
  have RYS' := Lib.hid (rdNL RYS.out hn.bel)
  have RZ' := Lib.hid (rdNL RZ.out hn.bel)
  have RZS' := Lib.hid (rdNL RZS.out hn.bel)
  clear RL; have RL := RL'; clear RL'
  clear RX; have RX := RX'; clear RX'
  clear RM; have RM := RM'; clear RM'
  clear RY; have RY := RY'; clear RY'
  clear RYS; have RYS := RYS'; clear RYS'
  clear RZ; have RZ := RZ'; clear RZ'
  clear RZS; have RZS := RZS'; clear RZS'
  have HQ' := Lib.hid (blkN HQ.out hn.bel); clear HQ; have HQ := HQ'; clear HQ'
  have HB' := Lib.hid (HB.out.trans (hn.bel.mono HB.out.size)); clear HB; have HB := HB'; clear HB'
  have RT := RT0; clear RT0
  obtain ⟨b11, c11, rfl⟩ := hn.nn
  have Hc11 := Lib.hid (own_cap3 hn.own)
  have hl11 := hn.len
  have Hsx11 := Lib.hid hn.sm
  have Hsm11 := Lib.hid (show ∀ x ∈ ts, smL x from fun x hx => (hn.sm x hx).sm)
  clear hn
  have hm11 : ts.length ≤ 1048576 := by omega
  have HTI := Lib.hid (fun wx (hx : RdL wx wx.heap.size (.slice (some ⟨b11, 0, none⟩) ts.length c11) ts) hq => LoansTextI_any _ _ ts wx hx (Nat.le_refl _) hm11 Hsm11.out (fun A n c' e => by injection e with _ e2 e3; exact ⟨by have := Hc11.out.1; omega, by have := Hc11.out.2; omega⟩) hq)
  have HTS := Lib.hid (fun wx (hx : RdL wx wx.heap.size (.slice (some ⟨b11, 0, none⟩) ts.length c11) ts) => LoansTextS_any _ _ ts wx hx (Nat.le_refl _) hm11 Hsm11.out)
  have htz := txL_sz Hsx11.out
  have HRT := Lib.hid (fun wx hq => ReadLoansI_any (txL ts) wx htz hq)
  unfold RetRn at HRT
  have Hbk := Lib.hid (show txL ts ≠ ⟨#[]⟩ → (rdLoans (txL ts)).getD [] = ts ∧ (rdLoans (txL ts)).isSome = true from fun h => by rw [txL_back (xs := ts) h]; exact ⟨rfl, rfl⟩)
  have hbl := rdLoans_len (txL ts)
  clear htz
  generalize (rdLoans (txL ts)).getD [] = RBL at *
  generalize (rdLoans (txL ts)).isSome = RBB at *
  generalize txL ts = TX at *
  go_wp2_with fail
  refine (HTI.out _ RT.out (Ht.out.below HB.out)).mono ?_; rintro e wn ⟨rfl, hb⟩
  have RL' := Lib.hid (rdNL RL.out hb)
  have RX' := Lib.hid (rdNL RX.out hb)
  have RM' := Lib.hid (rdNL RM.out hb)
  have RY' := Lib.hid (rdNL RY.out hb)
  have RYS' := Lib.hid (rdNL RYS.out hb)
  have RZ' := Lib.hid (rdNL RZ.out hb)
  have RZS' := Lib.hid (rdNL RZS.out hb)
  have RT' := Lib.hid (rdNL RT.out hb)
  clear RL; have RL := RL'; clear RL'
  clear RX; have RX := RX'; clear RX'
  clear RM; have RM := RM'; clear RM'
  clear RY; have RY := RY'; clear RY'
  clear RYS; have RYS := RYS'; clear RYS'
  clear RZ; have RZ := RZ'; clear RZ'
  clear RZS; have RZS := RZS'; clear RZS'
  clear RT; have RT := RT'; clear RT'
  have HQ' := Lib.hid (blkN HQ.out hb); clear HQ; have HQ := HQ'; clear HQ'
  have HB' := Lib.hid (HB.out.trans (hb.mono HB.out.size)); clear HB; have HB := HB'; clear HB'
  clear hb HTI
  go_wp2_with fail
  refine (HRT.out _ (Ht.out.below HB.out)).mono ?_; rintro e wn ⟨v12, rfl, ho, hb⟩
  have RK0 := Lib.hid (Rd.of_own ho)
  have RL' := Lib.hid (rdNL RL.out hb)
  have RX' := Lib.hid (rdNL RX.out hb)
  have RM' := Lib.hid (rdNL RM.out hb)
  have RY' := Lib.hid (rdNL RY.out hb)
  have RYS' := Lib.hid (rdNL RYS.out hb)
  have RZ' := Lib.hid (rdNL RZ.out hb)
  have RZS' := Lib.hid (rdNL RZS.out hb)
  have RT' := Lib.hid (rdNL RT.out hb)
  clear RL; have RL := RL'; clear RL'
  clear RX; have RX := RX'; clear RX'
  clear RM; have RM := RM'; clear RM'
  clear RY; have RY := RY'; clear RY'
  clear RYS; have RYS := RYS'; clear RYS'
  clear RZ; have RZ := RZ'; clear RZ'
  clear RZS; have RZS := RZS'; clear RZS'
  clear RT; have RT := RT'; clear RT'
  have HQ' := Lib.hid (blkN HQ.out hb); clear HQ; have HQ := HQ'; clear HQ'
  have HB' := Lib.hid (HB.out.trans (hb.mono HB.out.size)); clear HB; have HB := HB'; clear HB'
  have RK := RK0; clear RK0
  obtain ⟨A12, c12, rfl⟩ := sl_of_ownL ho
  clear ho hb HRT
  go_wp2_with fail
  refine (drawRL_any _ _ bs _ (HC.out.below HB.out) HB.out.size).mono ?_; rintro e wn ⟨zz, rfl, hzz, hb⟩
  have RL' := Lib.hid (rdNL RL.out hb)
  have RX' := Lib.hid (rdNL RX.out hb)
  have RM' := Lib.hid (rdNL RM.out hb)
  have RY' := Lib.hid (rdNL RY.out hb)
  have RYS' := Lib.hid (rdNL RYS.out hb)
  have RZ' := Lib.hid (rdNL RZ.out hb)
  have RZS' := Lib.hid (rdNL RZS.out hb)
  have RT' := Lib.hid (rdNL RT.out hb)
  have RK' := Lib.hid (rdNL RK.out hb)
  clear RL; have RL := RL'; clear RL'
  clear RX; have RX := RX'; clear RX'
  clear RM; have RM := RM'; clear RM'
  clear RY; have RY := RY'; clear RY'
  clear RYS; have RYS := RYS'; clear RYS'
  clear RZ; have RZ := RZ'; clear RZ'
  clear RZS; have RZS := RZS'; clear RZS'
  clear RT; have RT := RT'; clear RT'
  clear RK; have RK := RK'; clear RK'
  have HQ' := Lib.hid (blkN HQ.out hb); clear HQ; have HQ := HQ'; clear HQ'
  have HB' := Lib.hid (HB.out.trans (hb.mono HB.out.size)); clear HB; have HB := HB'; clear HB'
  clear hb
  have HZI := Lib.hid (fun wx hq => ReadLoansI_any zz wx hzz hq)
  have HZS := Lib.hid (fun wx => ReadLoansS_any zz wx hzz)
  unfold RetRn at HZI HZS
  have hzl := rdLoans_len zz
  generalize rdLoans zz = RZZ at *
  have hzl1 : (RZZ.getD []).length ≤ 1048576 := by omega
  generalize RZZ.getD [] = UL at *
  generalize RZZ.isSome = UB at *
  go_wp2_with fail
  refine (HZI.out _ (Ht.out.below HB.out)).mono ?_; rintro e wn ⟨v13, rfl, ho, hb⟩
  have RU0 := Lib.hid (Rd.of_own ho)
  have RL' := Lib.hid (rdNL RL.out hb)
  have RX' := Lib.hid (rdNL RX.out hb)
  have RM' := Lib.hid (rdNL RM.out hb)
  have RY' := Lib.hid (rdNL RY.out hb)
  have RYS' := Lib.hid (rdNL RYS.out hb)
  have RZ' := Lib.hid (rdNL RZ.out hb)
  have RZS' := Lib.hid (rdNL RZS.out hb)
  have RT' := Lib.hid (rdNL RT.out hb)
  have RK' := Lib.hid (rdNL RK.out hb)
  clear RL; have RL := RL'; clear RL'
  clear RX; have RX := RX'; clear RX'
  clear RM; have RM := RM'; clear RM'
  clear RY; have RY := RY'; clear RY'
  clear RYS; have RYS := RYS'; clear RYS'
  clear RZ; have RZ := RZ'; clear RZ'
  clear RZS; have RZS := RZS'; clear RZS'
  clear RT; have RT := RT'; clear RT'
  clear RK; have RK := RK'; clear RK'
  have HQ' := Lib.hid (blkN HQ.out hb); clear HQ; have HQ := HQ'; clear HQ'
  have HB' := Lib.hid (HB.out.trans (hb.mono HB.out.size)); clear HB; have HB := HB'; clear HB'
  have RU := RU0; clear RU0
  obtain ⟨A13, c13, rfl⟩ := sl_of_ownL ho
  clear ho hb HZI
  go_wp2_with fail
  refine (HZS.out _).mono ?_; rintro e wn ⟨v14, rfl, ho, hb⟩
  have RV0 := Lib.hid (Rd.of_own ho)
  have RL' := Lib.hid (rdNL RL.out hb)
  have RX' := Lib.hid (rdNL RX.out hb)
  have RM' := Lib.hid (rdNL RM.out hb)
  have RY' := Lib.hid (rdNL RY.out hb)
  have RYS' := Lib.hid (rdNL RYS.out hb)
  have RZ' := Lib.hid (rdNL RZ.out hb)
  have RZS' := Lib.hid (rdNL RZS.out hb)
  have RT' := Lib.hid (rdNL RT.out hb)
  have RK' := Lib.hid (rdNL RK.out hb)
  have RU' := Lib.hid (rdNL RU.out hb)
  clear RL; have RL := RL'; clear RL'
  clear RX; have RX := RX'; clear RX'
  clear RM; have RM := RM'; clear RM'
  clear RY; have RY := RY'; clear RY'
  clear RYS; have RYS := RYS'; clear RYS'
  clear RZ; have RZ := RZ'; clear RZ'
  clear RZS; have RZS := RZS'; clear RZS'
  clear RT; have RT := RT'; clear RT'
  clear RK; have RK := RK'; clear RK'
  clear RU; have RU := RU'; clear RU'
  have HQ' := Lib.hid (blkN HQ.out hb); clear HQ; have HQ := HQ'; clear HQ'
  have HB' := Lib.hid (HB.out.trans (hb.mono HB.out.size)); clear HB; have HB := HB'; clear HB'
  have RV := RV0; clear RV0
  obtain ⟨A14, c14, rfl⟩ := sl_of_ownL ho
  clear ho hb HZS
  go_wp2_with fail
  refine (drawSL_any _ _ bs _ (HC.out.below HB.out) HB.out.size).mono ?_; rintro e wn ⟨v15, v16, l1, l2, rfl, ho1, ho2, hn1, hn2, hb⟩
  have RA0 := Lib.hid (Rd.of_own ho1)
  have RB20 := Lib.hid (Rd.of_own ho2)
  have RL' := Lib.hid (rdNL RL.out hb)
  have RX' := Lib.hid (rdNL RX.out hb)
  have RM' := Lib.hid (rdNL RM.out hb)
  have RY' := Lib.hid (rdNL RY.out hb)
  have RYS' := Lib.hid (rdNL RYS.out hb)
  have RZ' := Lib.hid (rdNL RZ.out hb)
  have RZS' := Lib.hid (rdNL RZS.out hb)
  have RT' := Lib.hid (rdNL RT.out hb)
  have RK' := Lib.hid (rdNL RK.out hb)
  have RU' := Lib.hid (rdNL RU.out hb)
  have RV' := Lib.hid (rdNL RV.out hb)
  clear RL; have RL := RL'; clear RL'
  clear RX; have RX := RX'; clear RX'
  clear RM; have RM := RM'; clear RM'
  clear RY; have RY := RY'; clear RY'
  clear RYS; have RYS := RYS'; clear RYS'
  clear RZ; have RZ := RZ'; clear RZ'
  clear RZS; have RZS := RZS'; clear RZS'
  clear RT; have RT := RT'; clear RT'
  clear RK; have RK := RK'; clear RK'
  clear RU; have RU := RU'; clear RU'
  clear RV; have RV := RV'; clear RV'
  have HQ' := Lib.hid (blkN HQ.out hb); clear HQ; have HQ := HQ'; clear HQ'
  have HB' := Lib.hid (HB.out.trans (hb.mono HB.out.size)); clear HB; have HB := HB'; clear HB'
  have RA := RA0; clear RA0
  have RB2 := RB20; clear RB20
  obtain ⟨A15, c15, rfl⟩ := sl_of_ownL ho1
  obtain ⟨A16, c16, rfl⟩ := sl_of_ownL ho2
  clear ho1 ho2 hb HC hzz
  have HSR := Lib.hid (fun wx v1 v2 (zs : List Ln) (h1 : RdL wx wx.heap.size v1 zs) (h2 : RdL wx wx.heap.size v2 zs) (hz : zs.length ≤ 1048576) => SameLS_any _ _ v1 v2 zs zs wx h1 h2 hz)
  simp only [decide_true] at HSR
  go_wp2_with fail
  refine (HSR.out _ _ _ X RX.out RM.out hX).mono ?_; rintro e wn ⟨rfl, n1, hw⟩
  have hb := below_eqL hw
  clear hw
  have RL' := Lib.hid (rdNL RL.out hb)
  have RX' := Lib.hid (rdNL RX.out hb)
  have RM' := Lib.hid (rdNL RM.out hb)
  have RY' := Lib.hid (rdNL RY.out hb)
  have RYS' := Lib.hid (rdNL RYS.out hb)
  have RZ' := Lib.hid (rdNL RZ.out hb)
  have RZS' := Lib.hid (rdNL RZS.out hb)
  have RT' := Lib.hid (rdNL RT.out hb)
  have RK' := Lib.hid (rdNL RK.out hb)
  have RU' := Lib.hid (rdNL RU.out hb)
  have RV' := Lib.hid (rdNL RV.out hb)
  have RA' := Lib.hid (rdNL RA.out hb)
  have RB2' := Lib.hid (rdNL RB2.out hb)
  clear RL; have RL := RL'; clear RL'
  clear RX; have RX := RX'; clear RX'
  clear RM; have RM := RM'; clear RM'
  clear RY; have RY := RY'; clear RY'
  clear RYS; have RYS := RYS'; clear RYS'
  clear RZ; have RZ := RZ'; clear RZ'
  clear RZS; have RZS := RZS'; clear RZS'
  clear RT; have RT := RT'; clear RT'
  clear RK; have RK := RK'; clear RK'
  clear RU; have RU := RU'; clear RU'
  clear RV; have RV := RV'; clear RV'
  clear RA; have RA := RA'; clear RA'
  clear RB2; have RB2 := RB2'; clear RB2'
  have HQ' := Lib.hid (blkN HQ.out hb); clear HQ; have HQ := HQ'; clear HQ'
  have HB' := Lib.hid (HB.out.trans (hb.mono HB.out.size)); clear HB; have HB := HB'; clear HB'
  clear hb
  clear RM
  go_wp2_with fail
  refine (HSR.out _ _ _ Y RY.out RYS.out hY).mono ?_; rintro e wn ⟨rfl, n2, hw⟩
  have hb := below_eqL hw
  clear hw
  have RL' := Lib.hid (rdNL RL.out hb)
  have RX' := Lib.hid (rdNL RX.out hb)
  have RY' := Lib.hid (rdNL RY.out hb)
  have RYS' := Lib.hid (rdNL RYS.out hb)
  have RZ' := Lib.hid (rdNL RZ.out hb)
  have RZS' := Lib.hid (rdNL RZS.out hb)
  have RT' := Lib.hid (rdNL RT.out hb)
  have RK' := Lib.hid (rdNL RK.out hb)
  have RU' := Lib.hid (rdNL RU.out hb)
  have RV' := Lib.hid (rdNL RV.out hb)
  have RA' := Lib.hid (rdNL RA.out hb)
  have RB2' := Lib.hid (rdNL RB2.out hb)
  clear RL; have RL := RL'; clear RL'
  clear RX; have RX := RX'; clear RX'
  clear RY; have RY := RY'; clear RY'
  clear RYS; have RYS := RYS'; clear RYS'
  clear RZ; have RZ := RZ'; clear RZ'
  clear RZS; have RZS := RZS'; clear RZS'
  clear RT; have RT := RT'; clear RT'
  clear RK; have RK := RK'; clear RK'
  clear RU; have RU := RU'; clear RU'
  clear RV; have RV := RV'; clear RV'
  clear RA; have RA := RA'; clear RA'
  clear RB2; have RB2 := RB2'; clear RB2'
  have HQ' := Lib.hid (blkN HQ.out hb); clear HQ; have HQ := HQ'; clear HQ'
  have HB' := Lib.hid (HB.out.trans (hb.mono HB.out.size)); clear HB; have HB := HB'; clear HB'
  clear hb
  clear RYS
  go_wp2_with fail
  refine (HSR.out _ _ _ Z RZ.out RZS.out hZ).mono ?_; rintro e wn ⟨rfl, n3, hw⟩
  have hb := below_eqL hw
  clear hw
  have RL' := Lib.hid (rdNL RL.out hb)
  have RX' := Lib.hid (rdNL RX.out hb)
  have RY' := Lib.hid (rdNL RY.out hb)
  have RZ' := Lib.hid (rdNL RZ.out hb)
  have RZS' := Lib.hid (rdNL RZS.out hb)
  have RT' := Lib.hid (rdNL RT.out hb)
  have RK' := Lib.hid (rdNL RK.out hb)
  have RU' := Lib.hid (rdNL RU.out hb)
  have RV' := Lib.hid (rdNL RV.out hb)
  have RA' := Lib.hid (rdNL RA.out hb)
  have RB2' := Lib.hid (rdNL RB2.out hb)
  clear RL; have RL := RL'; clear RL'
  clear RX; have RX := RX'; clear RX'
  clear RY; have RY := RY'; clear RY'
  clear RZ; have RZ := RZ'; clear RZ'
  clear RZS; have RZS := RZS'; clear RZS'
  clear RT; have RT := RT'; clear RT'
  clear RK; have RK := RK'; clear RK'
  clear RU; have RU := RU'; clear RU'
  clear RV; have RV := RV'; clear RV'
  clear RA; have RA := RA'; clear RA'
  clear RB2; have RB2 := RB2'; clear RB2'
  have HQ' := Lib.hid (blkN HQ.out hb); clear HQ; have HQ := HQ'; clear HQ'
  have HB' := Lib.hid (HB.out.trans (hb.mono HB.out.size)); clear HB; have HB := HB'; clear HB'
  clear hb
  clear RZS
  go_wp2_with fail
  refine (HTS.out _ RT.out).mono ?_; rintro e wn ⟨rfl, hb⟩
  have RL' := Lib.hid (rdNL RL.out hb)
  have RX' := Lib.hid (rdNL RX.out hb)
  have RY' := Lib.hid (rdNL RY.out hb)
  have RZ' := Lib.hid (rdNL RZ.out hb)
  have RT' := Lib.hid (rdNL RT.out hb)
  have RK' := Lib.hid (rdNL RK.out hb)
  have RU' := Lib.hid (rdNL RU.out hb)
  have RV' := Lib.hid (rdNL RV.out hb)
  have RA' := Lib.hid (rdNL RA.out hb)
  have RB2' := Lib.hid (rdNL RB2.out hb)
  clear RL; have RL := RL'; clear RL'
  clear RX; have RX := RX'; clear RX'
  clear RY; have RY := RY'; clear RY'
  clear RZ; have RZ := RZ'; clear RZ'
  clear RT; have RT := RT'; clear RT'
  clear RK; have RK := RK'; clear RK'
  clear RU; have RU := RU'; clear RU'
  clear RV; have RV := RV'; clear RV'
  clear RA; have RA := RA'; clear RA'
  clear RB2; have RB2 := RB2'; clear RB2'
  have HQ' := Lib.hid (blkN HQ.out hb); clear HQ; have HQ := HQ'; clear HQ'
  have HB' := Lib.hid (HB.out.trans (hb.mono HB.out.size)); clear HB; have HB := HB'; clear HB'
  clear hb HTS
  by_cases htx : TX = ⟨#[]⟩
  · subst htx
    clear RT
    clear RK
    clear Hbk
    go_wp2_with fail
    iterate 2 exact (undef_no (by assumption)).elim
    refine (HSR.out _ _ _ UL RU.out RV.out hzl1).mono ?_; rintro e wn ⟨rfl, n5, hw⟩
    have hb := below_eqL hw
    clear hw
    have RL' := Lib.hid (rdNL RL.out hb)
    have RX' := Lib.hid (rdNL RX.out hb)
    have RY' := Lib.hid (rdNL RY.out hb)
    have RZ' := Lib.hid (rdNL RZ.out hb)
    have RU' := Lib.hid (rdNL RU.out hb)
    have RV' := Lib.hid (rdNL RV.out hb)
    have RA' := Lib.hid (rdNL RA.out hb)
    have RB2' := Lib.hid (rdNL RB2.out hb)
    clear RL; have RL := RL'; clear RL'
    clear RX; have RX := RX'; clear RX'
    clear RY; have RY := RY'; clear RY'
    clear RZ; have RZ := RZ'; clear RZ'
    clear RU; have RU := RU'; clear RU'
    clear RV; have RV := RV'; clear RV'
    clear RA; have RA := RA'; clear RA'
    clear RB2; have RB2 := RB2'; clear RB2'
    have HQ' := Lib.hid (blkN HQ.out hb); clear HQ; have HQ := HQ'; clear HQ'
    have HB' := Lib.hid (HB.out.trans (hb.mono HB.out.size)); clear HB; have HB := HB'; clear HB'
    clear hb
    clear RU
    clear RV
    go_wp2_with fail
    refine (SameLI_any _ _ _ _ l1 l2 _ RA.out RB2.out (by omega)).mono ?_; rintro e wn ⟨rfl, n6, hw⟩
    have hb := below_eqL hw
    clear hw
    have RL' := Lib.hid (rdNL RL.out hb)
    have RX' := Lib.hid (rdNL RX.out hb)
    have RY' := Lib.hid (rdNL RY.out hb)
    have RZ' := Lib.hid (rdNL RZ.out hb)
    have RA' := Lib.hid (rdNL RA.out hb)
    have RB2' := Lib.hid (rdNL RB2.out hb)
    clear RL; have RL := RL'; clear RL'
    clear RX; have RX := RX'; clear RX'
    clear RY; have RY := RY'; clear RY'
    clear RZ; have RZ := RZ'; clear RZ'
    clear RA; have RA := RA'; clear RA'
    clear RB2; have RB2 := RB2'; clear RB2'
    have HQ' := Lib.hid (blkN HQ.out hb); clear HQ; have HQ := HQ'; clear HQ'
    have HB' := Lib.hid (HB.out.trans (hb.mono HB.out.size)); clear HB; have HB := HB'; clear HB'
    clear hb
    go_wp2_with fail
    refine (SameLS_any _ _ _ _ l1 l2 _ RA.out RB2.out (by omega)).mono ?_; rintro e wn ⟨rfl, n7, hw⟩
    have hb := below_eqL hw
    clear hw
    have RL' := Lib.hid (rdNL RL.out hb)
    have RX' := Lib.hid (rdNL RX.out hb)
    have RY' := Lib.hid (rdNL RY.out hb)
    have RZ' := Lib.hid (rdNL RZ.out hb)
    have RA' := Lib.hid (rdNL RA.out hb)
    have RB2' := Lib.hid (rdNL RB2.out hb)
    clear RL; have RL := RL'; clear RL'
    clear RX; have RX := RX'; clear RX'
    clear RY; have RY := RY'; clear RY'
    clear RZ; have RZ := RZ'; clear RZ'
    clear RA; have RA := RA'; clear RA'
    clear RB2; have RB2 := RB2'; clear RB2'
    have HQ' := Lib.hid (blkN HQ.out hb); clear HQ; have HQ := HQ'; clear HQ'
    have HB' := Lib.hid (HB.out.trans (hb.mono HB.out.size)); clear HB; have HB := HB'; clear HB'
    clear hb
    clear RA
    clear RB2
    generalize decide (l1 = l2) = D at *
    go_wp2_with fail
    refine (HVI.out _ RL.out).mono ?_; rintro e wn ⟨rfl, hb⟩
    have RL' := Lib.hid (rdNL RL.out hb)
    have RX' := Lib.hid (rdNL RX.out hb)
    have RY' := Lib.hid (rdNL RY.out hb)
    have RZ' := Lib.hid (rdNL RZ.out hb)
    clear RL; have RL := RL'; clear RL'
    clear RX; have RX := RX'; clear RX'
    clear RY; have RY := RY'; clear RY'
    clear RZ; have RZ := RZ'; clear RZ'
    have HQ' := Lib.hid (blkN HQ.out hb); clear HQ; have HQ := HQ'; clear HQ'
    have HB' := Lib.hid (HB.out.trans (hb.mono HB.out.size)); clear HB; have HB := HB'; clear HB'
    clear hb HVI
    go_wp2_with fail
    refine (HVS.out _ RL.out).mono ?_; rintro e wn ⟨rfl, n8, hw⟩
    have hb := below_eqL hw
    clear hw
    have RL' := Lib.hid (rdNL RL.out hb)
    have RX' := Lib.hid (rdNL RX.out hb)
    have RY' := Lib.hid (rdNL RY.out hb)
    have RZ' := Lib.hid (rdNL RZ.out hb)
    clear RL; have RL := RL'; clear RL'
    clear RX; have RX := RX'; clear RX'
    clear RY; have RY := RY'; clear RY'
    clear RZ; have RZ := RZ'; clear RZ'
    have HQ' := Lib.hid (blkN HQ.out hb); clear HQ; have HQ := HQ'; clear HQ'
    have HB' := Lib.hid (HB.out.trans (hb.mono HB.out.size)); clear HB; have HB := HB'; clear HB'
    clear hb
    clear HVS
    by_cases hc2 : C2 = 0
    · subst hc2
      obtain ⟨g1, g2, g3⟩ := HLC.out rfl
      have HBY := Lib.hid (fun wx (hx : RdL wx wx.heap.size (.slice A7 Y.length c7) Y) => BorrowN_any _ _ Y s d wx hx (Nat.le_refl _) hY HsY.out (fun A n c' e => by injection e with _ e2 e3; exact ⟨by have := Hc7.out.1; omega, by have := Hc7.out.2; omega⟩) g1 g2)
      have HVY := Lib.hid (fun wx (hx : RdL wx wx.heap.size (.slice A7 Y.length c7) Y) => ValidLoansI_any _ _ Y wx hx (Nat.le_refl _) hY HsY.out (fun A n c' e => by injection e with _ e2 e3; exact ⟨by have := Hc7.out.1; omega, by have := Hc7.out.2; omega⟩))
      have HVZ := Lib.hid (fun wx (hx : RdL wx wx.heap.size (.slice A9 Z.length c9) Z) => ValidLoansI_any _ _ Z wx hx (Nat.le_refl _) hZ HsZ.out (fun A n c' e => by injection e with _ e2 e3; exact ⟨by have := Hc9.out.1; omega, by have := Hc9.out.2; omega⟩))
      rw [g1] at HVY
      rw [g3] at HVZ
      clear g1 g2 g3 HLC
      go_wp2_with fail
      refine (HBY.out _ RY.out).mono ?_; rintro e wn ⟨rfl, hb⟩
      have RL' := Lib.hid (rdNL RL.out hb)
      have RX' := Lib.hid (rdNL RX.out hb)
      have RY' := Lib.hid (rdNL RY.out hb)
      have RZ' := Lib.hid (rdNL RZ.out hb)
      clear RL; have RL := RL'; clear RL'
      clear RX; have RX := RX'; clear RX'
      clear RY; have RY := RY'; clear RY'
      clear RZ; have RZ := RZ'; clear RZ'
      have HQ' := Lib.hid (blkN HQ.out hb); clear HQ; have HQ := HQ'; clear HQ'
      have HB' := Lib.hid (HB.out.trans (hb.mono HB.out.size)); clear HB; have HB := HB'; clear HB'
      clear hb HBY
      go_wp2_with fail
      refine (HVY.out _ RY.out).mono ?_; rintro e wn ⟨rfl, hb⟩
      have RL' := Lib.hid (rdNL RL.out hb)
      have RX' := Lib.hid (rdNL RX.out hb)
      have RY' := Lib.hid (rdNL RY.out hb)
      have RZ' := Lib.hid (rdNL RZ.out hb)
      clear RL; have RL := RL'; clear RL'
      clear RX; have RX := RX'; clear RX'
      clear RY; have RY := RY'; clear RY'
      clear RZ; have RZ := RZ'; clear RZ'
      have HQ' := Lib.hid (blkN HQ.out hb); clear HQ; have HQ := HQ'; clear HQ'
      have HB' := Lib.hid (HB.out.trans (hb.mono HB.out.size)); clear HB; have HB := HB'; clear HB'
      clear hb HVY
      go_wp2_with fail
      refine (HVZ.out _ RZ.out).mono ?_; rintro e wn ⟨rfl, hb⟩
      have RL' := Lib.hid (rdNL RL.out hb)
      have RX' := Lib.hid (rdNL RX.out hb)
      have RY' := Lib.hid (rdNL RY.out hb)
      have RZ' := Lib.hid (rdNL RZ.out hb)
      clear RL; have RL := RL'; clear RL'
      clear RX; have RX := RX'; clear RX'
      clear RY; have RY := RY'; clear RY'
      clear RZ; have RZ := RZ'; clear RZ'
      have HQ' := Lib.hid (blkN HQ.out hb); clear HQ; have HQ := HQ'; clear HQ'
      have HB' := Lib.hid (HB.out.trans (hb.mono HB.out.size)); clear HB; have HB := HB'; clear HB'
      clear hb HVZ
      clear RY
      clear RZ
      by_cases hc1 : C1 = 0
      · subst hc1
        obtain ⟨⟨g1, g2⟩, ⟨g3, g4, g5⟩, g6⟩ := HL.out rfl
        obtain ⟨bx, ox, rfl⟩ := rdL_some RX.out g6
        have HB1 := Lib.hid (fun wx hx => BorrowI_any wx.heap.size bx ox c4 X xa xf wx hx (Nat.le_refl _) hX HsX.out Hc4.out.1 Hc4.out.2)
        have HB2 := Lib.hid (fun wx hx => BorrowI_any wx.heap.size bx ox c4 X xa xt wx hx (Nat.le_refl _) hX HsX.out Hc4.out.1 Hc4.out.2)
        have HCX := Lib.hid (fun wx hx => CancelI_any wx.heap.size bx ox c4 X xa xt wx hx (Nat.le_refl _) hX HsX.out Hc4.out.1 Hc4.out.2)
        unfold RetBw at HB1 HB2
        unfold RetLn at HCX
        rw [g1, g2] at HB1
        rw [g3, g4] at HB2
        rw [g3, g5] at HCX
        clear g1 g2 g3 g4 g5 g6 HL
        obtain ⟨⟨p0, p1, p2, p3⟩, _⟩ := blk4 HQ.out
        go_wp2_with fail
        refine (HB1.out _ RX.out).mono ?_; rintro e wn ⟨rfl, hb⟩
        have RL' := Lib.hid (rdNL RL.out hb)
        have RX' := Lib.hid (rdNL RX.out hb)
        clear RL; have RL := RL'; clear RL'
        clear RX; have RX := RX'; clear RX'
        have HQ' := Lib.hid (blkN HQ.out hb); clear HQ; have HQ := HQ'; clear HQ'
        have HB' := Lib.hid (HB.out.trans (hb.mono HB.out.size)); clear HB; have HB := HB'; clear HB'
        clear hb p0 p1 p2 p3 HB1
        obtain ⟨⟨p0, p1, p2, p3⟩, _⟩ := blk4 HQ.out
        go_wp2_with fail
        refine (HB2.out _ RX.out).mono ?_; rintro e wn ⟨rfl, hb⟩
        have RL' := Lib.hid (rdNL RL.out hb)
        have RX' := Lib.hid (rdNL RX.out hb)
        clear RL; have RL := RL'; clear RL'
        clear RX; have RX := RX'; clear RX'
        have HQ' := Lib.hid (blkN HQ.out hb); clear HQ; have HQ := HQ'; clear HQ'
        have HB' := Lib.hid (HB.out.trans (hb.mono HB.out.size)); clear HB; have HB := HB'; clear HB'
        clear hb p0 p1 p2 p3 HB2
        obtain ⟨⟨p0, p1, p2, p3⟩, _⟩ := blk4 HQ.out
        go_wp2_with fail
        refine (HCX.out _ RX.out).mono ?_; rintro e wn ⟨v20, rfl, ho, hb⟩
        have RN0 := Lib.hid (Rd.of_own ho)
        have RL' := Lib.hid (rdNL RL.out hb)
        have RX' := Lib.hid (rdNL RX.out hb)
        clear RL; have RL := RL'; clear RL'
        clear RX; have RX := RX'; clear RX'
        have HQ' := Lib.hid (blkN HQ.out hb); clear HQ; have HQ := HQ'; clear HQ'
        have HB' := Lib.hid (HB.out.trans (hb.mono HB.out.size)); clear HB; have HB := HB'; clear HB'
        have RN := RN0; clear RN0
        obtain ⟨A20, c20, rfl⟩ := sl_of_ownL ho
        clear ho hb p0 p1 p2 p3 HCX
        clear RX
        obtain ⟨⟨p0, p1, p2, p3⟩, _⟩ := blk4 HQ.out
        go_wp2_with fail
        refine (HSR.out _ _ _ xs RN.out RL.out hm3).mono ?_; rintro e wn ⟨rfl, n9, hw⟩
        have hb := below_eqL hw
        clear hw
        have RL' := Lib.hid (rdNL RL.out hb)
        have RN' := Lib.hid (rdNL RN.out hb)
        clear RL; have RL := RL'; clear RL'
        clear RN; have RN := RN'; clear RN'
        have HQ' := Lib.hid (blkN HQ.out hb); clear HQ; have HQ := HQ'; clear HQ'
        have HB' := Lib.hid (HB.out.trans (hb.mono HB.out.size)); clear HB; have HB := HB'; clear HB'
        clear hb
        go_wp2_with fail
        go_ret
        exact ⟨rfl, HB.out⟩
      · have hc1' : (C1 == 0) = false := by rw [beq_eq_false_iff_ne]; exact hc1
        clear hc1 HL
        go_wp2_with fail
        go_ret
        exact ⟨rfl, HB.out⟩
    · have hc2' : (C2 == 0) = false := by rw [beq_eq_false_iff_ne]; exact hc2
      clear hc2 HLC
      clear RY
      clear RZ
      by_cases hc1 : C1 = 0
      · subst hc1
        obtain ⟨⟨g1, g2⟩, ⟨g3, g4, g5⟩, g6⟩ := HL.out rfl
        obtain ⟨bx, ox, rfl⟩ := rdL_some RX.out g6
        have HB1 := Lib.hid (fun wx hx => BorrowI_any wx.heap.size bx ox c4 X xa xf wx hx (Nat.le_refl _) hX HsX.out Hc4.out.1 Hc4.out.2)
        have HB2 := Lib.hid (fun wx hx => BorrowI_any wx.heap.size bx ox c4 X xa xt wx hx (Nat.le_refl _) hX HsX.out Hc4.out.1 Hc4.out.2)
        have HCX := Lib.hid (fun wx hx => CancelI_any wx.heap.size bx ox c4 X xa xt wx hx (Nat.le_refl _) hX HsX.out Hc4.out.1 Hc4.out.2)
        unfold RetBw at HB1 HB2
        unfold RetLn at HCX
        rw [g1, g2] at HB1
        rw [g3, g4] at HB2
        rw [g3, g5] at HCX
        clear g1 g2 g3 g4 g5 g6 HL
        obtain ⟨⟨p0, p1, p2, p3⟩, _⟩ := blk4 HQ.out
        go_wp2_with fail
        refine (HB1.out _ RX.out).mono ?_; rintro e wn ⟨rfl, hb⟩
        have RL' := Lib.hid (rdNL RL.out hb)
        have RX' := Lib.hid (rdNL RX.out hb)
        clear RL; have RL := RL'; clear RL'
        clear RX; have RX := RX'; clear RX'
        have HQ' := Lib.hid (blkN HQ.out hb); clear HQ; have HQ := HQ'; clear HQ'
        have HB' := Lib.hid (HB.out.trans (hb.mono HB.out.size)); clear HB; have HB := HB'; clear HB'
        clear hb p0 p1 p2 p3 HB1
        obtain ⟨⟨p0, p1, p2, p3⟩, _⟩ := blk4 HQ.out
        go_wp2_with fail
        refine (HB2.out _ RX.out).mono ?_; rintro e wn ⟨rfl, hb⟩
        have RL' := Lib.hid (rdNL RL.out hb)
        have RX' := Lib.hid (rdNL RX.out hb)
        clear RL; have RL := RL'; clear RL'
        clear RX; have RX := RX'; clear RX'
        have HQ' := Lib.hid (blkN HQ.out hb); clear HQ; have HQ := HQ'; clear HQ'
        have HB' := Lib.hid (HB.out.trans (hb.mono HB.out.size)); clear HB; have HB := HB'; clear HB'
        clear hb p0 p1 p2 p3 HB2
        obtain ⟨⟨p0, p1, p2, p3⟩, _⟩ := blk4 HQ.out
        go_wp2_with fail
        refine (HCX.out _ RX.out).mono ?_; rintro e wn ⟨v20, rfl, ho, hb⟩
        have RN0 := Lib.hid (Rd.of_own ho)
        have RL' := Lib.hid (rdNL RL.out hb)
        have RX' := Lib.hid (rdNL RX.out hb)
        clear RL; have RL := RL'; clear RL'
        clear RX; have RX := RX'; clear RX'
        have HQ' := Lib.hid (blkN HQ.out hb); clear HQ; have HQ := HQ'; clear HQ'
        have HB' := Lib.hid (HB.out.trans (hb.mono HB.out.size)); clear HB; have HB := HB'; clear HB'
        have RN := RN0; clear RN0
        obtain ⟨A20, c20, rfl⟩ := sl_of_ownL ho
        clear ho hb p0 p1 p2 p3 HCX
        clear RX
        obtain ⟨⟨p0, p1, p2, p3⟩, _⟩ := blk4 HQ.out
        go_wp2_with fail
        refine (HSR.out _ _ _ xs RN.out RL.out hm3).mono ?_; rintro e wn ⟨rfl, n9, hw⟩
        have hb := below_eqL hw
        clear hw
        have RL' := Lib.hid (rdNL RL.out hb)
        have RN' := Lib.hid (rdNL RN.out hb)
        clear RL; have RL := RL'; clear RL'
        clear RN; have RN := RN'; clear RN'
        have HQ' := Lib.hid (blkN HQ.out hb); clear HQ; have HQ := HQ'; clear HQ'
        have HB' := Lib.hid (HB.out.trans (hb.mono HB.out.size)); clear HB; have HB := HB'; clear HB'
        clear hb
        go_wp2_with fail
        go_ret
        exact ⟨rfl, HB.out⟩
      · have hc1' : (C1 == 0) = false := by rw [beq_eq_false_iff_ne]; exact hc1
        clear hc1 HL
        go_wp2_with fail
        go_ret
        exact ⟨rfl, HB.out⟩
  · have htx' : (TX.toList == []) = false := by rw [beq_eq_false_iff_ne]; intro h; refine htx (ba_inj ?_); rw [h, ByteArray.toList_eq]
    obtain ⟨hr1, hr2⟩ := Hbk.out htx
    have hr3 := hr1.symm
    clear hr1
    subst hr3
    subst hr2
    clear htx Hbk
    go_wp2_with fail
    refine (HSR.out _ _ _ ts RK.out RT.out hm11).mono ?_; rintro e wn ⟨rfl, n4, hw⟩
    have hb := below_eqL hw
    clear hw
    have RL' := Lib.hid (rdNL RL.out hb)
    have RX' := Lib.hid (rdNL RX.out hb)
    have RY' := Lib.hid (rdNL RY.out hb)
    have RZ' := Lib.hid (rdNL RZ.out hb)
    have RT' := Lib.hid (rdNL RT.out hb)
    have RK' := Lib.hid (rdNL RK.out hb)
    have RU' := Lib.hid (rdNL RU.out hb)
    have RV' := Lib.hid (rdNL RV.out hb)
    have RA' := Lib.hid (rdNL RA.out hb)
    have RB2' := Lib.hid (rdNL RB2.out hb)
    clear RL; have RL := RL'; clear RL'
    clear RX; have RX := RX'; clear RX'
    clear RY; have RY := RY'; clear RY'
    clear RZ; have RZ := RZ'; clear RZ'
    clear RT; have RT := RT'; clear RT'
    clear RK; have RK := RK'; clear RK'
    clear RU; have RU := RU'; clear RU'
    clear RV; have RV := RV'; clear RV'
    clear RA; have RA := RA'; clear RA'
    clear RB2; have RB2 := RB2'; clear RB2'
    have HQ' := Lib.hid (blkN HQ.out hb); clear HQ; have HQ := HQ'; clear HQ'
    have HB' := Lib.hid (HB.out.trans (hb.mono HB.out.size)); clear HB; have HB := HB'; clear HB'
    clear hb
    clear RT
    clear RK
    go_wp2_with fail
    refine (HSR.out _ _ _ UL RU.out RV.out hzl1).mono ?_; rintro e wn ⟨rfl, n5, hw⟩
    have hb := below_eqL hw
    clear hw
    have RL' := Lib.hid (rdNL RL.out hb)
    have RX' := Lib.hid (rdNL RX.out hb)
    have RY' := Lib.hid (rdNL RY.out hb)
    have RZ' := Lib.hid (rdNL RZ.out hb)
    have RU' := Lib.hid (rdNL RU.out hb)
    have RV' := Lib.hid (rdNL RV.out hb)
    have RA' := Lib.hid (rdNL RA.out hb)
    have RB2' := Lib.hid (rdNL RB2.out hb)
    clear RL; have RL := RL'; clear RL'
    clear RX; have RX := RX'; clear RX'
    clear RY; have RY := RY'; clear RY'
    clear RZ; have RZ := RZ'; clear RZ'
    clear RU; have RU := RU'; clear RU'
    clear RV; have RV := RV'; clear RV'
    clear RA; have RA := RA'; clear RA'
    clear RB2; have RB2 := RB2'; clear RB2'
    have HQ' := Lib.hid (blkN HQ.out hb); clear HQ; have HQ := HQ'; clear HQ'
    have HB' := Lib.hid (HB.out.trans (hb.mono HB.out.size)); clear HB; have HB := HB'; clear HB'
    clear hb
    clear RU
    clear RV
    go_wp2_with fail
    refine (SameLI_any _ _ _ _ l1 l2 _ RA.out RB2.out (by omega)).mono ?_; rintro e wn ⟨rfl, n6, hw⟩
    have hb := below_eqL hw
    clear hw
    have RL' := Lib.hid (rdNL RL.out hb)
    have RX' := Lib.hid (rdNL RX.out hb)
    have RY' := Lib.hid (rdNL RY.out hb)
    have RZ' := Lib.hid (rdNL RZ.out hb)
    have RA' := Lib.hid (rdNL RA.out hb)
    have RB2' := Lib.hid (rdNL RB2.out hb)
    clear RL; have RL := RL'; clear RL'
    clear RX; have RX := RX'; clear RX'
    clear RY; have RY := RY'; clear RY'
    clear RZ; have RZ := RZ'; clear RZ'
    clear RA; have RA := RA'; clear RA'
    clear RB2; have RB2 := RB2'; clear RB2'
    have HQ' := Lib.hid (blkN HQ.out hb); clear HQ; have HQ := HQ'; clear HQ'
    have HB' := Lib.hid (HB.out.trans (hb.mono HB.out.size)); clear HB; have HB := HB'; clear HB'
    clear hb
    go_wp2_with fail
    refine (SameLS_any _ _ _ _ l1 l2 _ RA.out RB2.out (by omega)).mono ?_; rintro e wn ⟨rfl, n7, hw⟩
    have hb := below_eqL hw
    clear hw
    have RL' := Lib.hid (rdNL RL.out hb)
    have RX' := Lib.hid (rdNL RX.out hb)
    have RY' := Lib.hid (rdNL RY.out hb)
    have RZ' := Lib.hid (rdNL RZ.out hb)
    have RA' := Lib.hid (rdNL RA.out hb)
    have RB2' := Lib.hid (rdNL RB2.out hb)
    clear RL; have RL := RL'; clear RL'
    clear RX; have RX := RX'; clear RX'
    clear RY; have RY := RY'; clear RY'
    clear RZ; have RZ := RZ'; clear RZ'
    clear RA; have RA := RA'; clear RA'
    clear RB2; have RB2 := RB2'; clear RB2'
    have HQ' := Lib.hid (blkN HQ.out hb); clear HQ; have HQ := HQ'; clear HQ'
    have HB' := Lib.hid (HB.out.trans (hb.mono HB.out.size)); clear HB; have HB := HB'; clear HB'
    clear hb
    clear RA
    clear RB2
    generalize decide (l1 = l2) = D at *
    go_wp2_with fail
    refine (HVI.out _ RL.out).mono ?_; rintro e wn ⟨rfl, hb⟩
    have RL' := Lib.hid (rdNL RL.out hb)
    have RX' := Lib.hid (rdNL RX.out hb)
    have RY' := Lib.hid (rdNL RY.out hb)
    have RZ' := Lib.hid (rdNL RZ.out hb)
    clear RL; have RL := RL'; clear RL'
    clear RX; have RX := RX'; clear RX'
    clear RY; have RY := RY'; clear RY'
    clear RZ; have RZ := RZ'; clear RZ'
    have HQ' := Lib.hid (blkN HQ.out hb); clear HQ; have HQ := HQ'; clear HQ'
    have HB' := Lib.hid (HB.out.trans (hb.mono HB.out.size)); clear HB; have HB := HB'; clear HB'
    clear hb HVI
    go_wp2_with fail
    refine (HVS.out _ RL.out).mono ?_; rintro e wn ⟨rfl, n8, hw⟩
    have hb := below_eqL hw
    clear hw
    have RL' := Lib.hid (rdNL RL.out hb)
    have RX' := Lib.hid (rdNL RX.out hb)
    have RY' := Lib.hid (rdNL RY.out hb)
    have RZ' := Lib.hid (rdNL RZ.out hb)
    clear RL; have RL := RL'; clear RL'
    clear RX; have RX := RX'; clear RX'
    clear RY; have RY := RY'; clear RY'
    clear RZ; have RZ := RZ'; clear RZ'
    have HQ' := Lib.hid (blkN HQ.out hb); clear HQ; have HQ := HQ'; clear HQ'
    have HB' := Lib.hid (HB.out.trans (hb.mono HB.out.size)); clear HB; have HB := HB'; clear HB'
    clear hb
    clear HVS
    by_cases hc2 : C2 = 0
    · subst hc2
      obtain ⟨g1, g2, g3⟩ := HLC.out rfl
      have HBY := Lib.hid (fun wx (hx : RdL wx wx.heap.size (.slice A7 Y.length c7) Y) => BorrowN_any _ _ Y s d wx hx (Nat.le_refl _) hY HsY.out (fun A n c' e => by injection e with _ e2 e3; exact ⟨by have := Hc7.out.1; omega, by have := Hc7.out.2; omega⟩) g1 g2)
      have HVY := Lib.hid (fun wx (hx : RdL wx wx.heap.size (.slice A7 Y.length c7) Y) => ValidLoansI_any _ _ Y wx hx (Nat.le_refl _) hY HsY.out (fun A n c' e => by injection e with _ e2 e3; exact ⟨by have := Hc7.out.1; omega, by have := Hc7.out.2; omega⟩))
      have HVZ := Lib.hid (fun wx (hx : RdL wx wx.heap.size (.slice A9 Z.length c9) Z) => ValidLoansI_any _ _ Z wx hx (Nat.le_refl _) hZ HsZ.out (fun A n c' e => by injection e with _ e2 e3; exact ⟨by have := Hc9.out.1; omega, by have := Hc9.out.2; omega⟩))
      rw [g1] at HVY
      rw [g3] at HVZ
      clear g1 g2 g3 HLC
      go_wp2_with fail
      refine (HBY.out _ RY.out).mono ?_; rintro e wn ⟨rfl, hb⟩
      have RL' := Lib.hid (rdNL RL.out hb)
      have RX' := Lib.hid (rdNL RX.out hb)
      have RY' := Lib.hid (rdNL RY.out hb)
      have RZ' := Lib.hid (rdNL RZ.out hb)
      clear RL; have RL := RL'; clear RL'
      clear RX; have RX := RX'; clear RX'
      clear RY; have RY := RY'; clear RY'
      clear RZ; have RZ := RZ'; clear RZ'
      have HQ' := Lib.hid (blkN HQ.out hb); clear HQ; have HQ := HQ'; clear HQ'
      have HB' := Lib.hid (HB.out.trans (hb.mono HB.out.size)); clear HB; have HB := HB'; clear HB'
      clear hb HBY
      go_wp2_with fail
      refine (HVY.out _ RY.out).mono ?_; rintro e wn ⟨rfl, hb⟩
      have RL' := Lib.hid (rdNL RL.out hb)
      have RX' := Lib.hid (rdNL RX.out hb)
      have RY' := Lib.hid (rdNL RY.out hb)
      have RZ' := Lib.hid (rdNL RZ.out hb)
      clear RL; have RL := RL'; clear RL'
      clear RX; have RX := RX'; clear RX'
      clear RY; have RY := RY'; clear RY'
      clear RZ; have RZ := RZ'; clear RZ'
      have HQ' := Lib.hid (blkN HQ.out hb); clear HQ; have HQ := HQ'; clear HQ'
      have HB' := Lib.hid (HB.out.trans (hb.mono HB.out.size)); clear HB; have HB := HB'; clear HB'
      clear hb HVY
      go_wp2_with fail
      refine (HVZ.out _ RZ.out).mono ?_; rintro e wn ⟨rfl, hb⟩
      have RL' := Lib.hid (rdNL RL.out hb)
      have RX' := Lib.hid (rdNL RX.out hb)
      have RY' := Lib.hid (rdNL RY.out hb)
      have RZ' := Lib.hid (rdNL RZ.out hb)
      clear RL; have RL := RL'; clear RL'
      clear RX; have RX := RX'; clear RX'
      clear RY; have RY := RY'; clear RY'
      clear RZ; have RZ := RZ'; clear RZ'
      have HQ' := Lib.hid (blkN HQ.out hb); clear HQ; have HQ := HQ'; clear HQ'
      have HB' := Lib.hid (HB.out.trans (hb.mono HB.out.size)); clear HB; have HB := HB'; clear HB'
      clear hb HVZ
      clear RY
      clear RZ
      by_cases hc1 : C1 = 0
      · subst hc1
        obtain ⟨⟨g1, g2⟩, ⟨g3, g4, g5⟩, g6⟩ := HL.out rfl
        obtain ⟨bx, ox, rfl⟩ := rdL_some RX.out g6
        have HB1 := Lib.hid (fun wx hx => BorrowI_any wx.heap.size bx ox c4 X xa xf wx hx (Nat.le_refl _) hX HsX.out Hc4.out.1 Hc4.out.2)
        have HB2 := Lib.hid (fun wx hx => BorrowI_any wx.heap.size bx ox c4 X xa xt wx hx (Nat.le_refl _) hX HsX.out Hc4.out.1 Hc4.out.2)
        have HCX := Lib.hid (fun wx hx => CancelI_any wx.heap.size bx ox c4 X xa xt wx hx (Nat.le_refl _) hX HsX.out Hc4.out.1 Hc4.out.2)
        unfold RetBw at HB1 HB2
        unfold RetLn at HCX
        rw [g1, g2] at HB1
        rw [g3, g4] at HB2
        rw [g3, g5] at HCX
        clear g1 g2 g3 g4 g5 g6 HL
        obtain ⟨⟨p0, p1, p2, p3⟩, _⟩ := blk4 HQ.out
        go_wp2_with fail
        refine (HB1.out _ RX.out).mono ?_; rintro e wn ⟨rfl, hb⟩
        have RL' := Lib.hid (rdNL RL.out hb)
        have RX' := Lib.hid (rdNL RX.out hb)
        clear RL; have RL := RL'; clear RL'
        clear RX; have RX := RX'; clear RX'
        have HQ' := Lib.hid (blkN HQ.out hb); clear HQ; have HQ := HQ'; clear HQ'
        have HB' := Lib.hid (HB.out.trans (hb.mono HB.out.size)); clear HB; have HB := HB'; clear HB'
        clear hb p0 p1 p2 p3 HB1
        obtain ⟨⟨p0, p1, p2, p3⟩, _⟩ := blk4 HQ.out
        go_wp2_with fail
        refine (HB2.out _ RX.out).mono ?_; rintro e wn ⟨rfl, hb⟩
        have RL' := Lib.hid (rdNL RL.out hb)
        have RX' := Lib.hid (rdNL RX.out hb)
        clear RL; have RL := RL'; clear RL'
        clear RX; have RX := RX'; clear RX'
        have HQ' := Lib.hid (blkN HQ.out hb); clear HQ; have HQ := HQ'; clear HQ'
        have HB' := Lib.hid (HB.out.trans (hb.mono HB.out.size)); clear HB; have HB := HB'; clear HB'
        clear hb p0 p1 p2 p3 HB2
        obtain ⟨⟨p0, p1, p2, p3⟩, _⟩ := blk4 HQ.out
        go_wp2_with fail
        refine (HCX.out _ RX.out).mono ?_; rintro e wn ⟨v20, rfl, ho, hb⟩
        have RN0 := Lib.hid (Rd.of_own ho)
        have RL' := Lib.hid (rdNL RL.out hb)
        have RX' := Lib.hid (rdNL RX.out hb)
        clear RL; have RL := RL'; clear RL'
        clear RX; have RX := RX'; clear RX'
        have HQ' := Lib.hid (blkN HQ.out hb); clear HQ; have HQ := HQ'; clear HQ'
        have HB' := Lib.hid (HB.out.trans (hb.mono HB.out.size)); clear HB; have HB := HB'; clear HB'
        have RN := RN0; clear RN0
        obtain ⟨A20, c20, rfl⟩ := sl_of_ownL ho
        clear ho hb p0 p1 p2 p3 HCX
        clear RX
        obtain ⟨⟨p0, p1, p2, p3⟩, _⟩ := blk4 HQ.out
        go_wp2_with fail
        refine (HSR.out _ _ _ xs RN.out RL.out hm3).mono ?_; rintro e wn ⟨rfl, n9, hw⟩
        have hb := below_eqL hw
        clear hw
        have RL' := Lib.hid (rdNL RL.out hb)
        have RN' := Lib.hid (rdNL RN.out hb)
        clear RL; have RL := RL'; clear RL'
        clear RN; have RN := RN'; clear RN'
        have HQ' := Lib.hid (blkN HQ.out hb); clear HQ; have HQ := HQ'; clear HQ'
        have HB' := Lib.hid (HB.out.trans (hb.mono HB.out.size)); clear HB; have HB := HB'; clear HB'
        clear hb
        go_wp2_with fail
        go_ret
        exact ⟨rfl, HB.out⟩
      · have hc1' : (C1 == 0) = false := by rw [beq_eq_false_iff_ne]; exact hc1
        clear hc1 HL
        go_wp2_with fail
        go_ret
        exact ⟨rfl, HB.out⟩
    · have hc2' : (C2 == 0) = false := by rw [beq_eq_false_iff_ne]; exact hc2
      clear hc2 HLC
      clear RY
      clear RZ
      by_cases hc1 : C1 = 0
      · subst hc1
        obtain ⟨⟨g1, g2⟩, ⟨g3, g4, g5⟩, g6⟩ := HL.out rfl
        obtain ⟨bx, ox, rfl⟩ := rdL_some RX.out g6
        have HB1 := Lib.hid (fun wx hx => BorrowI_any wx.heap.size bx ox c4 X xa xf wx hx (Nat.le_refl _) hX HsX.out Hc4.out.1 Hc4.out.2)
        have HB2 := Lib.hid (fun wx hx => BorrowI_any wx.heap.size bx ox c4 X xa xt wx hx (Nat.le_refl _) hX HsX.out Hc4.out.1 Hc4.out.2)
        have HCX := Lib.hid (fun wx hx => CancelI_any wx.heap.size bx ox c4 X xa xt wx hx (Nat.le_refl _) hX HsX.out Hc4.out.1 Hc4.out.2)
        unfold RetBw at HB1 HB2
        unfold RetLn at HCX
        rw [g1, g2] at HB1
        rw [g3, g4] at HB2
        rw [g3, g5] at HCX
        clear g1 g2 g3 g4 g5 g6 HL
        obtain ⟨⟨p0, p1, p2, p3⟩, _⟩ := blk4 HQ.out
        go_wp2_with fail
        refine (HB1.out _ RX.out).mono ?_; rintro e wn ⟨rfl, hb⟩
        have RL' := Lib.hid (rdNL RL.out hb)
        have RX' := Lib.hid (rdNL RX.out hb)
        clear RL; have RL := RL'; clear RL'
        clear RX; have RX := RX'; clear RX'
        have HQ' := Lib.hid (blkN HQ.out hb); clear HQ; have HQ := HQ'; clear HQ'
        have HB' := Lib.hid (HB.out.trans (hb.mono HB.out.size)); clear HB; have HB := HB'; clear HB'
        clear hb p0 p1 p2 p3 HB1
        obtain ⟨⟨p0, p1, p2, p3⟩, _⟩ := blk4 HQ.out
        go_wp2_with fail
        refine (HB2.out _ RX.out).mono ?_; rintro e wn ⟨rfl, hb⟩
        have RL' := Lib.hid (rdNL RL.out hb)
        have RX' := Lib.hid (rdNL RX.out hb)
        clear RL; have RL := RL'; clear RL'
        clear RX; have RX := RX'; clear RX'
        have HQ' := Lib.hid (blkN HQ.out hb); clear HQ; have HQ := HQ'; clear HQ'
        have HB' := Lib.hid (HB.out.trans (hb.mono HB.out.size)); clear HB; have HB := HB'; clear HB'
        clear hb p0 p1 p2 p3 HB2
        obtain ⟨⟨p0, p1, p2, p3⟩, _⟩ := blk4 HQ.out
        go_wp2_with fail
        refine (HCX.out _ RX.out).mono ?_; rintro e wn ⟨v20, rfl, ho, hb⟩
        have RN0 := Lib.hid (Rd.of_own ho)
        have RL' := Lib.hid (rdNL RL.out hb)
        have RX' := Lib.hid (rdNL RX.out hb)
        clear RL; have RL := RL'; clear RL'
        clear RX; have RX := RX'; clear RX'
        have HQ' := Lib.hid (blkN HQ.out hb); clear HQ; have HQ := HQ'; clear HQ'
        have HB' := Lib.hid (HB.out.trans (hb.mono HB.out.size)); clear HB; have HB := HB'; clear HB'
        have RN := RN0; clear RN0
        obtain ⟨A20, c20, rfl⟩ := sl_of_ownL ho
        clear ho hb p0 p1 p2 p3 HCX
        clear RX
        obtain ⟨⟨p0, p1, p2, p3⟩, _⟩ := blk4 HQ.out
        go_wp2_with fail
        refine (HSR.out _ _ _ xs RN.out RL.out hm3).mono ?_; rintro e wn ⟨rfl, n9, hw⟩
        have hb := below_eqL hw
        clear hw
        have RL' := Lib.hid (rdNL RL.out hb)
        have RN' := Lib.hid (rdNL RN.out hb)
        clear RL; have RL := RL'; clear RL'
        clear RN; have RN := RN'; clear RN'
        have HQ' := Lib.hid (blkN HQ.out hb); clear HQ; have HQ := HQ'; clear HQ'
        have HB' := Lib.hid (HB.out.trans (hb.mono HB.out.size)); clear HB; have HB := HB'; clear HB'
        clear hb
        go_wp2_with fail
        go_ret
        exact ⟨rfl, HB.out⟩
      · have hc1' : (C1 == 0) = false := by rw [beq_eq_false_iff_ne]; exact hc1
        clear hc1 HL
        go_wp2_with fail
        go_ret
        exact ⟨rfl, HB.out⟩
end Go.Proofs.YtmheijnckmlbnaaDoor
