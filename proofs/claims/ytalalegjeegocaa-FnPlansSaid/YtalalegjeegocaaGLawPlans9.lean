/- Merged texts: Jb26, Jb27, Jb28. -/
import Derived.Test.YtalalegjeegocaaGLawPlans8
/- Jobs, part 26: l22Days (gen_jb26.py). -/
namespace Go.Proofs.Ytalalegjeegocaa
open Go.RowKit Go.Joins

/-- a drawn list of jobs and a row of days -/
structure DrP (W w : World) (B g k : Nat) (bs : List UInt8) (v : Value) (ys : List (Jb × Value)) (b5 : Nat) (vs : Value) (M : Nat) (S : Nat → Int) : Prop extends DrJ W w B g k bs v ys where
  st : w.ownsRow b5 2 1 vs M (tab M S)
  old : ∀ y ∈ ys, ∀ x, y.2.ownBlock = some x → x < b5
  wb : W.heap.size ≤ b5
  bs5 : b5 ≤ w.heap.size
  ml : M ≤ 31
theorem DrP.draw {W w w' : World} {B g k k' b5 M : Nat} {bs : List UInt8} {v vs : Value} {ys : List (Jb × Value)} {S : Nat → Int} (h : DrP W w B g k bs v ys b5 vs M S) (hs : SrcAt w' B g k' bs) (hg : w.grownBy w' (some g)) : DrP W w' B g k' bs v ys b5 vs M S :=
  ⟨h.toDrJ.draw hs hg, own_keptJ h.st hg (by have := h.dr.lt; have := h.wb; omega), h.old, h.wb, Nat.le_trans h.bs5 hg.size, h.ml⟩
theorem DrP.more {W w : World} {B g k k' b5 M : Nat} {bs : List UInt8} {v vs : Value} {ys : List (Jb × Value)} {S : Nat → Int} (h : DrP W w B g k bs v ys b5 vs M S) (hk : k ≤ k') : DrP W w B g k' bs v ys b5 vs M S := ⟨h.toDrJ.more hk, h.st, h.old, h.wb, h.bs5, h.ml⟩
theorem DrP.below {W w w' : World} {B g k b5 M : Nat} {bs : List UInt8} {v vs : Value} {ys : List (Jb × Value)} {S : Nat → Int} (h : DrP W w B g k bs v ys b5 vs M S) (hb : Below w.heap.size w w') : DrP W w' B g k bs v ys b5 vs M S :=
  ⟨h.toDrJ.below hb, own_below h.st hb, h.old, h.wb, Nat.le_trans h.bs5 hb.size, h.ml⟩
theorem DrP.grow {W w w' : World} {B g k b5 M M' : Nat} {bs : List UInt8} {v vs vs' : Value} {ys : List (Jb × Value)} {S S' : Nat → Int} (h : DrP W w B g k bs v ys b5 vs M S) (hr : w'.ownsRow b5 2 1 vs' M' (tab M' S')) (hg : w.grownBy w' vs.ownBlock) (hm : M' ≤ 31) : DrP W w' B g k bs v ys b5 vs' M' S' := by
  have hlt : ∀ x, vs.ownBlock = some x → b5 ≤ x := fun x hx => (h.st.lt x hx).1
  refine ⟨⟨⟨h.dr.lt, h.dr.src.grown hg (fun x hx => by have h1 := hlt x hx; have h2 := h.dr.lt; have h3 := h.wb; omega), h.dr.row.kept hg (apart_p h.dr.row h.st (by decide)), grownBy_row h.dr.gr hg (fun x hx => by have h1 := hlt x hx; have h3 := h.wb; omega)⟩, fun y hy => (h.nds y hy).kept hg ?_, h.len, h.sm, h.nn⟩, hr, h.old, h.wb, Nat.le_trans h.bs5 hg.size, hm⟩
  cases hv : y.2.ownBlock with
  | none => exact .inl rfl
  | some x => exact .inr fun e => by have h1 := h.old y hy x hv; have h2 := hlt x e.symm; omega
theorem DrP.new {W w w' : World} {B g k M : Nat} {bs : List UInt8} {v vs : Value} {ys : List (Jb × Value)} {S : Nat → Int} (h : DrJ W w B g k bs v ys) (hb : Below w.heap.size w w') (hr : w'.ownsRow w.heap.size 2 1 vs M (tab M S)) (hm : M ≤ 31) : DrP W w' B g k bs v ys w.heap.size vs M S :=
  ⟨h.below hb, hr, fun y hy x hx => ((h.nds y hy).lt x hx).2, h.dr.size, hb.size, hm⟩
theorem put_bd {S : Nat → Int} {m : Nat} {z : Int} (h : ∀ i, i < m → 0 ≤ S i ∧ S i ≤ 400) (hz : 0 ≤ z ∧ z ≤ 400) : ∀ i, i < m + 1 → 0 ≤ put S m z i ∧ put S m z i ≤ 400 := fun i hi => by
  by_cases e : i = m
  · subst e; rw [put_same]; exact hz
  · rw [put_other S z e]; exact h i (by omega)
/-- days that can be read, whatever is drawn later -/
def RdG (g : Nat) (w : World) (vs : Value) (M : Nat) (S : Nat → Int) : Prop := ∀ w2, w.grownBy w2 (some g) → Rd w2 w2.heap.size vs M 1 (tab M S)
def RetDy (w : World) (B g k : Nat) (bs : List UInt8) (e : Ending) (w' : World) : Prop := ∃ v ys vs M S, e = .returned (.tuple #[v, vs]) ∧ ys.length ≤ 31 ∧ M ≤ 31 ∧ DrJ w w' B g k bs v ys ∧ (∃ A c, vs = .slice A M c) ∧ RdG g w' vs M S
theorem RetDy.of {w w' : World} {B g k n b5 M : Nat} {bs : List UInt8} {v : Value} {ys : List (Jb × Value)} {A : Option Addr} {c : Nat} {S : Nat → Int} (h : DrP w w' B g k bs v ys b5 (.slice A M c) M S) (hl : ys.length ≤ 31) (hk : k ≤ n) : RetDy w B g n bs (.returned (.tuple #[v, .slice A M c])) w' :=
  ⟨v, ys, _, M, S, rfl, hl, h.ml, h.toDrJ.more hk, ⟨A, c, rfl⟩, fun w2 hg => Rd.of_own (own_keptJ h.st hg (by have := h.dr.lt; have := h.wb; omega))⟩
theorem own_capJ {w : World} {base n m c size : Nat} {e : TypeId} {A : Option Addr} {cs : List Value} (h : w.ownsRow base e size (.slice A m c) n cs) : m ≤ c := by
  rcases h.2 with ⟨hv, h0⟩ | ⟨g, cap, cur, hv, _, _, h1, h2, _, _⟩
  · injection hv with _ e2 e3; omega
  · injection hv with _ e2 e3; subst e2 e3; omega
theorem RetDy.tail {w w' : World} {B g k n b5 M g5 c5 c0' : Nat} {bs : List UInt8} {v : Value} {ys : List (Jb × Value)} {S : Nat → Int} (h : DrP w w' B g k bs v ys b5 (.slice (some ⟨g5, 0, none⟩) M c5) M S) (hl : ys.length ≤ 31) (hk : k ≤ n) (hM : 0 < M) : RetDy w B g n bs (.returned (.tuple #[v, .slice (some ⟨g5, 1, none⟩) (M - 1) c0'])) w' := by
  refine ⟨v, ys, _, M - 1, fun j => S (j + 1), rfl, hl, by have := h.ml; omega, h.toDrJ.more hk, ⟨_, _, rfl⟩, fun w2 hg => ?_⟩
  have h2 := own_keptJ h.st hg (by have := h.dr.lt; have := h.wb; omega)
  obtain ⟨b, hA, _, hlt, hc⟩ := own_cellsI h2 hM
  injection hA with hA
  injection hA with e1
  subst e1
  refine ⟨by rw [tab_len]; omega, _, _, rfl, fun _ => ⟨_, _, rfl, hlt, fun j u hj => ?_⟩⟩
  have hjl : j < M - 1 := by
    have := (List.getElem?_eq_some_iff.1 hj).1
    rw [tab_len] at this
    exact this
  rw [tab_at _ hjl] at hj
  injection hj with hj
  subst hj
  have h3 := hc (j + 1) (by omega)
  rw [Nat.add_comm]
  exact h3
theorem RetDy.tail0 {w w' : World} {B g k n b5 M c5 c0' : Nat} {A' : Option Addr} {bs : List UInt8} {v vs : Value} {ys : List (Jb × Value)} {S : Nat → Int} (h : DrP w w' B g k bs v ys b5 vs M S) (hl : ys.length ≤ 31) (hk : k ≤ n) (hM : M = 1) : RetDy w B g n bs (.returned (.tuple #[v, .slice A' 0 c0'])) w' :=
  ⟨v, ys, _, 0, fun j => S (j + 1), rfl, hl, by omega, h.toDrJ.more hk, ⟨_, _, rfl⟩, fun w2 hg => ⟨by rw [tab_len], _, _, rfl, fun h0 => absurd h0 (by omega)⟩⟩
set_option maxRecDepth 100000 in
set_option maxHeartbeats 6400000 in
theorem l22Days_any (B g k : Nat) (bs : List UInt8) (w : World) (hs : SrcAt w B g k bs) (hk : k + 2000 ≤ 4611686018427380000) :
    Calls Try.prog 43 #[.pointer (some ⟨g, 0, none⟩)] w (RetDy w B g (k + 500) bs) := by
  have hlt := hs.lt
  have HC := Lib.hid (l22Bent_any B g k bs w hs (by omega))
  clear hs
  go_enter Try.func43, Try.ntmps43
  go_wp2_with fail
  refine HC.out.mono ?_; rintro e w1 ⟨v1, ys, rfl, hy31, hd1⟩
  obtain ⟨b0, c0, rfl⟩ := hd1.nn
  have hal := (Below.refl w1.heap.size w1).alloc (Nat.le_refl _) (.cells #[] 2)
  have hP0 := DrP.new (S := fun _ => 0) (M := 0) hd1 hal (World.ownsRow_made (base := w1.heap.size) (e := 2) (size := 1) w1 #[] 0 (Nat.le_refl _) (by simp [maxLen]) rfl) (by omega)
  have HP0 := Lib.hid hP0
  have HO := Lib.hid (OkJS_any _ _ _ _ hP0.rd (Nat.le_refl _) (by rw [jbsOf_len]; omega) hP0.sz)
  clear hd1 HC hal hP0
  cases hok : okJ (jbsOf ys) with
  | false =>
    rw [hok] at HO
    clear hok
    go_wp2_with fail
    refine HO.out.mono ?_; rintro e w2 ⟨rfl, hb2⟩
    have HP2 := Lib.hid (HP0.out.below hb2)
    clear hb2 HP0 HO
    go_wp2_with fail
    go_loopw [5, 6] (fun o i wr => ∃ (m : Nat) (S : Nat → Int), m ≤ ys.length ∧ i = .int .i64 (m : Int) ∧ (∀ i, i < m → 0 ≤ S i ∧ S i ≤ 400) ∧ DrP w wr B g (k + 302 + 2 * m) bs (.slice (some ⟨b0, 0, none⟩) ys.length c0) ys w1.heap.size o m S) (fun _ i _ => ys.length - (intOf i).toNat)
    case atStart => exact ⟨0, fun _ => 0, Nat.zero_le _, rfl, fun i hi => by omega, HP2.out.more (by omega)⟩
    case round =>
      obtain ⟨m, S, hm, rfl, hbd, hp⟩ := hrel
      have HBd := Lib.hid hbd
      clear hbd
      obtain ⟨A5, c5, rfl⟩ := own_sl hp.st
      have HP := Lib.hid hp
      clear hp HP2
      by_cases hml : m < ys.length
      · have hml' : (m : Int) < (ys.length : Int) := by omega
        go_wp2_with fail
        refine (pick_any B g _ bs 30 _ HP.out.dr.src (by omega)).mono ?_; rintro e w6 ⟨z, rfl, ⟨hz0, hz1, _⟩, hs6, hg6⟩
        have hz2 := hz1 (by omega)
        have HQ := Lib.hid (HP.out.draw hs6 hg6)
        have Hrow := Lib.hid HQ.out.st
        have Hb5 := Lib.hid HQ.out.bs5
        clear hs6 hg6 hz1 HP
        go_wp2_with (at_builtin; refine wpList_apd 27 2 _ 1 8 Try.underlying27 infoD rfl (by omega) _ _ rfl rfl w1.heap.size _ m _ rfl Hrow.out #[.int .i64 z] 1 1 rfl rfl (by simp [Value.oneCell']) (by simp [maxLen]; omega) (by omega) Hb5.out ?_; intro v7 w7 hown7 hg7; obtain ⟨A7, c7, rfl⟩ := own_sl hown7; rw [tab_snocP] at hown7; have HQ7 := Lib.hid (HQ.out.grow hown7 hg7 (by omega)); clear hown7 hg7)
        go_roundw
        case rel => exact ⟨m + 1, _, by omega, by go_num, put_bd HBd.out (by omega), HQ7.out.more (by omega)⟩
        case measure => first | (simp [intOf]; done) | (simp [intOf]; omega)
      · obtain rfl : m = ys.length := by omega
        have hml' : ¬ ((ys.length : Int) < (ys.length : Int)) := by omega
        have HPt := Lib.hid (HP.out.more (k' := k + 400) (by omega))
        clear HP
        generalize S = S5 at *
        by_cases hM0 : ys.length = 0
        · have hb0 : (0 : Int) < (ys.length : Int) ↔ False := by rw [iff_false]; omega
          have hb1 : ¬ ((0 : Int) < (ys.length : Int)) := by omega
          have Hz := Lib.hid (RetDy.of (n := k + 500) HPt.out hy31 (by omega))
          have HM0 := Lib.hid hM0
          clear hM0 HPt hb0
          go_wp2_with fail
          go_ret2
          exact Hz.out
        obtain ⟨g5, hA5, _, _, _⟩ := own_cellsI HPt.out.st (show 0 < ys.length by omega)
        subst hA5
        have hb1 : (0 : Int) < (ys.length : Int) := by omega
        go_wp2_with fail
        refine (pick_any B g _ bs ys.length _ HPt.out.dr.src (by omega)).mono ?_; rintro e wp ⟨x, rfl, ⟨hx0, hx2, hx3⟩, hs4, hg4⟩
        obtain ⟨i, rfl⟩ : ∃ i : Nat, x = i := ⟨x.toNat, by omega⟩
        have hi : i < ys.length := by
          by_cases h1 : ys.length = 1
          · have := hx3 (by omega); omega
          · have := hx2 (by omega); omega
        have hi' : (i : Int) < (ys.length : Int) := by omega
        have HP4 := Lib.hid (HPt.out.draw hs4 hg4)
        clear hs4 hg4 hx2 hx3 HPt
        go_wp2_with fail
        refine (pick_any B g _ bs 8 _ HP4.out.dr.src (by omega)).mono ?_; rintro e wq ⟨x, rfl, ⟨hx0, hx2, hx3⟩, hs5, hg5⟩
        have HP := Lib.hid (HP4.out.draw hs5 hg5)
        clear hs5 hg5 hx2 hx3 HP4
        by_cases e0 : x = 0
        · subst e0
          go_wp2_with fail
          refine (among_in B g _ 5 [-1, 0, 400, 401, 9223372036854775807] bs wq HP.out.dr.src (by omega) rfl (by omega) (by omega)).mono ?_; rintro e w6 ⟨z, _, rfl, hs6, hg6⟩
          have HE := Lib.hid (HP.out.draw hs6 hg6)
          obtain ⟨p0, q0⟩ := own_cellI HE.out.st i hi
          have hst := HE.out.st.stored i (.int .i64 z)
          rw [tab_set] at hst
          have Hz := Lib.hid (RetDy.of (n := k + 500) (HE.out.grow hst.1 hst.2 HE.out.ml) hy31 (by omega))
          clear hs6 hg6 HP HE hst
          go_wp2_with fail
          go_ret2
          exact Hz.out
        have hbq0 : (x == 0) = false := by simpa using e0
        by_cases e1 : x = 1
        · subst e1
          obtain ⟨p0, q0⟩ := own_cellI HP.out.st i hi
          have hSi := HBd.out i hi
          have hws : IntKind.i64.wrap (S5 i - 1) = S5 i - 1 := IntWalk.i64_in _ (by omega)
          have HMx := Lib.hid (fun wx => l00Max_c 0 (S5 i - 1) wx)
          obtain ⟨mx, hmx⟩ : ∃ z, max 0 (S5 i - 1) = z := ⟨_, rfl⟩
          rw [hmx] at HMx
          have hst := HP.out.st.stored i (.int .i64 mx)
          rw [tab_set] at hst
          have Hz := Lib.hid (RetDy.of (n := k + 500) (HP.out.grow hst.1 hst.2 HP.out.ml) hy31 (by omega))
          clear hst HP hmx
          generalize S5 i = si at *
          go_wp2_with fail
          refine (HMx.out _).mono ?_; rintro e w6 ⟨rfl, rfl⟩
          go_wp2_with fail
          go_ret2
          exact Hz.out
        have hbq1 : (x == 1) = false := by simpa using e1
        by_cases e2 : x = 2
        · subst e2
          have hcap := own_capJ HP.out.st
          by_cases hc5 : c5 = 1
          · subst hc5
            have Hz := Lib.hid (RetDy.tail0 (n := k + 500) (c0' := 0) (A' := some ⟨g5, 0, none⟩) (c5 := 0) HP.out hy31 (by omega) (by omega))
            clear HP
            go_wp2_with fail
            go_ret2
            exact Hz.out
          have hc52 : 1 < c5 := by omega
          have hc53 : ¬ (c5 ≤ 1) := by omega
          have Hz := Lib.hid (RetDy.tail (n := k + 500) (c0' := c5 - 1) HP.out hy31 (by omega) (by omega))
          clear HP
          go_wp2_with fail
          go_ret2
          exact Hz.out
        have hbq2 : (x == 2) = false := by simpa using e2
        have Hz := Lib.hid (RetDy.of (n := k + 500) HP.out hy31 (by omega))
        go_wp2_with fail
        go_ret2
        exact Hz.out
  | true =>
    have HK := Lib.hid (okJ_ok hok)
    rw [hok] at HO
    clear hok
    go_wp2_with fail
    refine HO.out.mono ?_; rintro e w2 ⟨rfl, hb2⟩
    have HP2' := Lib.hid (HP0.out.below hb2)
    clear hb2 HP0 HO
    go_wp2_with fail
    refine (one_any B g _ bs 2 _ HP2'.out.dr.src (by omega)).mono ?_; rintro e w3 ⟨tb, rfl, hs3, hg3⟩
    have HP2 := Lib.hid ((HP2'.out.draw hs3 hg3).more (k' := k + 302) (by omega))
    clear hs3 hg3 HP2'
    cases tb with
    | false =>
      go_wp2_with fail
      go_loopw [5, 6] (fun o i wr => ∃ (m : Nat) (S : Nat → Int), m ≤ ys.length ∧ i = .int .i64 (m : Int) ∧ (∀ i, i < m → 0 ≤ S i ∧ S i ≤ 400) ∧ DrP w wr B g (k + 302 + 2 * m) bs (.slice (some ⟨b0, 0, none⟩) ys.length c0) ys w1.heap.size o m S) (fun _ i _ => ys.length - (intOf i).toNat)
      case atStart => exact ⟨0, fun _ => 0, Nat.zero_le _, rfl, fun i hi => by omega, HP2.out.more (by omega)⟩
      case round =>
        obtain ⟨m, S, hm, rfl, hbd, hp⟩ := hrel
        have HBd := Lib.hid hbd
        clear hbd
        obtain ⟨A5, c5, rfl⟩ := own_sl hp.st
        have HP := Lib.hid hp
        clear hp HP2
        by_cases hml : m < ys.length
        · have hml' : (m : Int) < (ys.length : Int) := by omega
          go_wp2_with fail
          refine (pick_any B g _ bs 30 _ HP.out.dr.src (by omega)).mono ?_; rintro e w6 ⟨z, rfl, ⟨hz0, hz1, _⟩, hs6, hg6⟩
          have hz2 := hz1 (by omega)
          have HQ := Lib.hid (HP.out.draw hs6 hg6)
          have Hrow := Lib.hid HQ.out.st
          have Hb5 := Lib.hid HQ.out.bs5
          clear hs6 hg6 hz1 HP
          go_wp2_with (at_builtin; refine wpList_apd 27 2 _ 1 8 Try.underlying27 infoD rfl (by omega) _ _ rfl rfl w1.heap.size _ m _ rfl Hrow.out #[.int .i64 z] 1 1 rfl rfl (by simp [Value.oneCell']) (by simp [maxLen]; omega) (by omega) Hb5.out ?_; intro v7 w7 hown7 hg7; obtain ⟨A7, c7, rfl⟩ := own_sl hown7; rw [tab_snocP] at hown7; have HQ7 := Lib.hid (HQ.out.grow hown7 hg7 (by omega)); clear hown7 hg7)
          go_roundw
          case rel => exact ⟨m + 1, _, by omega, by go_num, put_bd HBd.out (by omega), HQ7.out.more (by omega)⟩
          case measure => first | (simp [intOf]; done) | (simp [intOf]; omega)
        · obtain rfl : m = ys.length := by omega
          have hml' : ¬ ((ys.length : Int) < (ys.length : Int)) := by omega
          have HPt := Lib.hid (HP.out.more (k' := k + 400) (by omega))
          clear HP
          generalize S = S5 at *
          by_cases hM0 : ys.length = 0
          · have hb0 : (0 : Int) < (ys.length : Int) ↔ False := by rw [iff_false]; omega
            have hb1 : ¬ ((0 : Int) < (ys.length : Int)) := by omega
            have Hz := Lib.hid (RetDy.of (n := k + 500) HPt.out hy31 (by omega))
            have HM0 := Lib.hid hM0
            clear hM0 HPt hb0
            go_wp2_with fail
            go_ret2
            exact Hz.out
          obtain ⟨g5, hA5, _, _, _⟩ := own_cellsI HPt.out.st (show 0 < ys.length by omega)
          subst hA5
          have hb1 : (0 : Int) < (ys.length : Int) := by omega
          go_wp2_with fail
          refine (pick_any B g _ bs ys.length _ HPt.out.dr.src (by omega)).mono ?_; rintro e wp ⟨x, rfl, ⟨hx0, hx2, hx3⟩, hs4, hg4⟩
          obtain ⟨i, rfl⟩ : ∃ i : Nat, x = i := ⟨x.toNat, by omega⟩
          have hi : i < ys.length := by
            by_cases h1 : ys.length = 1
            · have := hx3 (by omega); omega
            · have := hx2 (by omega); omega
          have hi' : (i : Int) < (ys.length : Int) := by omega
          have HP4 := Lib.hid (HPt.out.draw hs4 hg4)
          clear hs4 hg4 hx2 hx3 HPt
          go_wp2_with fail
          refine (pick_any B g _ bs 8 _ HP4.out.dr.src (by omega)).mono ?_; rintro e wq ⟨x, rfl, ⟨hx0, hx2, hx3⟩, hs5, hg5⟩
          have HP := Lib.hid (HP4.out.draw hs5 hg5)
          clear hs5 hg5 hx2 hx3 HP4
          by_cases e0 : x = 0
          · subst e0
            go_wp2_with fail
            refine (among_in B g _ 5 [-1, 0, 400, 401, 9223372036854775807] bs wq HP.out.dr.src (by omega) rfl (by omega) (by omega)).mono ?_; rintro e w6 ⟨z, _, rfl, hs6, hg6⟩
            have HE := Lib.hid (HP.out.draw hs6 hg6)
            obtain ⟨p0, q0⟩ := own_cellI HE.out.st i hi
            have hst := HE.out.st.stored i (.int .i64 z)
            rw [tab_set] at hst
            have Hz := Lib.hid (RetDy.of (n := k + 500) (HE.out.grow hst.1 hst.2 HE.out.ml) hy31 (by omega))
            clear hs6 hg6 HP HE hst
            go_wp2_with fail
            go_ret2
            exact Hz.out
          have hbq0 : (x == 0) = false := by simpa using e0
          by_cases e1 : x = 1
          · subst e1
            obtain ⟨p0, q0⟩ := own_cellI HP.out.st i hi
            have hSi := HBd.out i hi
            have hws : IntKind.i64.wrap (S5 i - 1) = S5 i - 1 := IntWalk.i64_in _ (by omega)
            have HMx := Lib.hid (fun wx => l00Max_c 0 (S5 i - 1) wx)
            obtain ⟨mx, hmx⟩ : ∃ z, max 0 (S5 i - 1) = z := ⟨_, rfl⟩
            rw [hmx] at HMx
            have hst := HP.out.st.stored i (.int .i64 mx)
            rw [tab_set] at hst
            have Hz := Lib.hid (RetDy.of (n := k + 500) (HP.out.grow hst.1 hst.2 HP.out.ml) hy31 (by omega))
            clear hst HP hmx
            generalize S5 i = si at *
            go_wp2_with fail
            refine (HMx.out _).mono ?_; rintro e w6 ⟨rfl, rfl⟩
            go_wp2_with fail
            go_ret2
            exact Hz.out
          have hbq1 : (x == 1) = false := by simpa using e1
          by_cases e2 : x = 2
          · subst e2
            have hcap := own_capJ HP.out.st
            by_cases hc5 : c5 = 1
            · subst hc5
              have Hz := Lib.hid (RetDy.tail0 (n := k + 500) (c0' := 0) (A' := some ⟨g5, 0, none⟩) (c5 := 0) HP.out hy31 (by omega) (by omega))
              clear HP
              go_wp2_with fail
              go_ret2
              exact Hz.out
            have hc52 : 1 < c5 := by omega
            have hc53 : ¬ (c5 ≤ 1) := by omega
            have Hz := Lib.hid (RetDy.tail (n := k + 500) (c0' := c5 - 1) HP.out hy31 (by omega) (by omega))
            clear HP
            go_wp2_with fail
            go_ret2
            exact Hz.out
          have hbq2 : (x == 2) = false := by simpa using e2
          have Hz := Lib.hid (RetDy.of (n := k + 500) HP.out hy31 (by omega))
          go_wp2_with fail
          go_ret2
          exact Hz.out
    | true =>
      go_wp2_with fail
      refine (pick_any B g _ bs 3 _ HP2.out.dr.src (by omega)).mono ?_; rintro e w4 ⟨x, rfl, ⟨hx0, hx1, _⟩, hs4, hg4⟩
      have hx2 := hx1 (by omega)
      have HP4 := Lib.hid (HP2.out.draw hs4 hg4)
      have hwx : IntKind.i64.wrap (1 + x) = 1 + x := IntWalk.i64_in _ (by omega)
      have HPl := Lib.hid (l22Plan_any _ _ _ (1 + x) _ HP4.out.rd (Nat.le_refl _) HK.out HP4.out.sz (by omega) (by omega))
      have HLw := Lib.hid (plan_law HK.out (show (1 : Int) ≤ 1 + x by omega))
      clear hs4 hg4 HP2 hx1
      go_wp2_with fail
      refine HPl.out.mono ?_; rintro e w5 ⟨v5, rfl, ho5, hb5⟩
      rw [jbsOf_len] at ho5
      obtain ⟨A5, c5, rfl⟩ := own_sl ho5
      have HPt := Lib.hid ((DrP.new (M := ys.length) HP4.out.toDrJ hb5 ho5 hy31).more (k' := k + 400) (by omega))
      have HBd := Lib.hid (fun i (hi : i < ys.length) => HLw.out.bd i (by rw [jbsOf_len]; exact hi))
      clear ho5 hb5 HPl HP4 HLw
      obtain ⟨S5, hS5⟩ : ∃ z, plan (jbsOf ys) (1 + x) = z := ⟨_, rfl⟩
      rw [hS5] at HPt HBd
      clear hS5
      by_cases hM0 : ys.length = 0
      · have hb0 : (0 : Int) < (ys.length : Int) ↔ False := by rw [iff_false]; omega
        have hb1 : ¬ ((0 : Int) < (ys.length : Int)) := by omega
        have Hz := Lib.hid (RetDy.of (n := k + 500) HPt.out hy31 (by omega))
        have HM0 := Lib.hid hM0
        clear hM0 HPt hb0
        go_wp2_with fail
        go_ret2
        exact Hz.out
      obtain ⟨g5, hA5, _, _, _⟩ := own_cellsI HPt.out.st (show 0 < ys.length by omega)
      subst hA5
      have hb1 : (0 : Int) < (ys.length : Int) := by omega
      go_wp2_with fail
      refine (pick_any B g _ bs ys.length _ HPt.out.dr.src (by omega)).mono ?_; rintro e wp ⟨x, rfl, ⟨hx0, hx2, hx3⟩, hs4, hg4⟩
      obtain ⟨i, rfl⟩ : ∃ i : Nat, x = i := ⟨x.toNat, by omega⟩
      have hi : i < ys.length := by
        by_cases h1 : ys.length = 1
        · have := hx3 (by omega); omega
        · have := hx2 (by omega); omega
      have hi' : (i : Int) < (ys.length : Int) := by omega
      have HP4 := Lib.hid (HPt.out.draw hs4 hg4)
      clear hs4 hg4 hx2 hx3 HPt
      go_wp2_with fail
      refine (pick_any B g _ bs 8 _ HP4.out.dr.src (by omega)).mono ?_; rintro e wq ⟨x, rfl, ⟨hx0, hx2, hx3⟩, hs5, hg5⟩
      have HP := Lib.hid (HP4.out.draw hs5 hg5)
      clear hs5 hg5 hx2 hx3 HP4
      by_cases e0 : x = 0
      · subst e0
        go_wp2_with fail
        refine (among_in B g _ 5 [-1, 0, 400, 401, 9223372036854775807] bs wq HP.out.dr.src (by omega) rfl (by omega) (by omega)).mono ?_; rintro e w6 ⟨z, _, rfl, hs6, hg6⟩
        have HE := Lib.hid (HP.out.draw hs6 hg6)
        obtain ⟨p0, q0⟩ := own_cellI HE.out.st i hi
        have hst := HE.out.st.stored i (.int .i64 z)
        rw [tab_set] at hst
        have Hz := Lib.hid (RetDy.of (n := k + 500) (HE.out.grow hst.1 hst.2 HE.out.ml) hy31 (by omega))
        clear hs6 hg6 HP HE hst
        go_wp2_with fail
        go_ret2
        exact Hz.out
      have hbq0 : (x == 0) = false := by simpa using e0
      by_cases e1 : x = 1
      · subst e1
        obtain ⟨p0, q0⟩ := own_cellI HP.out.st i hi
        have hSi := HBd.out i hi
        have hws : IntKind.i64.wrap (S5 i - 1) = S5 i - 1 := IntWalk.i64_in _ (by omega)
        have HMx := Lib.hid (fun wx => l00Max_c 0 (S5 i - 1) wx)
        obtain ⟨mx, hmx⟩ : ∃ z, max 0 (S5 i - 1) = z := ⟨_, rfl⟩
        rw [hmx] at HMx
        have hst := HP.out.st.stored i (.int .i64 mx)
        rw [tab_set] at hst
        have Hz := Lib.hid (RetDy.of (n := k + 500) (HP.out.grow hst.1 hst.2 HP.out.ml) hy31 (by omega))
        clear hst HP hmx
        generalize S5 i = si at *
        go_wp2_with fail
        refine (HMx.out _).mono ?_; rintro e w6 ⟨rfl, rfl⟩
        go_wp2_with fail
        go_ret2
        exact Hz.out
      have hbq1 : (x == 1) = false := by simpa using e1
      by_cases e2 : x = 2
      · subst e2
        have hcap := own_capJ HP.out.st
        by_cases hc5 : c5 = 1
        · subst hc5
          have Hz := Lib.hid (RetDy.tail0 (n := k + 500) (c0' := 0) (A' := some ⟨g5, 0, none⟩) (c5 := 0) HP.out hy31 (by omega) (by omega))
          clear HP
          go_wp2_with fail
          go_ret2
          exact Hz.out
        have hc52 : 1 < c5 := by omega
        have hc53 : ¬ (c5 ≤ 1) := by omega
        have Hz := Lib.hid (RetDy.tail (n := k + 500) (c0' := c5 - 1) HP.out hy31 (by omega) (by omega))
        clear HP
        go_wp2_with fail
        go_ret2
        exact Hz.out
      have hbq2 : (x == 2) = false := by simpa using e2
      have Hz := Lib.hid (RetDy.of (n := k + 500) HP.out hy31 (by omega))
      go_wp2_with fail
      go_ret2
      exact Hz.out
end Go.Proofs.Ytalalegjeegocaa
/- Jobs, part 27: DrawPlanFault, DrawCostBy. -/
namespace Go.Proofs.Ytalalegjeegocaa
open Go.RowKit Go.Joins

/-- jobs, days and a number -/
def RetDf (w : World) (e : Ending) (w' : World) : Prop := ∃ v xs vs M S, ∃ z : Int, e = .returned (.tuple #[v, vs, .int .i64 z]) ∧ M ≤ 31 ∧ NwJ w w' v xs ∧ Rd w' w'.heap.size vs M 1 (tab M S)
set_option maxRecDepth 100000 in
set_option maxHeartbeats 1600000 in
theorem drawPT_any (B : Nat) (cv : Value) (bs : List UInt8) (w : World) (h : Rd w B cv bs.length 1 (bs.map byV)) (hB : B ≤ w.heap.size) : Calls Try.prog 9 #[cv] w (RetDf w) := by
  have HF := Lib.hid (l00From_any B cv bs w h hB)
  obtain ⟨_, A, c, rfl, _⟩ := h
  go_enter Try.func9, Try.ntmps9
  go_wp2_with fail
  refine HF.out.mono ?_; rintro e w1 ⟨rfl, hs1, hb1, hl1⟩
  have Hb1 := Lib.hid hb1
  have HL := Lib.hid (l22Days_any B _ 0 bs w1 hs1 (by omega))
  clear hs1 hb1 HF
  go_wp2_with fail
  refine HL.out.mono ?_; rintro e w2 ⟨v, ys, vs, M, S, rfl, hn, hM, hd, ⟨A5, c5, rfl⟩, hrd⟩
  obtain ⟨b0, c0, rfl⟩ := hd.nn
  have HD := Lib.hid hd
  have HR := Lib.hid hrd
  clear hd HL hrd
  go_wp2_with fail
  refine (Workers_any B _ _ bs _ HD.out.dr.src (by omega)).mono ?_; rintro e w3 ⟨x, rfl, hs3, hg3⟩
  have HD3 := Lib.hid (HD.out.draw hs3 hg3)
  have Hz := Lib.hid (show RetDf w (.returned (.tuple #[.slice (some ⟨b0, 0, none⟩) ys.length c0, .slice A5 M c5, .int .i64 x])) w3 from ⟨_, _, _, M, S, x, rfl, hM, NwJ.of HD3.out Hb1.out (Nat.le_refl _) hn, HR.out w3 hg3⟩)
  clear hs3 hg3 HD HD3
  go_wp2_with fail
  go_ret3
  exact Hz.out
set_option maxRecDepth 100000 in
set_option maxHeartbeats 1600000 in
theorem drawCB_any (B : Nat) (cv : Value) (bs : List UInt8) (w : World) (h : Rd w B cv bs.length 1 (bs.map byV)) (hB : B ≤ w.heap.size) : Calls Try.prog 12 #[cv] w (RetDf w) := by
  have HF := Lib.hid (l00From_any B cv bs w h hB)
  obtain ⟨_, A, c, rfl, _⟩ := h
  go_enter Try.func12, Try.ntmps12
  go_wp2_with fail
  refine HF.out.mono ?_; rintro e w1 ⟨rfl, hs1, hb1, hl1⟩
  have Hb1 := Lib.hid hb1
  have HL := Lib.hid (l22Days_any B _ 0 bs w1 hs1 (by omega))
  clear hs1 hb1 HF
  go_wp2_with fail
  refine HL.out.mono ?_; rintro e w2 ⟨v, ys, vs, M, S, rfl, hn, hM, hd, ⟨A5, c5, rfl⟩, hrd⟩
  obtain ⟨b0, c0, rfl⟩ := hd.nn
  have HD := Lib.hid hd
  have HR := Lib.hid hrd
  clear hd HL hrd
  go_wp2_with fail
  refine (pick_any B _ _ bs 40 _ HD.out.dr.src (by omega)).mono ?_; rintro e w3 ⟨x, rfl, ⟨hx0, hx1, _⟩, hs3, hg3⟩
  have hx2 := hx1 (by omega)
  have hwx : IntKind.i64.wrap (x - 3) = x - 3 := IntWalk.i64_in _ (by omega)
  have HD3 := Lib.hid (HD.out.draw hs3 hg3)
  have Hz := Lib.hid (show RetDf w (.returned (.tuple #[.slice (some ⟨b0, 0, none⟩) ys.length c0, .slice A5 M c5, .int .i64 (x - 3)])) w3 from ⟨_, _, _, M, S, x - 3, rfl, hM, NwJ.of HD3.out Hb1.out (Nat.le_refl _) hn, HR.out w3 hg3⟩)
  clear hs3 hg3 HD HD3 hx1
  go_wp2_with fail
  go_ret3
  exact Hz.out
end Go.Proofs.Ytalalegjeegocaa
/- The law FnPlans: the walk (gen_jb28.py). -/
namespace Go.Proofs.Ytalalegjeegocaa
open Go.RowKit Go.Joins

def totJ (xs : List Jb) : Nat → Int
  | 0 => 0
  | k + 1 => totJ xs k + (jg xs k).cost
theorem totJ_bd {xs : List Jb} (h : OkJ xs) : ∀ k : Nat, k ≤ xs.length → 0 ≤ totJ xs k ∧ totJ xs k ≤ 1000000 * (k : Int)
  | 0, _ => by show (0 : Int) ≤ 0 ∧ (0 : Int) ≤ 1000000 * ((0 : Nat) : Int); omega
  | k + 1, hk => by
    have h1 := totJ_bd h k (by omega)
    have h2 := h.cost k (by omega)
    show 0 ≤ totJ xs k + (jg xs k).cost ∧ totJ xs k + (jg xs k).cost ≤ 1000000 * ((k + 1 : Nat) : Int)
    omega
theorem csS_all {xs : List Jb} {S : Nat → Int} {day : Int} : ∀ k, (∀ i, i < k → S i < day) → csS xs S day k = totJ xs k
  | 0, _ => rfl
  | k + 1, h => by
    show (if S k < day then csS xs S day k + (jg xs k).cost else csS xs S day k) = totJ xs k + (jg xs k).cost
    rw [if_pos (h k (by omega)), csS_all k (fun i hi => h i (by omega))]
theorem pfN_le (xs : List Jb) (wk : Int) : pfN xs wk ≤ xs.length := by unfold pfN; split <;> omega
/-- what the law asks of a plan -/
theorem pl_zero {xs : List Jb} {wk : Int} (h : pfC xs wk = 0) : OkJ xs ∧ pltC xs (pfN xs wk) (plan xs wk) wk = 0 ∧ pltV xs (pfN xs wk) (plan xs wk) wk = -1 ∧ dnC xs = 0 ∧ dnV xs ≤ pfE xs wk ∧ pfC xs 30 = 0 ∧ pfE xs 30 = dnV xs ∧ pcC xs (pfN xs wk) (plan xs wk) = 0 ∧ cbV xs (pfN xs wk) (plan xs wk) (pfE xs wk) = totJ xs xs.length := by
  obtain ⟨_, hok, hw1, hw2⟩ : pfC xs wk = 0 ∧ okJ xs = true ∧ 1 ≤ wk ∧ wk ≤ 30 := by
    rcases pfC_cases (xs := xs) (wk := wk) with h1 | h1 | h1
    · exact h1
    · omega
    · omega
  have hk := okJ_ok hok
  have hl := hk.len
  have hp := plan_law hk hw1
  have hN : pfN xs wk = xs.length := by unfold pfN; rw [if_pos h]
  have hE : pfE xs wk = endS xs (plan xs wk) xs.length := by unfold pfE; rw [if_pos h]
  have h30 : pfC xs 30 = 0 := pfC_ok hok (by decide)
  have hst : stB xs xs.length (plan xs wk) = true := by
    unfold stB sdB
    rw [decide_eq_true rfl, Bool.and_true]
    exact allN_mk fun {i} hi => inB_iff.2 (hp.bd i hi)
  have hplt : pltC xs xs.length (plan xs wk) wk = 0 := by
    unfold pltC
    rw [hok, hst, inB_iff.2 ⟨hw1, hw2⟩]; rfl
  have hpc : pcC xs xs.length (plan xs wk) = 0 := pcC_ok hok hst
  rw [hN, hE]
  refine ⟨hk, hplt, ?_, ?_, ?_, h30, ?_, hpc, ?_⟩
  · rw [pltV_ok hplt]
    exact fltF_all (fun k hk2 => fltB_yes (hp.dn k hk2) (by have := hp.bz (plan xs wk k); omega)) _ _ (by omega)
  · unfold dnC; rw [hok]; rfl
  · unfold dnV; rw [hok]; exact hp.ge
  · unfold pfE dnV
    rw [if_pos h30, hok]
    exact (plan_law hk (show (1 : Int) ≤ 30 by omega)).quick (by omega)
  · rw [cbV_ok hpc]
    exact csS_all _ fun i hi => by
      have h1 := endS_ge (xs := xs) (S := plan xs wk) hi
      have h2 := hk.days i hi
      omega
set_option maxRecDepth 100000 in
set_option maxHeartbeats 25600000 in
theorem walkFnPlans {W : World} (v : Value) (bs : List UInt8) (h : Rd W W.heap.size v bs.length 1 (bs.map byV)) (_hl : bs.length ≤ maxLen) :
    Calls Try.prog 3 #[v] W fun e w' => e = .returned (.bool true) ∧ Below W.heap.size W w' := by
  have HB := Lib.hid (Below.refl W.heap.size W)
  have HC := Lib.hid h
  have HG := Lib.hid (f6big_c _ _ v _ W h)
  obtain ⟨_, A0, c0, rfl, _⟩ := h
  by_cases hbig : 4096 < bs.length
  · rw [decide_eq_true hbig] at HG
    clear hbig
    go_enter Try.func3, Try.ntmps3
    go_wp2_with fail
    refine HG.out.mono ?_; rintro e w1 ⟨rfl, rfl⟩
    go_wp2_with fail
    go_ret
    exact ⟨rfl, HB.out⟩
  rw [decide_eq_false hbig] at HG
  clear hbig
  go_enter Try.func3, Try.ntmps3
  go_wp2_with fail
  refine HG.out.mono ?_; rintro e w1 ⟨rfl, rfl⟩
  clear HG
  go_wp2_with fail
  refine (drawPF_any _ _ bs _ (HC.out.below HB.out) HB.out.size).mono ?_; rintro e wn ⟨v3, xs3, z4, rfl, hN⟩
  have HB' := Lib.hid (HB.out.trans (hN.bel.mono HB.out.size)); clear HB; have HB := HB'; clear HB'
  have J3 := Lib.hid hN.rd
  obtain ⟨A3, c3, rfl⟩ := J3.out.slice
  have hl3 := hN.len
  have Hs3 := Lib.hid hN.sz
  clear hN
  have hl5 := pfN_le xs3 z4
  have HZ := Lib.hid (@pl_zero xs3 z4)
  have HPI := Lib.hid (fun wx hx => PlanForI_any wx.heap.size (.slice A3 xs3.length c3) xs3 z4 wx hx (Nat.le_refl _) (by omega) Hs3.out)
  have HPS := Lib.hid (fun wx hx => PlanForS_any wx.heap.size (.slice A3 xs3.length c3) xs3 z4 wx hx (Nat.le_refl _) (by omega) Hs3.out)
  have HP30 := Lib.hid (fun wx hx => PlanForI_any wx.heap.size (.slice A3 xs3.length c3) xs3 30 wx hx (Nat.le_refl _) (by omega) Hs3.out)
  have HFa := Lib.hid (fun wx vs hx hy => FaultI_any wx.heap.size (pfN xs3 z4) (.slice A3 xs3.length c3) vs xs3 (plan xs3 z4) z4 wx hx (Nat.le_refl _) hy (by omega) (by omega) Hs3.out)
  have HDa := Lib.hid (fun wx hx => DaysI_any wx.heap.size (.slice A3 xs3.length c3) xs3 wx hx (Nat.le_refl _) (by omega) Hs3.out)
  have HCo := Lib.hid (fun wx vs hx hy => CostI_any wx.heap.size (pfN xs3 z4) (.slice A3 xs3.length c3) vs xs3 (plan xs3 z4) (pfE xs3 z4) wx hx (Nat.le_refl _) hy (by omega) (by omega) Hs3.out)
  unfold RetPF at HPI HPS HP30
  unfold Ret2n at HFa HCo
  generalize pltC xs3 (pfN xs3 z4) (plan xs3 z4) z4 = C26 at *
  generalize pltV xs3 (pfN xs3 z4) (plan xs3 z4) z4 = V25 at *
  generalize cbV xs3 (pfN xs3 z4) (plan xs3 z4) (pfE xs3 z4) = V32 at *
  generalize pcC xs3 (pfN xs3 z4) (plan xs3 z4) = C33 at *
  generalize pfC xs3 z4 = C7 at *
  generalize pfE xs3 z4 = E6 at *
  generalize pfN xs3 z4 = N5 at *
  generalize plan xs3 z4 = P5 at *
  generalize pfC xs3 30 = C31 at *
  generalize pfE xs3 30 = E30 at *
  generalize pfN xs3 30 = N29 at *
  generalize plan xs3 30 = P29 at *
  generalize dnV xs3 = V27 at *
  generalize dnC xs3 = C28 at *
  go_wp2_with fail
  refine (HPI.out _ J3.out).mono ?_; rintro e wn ⟨v5, rfl, ho, hb⟩
  have R50 := Lib.hid (Rd.of_own ho)
  have J3' := Lib.hid (J3.out.next hb); clear J3; have J3 := J3'; clear J3'
  have HB' := Lib.hid (HB.out.trans (hb.mono HB.out.size)); clear HB; have HB := HB'; clear HB'
  have R5 := R50; clear R50
  obtain ⟨A5, c5, rfl⟩ := own_sl ho
  clear hb ho HPI
  go_wp2_with fail
  refine (HPS.out _ J3.out).mono ?_; rintro e wn ⟨v8, rfl, ho, hb⟩
  have R80 := Lib.hid (Rd.of_own ho)
  have J3' := Lib.hid (J3.out.next hb); clear J3; have J3 := J3'; clear J3'
  have R5' := Lib.hid (rdN R5.out hb)
  clear R5; have R5 := R5'; clear R5'
  have HB' := Lib.hid (HB.out.trans (hb.mono HB.out.size)); clear HB; have HB := HB'; clear HB'
  have R8 := R80; clear R80
  obtain ⟨A8, c8, rfl⟩ := own_sl ho
  clear hb ho HPS
  go_wp2_with fail
  refine (drawPT_any _ _ bs _ (HC.out.below HB.out) HB.out.size).mono ?_; rintro e wn ⟨v11, xs11, v12, M12, S12, z13, rfl, hM12, hN, hr⟩
  have R120 := Lib.hid (hr)
  have J3' := Lib.hid (J3.out.next hN.bel); clear J3; have J3 := J3'; clear J3'
  have R5' := Lib.hid (rdN R5.out hN.bel)
  have R8' := Lib.hid (rdN R8.out hN.bel)
  clear R5; have R5 := R5'; clear R5'
  clear R8; have R8 := R8'; clear R8'
  have HB' := Lib.hid (HB.out.trans (hN.bel.mono HB.out.size)); clear HB; have HB := HB'; clear HB'
  have R12 := R120; clear R120
  have J11 := Lib.hid hN.rd
  obtain ⟨A11, c11, rfl⟩ := J11.out.slice
  obtain ⟨A12, c12, rfl⟩ := rd_sl hr
  have hl11 := hN.len
  have Hs11 := Lib.hid hN.sz
  clear hN hr
  have HFI := Lib.hid (fun wx hx hy => FaultI_any wx.heap.size M12 (.slice A11 xs11.length c11) (.slice A12 M12 c12) xs11 S12 z13 wx hx (Nat.le_refl _) hy (by omega) (by omega) Hs11.out)
  have HFS := Lib.hid (fun wx hx hy => FaultS_any wx.heap.size M12 (.slice A11 xs11.length c11) (.slice A12 M12 c12) xs11 S12 z13 wx hx (Nat.le_refl _) hy (by omega) (by omega) Hs11.out)
  unfold Ret2n at HFI HFS
  generalize pltV xs11 M12 S12 z13 = V14 at *
  generalize pltC xs11 M12 S12 z13 = C15 at *
  go_wp2_with fail
  refine (HFI.out _ J11.out R12.out).mono ?_; rintro e wn ⟨rfl, hb⟩
  have J3' := Lib.hid (J3.out.next hb); clear J3; have J3 := J3'; clear J3'
  have J11' := Lib.hid (J11.out.next hb); clear J11; have J11 := J11'; clear J11'
  have R5' := Lib.hid (rdN R5.out hb)
  have R8' := Lib.hid (rdN R8.out hb)
  have R12' := Lib.hid (rdN R12.out hb)
  clear R5; have R5 := R5'; clear R5'
  clear R8; have R8 := R8'; clear R8'
  clear R12; have R12 := R12'; clear R12'
  have HB' := Lib.hid (HB.out.trans (hb.mono HB.out.size)); clear HB; have HB := HB'; clear HB'
  clear hb HFI
  go_wp2_with fail
  refine (HFS.out _ J11.out R12.out).mono ?_; rintro e wn ⟨rfl, hb⟩
  have J3' := Lib.hid (J3.out.next hb); clear J3; have J3 := J3'; clear J3'
  have J11' := Lib.hid (J11.out.next hb); clear J11; have J11 := J11'; clear J11'
  have R5' := Lib.hid (rdN R5.out hb)
  have R8' := Lib.hid (rdN R8.out hb)
  have R12' := Lib.hid (rdN R12.out hb)
  clear R5; have R5 := R5'; clear R5'
  clear R8; have R8 := R8'; clear R8'
  clear R12; have R12 := R12'; clear R12'
  have HB' := Lib.hid (HB.out.trans (hb.mono HB.out.size)); clear HB; have HB := HB'; clear HB'
  clear hb HFS
  clear R12
  clear J11
  clear Hs11 hl11 hM12
  go_wp2_with fail
  refine (drawCB_any _ _ bs _ (HC.out.below HB.out) HB.out.size).mono ?_; rintro e wn ⟨v18, xs18, v19, M19, S19, z20, rfl, hM19, hN, hr⟩
  have R190 := Lib.hid (hr)
  have J3' := Lib.hid (J3.out.next hN.bel); clear J3; have J3 := J3'; clear J3'
  have R5' := Lib.hid (rdN R5.out hN.bel)
  have R8' := Lib.hid (rdN R8.out hN.bel)
  clear R5; have R5 := R5'; clear R5'
  clear R8; have R8 := R8'; clear R8'
  have HB' := Lib.hid (HB.out.trans (hN.bel.mono HB.out.size)); clear HB; have HB := HB'; clear HB'
  have R19 := R190; clear R190
  have J18 := Lib.hid hN.rd
  obtain ⟨A18, c18, rfl⟩ := J18.out.slice
  obtain ⟨A19, c19, rfl⟩ := rd_sl hr
  have hl18 := hN.len
  have Hs18 := Lib.hid hN.sz
  clear hN hr
  have HCI := Lib.hid (fun wx hx hy => CostI_any wx.heap.size M19 (.slice A18 xs18.length c18) (.slice A19 M19 c19) xs18 S19 z20 wx hx (Nat.le_refl _) hy (by omega) (by omega) Hs18.out)
  have HCS := Lib.hid (fun wx hx hy => CostS_any wx.heap.size M19 (.slice A18 xs18.length c18) (.slice A19 M19 c19) xs18 S19 z20 wx hx (Nat.le_refl _) hy (by omega) (by omega) Hs18.out)
  unfold Ret2n at HCI HCS
  generalize cbV xs18 M19 S19 z20 = V21 at *
  generalize pcC xs18 M19 S19 = C22 at *
  go_wp2_with fail
  refine (HCI.out _ J18.out R19.out).mono ?_; rintro e wn ⟨rfl, hb⟩
  have J3' := Lib.hid (J3.out.next hb); clear J3; have J3 := J3'; clear J3'
  have J18' := Lib.hid (J18.out.next hb); clear J18; have J18 := J18'; clear J18'
  have R5' := Lib.hid (rdN R5.out hb)
  have R8' := Lib.hid (rdN R8.out hb)
  have R19' := Lib.hid (rdN R19.out hb)
  clear R5; have R5 := R5'; clear R5'
  clear R8; have R8 := R8'; clear R8'
  clear R19; have R19 := R19'; clear R19'
  have HB' := Lib.hid (HB.out.trans (hb.mono HB.out.size)); clear HB; have HB := HB'; clear HB'
  clear hb HCI
  go_wp2_with fail
  refine (HCS.out _ J18.out R19.out).mono ?_; rintro e wn ⟨rfl, hb⟩
  have J3' := Lib.hid (J3.out.next hb); clear J3; have J3 := J3'; clear J3'
  have J18' := Lib.hid (J18.out.next hb); clear J18; have J18 := J18'; clear J18'
  have R5' := Lib.hid (rdN R5.out hb)
  have R8' := Lib.hid (rdN R8.out hb)
  have R19' := Lib.hid (rdN R19.out hb)
  clear R5; have R5 := R5'; clear R5'
  clear R8; have R8 := R8'; clear R8'
  clear R19; have R19 := R19'; clear R19'
  have HB' := Lib.hid (HB.out.trans (hb.mono HB.out.size)); clear HB; have HB := HB'; clear HB'
  clear hb HCS
  clear R19
  clear J18
  clear Hs18 hl18 hM19 HC
  have HF := Lib.hid (f6ints_same _ _ _ _ N5 _ _ _ R5.out R8.out (by omega) (fun _ _ => rfl))
  go_wp2_with fail
  refine HF.out.mono ?_; rintro e wm ⟨rfl, d, hd⟩
  have hb : Below wn.heap.size wn wm := by rw [hd]; exact below_drewN (Below.refl _ _) d
  clear HF
  have J3' := Lib.hid (J3.out.next hb); clear J3; have J3 := J3'; clear J3'
  have R5' := Lib.hid (rdN R5.out hb)
  have R8' := Lib.hid (rdN R8.out hb)
  clear R5; have R5 := R5'; clear R5'
  clear R8; have R8 := R8'; clear R8'
  have HB' := Lib.hid (HB.out.trans (hb.mono HB.out.size)); clear HB; have HB := HB'; clear HB'
  clear hb hd
  obtain ⟨wn, rfl⟩ : ∃ z, z = wm := ⟨_, rfl⟩
  clear R8
  by_cases hc7 : C7 = 0
  · obtain ⟨hk, e1, e2, e3, e4, e5, e6, e7, e8⟩ := HZ.out hc7
    subst hc7 e1 e2 e3 e5 e6 e7 e8
    have HK := Lib.hid hk
    clear hk HZ
    go_wp2_with fail
    refine (HFa.out _ _ J3.out R5.out).mono ?_; rintro e wn ⟨rfl, hb⟩
    have J3' := Lib.hid (J3.out.next hb); clear J3; have J3 := J3'; clear J3'
    have R5' := Lib.hid (rdN R5.out hb)
    clear R5; have R5 := R5'; clear R5'
    have HB' := Lib.hid (HB.out.trans (hb.mono HB.out.size)); clear HB; have HB := HB'; clear HB'
    clear hb HFa
    go_wp2_with fail
    refine (HDa.out _ J3.out).mono ?_; rintro e wn ⟨rfl, hb⟩
    have J3' := Lib.hid (J3.out.next hb); clear J3; have J3 := J3'; clear J3'
    have R5' := Lib.hid (rdN R5.out hb)
    clear R5; have R5 := R5'; clear R5'
    have HB' := Lib.hid (HB.out.trans (hb.mono HB.out.size)); clear HB; have HB := HB'; clear HB'
    clear hb HDa
    go_wp2_with fail
    refine (HP30.out _ J3.out).mono ?_; rintro e wn ⟨v29, rfl, ho, hb⟩
    have J3' := Lib.hid (J3.out.next hb); clear J3; have J3 := J3'; clear J3'
    have R5' := Lib.hid (rdN R5.out hb)
    clear R5; have R5 := R5'; clear R5'
    have HB' := Lib.hid (HB.out.trans (hb.mono HB.out.size)); clear HB; have HB := HB'; clear HB'
    obtain ⟨A29, c29, rfl⟩ := own_sl ho
    clear hb ho HP30
    go_wp2_with fail
    refine (HCo.out _ _ J3.out R5.out).mono ?_; rintro e wn ⟨rfl, hb⟩
    have J3' := Lib.hid (J3.out.next hb); clear J3; have J3 := J3'; clear J3'
    have R5' := Lib.hid (rdN R5.out hb)
    clear R5; have R5 := R5'; clear R5'
    have HB' := Lib.hid (HB.out.trans (hb.mono HB.out.size)); clear HB; have HB := HB'; clear HB'
    clear hb HCo
    go_wp2_with fail
    go_loop [34, 35] (fun t i => ∃ k : Nat, k ≤ xs3.length ∧ i = .int .i64 (k : Int) ∧ t = .int .i64 (totJ xs3 k)) (fun _ i => xs3.length - (intOf i).toNat)
    case atStart => exact ⟨0, Nat.zero_le _, rfl, rfl⟩
    case round =>
      obtain ⟨k, hk, rfl, rfl⟩ := hrel
      by_cases hlt : k < xs3.length
      · have hlt' : (k : Int) < (xs3.length : Int) := by omega
        obtain ⟨gb, ob, A', c', hA, hat⟩ := J3.out.at k hlt
        subst hA
        have y2 := hat.c2
        have h1 := totJ_bd HK.out k hk
        have h2 := HK.out.cost k hlt
        have h3 := HK.out.len
        have Hst := Lib.hid (show totJ xs3 (k + 1) = totJ xs3 k + (jg xs3 k).cost from rfl)
        have hws : IntKind.i64.wrap (totJ xs3 k + (jg xs3 k).cost) = totJ xs3 k + (jg xs3 k).cost := IntWalk.i64_in _ (by omega)
        clear hat
        generalize (jg xs3 k).cost = cc at *
        go_wp2_with fail
        go_round
        case rel => exact ⟨k + 1, by omega, by go_num, by rw [Hst.out]⟩
        case measure => first | (simp [intOf]; done) | (simp [intOf]; omega)
      · obtain rfl : k = xs3.length := by omega
        have hlt' : ¬ ((xs3.length : Int) < (xs3.length : Int)) := by omega
        have hge := e4
        generalize totJ xs3 xs3.length = tt at *
        go_wp2_with fail
        go_ret
        exact ⟨rfl, HB.out⟩
  · have hc7' : (C7 == 0) = false := by simp [hc7]
    have hc7'' : (C7 != 0) = true := by simp [hc7]
    clear HZ hc7 HFa HDa HP30 HCo
    go_wp2_with fail
    go_ret
    exact ⟨rfl, HB.out⟩
end Go.Proofs.Ytalalegjeegocaa
