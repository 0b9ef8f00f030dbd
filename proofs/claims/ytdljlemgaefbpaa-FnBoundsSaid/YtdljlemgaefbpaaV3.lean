/- Bounds of errors, part 4: tables of bounds, safe numbers of steps. -/
import Derived.Test.YtdljlemgaefbpaaV2
namespace Go.Proofs.Ytdljlemgaefbpaa
open Go.RowKit Go.Joins

/-- the code of a table of bounds -/
def btC (m : Nat) (f : Nat → Int) (n : Int) : Int := if slipB m f && inB n 0 200 then (if allN n.toNat (fun i => decide (sb (slipN f) m i ≤ 1000000000000)) then 0 else 5) else 2
theorem btC_1 {m : Nat} {f : Nat → Int} {n : Int} (h : slipB m f = false) : btC m f n = 2 := by unfold btC; rw [h]; rfl
theorem btC_2 {m : Nat} {f : Nat → Int} {n : Int} (h : inB n 0 200 = false) : btC m f n = 2 := by unfold btC; rw [h, Bool.and_false]; rfl
theorem btC_3 {m n : Nat} {f : Nat → Int} (h : slipB m f = true) (h2 : n ≤ 200) : btC m f (n : Int) = if allN n (fun i => decide (sb (slipN f) m i ≤ 1000000000000)) then 0 else 5 := by
  unfold btC
  rw [h, inB_iff.2 (show (0 : Int) ≤ (n : Int) ∧ (n : Int) ≤ 200 by omega)]
  rfl
def sbT (m : Nat) (f : Nat → Int) : Nat → Int := fun i => ((sb (slipN f) m i : Nat) : Int)
set_option maxRecDepth 100000 in
set_option maxHeartbeats 3200000 in
theorem BoundTableI_c (B : Nat) (v : Value) (m : Nat) (f : Nat → Int) (n : Int) (w : World) (h : Rd w B v m 1 (tab m f)) (hB : B ≤ w.heap.size) (hm : m ≤ 1000) :
    Calls Try.prog 26 #[v, .int .i64 n] w (RetTab w (btC m f n) n.toNat (sbT m f)) := by
  have HS := Lib.hid (slipsI_c B v m f w h hm)
  have HT := Lib.hid (fun wx => between_any n 0 200 wx)
  have Hb := Lib.hid (Below.refl w.heap.size w)
  have H := Lib.hid h
  have hb0 := Lib.hid ((Below.refl w.heap.size w).alloc (Nat.le_refl _) (.cells #[] 2))
  have ho0 := Lib.hid (World.ownsRow_made (base := w.heap.size) (e := 2) (size := 1) w #[] 0 (Nat.le_refl _) (by simp [maxLen]) rfl)
  obtain ⟨A, c, rfl⟩ := rd_sl h
  clear h
  cases h1 : slipB m f with
  | false =>
    have E := Lib.hid (btC_1 (n := n) h1)
    rw [h1] at HS
    clear h1
    go_enter Try.func26, Try.ntmps26
    go_wp2_with fail
    refine (HS.out).mono ?_; rintro e w1 ⟨rfl, rfl⟩
    go_wp2_with fail
    go_ret2
    exact RetTab.no' E.out (by decide) Hb.out
  | true =>
    cases h2 : inB n 0 200 with
    | false =>
      have E := Lib.hid (btC_2 (m := m) (f := f) h2)
      rw [h1] at HS
      rw [h2] at HT
      clear h1 h2
      go_enter Try.func26, Try.ntmps26
      go_wp2_with fail
      refine (HS.out).mono ?_; rintro e w1 ⟨rfl, rfl⟩
      go_wp2_with fail
      refine (HT.out _).mono ?_; rintro e w1 ⟨rfl, rfl⟩
      go_wp2_with fail
      go_ret2
      exact RetTab.no' E.out (by decide) Hb.out
    | true =>
      obtain ⟨hn0, hn1⟩ := inB_iff.1 h2
      obtain ⟨N, rfl⟩ : ∃ N : Nat, n = (N : Int) := ⟨n.toNat, by omega⟩
      have E := Lib.hid (btC_3 h1 (show N ≤ 200 by omega))
      have HB := Lib.hid (fun n hn wx hx => sumBound_c B (.slice A m c) m f n wx hx h1 hn)
      rw [Int.toNat_natCast]
      rw [h1] at HS
      rw [h2] at HT
      clear h1 h2
      go_enter Try.func26, Try.ntmps26
      go_wp2_with fail
      refine (HS.out).mono ?_; rintro e w1 ⟨rfl, rfl⟩
      go_wp2_with fail
      refine (HT.out _).mono ?_; rintro e w1 ⟨rfl, rfl⟩
      go_wp2_with fail
      go_loopw [6, 19] (fun a i wr => ∃ k : Nat, k ≤ N ∧ i = .int .i64 (k : Int) ∧ wr.ownsRow w.heap.size 2 1 a k (tab k (sbT m f)) ∧ allN k (fun i => decide (sb (slipN f) m i ≤ 1000000000000)) = true ∧ Below w.heap.size w wr) (fun _ i _ => N - (intOf i).toNat)
      case atStart => exact ⟨0, Nat.zero_le _, rfl, ho0.out, rfl, hb0.out⟩
      case round =>
        obtain ⟨k, hk, rfl, hown, hall, hbl⟩ := hrel
        obtain ⟨A3, c3, rfl⟩ := own_sl hown
        have Hown := Lib.hid hown
        have Hbl := Lib.hid hbl
        have Hall := Lib.hid hall
        clear hown hbl hall
        by_cases hlt : k < N
        · have hlt' : (k : Int) < (N : Int) := by omega
          have HB1 := Lib.hid (HB.out k (by omega) wr (H.out.below (Hbl.out.mono hB)))
          have Hsn := Lib.hid (tab_succ k (sbT m f))
          have Hz := Lib.hid (show sbT m f k = ((sb (slipN f) m k : Nat) : Int) from rfl)
          have Hst := Lib.hid (fun h => allN_step (f := fun i => decide (sb (slipN f) m i ≤ 1000000000000)) (k := k) Hall.out h)
          have Hbad := Lib.hid (fun h => allN_bad (f := fun i => decide (sb (slipN f) m i ≤ 1000000000000)) (n := N) k hlt h)
          generalize sb (slipN f) m k = z at *
          by_cases hz : z ≤ 1000000000000
          · have hz' : (z : Int) ≤ 1000000000000 := by omega
            have Hst := Lib.hid (Hst.out (by simpa using hz))
            clear hz Hbad
            go_wp2_with fail
            refine (HB1.out).mono ?_; rintro e w1 ⟨rfl, rfl⟩
            go_wp2_with (at_builtin; refine wpList_apd 24 2 _ 1 8 Try.underlying24 infoD rfl (by omega) _ _ rfl rfl w.heap.size _ k _ rfl Hown.out #[.int .i64 ((z : Int))] 1 1 rfl rfl (by simp [Value.oneCell']) (by simp [maxLen]; omega) (by omega) Hbl.out.size ?_; intro v5 w5 hown5 hg5; have Hb5 := Lib.hid (below_apd Hbl.out Hown.out hg5 (Nat.le_refl _) Hbl.out.size); obtain ⟨A5, c5, rfl⟩ := own_sl hown5; have Hown5 := Lib.hid hown5; clear hown5 hg5)
            go_roundw
            case rel => exact ⟨k + 1, by omega, by go_num, by rw [Hsn.out, Hz.out]; exact Hown5.out, Hst.out, Hb5.out⟩
            case measure => first | (simp [intOf]; done) | (simp [intOf]; omega)
          · have hz' : (1000000000000 : Int) < (z : Int) := by omega
            have Hbad := Lib.hid (Hbad.out (by simpa using hz))
            have E5 := Lib.hid (show btC m f (N : Int) = 5 by rw [E.out, Hbad.out]; rfl)
            clear hz Hst
            go_wp2_with fail
            refine (HB1.out).mono ?_; rintro e w1 ⟨rfl, rfl⟩
            go_wp2_with fail
            go_ret2
            exact RetTab.no' E5.out (by decide) Hbl.out
        · obtain rfl : k = N := by omega
          have E0 := Lib.hid (show btC m f (k : Int) = 0 by rw [E.out, Hall.out]; rfl)
          go_wp2_with fail
          go_ret2
          exact RetTab.yes' E0.out Hown.out Hbl.out
set_option maxRecDepth 100000 in
set_option maxHeartbeats 3200000 in
theorem BoundTableS_c (B : Nat) (v : Value) (m : Nat) (f : Nat → Int) (n : Int) (w : World) (h : Rd w B v m 1 (tab m f)) (hB : B ≤ w.heap.size) (hm : m ≤ 1000) :
    Calls Try.prog 27 #[v, .int .i64 n] w (RetTab w (btC m f n) n.toNat (sbT m f)) := by
  have HS := Lib.hid (slipsS_c B v m f w h hm)
  have HT := Lib.hid (fun wx => l00In_any n 0 200 wx)
  have Hb := Lib.hid (Below.refl w.heap.size w)
  have H := Lib.hid h
  have hb0 := Lib.hid ((Below.refl w.heap.size w).alloc (Nat.le_refl _) (.cells #[] 2))
  have ho0 := Lib.hid (World.ownsRow_made (base := w.heap.size) (e := 2) (size := 1) w #[] 0 (Nat.le_refl _) (by simp [maxLen]) rfl)
  obtain ⟨A, c, rfl⟩ := rd_sl h
  clear h
  cases h1 : slipB m f with
  | false =>
    have E := Lib.hid (btC_1 (n := n) h1)
    rw [h1] at HS
    clear h1
    go_enter Try.func27, Try.ntmps27
    go_wp2_with fail
    refine (HS.out).mono ?_; rintro e w1 ⟨rfl, rfl⟩
    go_wp2_with fail
    go_ret2
    exact RetTab.no' E.out (by decide) Hb.out
  | true =>
    cases h2 : inB n 0 200 with
    | false =>
      have E := Lib.hid (btC_2 (m := m) (f := f) h2)
      rw [h1] at HS
      rw [h2] at HT
      clear h1 h2
      go_enter Try.func27, Try.ntmps27
      go_wp2_with fail
      refine (HS.out).mono ?_; rintro e w1 ⟨rfl, rfl⟩
      go_wp2_with fail
      refine (HT.out _).mono ?_; rintro e w1 ⟨rfl, rfl⟩
      go_wp2_with fail
      go_ret2
      exact RetTab.no' E.out (by decide) Hb.out
    | true =>
      obtain ⟨hn0, hn1⟩ := inB_iff.1 h2
      obtain ⟨N, rfl⟩ : ∃ N : Nat, n = (N : Int) := ⟨n.toNat, by omega⟩
      have E := Lib.hid (btC_3 h1 (show N ≤ 200 by omega))
      have HB := Lib.hid (fun n hn wx hx => l17Sum_c B (.slice A m c) m f n wx hx h1 hn)
      rw [Int.toNat_natCast]
      rw [h1] at HS
      rw [h2] at HT
      clear h1 h2
      go_enter Try.func27, Try.ntmps27
      go_wp2_with fail
      refine (HS.out).mono ?_; rintro e w1 ⟨rfl, rfl⟩
      go_wp2_with fail
      refine (HT.out _).mono ?_; rintro e w1 ⟨rfl, rfl⟩
      go_wp2_with fail
      go_loopw [6, 7] (fun a i wr => ∃ k : Nat, k ≤ N ∧ i = .int .i64 (k : Int) ∧ wr.ownsRow w.heap.size 2 1 a k (tab k (sbT m f)) ∧ allN k (fun i => decide (sb (slipN f) m i ≤ 1000000000000)) = true ∧ Below w.heap.size w wr) (fun _ i _ => N - (intOf i).toNat)
      case atStart => exact ⟨0, Nat.zero_le _, rfl, ho0.out, rfl, hb0.out⟩
      case round =>
        obtain ⟨k, hk, rfl, hown, hall, hbl⟩ := hrel
        obtain ⟨A3, c3, rfl⟩ := own_sl hown
        have Hown := Lib.hid hown
        have Hbl := Lib.hid hbl
        have Hall := Lib.hid hall
        clear hown hbl hall
        by_cases hlt : k < N
        · have hlt' : (k : Int) < (N : Int) := by omega
          have HB1 := Lib.hid (HB.out k (by omega) wr (H.out.below (Hbl.out.mono hB)))
          have Hsn := Lib.hid (tab_succ k (sbT m f))
          have Hz := Lib.hid (show sbT m f k = ((sb (slipN f) m k : Nat) : Int) from rfl)
          have Hst := Lib.hid (fun h => allN_step (f := fun i => decide (sb (slipN f) m i ≤ 1000000000000)) (k := k) Hall.out h)
          have Hbad := Lib.hid (fun h => allN_bad (f := fun i => decide (sb (slipN f) m i ≤ 1000000000000)) (n := N) k hlt h)
          generalize sb (slipN f) m k = z at *
          by_cases hz : z ≤ 1000000000000
          · have hz' : (z : Int) ≤ 1000000000000 := by omega
            have Hst := Lib.hid (Hst.out (by simpa using hz))
            clear hz Hbad
            go_wp2_with fail
            refine (HB1.out).mono ?_; rintro e wy ⟨rfl, d, hd⟩
            have hbd : Below wr.heap.size wr wy := by rw [hd]; exact below_drewN (Below.refl _ _) d
            have Hown := Lib.hid (own_below Hown.out hbd)
            have Hbl := Lib.hid (Hbl.out.trans (hbd.mono Hbl.out.size))
            clear hbd hd
            go_wp2_with (at_builtin; refine wpList_apd 24 2 _ 1 8 Try.underlying24 infoD rfl (by omega) _ _ rfl rfl w.heap.size _ k _ rfl Hown.out #[.int .i64 ((z : Int))] 1 1 rfl rfl (by simp [Value.oneCell']) (by simp [maxLen]; omega) (by omega) Hbl.out.size ?_; intro v5 w5 hown5 hg5; have Hb5 := Lib.hid (below_apd Hbl.out Hown.out hg5 (Nat.le_refl _) Hbl.out.size); obtain ⟨A5, c5, rfl⟩ := own_sl hown5; have Hown5 := Lib.hid hown5; clear hown5 hg5)
            go_roundw
            case rel => exact ⟨k + 1, by omega, by go_num, by rw [Hsn.out, Hz.out]; exact Hown5.out, Hst.out, Hb5.out⟩
            case measure => first | (simp [intOf]; done) | (simp [intOf]; omega)
          · have hz' : (1000000000000 : Int) < (z : Int) := by omega
            have Hbad := Lib.hid (Hbad.out (by simpa using hz))
            have E5 := Lib.hid (show btC m f (N : Int) = 5 by rw [E.out, Hbad.out]; rfl)
            clear hz Hst
            go_wp2_with fail
            refine (HB1.out).mono ?_; rintro e wy ⟨rfl, d, hd⟩
            have Hbl := Lib.hid (show Below w.heap.size w wy by rw [hd]; exact below_drewN Hbl.out d)
            clear hd
            go_wp2_with fail
            go_ret2
            exact RetTab.no' E5.out (by decide) Hbl.out
        · obtain rfl : k = N := by omega
          have E0 := Lib.hid (show btC m f (k : Int) = 0 by rw [E.out, Hall.out]; rfl)
          go_wp2_with fail
          go_ret2
          exact RetTab.yes' E0.out Hown.out Hbl.out

/-- the greatest safe number of steps, and the code -/
def okS (m : Nat) (f : Nat → Int) (limit : Int) : Bool := slipB m f && inB limit 0 1000000000000
def SafeR (m : Nat) (f : Nat → Int) (limit : Int) (r c : Int) : Prop :=
  (c = 2 ∧ r = 0 ∧ okS m f limit = false) ∨ (c = 3 ∧ r = 0 ∧ okS m f limit = true ∧ limit.toNat < sb (slipN f) m 0) ∨ (c = 0 ∧ okS m f limit = true ∧ ∃ R : Nat, r = (R : Int) ∧ SafeAt (slipN f) m limit.toNat R)
theorem SafeAt.zero {s : Nat → Nat} {m L R : Nat} (h : SafeAt s m L R) : sb s m 0 ≤ L := by
  have := sb_mono2 s m 0 R
  rw [Nat.zero_add] at this
  exact Nat.le_trans this h.2.1
theorem SafeR.uniq {m : Nat} {f : Nat → Int} {limit r c r' c' : Int} (h : SafeR m f limit r c) (h' : SafeR m f limit r' c') : r = r' ∧ c = c' := by
  rcases h with ⟨a, b, d⟩ | ⟨a, b, d, e⟩ | ⟨a, b, R, d, e⟩ <;> rcases h' with ⟨a', b', d'⟩ | ⟨a', b', d', e'⟩ | ⟨a', b', R', d', e'⟩
  · exact ⟨by rw [b, b'], by rw [a, a']⟩
  · rw [d] at d'; cases d'
  · rw [d] at b'; cases b'
  · rw [d'] at d; cases d
  · exact ⟨by rw [b, b'], by rw [a, a']⟩
  · have := e'.zero; omega
  · rw [d'] at b; cases b
  · have := e.zero; omega
  · exact ⟨by rw [d, d', safe_one e e'], by rw [a, a']⟩
set_option maxRecDepth 100000 in
set_option maxHeartbeats 3200000 in
theorem SafeStepsI_c (B : Nat) (v : Value) (m : Nat) (f : Nat → Int) (limit : Int) (w : World) (h : Rd w B v m 1 (tab m f)) (hm : m ≤ 1000) :
    Calls Try.prog 20 #[v, .int .i64 limit] w fun e w' => (∃ r c, e = .returned (.tuple #[.int .i64 r, .int .i64 c]) ∧ SafeR m f limit r c) ∧ w = w' := by
  have HS := Lib.hid (slipsI_c B v m f w h hm)
  have HT := Lib.hid (fun wx => between_any limit 0 1000000000000 wx)
  have H := Lib.hid h
  obtain ⟨A, c, rfl⟩ := rd_sl h
  clear h
  cases h1 : slipB m f with
  | false =>
    have E := Lib.hid (show SafeR m f limit 0 2 from .inl ⟨rfl, rfl, by unfold okS; rw [h1]; rfl⟩)
    rw [h1] at HS
    clear h1
    go_enter Try.func20, Try.ntmps20
    go_wp2_with fail
    refine (HS.out).mono ?_; rintro e w1 ⟨rfl, rfl⟩
    go_wp2_with fail
    go_ret2
    exact ⟨⟨_, _, rfl, E.out⟩, rfl⟩
  | true =>
    cases h2 : inB limit 0 1000000000000 with
    | false =>
      have E := Lib.hid (show SafeR m f limit 0 2 from .inl ⟨rfl, rfl, by unfold okS; rw [h2, Bool.and_false]⟩)
      rw [h1] at HS
      rw [h2] at HT
      clear h1 h2
      go_enter Try.func20, Try.ntmps20
      go_wp2_with fail
      refine (HS.out).mono ?_; rintro e w1 ⟨rfl, rfl⟩
      go_wp2_with fail
      refine (HT.out _).mono ?_; rintro e w1 ⟨rfl, rfl⟩
      go_wp2_with fail
      go_ret2
      exact ⟨⟨_, _, rfl, E.out⟩, rfl⟩
    | true =>
      obtain ⟨hn0, hn1⟩ := inB_iff.1 h2
      obtain ⟨L, rfl⟩ : ∃ L : Nat, limit = (L : Int) := ⟨limit.toNat, by omega⟩
      have hok : okS m f (L : Int) = true := by unfold okS; rw [h1, h2]; rfl
      have HB := Lib.hid (fun n hn wx hx => sumBound_c B (.slice A m c) m f n wx hx h1 hn)
      have HE3 := Lib.hid (fun (hz : L < sb (slipN f) m 0) => show SafeR m f (L : Int) 0 3 from .inr (.inl ⟨rfl, rfl, hok, by rw [Int.toNat_natCast]; exact hz⟩))
      have HE0 := Lib.hid (fun (R : Nat) (hz : SafeAt (slipN f) m L R) => show SafeR m f (L : Int) (R : Int) 0 from .inr (.inr ⟨rfl, hok, R, rfl, by rw [Int.toNat_natCast]; exact hz⟩))
      rw [h1] at HS
      rw [h2] at HT
      clear h1 h2 hok
      have HB0 := Lib.hid (HB.out 0 (by omega) w H.out)
      rw [show ((0 : Nat) : Int) = 0 from rfl] at HB0
      generalize slipN f = s at *
      by_cases hz : L < sb s m 0
      · have E := Lib.hid (HE3.out hz)
        have hz' : (L : Int) < ((sb s m 0 : Nat) : Int) := by omega
        clear hz
        go_enter Try.func20, Try.ntmps20
        go_wp2_with fail
        refine (HS.out).mono ?_; rintro e w1 ⟨rfl, rfl⟩
        go_wp2_with fail
        refine (HT.out _).mono ?_; rintro e w1 ⟨rfl, rfl⟩
        go_wp2_with fail
        refine (HB0.out).mono ?_; rintro e w1 ⟨rfl, rfl⟩
        go_wp2_with fail
        go_ret2
        exact ⟨⟨_, _, rfl, E.out⟩, rfl⟩
      · have hz' : ((sb s m 0 : Nat) : Int) ≤ (L : Int) := by omega
        have Hz0 := Lib.hid (show sb s m 0 ≤ L by omega)
        have hzb : decide (L < sb s m 0) = false := by simp; omega
        clear hz
        go_enter Try.func20, Try.ntmps20
        go_wp2_with fail
        refine (HS.out).mono ?_; rintro e w1 ⟨rfl, rfl⟩
        go_wp2_with fail
        refine (HT.out _).mono ?_; rintro e w1 ⟨rfl, rfl⟩
        go_wp2_with fail
        refine (HB0.out).mono ?_; rintro e w1 ⟨rfl, rfl⟩
        go_wp2_with fail
        go_loop [6, 7] (fun a b => ∃ lo hi : Nat, lo ≤ hi ∧ hi ≤ 100000 ∧ a = .int .i64 (lo : Int) ∧ b = .int .i64 (hi : Int) ∧ sb s m lo ≤ L ∧ (hi = 100000 ∨ L < sb s m (hi + 1))) (fun a b => (intOf b).toNat - (intOf a).toNat)
        case atStart => exact ⟨0, 100000, by omega, by omega, rfl, rfl, Hz0.out, .inl rfl⟩
        case round =>
          obtain ⟨lo, hi, hlh, hh, rfl, rfl, hlo, hhi⟩ := hrel
          have Hlo := Lib.hid hlo
          have Hhi := Lib.hid hhi
          clear hlo hhi
          by_cases hlt : lo < hi
          · have hlt' : (lo : Int) < (hi : Int) := by omega
            obtain ⟨M, hM⟩ : ∃ M : Nat, ((lo : Int) + (hi : Int) + 1) / 2 = (M : Int) := ⟨(lo + hi + 1) / 2, by omega⟩
            have hM1 : lo < M := by omega
            have hM2 : M ≤ hi := by omega
            have HB1 := Lib.hid (HB.out M (by omega) w H.out)
            obtain ⟨z, hzz⟩ : ∃ z, sb s m M = z := ⟨_, rfl⟩
            rw [hzz] at HB1
            have Hzz := Lib.hid hzz
            clear hzz
            by_cases hz : z ≤ L
            · have hz' : (z : Int) ≤ (L : Int) := by omega
              have Hz := Lib.hid hz
              clear hz
              go_wp2_with fail
              refine (HB1.out).mono ?_; rintro e w1 ⟨rfl, rfl⟩
              go_wp2_with fail
              go_round
              case rel => exact ⟨M, hi, hM2, hh, rfl, rfl, by rw [Hzz.out]; exact Hz.out, Hhi.out⟩
              case measure => simp [intOf]; omega
            · have hz' : ¬ (z : Int) ≤ (L : Int) := by omega
              have Hz := Lib.hid hz
              clear hz
              go_wp2_with fail
              refine (HB1.out).mono ?_; rintro e w1 ⟨rfl, rfl⟩
              go_wp2_with fail
              go_round
              case rel => exact ⟨lo, M - 1, by omega, by omega, rfl, by congr 1; omega, Hlo.out, .inr (by rw [show M - 1 + 1 = M by omega, Hzz.out]; have := Hz.out; omega)⟩
              case measure => simp [intOf]; omega
          · obtain rfl : lo = hi := by omega
            have E := Lib.hid (HE0.out lo ⟨hh, Hlo.out, Hhi.out⟩)
            go_wp2_with fail
            go_ret2
            exact ⟨⟨_, _, rfl, E.out⟩, rfl⟩
set_option maxRecDepth 100000 in
set_option maxHeartbeats 3200000 in
theorem SafeStepsS_c (B : Nat) (v : Value) (m : Nat) (f : Nat → Int) (limit : Int) (w : World) (h : Rd w B v m 1 (tab m f)) (hm : m ≤ 1000) :
    Calls Try.prog 21 #[v, .int .i64 limit] w fun e w' => (∃ r c, e = .returned (.tuple #[.int .i64 r, .int .i64 c]) ∧ SafeR m f limit r c) ∧ ∃ d, w' = w.drewN d := by
  have HS := Lib.hid (slipsS_c B v m f w h hm)
  have HT := Lib.hid (fun wx => l00In_any limit 0 1000000000000 wx)
  have H := Lib.hid h
  obtain ⟨A, c, rfl⟩ := rd_sl h
  clear h
  cases h1 : slipB m f with
  | false =>
    have E := Lib.hid (show SafeR m f limit 0 2 from .inl ⟨rfl, rfl, by unfold okS; rw [h1]; rfl⟩)
    rw [h1] at HS
    clear h1
    go_enter Try.func21, Try.ntmps21
    go_wp2_with fail
    refine (HS.out).mono ?_; rintro e w1 ⟨rfl, rfl⟩
    go_wp2_with fail
    go_ret2
    exact ⟨⟨_, _, rfl, E.out⟩, ⟨0, rfl⟩⟩
  | true =>
    cases h2 : inB limit 0 1000000000000 with
    | false =>
      have E := Lib.hid (show SafeR m f limit 0 2 from .inl ⟨rfl, rfl, by unfold okS; rw [h2, Bool.and_false]⟩)
      rw [h1] at HS
      rw [h2] at HT
      clear h1 h2
      go_enter Try.func21, Try.ntmps21
      go_wp2_with fail
      refine (HS.out).mono ?_; rintro e w1 ⟨rfl, rfl⟩
      go_wp2_with fail
      refine (HT.out _).mono ?_; rintro e w1 ⟨rfl, rfl⟩
      go_wp2_with fail
      go_ret2
      exact ⟨⟨_, _, rfl, E.out⟩, ⟨0, rfl⟩⟩
    | true =>
      obtain ⟨hn0, hn1⟩ := inB_iff.1 h2
      obtain ⟨L, rfl⟩ : ∃ L : Nat, limit = (L : Int) := ⟨limit.toNat, by omega⟩
      have hok : okS m f (L : Int) = true := by unfold okS; rw [h1, h2]; rfl
      have HB := Lib.hid (fun n hn wx hx => l17Sum_c B (.slice A m c) m f n wx hx h1 hn)
      have HE3 := Lib.hid (fun (hz : L < sb (slipN f) m 0) => show SafeR m f (L : Int) 0 3 from .inr (.inl ⟨rfl, rfl, hok, by rw [Int.toNat_natCast]; exact hz⟩))
      have HE0 := Lib.hid (fun (R : Nat) (hz : SafeAt (slipN f) m L R) => show SafeR m f (L : Int) (R : Int) 0 from .inr (.inr ⟨rfl, hok, R, rfl, by rw [Int.toNat_natCast]; exact hz⟩))
      rw [h1] at HS
      rw [h2] at HT
      clear h1 h2 hok
      have HB0 := Lib.hid (HB.out 0 (by omega) w H.out)
      rw [show ((0 : Nat) : Int) = 0 from rfl] at HB0
      generalize slipN f = s at *
      by_cases hz : L < sb s m 0
      · have E := Lib.hid (HE3.out hz)
        have hz' : (L : Int) < ((sb s m 0 : Nat) : Int) := by omega
        clear hz
        go_enter Try.func21, Try.ntmps21
        go_wp2_with fail
        refine (HS.out).mono ?_; rintro e w1 ⟨rfl, rfl⟩
        go_wp2_with fail
        refine (HT.out _).mono ?_; rintro e w1 ⟨rfl, rfl⟩
        go_wp2_with fail
        refine (HB0.out).mono ?_; rintro e w2 ⟨rfl, d, rfl⟩
        go_wp2_with fail
        go_ret2
        exact ⟨⟨_, _, rfl, E.out⟩, d, rfl⟩
      · have hz' : ((sb s m 0 : Nat) : Int) ≤ (L : Int) := by omega
        have Hz0 := Lib.hid (show sb s m 0 ≤ L by omega)
        have hzb : decide (L < sb s m 0) = false := by simp; omega
        clear hz
        go_enter Try.func21, Try.ntmps21
        go_wp2_with fail
        refine (HS.out).mono ?_; rintro e w1 ⟨rfl, rfl⟩
        go_wp2_with fail
        refine (HT.out _).mono ?_; rintro e w1 ⟨rfl, rfl⟩
        go_wp2_with fail
        refine (HB0.out).mono ?_; rintro e w2 ⟨rfl, d0, hd0⟩
        have Hd0 := Lib.hid hd0
        clear hd0
        go_wp2_with fail
        go_loopw [6, 7] (fun a b wr => ∃ lo hi d : Nat, lo < hi ∧ hi ≤ 100001 ∧ a = .int .i64 (lo : Int) ∧ b = .int .i64 (hi : Int) ∧ sb s m lo ≤ L ∧ (hi = 100001 ∨ L < sb s m hi) ∧ wr = w.drewN d) (fun a b _ => (intOf b).toNat - (intOf a).toNat)
        case atStart => exact ⟨0, 100001, d0, by omega, by omega, rfl, rfl, Hz0.out, .inl rfl, Hd0.out⟩
        case round =>
          obtain ⟨lo, hi, d, hlh, hh, rfl, rfl, hlo, hhi, hwr⟩ := hrel
          have Hlo := Lib.hid hlo
          have Hhi := Lib.hid hhi
          have Hw := Lib.hid hwr
          have Hr := Lib.hid (show Rd wr B (.slice A m c) m 1 (tab m f) by rw [hwr]; exact H.out.drewN d)
          clear hlo hhi hwr
          by_cases hlt : 1 < hi - lo
          · have hlt' : (1 : Int) < (hi : Int) - (lo : Int) := by omega
            obtain ⟨M, hM⟩ : ∃ M : Nat, ((lo : Int) + (hi : Int)) / 2 = (M : Int) := ⟨(lo + hi) / 2, by omega⟩
            have hM1 : lo < M := by omega
            have hM2 : M < hi := by omega
            have HB1 := Lib.hid (HB.out M (by omega) wr Hr.out)
            obtain ⟨z, hzz⟩ : ∃ z, sb s m M = z := ⟨_, rfl⟩
            rw [hzz] at HB1
            have Hzz := Lib.hid hzz
            clear hzz
            by_cases hz : z ≤ L
            · have hz' : (z : Int) ≤ (L : Int) := by omega
              have Hz := Lib.hid hz
              clear hz
              go_wp2_with fail
              refine (HB1.out).mono ?_; rintro e wy ⟨rfl, d2, hd2⟩
              have Hd2 := Lib.hid hd2
              clear hd2
              go_wp2_with fail
              go_roundw
              case rel => exact ⟨M, hi, d + d2, hM2, hh, rfl, rfl, by rw [Hzz.out]; exact Hz.out, Hhi.out, by rw [Hd2.out, Hw.out]; exact World.drewN_drewN _ _ _⟩
              case measure => simp [intOf]; omega
            · have hz' : ¬ (z : Int) ≤ (L : Int) := by omega
              have Hz := Lib.hid hz
              clear hz
              go_wp2_with fail
              refine (HB1.out).mono ?_; rintro e wy ⟨rfl, d2, hd2⟩
              have Hd2 := Lib.hid hd2
              clear hd2
              go_wp2_with fail
              go_roundw
              case rel => exact ⟨lo, M, d + d2, hM1, by omega, rfl, rfl, Hlo.out, .inr (by rw [Hzz.out]; have := Hz.out; omega), by rw [Hd2.out, Hw.out]; exact World.drewN_drewN _ _ _⟩
              case measure => simp [intOf]; omega
          · have e : hi = lo + 1 := by omega
            subst e
            have E := Lib.hid (HE0.out lo ⟨by omega, Hlo.out, by have := Hhi.out; omega⟩)
            have hlt' : ¬ (1 : Int) < ((lo + 1 : Nat) : Int) - (lo : Int) := by omega
            go_wp2_with fail
            go_ret2
            exact ⟨⟨_, _, rfl, E.out⟩, d, Hw.out⟩
end Go.Proofs.Ytdljlemgaefbpaa
