/- Merged texts: Jc3, Pq10. -/
import Derived.Test.YtepgfcjfdnakbaaDoorGCardJobs11
/- Jobs, texts and laws, part 3: JobsBefore of both sides (gen_jc3.py). -/
namespace Go.Proofs.YtepgfcjfdnakbaaDoor
open Go.RowKit Go.Joins

/-- the first i needs are marked -/
def mkP (nd : List Int) (f : Nat → Bool) : Nat → Nat → Bool
  | 0 => f
  | i + 1 => putB (mkP nd f i) (nd.getD i 0).toNat true
def bfS (xs : List Jb) (K : Nat) : Nat → Nat → Bool
  | 0 => fun x => decide (x = K)
  | j + 1 => if bfS xs K j (K - j) = true then mkP (jg xs (K - j)).needs (bfS xs K j) (jg xs (K - j)).needs.length else bfS xs K j
def bfI (xs : List Jb) (K : Nat) : Nat → Nat → Bool
  | 0 => fun _ => false
  | j + 1 => if j = 0 ∨ bfI xs K j (K - j) = true then mkP (jg xs (K - j)).needs (bfI xs K j) (jg xs (K - j)).needs.length else bfI xs K j
theorem putB_or (f c : Nat → Bool) (a x : Nat) : putB (fun x => f x || c x) a true x = (putB f a true x || c x) := by
  unfold putB
  by_cases e : x = a
  · rw [if_pos e, if_pos e]; rfl
  · rw [if_neg e, if_neg e]
theorem mkP_or (nd : List Int) (f g c : Nat → Bool) (h : ∀ x, g x = (f x || c x)) : ∀ i x, mkP nd g i x = (mkP nd f i x || c x)
  | 0, x => h x
  | i + 1, x => by
    show putB (mkP nd g i) _ true x = (putB (mkP nd f i) _ true x || c x)
    rw [← putB_or]
    unfold putB
    by_cases e : x = (nd.getD i 0).toNat
    · rw [if_pos e, if_pos e]
    · rw [if_neg e, if_neg e]; exact mkP_or nd f g c h i x
theorem mkP_ge {nd : List Int} {f : Nat → Bool} {k : Nat} (h : ∀ i, i < nd.length → (nd.getD i 0).toNat < k) : ∀ i, i ≤ nd.length → ∀ x, k ≤ x → mkP nd f i x = f x
  | 0, _, _, _ => rfl
  | i + 1, hi, x, hx => by
    have := h i (by omega)
    show putB _ _ _ x = _
    unfold putB
    rw [if_neg (by omega)]
    exact mkP_ge h i (by omega) x hx
theorem bfI_hi {xs : List Jb} (h : OkJ xs) {K : Nat} (hK : K < xs.length) : ∀ j, j ≤ K + 1 → ∀ x, K ≤ x → bfI xs K j x = false
  | 0, _, _, _ => rfl
  | j + 1, hj, x, hx => by
    show (if _ then _ else _ : Nat → Bool) x = false
    by_cases e : j = 0 ∨ bfI xs K j (K - j) = true
    · rw [if_pos e, mkP_ge (k := K) (fun i hi => by have := nd_lt h (k := K - j) (by omega) i hi; omega) _ (Nat.le_refl _) x hx]
      exact bfI_hi h hK j (by omega) x hx
    · rw [if_neg e]; exact bfI_hi h hK j (by omega) x hx
theorem bfS_eq (xs : List Jb) (K : Nat) : ∀ j, j ≤ K + 1 → ∀ x, bfS xs K j x = (bfI xs K j x || decide (x = K))
  | 0, _, x => by show decide (x = K) = (false || decide (x = K)); simp
  | j + 1, hj, x => by
    have ih := bfS_eq xs K j (by omega)
    show (if _ then _ else _ : Nat → Bool) x = ((if _ then _ else _ : Nat → Bool) x || _)
    have hc : (bfS xs K j (K - j) = true) ↔ (j = 0 ∨ bfI xs K j (K - j) = true) := by
      rw [ih (K - j), Bool.or_eq_true, decide_eq_true_eq]
      constructor
      · rintro (h | h)
        · exact .inr h
        · exact .inl (by omega)
      · rintro (h | h)
        · exact .inr (by omega)
        · exact .inl h
    by_cases e : j = 0 ∨ bfI xs K j (K - j) = true
    · rw [if_pos e, if_pos (hc.2 e)]
      exact mkP_or _ _ _ (fun x => decide (x = K)) ih _ x
    · rw [if_neg e, if_neg (fun h => e (hc.1 h))]
      exact ih x
theorem bfI_first (xs : List Jb) (K : Nat) : bfI xs K 1 = mkP (jg xs K).needs (bfI xs K 0) (jg xs K).needs.length := by
  show (if 0 = 0 ∨ _ then _ else _) = _
  rw [if_pos (.inl rfl)]; rfl
theorem bfI_on {xs : List Jb} {K j : Nat} (h : bfI xs K j (K - j) = true) : bfI xs K (j + 1) = mkP (jg xs (K - j)).needs (bfI xs K j) (jg xs (K - j)).needs.length := if_pos (.inr h)
theorem bfI_off {xs : List Jb} {K j : Nat} (h0 : j ≠ 0) (h : bfI xs K j (K - j) = false) : bfI xs K (j + 1) = bfI xs K j := if_neg (fun e => by rcases e with e | e; exact h0 e; rw [h] at e; cases e)
theorem bfS_on {xs : List Jb} {K j : Nat} (h : bfS xs K j (K - j) = true) : bfS xs K (j + 1) = mkP (jg xs (K - j)).needs (bfS xs K j) (jg xs (K - j)).needs.length := if_pos h
theorem bfS_off {xs : List Jb} {K j : Nat} (h : bfS xs K j (K - j) = false) : bfS xs K (j + 1) = bfS xs K j := if_neg (by rw [h]; simp)
/-- the marked ones in front of k -/
def baL (f : Nat → Bool) : Nat → List Nat
  | 0 => []
  | k + 1 => if f k = true then baL f k ++ [k] else baL f k
theorem baL_len (f : Nat → Bool) : ∀ k, (baL f k).length ≤ k
  | 0 => Nat.le_refl _
  | k + 1 => by
    have := baL_len f k
    show (if _ then _ else _ : List Nat).length ≤ k + 1
    by_cases e : f k = true
    · rw [if_pos e, List.length_append, List.length_singleton]; omega
    · rw [if_neg e]; omega
theorem baL_yes {f : Nat → Bool} {k : Nat} (h : f k = true) : baL f (k + 1) = baL f k ++ [k] := if_pos h
theorem baL_no {f : Nat → Bool} {k : Nat} (h : f k = false) : baL f (k + 1) = baL f k := if_neg (by rw [h]; simp)
theorem baL_congr {f g : Nat → Bool} : ∀ k, (∀ x, x < k → f x = g x) → baL f k = baL g k
  | 0, _ => rfl
  | k + 1, h => by
    show (if f k = true then baL f k ++ [k] else baL f k) = (if g k = true then baL g k ++ [k] else baL g k)
    rw [h k (by omega), baL_congr k fun x hx => h x (by omega)]
theorem baL_more {f : Nat → Bool} {K : Nat} (h : ∀ x, K ≤ x → f x = false) : ∀ n, K ≤ n → baL f n = baL f K
  | 0, hn => by obtain rfl : K = 0 := by omega
                rfl
  | n + 1, hn => by
    by_cases e : K = n + 1
    · subst e; rfl
    · rw [baL_no (h n (by omega))]; exact baL_more h n (by omega)
/-- the code of a list and a place -/
def cdJ (xs : List Jb) (k : Int) : Int := if okJ xs then (if inB k 0 ((xs.length : Int) - 1) then 0 else 2) else 1
theorem cdJ_bad {xs : List Jb} {k : Int} (h : okJ xs = false) : cdJ xs k = 1 := by unfold cdJ; rw [h]; rfl
theorem cdJ_rng {xs : List Jb} {k : Int} (h : okJ xs = true) (h2 : inB k 0 ((xs.length : Int) - 1) = false) : cdJ xs k = 2 := by unfold cdJ; rw [h, h2]; rfl
theorem cdJ_yes {xs : List Jb} {k : Int} (h : okJ xs = true) (h2 : inB k 0 ((xs.length : Int) - 1) = true) : cdJ xs k = 0 := by unfold cdJ; rw [h, h2]; rfl
def bfC (xs : List Jb) (k : Int) : List Nat := if cdJ xs k = 0 then baL (bfI xs k.toNat (k.toNat + 1)) k.toNat else []
set_option maxRecDepth 100000 in
set_option maxHeartbeats 3200000 in
theorem BefI_any (B : Nat) (v : Value) (xs : List Jb) (k : Int) (w : World) (h : RdJ w B v xs) (hB : B ≤ w.heap.size) (hn : xs.length ≤ 100000) (hz : szJ xs) :
    Calls Tryd.prog 38 #[v, .int .i64 k] w (RetNc (bfC xs k) (cdJ xs k) w) := by
  have HC := Lib.hid (ValidJI_any B v xs w h hB hn hz)
  have HX := Lib.hid (fun wx => between_any k 0 ((xs.length : Int) - 1) wx)
  have H := Lib.hid h
  have HZ := Lib.hid hz
  have hw : IntKind.i64.wrap ((xs.length : Int) - 1) = (xs.length : Int) - 1 := IntWalk.i64_in _ (by omega)
  obtain ⟨A, c, rfl⟩ := h.slice
  clear h hz
  cases h1 : okJ xs with
  | false =>
    have e1 := cdJ_bad (k := k) h1
    have e2 : bfC xs k = [] := by unfold bfC; rw [e1]; rfl
    rw [e1, e2]
    rw [h1] at HC
    clear h1 e1 e2
    go_enter Tryd.func38, Tryd.ntmps38
    go_wp2_with fail
    refine (HC.out).mono ?_; rintro e w2 ⟨rfl, hb2⟩
    have Hz := Lib.hid (RetNc.bad (l := []) (c := 1) rfl hb2)
    clear hb2
    go_wp2_with fail
    go_ret2
    exact Hz.out
  | true =>
    rw [h1] at HC
    cases h2 : inB k 0 ((xs.length : Int) - 1) with
    | false =>
      have e1 := cdJ_rng h1 h2
      have e2 : bfC xs k = [] := by unfold bfC; rw [e1]; rfl
      rw [e1, e2]
      rw [h2] at HX
      clear h1 h2 e1 e2
      go_enter Tryd.func38, Tryd.ntmps38
      go_wp2_with fail
      refine (HC.out).mono ?_; rintro e w2 ⟨rfl, hb2⟩
      have Hz := Lib.hid (RetNc.bad (l := []) (c := 2) rfl hb2)
      clear hb2
      go_wp2_with fail
      refine (HX.out _).mono ?_; rintro e w1 ⟨rfl, rfl⟩
      go_wp2_with fail
      go_ret2
      exact Hz.out
    | true =>
      have HK := Lib.hid (okJ_ok h1)
      have hl30 := HK.out.len
      have e1 := cdJ_yes h1 h2
      obtain ⟨K, rfl⟩ : ∃ K : Nat, k = (K : Int) := ⟨k.toNat, by have := inB_iff.1 h2; omega⟩
      have hKl : K < xs.length := by have := inB_iff.1 h2; omega
      have e2 : bfC xs (K : Int) = baL (bfI xs K (K + 1)) K := by unfold bfC; rw [e1, if_pos rfl, Int.toNat_natCast]
      rw [e1, e2]
      rw [h2] at HX
      clear h1 h2 e1 e2
      have hKl' : (K : Int) < (xs.length : Int) := by omega
      have Hhi := Lib.hid (bfI_hi HK.out hKl (K + 1) (Nat.le_refl _))
      have Heq := Lib.hid (bfS_eq xs K (K + 1) (Nat.le_refl _))
      go_enter Tryd.func38, Tryd.ntmps38
      go_wp2_with fail
      refine (HC.out).mono ?_; rintro e w2 ⟨rfl, hb2⟩
      have Hb2 := Lib.hid hb2
      clear hb2 HC
      go_wp2_with fail
      refine (HX.out _).mono ?_; rintro e w1 ⟨rfl, rfl⟩
      obtain ⟨w3, hmk, hob, hbb⟩ := mk_bools xs.length (by omega) w2
      have Hob := Lib.hid (show w3.ownsRow w2.heap.size 4 1 (.slice (some ⟨w2.heap.size, 0, none⟩) xs.length xs.length) xs.length (tabB xs.length (bfI xs K 0)) from hob)
      have Hbb := Lib.hid (Hb2.out.trans (hbb.mono Hb2.out.size))
      clear hob hbb
      go_wp2_with fail
      clear hmk hw
      have hB' := hB
      go_loopw [7] (fun i wr => ∃ m j : Nat, m + j = K + 1 ∧ i = .int .i64 ((m : Int) - 1) ∧ wr.ownsRow w2.heap.size 4 1 (.slice (some ⟨w2.heap.size, 0, none⟩) xs.length xs.length) xs.length (tabB xs.length (bfI xs K j)) ∧ Below w.heap.size w wr) (fun i _ => (intOf i + 1).toNat)
      case atStart => exact ⟨K + 1, 0, rfl, by go_num, Hob.out, Hbb.out⟩
      case round =>
        clear Hob Hbb
        obtain ⟨m, j, hmj, rfl, hown, hbl⟩ := hrel
        by_cases hm : m = 0
        · subst hm
          obtain rfl : j = K + 1 := by omega
          have hm0 : ¬ ((0 : Int) ≤ ((0 : Nat) : Int) - 1) := by omega
          have Hown := Lib.hid hown
          have Hbl := Lib.hid hbl
          obtain ⟨wb, rfl⟩ : ∃ z, z = wr := ⟨_, rfl⟩
          have hoe := Lib.hid (World.ownsRow_made (base := wb.heap.size) (e := 2) (size := 1) wb #[] 0 (Nat.le_refl _) (by simp [maxLen]) rfl)
          have hbe := Lib.hid ((Below.refl wb.heap.size wb).alloc (Nat.le_refl _) (.cells #[] 2))
          clear hown hbl
          generalize bfI xs K (K + 1) = F at *
          go_wp2_with fail
          go_loopw [10, 56] (fun o i wr => ∃ m : Nat, m ≤ xs.length ∧ i = .int .i64 (m : Int) ∧ wr.ownsRow wb.heap.size 2 1 o (baL F m).length (natV (baL F m)) ∧ Below wb.heap.size wb wr) (fun _ i _ => xs.length - (intOf i).toNat)
          case atStart => exact ⟨0, by omega, by go_num, hoe.out, hbe.out⟩
          case round =>
            obtain ⟨m, hm2, rfl, hoo, hbo⟩ := hrel
            clear hoe hbe
            obtain ⟨A3, c3, rfl⟩ := own_sl hoo
            have Hoo := Lib.hid hoo
            have Hbo := Lib.hid hbo
            by_cases hlt : m < xs.length
            · have hlt' : (m : Int) < (xs.length : Int) := by omega
              obtain ⟨y0, y1⟩ := own_cellB (own_below Hown.out hbo) m hlt
              have hll := baL_len F m
              have hz7 := hbo.size
              clear hoo hbo
              cases hu : F m with
              | false =>
                have E2 := Lib.hid (baL_no hu)
                rw [hu] at y0
                clear hu
                go_wp2_with fail
                go_roundw
                case rel => exact ⟨m + 1, by omega, by go_num, by rw [E2.out]; exact Hoo.out, Hbo.out⟩
                case measure => first | (simp [intOf]; done) | (simp [intOf]; omega)
              | true =>
                have E2 := Lib.hid (baL_yes hu)
                rw [hu] at y0
                clear hu
                go_wp2_with (at_builtin; refine wpList_apd 29 2 _ 1 8 Tryd.underlying29 infoD rfl (by omega) _ _ rfl rfl wb.heap.size _ (baL F m).length _ rfl Hoo.out #[.int .i64 (m : Int)] 1 1 rfl rfl (by simp [Value.oneCell']) (by simp [maxLen]; omega) (by omega) hz7 ?_; intro v7 w7 hown7 hg7; have Hb7 := Lib.hid (below_apd Hbo.out Hoo.out hg7 (Nat.le_refl _) hz7); have Ho7 := Lib.hid (show w7.ownsRow wb.heap.size 2 1 v7 (baL F (m + 1)).length (natV (baL F (m + 1))) by rw [E2.out, natV_snoc, List.length_append]; exact hown7); clear hown7 hg7)
                go_roundw
                case rel => exact ⟨m + 1, by omega, by go_num, Ho7.out, Hb7.out⟩
                case measure => first | (simp [intOf]; done) | (simp [intOf]; omega)
            · obtain rfl : m = xs.length := by omega
              have hlt' : ¬ ((xs.length : Int) < (xs.length : Int)) := by omega
              have hfin := baL_more Hhi.out xs.length (by omega)
              have Hz := Lib.hid (show RetNc (baL F K) 0 w (.returned (.tuple #[.slice A3 (baL F xs.length).length c3, .int .i64 0])) wr by rw [← hfin]; exact ⟨_, rfl, own_lower hoo Hbl.out.size, Hbl.out.trans (hbo.mono Hbl.out.size)⟩)
              clear hoo hbo hfin
              go_wp2_with fail
              go_ret2
              exact Hz.out
        · obtain ⟨k, rfl⟩ : ∃ k, m = k + 1 := ⟨m - 1, by omega⟩
          have ek : ((k + 1 : Nat) : Int) - 1 = (k : Int) := by omega
          rw [ek]
          have hkl : k < xs.length := by omega
          have hkl' : (k : Int) < (xs.length : Int) := by omega
          have hk0 : (0 : Int) ≤ (k : Int) := by omega
          clear ek hm
          by_cases hj : j = 0
          · subst hj
            obtain rfl : k = K := by omega
            have HRl := Lib.hid (bfI_first xs k)
            obtain ⟨gb, ob, A', c', hA, hat0⟩ := H.out.at k hkl
            subst hA
            have HA0 := Lib.hid hat0
            have hat := hat0.below (hbl.mono hB')
            clear hat0
            obtain ⟨hsz, hsn⟩ := HZ.out k hkl
            have y3 := hat.c3
            have Hown := Lib.hid hown
            have Hbl := Lib.hid hbl
            have Hnd := Lib.hid (fun i hi => nd_at HK.out (k := k) (i := i) hkl hi)
            clear hown hbl hat
            generalize hnd0 : (jg xs k).needs = nd at HA0 y3 hsn HRl Hnd ⊢
            have Hn0 := Lib.hid hnd0
            clear hnd0
            obtain ⟨nl, hnl⟩ : ∃ z, nd.length = z := ⟨_, rfl⟩
            have Hnl := Lib.hid hnl
            rw [hnl] at y3 hsn HRl
            clear hnl
            go_wp2_with fail
            clear y3
            go_loopw [45] (fun i wr => ∃ i' : Nat, i' ≤ nl ∧ i = .int .i64 (i' : Int) ∧ wr.ownsRow w2.heap.size 4 1 (.slice (some ⟨w2.heap.size, 0, none⟩) xs.length xs.length) xs.length (tabB xs.length (mkP nd (bfI xs k 0) i')) ∧ Below w.heap.size w wr) (fun i _ => nl - (intOf i).toNat)
            case atStart => exact ⟨0, Nat.zero_le _, rfl, Hown.out, Hbl.out⟩
            case round =>
              clear Hown Hbl
              obtain ⟨i, hi, rfl, hown, hbl⟩ := hrel
              have hat := HA0.out.below (hbl.mono hB')
              have hnd := hat.needs
              have y3 := hat.c3
              rw [Hn0.out, Hnl.out] at hnd y3
              by_cases hil : i < nl
              · have hil' : (i : Int) < (nl : Int) := by omega
                have hid : i < nd.length := by rw [Hnl.out]; exact hil
                obtain ⟨b2, o2, hA2, _, hcc⟩ := rdI_at hnd Hnl.out (by omega)
                subst hA2
                have q1 := hcc i hid
                obtain ⟨p, hp, hge, hne⟩ := Hnd.out i hid
                rw [hne] at q1
                have hpl : (p : Int) < (xs.length : Int) := by omega
                obtain ⟨n0, n1⟩ := own_cellB hown p (by omega)
                have hst := (hown.stored p (.bool true)).1
                have he : putB (mkP nd (bfI xs k 0) i) p true = mkP nd (bfI xs k 0) (i + 1) := by
                  show _ = putB _ _ _
                  rw [hge, Int.toNat_natCast]
                rw [tabB_set, he] at hst
                have hb4 := hbl.setCell (p := ⟨w2.heap.size, p, none⟩) Hb2.out.size (.bool true)
                obtain ⟨wx, hwx⟩ : ∃ z, wr.setCell ⟨w2.heap.size, p, none⟩ (.bool true) = z := ⟨_, rfl⟩
                rw [hwx] at hst hb4
                have Hst := Lib.hid hst
                have Hb4 := Lib.hid hb4
                clear hst hb4 hown hbl he hge hne hcc hnd hat
                generalize mkP nd (bfI xs k 0) i p = fp at *
                go_wp2_with fail
                go_roundw
                case rel => exact ⟨i + 1, by omega, by go_num, Hst.out, Hb4.out⟩
                case measure => first | (simp [intOf]; done) | (simp [intOf]; omega)
              · obtain rfl : nl = i := by omega
                have hil' : ¬ ((nl : Int) < (nl : Int)) := by omega
                rw [← HRl.out] at hown
                have Hown := Lib.hid hown
                have Hbl := Lib.hid hbl
                have hwk : IntKind.i64.wrap ((k : Int) - 1) = (k : Int) - 1 := IntWalk.i64_in _ (by omega)
                clear hown hbl hnd hat
                go_wp2_with fail
                go_roundw
                case rel => exact ⟨k, 1, by omega, rfl, Hown.out, Hbl.out⟩
                case measure => first | (simp [intOf]; done) | (simp [intOf]; omega)
          · have hkK : K - j = k := by omega
            have hne : ¬ ((k : Int) = (K : Int)) := by omega
            have hneb : ((k : Int) == (K : Int)) = false := by simp; omega
            obtain ⟨u0, u1⟩ := own_cellB hown k hkl
            cases hu : bfI xs K j k with
            | false =>
              have Hst := Lib.hid (bfI_off hj (by rw [hkK]; exact hu))
              rw [hu] at u0
              have Hown := Lib.hid hown
              have Hbl := Lib.hid hbl
              have hwk : IntKind.i64.wrap ((k : Int) - 1) = (k : Int) - 1 := IntWalk.i64_in _ (by omega)
              clear hu hown hbl
              go_wp2_with fail
              go_roundw
              case rel => exact ⟨k, j + 1, by omega, rfl, by rw [Hst.out]; exact Hown.out, Hbl.out⟩
              case measure => first | (simp [intOf]; done) | (simp [intOf]; omega)
            | true =>
              rw [hu] at u0
              have hon := bfI_on (xs := xs) (K := K) (j := j) (by rw [hkK]; exact hu)
              rw [hkK] at hon
              clear hu
              have HRl := Lib.hid (hon)
              obtain ⟨gb, ob, A', c', hA, hat0⟩ := H.out.at k hkl
              subst hA
              have HA0 := Lib.hid hat0
              have hat := hat0.below (hbl.mono hB')
              clear hat0
              obtain ⟨hsz, hsn⟩ := HZ.out k hkl
              have y3 := hat.c3
              have Hown := Lib.hid hown
              have Hbl := Lib.hid hbl
              have Hnd := Lib.hid (fun i hi => nd_at HK.out (k := k) (i := i) hkl hi)
              clear hown hbl hat hon
              generalize hnd0 : (jg xs k).needs = nd at *
              have Hn0 := Lib.hid hnd0
              clear hnd0
              obtain ⟨nl, hnl⟩ : ∃ z, nd.length = z := ⟨_, rfl⟩
              have Hnl := Lib.hid hnl
              rw [hnl] at y3 hsn HRl
              clear hnl
              go_wp2_with fail
              clear y3 u0 u1
              go_loopw [45] (fun i wr => ∃ i' : Nat, i' ≤ nl ∧ i = .int .i64 (i' : Int) ∧ wr.ownsRow w2.heap.size 4 1 (.slice (some ⟨w2.heap.size, 0, none⟩) xs.length xs.length) xs.length (tabB xs.length (mkP nd (bfI xs K j) i')) ∧ Below w.heap.size w wr) (fun i _ => nl - (intOf i).toNat)
              case atStart => exact ⟨0, Nat.zero_le _, rfl, Hown.out, Hbl.out⟩
              case round =>
                clear Hown Hbl
                obtain ⟨i, hi, rfl, hown, hbl⟩ := hrel
                have hat := HA0.out.below (hbl.mono hB')
                have hnd := hat.needs
                have y3 := hat.c3
                rw [Hn0.out, Hnl.out] at hnd y3
                by_cases hil : i < nl
                · have hil' : (i : Int) < (nl : Int) := by omega
                  have hid : i < nd.length := by rw [Hnl.out]; exact hil
                  obtain ⟨b2, o2, hA2, _, hcc⟩ := rdI_at hnd Hnl.out (by omega)
                  subst hA2
                  have q1 := hcc i hid
                  obtain ⟨p, hp, hge, hne⟩ := Hnd.out i hid
                  rw [hne] at q1
                  have hpl : (p : Int) < (xs.length : Int) := by omega
                  obtain ⟨n0, n1⟩ := own_cellB hown p (by omega)
                  have hst := (hown.stored p (.bool true)).1
                  have he : putB (mkP nd (bfI xs K j) i) p true = mkP nd (bfI xs K j) (i + 1) := by
                    show _ = putB _ _ _
                    rw [hge, Int.toNat_natCast]
                  rw [tabB_set, he] at hst
                  have hb4 := hbl.setCell (p := ⟨w2.heap.size, p, none⟩) Hb2.out.size (.bool true)
                  obtain ⟨wx, hwx⟩ : ∃ z, wr.setCell ⟨w2.heap.size, p, none⟩ (.bool true) = z := ⟨_, rfl⟩
                  rw [hwx] at hst hb4
                  have Hst := Lib.hid hst
                  have Hb4 := Lib.hid hb4
                  clear hst hb4 hown hbl he hge hne hcc hnd hat
                  generalize mkP nd (bfI xs K j) i p = fp at *
                  go_wp2_with fail
                  go_roundw
                  case rel => exact ⟨i + 1, by omega, by go_num, Hst.out, Hb4.out⟩
                  case measure => first | (simp [intOf]; done) | (simp [intOf]; omega)
                · obtain rfl : nl = i := by omega
                  have hil' : ¬ ((nl : Int) < (nl : Int)) := by omega
                  rw [← HRl.out] at hown
                  have Hown := Lib.hid hown
                  have Hbl := Lib.hid hbl
                  have hwk : IntKind.i64.wrap ((k : Int) - 1) = (k : Int) - 1 := IntWalk.i64_in _ (by omega)
                  clear hown hbl hnd hat
                  go_wp2_with fail
                  go_roundw
                  case rel => exact ⟨k, j + 1, by omega, rfl, Hown.out, Hbl.out⟩
                  case measure => first | (simp [intOf]; done) | (simp [intOf]; omega)
set_option maxRecDepth 100000 in
set_option maxHeartbeats 3200000 in
theorem BefS_any (B : Nat) (v : Value) (xs : List Jb) (k : Int) (w : World) (h : RdJ w B v xs) (hB : B ≤ w.heap.size) (hn : xs.length ≤ 100000) (hz : szJ xs) :
    Calls Tryd.prog 39 #[v, .int .i64 k] w (RetNc (bfC xs k) (cdJ xs k) w) := by
  have HC := Lib.hid (OkJS_any B v xs w h hB hn hz)
  have HX := Lib.hid (fun wx => l00In_any k 0 ((xs.length : Int) - 1) wx)
  have H := Lib.hid h
  have HZ := Lib.hid hz
  have hw : IntKind.i64.wrap ((xs.length : Int) - 1) = (xs.length : Int) - 1 := IntWalk.i64_in _ (by omega)
  obtain ⟨A, c, rfl⟩ := h.slice
  clear h hz
  cases h1 : okJ xs with
  | false =>
    have e1 := cdJ_bad (k := k) h1
    have e2 : bfC xs k = [] := by unfold bfC; rw [e1]; rfl
    rw [e1, e2]
    rw [h1] at HC
    clear h1 e1 e2
    go_enter Tryd.func39, Tryd.ntmps39
    go_wp2_with fail
    refine (HC.out).mono ?_; rintro e w2 ⟨rfl, hb2⟩
    have Hz := Lib.hid (RetNc.bad (l := []) (c := 1) rfl hb2)
    clear hb2
    go_wp2_with fail
    go_ret2
    exact Hz.out
  | true =>
    rw [h1] at HC
    cases h2 : inB k 0 ((xs.length : Int) - 1) with
    | false =>
      have e1 := cdJ_rng h1 h2
      have e2 : bfC xs k = [] := by unfold bfC; rw [e1]; rfl
      rw [e1, e2]
      rw [h2] at HX
      clear h1 h2 e1 e2
      go_enter Tryd.func39, Tryd.ntmps39
      go_wp2_with fail
      refine (HC.out).mono ?_; rintro e w2 ⟨rfl, hb2⟩
      have Hz := Lib.hid (RetNc.bad (l := []) (c := 2) rfl hb2)
      clear hb2
      go_wp2_with fail
      refine (HX.out _).mono ?_; rintro e w1 ⟨rfl, rfl⟩
      go_wp2_with fail
      go_ret2
      exact Hz.out
    | true =>
      have HK := Lib.hid (okJ_ok h1)
      have hl30 := HK.out.len
      have e1 := cdJ_yes h1 h2
      obtain ⟨K, rfl⟩ : ∃ K : Nat, k = (K : Int) := ⟨k.toNat, by have := inB_iff.1 h2; omega⟩
      have hKl : K < xs.length := by have := inB_iff.1 h2; omega
      have e2 : bfC xs (K : Int) = baL (bfI xs K (K + 1)) K := by unfold bfC; rw [e1, if_pos rfl, Int.toNat_natCast]
      rw [e1, e2]
      rw [h2] at HX
      clear h1 h2 e1 e2
      have hKl' : (K : Int) < (xs.length : Int) := by omega
      have Hhi := Lib.hid (bfI_hi HK.out hKl (K + 1) (Nat.le_refl _))
      have Heq := Lib.hid (bfS_eq xs K (K + 1) (Nat.le_refl _))
      go_enter Tryd.func39, Tryd.ntmps39
      go_wp2_with fail
      refine (HC.out).mono ?_; rintro e w2 ⟨rfl, hb2⟩
      have Hb2 := Lib.hid hb2
      clear hb2 HC
      go_wp2_with fail
      refine (HX.out _).mono ?_; rintro e w1 ⟨rfl, rfl⟩
      obtain ⟨w3, hmk, hob, hbb⟩ := mk_bools xs.length (by omega) w2
      obtain ⟨d0, d1⟩ := own_cellB hob K hKl
      have hob3 := (hob.stored K (.bool true)).1
      rw [tabB_set, show tabB xs.length (putB (fun _ => false) K true) = tabB xs.length (bfS xs K 0) from tabB_congr fun i _ => by
        show (if i = K then true else false) = decide (i = K)
        by_cases e : i = K
        · rw [if_pos e]; simp [e]
        · rw [if_neg e]; simp [e]] at hob3
      have Hob := Lib.hid hob3
      have Hbb := Lib.hid ((Hb2.out.trans (hbb.mono Hb2.out.size)).setCell (p := ⟨w2.heap.size, K, none⟩) Hb2.out.size (.bool true))
      have hz3 := (Hb2.out.trans (hbb.mono Hb2.out.size)).size
      have hw23 : w2.heap.size < w3.heap.size := (hob.lt _ rfl).2
      clear hob hbb hob3
      go_wp2_with fail
      clear hmk hw d0 d1
      obtain ⟨w4, hw4⟩ : ∃ z, w3.setCell ⟨w2.heap.size, K, none⟩ (.bool true) = z := ⟨_, rfl⟩
      rw [hw4] at Hob Hbb ⊢
      have hs34 : w4.heap.size = w3.heap.size := by
        rw [← hw4]
        unfold World.setCell
        split <;> first | rfl | simp
      have hoe := Lib.hid (World.ownsRow_made (base := w4.heap.size) (e := 2) (size := 1) w4 #[] 0 (Nat.le_refl _) (by simp [maxLen]) rfl)
      have hbe := Lib.hid ((Below.refl w4.heap.size w4).alloc (Nat.le_refl _) (.cells #[] 2))
      have hB' := hB
      have Hob5 := Lib.hid (own_below Hob.out hbe.out)
      have Hbb5 := Lib.hid (Hbb.out.trans (hbe.out.mono Hbb.out.size))
      rw [hs34] at hoe
      have hw3 : w.heap.size ≤ w3.heap.size := by have := Hbb.out.size; omega
      go_wp2_with fail
      go_loopw [8] (fun i wr => ∃ m j : Nat, m + j = K + 1 ∧ i = .int .i64 ((m : Int) - 1) ∧ wr.ownsRow w2.heap.size 4 1 (.slice (some ⟨w2.heap.size, 0, none⟩) xs.length xs.length) xs.length (tabB xs.length (bfS xs K j)) ∧ wr.ownsRow w3.heap.size 2 1 (.slice (some ⟨w3.heap.size, 0, none⟩) 0 0) 0 [] ∧ Below w.heap.size w wr) (fun i _ => (intOf i + 1).toNat)
      case atStart => exact ⟨K + 1, 0, rfl, by go_num, Hob5.out, hoe.out, Hbb5.out⟩
      case round =>
        clear Hob Hbb Hob5 Hbb5 hoe hbe
        obtain ⟨m, j, hmj, rfl, hown, hoe, hbl⟩ := hrel
        have Hoe := Lib.hid hoe
        clear hoe
        by_cases hm : m = 0
        · subst hm
          obtain rfl : j = K + 1 := by omega
          have hm0 : ¬ ((0 : Int) ≤ ((0 : Nat) : Int) - 1) := by omega
          have Hown := Lib.hid hown
          have Hbl := Lib.hid hbl
          have HFI := Lib.hid (baL_congr (f := bfS xs K (K + 1)) (g := bfI xs K (K + 1)) K (fun x hx => by rw [Heq.out]; simp; omega))
          clear hown hbl
          obtain ⟨wb, rfl⟩ : ∃ z, z = wr := ⟨_, rfl⟩
          generalize bfS xs K (K + 1) = F at *
          generalize bfI xs K (K + 1) = F2 at *
          have hw3b : w3.heap.size ≤ wb.heap.size := Nat.le_of_lt (Hoe.out.lt _ rfl).2
          have HcF := Lib.hid (fun m (hm : m < xs.length) => (own_cellB Hown.out m hm).1)
          clear Hown
          go_wp2_with fail
          go_loopw [7, 10] (fun o i wr => ∃ m : Nat, m ≤ K ∧ i = .int .i64 (m : Int) ∧ wr.ownsRow w3.heap.size 2 1 o (baL F m).length (natV (baL F m)) ∧ Below w3.heap.size wb wr) (fun _ i _ => K - (intOf i).toNat)
          case atStart => exact ⟨0, by omega, by go_num, Hoe.out, Below.refl _ _⟩
          case round =>
            clear Hoe
            obtain ⟨m, hm2, rfl, hoo, hbo⟩ := hrel
            obtain ⟨A3, c3, rfl⟩ := own_sl hoo
            have Hoo := Lib.hid hoo
            have Hbo := Lib.hid hbo
            by_cases hlt : m < K
            · have hlt' : (m : Int) < (K : Int) := by omega
              have hll' : (m : Int) < (xs.length : Int) := by omega
              have y0 := (hbo.cell (p := ⟨w2.heap.size, m, none⟩) hw23).trans (HcF.out m (by omega))
              have hll := baL_len F m
              have hz7 : w3.heap.size ≤ wr.heap.size := by have := hbo.size; omega
              clear hoo hbo
              cases hu : F m with
              | false =>
                have E2 := Lib.hid (baL_no hu)
                rw [hu] at y0
                clear hu
                go_wp2_with fail
                go_roundw
                case rel => exact ⟨m + 1, by omega, by go_num, by rw [E2.out]; exact Hoo.out, Hbo.out⟩
                case measure => first | (simp [intOf]; done) | (simp [intOf]; omega)
              | true =>
                have E2 := Lib.hid (baL_yes hu)
                rw [hu] at y0
                clear hu
                go_wp2_with (at_builtin; refine wpList_apd 29 2 _ 1 8 Tryd.underlying29 infoD rfl (by omega) _ _ rfl rfl w3.heap.size _ (baL F m).length _ rfl Hoo.out #[.int .i64 (m : Int)] 1 1 rfl rfl (by simp [Value.oneCell']) (by simp [maxLen]; omega) (by omega) hz7 ?_; intro v7 w7 hown7 hg7; have Hb7 := Lib.hid (below_apd Hbo.out Hoo.out hg7 (Nat.le_refl _) hz7); have Ho7 := Lib.hid (show w7.ownsRow w3.heap.size 2 1 v7 (baL F (m + 1)).length (natV (baL F (m + 1))) by rw [E2.out, natV_snoc, List.length_append]; exact hown7); clear hown7 hg7)
                go_roundw
                case rel => exact ⟨m + 1, by omega, by go_num, Ho7.out, Hb7.out⟩
                case measure => first | (simp [intOf]; done) | (simp [intOf]; omega)
            · obtain rfl : m = K := by omega
              have hlt' : ¬ ((m : Int) < (m : Int)) := by omega
              have Hz := Lib.hid (show RetNc (baL F2 m) 0 w (.returned (.tuple #[.slice A3 (baL F m).length c3, .int .i64 0])) wr by rw [← HFI.out]; exact ⟨_, rfl, own_lower hoo hw3, Hbl.out.trans (hbo.mono hw3)⟩)
              clear hoo hbo
              go_wp2_with fail
              go_ret2
              exact Hz.out
        · obtain ⟨k, rfl⟩ : ∃ k, m = k + 1 := ⟨m - 1, by omega⟩
          have ek : ((k + 1 : Nat) : Int) - 1 = (k : Int) := by omega
          rw [ek]
          have hkl : k < xs.length := by omega
          have hkl' : (k : Int) < (xs.length : Int) := by omega
          have hk0 : (0 : Int) ≤ (k : Int) := by omega
          have hkK : K - j = k := by omega
          clear ek hm
          obtain ⟨u0, u1⟩ := own_cellB hown k hkl
          cases hu : bfS xs K j k with
          | false =>
            have Hst := Lib.hid (bfS_off (by rw [hkK]; exact hu))
            rw [hu] at u0
            have Hown := Lib.hid hown
            have Hbl := Lib.hid hbl
            have hwk : IntKind.i64.wrap ((k : Int) - 1) = (k : Int) - 1 := IntWalk.i64_in _ (by omega)
            clear hu hown hbl
            go_wp2_with fail
            go_roundw
            case rel => exact ⟨k, j + 1, by omega, rfl, by rw [Hst.out]; exact Hown.out, Hoe.out, Hbl.out⟩
            case measure => first | (simp [intOf]; done) | (simp [intOf]; omega)
          | true =>
            rw [hu] at u0
            have hon := bfS_on (xs := xs) (K := K) (j := j) (by rw [hkK]; exact hu)
            rw [hkK] at hon
            clear hu
            have HRl := Lib.hid (hon)
            obtain ⟨gb, ob, A', c', hA, hat0⟩ := H.out.at k hkl
            subst hA
            have HA0 := Lib.hid hat0
            have hat := hat0.below (hbl.mono hB')
            clear hat0
            obtain ⟨hsz, hsn⟩ := HZ.out k hkl
            have y3 := hat.c3
            have Hown := Lib.hid hown
            have Hbl := Lib.hid hbl
            have Hnd := Lib.hid (fun i hi => nd_at HK.out (k := k) (i := i) hkl hi)
            clear hown hbl hat hon
            generalize hnd0 : (jg xs k).needs = nd at *
            have Hn0 := Lib.hid hnd0
            clear hnd0
            obtain ⟨nl, hnl⟩ : ∃ z, nd.length = z := ⟨_, rfl⟩
            have Hnl := Lib.hid hnl
            rw [hnl] at y3 hsn HRl
            clear hnl
            go_wp2_with fail
            clear y3 u0 u1
            go_loopw [9] (fun i wr => ∃ i' : Nat, i' ≤ nl ∧ i = .int .i64 (i' : Int) ∧ wr.ownsRow w2.heap.size 4 1 (.slice (some ⟨w2.heap.size, 0, none⟩) xs.length xs.length) xs.length (tabB xs.length (mkP nd (bfS xs K j) i')) ∧ wr.ownsRow w3.heap.size 2 1 (.slice (some ⟨w3.heap.size, 0, none⟩) 0 0) 0 [] ∧ Below w.heap.size w wr) (fun i _ => nl - (intOf i).toNat)
            case atStart => exact ⟨0, Nat.zero_le _, rfl, Hown.out, Hoe.out, Hbl.out⟩
            case round =>
              clear Hown Hbl Hoe
              obtain ⟨i, hi, rfl, hown, hoe, hbl⟩ := hrel
              have hat := HA0.out.below (hbl.mono hB')
              have hnd := hat.needs
              have y3 := hat.c3
              rw [Hn0.out, Hnl.out] at hnd y3
              by_cases hil : i < nl
              · have hil' : (i : Int) < (nl : Int) := by omega
                have hid : i < nd.length := by rw [Hnl.out]; exact hil
                obtain ⟨b2, o2, hA2, _, hcc⟩ := rdI_at hnd Hnl.out (by omega)
                subst hA2
                have q1 := hcc i hid
                obtain ⟨p, hp, hge, hne⟩ := Hnd.out i hid
                rw [hne] at q1
                have hpl : (p : Int) < (xs.length : Int) := by omega
                obtain ⟨n0, n1⟩ := own_cellB hown p (by omega)
                have hst := (hown.stored p (.bool true)).1
                have he : putB (mkP nd (bfS xs K j) i) p true = mkP nd (bfS xs K j) (i + 1) := by
                  show _ = putB _ _ _
                  rw [hge, Int.toNat_natCast]
                rw [tabB_set, he] at hst
                have hb4 := hbl.setCell (p := ⟨w2.heap.size, p, none⟩) Hb2.out.size (.bool true)
                have hoe2 := ownsRow_setCell_below hoe (a := ⟨w2.heap.size, p, none⟩) hw23 (.bool true)
                obtain ⟨wx, hwx⟩ : ∃ z, wr.setCell ⟨w2.heap.size, p, none⟩ (.bool true) = z := ⟨_, rfl⟩
                rw [hwx] at hst hb4 hoe2
                have Hst := Lib.hid hst
                have Hoe2 := Lib.hid hoe2
                have Hb4 := Lib.hid hb4
                clear hst hb4 hown hbl hoe hoe2 he hge hne hcc hnd hat
                generalize mkP nd (bfS xs K j) i p = fp at *
                go_wp2_with fail
                go_roundw
                case rel => exact ⟨i + 1, by omega, by go_num, Hst.out, Hoe2.out, Hb4.out⟩
                case measure => first | (simp [intOf]; done) | (simp [intOf]; omega)
              · obtain rfl : nl = i := by omega
                have hil' : ¬ ((nl : Int) < (nl : Int)) := by omega
                rw [← HRl.out] at hown
                have Hoe := Lib.hid hoe
                have Hown := Lib.hid hown
                have Hbl := Lib.hid hbl
                have hwk : IntKind.i64.wrap ((k : Int) - 1) = (k : Int) - 1 := IntWalk.i64_in _ (by omega)
                clear hown hbl hoe hnd hat
                go_wp2_with fail
                go_roundw
                case rel => exact ⟨k, j + 1, by omega, rfl, Hown.out, Hoe.out, Hbl.out⟩
                case measure => first | (simp [intOf]; done) | (simp [intOf]; omega)
end Go.Proofs.YtepgfcjfdnakbaaDoor
/- Inventories, texts, part 10: the plain law of FnPieces. -/
namespace Go.Proofs.YtepgfcjfdnakbaaDoor

/-- the product of the numbers along a way -/
def prodE (xs : List Pc) (p : Nat) (l : List Nat) : Nat := l.foldl (fun p i => p * (pg xs i).each.toNat) p
theorem prodE_snoc (xs : List Pc) (p : Nat) (l : List Nat) (i : Nat) : prodE xs p (l ++ [i]) = prodE xs p l * (pg xs i).each.toNat := by
  unfold prodE
  rw [List.foldl_append]; rfl
theorem wayR_ind {xs : List Pc} {n : Nat} (h : Shp xs n) (Q : Int → Prop) (h0 : ∀ c, c < 0 → Q c) (h1 : ∀ k : Nat, k < n → Q (pg xs k).par → Q (k : Int)) : ∀ (d : Nat) (c : Int), c < (n : Int) → c < (d : Int) → Q c := by
  intro d
  induction d with
  | zero => intro c _ hd; exact h0 c (by omega)
  | succ d ih =>
    intro c hn hd
    by_cases hc : c < 0
    · exact h0 c hc
    · obtain ⟨k, rfl⟩ : ∃ k : Nat, c = (k : Int) := ⟨c.toNat, by omega⟩
      have hp := h.par_in (k := k) (by omega)
      exact h1 k (by omega) (ih _ (by omega) (by omega))
theorem wayR_prod {xs : List Pc} {n : Nat} (h : Shp xs n) {c : Int} (hc : c < (n : Int)) : ∀ p, prodE xs p (wayR xs c) = p * upT xs c := by
  refine wayR_ind h (fun c => ∀ p, prodE xs p (wayR xs c) = p * upT xs c) (fun c hc p => ?_) (fun k hk ih p => ?_) n c hc hc
  · rw [wayR_neg hc]
    unfold upT
    rw [if_pos hc, Nat.mul_one]; rfl
  · rw [wayR_step h hk]
    show prodE xs (p * (pg xs k).each.toNat) (wayR xs (pg xs k).par) = _
    rw [ih, Nat.mul_assoc, ← upT_step h hk]
    unfold upT
    rw [if_neg (by omega), Int.toNat_natCast]
theorem wayR_lt {xs : List Pc} {n : Nat} (h : Shp xs n) {c : Int} (hc : c < (n : Int)) : ∀ i ∈ wayR xs c, (i : Int) ≤ c := by
  refine wayR_ind h (fun c => ∀ i ∈ wayR xs c, (i : Int) ≤ c) (fun c hc i hi => ?_) (fun k hk ih i hi => ?_) n c hc hc
  · rw [wayR_neg hc] at hi; cases hi
  · rw [wayR_step h hk] at hi
    rcases List.mem_cons.1 hi with rfl | hi
    · exact Int.le_refl _
    · have := ih i hi
      have := h.par_in hk
      omega
theorem prodE_ge {xs : List Pc} {n : Nat} (h : Shp xs n) : ∀ (l : List Nat) (p : Nat), (∀ i ∈ l, i < n) → p ≤ prodE xs p l := by
  intro l
  induction l with
  | nil => intro p _; exact Nat.le_refl _
  | cons i l ih =>
    intro p hl
    have he := h.each i (hl i (by simp))
    show p ≤ prodE xs (p * (pg xs i).each.toNat) l
    exact Nat.le_trans (Nat.le_mul_of_pos_right _ (by omega)) (ih _ (fun j hj => hl j (by simp [hj])))
/-- the facts of a piece's way -/
theorem path_facts {xs : List Pc} {n k : Nat} (h : Shp xs n) (hk : k < n) : (∀ i ∈ pathL xs k, i < n) ∧ prodE xs 1 (pathL xs k) = tot xs k ∧ (∀ j, prodE xs 1 ((pathL xs k).take j) ≤ tot xs k) ∧ ∃ l, pathL xs k = l ++ [0] := by
  have hlt : ∀ i ∈ pathL xs k, i < n := fun i hi => by
    rw [← wayR_path] at hi
    have := wayR_lt h (c := (k : Int)) (by omega) i hi
    omega
  have hp : prodE xs 1 (pathL xs k) = tot xs k := by
    rw [← wayR_path, wayR_prod h (by omega), Nat.one_mul]
    unfold upT
    rw [if_neg (by omega), Int.toNat_natCast]
  refine ⟨hlt, hp, fun j => ?_, ?_⟩
  · rw [← hp]
    have h1 := prodE_ge h ((pathL xs k).drop j) (prodE xs 1 ((pathL xs k).take j)) (fun i hi => hlt i (List.mem_of_mem_drop hi))
    have h2 : prodE xs (prodE xs 1 ((pathL xs k).take j)) ((pathL xs k).drop j) = prodE xs 1 (pathL xs k) := by
      unfold prodE
      rw [← List.foldl_append, List.take_append_drop]
    rw [h2] at h1
    exact h1
  · rw [← wayR_path]
    have := wayR_ind h (fun c => 0 ≤ c → ∃ l, wayR xs c = l ++ [0]) (fun c hc h0 => by omega) (fun k hk ih _ => by
      rw [wayR_step h hk]
      by_cases h0 : k = 0
      · subst h0
        rw [h.par0 hk, wayR_neg (by omega)]
        exact ⟨[], rfl⟩
      · have hpi := h.par k (by omega) hk
        obtain ⟨l, hl⟩ := ih hpi.1
        rw [hl]
        exact ⟨k :: l, rfl⟩) n (k : Int) (by omega) (by omega)
    exact this (by omega)
theorem under_way {xs : List Pc} {n k : Nat} (h : Shp xs n) (hk : k < n) : ∀ i, i < n → k ≤ i → und xs k i = true → k ∈ wayR xs (i : Int) := by
  intro i
  induction i using Nat.strongRecOn with
  | ind i ih =>
    intro hi hki hu
    rw [wayR_step h hi]
    by_cases e : i = k
    · subst e; simp
    · have hpi := h.par i (by omega) hi
      rw [und_step h (by omega) hi] at hu
      by_cases h2 : (pg xs i).par.toNat < k
      · rw [und_lt xs h2] at hu; cases hu
      · have h3 := ih (pg xs i).par.toNat (by omega) (by omega) (by omega) hu
        have e2 : (((pg xs i).par.toNat : Nat) : Int) = (pg xs i).par := by omega
        rw [e2] at h3
        exact List.mem_cons_of_mem _ h3
/-- a list of numbers as a table -/
theorem natV_tab (l : List Nat) : natV l = tab l.length (fun i => (l.getD i 0 : Int)) := by
  refine List.ext_getElem (by simp [natV, tab]) (fun i h1 h2 => ?_)
  have hi : i < l.length := by simpa [natV] using h1
  simp [natV, tab, List.getD_eq_getElem?_getD, List.getElem?_eq_getElem hi]
theorem natV_get {l : List Nat} {i : Nat} (h : i < l.length) : (natV l)[i]? = some (.int .i64 (l[i] : Int)) := by
  unfold natV
  rw [List.getElem?_map, List.getElem?_eq_getElem h]; rfl
/-- what the law says of a piece -/
theorem pieces_law {xs : List Pc} {k : Int} (h : cdP xs k = 0) : ∃ j : Nat, k = (j : Int) ∧ j < xs.length ∧ paC xs k = pathL xs j ∧ uC xs k = uL xs j xs.length ∧ toV xs k = (tot xs j : Int) ∧ tot xs j ≤ 1000000 ∧ Shp xs xs.length ∧ xs.length ≤ 40 ∧
    (∀ i : Nat, i < xs.length → cdP xs (i : Int) = 0 ∧ paC xs (i : Int) = pathL xs i) ∧ ∀ i ∈ uL xs j xs.length, i < xs.length ∧ j ∈ pathL xs i := by
  obtain ⟨hok, j, rfl, hj⟩ := cdP_ok h
  obtain ⟨⟨_, h40⟩, _, hs, ht⟩ := okP_ok hok
  have hcd : ∀ i : Nat, i < xs.length → cdP xs (i : Int) = 0 := fun i hi => cdP_yes hok (inB_iff.2 (by omega))
  refine ⟨j, rfl, hj, by unfold paC; rw [if_pos h, Int.toNat_natCast], by unfold uC; rw [if_pos h, Int.toNat_natCast], by unfold toV; rw [if_pos h, Int.toNat_natCast], ht j hj, hs, h40, fun i hi => ⟨hcd i hi, by unfold paC; rw [if_pos (hcd i hi), Int.toNat_natCast]⟩, fun i hi => ?_⟩
  have h1 := List.mem_filter.1 hi
  have h2 := List.mem_range.1 h1.1
  have h3 := h1.2
  simp only [Bool.and_eq_true, decide_eq_true_eq] at h3
  exact ⟨h2, by rw [← wayR_path]; exact under_way hs hj i h2 (by omega) h3.2⟩
theorem paC_len (xs : List Pc) (k : Int) : (paC xs k).length ≤ 40 := by
  unfold paC
  split
  · rename_i h
    obtain ⟨hok, j, rfl, hj⟩ := cdP_ok h
    obtain ⟨⟨_, h40⟩, _, hs, _⟩ := okP_ok hok
    rw [Int.toNat_natCast, ← wayR_path]
    have := wayR_len hs xs.length (j : Int) (by omega) (by omega)
    omega
  · simp
theorem uC_len (xs : List Pc) (k : Int) : (uC xs k).length ≤ xs.length := by
  unfold uC
  split
  · exact uL_len _ _ _
  · simp
end Go.Proofs.YtepgfcjfdnakbaaDoor
