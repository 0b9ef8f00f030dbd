/- Similar entries, part 3: the list; the reference's SimilarEntries. -/
import Derived.Test.YtfaoilonkonmkaaSi2
namespace Go.Proofs.Ytfaoilonkonmkaa
open Go.RowKit Go.Joins

def simF : List Ent → Nat → Nat → List ByteArray → Nat → List Int → List Int
  | [], _, _, _, _, out => out
  | x :: l, k, i, b, m, out => if k = i ∨ comN x.words b < m then simF l (k + 1) i b m out else if m < comN x.words b then simF l (k + 1) i b (comN x.words b) [x.num] else simF l (k + 1) i b m (out ++ [x.num])
theorem simF_at (xs : List Ent) (k i : Nat) (b : List ByteArray) (m : Nat) (out : List Int) (hk : k < xs.length) : simF (xs.drop k) k i b m out =
    if k = i ∨ comN xs[k].words b < m then simF (xs.drop (k + 1)) (k + 1) i b m out else if m < comN xs[k].words b then simF (xs.drop (k + 1)) (k + 1) i b (comN xs[k].words b) [xs[k].num] else simF (xs.drop (k + 1)) (k + 1) i b m (out ++ [xs[k].num]) := by
  rw [List.drop_eq_getElem_cons hk]; rfl
theorem simF_end (xs : List Ent) (k i : Nat) (b : List ByteArray) (m : Nat) (out : List Int) (hk : xs.length ≤ k) : simF (xs.drop k) k i b m out = out := by rw [List.drop_of_length_le hk]; rfl
/-- the numbers of the most similar -/
def simL (xs : List Ent) (m : Int) : List Int := if askC xs m = 0 then simF xs 0 (askI xs m).toNat (xs.getD (askI xs m).toNat noEnt).words 1 [] else []
theorem simF_len (i : Nat) (b : List ByteArray) : ∀ (xs : List Ent) (k m : Nat) (out : List Int), (simF xs k i b m out).length ≤ out.length + xs.length := by
  intro xs
  induction xs with
  | nil => intro k m out; exact Nat.le_refl _
  | cons x l ih =>
    intro k m out
    unfold simF
    split
    · have := ih (k + 1) m out; simp; omega
    · split
      · have := ih (k + 1) (comN x.words b) [x.num]; simp at *; omega
      · have := ih (k + 1) m (out ++ [x.num]); simp at *; omega
theorem simL_len (xs : List Ent) (m : Int) : (simL xs m).length ≤ xs.length := by
  unfold simL
  split
  · have := simF_len (askI xs m).toNat (xs.getD (askI xs m).toNat noEnt).words xs 0 1 []; simpa using this
  · simp
theorem sim_cases (xs : List Ent) (m : Int) : (askC xs m ≠ 0 ∧ simL xs m = []) ∨ ∃ (i : Nat) (hi : i < xs.length), askC xs m = 0 ∧ askI xs m = i ∧ entsOk xs = true ∧ findN xs m 0 = i ∧ simL xs m = simF xs 0 i xs[i].words 1 [] := by
  by_cases h : askC xs m = 0
  · right
    have h' := h
    unfold askC at h
    split at h
    · cases h
    · split at h
      · cases h
      · rename_i ho hf
        have ho : entsOk xs = true := by simpa using ho
        rcases findN_bd m xs 0 with e | ⟨i, hi, e⟩
        · omega
        · rw [Nat.zero_add] at e
          have hI : askI xs m = (i : Int) := by
            unfold askI
            rw [if_neg (by simp [ho]), if_neg (by omega), e]
          refine ⟨i, hi, h', hI, ho, e, ?_⟩
          unfold simL
          rw [if_pos h', hI, Int.toNat_natCast, getE_at xs i hi]
  · exact .inl ⟨h, by unfold simL; rw [if_neg h]⟩

/-- a new list of numbers and a code -/
def RetN (code : Int) (zs : List Int) (w : World) (e : Ending) (w' : World) : Prop :=
  ∃ v, e = .returned (.tuple #[v, .int .i64 code]) ∧ w'.ownsRow w.heap.size 2 1 v zs.length (ints zs) ∧ Below w.heap.size w w'
theorem RetN_no {code c2 : Int} {zs : List Int} {w w' : World} (h : zs = []) (hc : c2 = code) (hb : Below w.heap.size w w') : RetN code zs w (.returned (.tuple #[.slice none 0 0, .int .i64 c2])) w' := by
  subst h hc
  exact ⟨_, rfl, World.ownsRow_nil _ _ _ _, hb⟩
theorem RetN_yes {code c2 : Int} {zs l : List Int} {v : Value} {w w' : World} (h : zs = l) (hc : c2 = code) (ho : w'.ownsRow w.heap.size 2 1 v l.length (ints l)) (hb : Below w.heap.size w w') : RetN code zs w (.returned (.tuple #[v, .int .i64 c2])) w' := by
  subst h hc
  exact ⟨_, rfl, ho, hb⟩
theorem ones_one (a : Int) : ∀ u ∈ (#[Value.int .i64 a] : Array Value).toList, u.oneCell' = true := by
  intro u hu
  simp at hu
  subst hu; rfl
theorem ints_one (l : List Int) (a : Int) : ints l ++ (#[Value.int .i64 a] : Array Value).toList = ints (l ++ [a]) := by simp [ints]

set_option maxRecDepth 100000 in
set_option maxHeartbeats 3200000 in
theorem SimilarS_any (B : Nat) (v : Value) (xs : List Ent) (m : Int) (w : World) (h : RdE w B v xs) (hB : B ≤ w.heap.size) (hl : xs.length ≤ 1048576) (hsm : ∀ x ∈ xs, smE x) :
    Calls Try.prog 49 #[v, .int .i64 m] w (RetN (askC xs m) (simL xs m) w) := by
  have HA := Lib.hid (l25Ask_any B v xs m w h hl hsm)
  have H := Lib.hid h
  have Hsm := Lib.hid hsm
  obtain ⟨A, c, rfl⟩ := h.slice
  clear h hsm
  have hb0 := Below.refl w.heap.size w
  rcases sim_cases xs m with ⟨hc, hs⟩ | ⟨i, hi, hc, hI, _, _, hs⟩
  · have Hs := Lib.hid hs; clear hs
    generalize askI xs m = I at *
    generalize askC xs m = C at *
    have hq : (C == (0 : Int)) = false := by simpa using hc
    go_enter Try.func49, Try.ntmps49
    go_wp2_with fail
    refine HA.out.mono ?_; rintro e w1 ⟨rfl, n, rfl⟩
    go_wp2_with fail
    go_ret2
    exact RetN_no Hs.out rfl (below_drewN hb0 n)
  · have Hs := Lib.hid hs; clear hs
    rw [hc, hI] at HA
    rw [hc]
    generalize simL xs m = R at *
    clear hc hI
    have hsi := (Hsm.out xs[i] (List.getElem_mem hi)).2.2.1
    have ho0 := Lib.hid (fun n => World.ownsRow_made (base := w.heap.size) (e := 2) (size := 1) (w.drewN n) #[] 0 (Nat.le_refl _) (by simp [maxLen]) rfl)
    have hba := Lib.hid (fun n => (below_drewN hb0 n).alloc (by exact Nat.le_refl _) (.cells #[] 2))
    go_enter Try.func49, Try.ntmps49
    go_wp2_with fail
    refine HA.out.mono ?_; rintro e w1 ⟨rfl, n, rfl⟩
    go_wp2_with fail
    go_loopw [8, 9, 10] (fun mo v ix wr => ∃ (k q : Nat) (acc : List Int) (A' : Option Addr) (c' : Nat), k ≤ xs.length ∧ acc.length ≤ k ∧ q ≤ 1048576 ∧ R = simF (xs.drop k) k i xs[i].words q acc ∧ mo = .int .i64 (q : Int) ∧ v = .slice A' acc.length c' ∧ ix = .int .i64 (k : Int) ∧ wr.ownsRow w.heap.size 2 1 (.slice A' acc.length c') acc.length (ints acc) ∧ Below w.heap.size w wr) (fun _ _ ix _ => xs.length - (intOf ix).toNat)
    case atStart => exact ⟨0, 1, [], _, _, Nat.zero_le _, Nat.le_refl _, by omega, Hs.out, rfl, rfl, rfl, ho0.out n, hba.out n⟩
    case round =>
      obtain ⟨k, q, acc, A', c', hk, hal, hqz, heq, rfl, rfl, rfl, hown, hbl⟩ := hrel
      have Heq := Lib.hid heq; clear heq
      by_cases hlt : k < xs.length
      · obtain ⟨b1, o1, A3, c3, hA, hE⟩ := (H.out.below (hbl.mono hB)).at k hlt
        obtain ⟨b2, o2, A4, c4, hA2, hE2⟩ := (H.out.below (hbl.mono hB)).at i hi
        rw [hA] at hA2
        obtain ⟨rfl, rfl⟩ : b1 = b2 ∧ o1 = o2 := by simpa using hA2
        subst hA
        clear hA2
        have hlt' : (k : Int) < (xs.length : Int) := by omega
        have hi' : (i : Int) < (xs.length : Int) := by omega
        have hsk := (Hsm.out xs[k] (List.getElem_mem hlt)).2.2.1
        have Hst := Lib.hid (simF_at xs k i xs[i].words q acc hlt)
        have hcl := comN_le xs[k].words xs[i].words
        have HC := Lib.hid (fun n => l25Common_any B b1 (o1 + k * 5) b1 (o1 + i * 5) xs[k] xs[i] A3 A4 c3 c4 (wr.drewN n) (hE.drewN n) (hE2.drewN n) hsk hsi)
        have e0 := hE.c0
        have hzb := hE.lt
        clear hE hE2
        generalize comN xs[k].words xs[i].words = cc at *
        generalize xs[k].num = num at *
        have Hb := Lib.hid (fun n => below_drewN hbl n)
        have Hown := Lib.hid (fun n => (show (wr.drewN n).ownsRow w.heap.size 2 1 (.slice A' acc.length c') acc.length (ints acc) from hown))
        have hzz := hbl.size
        have hz1 : b1 < wr.heap.size := by omega
        clear hzb
        clear hown hbl
        by_cases hki : k = i
        · have hfin := Lib.hid (show R = simF (xs.drop (k + 1)) (k + 1) i xs[i].words q acc by rw [Heq.out, Hst.out, if_pos (.inl hki)])
          have hq1 : ((k : Int) == (i : Int)) = true := by rw [hki]; simp
          clear Hst Heq hki
          go_wp2_with fail
          go_quiet ((go_at_call 110; exact Calls.quiet_of (HC.out _)))
          go_wp2_with fail
          go_roundw
          case rel => exact ⟨k + 1, q, acc, A', c', by omega, by omega, hqz, hfin.out, rfl, rfl, by go_num, Hown.out _, Hb.out _⟩
          case measure => simp [intOf]; omega
        · have hq1 : ((k : Int) == (i : Int)) = false := by simp; omega
          by_cases hlow : cc < q
          · have hfin := Lib.hid (show R = simF (xs.drop (k + 1)) (k + 1) i xs[i].words q acc by rw [Heq.out, Hst.out, if_pos (.inr hlow)])
            have hlow' : (cc : Int) < (q : Int) := by omega
            clear Hst Heq hki
            go_wp2_with fail
            go_quiet ((go_at_call 110; exact Calls.quiet_of (HC.out _)))
            go_wp2_with fail
            go_roundw
            case rel => exact ⟨k + 1, q, acc, A', c', by omega, by omega, hqz, hfin.out, rfl, rfl, by go_num, Hown.out _, Hb.out _⟩
            case measure => simp [intOf]; omega
          · have hlow' : (q : Int) ≤ (cc : Int) := by omega
            have Hones := Lib.hid (ones_one num)
            by_cases hup : q < cc
            · have hfin := Lib.hid (show R = simF (xs.drop (k + 1)) (k + 1) i xs[i].words cc ([] ++ [num]) by rw [Heq.out, Hst.out, if_neg (by omega), if_pos hup]; rfl)
              have hup' : (q : Int) < (cc : Int) := by omega
              have ho1 := Lib.hid (fun n => World.ownsRow_made (base := w.heap.size) (e := 2) (size := 1) (wr.drewN n) #[] 0 hzz (by simp [maxLen]) rfl)
              have hb1 := Lib.hid (fun n => (Hb.out n).alloc (by exact hzz) (.cells #[] 2))
              have hix := Lib.hid (ints_one [] num)
              have he1 := Lib.hid (fun n => (((below_drewN (Below.refl wr.heap.size wr) n).alloc (by exact Nat.le_refl _) (.cells #[] 2)).cell (p := ⟨b1, o1 + k * 5, none⟩) hz1).trans e0)
              have Hsz1 := Lib.hid (fun n => show ((wr.drewN n).alloc (.cells #[] 2)).heap.size = wr.heap.size + 1 by simp)
              clear Hst Heq hki Hown
              go_wp2_with fail
              go_quiet ((go_at_call 110; exact Calls.quiet_of (HC.out _)))
              have he := he1.out nq
              go_wp2_with (at_builtin; refine wpList_apd 22 2 _ 1 8 Try.underlying22 infoI rfl (by omega) _ _ rfl rfl w.heap.size _ 0 _ rfl (ho1.out _) #[.int .i64 num] 1 1 (by rw [Hsz1.out]; rfl) rfl Hones.out (by simp [maxLen]) (by omega) (hb1.out _).size ?_; intro v' w7 hown7 hg7; obtain ⟨_, A7, c7, rfl, _⟩ := Rd.of_own hown7; have Hb7 := Lib.hid (below_apd (hb1.out _) (ho1.out _) hg7 (Nat.le_refl _) (hb1.out _).size))
              have Hown7 := Lib.hid (show w7.ownsRow w.heap.size 2 1 (.slice A7 ([] ++ [num]).length c7) ([] ++ [num]).length (ints ([] ++ [num])) from by rw [← hix.out]; exact hown7)
              clear hown7 hg7
              go_roundw
              case rel => exact ⟨k + 1, cc, [] ++ [num], A7, c7, by omega, by simp, by omega, hfin.out, rfl, rfl, by go_num, Hown7.out, Hb7.out⟩
              case measure => simp [intOf]; omega
            · have hfin := Lib.hid (show R = simF (xs.drop (k + 1)) (k + 1) i xs[i].words q (acc ++ [num]) by rw [Heq.out, Hst.out, if_neg (by omega), if_neg hup])
              have hup' : (cc : Int) ≤ (q : Int) := by omega
              have hix := Lib.hid (ints_one acc num)
              have hal2 : acc.length ≤ 1048576 := by omega
              clear Hst Heq hki
              go_wp2_with fail
              go_quiet ((go_at_call 110; exact Calls.quiet_of (HC.out _)))
              go_wp2_with (at_builtin; refine wpList_apd 22 2 _ 1 8 Try.underlying22 infoI rfl (by omega) _ _ rfl rfl w.heap.size (.slice A' acc.length c') acc.length _ rfl (Hown.out _) #[.int .i64 num] 1 1 rfl rfl Hones.out (by simp [maxLen]; omega) (by omega) (Hb.out _).size ?_; intro v' w7 hown7 hg7; obtain ⟨_, A7, c7, rfl, _⟩ := Rd.of_own hown7; have Hb7 := Lib.hid (below_apd (Hb.out _) (Hown.out _) hg7 (Nat.le_refl _) (Hb.out _).size))
              have Hown7 := Lib.hid (show w7.ownsRow w.heap.size 2 1 (.slice A7 (acc ++ [num]).length c7) (acc ++ [num]).length (ints (acc ++ [num])) from by rw [← hix.out, show (acc ++ [num]).length = acc.length + 1 by simp]; exact hown7)
              clear hown7 hg7
              go_roundw
              case rel => exact ⟨k + 1, q, acc ++ [num], A7, c7, by omega, by simp; omega, by omega, hfin.out, rfl, by simp, by go_num, Hown7.out, Hb7.out⟩
              case measure => simp [intOf]; omega
      · have hfin := Lib.hid (show R = acc by rw [Heq.out, simF_end _ _ _ _ _ _ (by omega)])
        have hlt' : (xs.length : Int) ≤ (k : Int) := by omega
        have Hown := Lib.hid hown; clear hown
        go_wp2_with fail
        go_ret2
        exact RetN_yes hfin.out rfl Hown.out hbl
end Go.Proofs.Ytfaoilonkonmkaa
