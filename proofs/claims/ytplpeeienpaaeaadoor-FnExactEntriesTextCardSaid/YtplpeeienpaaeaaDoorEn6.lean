/- Entries, part 6: a valid entry, both sides. -/
import Derived.Test.YtplpeeienpaaeaaDoorEn3
import Derived.Test.YtplpeeienpaaeaaDoorNm3
namespace Go.Proofs.YtplpeeienpaaeaaDoor
open Go.RowKit Go.Joins

/-- all of the first n -/
def chk (n : Nat) (f : Nat → Bool) : Bool := (List.range n).all f
theorem chk_bad {n : Nat} {f : Nat → Bool} (k : Nat) (hk : k < n) (h : f k = false) : chk n f = false := by
  unfold chk
  rw [List.all_eq_false]
  exact ⟨k, List.mem_range.2 hk, by simp [h]⟩
theorem chk_step {f : Nat → Bool} {k : Nat} (h0 : chk k f = true) (h : f k = true) : chk (k + 1) f = true := by
  unfold chk at *
  rw [List.range_succ, List.all_append, h0]
  simp [h]
def lessS (a b : ByteArray) : Bool := Op.bytesLess a.toList b.toList
theorem bl_tot : ∀ a b : List UInt8, Op.bytesLess a b = !(Op.bytesLess b a || b == a)
  | [], [] => rfl
  | [], _ :: _ => by simp [Op.bytesLess]
  | _ :: _, [] => by simp [Op.bytesLess]
  | a :: x, b :: y => by
    have ih := bl_tot x y
    rcases Nat.lt_trichotomy a.toNat b.toNat with h | h | h
    · have h1 : a < b := UInt8.lt_iff_toNat_lt.2 h
      have h2 : ¬ b < a := fun e => by have := UInt8.lt_iff_toNat_lt.1 e; omega
      have h3 : b ≠ a := fun e => by rw [e] at h; omega
      simp [Op.bytesLess, h1, h2, h3]
    · have h1 : a = b := UInt8.toNat_inj.1 h
      subst h1
      have h2 : ¬ a < a := fun e => by have := UInt8.lt_iff_toNat_lt.1 e; omega
      simp only [Op.bytesLess, h2, ih]
      simp
    · have h1 : ¬ a < b := fun e => by have := UInt8.lt_iff_toNat_lt.1 e; omega
      have h2 : b < a := UInt8.lt_iff_toNat_lt.2 h
      have h3 : a ≠ b := fun e => by rw [e] at h; omega
      simp [Op.bytesLess, h1, h2, h3]
/-- what the two sides ask of neighbours -/
theorem less_yes {a b : ByteArray} (h : lessS a b = true) : (Op.bytesLess b.toList a.toList || b.toList == a.toList) = false ∧ Op.bytesLess b.toList a.toList = false ∧ (b.toList == a.toList) = false ∧ Op.bytesLess a.toList b.toList = true := by
  have h1 := bl_tot a.toList b.toList
  unfold lessS at h
  rw [h] at h1
  have h2 : (Op.bytesLess b.toList a.toList || b.toList == a.toList) = false := by simpa using h1.symm
  have h3 := h2
  rw [Bool.or_eq_false_iff] at h3
  exact ⟨h2, h3.1, h3.2, h⟩
theorem less_no {a b : ByteArray} (h : lessS a b = false) : (Op.bytesLess b.toList a.toList || b.toList == a.toList) = true ∧ Op.bytesLess a.toList b.toList = false := by
  have h1 := bl_tot a.toList b.toList
  unfold lessS at h
  rw [h] at h1
  refine ⟨?_, h⟩
  cases hh : (Op.bytesLess b.toList a.toList || b.toList == a.toList) with
  | true => rfl
  | false => rw [hh] at h1; simp at h1

def wordOk (l : List ByteArray) (i : Nat) : Bool := isNm (l.getD i ⟨#[]⟩).data.toList && (decide (i = 0) || lessS (l.getD (i - 1) ⟨#[]⟩) (l.getD i ⟨#[]⟩))
def entOk (x : Ent) : Bool := inB x.num 1 1000000 && isNm x.name.data.toList && isNm x.maker.data.toList && inB x.year 1000 3000 && decide (x.words.length ≤ 8) && chk x.words.length (wordOk x.words)
theorem getD_at (l : List ByteArray) (k : Nat) (hk : k < l.length) : l.getD k ⟨#[]⟩ = l[k] := by simp [List.getD, hk]
theorem wordOk_nm (l : List ByteArray) (k : Nat) (hk : k < l.length) (h : isNm l[k].data.toList = false) : wordOk l k = false := by unfold wordOk; rw [getD_at l k hk, h]; rfl
theorem wordOk_0 (l : List ByteArray) (hk : 0 < l.length) (h : isNm l[0].data.toList = true) : wordOk l 0 = true := by unfold wordOk; rw [getD_at l 0 hk, h]; rfl
theorem wordOk_s (l : List ByteArray) (k : Nat) (hk : k + 1 < l.length) (h : isNm l[k + 1].data.toList = true) : wordOk l (k + 1) = lessS l[k] l[k + 1] := by
  unfold wordOk
  rw [getD_at l (k + 1) hk, h, show k + 1 - 1 = k by omega, getD_at l k (by omega)]
  simp
theorem entOk_1 {x : Ent} (h : inB x.num 1 1000000 = false) : entOk x = false := by unfold entOk; rw [h]; rfl
theorem entOk_2 {x : Ent} (h : isNm x.name.data.toList = false) : entOk x = false := by unfold entOk; rw [h]; simp
theorem entOk_3 {x : Ent} (h : isNm x.maker.data.toList = false) : entOk x = false := by unfold entOk; rw [h]; simp
theorem entOk_4 {x : Ent} (h : inB x.year 1000 3000 = false) : entOk x = false := by unfold entOk; rw [h]; simp
theorem entOk_5 {x : Ent} (h : 8 < x.words.length) : entOk x = false := by unfold entOk; rw [decide_eq_false (by omega)]; simp
theorem entOk_6 {x : Ent} (h1 : inB x.num 1 1000000 = true) (h2 : isNm x.name.data.toList = true) (h3 : isNm x.maker.data.toList = true) (h4 : inB x.year 1000 3000 = true) (h5 : x.words.length ≤ 8) : entOk x = chk x.words.length (wordOk x.words) := by unfold entOk; rw [h1, h2, h3, h4, decide_eq_true h5]; simp

set_option maxRecDepth 100000 in
set_option maxHeartbeats 3200000 in
theorem validEntry_any (B : Nat) (x : Ent) (A : Option Addr) (c : Nat) (w : World) (h : Rd w B (.slice A x.words.length c) x.words.length 1 (strs x.words)) (hB : B ≤ w.heap.size) (hsm : smE x) :
    Calls Tryd.prog 56 #[aggE x A c] w fun e w' => e = .returned (.bool (entOk x)) ∧ Below w.heap.size w w' := by
  obtain ⟨num, name, maker, year, words⟩ := x
  obtain ⟨l1, l2, l3, l4⟩ := hsm
  dsimp only at *
  have hsz := Lib.hid l4
  have hb0 := Lib.hid ((Below.refl w.heap.size w).alloc (Nat.le_refl _) (.cells #[.int .i64 num, .string name, .string maker, .int .i64 year, .slice A words.length c] 60))
  have H := Lib.hid (h.below (hb0.out.mono hB))
  have HB1 := Lib.hid (fun wx => between_any num 1 1000000 wx)
  have HB2 := Lib.hid (fun wx => IsNameI_any name wx l1)
  have HB3 := Lib.hid (fun wx => IsNameI_any maker wx l2)
  have HB4 := Lib.hid (fun wx => between_any year 1000 3000 wx)
  clear h l4
  cases g1 : inB num 1 1000000 with
  | false =>
    have hfin := Lib.hid (entOk_1 (x := ⟨num, name, maker, year, words⟩) g1)
    rw [g1] at HB1
    clear g1
    go_enter Tryd.func56, Tryd.ntmps56
    go_wp2_with fail
    refine (HB1.out _).mono ?_; rintro e w1 ⟨rfl, rfl⟩
    go_wp2_with fail
    go_ret
    rw [hfin.out]; exact ⟨rfl, hb0.out⟩
  | true =>
    rw [g1] at HB1
    cases g2 : isNm name.data.toList with
    | false =>
      have hfin := Lib.hid (entOk_2 (x := ⟨num, name, maker, year, words⟩) g2)
      rw [g2] at HB2
      clear g1 g2
      go_enter Tryd.func56, Tryd.ntmps56
      go_wp2_with fail
      refine (HB1.out _).mono ?_; rintro e w1 ⟨rfl, rfl⟩
      go_wp2_with fail
      refine (HB2.out _).mono ?_; rintro e w1 ⟨rfl, rfl⟩
      go_wp2_with fail
      go_ret
      rw [hfin.out]; exact ⟨rfl, hb0.out⟩
    | true =>
      rw [g2] at HB2
      cases g3 : isNm maker.data.toList with
      | false =>
        have hfin := Lib.hid (entOk_3 (x := ⟨num, name, maker, year, words⟩) g3)
        rw [g3] at HB3
        clear g1 g2 g3
        go_enter Tryd.func56, Tryd.ntmps56
        go_wp2_with fail
        refine (HB1.out _).mono ?_; rintro e w1 ⟨rfl, rfl⟩
        go_wp2_with fail
        refine (HB2.out _).mono ?_; rintro e w1 ⟨rfl, rfl⟩
        go_wp2_with fail
        refine (HB3.out _).mono ?_; rintro e w1 ⟨rfl, rfl⟩
        go_wp2_with fail
        go_ret
        rw [hfin.out]; exact ⟨rfl, hb0.out⟩
      | true =>
        rw [g3] at HB3
        cases g4 : inB year 1000 3000 with
        | false =>
          have hfin := Lib.hid (entOk_4 (x := ⟨num, name, maker, year, words⟩) g4)
          rw [g4] at HB4
          clear g1 g2 g3 g4
          go_enter Tryd.func56, Tryd.ntmps56
          go_wp2_with fail
          refine (HB1.out _).mono ?_; rintro e w1 ⟨rfl, rfl⟩
          go_wp2_with fail
          refine (HB2.out _).mono ?_; rintro e w1 ⟨rfl, rfl⟩
          go_wp2_with fail
          refine (HB3.out _).mono ?_; rintro e w1 ⟨rfl, rfl⟩
          go_wp2_with fail
          refine (HB4.out _).mono ?_; rintro e w1 ⟨rfl, rfl⟩
          go_wp2_with fail
          go_ret
          rw [hfin.out]; exact ⟨rfl, hb0.out⟩
        | true =>
          rw [g4] at HB4
          by_cases g5 : 8 < words.length
          · have hfin := Lib.hid (entOk_5 (x := ⟨num, name, maker, year, words⟩) g5)
            have g5' : (8 : Int) < (words.length : Int) := by omega
            clear g1 g2 g3 g4
            go_enter Tryd.func56, Tryd.ntmps56
            go_wp2_with fail
            refine (HB1.out _).mono ?_; rintro e w1 ⟨rfl, rfl⟩
            go_wp2_with fail
            refine (HB2.out _).mono ?_; rintro e w1 ⟨rfl, rfl⟩
            go_wp2_with fail
            refine (HB3.out _).mono ?_; rintro e w1 ⟨rfl, rfl⟩
            go_wp2_with fail
            refine (HB4.out _).mono ?_; rintro e w1 ⟨rfl, rfl⟩
            go_wp2_with fail
            go_ret
            rw [hfin.out]; exact ⟨rfl, hb0.out⟩
          · have hfin := Lib.hid (entOk_6 (x := ⟨num, name, maker, year, words⟩) g1 g2 g3 g4 (by show words.length ≤ 8; omega))
            (try dsimp only at hfin)
            have g5' : (words.length : Int) ≤ 8 := by omega
            clear g1 g2 g3 g4
            go_enter Tryd.func56, Tryd.ntmps56
            go_wp2_with fail
            refine (HB1.out _).mono ?_; rintro e w1 ⟨rfl, rfl⟩
            go_wp2_with fail
            refine (HB2.out _).mono ?_; rintro e w1 ⟨rfl, rfl⟩
            go_wp2_with fail
            refine (HB3.out _).mono ?_; rintro e w1 ⟨rfl, rfl⟩
            go_wp2_with fail
            refine (HB4.out _).mono ?_; rintro e w1 ⟨rfl, rfl⟩
            go_wp2_with fail
            go_loop [36] (fun i => ∃ k : Nat, k ≤ words.length ∧ chk k (wordOk words) = true ∧ i = .int .i64 k) (fun i => words.length - (intOf i).toNat)
            case atStart => exact ⟨0, Nat.zero_le _, rfl, rfl⟩
            case round =>
              obtain ⟨k, hk, hall, rfl⟩ := hrel
              have Hall := Lib.hid hall; clear hall
              by_cases hlt : k < words.length
              · obtain ⟨_, b1, o1, hA, hx⟩ := rd_at H.out k hlt
                have HA := Lib.hid hA
                have hlt' : (k : Int) < (words.length : Int) := by omega
                have Hbad := Lib.hid (fun h => hfin.out.trans (chk_bad (f := wordOk words) k hlt h))
                have Hst := Lib.hid (fun h => chk_step (f := wordOk words) (k := k) Hall.out h)
                have Hn := Lib.hid (fun h => wordOk_nm words k hlt h)
                have HN := Lib.hid (fun wx => IsNameI_any words[k] wx (hsz.out _ (List.getElem_mem hlt)))
                cases k with
                | zero =>
                  have H0 := Lib.hid (fun h => wordOk_0 words hlt h)
                  generalize words[0] = z at *
                  subst hA
                  rw [Nat.add_zero] at hx
                  clear HA
                  cases g : isNm z.data.toList with
                  | false =>
                    have hf := Lib.hid (Hbad.out (Hn.out g))
                    rw [g] at HN
                    clear Hbad Hst Hn g H0
                    go_wp2_with fail
                    refine (HN.out _).mono ?_; rintro e w1 ⟨rfl, rfl⟩
                    go_wp2_with fail
                    go_ret
                    rw [hf.out]; exact ⟨rfl, hb0.out⟩
                  | true =>
                    have hst := Lib.hid (Hst.out (H0.out g))
                    rw [g] at HN
                    clear Hbad Hst Hn g H0
                    go_wp2_with fail
                    refine (HN.out _).mono ?_; rintro e w1 ⟨rfl, rfl⟩
                    go_wp2_with fail
                    go_round
                    case rel => exact ⟨1, by omega, hst.out, by go_num⟩
                    case measure => simp [intOf]; omega
                | succ m =>
                  obtain ⟨_, b1', o1', hA', hy⟩ := rd_at H.out m (by omega)
                  rw [HA.out] at hA'
                  obtain ⟨rfl, rfl⟩ : b1 = b1' ∧ o1 = o1' := by simpa using hA'
                  have H0 := Lib.hid (fun h => wordOk_s words m hlt h)
                  generalize words[m + 1] = z at *
                  generalize words[m] = y at *
                  subst hA
                  clear hA'
                  cases g : isNm z.data.toList with
                  | false =>
                    have hf := Lib.hid (Hbad.out (Hn.out g))
                    rw [g] at HN
                    clear Hbad Hst Hn g H0
                    go_wp2_with fail
                    refine (HN.out _).mono ?_; rintro e w1 ⟨rfl, rfl⟩
                    go_wp2_with fail
                    go_ret
                    rw [hf.out]; exact ⟨rfl, hb0.out⟩
                  | true =>
                    rw [g] at HN
                    have h1 := H0.out g
                    have hm1 : IntKind.i64.wrap (((m + 1 : Nat) : Int) - 1) = (m : Int) := by rw [IntWalk.i64_in _ (by omega)]; omega
                    have hm2 : ((m + 1 : Nat) : Int) - 1 = (m : Int) := by omega
                    have hpos : (0 : Int) < ((m + 1 : Nat) : Int) := by omega
                    cases gl : lessS y z with
                    | true =>
                      have hst := Lib.hid (Hst.out (h1.trans gl))
                      obtain ⟨t1, t2, t3, t4⟩ := less_yes gl
                      clear Hbad Hst Hn g H0 h1 gl
                      go_wp2_with fail
                      refine (HN.out _).mono ?_; rintro e w1 ⟨rfl, rfl⟩
                      go_wp2_with fail
                      clear hm1 hm2
                      go_round
                      case rel => exact ⟨m + 1 + 1, by omega, hst.out, by go_num⟩
                      case measure => simp [intOf]; omega
                    | false =>
                      have hf := Lib.hid (Hbad.out (h1.trans gl))
                      obtain ⟨t1, t2⟩ := less_no gl
                      clear Hbad Hst Hn g H0 h1 gl
                      go_wp2_with fail
                      refine (HN.out _).mono ?_; rintro e w1 ⟨rfl, rfl⟩
                      go_wp2_with fail
                      clear hm1 hm2
                      go_ret
                      rw [hf.out]; exact ⟨rfl, hb0.out⟩
              · have hf := Lib.hid (show entOk ⟨num, name, maker, year, words⟩ = true by rw [hfin.out, show words.length = k by omega]; exact Hall.out)
                have hlt' : (words.length : Int) ≤ (k : Int) := by omega
                go_wp2_with fail
                go_ret
                rw [hf.out]; exact ⟨rfl, hb0.out⟩
end Go.Proofs.YtplpeeienpaaeaaDoor
