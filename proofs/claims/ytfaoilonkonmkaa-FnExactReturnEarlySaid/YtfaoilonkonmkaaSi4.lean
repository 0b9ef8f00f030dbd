/- Similar entries, part 4: the program's SimilarEntries. -/
import Derived.Test.YtfaoilonkonmkaaSi3
namespace Go.Proofs.Ytfaoilonkonmkaa
open Go.RowKit Go.Joins

set_option maxRecDepth 100000 in
set_option maxHeartbeats 3200000 in
theorem SimilarI_any (B : Nat) (v : Value) (xs : List Ent) (m : Int) (w : World) (h : RdE w B v xs) (hB : B ≤ w.heap.size) (hl : xs.length ≤ 1048576) (hsm : ∀ x ∈ xs, smE x) :
    Calls Try.prog 50 #[v, .int .i64 m] w (RetN (askC xs m) (simL xs m) w) := by
  have HV := Lib.hid (ValidI_any B v xs w h hB hl hsm)
  have HF := Lib.hid (fun wx hx => entryAt_any B v xs m wx (h.below hx))
  have H := Lib.hid h
  have Hsm := Lib.hid hsm
  obtain ⟨A, c, rfl⟩ := h.slice
  clear h hsm
  cases hok : entsOk xs with
  | false =>
    have e1 := Lib.hid (show 1 = askC xs m by unfold askC; rw [hok]; rfl)
    have e2 := Lib.hid (show simL xs m = [] by unfold simL; rw [if_neg (by rw [← e1.out]; decide)])
    rw [hok] at HV
    clear hok
    go_enter Try.func50, Try.ntmps50
    go_wp2_with fail
    refine HV.out.mono ?_; rintro e w1 ⟨rfl, hb1⟩
    go_wp2_with fail
    go_ret2
    exact RetN_no e2.out e1.out hb1
  | true =>
    rw [hok] at HV
    rcases sim_cases xs m with ⟨hc, hs⟩ | ⟨i, hi, hc, _, _, hf, hs⟩
    · have hneg : findN xs m 0 < 0 := by
        unfold askC at hc
        rw [hok, if_neg (by simp)] at hc
        split at hc
        · assumption
        · exact absurd rfl hc
      have e1 := Lib.hid (show 3 = askC xs m by unfold askC; rw [hok, if_neg (by simp), if_pos hneg])
      have e2 := Lib.hid hs
      clear hok hs hc
      generalize findN xs m 0 = F at *
      go_enter Try.func50, Try.ntmps50
      go_wp2_with fail
      refine HV.out.mono ?_; rintro e w1 ⟨rfl, hb1⟩
      go_wp2_with fail
      refine (HF.out w1 (hb1.mono hB) (Nat.le_trans hB hb1.size) hl).mono ?_; rintro e w2 ⟨rfl, hb2⟩
      have hb02 := hb1.trans (hb2.mono hb1.size)
      go_wp2_with fail
      go_ret2
      exact RetN_no e2.out e1.out hb02
    · have Hs := Lib.hid hs; clear hs
      rw [hf] at HF
      have hcz := Lib.hid hc.symm
      generalize askC xs m = C at *
      generalize simL xs m = R at *
      clear hc hf hok
      have hsi := (Hsm.out xs[i] (List.getElem_mem hi)).2.2.1
      have HI := Lib.hid (fun wx (hx : RdE wx B (.slice A xs.length c) xs) => hx.at i hi)
      generalize xs[i] = y at *
      obtain ⟨yn, yna, ym, yy, b⟩ := y
      dsimp only at hsi Hs
      have ho0 := Lib.hid (fun (wx : World) (hx : w.heap.size ≤ wx.heap.size) => World.ownsRow_made (base := w.heap.size) (e := 2) (size := 1) wx #[] 0 hx (by simp [maxLen]) rfl)
      go_enter Try.func50, Try.ntmps50
      go_wp2_with fail
      refine HV.out.mono ?_; rintro e w1 ⟨rfl, hb1⟩
      go_wp2_with fail
      refine (HF.out w1 (hb1.mono hB) (Nat.le_trans hB hb1.size) hl).mono ?_; rintro e w2 ⟨rfl, hb2⟩
      have hb02 := hb1.trans (hb2.mono hb1.size)
      have hb03 := Lib.hid (hb02.alloc hb02.size (.cells #[] 2))
      have ho3 := Lib.hid (ho0.out w2 hb02.size)
      clear hb1 hb2
      have hii : ¬ ((i : Int) < 0) := by omega
      go_wp2_with fail
      go_loopw [7, 8, 25] (fun v mo ix wr => ∃ (k q : Nat) (acc : List Int) (A' : Option Addr) (c' : Nat), k ≤ xs.length ∧ acc.length ≤ k ∧ q ≤ 1048576 ∧ R = simF (xs.drop k) k i b q acc ∧ mo = .int .i64 (q : Int) ∧ v = .slice A' acc.length c' ∧ ix = .int .i64 (k : Int) ∧ wr.ownsRow w.heap.size 2 1 (.slice A' acc.length c') acc.length (ints acc) ∧ Below w.heap.size w wr) (fun _ _ ix _ => xs.length - (intOf ix).toNat)
      case atStart => exact ⟨0, 1, [], _, _, Nat.zero_le _, Nat.le_refl _, by omega, Hs.out, rfl, rfl, rfl, ho3.out, hb03.out⟩
      case round =>
        obtain ⟨k, q, acc, A', c', hk, hal, hqz, heq, rfl, rfl, rfl, hown, hbl⟩ := hrel
        have Heq := Lib.hid heq; clear heq
        by_cases hlt : k < xs.length
        · obtain ⟨b1, o1, A3, c3, hA, hE⟩ := (H.out.below (hbl.mono hB)).at k hlt
          obtain ⟨b2, o2, A4, c4, hA2, hE2⟩ := HI.out wr (H.out.below (hbl.mono hB))
          rw [hA] at hA2
          obtain ⟨rfl, rfl⟩ : b1 = b2 ∧ o1 = o2 := by simpa using hA2
          subst hA
          clear hA2
          have hlt' : (k : Int) < (xs.length : Int) := by omega
          have hi' : (i : Int) < (xs.length : Int) := by omega
          have hsk := (Hsm.out xs[k] (List.getElem_mem hlt)).2.2.1
          have Hst := Lib.hid (simF_at xs k i b q acc hlt)
          generalize xs[k] = x at *
          obtain ⟨num, name, maker, year, s⟩ := x
          obtain ⟨hbB, e0, e1, e2, e3, e4, ew⟩ := hE
          dsimp only at e0 e1 e2 e3 e4 ew hsk Hst
          have hzw := hbl.size
          have hzB : B ≤ wr.heap.size := Nat.le_trans hB hzw
          have hz1 : b1 < wr.heap.size := Nat.lt_of_lt_of_le hbB hzB
          have Hnw := Lib.hid (heap_alloc_new wr (.cells #[.int .i64 num, .string name, .string maker, .int .i64 year, .slice A3 s.length c3] 124))
          have Hbn := Lib.hid ((Below.refl wr.heap.size wr).alloc (Nat.le_refl _) (.cells #[.int .i64 num, .string name, .string maker, .int .i64 year, .slice A3 s.length c3] 124))
          have Hown := Lib.hid (hown.alloc (.cells #[.int .i64 num, .string name, .string maker, .int .i64 year, .slice A3 s.length c3] 124))
          have hlw : wr.heap.size < (wr.alloc (.cells #[.int .i64 num, .string name, .string maker, .int .i64 year, .slice A3 s.length c3] 124)).heap.size := by simp
          have Hw1 := Lib.hid (ew.below (Hbn.out.mono hzB))
          have HE2 := Lib.hid (hE2.below (Hbn.out.mono hzB))
          have Hbl := Lib.hid (hbl.trans (Hbn.out.mono hzw))
          clear hown hbl ew hE2
          go_wp2_with fail
          clear e0 e1 e2 e3 e4
          generalize wr.alloc (.cells #[.int .i64 num, .string name, .string maker, .int .i64 year, .slice A3 s.length c3] 124) = wn at *
          have hzBn : B ≤ wn.heap.size := by omega
          go_loopw [11, 33] (fun cn jx wy => ∃ k2 j : Nat, k2 ≤ s.length ∧ j ≤ k2 ∧ comN s b = j + comN (s.drop k2) b ∧ cn = .int .i64 (j : Int) ∧ jx = .int .i64 (k2 : Int) ∧ Below wn.heap.size wn wy) (fun _ jx _ => s.length - (intOf jx).toNat)
          case atStart => exact ⟨0, 0, Nat.zero_le _, Nat.le_refl _, by simp, rfl, rfl, Below.refl _ _⟩
          case round =>
            obtain ⟨k2, j, hk2, hj, heq2, rfl, rfl, hby⟩ := hrel
            have Heq2 := Lib.hid heq2; clear heq2
            by_cases hlt2 : k2 < s.length
            · obtain ⟨_, bb, oo, hA3, hxc⟩ := rd_at (Hw1.out.below (hby.mono hzBn)) k2 hlt2
              subst hA3
              obtain ⟨_, g0, g1, g2, g3, g4, gw⟩ := HE2.out.below (hby.mono hzBn)
              dsimp only at g0 g1 g2 g3 g4 gw
              have hlt2' : (k2 : Int) < (s.length : Int) := by omega
              have Hst2 := Lib.hid (comN_at s b k2 hlt2)
              generalize s[k2] = z at *
              have HH := Lib.hid (hasWord_any B ⟨yn, yna, ym, yy, b⟩ A4 c4 z _ gw (Nat.le_trans hzBn hby.size) hsi)
              have Hby := Lib.hid hby; clear gw hby
              cases hz : hasW b z with
              | true =>
                have hfin := Lib.hid (show comN s b = (j + 1) + comN (s.drop (k2 + 1)) b by rw [Heq2.out, Hst2.out, if_pos hz]; omega)
                dsimp only at HH
                rw [hz] at HH
                clear hz Hst2
                go_wp2_with fail
                refine HH.out.mono ?_; rintro e w5 ⟨rfl, hb5⟩
                have hb05 := Hby.out.trans (hb5.mono Hby.out.size)
                go_wp2_with fail
                go_roundw
                case rel => exact ⟨k2 + 1, j + 1, by omega, by omega, hfin.out, by go_num, by go_num, hb05⟩
                case measure => simp [intOf]; omega
              | false =>
                have hfin := Lib.hid (show comN s b = j + comN (s.drop (k2 + 1)) b by rw [Heq2.out, Hst2.out, if_neg (by rw [hz]; decide)])
                dsimp only at HH
                rw [hz] at HH
                clear hz Hst2
                go_wp2_with fail
                refine HH.out.mono ?_; rintro e w5 ⟨rfl, hb5⟩
                have hb05 := Hby.out.trans (hb5.mono Hby.out.size)
                go_wp2_with fail
                go_roundw
                case rel => exact ⟨k2 + 1, j, by omega, by omega, hfin.out, by go_num, by go_num, hb05⟩
                case measure => simp [intOf]; omega
            · obtain ⟨f0, _⟩ := five_at ((hby.block _ hlw).trans Hnw.out)
              have hcc : comN s b = j := by rw [Heq2.out, comN_end s b k2 (by omega)]; rfl
              rw [hcc] at Hst
              have hlt2' : (s.length : Int) ≤ (k2 : Int) := by omega
              have hzy := hby.size
              have hzy1 : w.heap.size ≤ wn.heap.size := by omega
              have Hb := Lib.hid (Hbl.out.trans (hby.mono hzy1))
              have Hown2 := Lib.hid (own_below Hown.out hby)
              clear hby hcc
              by_cases hki : k = i
              · have hfin := Lib.hid (show R = simF (xs.drop (k + 1)) (k + 1) i b q acc by rw [Heq.out, Hst.out, if_pos (.inl hki)])
                have hq1 : ((k : Int) == (i : Int)) = true := by rw [hki]; simp
                clear Hst Heq hki
                go_wp2_with fail
                go_roundw
                case rel => exact ⟨k + 1, q, acc, A', c', by omega, by omega, hqz, hfin.out, rfl, rfl, by go_num, Hown2.out, Hb.out⟩
                case measure => simp [intOf]; omega
              · have hq1 : ((k : Int) == (i : Int)) = false := by simp; omega
                by_cases hlow : j < q
                · have hfin := Lib.hid (show R = simF (xs.drop (k + 1)) (k + 1) i b q acc by rw [Heq.out, Hst.out, if_pos (.inr hlow)])
                  have hlow' : (j : Int) < (q : Int) := by omega
                  clear Hst Heq hki
                  go_wp2_with fail
                  go_roundw
                  case rel => exact ⟨k + 1, q, acc, A', c', by omega, by omega, hqz, hfin.out, rfl, rfl, by go_num, Hown2.out, Hb.out⟩
                  case measure => simp [intOf]; omega
                · have hlow' : (q : Int) ≤ (j : Int) := by omega
                  have Hones := Lib.hid (ones_one num)
                  have hzx := Nat.lt_of_lt_of_le hlw hzy
                  by_cases hup : q < j
                  · have hfin := Lib.hid (show R = simF (xs.drop (k + 1)) (k + 1) i b j ([] ++ [num]) by rw [Heq.out, Hst.out, if_neg (by omega), if_pos hup]; rfl)
                    have hup' : (q : Int) < (j : Int) := by omega
                    have ho1 := Lib.hid (ho0.out _ Hb.out.size)
                    have hb1 := Lib.hid (Hb.out.alloc Hb.out.size (.cells #[] 2))
                    have hix := Lib.hid (ints_one [] num)
                    have Hsz1 := Lib.hid (fun wx => show ((wx : World).alloc (.cells #[] 2)).heap.size = wx.heap.size + 1 by simp)
                    clear Hst Heq hki Hown Hown2
                    go_wp2_with (at_builtin; refine wpList_apd 22 2 _ 1 8 Try.underlying22 infoI rfl (by omega) _ _ rfl rfl w.heap.size _ 0 _ rfl ho1.out #[.int .i64 num] 1 1 (by rw [Hsz1.out]; rfl) rfl Hones.out (by simp [maxLen]) (by omega) hb1.out.size ?_; intro v' w7 hown7 hg7; obtain ⟨_, A7, c7, rfl, _⟩ := Rd.of_own hown7; have Hb7 := Lib.hid (below_apd hb1.out ho1.out hg7 (Nat.le_refl _) hb1.out.size))
                    have Hown7 := Lib.hid (show w7.ownsRow w.heap.size 2 1 (.slice A7 ([] ++ [num]).length c7) ([] ++ [num]).length (ints ([] ++ [num])) from by rw [← hix.out]; exact hown7)
                    clear hown7 hg7
                    go_roundw
                    case rel => exact ⟨k + 1, j, [] ++ [num], A7, c7, by omega, by simp, by omega, hfin.out, rfl, rfl, by go_num, Hown7.out, Hb7.out⟩
                    case measure => simp [intOf]; omega
                  · have hfin := Lib.hid (show R = simF (xs.drop (k + 1)) (k + 1) i b q (acc ++ [num]) by rw [Heq.out, Hst.out, if_neg (by omega), if_neg hup])
                    have hup' : (j : Int) ≤ (q : Int) := by omega
                    have hix := Lib.hid (ints_one acc num)
                    have hal2 : acc.length ≤ 1048576 := by omega
                    clear Hst Heq hki
                    go_wp2_with (at_builtin; refine wpList_apd 22 2 _ 1 8 Try.underlying22 infoI rfl (by omega) _ _ rfl rfl w.heap.size (.slice A' acc.length c') acc.length _ rfl Hown2.out #[.int .i64 num] 1 1 rfl rfl Hones.out (by simp [maxLen]; omega) (by omega) Hb.out.size ?_; intro v' w7 hown7 hg7; obtain ⟨_, A7, c7, rfl, _⟩ := Rd.of_own hown7; have Hb7 := Lib.hid (below_apd Hb.out Hown2.out hg7 (Nat.le_refl _) Hb.out.size))
                    have Hown7 := Lib.hid (show w7.ownsRow w.heap.size 2 1 (.slice A7 (acc ++ [num]).length c7) (acc ++ [num]).length (ints (acc ++ [num])) from by rw [← hix.out, show (acc ++ [num]).length = acc.length + 1 by simp]; exact hown7)
                    clear hown7 hg7
                    go_roundw
                    case rel => exact ⟨k + 1, q, acc ++ [num], A7, c7, by omega, by simp; omega, by omega, hfin.out, rfl, by simp, by go_num, Hown7.out, Hb7.out⟩
                    case measure => simp [intOf]; omega
        · have hfin := Lib.hid (show R = acc by rw [Heq.out, simF_end _ _ _ _ _ _ (by omega)])
          have hlt' : (xs.length : Int) ≤ (k : Int) := by omega
          have Hown := Lib.hid hown; clear hown
          go_wp2_with fail
          go_ret2
          exact RetN_yes hfin.out hcz.out Hown.out hbl
end Go.Proofs.Ytfaoilonkonmkaa
