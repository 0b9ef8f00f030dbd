/- Programs of hand movements, part 2: valid programs on both sides. -/
import Derived.Test.YtplpeeienpaaeaaDoorPg1
namespace Go.Proofs.YtplpeeienpaaeaaDoor
open Go.RowKit Go.Joins

theorem Calls_same' {P : Program} {f : FuncId} {args : Array Value} {w : World} {v : Value} (h : Calls P f args w fun e w' => e = .returned v ∧ w = w') : Calls P f args w fun e w' => e = .returned v ∧ w' = w :=
  h.mono fun _ _ ⟨a, b⟩ => ⟨a, b.symm⟩

def cellsP (x : Int × Int) : List Value := [.int .i64 x.1, .int .i64 x.2]
def progs (l : List (Int × Int)) : List Value := l.flatMap cellsP
theorem progs_len (l : List (Int × Int)) : (progs l).length = l.length * 2 := flat_len cellsP 2 (fun _ => rfl) l
theorem progs_rd {w : World} {B n c : Nat} {A : Option Addr} {zs : List (Int × Int)} (h : Rd w B (.slice A n c) zs.length 2 (progs zs)) (k : Nat) (hk : k < zs.length) :
    ∃ b off, A = some ⟨b, off, none⟩ ∧ b < B ∧ w.cell? ⟨b, off + k * 2, none⟩ = some (.int .i64 zs[k].1) ∧ w.cell? ⟨b, off + k * 2 + 1, none⟩ = some (.int .i64 zs[k].2) := by
  obtain ⟨_, A', c', hv, hc⟩ := h
  injection hv with e1 e2 e3
  subst e1
  obtain ⟨b, off, hA, hb, hcc⟩ := hc (by omega)
  refine ⟨b, off, hA, hb, ?_, ?_⟩
  · exact hcc (k * 2 + 0) _ ((flat_at cellsP 2 (fun _ => rfl) zs k 0 hk (by omega)).trans rfl)
  · have := hcc (k * 2 + 1) _ ((flat_at cellsP 2 (fun _ => rfl) zs k 1 hk (by omega)).trans rfl)
    rwa [← Nat.add_assoc] at this

/-- the depth behind instructions; none where one is wrong -/
def goD : Int → List (Int × Int) → Option Int
  | d, [] => some d
  | d, x :: l => if (okIns x.1 x.2 && decide (stepF x.1 d = 0)) = true then goD (stepV x.1 d) l else none
def okProg (zs : List (Int × Int)) : Bool := (goD 0 zs == some 0) && decide (zs.length ≤ 120)
theorem goD_at (zs : List (Int × Int)) (k : Nat) (hk : k < zs.length) (d : Int) : goD d (zs.drop k) = if (okIns zs[k].1 zs[k].2 && decide (stepF zs[k].1 d = 0)) = true then goD (stepV zs[k].1 d) (zs.drop (k + 1)) else none := by
  rw [List.drop_eq_getElem_cons hk]; rfl
theorem step_bd (op d : Int) (h0 : 0 ≤ d) (h4 : d ≤ 4) : 0 ≤ stepV op d ∧ stepV op d ≤ 4 := by
  unfold stepV; split
  · split <;> omega
  · split
    · split <;> omega
    · omega

set_option maxRecDepth 100000 in
set_option maxHeartbeats 1600000 in
theorem ValidProgram_any (B : Nat) (v : Value) (zs : List (Int × Int)) (w : World) (h : Rd w B v zs.length 2 (progs zs)) (hB : B ≤ w.heap.size) (hl : zs.length ≤ 1048576) :
    Calls Tryd.prog 41 #[v] w fun e w' => e = .returned (.bool (okProg zs)) ∧ Below w.heap.size w w' := by
  have H := Lib.hid h
  obtain ⟨_, A, c, rfl, _⟩ := h
  have hb0 := Below.refl w.heap.size w
  go_enter Tryd.func41, Tryd.ntmps41
  go_wp2_with fail
  go_loopw [3, 10] (fun s i wr => ∃ (k : Nat) (d : Int), k ≤ zs.length ∧ 0 ≤ d ∧ d ≤ 4 ∧ goD 0 zs = goD d (zs.drop k) ∧ s = .int .i64 d ∧ i = .int .i64 k ∧ Below w.heap.size w wr) (fun _ i _ => zs.length - (intOf i).toNat)
  case atStart => exact ⟨0, 0, Nat.zero_le _, by omega, by omega, rfl, rfl, rfl, hb0⟩
  case round =>
    obtain ⟨k, d, hk, d0, d4, hgo, rfl, rfl, hbl⟩ := hrel
    have Hgo := Lib.hid hgo; clear hgo
    by_cases hlt : k < zs.length
    · obtain ⟨b1, o1, hA, _, hx, hy⟩ := progs_rd (H.out.below (hbl.mono hB)) k hlt
      subst hA
      have Hst := Lib.hid (goD_at zs k hlt d)
      generalize zs[k].1 = op at *
      generalize zs[k].2 = a at *
      have hlt' : (k : Int) < (zs.length : Int) := by omega
      have HI := Lib.hid (isInstr_any op a)
      have HD := Lib.hid (fun wx => depthBehind_any op a d wx d0 d4)
      have hba := hbl.alloc hbl.size (.cells #[.int .i64 op, .int .i64 a] 67)
      have hnw := Lib.hid (heap_alloc_new wr (.cells #[.int .i64 op, .int .i64 a] 67))
      have hlw : wr.heap.size < (wr.alloc (.cells #[.int .i64 op, .int .i64 a] 67)).heap.size := by simp
      cases hok : okIns op a with
      | false =>
        have hfin := Lib.hid (show okProg zs = false by unfold okProg; rw [Hgo.out, Hst.out, hok]; rfl)
        rw [hok] at HI
        clear Hst hok Hgo
        go_wp2_with fail
        refine (HI.out _).mono ?_; rintro e w1 ⟨rfl, hb1⟩
        have hb2 := hba.trans (hb1.mono hba.size)
        go_wp2_with fail
        go_ret
        rw [hfin.out]; exact ⟨rfl, hb2⟩
      | true =>
        rw [hok] at HI
        by_cases hf : stepF op d = 0
        · have hst := Lib.hid (show goD d (zs.drop k) = goD (stepV op d) (zs.drop (k + 1)) by rw [Hst.out, hok, hf]; rfl)
          obtain ⟨n0, n4⟩ := step_bd op d d0 d4
          rw [hf] at HD
          clear Hst hok hf
          generalize stepV op d = d' at *
          go_wp2_with fail
          refine (HI.out _).mono ?_; rintro e w1 ⟨rfl, hb1⟩
          have hb2 := hba.trans (hb1.mono hba.size)
          obtain ⟨r0, r1⟩ := blkp ((hb1.block _ hlw).trans hnw.out)
          clear hb1 hba hlw
          go_wp2_with fail
          refine (HD.out _).mono ?_; rintro e w2 ⟨rfl, hb3⟩
          have hb4 := hb2.trans (hb3.mono hb2.size)
          clear hb3 hb2 r0 r1
          go_wp2_with fail
          go_roundw
          case rel => exact ⟨k + 1, d', by omega, n0, n4, by rw [Hgo.out, hst.out], rfl, by go_num, hb4⟩
          case measure => simp [intOf]; omega
        · have hfin := Lib.hid (show okProg zs = false by unfold okProg; rw [Hgo.out, Hst.out]; simp [hf])
          have hq : (stepF op d != 0) = true := by simpa using hf
          clear Hst hok hf
          generalize stepF op d = f at *
          generalize stepV op d = d' at *
          go_wp2_with fail
          refine (HI.out _).mono ?_; rintro e w1 ⟨rfl, hb1⟩
          have hb2 := hba.trans (hb1.mono hba.size)
          obtain ⟨r0, r1⟩ := blkp ((hb1.block _ hlw).trans hnw.out)
          clear hb1 hba hlw
          go_wp2_with fail
          refine (HD.out _).mono ?_; rintro e w2 ⟨rfl, hb3⟩
          have hb4 := hb2.trans (hb3.mono hb2.size)
          clear hb3 hb2 r0 r1
          go_wp2_with fail
          go_ret
          rw [hfin.out]; exact ⟨rfl, hb4⟩
    · have hlt' : (zs.length : Int) ≤ (k : Int) := by omega
      have hg : goD 0 zs = some d := by rw [Hgo.out, List.drop_of_length_le (by omega)]; rfl
      by_cases hd : d = 0
      · have hfin := Lib.hid (show okProg zs = decide (zs.length ≤ 120) by unfold okProg; rw [hg, hd]; simp)
        subst hd
        clear hg
        go_wp2_with fail
        go_ret
        rw [hfin.out]; exact ⟨by simp; omega, hbl⟩
      · have hfin := Lib.hid (show okProg zs = false by unfold okProg; rw [hg]; simp [hd])
        have hq : (d == 0) = false := by simpa using hd
        clear hg hd
        go_wp2_with fail
        go_ret
        rw [hfin.out]; exact ⟨rfl, hbl⟩

theorem okIns_in {op a : Int} (h : inB op 1 10 = false) : okIns op a = false := by unfold okIns; rw [h]; rfl
theorem okIns_arg {op a : Int} (h : inB op 1 10 = true) : okIns op a = argF op a := by unfold okIns; rw [h]; rfl

set_option maxRecDepth 100000 in
set_option maxHeartbeats 3200000 in
theorem l11Ok_any (B : Nat) (v : Value) (zs : List (Int × Int)) (w : World) (h : Rd w B v zs.length 2 (progs zs)) (hl : zs.length ≤ 1048576) :
    Calls Tryd.prog 38 #[v] w fun e w' => e = .returned (.bool (okProg zs)) ∧ ∃ n, w' = w.drewN n := by
  have H := Lib.hid h
  obtain ⟨_, A, c, rfl, _⟩ := h
  go_enter Tryd.func38, Tryd.ntmps38
  go_wp2_with fail
  go_loopw [3, 4] (fun s i wr => ∃ (k m : Nat) (d : Int), k ≤ zs.length ∧ 0 ≤ d ∧ d ≤ 4 ∧ goD 0 zs = goD d (zs.drop k) ∧ s = .int .i64 d ∧ i = .int .i64 k ∧ wr = w.drewN m) (fun _ i _ => zs.length - (intOf i).toNat)
  case atStart => exact ⟨0, 0, 0, Nat.zero_le _, by omega, by omega, rfl, rfl, rfl, rfl⟩
  case round =>
    obtain ⟨k, m, d, hk, d0, d4, hgo, rfl, rfl, hwr⟩ := hrel
    have Hw := Lib.hid (fun n => (show wr.drewN n = w.drewN (m + n) by rw [hwr, World.drewN_drewN]))
    have Hw0 := Lib.hid hwr
    have hrd : Rd wr B (.slice A zs.length c) zs.length 2 (progs zs) := by rw [hwr]; exact H.out.drewN m
    clear hwr
    have Hgo := Lib.hid hgo; clear hgo
    by_cases hlt : k < zs.length
    · obtain ⟨b1, o1, hA, _, hx, hy⟩ := progs_rd hrd k hlt
      clear hrd
      subst hA
      have Hst := Lib.hid (goD_at zs k hlt d)
      generalize zs[k].1 = op at *
      generalize zs[k].2 = a at *
      have hlt' : (k : Int) < (zs.length : Int) := by omega
      have HI := Lib.hid (fun wx => Calls_same' (l00In_any op 1 10 wx))
      have HA := Lib.hid (fun wx => Calls_same' (l11Arg_any op a wx))
      have HO := Lib.hid (fun wx => l11Opens_any op wx)
      cases hin : inB op 1 10 with
      | false =>
        have hfin := Lib.hid (show okProg zs = false by unfold okProg; rw [Hgo.out, Hst.out, okIns_in hin]; rfl)
        rw [hin] at HI
        clear Hst hin Hgo
        go_wp2_with fail
        go_quiet ((go_at_call 57; exact Calls.quiet_of_same (HI.out _)))
        go_wp2_with fail
        go_ret
        rw [hfin.out]; exact ⟨rfl, _, Hw.out _⟩
      | true =>
        rw [hin] at HI
        rw [okIns_arg hin] at Hst
        cases hok : argF op a with
        | false =>
          have hfin := Lib.hid (show okProg zs = false by unfold okProg; rw [Hgo.out, Hst.out, hok]; rfl)
          rw [hok] at HA
          clear Hst hin Hgo hok
          go_wp2_with fail
          go_quiet (first | (go_at_call 57; exact Calls.quiet_of_same (HI.out _)) | (go_at_call 58; exact Calls.quiet_of_same (HA.out _)))
          go_wp2_with fail
          go_ret
          rw [hfin.out]; exact ⟨rfl, _, Hw.out _⟩
        | true =>
          rw [hok] at HA
          have hdx : (opens op = true ∧ (op == 10) = false ∧ d = 4 ∧ Hid (okProg zs = false)) ∨ (opens op = true ∧ (op == 10) = false ∧ d < 4 ∧ Hid (goD 0 zs = goD (d + 1) (zs.drop (k + 1)))) ∨
              (opens op = false ∧ op = 10 ∧ d = 0 ∧ Hid (okProg zs = false)) ∨ (opens op = false ∧ op = 10 ∧ 0 < d ∧ Hid (goD 0 zs = goD (d - 1) (zs.drop (k + 1)))) ∨
              (opens op = false ∧ (op == 10) = false ∧ Hid (goD 0 zs = goD d (zs.drop (k + 1)))) := by
            have h1 := Hgo.out
            rw [Hst.out, hok] at h1
            cases ho : opens op with
            | true =>
              have h89 : op = 8 ∨ op = 9 := by simpa [opens] using ho
              have h10 : op ≠ 10 := by omega
              rcases Int.lt_or_le d 4 with hd | hd
              · refine .inr (.inl ⟨rfl, by simpa using h10, hd, Lib.hid ?_⟩)
                have hd' : d ≠ 4 := by omega
                rw [h1]; simp [stepF, stepV, h10, h89, hd']
              · refine .inl ⟨rfl, by simpa using h10, by omega, Lib.hid ?_⟩
                have hd' : d = 4 := by omega
                unfold okProg
                rw [h1]; simp [stepF, h10, h89, hd']
            | false =>
              have h89 : ¬ (op = 8 ∨ op = 9) := by simpa [opens] using ho
              by_cases h10 : op = 10
              · rcases Int.lt_or_le 0 d with hd | hd
                · refine .inr (.inr (.inr (.inl ⟨rfl, h10, hd, Lib.hid ?_⟩)))
                  have hd' : d ≠ 0 := by omega
                  rw [h1]; simp [stepF, stepV, h10, hd']
                · refine .inr (.inr (.inl ⟨rfl, h10, by omega, Lib.hid ?_⟩))
                  have hd' : d = 0 := by omega
                  unfold okProg
                  rw [h1]; simp [stepF, h10, hd']
              · refine .inr (.inr (.inr (.inr ⟨rfl, by simpa using h10, Lib.hid ?_⟩)))
                rw [h1]; simp [stepF, stepV, h10, h89]
          clear Hst hin Hgo hok
          rcases hdx with ⟨ho, hq, rfl, hfin⟩ | ⟨ho, hq, hd, hfin⟩ | ⟨ho, rfl, rfl, hfin⟩ | ⟨ho, rfl, hd, hfin⟩ | ⟨ho, hq, hfin⟩
          all_goals
            rw [ho] at HO
            clear ho
            go_wp2_with fail
            go_quiet (first | (go_at_call 57; exact Calls.quiet_of_same (HI.out _)) | (go_at_call 58; exact Calls.quiet_of_same (HA.out _)))
            go_wp2_with fail
            refine (HO.out _).mono ?_; rintro e w1 ⟨rfl, rfl⟩
            go_wp2_with fail
          · go_ret
            rw [hfin.out]; exact ⟨rfl, _, Hw.out _⟩
          · go_roundw
            case rel => exact ⟨k + 1, _, d + 1, by omega, by omega, by omega, hfin.out, rfl, by go_num, Hw.out _⟩
            case measure => simp [intOf]; omega
          · go_ret
            rw [hfin.out]; exact ⟨rfl, _, Hw.out _⟩
          · go_roundw
            case rel => exact ⟨k + 1, _, d - 1, by omega, by omega, by omega, hfin.out, rfl, by go_num, Hw.out _⟩
            case measure => simp [intOf]; omega
          · go_roundw
            case rel => exact ⟨k + 1, _, d, by omega, by omega, by omega, hfin.out, rfl, by go_num, Hw.out _⟩
            case measure => simp [intOf]; omega
    · have hlt' : (zs.length : Int) ≤ (k : Int) := by omega
      have hg : goD 0 zs = some d := by rw [Hgo.out, List.drop_of_length_le (by omega)]; rfl
      by_cases hd : d = 0
      · have hfin := Lib.hid (show okProg zs = decide (zs.length ≤ 120) by unfold okProg; rw [hg, hd]; simp)
        subst hd
        clear hg
        go_wp2_with fail
        go_ret
        rw [hfin.out]; exact ⟨by simp; omega, _, Hw0.out⟩
      · have hfin := Lib.hid (show okProg zs = false by unfold okProg; rw [hg]; simp [hd])
        have hq : (d == 0) = false := by simpa using hd
        clear hg hd
        go_wp2_with fail
        go_ret
        rw [hfin.out]; exact ⟨rfl, _, Hw0.out⟩
end Go.Proofs.YtplpeeienpaaeaaDoor
