/- Merged texts: En9, Si1, Reg1, Si2, Si3, Si4, Si5, Lo6, Lo7, Lo8, Lo9, Lo10, Lo11. -/
import Derived.Test.YtmheijnckmlbnaaDoorGCardLoans3
import Derived.Test.YtmheijnckmlbnaaDoorGCardLoans1
import Derived.Lib.SmallJoins
/- Entries, part 9: ValidEntries on the reference's side; the law. -/
namespace Go.Proofs.YtmheijnckmlbnaaDoor
open Go.RowKit Go.Joins

set_option maxRecDepth 100000 in
set_option maxHeartbeats 3200000 in
theorem l25Ok_any (B : Nat) (v : Value) (xs : List Ent) (w : World) (h : RdE w B v xs) (hl : xs.length ≤ 1048576) (hsm : ∀ x ∈ xs, smE x) :
    Calls Tryd.prog 68 #[v] w fun e w' => e = .returned (.bool (entsOk xs)) ∧ ∃ n, w' = w.drewN n := by
  have H := Lib.hid h
  have Hsm := Lib.hid hsm
  obtain ⟨A, c, rfl⟩ := h.slice
  clear h hsm
  go_enter Tryd.func68, Tryd.ntmps68
  go_wp2_with fail
  go_loopw [3] (fun i wr => ∃ k m0 : Nat, k ≤ xs.length ∧ chk k (placeOk xs) = true ∧ i = .int .i64 k ∧ wr = w.drewN m0) (fun i _ => xs.length - (intOf i).toNat)
  case atStart => exact ⟨0, 0, Nat.zero_le _, rfl, rfl, rfl⟩
  case round =>
    obtain ⟨k, m0, hk, hall, rfl, hwr⟩ := hrel
    have Hw := Lib.hid (fun n => (show wr.drewN n = w.drewN (m0 + n) by rw [hwr, World.drewN_drewN]))
    have Hw0 := Lib.hid hwr
    have Hall := Lib.hid hall; clear hall
    have Hr : Hid (RdE wr B (.slice A xs.length c) xs) := Lib.hid (by rw [hwr]; exact H.out.drewN m0)
    clear hwr
    by_cases hlt : k < xs.length
    · obtain ⟨b1, o1, A3, c3, hA, hE⟩ := Hr.out.at k hlt
      have HA := Lib.hid hA
      have hlt' : (k : Int) < (xs.length : Int) := by omega
      have Hbad := Lib.hid (fun h => ents_no (l := xs) k hlt h)
      have Hst := Lib.hid (fun h => chk_step (f := placeOk xs) (k := k) Hall.out h)
      have Hn := Lib.hid (fun h => place_no xs k hlt h)
      have hsx := Lib.hid (Hsm.out xs[k] (List.getElem_mem hlt))
      cases k with
      | zero =>
        have H0 := Lib.hid (fun h => place_0 xs hlt h)
        generalize xs[0] = x at *
        subst hA
        clear HA
        have HO := Lib.hid (fun n => l25One_any B b1 (o1 + 0 * 5) x A3 c3 (wr.drewN n) (hE.drewN n) hsx.out)
        rw [Nat.zero_mul, Nat.add_zero] at HO
        have e0 := hE.c0
        rw [Nat.zero_mul, Nat.add_zero] at e0
        clear hE
        generalize x.num = num at *
        cases g : entOk x with
        | false =>
          have hf := Lib.hid (Hbad.out (Hn.out g))
          rw [g] at HO
          clear Hbad Hst Hn g H0
          go_wp2_with fail
          go_quiet ((go_at_call 95; exact Calls.quiet_of (HO.out _)))
          go_wp2_with fail
          go_ret
          rw [hf.out]; exact ⟨rfl, _, Hw.out _⟩
        | true =>
          have hst := Lib.hid (Hst.out (H0.out g))
          rw [g] at HO
          clear Hbad Hst Hn g H0
          go_wp2_with fail
          go_quiet ((go_at_call 95; exact Calls.quiet_of (HO.out _)))
          go_wp2_with fail
          go_roundw
          case rel => exact ⟨1, _, by omega, hst.out, by go_num, Hw.out _⟩
          case measure => simp [intOf]; omega
      | succ m =>
        obtain ⟨b2, o2, A4, c4, hA', hE'⟩ := Hr.out.at m (by omega)
        rw [HA.out] at hA'
        obtain ⟨rfl, rfl⟩ : b1 = b2 ∧ o1 = o2 := by simpa using hA'
        have H0 := Lib.hid (fun h => place_s xs m hlt h)
        have hp0 := hE'.c0
        generalize xs[m + 1] = x at *
        generalize xs[m] = y at *
        generalize y.num = pn at *
        subst hA
        clear hA' HA hE'
        have HO := Lib.hid (fun n => l25One_any B b1 (o1 + (m + 1) * 5) x A3 c3 (wr.drewN n) (hE.drewN n) hsx.out)
        have e0 := hE.c0
        clear hE
        have hpos : (0 : Int) < ((m + 1 : Nat) : Int) := by omega
        cases g : entOk x with
        | false =>
          have hf := Lib.hid (Hbad.out (Hn.out g))
          rw [g] at HO
          clear Hbad Hst Hn g H0
          go_wp2_with fail
          go_quiet ((go_at_call 95; exact Calls.quiet_of (HO.out _)))
          go_wp2_with fail
          go_ret
          rw [hf.out]; exact ⟨rfl, _, Hw.out _⟩
        | true =>
          rw [g] at HO
          have h1 := H0.out g
          generalize x.num = num at *
          have hm2 : (m : Int) < (xs.length : Int) := by omega
          rcases Decidable.em (pn < num) with gl | gl
          · have hst := Lib.hid (Hst.out (h1.trans (decide_eq_true gl)))
            clear Hbad Hst Hn g H0 h1
            have hm1 : IntKind.i64.wrap (m : Int) = (m : Int) := IntWalk.i64_in _ (by omega)
            go_wp2_with fail
            go_quiet ((go_at_call 95; exact Calls.quiet_of (HO.out _)))
            clear hm1
            go_wp2_with fail
            go_roundw
            case rel => exact ⟨m + 1 + 1, _, by omega, hst.out, by go_num, Hw.out _⟩
            case measure => simp [intOf]; omega
          · have hf := Lib.hid (Hbad.out (h1.trans (decide_eq_false gl)))
            have gl' : num ≤ pn := by omega
            clear Hbad Hst Hn g H0 h1 gl
            have hm1 : IntKind.i64.wrap (m : Int) = (m : Int) := IntWalk.i64_in _ (by omega)
            go_wp2_with fail
            go_quiet ((go_at_call 95; exact Calls.quiet_of (HO.out _)))
            clear hm1
            go_wp2_with fail
            go_ret
            rw [hf.out]; exact ⟨rfl, _, Hw.out _⟩
    · have hc : chk xs.length (placeOk xs) = true := by rw [show xs.length = k by omega]; exact Hall.out
      have hf := Lib.hid (show entsOk xs = decide (xs.length ≤ 50) by unfold entsOk; rw [hc]; rfl)
      have hlt' : (xs.length : Int) ≤ (k : Int) := by omega
      clear hc
      go_wp2_with fail
      go_ret
      rw [hf.out]; exact ⟨by simp; omega, _, Hw0.out⟩

end Go.Proofs.YtmheijnckmlbnaaDoor
/- Similar entries, part 1: finding an entry, a word. -/
namespace Go.Proofs.YtmheijnckmlbnaaDoor
open Go.RowKit Go.Joins

def findN : List Ent → Int → Nat → Int
  | [], _, _ => -1
  | x :: l, m, k => if x.num = m then (k : Int) else findN l m (k + 1)
theorem findN_at (xs : List Ent) (m : Int) (k : Nat) (hk : k < xs.length) : findN (xs.drop k) m k = if xs[k].num = m then (k : Int) else findN (xs.drop (k + 1)) m (k + 1) := by
  rw [List.drop_eq_getElem_cons hk]; rfl
theorem findN_end (xs : List Ent) (m : Int) (k : Nat) (hk : xs.length ≤ k) : findN (xs.drop k) m k = -1 := by rw [List.drop_of_length_le hk]; rfl
theorem findN_bd (m : Int) : ∀ (xs : List Ent) (k : Nat), findN xs m k = -1 ∨ ∃ i, i < xs.length ∧ findN xs m k = ((k + i : Nat) : Int) := by
  intro xs
  induction xs with
  | nil => intro k; exact .inl rfl
  | cons x l ih =>
    intro k
    unfold findN
    split
    · exact .inr ⟨0, by simp, rfl⟩
    · rcases ih (k + 1) with h | ⟨i, h1, h2⟩
      · exact .inl h
      · exact .inr ⟨i + 1, by simp; omega, by rw [h2]; congr 1; omega⟩
def hasW : List ByteArray → ByteArray → Bool
  | [], _ => false
  | x :: l, s => if x = s then true else hasW l s
theorem hasW_at (ws : List ByteArray) (s : ByteArray) (k : Nat) (hk : k < ws.length) : hasW (ws.drop k) s = if ws[k] = s then true else hasW (ws.drop (k + 1)) s := by
  rw [List.drop_eq_getElem_cons hk]; rfl
theorem hasW_end (ws : List ByteArray) (s : ByteArray) (k : Nat) (hk : ws.length ≤ k) : hasW (ws.drop k) s = false := by rw [List.drop_of_length_le hk]; rfl

/-- the code of an asked number, and where it is -/
def askC (xs : List Ent) (m : Int) : Int := if entsOk xs = false then 1 else if findN xs m 0 < 0 then 3 else 0
def askI (xs : List Ent) (m : Int) : Int := if entsOk xs = false then 0 else if findN xs m 0 < 0 then 0 else findN xs m 0
set_option maxRecDepth 100000 in
set_option maxHeartbeats 800000 in
theorem l25Has_any (B : Nat) (v : Value) (ws : List ByteArray) (s : ByteArray) (w : World) (h : Rd w B v ws.length 1 (strs ws)) (hl : ws.length ≤ 1048576) :
    Calls Tryd.prog 78 #[v, .string s] w fun e w' => e = .returned (.bool (hasW ws s)) ∧ w = w' := by
  have H := Lib.hid h
  obtain ⟨_, A, c, rfl, _⟩ := h
  go_enter Tryd.func78, Tryd.ntmps78
  go_wp2_with fail
  go_loop [5] (fun i => ∃ k : Nat, k ≤ ws.length ∧ hasW ws s = hasW (ws.drop k) s ∧ i = .int .i64 (k : Int)) (fun i => ws.length - (intOf i).toNat)
  case atStart => exact ⟨0, Nat.zero_le _, rfl, rfl⟩
  case round =>
    obtain ⟨k, hk, heq, rfl⟩ := hrel
    have Heq := Lib.hid heq; clear heq
    by_cases hlt : k < ws.length
    · obtain ⟨_, b1, o1, hA, hx⟩ := rd_at H.out k hlt
      subst hA
      have hlt' : (k : Int) < (ws.length : Int) := by omega
      have Hst := Lib.hid (hasW_at ws s k hlt)
      generalize ws[k] = z at *
      by_cases hz : z = s
      · have hfin := Lib.hid (show hasW ws s = true by rw [Heq.out, Hst.out]; exact if_pos hz)
        have hq : (z.toList == s.toList) = true := by rw [hz]; simp
        clear hz
        go_wp2_with fail
        go_ret
        rw [hfin.out]; exact ⟨rfl, rfl⟩
      · have hfin := Lib.hid (show hasW ws s = hasW (ws.drop (k + 1)) s by rw [Heq.out, Hst.out]; exact if_neg hz)
        have hq : (z.toList == s.toList) = false := beq_eq_false_iff_ne.2 fun h => hz (ba_inj h)
        clear hz
        go_wp2_with fail
        go_round
        case rel => exact ⟨k + 1, by omega, hfin.out, by go_num⟩
        case measure => simp [intOf]; omega
    · have hfin := Lib.hid (show hasW ws s = false by rw [Heq.out, hasW_end ws s k (by omega)])
      have hlt' : (ws.length : Int) ≤ (k : Int) := by omega
      go_wp2_with fail
      go_ret
      rw [hfin.out]; exact ⟨rfl, rfl⟩

set_option maxRecDepth 100000 in
set_option maxHeartbeats 800000 in
theorem hasWord_any (B : Nat) (x : Ent) (A : Option Addr) (c : Nat) (s : ByteArray) (w : World) (h : Rd w B (.slice A x.words.length c) x.words.length 1 (strs x.words)) (hB : B ≤ w.heap.size) (hl : x.words.length ≤ 1048576) :
    Calls Tryd.prog 104 #[aggE x A c, .string s] w fun e w' => e = .returned (.bool (hasW x.words s)) ∧ Below w.heap.size w w' := by
  obtain ⟨num, name, maker, year, ws⟩ := x
  dsimp only at *
  have hba := Lib.hid ((Below.refl w.heap.size w).alloc (Nat.le_refl _) (.cells #[.int .i64 num, .string name, .string maker, .int .i64 year, .slice A ws.length c] 99))
  have H := Lib.hid (h.below (hba.out.mono hB))
  clear h
  go_enter Tryd.func104, Tryd.ntmps104
  go_wp2_with fail
  generalize w.alloc (.cells #[.int .i64 num, .string name, .string maker, .int .i64 year, .slice A ws.length c] 99) = w0 at *
  go_loop [10] (fun i => ∃ k : Nat, k ≤ ws.length ∧ hasW ws s = hasW (ws.drop k) s ∧ i = .int .i64 (k : Int)) (fun i => ws.length - (intOf i).toNat)
  case atStart => exact ⟨0, Nat.zero_le _, rfl, rfl⟩
  case round =>
    obtain ⟨k, hk, heq, rfl⟩ := hrel
    have Heq := Lib.hid heq; clear heq
    by_cases hlt : k < ws.length
    · obtain ⟨_, b1, o1, hA, hx⟩ := rd_at H.out k hlt
      subst hA
      have hlt' : (k : Int) < (ws.length : Int) := by omega
      have Hst := Lib.hid (hasW_at ws s k hlt)
      generalize ws[k] = z at *
      by_cases hz : z = s
      · have hfin := Lib.hid (show hasW ws s = true by rw [Heq.out, Hst.out]; exact if_pos hz)
        have hq : (z.toList == s.toList) = true := by rw [hz]; simp
        clear hz
        go_wp2_with fail
        go_ret
        rw [hfin.out]; exact ⟨rfl, hba.out⟩
      · have hfin := Lib.hid (show hasW ws s = hasW (ws.drop (k + 1)) s by rw [Heq.out, Hst.out]; exact if_neg hz)
        have hq : (z.toList == s.toList) = false := beq_eq_false_iff_ne.2 fun h => hz (ba_inj h)
        clear hz
        go_wp2_with fail
        go_round
        case rel => exact ⟨k + 1, by omega, hfin.out, by go_num⟩
        case measure => simp [intOf]; omega
    · have hfin := Lib.hid (show hasW ws s = false by rw [Heq.out, hasW_end ws s k (by omega)])
      have hlt' : (ws.length : Int) ≤ (k : Int) := by omega
      go_wp2_with fail
      go_ret
      rw [hfin.out]; exact ⟨rfl, hba.out⟩
end Go.Proofs.YtmheijnckmlbnaaDoor
/- Registers, part 1: the exact laws' helpers: szInt64S, szRegister, toInt64S, eqInt64S. -/
namespace Go.Proofs.YtmheijnckmlbnaaDoor
open Go.RowKit Go.Joins

def ints (l : List Int) : List Value := l.map (Value.int .i64)
theorem infoI : (Tryd.prog.info? 2).map (fun i => (i.zero, i.size, i.bytes)) = some (some (.int .i64 0), 1, 8) := by kernel_rfl
theorem ints_rd {w : World} {B n c : Nat} {A : Option Addr} {zs : List Int} (h : Rd w B (.slice A n c) zs.length 1 (ints zs)) (k : Nat) (hk : k < zs.length) :
    ∃ b off, A = some ⟨b, off, none⟩ ∧ w.cell? ⟨b, off + k, none⟩ = some (.int .i64 zs[k]) := by
  obtain ⟨_, A', c', hv, hc⟩ := h
  injection hv with e1 e2 e3
  subst e1
  obtain ⟨b, off, hA, _, hcc⟩ := hc (by omega)
  exact ⟨b, off, hA, hcc k _ (by simp [ints, hk])⟩

/-- what is left of the room -/
def leftI (left : Int) (n : Nat) : Int := if left - n < 0 then -1 else left - n
theorem leftI_bd (left : Int) (n : Nat) (h1 : left ≤ 1048576) : leftI left n ≤ 1048576 ∧ (0 ≤ leftI left n → (n : Int) ≤ left) ∧ (leftI left n < 0 → leftI left n = -1) := by
  unfold leftI
  split <;> omega

set_option maxHeartbeats 400000 in
theorem eqInt64S_same (B1 B2 : Nat) (v1 v2 : Value) (zs : List Int) (w : World) (h1 : Rd w B1 v1 zs.length 1 (ints zs)) (h2 : Rd w B2 v2 zs.length 1 (ints zs)) (hz : zs.length ≤ 4611686018427387904) :
    Calls Tryd.prog 32 #[v1, v2] w fun e w' => e = .returned (.bool true) ∧ ∃ n, w' = w.drewN n := by
  have h1' := h1
  have h2' := h2
  obtain ⟨_, A1, c1, rfl, _⟩ := h1'
  obtain ⟨_, A2, c2, rfl, _⟩ := h2'
  have H1 := Lib.hid h1; clear h1
  have H2 := Lib.hid h2; clear h2
  go_enter Tryd.func32, Tryd.ntmps32
  go_wp2_with fail
  go_loopw [5] (fun i wr => ∃ k m : Nat, k ≤ zs.length ∧ i = .int .i64 k ∧ wr = w.drewN m) (fun i _ => zs.length - (intOf i).toNat)
  case atStart => exact ⟨0, 0, Nat.zero_le _, rfl, rfl⟩
  case round =>
    obtain ⟨k, m, hk, rfl, rfl⟩ := hrel
    by_cases hlt : k < zs.length
    · obtain ⟨b1, o1, hA1, hx⟩ := ints_rd H1.out k hlt
      obtain ⟨b2, o2, hA2, hy⟩ := ints_rd H2.out k hlt
      subst hA1 hA2
      generalize zs[k] = z at *
      have hlt' : (k : Int) < (zs.length : Int) := by omega
      go_wp2_with fail
      go_quiet (fail)
      go_wp2_with fail
      go_roundw
      case rel => exact ⟨k + 1, _, by omega, by go_num, rfl⟩
      case measure => simp [intOf]; omega
    · have hlt' : (zs.length : Int) ≤ (k : Int) := by omega
      go_wp2_with fail
      go_ret
      exact ⟨rfl, _, rfl⟩

end Go.Proofs.YtmheijnckmlbnaaDoor
/- Similar entries, part 2: the words two entries share; the reference's side. -/
namespace Go.Proofs.YtmheijnckmlbnaaDoor
open Go.RowKit Go.Joins

/-- how many words of the one list the other has -/
def comN : List ByteArray → List ByteArray → Nat
  | [], _ => 0
  | x :: l, b => if hasW b x = true then 1 + comN l b else comN l b
theorem comN_at (ws b : List ByteArray) (k : Nat) (hk : k < ws.length) : comN (ws.drop k) b = if hasW b ws[k] = true then 1 + comN (ws.drop (k + 1)) b else comN (ws.drop (k + 1)) b := by
  rw [List.drop_eq_getElem_cons hk]; rfl
theorem comN_end (ws b : List ByteArray) (k : Nat) (hk : ws.length ≤ k) : comN (ws.drop k) b = 0 := by rw [List.drop_of_length_le hk]; rfl
theorem comN_le : ∀ (ws b : List ByteArray), comN ws b ≤ ws.length := by
  intro ws b
  induction ws with
  | nil => exact Nat.le_refl _
  | cons x l ih => unfold comN; split <;> simp <;> omega

end Go.Proofs.YtmheijnckmlbnaaDoor
/- Similar entries, part 3: the list; the reference's SimilarEntries. -/
namespace Go.Proofs.YtmheijnckmlbnaaDoor
open Go.RowKit Go.Joins

def simF : List Ent → Nat → Nat → List ByteArray → Nat → List Int → List Int
  | [], _, _, _, _, out => out
  | x :: l, k, i, b, m, out => if k = i ∨ comN x.words b < m then simF l (k + 1) i b m out else if m < comN x.words b then simF l (k + 1) i b (comN x.words b) [x.num] else simF l (k + 1) i b m (out ++ [x.num])
theorem simF_at (xs : List Ent) (k i : Nat) (b : List ByteArray) (m : Nat) (out : List Int) (hk : k < xs.length) : simF (xs.drop k) k i b m out =
    if k = i ∨ comN xs[k].words b < m then simF (xs.drop (k + 1)) (k + 1) i b m out else if m < comN xs[k].words b then simF (xs.drop (k + 1)) (k + 1) i b (comN xs[k].words b) [xs[k].num] else simF (xs.drop (k + 1)) (k + 1) i b m (out ++ [xs[k].num]) := by
  rw [List.drop_eq_getElem_cons hk]; rfl
theorem simF_end (xs : List Ent) (k i : Nat) (b : List ByteArray) (m : Nat) (out : List Int) (hk : xs.length ≤ k) : simF (xs.drop k) k i b m out = out := by rw [List.drop_of_length_le hk]; rfl
/-- the numbers of the most similar -/
def simL (xs : List Ent) (m : Int) : List Int := if askC xs m = 0 then simF xs 0 (askI xs m).toNat (xs.getD (askI xs m).toNat noEnt).words 1 [] else []
theorem simF_len (i : Nat) (b : List ByteArray) : ∀ (xs : List Ent) (k m : Nat) (out : List Int), (simF xs k i b m out).length ≤ out.length + xs.length := by
  intro xs
  induction xs with
  | nil => intro k m out; exact Nat.le_refl _
  | cons x l ih =>
    intro k m out
    unfold simF
    split
    · have := ih (k + 1) m out; simp; omega
    · split
      · have := ih (k + 1) (comN x.words b) [x.num]; simp at *; omega
      · have := ih (k + 1) m (out ++ [x.num]); simp at *; omega
theorem simL_len (xs : List Ent) (m : Int) : (simL xs m).length ≤ xs.length := by
  unfold simL
  split
  · have := simF_len (askI xs m).toNat (xs.getD (askI xs m).toNat noEnt).words xs 0 1 []; simpa using this
  · simp
theorem sim_cases (xs : List Ent) (m : Int) : (askC xs m ≠ 0 ∧ simL xs m = []) ∨ ∃ (i : Nat) (hi : i < xs.length), askC xs m = 0 ∧ askI xs m = i ∧ entsOk xs = true ∧ findN xs m 0 = i ∧ simL xs m = simF xs 0 i xs[i].words 1 [] := by
  by_cases h : askC xs m = 0
  · right
    have h' := h
    unfold askC at h
    split at h
    · cases h
    · split at h
      · cases h
      · rename_i ho hf
        have ho : entsOk xs = true := by simpa using ho
        rcases findN_bd m xs 0 with e | ⟨i, hi, e⟩
        · omega
        · rw [Nat.zero_add] at e
          have hI : askI xs m = (i : Int) := by
            unfold askI
            rw [if_neg (by simp [ho]), if_neg (by omega), e]
          refine ⟨i, hi, h', hI, ho, e, ?_⟩
          unfold simL
          rw [if_pos h', hI, Int.toNat_natCast, getE_at xs i hi]
  · exact .inl ⟨h, by unfold simL; rw [if_neg h]⟩

/-- a new list of numbers and a code -/
def RetN (code : Int) (zs : List Int) (w : World) (e : Ending) (w' : World) : Prop :=
  ∃ v, e = .returned (.tuple #[v, .int .i64 code]) ∧ w'.ownsRow w.heap.size 2 1 v zs.length (ints zs) ∧ Below w.heap.size w w'
theorem RetN_no {code c2 : Int} {zs : List Int} {w w' : World} (h : zs = []) (hc : c2 = code) (hb : Below w.heap.size w w') : RetN code zs w (.returned (.tuple #[.slice none 0 0, .int .i64 c2])) w' := by
  subst h hc
  exact ⟨_, rfl, World.ownsRow_nil _ _ _ _, hb⟩
theorem RetN_yes {code c2 : Int} {zs l : List Int} {v : Value} {w w' : World} (h : zs = l) (hc : c2 = code) (ho : w'.ownsRow w.heap.size 2 1 v l.length (ints l)) (hb : Below w.heap.size w w') : RetN code zs w (.returned (.tuple #[v, .int .i64 c2])) w' := by
  subst h hc
  exact ⟨_, rfl, ho, hb⟩
theorem ones_one (a : Int) : ∀ u ∈ (#[Value.int .i64 a] : Array Value).toList, u.oneCell' = true := by
  intro u hu
  simp at hu
  subst hu; rfl
theorem ints_one (l : List Int) (a : Int) : ints l ++ (#[Value.int .i64 a] : Array Value).toList = ints (l ++ [a]) := by simp [ints]

end Go.Proofs.YtmheijnckmlbnaaDoor
/- Similar entries, part 4: the program's SimilarEntries. -/
namespace Go.Proofs.YtmheijnckmlbnaaDoor
open Go.RowKit Go.Joins

end Go.Proofs.YtmheijnckmlbnaaDoor
/- Similar entries, part 5: the marks' helpers. -/
namespace Go.Proofs.YtmheijnckmlbnaaDoor
open Go.RowKit Go.Joins

/-- the digits in front of what is there already -/
def mkD : Nat → Nat → List UInt8 → List UInt8
  | 0, _, out => out
  | f + 1, k, out => if k = 0 then out else mkD f (k / 10) (UInt8.ofNat (48 + k % 10) :: out)
theorem mkD_zero (f : Nat) (out : List UInt8) : mkD f 0 out = out := by cases f <;> simp [mkD]
theorem mkD_step (f m : Nat) (out : List UInt8) (h : 0 < m) (hf : m ≤ f) : ∃ f', mkD f m out = mkD f' (m / 10) (UInt8.ofNat (48 + m % 10) :: out) ∧ m / 10 ≤ f' := by
  cases f with
  | zero => omega
  | succ f => exact ⟨f, by simp [mkD, show m ≠ 0 by omega], by omega⟩
/-- the text of a mark -/
def markT (k : Int) : ByteArray := if k ≤ 0 then ⟨#[109, 48]⟩ else ⟨(109 :: mkD k.toNat k.toNat []).toArray⟩
theorem digB (m : Nat) : IntKind.u8.wrap (48 + (m : Int) % 10) = ((UInt8.ofNat (48 + m % 10)).toNat : Int) := by
  rw [IntKind.wrap_u8]
  simp only [UInt8.toNat_ofNat']
  omega

set_option maxHeartbeats 400000 in
theorem markText_any (k : Int) (w : World) (hk : k ≤ 4611686018427387904) :
    Calls Tryd.prog 77 #[.int .i64 k] w fun e w' => e = .returned (.string (markT k)) ∧ Below w.heap.size w w' := by
  by_cases h : k ≤ 0
  · have e1 := Lib.hid (show markT k = ⟨#[109, 48]⟩ by simp [markT, h])
    have hb0 := Below.refl w.heap.size w
    go_enter Tryd.func77, Tryd.ntmps77
    go_wp2_with fail
    go_ret
    rw [e1.out]; exact ⟨rfl, hb0⟩
  · obtain ⟨n, rfl⟩ : ∃ n : Nat, k = n := ⟨k.toNat, by omega⟩
    have e1 := Lib.hid (show markT (n : Int) = ⟨(109 :: mkD n n []).toArray⟩ by simp only [markT, if_neg h, Int.toNat_natCast])
    have hn : 0 < n := by omega
    have hb : decide ((n : Int) ≤ 0) = false := by simp; omega
    clear h
    go_enter Tryd.func77, Tryd.ntmps77
    go_wp2_with fail
    go_loopw [0, 3] (fun a v wr => ∃ (f m : Nat) (out : List UInt8), a = .int .i64 m ∧ m ≤ f ∧ out.length + m ≤ n ∧ v = .string ⟨out.toArray⟩ ∧ mkD n n [] = mkD f m out ∧ Below w.heap.size w wr) (fun a _ _ => (intOf a).toNat)
    case atStart => exact ⟨n, n, [], rfl, Nat.le_refl _, by simp, rfl, rfl, Below.refl _ _⟩
    case round =>
      obtain ⟨f, m, out, rfl, hmf, hmn, rfl, heq, hbl⟩ := hrel
      have Heq := Lib.hid heq; clear heq
      have hl1 : 1 + out.length ≤ 4611686018427387905 := by omega
      by_cases hlt : 0 < m
      · have hd := digB m
        have Hst := Lib.hid (mkD_step f m out hlt hmf)
        have hcv := run_conv_one (P := Tryd.prog) (w := wr) 22 9 5 Tryd.underlying22 Tryd.underlying5 Tryd.underlying9 (UInt8.ofNat (48 + m % 10))
        have hb2 := hbl.alloc hbl.size (.cells #[.int .u8 ((UInt8.ofNat (48 + m % 10)).toNat : Int)] 5)
        generalize UInt8.ofNat (48 + m % 10) = d at *
        go_wp2_with fail
        go_roundw
        case rel =>
          obtain ⟨f', h1, h2⟩ := Hst.out
          exact ⟨f', m / 10, d :: out, by go_num, h2, by simp; omega, by rw [ba_app]; simp, by rw [Heq.out, h1], hb2⟩
        case measure => simp [intOf]; omega
      · have hm0 : (m : Int) ≤ 0 := by omega
        go_wp2_with fail
        go_ret
        have he := Heq.out
        rw [show m = 0 by omega, mkD_zero] at he
        rw [e1.out, he]
        exact ⟨by rw [ba_app]; simp, hbl⟩


/-- the marks from k on -/
def marks (k : Int) (n : Nat) : List ByteArray := (List.range n).map fun (i : Nat) => markT (k + (i : Int))
theorem marks_at (k : Int) (n i : Nat) (h : i < n) : (strs (marks k n))[i]? = some (.string (markT (k + (i : Int)))) := by simp [strs, marks, h]
theorem marks_len (k : Int) (n : Nat) : (marks k n).length = n := by simp [marks]

set_option maxHeartbeats 400000 in
theorem markStringS_any (base : Nat) (v1 : Value) (k0 : Int) (n : Nat) (xs : List Value) (w : World) (h1 : w.ownsRow base 9 1 v1 n xs) (hk0 : 0 ≤ k0) (hk : k0 + n ≤ 4611686018427387904) :
    Calls Tryd.prog 40 #[v1, .int .i64 k0] w fun e w' => e = .returned (.int .i64 (k0 + n)) ∧ w.grownBy w' v1.ownBlock ∧ w'.ownsRow base 9 1 v1 n (strs (marks k0 n)) := by
  have hl : xs.length = n := by simpa using h1.1
  have Hl := Lib.hid hl; clear hl
  rcases ownsRow_forms h1 with ⟨rfl, rfl⟩ | ⟨g, cap, rfl⟩
  · have hg0 : w.grownBy w (Value.slice none 0 0).ownBlock := ⟨rfl, rfl, rfl, Nat.le_refl _, fun _ _ _ => rfl⟩
    have Ho := Lib.hid (World.ownsRow_nil w base 9 1)
    clear h1
    go_enter Tryd.func40, Tryd.ntmps40
    go_wp2_with fail
    go_loop [1, 5] (fun a i => i = .int .i64 0 ∧ a = .int .i64 k0) (fun _ _ => 0)
    case atStart => exact ⟨rfl, rfl⟩
    case round =>
      obtain ⟨rfl, rfl⟩ := hrel
      go_wp2_with fail
      go_ret
      exact ⟨by simp, hg0, by simpa [marks, strs] using Ho.out⟩
  · have hg0 : w.grownBy w (some g) := ⟨rfl, rfl, rfl, Nat.le_refl _, fun _ _ _ => rfl⟩
    have Hsh := Lib.hid h1
    clear h1
    go_enter Tryd.func40, Tryd.ntmps40
    go_wp2_with fail
    go_loopw [1, 5] (fun a i wr => ∃ k : Nat, k ≤ n ∧ i = .int .i64 k ∧ a = .int .i64 (k0 + k) ∧ wr.ownsRow base 9 1 (.slice (some ⟨g, 0, none⟩) n cap) n (strs (marks k0 k) ++ xs.drop k) ∧ w.grownBy wr (some g)) (fun _ i _ => n - (intOf i).toNat)
    case atStart => exact ⟨0, Nat.zero_le _, rfl, by simp, by simpa [marks, strs] using Hsh.out, hg0⟩
    case round =>
      obtain ⟨k, hk, rfl, rfl, hown, hgr⟩ := hrel
      by_cases hlt : k < n
      · have hlt' : (k : Int) < (n : Int) := by omega
        have Hmk := Lib.hid (markText_any (k0 + k))
        have hlen : (strs (marks k0 k)).length = k := by simp [strs, marks]
        have hset : (strs (marks k0 k) ++ xs.drop k).set k (.string (markT (k0 + k))) = strs (marks k0 (k + 1)) ++ xs.drop (k + 1) := by
          rw [List.set_append_right _ _ (by omega), hlen, Nat.sub_self, List.drop_eq_getElem_cons (by rw [Hl.out]; exact hlt), List.set_cons_zero]
          simp [strs, marks, List.range_succ]
        have Hset := Lib.hid hset; clear hset hlen
        generalize markT (k0 + (k : Int)) = M at *
        have Hown := Lib.hid hown; clear hown
        go_wp2_with fail
        refine (Hmk.out _ (by omega)).mono ?_; rintro e wq ⟨rfl, hbq⟩
        have hown := own_below Hown.out hbq
        obtain ⟨u, hu⟩ : ∃ u, (strs (marks k0 k) ++ xs.drop k)[k]? = some u := ⟨_, List.getElem?_eq_getElem (by have := hown.1; omega)⟩
        have hc : wq.cell? ⟨g, k, none⟩ = some u := (hown.cellAt k (by omega)).trans hu
        have hf : wq.frozen? ⟨g, k, none⟩ = false := hown.frozenAt k
        obtain ⟨ho2, hg2⟩ := hown.stored k (.string M)
        rw [Hset.out] at ho2
        have hg3 := grown_trans (grown_trans hgr (grown_of_below hbq _)) hg2
        clear hu hown
        go_wp2_with fail
        go_roundw
        case rel => exact ⟨k + 1, by omega, by go_num, by go_num, ho2, hg3⟩
        case measure => simp [intOf]; omega
      · obtain rfl : k = n := by omega
        rw [List.drop_of_length_le (by rw [Hl.out]; exact Nat.le_refl _), List.append_nil] at hown
        go_wp2_with fail
        go_ret
        exact ⟨rfl, hgr, hown⟩

def marksI (k : Int) (n : Nat) : List Int := (List.range n).map fun (i : Nat) => k + (i : Int)
theorem marksI_len (k : Int) (n : Nat) : (marksI k n).length = n := by simp [marksI]
theorem marksI_at (k : Int) (n i : Nat) (h : i < n) : (marksI k n)[i]'(by rw [marksI_len]; exact h) = k + (i : Int) := by simp [marksI]
theorem marksI_succ (k : Int) (n : Nat) : marksI k (n + 1) = marksI k n ++ [k + (n : Int)] := by
  unfold marksI
  rw [List.range_succ, List.map_append]; rfl

set_option maxRecDepth 100000 in
set_option maxHeartbeats 800000 in
theorem heldInt64S_any (B : Nat) (v : Value) (k0 : Int) (n : Nat) (w : World) (h : Rd w B v n 1 (ints (marksI k0 n))) (hk0 : 0 ≤ k0) (hk : k0 + n ≤ 4611686018427387904) :
    Calls Tryd.prog 36 #[v, .int .i64 k0] w fun e w' => e = .returned (.int .i64 (k0 + n)) ∧ w = w' := by
  have h' : Rd w B v (marksI k0 n).length 1 (ints (marksI k0 n)) := by rw [marksI_len]; exact h
  have H := Lib.hid h'
  obtain ⟨_, A, c, rfl, _⟩ := h
  clear h'
  go_enter Tryd.func36, Tryd.ntmps36
  go_wp2_with fail
  go_loop [1, 5] (fun a i => ∃ k : Nat, k ≤ n ∧ i = .int .i64 (k : Int) ∧ a = .int .i64 (k0 + k)) (fun _ i => n - (intOf i).toNat)
  case atStart => exact ⟨0, Nat.zero_le _, rfl, by simp⟩
  case round =>
    obtain ⟨k, hkn, rfl, rfl⟩ := hrel
    by_cases hlt : k < n
    · obtain ⟨b1, o1, hA, hx⟩ := ints_rd (by rw [marksI_len] at H; rw [marksI_len]; exact H.out) k (by rw [marksI_len]; exact hlt)
      subst hA
      rw [marksI_at k0 n k hlt] at hx
      have hlt' : (k : Int) < (n : Int) := by omega
      go_wp2_with fail
      go_round
      case rel => exact ⟨k + 1, by omega, by go_num, by go_num⟩
      case measure => simp [intOf]; omega
    · have hlt' : (n : Int) ≤ (k : Int) := by omega
      go_wp2_with fail
      go_ret
      obtain rfl : k = n := by omega
      exact ⟨rfl, rfl⟩

set_option maxRecDepth 100000 in
set_option maxHeartbeats 800000 in
theorem markInt64S_any (base : Nat) (v : Value) (k0 : Int) (n : Nat) (xs : List Value) (w : World) (h : w.ownsRow base 2 1 v n xs) (hk0 : 0 ≤ k0) (hk : k0 + n ≤ 4611686018427387904) :
    Calls Tryd.prog 35 #[v, .int .i64 k0] w fun e w' => e = .returned (.int .i64 (k0 + n)) ∧ w.grownBy w' v.ownBlock ∧ w'.ownsRow base 2 1 v n (ints (marksI k0 n)) := by
  have hl : xs.length = n := by simpa using h.1
  have Hl := Lib.hid hl; clear hl
  rcases ownsRow_forms h with ⟨rfl, rfl⟩ | ⟨g, cap, rfl⟩
  · have hg0 : w.grownBy w (Value.slice none 0 0).ownBlock := ⟨rfl, rfl, rfl, Nat.le_refl _, fun _ _ _ => rfl⟩
    have Ho := Lib.hid (World.ownsRow_nil w base 2 1)
    clear h
    go_enter Tryd.func35, Tryd.ntmps35
    go_wp2_with fail
    go_loop [1, 5] (fun a i => i = .int .i64 0 ∧ a = .int .i64 k0) (fun _ _ => 0)
    case atStart => exact ⟨rfl, rfl⟩
    case round =>
      obtain ⟨rfl, rfl⟩ := hrel
      go_wp2_with fail
      go_ret
      exact ⟨by simp, hg0, by simpa [marksI, ints] using Ho.out⟩
  · have hg0 : w.grownBy w (some g) := ⟨rfl, rfl, rfl, Nat.le_refl _, fun _ _ _ => rfl⟩
    have Hsh := Lib.hid h
    clear h
    go_enter Tryd.func35, Tryd.ntmps35
    go_wp2_with fail
    go_loopw [1, 5] (fun a i wr => ∃ k : Nat, k ≤ n ∧ i = .int .i64 (k : Int) ∧ a = .int .i64 (k0 + k) ∧ wr.ownsRow base 2 1 (.slice (some ⟨g, 0, none⟩) n cap) n (ints (marksI k0 k) ++ xs.drop k) ∧ w.grownBy wr (some g)) (fun _ i _ => n - (intOf i).toNat)
    case atStart => exact ⟨0, Nat.zero_le _, rfl, by simp, by simpa [marksI, ints] using Hsh.out, hg0⟩
    case round =>
      obtain ⟨k, hkn, rfl, rfl, hown, hgr⟩ := hrel
      by_cases hlt : k < n
      · have hlt' : (k : Int) < (n : Int) := by omega
        have hset : (ints (marksI k0 k) ++ xs.drop k).set k (.int .i64 (k0 + k)) = ints (marksI k0 (k + 1)) ++ xs.drop (k + 1) := by
          have hlen : (ints (marksI k0 k)).length = k := by simp [ints, marksI_len]
          rw [List.set_append_right _ _ (by omega), hlen, Nat.sub_self, List.drop_eq_getElem_cons (by rw [Hl.out]; exact hlt), List.set_cons_zero]
          simp [ints, marksI_succ]
        have Hset := Lib.hid hset; clear hset
        obtain ⟨u, hu⟩ : ∃ u, (ints (marksI k0 k) ++ xs.drop k)[k]? = some u := ⟨_, List.getElem?_eq_getElem (by have := hown.1; omega)⟩
        have hc : wr.cell? ⟨g, k, none⟩ = some u := (hown.cellAt k (by omega)).trans hu
        have hf : wr.frozen? ⟨g, k, none⟩ = false := hown.frozenAt k
        obtain ⟨ho2, hg2⟩ := hown.stored k (.int .i64 (k0 + k))
        rw [Hset.out] at ho2
        have Ho2 := Lib.hid ho2
        have Hg2 := Lib.hid (grown_trans hgr hg2)
        clear hu hown hg2 ho2 hgr
        go_wp2_with fail
        go_roundw
        case rel => exact ⟨k + 1, by omega, by go_num, by go_num, Ho2.out, Hg2.out⟩
        case measure => simp [intOf]; omega
      · obtain rfl : k = n := by omega
        rw [List.drop_of_length_le (by rw [Hl.out]; exact Nat.le_refl _), List.append_nil] at hown
        have Hown := Lib.hid hown; clear hown
        go_wp2_with fail
        go_ret
        exact ⟨rfl, hgr, Hown.out⟩
end Go.Proofs.YtmheijnckmlbnaaDoor
/- Loans, part 6: markLoanS. -/
namespace Go.Proofs.YtmheijnckmlbnaaDoor
open Go.RowKit Go.Joins

def marksL (k : Int) (n : Nat) : List Ln := (List.range n).map fun (i : Nat) => ⟨markT (k + 4 * (i : Int)), markT (k + 4 * (i : Int) + 1), k + 4 * (i : Int) + 1 + 1, k + 4 * (i : Int) + 1 + 1 + 1⟩
theorem marksL_len (k : Int) (n : Nat) : (marksL k n).length = n := by simp [marksL]
theorem marksL_succ (k : Int) (n : Nat) : (marksL k (n + 1)).flatMap cellsL = (marksL k n).flatMap cellsL ++ [.string (markT (k + 4 * (n : Int))), .string (markT (k + 4 * (n : Int) + 1)), .int .i64 (k + 4 * (n : Int) + 1 + 1), .int .i64 (k + 4 * (n : Int) + 1 + 1 + 1)] := by
  unfold marksL
  rw [List.range_succ, List.map_append, List.flatMap_append]; rfl

end Go.Proofs.YtmheijnckmlbnaaDoor
/- Loans, part 7: heldLoanS. -/
namespace Go.Proofs.YtmheijnckmlbnaaDoor
open Go.RowKit Go.Joins

theorem marksL_at (k : Int) (n i : Nat) (h : i < n) : (marksL k n)[i]'(by rw [marksL_len]; exact h) = ⟨markT (k + 4 * (i : Int)), markT (k + 4 * (i : Int) + 1), k + 4 * (i : Int) + 1 + 1, k + 4 * (i : Int) + 1 + 1 + 1⟩ := by simp [marksL]

theorem four_kept {W w1 : World} {a b c d : Addr} {x y z t : Value} (hb : Below W.heap.size W w1) (h : W.cell? a = some x ∧ W.cell? b = some y ∧ W.cell? c = some z ∧ W.cell? d = some t) :
    w1.cell? a = some x ∧ w1.cell? b = some y ∧ w1.cell? c = some z ∧ w1.cell? d = some t :=
  have k {p : Addr} {v : Value} (h : W.cell? p = some v) : w1.cell? p = some v := (hb.cell (World.block_lt_of_cell? W _ h)).trans h
  ⟨k h.1, k h.2.1, k h.2.2.1, k h.2.2.2⟩

end Go.Proofs.YtmheijnckmlbnaaDoor
/- Loans, part 8: one loan's validity, clashes, the order: both sides. -/
namespace Go.Proofs.YtmheijnckmlbnaaDoor
open Go.RowKit Go.Joins

theorem isDay_any (n : Int) (w : World) : Calls Tryd.prog 85 #[.int .i64 n] w fun e w' => e = .returned (.bool (inB n 0 100000)) ∧ w = w' := by
  have HB := Lib.hid (fun wx => between_any n 0 100000 wx)
  generalize inB n 0 100000 = g at *
  go_enter Tryd.func85, Tryd.ntmps85
  go_wp2_with fail
  refine (HB.out _).mono ?_; rintro e w1 ⟨rfl, rfl⟩
  go_wp2_with fail
  go_ret
  exact ⟨rfl, rfl⟩
theorem l23Day_any (n : Int) (w : World) : Calls Tryd.prog 87 #[.int .i64 n] w fun e w' => e = .returned (.bool (inB n 0 100000)) ∧ w = w' := by
  have HB := Lib.hid (fun wx => l00In_any n 0 100000 wx)
  generalize inB n 0 100000 = g at *
  go_enter Tryd.func87, Tryd.ntmps87
  go_wp2_with fail
  refine (HB.out _).mono ?_; rintro e w1 ⟨rfl, rfl⟩
  go_wp2_with fail
  go_ret
  exact ⟨rfl, rfl⟩

def loanOk (x : Ln) : Bool := isNm x.what.data.toList && isNm x.who.data.toList && inB x.from_ 0 100000 && inB x.till 0 100000 && decide (x.from_ ≤ x.till)
theorem loan_cases (x : Ln) : (isNm x.what.data.toList = false ∧ loanOk x = false) ∨ (isNm x.what.data.toList = true ∧ isNm x.who.data.toList = false ∧ loanOk x = false) ∨
    (isNm x.what.data.toList = true ∧ isNm x.who.data.toList = true ∧ inB x.from_ 0 100000 = false ∧ loanOk x = false) ∨
    (isNm x.what.data.toList = true ∧ isNm x.who.data.toList = true ∧ inB x.from_ 0 100000 = true ∧ inB x.till 0 100000 = false ∧ loanOk x = false) ∨
    (isNm x.what.data.toList = true ∧ isNm x.who.data.toList = true ∧ inB x.from_ 0 100000 = true ∧ inB x.till 0 100000 = true ∧ loanOk x = decide (x.from_ ≤ x.till)) := by
  unfold loanOk
  cases h1 : isNm x.what.data.toList <;> cases h2 : isNm x.who.data.toList <;> cases h3 : inB x.from_ 0 100000 <;> cases h4 : inB x.till 0 100000 <;> simp

set_option maxRecDepth 100000 in
set_option maxHeartbeats 1600000 in
theorem validLoan_any (x : Ln) (w : World) (hsm : smL x) :
    Calls Tryd.prog 46 #[aggL x] w fun e w' => e = .returned (.bool (loanOk x)) ∧ Below w.heap.size w w' := by
  have hc := loan_cases x
  obtain ⟨a, b, f, t⟩ := x
  obtain ⟨l1, l2⟩ := hsm
  dsimp only at *
  have hb0 := Lib.hid ((Below.refl w.heap.size w).alloc (Nat.le_refl _) (.cells #[.string a, .string b, .int .i64 f, .int .i64 t] 26))
  have HB1 := Lib.hid (fun wx => IsNameI_any a wx l1)
  have HB2 := Lib.hid (fun wx => IsNameI_any b wx l2)
  have HB3 := Lib.hid (fun wx => isDay_any f wx)
  have HB4 := Lib.hid (fun wx => isDay_any t wx)
  rcases hc with ⟨g1, hf⟩ | ⟨g1, g2, hf⟩ | ⟨g1, g2, g3, hf⟩ | ⟨g1, g2, g3, g4, hf⟩ | ⟨g1, g2, g3, g4, hf⟩
  all_goals
    have Hf := Lib.hid hf; clear hf
    rw [g1] at HB1; clear g1
    (try (rw [g2] at HB2; clear g2))
    (try (rw [g3] at HB3; clear g3))
    (try (rw [g4] at HB4; clear g4))
    go_enter Tryd.func46, Tryd.ntmps46
    go_wp2_with fail
    refine (HB1.out _).mono ?_; rintro e w1 ⟨rfl, rfl⟩
    go_wp2_with fail
    (try ((with_reducible refine (HB2.out _).mono ?_); rintro e w1 ⟨rfl, rfl⟩; go_wp2_with fail))
    (try ((with_reducible refine (HB3.out _).mono ?_); rintro e w1 ⟨rfl, rfl⟩; go_wp2_with fail))
    (try ((with_reducible refine (HB4.out _).mono ?_); rintro e w1 ⟨rfl, rfl⟩; go_wp2_with fail))
    go_ret
    rw [Hf.out]; exact ⟨rfl, hb0.out⟩

set_option maxRecDepth 100000 in
set_option maxHeartbeats 1600000 in
theorem l23One_any (B bb o : Nat) (x : Ln) (w : World) (h : LnAt w B bb o x) (hsm : smL x) :
    Calls Tryd.prog 50 #[.pointer (some ⟨bb, o, none⟩)] w fun e w' => e = .returned (.bool (loanOk x)) ∧ ∃ n, w' = w.drewN n := by
  have hc := loan_cases x
  obtain ⟨a, b, f, t⟩ := x
  obtain ⟨l1, l2⟩ := hsm
  obtain ⟨_, e0, e1, e2, e3⟩ := h
  dsimp only at *
  have HB1 := Lib.hid (fun wx => flipC (IsNameS_any a wx l1))
  have HB2 := Lib.hid (fun wx => flipC (IsNameS_any b wx l2))
  have HB3 := Lib.hid (fun wx => flipC (l23Day_any f wx))
  have HB4 := Lib.hid (fun wx => flipC (l23Day_any t wx))
  rcases hc with ⟨g1, hf⟩ | ⟨g1, g2, hf⟩ | ⟨g1, g2, g3, hf⟩ | ⟨g1, g2, g3, g4, hf⟩ | ⟨g1, g2, g3, g4, hf⟩
  all_goals
    have Hf := Lib.hid hf; clear hf
    rw [g1] at HB1; clear g1
    (try (rw [g2] at HB2; clear g2))
    (try (rw [g3] at HB3; clear g3))
    (try (rw [g4] at HB4; clear g4))
    go_enter Tryd.func50, Tryd.ntmps50
    go_wp2_with fail
    go_quiet ((first | (go_at_call 86; (with_reducible exact Calls.quiet_of_same (HB1.out _))) | (go_at_call 86; (with_reducible exact Calls.quiet_of_same (HB2.out _))) | (go_at_call 87; (with_reducible exact Calls.quiet_of_same (HB3.out _))) | (go_at_call 87; (with_reducible exact Calls.quiet_of_same (HB4.out _)))))
    go_wp2_with fail
    go_ret
    rw [Hf.out]; exact ⟨rfl, _, rfl⟩
end Go.Proofs.YtmheijnckmlbnaaDoor
/- Loans, part 9: clashes and the order, both sides. -/
namespace Go.Proofs.YtmheijnckmlbnaaDoor
open Go.RowKit Go.Joins

def clash (x y : Ln) : Bool := decide (x.what = y.what) && decide (x.from_ ≤ y.till) && decide (y.from_ ≤ x.till)
def before (x y : Ln) : Bool := decide (x.from_ < y.from_) || (decide (x.from_ = y.from_) && lessS x.what y.what)
theorem clash_cases (x y : Ln) : ((x.what.toList == y.what.toList) = false ∧ clash x y = false) ∨ ((x.what.toList == y.what.toList) = true ∧ decide (x.from_ ≤ y.till) = false ∧ clash x y = false) ∨
    ((x.what.toList == y.what.toList) = true ∧ decide (x.from_ ≤ y.till) = true ∧ clash x y = decide (y.from_ ≤ x.till)) := by
  unfold clash
  by_cases h : x.what = y.what
  · rw [h]
    by_cases h1 : x.from_ ≤ y.till <;> simp [h1]
  · exact .inl ⟨beq_eq_false_iff_ne.2 fun e => h (ba_inj e), by simp [h]⟩
theorem before_cases (x y : Ln) : (decide (x.from_ < y.from_) = true ∧ before x y = true) ∨ (decide (x.from_ < y.from_) = false ∧ (x.from_ == y.from_) = false ∧ before x y = false) ∨
    (decide (x.from_ < y.from_) = false ∧ (x.from_ == y.from_) = true ∧ before x y = Op.bytesLess x.what.toList y.what.toList) := by
  unfold before
  change _ ∨ _ ∨ (_ ∧ _ ∧ _ = lessS x.what y.what)
  by_cases h : x.from_ < y.from_
  · simp [h]
  · by_cases h1 : x.from_ = y.from_
    · simp [h1]
    · simp [h, h1]

set_option maxRecDepth 100000 in
set_option maxHeartbeats 1600000 in
theorem clashes_any (x y : Ln) (w : World) :
    Calls Tryd.prog 47 #[aggL x, aggL y] w fun e w' => e = .returned (.bool (clash x y)) ∧ Below w.heap.size w w' := by
  have hc := clash_cases x y
  obtain ⟨a, b, f, t⟩ := x
  obtain ⟨c, d, g, u⟩ := y
  dsimp only at *
  have hb0 := Lib.hid (((Below.refl w.heap.size w).alloc (Nat.le_refl _) (.cells #[.string a, .string b, .int .i64 f, .int .i64 t] 26)).alloc (by simp) (.cells #[.string c, .string d, .int .i64 g, .int .i64 u] 26))
  rcases hc with ⟨g1, hf⟩ | ⟨g1, g2, hf⟩ | ⟨g1, g2, hf⟩
  all_goals
    have Hf := Lib.hid hf; clear hf
    go_enter Tryd.func47, Tryd.ntmps47
    go_wp2_with fail
    go_ret
    rw [Hf.out]; exact ⟨rfl, hb0.out⟩

set_option maxRecDepth 100000 in
set_option maxHeartbeats 1600000 in
theorem ahead_any (x y : Ln) (w : World) :
    Calls Tryd.prog 48 #[aggL x, aggL y] w fun e w' => e = .returned (.bool (before x y)) ∧ Below w.heap.size w w' := by
  have hc := before_cases x y
  obtain ⟨a, b, f, t⟩ := x
  obtain ⟨c, d, g, u⟩ := y
  dsimp only at *
  have hb0 := Lib.hid (((Below.refl w.heap.size w).alloc (Nat.le_refl _) (.cells #[.string a, .string b, .int .i64 f, .int .i64 t] 26)).alloc (by simp) (.cells #[.string c, .string d, .int .i64 g, .int .i64 u] 26))
  rcases hc with ⟨g1, hf⟩ | ⟨g1, g2, hf⟩ | ⟨g1, g2, hf⟩
  all_goals
    have Hf := Lib.hid hf; clear hf
    go_enter Tryd.func48, Tryd.ntmps48
    go_wp2_with fail
    go_ret
    rw [Hf.out]; exact ⟨rfl, hb0.out⟩

set_option maxRecDepth 100000 in
set_option maxHeartbeats 1600000 in
theorem l23Clash_any (B B2 b1 o1 b2 o2 : Nat) (x y : Ln) (w : World) (h : LnAt w B b1 o1 x) (h2 : LnAt w B2 b2 o2 y) :
    Calls Tryd.prog 51 #[.pointer (some ⟨b1, o1, none⟩), .pointer (some ⟨b2, o2, none⟩)] w fun e w' => e = .returned (.bool (clash x y)) ∧ ∃ n, w' = w.drewN n := by
  have hc := clash_cases x y
  obtain ⟨_, e0, e1, e2, e3⟩ := h
  obtain ⟨_, d0, d1, d2, d3⟩ := h2
  generalize clash x y = r at *
  obtain ⟨a, b, f, t⟩ := x
  obtain ⟨c, d, g, u⟩ := y
  dsimp only at *
  clear e1 d1
  rcases hc with ⟨g1, hf⟩ | ⟨g1, g2, hf⟩ | ⟨g1, g2, hf⟩
  all_goals
    have Hf := Lib.hid hf; clear hf
    go_enter Tryd.func51, Tryd.ntmps51
    go_wp2_with fail
    go_quiet (fail)
    go_wp2_with fail
    go_ret
    rw [Hf.out]; exact ⟨rfl, _, rfl⟩

set_option maxRecDepth 100000 in
set_option maxHeartbeats 1600000 in
theorem l23Before_any (B B2 b1 o1 b2 o2 : Nat) (x y : Ln) (w : World) (h : LnAt w B b1 o1 x) (h2 : LnAt w B2 b2 o2 y) :
    Calls Tryd.prog 52 #[.pointer (some ⟨b1, o1, none⟩), .pointer (some ⟨b2, o2, none⟩)] w fun e w' => e = .returned (.bool (before x y)) ∧ ∃ n, w' = w.drewN n := by
  have hc := before_cases x y
  obtain ⟨_, e0, e1, e2, e3⟩ := h
  obtain ⟨_, d0, d1, d2, d3⟩ := h2
  generalize before x y = r at *
  obtain ⟨a, b, f, t⟩ := x
  obtain ⟨c, d, g, u⟩ := y
  dsimp only at *
  clear e1 d1 e3 d3
  rcases hc with ⟨g1, hf⟩ | ⟨g1, g2, hf⟩ | ⟨g1, g2, hf⟩
  all_goals
    have Hf := Lib.hid hf; clear hf
    go_enter Tryd.func52, Tryd.ntmps52
    go_wp2_with fail
    go_quiet (fail)
    go_wp2_with fail
    go_ret
    rw [Hf.out]; exact ⟨rfl, _, rfl⟩
end Go.Proofs.YtmheijnckmlbnaaDoor
/- Loans, part 10: valid lists of loans, in plain words; the reference's side. -/
namespace Go.Proofs.YtmheijnckmlbnaaDoor
open Go.RowKit Go.Joins

def noLn : Ln := ⟨⟨#[]⟩, ⟨#[]⟩, 0, 0⟩
def atL (xs : List Ln) (k : Nat) : Ln := xs.getD k noLn
theorem atL_at (xs : List Ln) (k : Nat) (hk : k < xs.length) : atL xs k = xs[k] := by simp [atL, List.getD, hk]
def freeS (xs : List Ln) (i k : Nat) : Bool := !clash (atL xs k) (atL xs i)
def freeI (xs : List Ln) (i k : Nat) : Bool := !clash (atL xs i) (atL xs k)
def placeS (xs : List Ln) (i : Nat) : Bool := loanOk (atL xs i) && (decide (i = 0) || before (atL xs (i - 1)) (atL xs i)) && chk i (freeS xs i)
def placeI (xs : List Ln) (i : Nat) : Bool := loanOk (atL xs i) && (decide (i = 0) || !before (atL xs i) (atL xs (i - 1))) && chk i (freeI xs i)
def loansOk (xs : List Ln) : Bool := chk xs.length (placeS xs) && decide (xs.length ≤ 60)
def loansOkI (xs : List Ln) : Bool := chk xs.length (placeI xs) && decide (xs.length ≤ 60)
theorem RdL.atD {w : World} {B n c : Nat} {A : Option Addr} {xs : List Ln} (h : RdL w B (.slice A n c) xs) (k : Nat) (hk : k < xs.length) :
    ∃ b off, A = some ⟨b, off, none⟩ ∧ LnAt w B b (off + k * 4) (atL xs k) := by rw [atL_at xs k hk]; exact h.at k hk
theorem chk_succ (f : Nat → Bool) (n : Nat) : chk (n + 1) f = (chk n f && f n) := by
  unfold chk; rw [List.range_succ, List.all_append]; simp
theorem chk_get {f : Nat → Bool} {n k : Nat} (h : chk n f = true) (hk : k < n) : f k = true := by
  unfold chk at h
  exact List.all_eq_true.1 h k (List.mem_range.2 hk)
theorem clash_comm (x y : Ln) : clash x y = clash y x := by
  unfold clash
  rw [Bool.eq_iff_iff]
  simp only [Bool.and_eq_true, decide_eq_true_eq]
  constructor
  · rintro ⟨⟨h1, h2⟩, h3⟩; exact ⟨⟨h1.symm, h3⟩, h2⟩
  · rintro ⟨⟨h1, h2⟩, h3⟩; exact ⟨⟨h1.symm, h3⟩, h2⟩
theorem free_eq (xs : List Ln) (i : Nat) : freeI xs i = freeS xs i := by
  funext k; unfold freeI freeS; rw [clash_comm]
theorem loanOk_le {x : Ln} (h : loanOk x = true) : x.from_ ≤ x.till := by
  unfold loanOk at h
  simp only [Bool.and_eq_true, decide_eq_true_eq] at h
  exact h.2
theorem less_tri {a b : ByteArray} (h : a ≠ b) : lessS a b = !lessS b a := by
  have h1 := bl_tot a.toList b.toList
  have h2 : (b.toList == a.toList) = false := beq_eq_false_iff_ne.2 fun e => h (ba_inj e).symm
  rw [h2, Bool.or_false] at h1
  exact h1
theorem before_flip {x y : Ln} (hx : loanOk x = true) (hy : loanOk y = true) (hc : clash x y = false) : before x y = !before y x := by
  have h1 := loanOk_le hx
  have h2 := loanOk_le hy
  unfold before
  rcases Int.lt_trichotomy x.from_ y.from_ with h | h | h
  · have h3 : ¬ y.from_ < x.from_ := by omega
    have h4 : ¬ y.from_ = x.from_ := by omega
    simp [h, h3, h4]
  · have hw : x.what ≠ y.what := fun e => by
      unfold clash at hc
      rw [e] at hc
      simp at hc
      omega
    have := less_tri hw
    simp [h, this]
  · have h3 : ¬ x.from_ < y.from_ := by omega
    have h4 : ¬ x.from_ = y.from_ := by omega
    simp [h, h3, h4]
theorem place_eq (xs : List Ln) : ∀ n, chk n (placeI xs) = chk n (placeS xs)
  | 0 => rfl
  | n + 1 => by
    rw [chk_succ, chk_succ, place_eq xs n]
    cases hn : chk n (placeS xs) with
    | false => rfl
    | true =>
      simp only [Bool.true_and]
      unfold placeI placeS
      rw [free_eq]
      cases h1 : loanOk (atL xs n) with
      | false => rfl
      | true =>
        cases h2 : chk n (freeS xs n) with
        | false => simp
        | true =>
          rcases Nat.eq_zero_or_pos n with h0 | h0
          · subst h0; rfl
          · have h3 := chk_get hn (show n - 1 < n by omega)
            unfold placeS at h3
            simp only [Bool.and_eq_true] at h3
            have h4 : freeS xs n (n - 1) = true := chk_get h2 (by omega)
            unfold freeS at h4
            rw [before_flip h3.1.1 h1 (by simpa using h4)]
theorem loansOk_eq (xs : List Ln) : loansOkI xs = loansOk xs := by unfold loansOkI loansOk; rw [place_eq]
theorem loans_no {xs : List Ln} (k : Nat) (hk : k < xs.length) (h : placeS xs k = false) : loansOk xs = false := by unfold loansOk; rw [chk_bad k hk h]; rfl
theorem place_1 {xs : List Ln} {k : Nat} (hk : k < xs.length) (h : loanOk xs[k] = false) : placeS xs k = false := by unfold placeS; rw [atL_at xs k hk, h]; rfl
theorem place_2 {xs : List Ln} {k m : Nat} (hk : k < xs.length) (hm : m + 1 = k) (h : before (atL xs m) xs[k] = false) : placeS xs k = false := by
  unfold placeS; rw [atL_at xs k hk, show k - 1 = m by omega, h, decide_eq_false (by omega)]; simp
theorem place_3 {xs : List Ln} {k j : Nat} (hk : k < xs.length) (hj : j < k) (h : clash (atL xs j) xs[k] = true) : placeS xs k = false := by
  have : freeS xs k j = false := by unfold freeS; rw [atL_at xs k hk, h]; rfl
  unfold placeS; rw [chk_bad j hj this]; simp
theorem place_4 {xs : List Ln} {k : Nat} (hk : k < xs.length) (h1 : loanOk xs[k] = true) (h2 : k = 0 ∨ ∃ m, m + 1 = k ∧ before (atL xs m) xs[k] = true) (h : chk k (freeS xs k) = true) : placeS xs k = true := by
  unfold placeS
  rw [atL_at xs k hk, h1, h]
  rcases h2 with rfl | ⟨m, hm, h2⟩
  · rfl
  · rw [show k - 1 = m by omega, h2]; simp
theorem free_step {xs : List Ln} {k j : Nat} (hk : k < xs.length) (h : clash (atL xs j) xs[k] = false) : freeS xs k j = true := by
  unfold freeS; rw [atL_at xs k hk, h]; rfl

/-- what a round meets at place k -/
theorem round_cases (xs : List Ln) (k : Nat) (hk : k < xs.length) : (loanOk xs[k] = false ∧ loansOk xs = false) ∨ (loanOk xs[k] = true ∧ k = 0) ∨
    ∃ m, m + 1 = k ∧ loanOk xs[k] = true ∧ ((before (atL xs m) xs[k] = false ∧ loansOk xs = false) ∨ before (atL xs m) xs[k] = true) := by
  cases h : loanOk xs[k] with
  | false => exact .inl ⟨rfl, loans_no k hk (place_1 hk h)⟩
  | true =>
    rcases Nat.eq_zero_or_pos k with h0 | h0
    · exact .inr (.inl ⟨rfl, h0⟩)
    · refine .inr (.inr ⟨k - 1, by omega, rfl, ?_⟩)
      cases hb : before (atL xs (k - 1)) xs[k] with
      | false => exact .inl ⟨rfl, loans_no k hk (place_2 hk (by omega) hb)⟩
      | true => exact .inr rfl

set_option maxRecDepth 100000 in
set_option maxHeartbeats 6400000 in
theorem l23Ok_any (B : Nat) (v : Value) (xs : List Ln) (w : World) (h : RdL w B v xs) (hl : xs.length ≤ 1048576) (hsm : ∀ x ∈ xs, smL x) :
    Calls Tryd.prog 49 #[v] w fun e w' => e = .returned (.bool (loansOk xs)) ∧ ∃ n, w' = w.drewN n := by
  have H := Lib.hid h
  have Hsm := Lib.hid hsm
  obtain ⟨A, c, rfl⟩ := h.slice
  clear h hsm
  go_enter Tryd.func49, Tryd.ntmps49
  go_wp2_with fail
  go_loopw [3] (fun i wr => ∃ k m0 : Nat, k ≤ xs.length ∧ chk k (placeS xs) = true ∧ i = .int .i64 k ∧ wr = w.drewN m0) (fun i _ => xs.length - (intOf i).toNat)
  case atStart => exact ⟨0, 0, Nat.zero_le _, rfl, rfl, rfl⟩
  case round =>
    obtain ⟨k, m0, hk, hall, rfl, hwr⟩ := hrel
    have Hall := Lib.hid hall; clear hall
    have Hw := Lib.hid (fun n => (show wr.drewN n = w.drewN (m0 + n) by rw [hwr, World.drewN_drewN]))
    have Hw0 := Lib.hid hwr
    have Hr : Hid (RdL wr B (.slice A xs.length c) xs) := Lib.hid (by rw [hwr]; exact H.out.drewN m0)
    clear hwr
    obtain ⟨w1, rfl⟩ : ∃ x, x = wr := ⟨_, rfl⟩
    by_cases hlt : k < xs.length
    · obtain ⟨b1, o1, hA, hE⟩ := Hr.out.at k hlt
      have hlt' : (k : Int) < (xs.length : Int) := by omega
      have Hst := Lib.hid (fun h => chk_step (f := placeS xs) (k := k) Hall.out h)
      have hsx := Hsm.out xs[k] (List.getElem_mem hlt)
      have HE := Lib.hid hE
      have HO := Lib.hid (fun n => l23One_any B b1 (o1 + k * 4) xs[k] (w1.drewN n) (hE.drewN n) hsx)
      have HA := Lib.hid hA
      subst hA
      clear hE
      rcases round_cases xs k hlt with ⟨g, hf⟩ | ⟨g, h0⟩ | ⟨m, hm, g, ⟨gb, hf⟩ | gb⟩
      · have Hf := Lib.hid hf; clear hf
        rw [g] at HO
        clear g Hst
        go_wp2_with fail
        go_quiet ((go_at_call 50; exact Calls.quiet_of (HO.out _)))
        go_wp2_with fail
        go_ret
        rw [Hf.out]; exact ⟨rfl, _, Hw.out _⟩
      · have Hg := Lib.hid g
        have Hg2 := Lib.hid (show k = 0 ∨ ∃ m, m + 1 = k ∧ before (atL xs m) xs[k] = true from .inl h0)
        have hk0 : decide (0 < k) = false := decide_eq_false (by omega)
        rw [g] at HO
        clear g h0
        go_wp2_with fail
        go_quiet ((go_at_call 50; exact Calls.quiet_of (HO.out _)))
        go_wp2_with fail
        go_loopw [4] (fun j wy => ∃ j0 m2 : Nat, j0 ≤ k ∧ chk j0 (freeS xs k) = true ∧ j = .int .i64 j0 ∧ wy = w1.drewN m2) (fun j _ => k - (intOf j).toNat)
        case atStart => exact ⟨0, _, Nat.zero_le _, rfl, rfl, rfl⟩
        case round =>
          obtain ⟨j0, m2, hj, hall2, rfl, hwy⟩ := hrel
          have Hall2 := Lib.hid hall2; clear hall2
          have Hw2 := Lib.hid (fun n => (show wr.drewN n = w.drewN (m0 + (m2 + n)) by rw [hwy, World.drewN_drewN]; exact Hw.out _))
          have HwI := Lib.hid (fun n => (show wr.drewN n = w1.drewN (m2 + n) by rw [hwy, World.drewN_drewN]))
          have Hw20 := Lib.hid (hwy.trans (Hw.out m2))
          have Hr2 : Hid (RdL wr B (.slice (some ⟨b1, o1, none⟩) xs.length c) xs) := Lib.hid (by rw [hwy]; exact Hr.out.drewN m2)
          clear hwy
          by_cases hlt2 : j0 < k
          · obtain ⟨b2, o2, hA2, hE2⟩ := Hr2.out.atD j0 (by omega)
            obtain ⟨b3, o3, hA3, hE3⟩ := Hr2.out.at k hlt
            obtain ⟨rfl, rfl⟩ : b1 = b2 ∧ o1 = o2 := by simpa using hA2
            obtain ⟨rfl, rfl⟩ : b1 = b3 ∧ o1 = o3 := by simpa using hA3
            clear hA2 hA3
            have hlt2' : (j0 : Int) < (k : Int) := by omega
            have hlt3' : (j0 : Int) < (xs.length : Int) := by omega
            have HC := Lib.hid (fun n => l23Clash_any B B b1 (o1 + j0 * 4) b1 (o1 + k * 4) (atL xs j0) xs[k] (wr.drewN n) (hE2.drewN n) (hE3.drewN n))
            clear hE2 hE3
            cases gc : clash (atL xs j0) xs[k] with
            | true =>
              have Hf := Lib.hid (loans_no k hlt (place_3 hlt hlt2 gc))
              rw [gc] at HC
              clear gc
              go_wp2_with fail
              go_quiet ((go_at_call 51; exact Calls.quiet_of (HC.out _)))
              go_wp2_with fail
              go_ret
              rw [Hf.out]; exact ⟨rfl, _, Hw2.out _⟩
            | false =>
              have Hst2 := Lib.hid (chk_step Hall2.out (free_step hlt gc))
              rw [gc] at HC
              clear gc
              go_wp2_with fail
              go_quiet ((go_at_call 51; exact Calls.quiet_of (HC.out _)))
              go_wp2_with fail
              go_roundw
              case rel => exact ⟨j0 + 1, _, by omega, Hst2.out, by go_num, HwI.out _⟩
              case measure => simp [intOf]; omega
          · obtain rfl : j0 = k := by omega
            have Hst2 := Lib.hid (Hst.out (place_4 hlt Hg.out Hg2.out Hall2.out))
            go_wp2_with fail
            go_roundw
            case rel => exact ⟨j0 + 1, _, by omega, Hst2.out, by go_num, Hw20.out⟩
            case measure => simp [intOf]; omega
      · have Hf := Lib.hid hf; clear hf
        obtain ⟨b2, o2, hA2, hE2⟩ := Hr.out.atD m (by omega)
        obtain ⟨rfl, rfl⟩ : b1 = b2 ∧ o1 = o2 := by simpa using hA2
        clear hA2
        have HB := Lib.hid (fun n => l23Before_any B B b1 (o1 + m * 4) b1 (o1 + k * 4) (atL xs m) xs[k] (w1.drewN n) (hE2.drewN n) (HE.out.drewN n))
        rw [gb] at HB
        rw [g] at HO
        have hk0 : decide (0 < k) = true := decide_eq_true (by omega)
        have hm1 : IntKind.i64.wrap ((k : Int) - 1) = (m : Int) := by rw [IntWalk.i64_in _ (by omega)]; omega
        have hm2 : (m : Int) < (xs.length : Int) := by omega
        have Hm := Lib.hid hm
        clear g gb hE2 hm
        go_wp2_with fail
        go_quiet ((first | (go_at_call 50; exact Calls.quiet_of (HO.out _)) | (go_at_call 52; exact Calls.quiet_of (HB.out _))))
        clear hm1
        go_wp2_with fail
        go_ret
        rw [Hf.out]; exact ⟨rfl, _, Hw.out _⟩
      · have Hg := Lib.hid g
        have Hg2 := Lib.hid (show k = 0 ∨ ∃ m, m + 1 = k ∧ before (atL xs m) xs[k] = true from .inr ⟨m, hm, gb⟩)
        obtain ⟨b2, o2, hA2, hE2⟩ := Hr.out.atD m (by omega)
        obtain ⟨rfl, rfl⟩ : b1 = b2 ∧ o1 = o2 := by simpa using hA2
        clear hA2
        have HB := Lib.hid (fun n => l23Before_any B B b1 (o1 + m * 4) b1 (o1 + k * 4) (atL xs m) xs[k] (w1.drewN n) (hE2.drewN n) (HE.out.drewN n))
        rw [gb] at HB
        rw [g] at HO
        have hk0 : decide (0 < k) = true := decide_eq_true (by omega)
        have hm1 : IntKind.i64.wrap ((k : Int) - 1) = (m : Int) := by rw [IntWalk.i64_in _ (by omega)]; omega
        have hm2 : (m : Int) < (xs.length : Int) := by omega
        have Hm := Lib.hid hm
        clear g gb hE2 hm
        go_wp2_with fail
        go_quiet ((first | (go_at_call 50; exact Calls.quiet_of (HO.out _)) | (go_at_call 52; exact Calls.quiet_of (HB.out _))))
        clear hm1
        go_wp2_with fail
        go_loopw [4] (fun j wy => ∃ j0 m2 : Nat, j0 ≤ k ∧ chk j0 (freeS xs k) = true ∧ j = .int .i64 j0 ∧ wy = w1.drewN m2) (fun j _ => k - (intOf j).toNat)
        case atStart => exact ⟨0, _, Nat.zero_le _, rfl, rfl, rfl⟩
        case round =>
          obtain ⟨j0, m2, hj, hall2, rfl, hwy⟩ := hrel
          have Hall2 := Lib.hid hall2; clear hall2
          have Hw2 := Lib.hid (fun n => (show wr.drewN n = w.drewN (m0 + (m2 + n)) by rw [hwy, World.drewN_drewN]; exact Hw.out _))
          have HwI := Lib.hid (fun n => (show wr.drewN n = w1.drewN (m2 + n) by rw [hwy, World.drewN_drewN]))
          have Hw20 := Lib.hid (hwy.trans (Hw.out m2))
          have Hr2 : Hid (RdL wr B (.slice (some ⟨b1, o1, none⟩) xs.length c) xs) := Lib.hid (by rw [hwy]; exact Hr.out.drewN m2)
          clear hwy
          by_cases hlt2 : j0 < k
          · obtain ⟨b2, o2, hA2, hE2⟩ := Hr2.out.atD j0 (by omega)
            obtain ⟨b3, o3, hA3, hE3⟩ := Hr2.out.at k hlt
            obtain ⟨rfl, rfl⟩ : b1 = b2 ∧ o1 = o2 := by simpa using hA2
            obtain ⟨rfl, rfl⟩ : b1 = b3 ∧ o1 = o3 := by simpa using hA3
            clear hA2 hA3
            have hlt2' : (j0 : Int) < (k : Int) := by omega
            have hlt3' : (j0 : Int) < (xs.length : Int) := by omega
            have HC := Lib.hid (fun n => l23Clash_any B B b1 (o1 + j0 * 4) b1 (o1 + k * 4) (atL xs j0) xs[k] (wr.drewN n) (hE2.drewN n) (hE3.drewN n))
            clear hE2 hE3
            cases gc : clash (atL xs j0) xs[k] with
            | true =>
              have Hf := Lib.hid (loans_no k hlt (place_3 hlt hlt2 gc))
              rw [gc] at HC
              clear gc
              go_wp2_with fail
              go_quiet ((go_at_call 51; exact Calls.quiet_of (HC.out _)))
              go_wp2_with fail
              go_ret
              rw [Hf.out]; exact ⟨rfl, _, Hw2.out _⟩
            | false =>
              have Hst2 := Lib.hid (chk_step Hall2.out (free_step hlt gc))
              rw [gc] at HC
              clear gc
              go_wp2_with fail
              go_quiet ((go_at_call 51; exact Calls.quiet_of (HC.out _)))
              go_wp2_with fail
              go_roundw
              case rel => exact ⟨j0 + 1, _, by omega, Hst2.out, by go_num, HwI.out _⟩
              case measure => simp [intOf]; omega
          · obtain rfl : j0 = k := by omega
            have Hst2 := Lib.hid (Hst.out (place_4 hlt Hg.out Hg2.out Hall2.out))
            go_wp2_with fail
            go_roundw
            case rel => exact ⟨j0 + 1, _, by omega, Hst2.out, by go_num, Hw20.out⟩
            case measure => simp [intOf]; omega
    · have hc : chk xs.length (placeS xs) = true := by rw [show xs.length = k by omega]; exact Hall.out
      have hf := Lib.hid (show loansOk xs = decide (xs.length ≤ 60) by unfold loansOk; rw [hc]; rfl)
      have hlt' : (xs.length : Int) ≤ (k : Int) := by omega
      clear hc
      go_wp2_with fail
      go_ret
      rw [hf.out]; exact ⟨by simp; omega, _, Hw0.out⟩
end Go.Proofs.YtmheijnckmlbnaaDoor
/- Loans, part 11 (printed by genlo11.py): valid lists of loans, the program's side. -/
namespace Go.Proofs.YtmheijnckmlbnaaDoor
open Go.RowKit Go.Joins

theorem four_at {w : World} {g : Nat} {a b c d : Value} {t : TypeId} (h : w.heap[g]? = some (.cells #[a, b, c, d] t (0, 0))) :
    w.cell? ⟨g, 0, none⟩ = some a ∧ w.cell? ⟨g, 1, none⟩ = some b ∧ w.cell? ⟨g, 2, none⟩ = some c ∧ w.cell? ⟨g, 3, none⟩ = some d := by
  refine ⟨?_, ?_, ?_, ?_⟩
  · rw [cell_of_row w g 0 _ _ _ h]; rfl
  · rw [cell_of_row w g 1 _ _ _ h]; rfl
  · rw [cell_of_row w g 2 _ _ _ h]; rfl
  · rw [cell_of_row w g 3 _ _ _ h]; rfl
theorem eight_at {w : World} {g B b1 o1 : Nat} {a b c d : Value} {t : TypeId} {p : Ln} (h : w.heap[g]? = some (.cells #[a, b, c, d] t (0, 0))) (hp : LnAt w B b1 o1 p) :
    w.cell? ⟨g, 0, none⟩ = some a ∧ w.cell? ⟨g, 1, none⟩ = some b ∧ w.cell? ⟨g, 2, none⟩ = some c ∧ w.cell? ⟨g, 3, none⟩ = some d ∧
    w.cell? ⟨b1, o1, none⟩ = some (.string p.what) ∧ w.cell? ⟨b1, o1 + 1, none⟩ = some (.string p.who) ∧ w.cell? ⟨b1, o1 + 2, none⟩ = some (.int .i64 p.from_) ∧ w.cell? ⟨b1, o1 + 3, none⟩ = some (.int .i64 p.till) :=
  have k := four_at h
  ⟨k.1, k.2.1, k.2.2.1, k.2.2.2, hp.c0, hp.c1, hp.c2, hp.c3⟩
theorem loansI_no {xs : List Ln} (k : Nat) (hk : k < xs.length) (h : placeI xs k = false) : loansOkI xs = false := by unfold loansOkI; rw [chk_bad k hk h]; rfl
theorem round_casesI (xs : List Ln) (k : Nat) (hk : k < xs.length) : (loanOk xs[k] = false ∧ loansOkI xs = false) ∨ (loanOk xs[k] = true ∧ k = 0) ∨
    ∃ m, m + 1 = k ∧ loanOk xs[k] = true ∧ ((before xs[k] (atL xs m) = true ∧ loansOkI xs = false) ∨ before xs[k] (atL xs m) = false) := by
  cases h : loanOk xs[k] with
  | false => exact .inl ⟨rfl, loansI_no k hk (by unfold placeI; rw [atL_at xs k hk, h]; rfl)⟩
  | true =>
    rcases Nat.eq_zero_or_pos k with h0 | h0
    · exact .inr (.inl ⟨rfl, h0⟩)
    · refine .inr (.inr ⟨k - 1, by omega, rfl, ?_⟩)
      cases hb : before xs[k] (atL xs (k - 1)) with
      | true => exact .inl ⟨rfl, loansI_no k hk (by unfold placeI; rw [atL_at xs k hk, h, hb, decide_eq_false (by omega)]; simp)⟩
      | false => exact .inr rfl
theorem placeI_3 {xs : List Ln} {k : Nat} (hk : k < xs.length) (j : Nat) (hj : j < k) (h : clash xs[k] (atL xs j) = true) : loansOkI xs = false := by
  have : freeI xs k j = false := by unfold freeI; rw [atL_at xs k hk, h]; rfl
  refine loansI_no k hk ?_
  unfold placeI; rw [chk_bad j hj this]; simp
theorem placeI_4 {xs : List Ln} {k : Nat} (hk : k < xs.length) (h0 : chk k (placeI xs) = true) (h1 : loanOk xs[k] = true) (h2 : k = 0 ∨ ∃ m, m + 1 = k ∧ before xs[k] (atL xs m) = false) (h : chk k (freeI xs k) = true) : chk (k + 1) (placeI xs) = true := by
  refine chk_step h0 ?_
  unfold placeI
  rw [atL_at xs k hk, h1, h]
  rcases h2 with rfl | ⟨m, hm, h2⟩
  · rfl
  · rw [show k - 1 = m by omega, h2]; simp
theorem freeI_step {xs : List Ln} {k : Nat} (hk : k < xs.length) (j : Nat) (h : clash xs[k] (atL xs j) = false) : freeI xs k j = true := by
  unfold freeI; rw [atL_at xs k hk, h]; rfl

set_option maxRecDepth 100000 in
set_option maxHeartbeats 6400000 in
theorem ValidI0_any (B : Nat) (v : Value) (xs : List Ln) (w : World) (h : RdL w B v xs) (hB : B ≤ w.heap.size) (hl : xs.length ≤ 1048576) (hsm : ∀ x ∈ xs, smL x) (hcap : ∀ A n c, v = .slice A n c → n ≤ c ∧ c ≤ maxLen) :
    Calls Tryd.prog 26 #[v] w fun e w' => e = .returned (.bool (loansOkI xs)) ∧ Below w.heap.size w w' := by
  have H := Lib.hid h
  have Hsm := Lib.hid hsm
  obtain ⟨A, c, rfl⟩ := h.slice
  obtain ⟨hc1, hc2⟩ := hcap _ _ _ rfl
  simp only [maxLen] at hc2
  clear h hsm hcap
  have hb0 := Below.refl w.heap.size w
  go_enter Tryd.func26, Tryd.ntmps26
  go_wp2_with fail
  go_loopw [9] (fun i wr => ∃ k : Nat, k ≤ xs.length ∧ chk k (placeI xs) = true ∧ i = .int .i64 k ∧ Below w.heap.size w wr) (fun i _ => xs.length - (intOf i).toNat)
  case atStart => exact ⟨0, Nat.zero_le _, rfl, rfl, hb0⟩
  case round =>
    obtain ⟨k, hk, hall, rfl, hbl⟩ := hrel
    have Hall := Lib.hid hall; clear hall
    obtain ⟨w1, rfl⟩ : ∃ x, x = wr := ⟨_, rfl⟩
    by_cases hlt : k < xs.length
    · have HL := Lib.hid (H.out.below (hbl.mono hB))
      obtain ⟨b1, o1, hA, hE⟩ := HL.out.at k hlt
      subst hA
      have hlt' : (k : Int) < (xs.length : Int) := by omega
      have RC := round_casesI xs k hlt
      have HP3 := Lib.hid (placeI_3 hlt)
      have HP4 := Lib.hid (placeI_4 hlt Hall.out)
      have HP5 := Lib.hid (freeI_step hlt)
      have hsx := Hsm.out xs[k] (List.getElem_mem hlt)
      have hzB : B ≤ w1.heap.size := Nat.le_trans hB hbl.size
      have hz1 : b1 < w1.heap.size := Nat.lt_of_lt_of_le hE.lt hzB
      generalize xs[k] = x at *
      have HV := Lib.hid (fun wx => validLoan_any x wx hsx)
      have HH := Lib.hid (fun y wx => ahead_any x y wx)
      have HCl := Lib.hid (fun y wx => clashes_any x y wx)
      obtain ⟨a, b, f, t⟩ := x
      obtain ⟨hbB, e0, e1, e2, e3⟩ := hE
      dsimp only at e0 e1 e2 e3 HV HH HCl
      have Hnw := Lib.hid (heap_alloc_new w1 (.cells #[.string a, .string b, .int .i64 f, .int .i64 t] 26))
      have Hba := Lib.hid ((Below.refl w1.heap.size w1).alloc (Nat.le_refl _) (.cells #[.string a, .string b, .int .i64 f, .int .i64 t] 26))
      have hlw : w1.heap.size < (w1.alloc (.cells #[.string a, .string b, .int .i64 f, .int .i64 t] 26)).heap.size := by simp
      have HLn := Lib.hid (HL.out.below (Hba.out.mono hzB))
      have Hbl := Lib.hid (hbl.trans (Hba.out.mono hbl.size))
      have hlo : w.heap.size ≤ w1.heap.size := hbl.size
      clear hbl hsx HL
      rcases RC with ⟨g, hf⟩ | ⟨g, h0⟩ | ⟨m, hm, g, ⟨gb, hf⟩ | gb⟩
      · have Hf := Lib.hid hf; clear hf
        rw [g] at HV
        clear g
        go_wp2_with fail
        obtain ⟨f0, f1, f2, f3⟩ := four_at Hnw.out
        generalize w1.alloc (.cells #[.string a, .string b, .int .i64 f, .int .i64 t] 26) = wn at *
        have hacc : Below wn.heap.size wn wn.drew := (Below.refl _ _).drew
        have HS := Lib.hid (show ∀ w', Below wn.heap.size wn w' → _ from fun w' (hb : Below wn.heap.size wn w') => four_at ((hb.block _ hlw).trans Hnw.out))
        refine wp_region_noPanic ?_
        refine wp_region_held_drew (S := fun w' => w'.cell? ⟨w1.heap.size, 0, none⟩ = some (.string a) ∧ w'.cell? ⟨w1.heap.size, 1, none⟩ = some (.string b) ∧ w'.cell? ⟨w1.heap.size, 2, none⟩ = some (.int .i64 f) ∧ w'.cell? ⟨w1.heap.size, 3, none⟩ = some (.int .i64 t)) (by kernel_rfl) (by (try dsimp only); first | go_keep | assumption) (fun hHeld => ?_)
        refine take_d (i := 0) (d := some 14) (v := ?_) rfl rfl (by kernel_rfl) (by kernel_rfl) (by kernel_rfl) (fun _ _ _ h => h) (Or.inl ⟨by rfl, ?_⟩) (by assumption) ?_
        rotate_left
        · (intro w hSw; (try dsimp only at hSw); go_simp; (try (with_reducible rfl)))
        simp only [Act.put, List.setIfInBounds_toArray, List.set_cons_zero, List.set_cons_succ]
        refine call_d (i := 1) (d := some 15) rfl rfl (by kernel_rfl) (fun K hK => ?_)
        go_simp
        (go_at_call 46; ((with_reducible refine (HV.out _).mono ?_)); rintro e wq ⟨rfl, hbq⟩; have hacc' := hacc.trans (hbq.mono hacc.size); clear hacc; have hacc := hacc'; clear hacc'; have hSq := HS.out _ hacc; clear hbq)
        (try (go_wp2_with fail))
        refine hK.out _ _ (hSq) (fun hHeld => ?_)
        clear hK K
        (try simp only [Act.put, List.setIfInBounds_toArray, List.set_cons_zero, List.set_cons_succ])
        refine take_d (i := 2) (d := some 16) (v := ?_) rfl rfl (by kernel_rfl) (by kernel_rfl) (by kernel_rfl) (fun _ _ _ h => h) (Or.inl ⟨by rfl, ?_⟩) (by assumption) ?_
        rotate_left
        · (intro w hSw; (try dsimp only at hSw); go_simp; (try (with_reducible rfl)))
        simp only [Act.put, List.setIfInBounds_toArray, List.set_cons_zero, List.set_cons_succ]
        refine take_d (i := 3) (d := some 17) (v := ?_) rfl rfl (by kernel_rfl) (by kernel_rfl) (by kernel_rfl) (fun _ _ _ h => h) (Or.inl ⟨by rfl, ?_⟩) (by assumption) ?_
        rotate_left
        · (intro w hSw; (try dsimp only at hSw); go_simp; (try (with_reducible rfl)))
        simp only [Act.put, List.setIfInBounds_toArray, List.set_cons_zero, List.set_cons_succ]
        refine take_d (i := 4) (d := some 18) (v := undef) rfl rfl (by kernel_rfl) (by kernel_rfl) (by kernel_rfl) (fun _ _ _ h => h) (Or.inr ⟨by rfl, rfl⟩) (by assumption) ?_
        simp only [Act.put, List.setIfInBounds_toArray, List.set_cons_zero, List.set_cons_succ]
        refine take_d (i := 5) (d := some 19) (v := undef) rfl rfl (by kernel_rfl) (by kernel_rfl) (by kernel_rfl) (fun _ _ _ h => h) (Or.inr ⟨by rfl, rfl⟩) (by assumption) ?_
        simp only [Act.put, List.setIfInBounds_toArray, List.set_cons_zero, List.set_cons_succ]
        refine take_d (i := 6) (d := some 20) (v := undef) rfl rfl (by kernel_rfl) (by kernel_rfl) (by kernel_rfl) (fun _ _ _ h => h) (Or.inr ⟨by rfl, rfl⟩) (by assumption) ?_
        simp only [Act.put, List.setIfInBounds_toArray, List.set_cons_zero, List.set_cons_succ]
        refine take_d (i := 7) (d := some 21) (v := undef) rfl rfl (by kernel_rfl) (by kernel_rfl) (by kernel_rfl) (fun _ _ _ h => h) (Or.inr ⟨by rfl, rfl⟩) (by assumption) ?_
        simp only [Act.put, List.setIfInBounds_toArray, List.set_cons_zero, List.set_cons_succ]
        refine take_d (i := 8) (d := some 22) (v := undef) rfl rfl (by kernel_rfl) (by kernel_rfl) (by kernel_rfl) (fun _ _ _ h => h) (Or.inr ⟨by rfl, rfl⟩) (by assumption) ?_
        simp only [Act.put, List.setIfInBounds_toArray, List.set_cons_zero, List.set_cons_succ]
        refine take_d (i := 9) (d := some 23) (v := undef) rfl rfl (by kernel_rfl) (by kernel_rfl) (by kernel_rfl) (fun _ _ _ h => h) (Or.inr ⟨by rfl, rfl⟩) (by assumption) ?_
        simp only [Act.put, List.setIfInBounds_toArray, List.set_cons_zero, List.set_cons_succ]
        refine take_d (i := 10) (d := some 24) (v := undef) rfl rfl (by kernel_rfl) (by kernel_rfl) (by kernel_rfl) (fun _ _ _ h => h) (Or.inr ⟨by rfl, rfl⟩) (by assumption) ?_
        simp only [Act.put, List.setIfInBounds_toArray, List.set_cons_zero, List.set_cons_succ]
        refine take_d (i := 11) (d := some 25) (v := undef) rfl rfl (by kernel_rfl) (by kernel_rfl) (by kernel_rfl) (fun _ _ _ h => h) (Or.inr ⟨by rfl, rfl⟩) (by assumption) ?_
        simp only [Act.put, List.setIfInBounds_toArray, List.set_cons_zero, List.set_cons_succ]
        refine take_d (i := 12) (d := some 26) (v := undef) rfl rfl (by kernel_rfl) (by kernel_rfl) (by kernel_rfl) (fun _ _ _ h => h) (Or.inr ⟨by rfl, rfl⟩) (by assumption) ?_
        simp only [Act.put, List.setIfInBounds_toArray, List.set_cons_zero, List.set_cons_succ]
        refine take_d (i := 13) (d := some 27) (v := undef) rfl rfl (by kernel_rfl) (by kernel_rfl) (by kernel_rfl) (fun _ _ _ h => h) (Or.inr ⟨by rfl, rfl⟩) (by assumption) ?_
        simp only [Act.put, List.setIfInBounds_toArray, List.set_cons_zero, List.set_cons_succ]
        refine take_d (i := 14) (d := some 28) (v := undef) rfl rfl (by kernel_rfl) (by kernel_rfl) (by kernel_rfl) (fun _ _ _ h => h) (Or.inr ⟨by rfl, rfl⟩) (by assumption) ?_
        simp only [Act.put, List.setIfInBounds_toArray, List.set_cons_zero, List.set_cons_succ]
        refine take_d (i := 15) (d := some 29) (v := ?_) rfl rfl (by kernel_rfl) (by kernel_rfl) (by kernel_rfl) (fun _ _ _ h => h) (Or.inl ⟨by rfl, ?_⟩) (by assumption) ?_
        rotate_left
        · (intro w hSw; (try dsimp only at hSw); go_simp; (try (with_reducible rfl)))
        simp only [Act.put, List.setIfInBounds_toArray, List.set_cons_zero, List.set_cons_succ]
        refine wpAnyH_done (by kernel_rfl) ?_ _
        refine NoPanic.normal ?_
        go_wp2_with fail
        go_ret
        rw [Hf.out]; exact ⟨rfl, Hbl.out.trans (hacc.mono Hbl.out.size)⟩
      · have Hg := Lib.hid g
        have Hg2 : Hid (k = 0 ∨ ∃ m, m + 1 = k ∧ before ⟨a, b, f, t⟩ (atL xs m) = false) := Lib.hid (.inl h0)
        have hk0 : decide (0 < k) = false := decide_eq_false (by omega)
        rw [g] at HV
        clear g h0
        go_wp2_with fail
        obtain ⟨f0, f1, f2, f3⟩ := four_at Hnw.out
        generalize w1.alloc (.cells #[.string a, .string b, .int .i64 f, .int .i64 t] 26) = wn at *
        have hacc : Below wn.heap.size wn wn.drew := (Below.refl _ _).drew
        have HS := Lib.hid (show ∀ w', Below wn.heap.size wn w' → _ from fun w' (hb : Below wn.heap.size wn w') => four_at ((hb.block _ hlw).trans Hnw.out))
        refine wp_region_noPanic ?_
        refine wp_region_held_drew (S := fun w' => w'.cell? ⟨w1.heap.size, 0, none⟩ = some (.string a) ∧ w'.cell? ⟨w1.heap.size, 1, none⟩ = some (.string b) ∧ w'.cell? ⟨w1.heap.size, 2, none⟩ = some (.int .i64 f) ∧ w'.cell? ⟨w1.heap.size, 3, none⟩ = some (.int .i64 t)) (by kernel_rfl) (by (try dsimp only); first | go_keep | assumption) (fun hHeld => ?_)
        refine take_d (i := 0) (d := some 14) (v := ?_) rfl rfl (by kernel_rfl) (by kernel_rfl) (by kernel_rfl) (fun _ _ _ h => h) (Or.inl ⟨by rfl, ?_⟩) (by assumption) ?_
        rotate_left
        · (intro w hSw; (try dsimp only at hSw); go_simp; (try (with_reducible rfl)))
        simp only [Act.put, List.setIfInBounds_toArray, List.set_cons_zero, List.set_cons_succ]
        refine call_d (i := 1) (d := some 15) rfl rfl (by kernel_rfl) (fun K hK => ?_)
        go_simp
        (go_at_call 46; ((with_reducible refine (HV.out _).mono ?_)); rintro e wq ⟨rfl, hbq⟩; have hacc' := hacc.trans (hbq.mono hacc.size); clear hacc; have hacc := hacc'; clear hacc'; have hSq := HS.out _ hacc; clear hbq)
        (try (go_wp2_with fail))
        refine hK.out _ _ (hSq) (fun hHeld => ?_)
        clear hK K
        (try simp only [Act.put, List.setIfInBounds_toArray, List.set_cons_zero, List.set_cons_succ])
        refine take_d (i := 2) (d := some 16) (v := ?_) rfl rfl (by kernel_rfl) (by kernel_rfl) (by kernel_rfl) (fun _ _ _ h => h) (Or.inl ⟨by rfl, ?_⟩) (by assumption) ?_
        rotate_left
        · (intro w hSw; (try dsimp only at hSw); go_simp; (try (with_reducible rfl)))
        simp only [Act.put, List.setIfInBounds_toArray, List.set_cons_zero, List.set_cons_succ]
        refine take_d (i := 3) (d := some 17) (v := ?_) rfl rfl (by kernel_rfl) (by kernel_rfl) (by kernel_rfl) (fun _ _ _ h => h) (Or.inl ⟨by rfl, ?_⟩) (by assumption) ?_
        rotate_left
        · (intro w hSw; (try dsimp only at hSw); go_simp; (try (with_reducible rfl)))
        simp only [Act.put, List.setIfInBounds_toArray, List.set_cons_zero, List.set_cons_succ]
        refine take_d (i := 4) (d := some 18) (v := ?_) rfl rfl (by kernel_rfl) (by kernel_rfl) (by kernel_rfl) (fun _ _ _ h => h) (Or.inl ⟨by rfl, ?_⟩) (by assumption) ?_
        rotate_left
        · (intro w hSw; (try dsimp only at hSw); go_simp; (try (with_reducible rfl)))
        simp only [Act.put, List.setIfInBounds_toArray, List.set_cons_zero, List.set_cons_succ]
        refine take_d (i := 5) (d := some 19) (v := ?_) rfl rfl (by kernel_rfl) (by kernel_rfl) (by kernel_rfl) (fun _ _ _ h => h) (Or.inl ⟨by rfl, ?_⟩) (by assumption) ?_
        rotate_left
        · (intro w hSw; (try dsimp only at hSw); go_simp; (try (with_reducible rfl)))
        simp only [Act.put, List.setIfInBounds_toArray, List.set_cons_zero, List.set_cons_succ]
        refine take_d (i := 6) (d := some 20) (v := ?_) rfl rfl (by kernel_rfl) (by kernel_rfl) (by kernel_rfl) (fun _ _ _ h => h) (Or.inl ⟨by rfl, ?_⟩) (by assumption) ?_
        rotate_left
        · (intro w hSw; (try dsimp only at hSw); go_simp; (try (with_reducible rfl)))
        simp only [Act.put, List.setIfInBounds_toArray, List.set_cons_zero, List.set_cons_succ]
        refine take_d (i := 7) (d := some 21) (v := undef) rfl rfl (by kernel_rfl) (by kernel_rfl) (by kernel_rfl) (fun _ _ _ h => h) (Or.inr ⟨by rfl, rfl⟩) (by assumption) ?_
        simp only [Act.put, List.setIfInBounds_toArray, List.set_cons_zero, List.set_cons_succ]
        refine take_d (i := 8) (d := some 22) (v := undef) rfl rfl (by kernel_rfl) (by kernel_rfl) (by kernel_rfl) (fun _ _ _ h => h) (Or.inr ⟨by rfl, rfl⟩) (by assumption) ?_
        simp only [Act.put, List.setIfInBounds_toArray, List.set_cons_zero, List.set_cons_succ]
        refine take_d (i := 9) (d := some 23) (v := undef) rfl rfl (by kernel_rfl) (by kernel_rfl) (by kernel_rfl) (fun _ _ _ h => h) (Or.inr ⟨by rfl, rfl⟩) (by assumption) ?_
        simp only [Act.put, List.setIfInBounds_toArray, List.set_cons_zero, List.set_cons_succ]
        refine take_d (i := 10) (d := some 24) (v := undef) rfl rfl (by kernel_rfl) (by kernel_rfl) (by kernel_rfl) (fun _ _ _ h => h) (Or.inr ⟨by rfl, rfl⟩) (by assumption) ?_
        simp only [Act.put, List.setIfInBounds_toArray, List.set_cons_zero, List.set_cons_succ]
        refine take_d (i := 11) (d := some 25) (v := undef) rfl rfl (by kernel_rfl) (by kernel_rfl) (by kernel_rfl) (fun _ _ _ h => h) (Or.inr ⟨by rfl, rfl⟩) (by assumption) ?_
        simp only [Act.put, List.setIfInBounds_toArray, List.set_cons_zero, List.set_cons_succ]
        refine take_d (i := 12) (d := some 26) (v := undef) rfl rfl (by kernel_rfl) (by kernel_rfl) (by kernel_rfl) (fun _ _ _ h => h) (Or.inr ⟨by rfl, rfl⟩) (by assumption) ?_
        simp only [Act.put, List.setIfInBounds_toArray, List.set_cons_zero, List.set_cons_succ]
        refine take_d (i := 13) (d := some 27) (v := undef) rfl rfl (by kernel_rfl) (by kernel_rfl) (by kernel_rfl) (fun _ _ _ h => h) (Or.inr ⟨by rfl, rfl⟩) (by assumption) ?_
        simp only [Act.put, List.setIfInBounds_toArray, List.set_cons_zero, List.set_cons_succ]
        refine take_d (i := 14) (d := some 28) (v := ?_) rfl rfl (by kernel_rfl) (by kernel_rfl) (by kernel_rfl) (fun _ _ _ h => h) (Or.inl ⟨by rfl, ?_⟩) (by assumption) ?_
        rotate_left
        · (intro w hSw; (try dsimp only at hSw); go_simp; (try (with_reducible rfl)))
        simp only [Act.put, List.setIfInBounds_toArray, List.set_cons_zero, List.set_cons_succ]
        refine take_d (i := 15) (d := some 29) (v := ?_) rfl rfl (by kernel_rfl) (by kernel_rfl) (by kernel_rfl) (fun _ _ _ h => h) (Or.inl ⟨by rfl, ?_⟩) (by assumption) ?_
        rotate_left
        · (intro w hSw; (try dsimp only at hSw); go_simp; (try (with_reducible rfl)))
        simp only [Act.put, List.setIfInBounds_toArray, List.set_cons_zero, List.set_cons_succ]
        refine wpAnyH_done (by kernel_rfl) ?_ _
        refine NoPanic.normal ?_
        have Hacc := Lib.hid hacc; clear hacc
        have hkc : k ≤ c := by omega
        go_wp2_with fail
        go_loopw [34] (fun j wy => ∃ j0 : Nat, j0 ≤ k ∧ chk j0 (freeI xs k) = true ∧ j = .int .i64 j0 ∧ Below wn.heap.size wn wy) (fun j _ => k - (intOf j).toNat)
        case atStart => exact ⟨0, Nat.zero_le _, rfl, rfl, Hacc.out⟩
        case round =>
          obtain ⟨j0, hj, hall2, rfl, hby⟩ := hrel
          have Hall2 := Lib.hid hall2; clear hall2
          obtain ⟨d0, d1, d2, d3⟩ := four_at ((hby.block _ hlw).trans Hnw.out)
          by_cases hlt2 : j0 < k
          · obtain ⟨b2, o2, hA2, hE2⟩ := (HLn.out.below (hby.mono (Nat.le_trans hzB (Nat.le_of_lt hlw)))).atD j0 (by omega)
            obtain ⟨rfl, rfl⟩ : b1 = b2 ∧ o1 = o2 := by simpa using hA2
            clear hA2
            have hlt2' : (j0 : Int) < (k : Int) := by omega
            have h3 := Lib.hid (HP3.out j0 hlt2)
            have h5 := Lib.hid (HP5.out j0)
            generalize atL xs j0 = y at *
            have HC := Lib.hid (fun wx => HCl.out y wx)
            obtain ⟨ya, yb, yf, yt⟩ := y
            obtain ⟨_, g0, g1, g2, g3⟩ := hE2
            dsimp only at g0 g1 g2 g3 HC
            have hz2 : b1 < wr.heap.size := by have := hby.size; omega
            have hz3 : w1.heap.size < wr.heap.size := by have := hby.size; omega
            have Hba2 := Lib.hid (hby.alloc hby.size (.cells #[.string ya, .string yb, .int .i64 yf, .int .i64 yt] 26))
            clear hby
            cases gc : clash ⟨a, b, f, t⟩ ⟨ya, yb, yf, yt⟩ with
            | true =>
              have Hf := Lib.hid (h3.out gc)
              rw [gc] at HC
              clear gc
              go_wp2_with fail
              refine (HC.out _).mono ?_; rintro e w5 ⟨rfl, hb5⟩
              have hb05 := Hba2.out.trans (hb5.mono Hba2.out.size)
              go_wp2_with fail
              go_ret
              rw [Hf.out]; exact ⟨rfl, Hbl.out.trans (hb05.mono Hbl.out.size)⟩
            | false =>
              have Hst2 := Lib.hid (chk_step Hall2.out (h5.out gc))
              rw [gc] at HC
              clear gc
              go_wp2_with fail
              refine (HC.out _).mono ?_; rintro e w5 ⟨rfl, hb5⟩
              have hb05 := Hba2.out.trans (hb5.mono Hba2.out.size)
              go_wp2_with fail
              go_roundw
              case rel => exact ⟨j0 + 1, by omega, Hst2.out, by go_num, hb05⟩
              case measure => simp [intOf]; omega
          · obtain rfl : j0 = k := by omega
            have Hst2 := Lib.hid (HP4.out Hg.out Hg2.out Hall2.out)
            have hb1 := Hbl.out.trans (hby.mono Hbl.out.size)
            go_wp2_with fail
            go_roundw
            case rel => exact ⟨j0 + 1, by omega, Hst2.out, by go_num, hb1⟩
            case measure => simp [intOf]; omega
      · have Hf := Lib.hid hf; clear hf
        obtain ⟨b2, o2, hA2, hE2⟩ := HLn.out.atD m (by omega)
        obtain ⟨rfl, rfl⟩ : b1 = b2 ∧ o1 = o2 := by simpa using hA2
        clear hA2
        generalize atL xs m = p at *
        have HP := Lib.hid hE2
        clear hE2
        obtain ⟨pa, pb, pf, pt⟩ := p
        have HH := Lib.hid (fun wx => HH.out ⟨pa, pb, pf, pt⟩ wx)
        (try dsimp only at HH)
        rw [gb] at HH
        rw [g] at HV
        have hk0 : decide (0 < k) = true := decide_eq_true (by omega)
        have hm1 : IntKind.i64.wrap ((k : Int) - 1) = (m : Int) := by rw [IntWalk.i64_in _ (by omega)]; omega
        have hm2 : (m : Int) < (xs.length : Int) := by omega
        have Hm := Lib.hid hm
        clear g gb hm
        go_wp2_with fail
        obtain ⟨f0, f1, f2, f3⟩ := four_at Hnw.out
        generalize w1.alloc (.cells #[.string a, .string b, .int .i64 f, .int .i64 t] 26) = wn at *
        have hacc : Below wn.heap.size wn wn.drew := (Below.refl _ _).drew
        have HS := Lib.hid (show ∀ w', Below wn.heap.size wn w' → _ from fun w' (hb : Below wn.heap.size wn w') => eight_at ((hb.block _ hlw).trans Hnw.out) (HP.out.below (hb.mono (Nat.le_trans hzB (Nat.le_of_lt hlw)))))
        obtain ⟨_, _, _, _, p0, p1, p2, p3⟩ := HS.out _ (Below.refl _ _)
        refine wp_region_noPanic ?_
        refine wp_region_held_drew (S := fun w' => w'.cell? ⟨w1.heap.size, 0, none⟩ = some (.string a) ∧ w'.cell? ⟨w1.heap.size, 1, none⟩ = some (.string b) ∧ w'.cell? ⟨w1.heap.size, 2, none⟩ = some (.int .i64 f) ∧ w'.cell? ⟨w1.heap.size, 3, none⟩ = some (.int .i64 t) ∧ w'.cell? ⟨b1, o1 + m * 4, none⟩ = some (.string pa) ∧ w'.cell? ⟨b1, o1 + m * 4 + 1, none⟩ = some (.string pb) ∧ w'.cell? ⟨b1, o1 + m * 4 + 2, none⟩ = some (.int .i64 pf) ∧ w'.cell? ⟨b1, o1 + m * 4 + 3, none⟩ = some (.int .i64 pt)) (by kernel_rfl) (by (try dsimp only); first | go_keep | assumption) (fun hHeld => ?_)
        refine take_d (i := 0) (d := some 14) (v := ?_) rfl rfl (by kernel_rfl) (by kernel_rfl) (by kernel_rfl) (fun _ _ _ h => h) (Or.inl ⟨by rfl, ?_⟩) (by assumption) ?_
        rotate_left
        · (intro w hSw; (try dsimp only at hSw); go_simp; (try (with_reducible rfl)))
        simp only [Act.put, List.setIfInBounds_toArray, List.set_cons_zero, List.set_cons_succ]
        refine call_d (i := 1) (d := some 15) rfl rfl (by kernel_rfl) (fun K hK => ?_)
        go_simp
        (go_at_call 46; ((with_reducible refine (HV.out _).mono ?_)); rintro e wq ⟨rfl, hbq⟩; have hacc' := hacc.trans (hbq.mono hacc.size); clear hacc; have hacc := hacc'; clear hacc'; have hSq := HS.out _ hacc; clear hbq)
        (try (go_wp2_with fail))
        refine hK.out _ _ (hSq) (fun hHeld => ?_)
        clear hK K
        (try simp only [Act.put, List.setIfInBounds_toArray, List.set_cons_zero, List.set_cons_succ])
        refine take_d (i := 2) (d := some 16) (v := ?_) rfl rfl (by kernel_rfl) (by kernel_rfl) (by kernel_rfl) (fun _ _ _ h => h) (Or.inl ⟨by rfl, ?_⟩) (by assumption) ?_
        rotate_left
        · (intro w hSw; (try dsimp only at hSw); go_simp; (try (with_reducible rfl)))
        simp only [Act.put, List.setIfInBounds_toArray, List.set_cons_zero, List.set_cons_succ]
        refine take_d (i := 3) (d := some 17) (v := ?_) rfl rfl (by kernel_rfl) (by kernel_rfl) (by kernel_rfl) (fun _ _ _ h => h) (Or.inl ⟨by rfl, ?_⟩) (by assumption) ?_
        rotate_left
        · (intro w hSw; (try dsimp only at hSw); go_simp; (try (with_reducible rfl)))
        simp only [Act.put, List.setIfInBounds_toArray, List.set_cons_zero, List.set_cons_succ]
        refine take_d (i := 4) (d := some 18) (v := ?_) rfl rfl (by kernel_rfl) (by kernel_rfl) (by kernel_rfl) (fun _ _ _ h => h) (Or.inl ⟨by rfl, ?_⟩) (by assumption) ?_
        rotate_left
        · (intro w hSw; (try dsimp only at hSw); go_simp; (try (with_reducible rfl)))
        simp only [Act.put, List.setIfInBounds_toArray, List.set_cons_zero, List.set_cons_succ]
        refine take_d (i := 5) (d := some 19) (v := ?_) rfl rfl (by kernel_rfl) (by kernel_rfl) (by kernel_rfl) (fun _ _ _ h => h) (Or.inl ⟨by rfl, ?_⟩) (by assumption) ?_
        rotate_left
        · (intro w hSw; (try dsimp only at hSw); go_simp; (try (with_reducible rfl)))
        simp only [Act.put, List.setIfInBounds_toArray, List.set_cons_zero, List.set_cons_succ]
        refine take_d (i := 6) (d := some 20) (v := ?_) rfl rfl (by kernel_rfl) (by kernel_rfl) (by kernel_rfl) (fun _ _ _ h => h) (Or.inl ⟨by rfl, ?_⟩) (by assumption) ?_
        rotate_left
        · (intro w hSw; (try dsimp only at hSw); go_simp; (try (with_reducible rfl)))
        simp only [Act.put, List.setIfInBounds_toArray, List.set_cons_zero, List.set_cons_succ]
        refine take_d (i := 7) (d := some 21) (v := ?_) rfl rfl (by kernel_rfl) (by kernel_rfl) (by kernel_rfl) (fun _ _ _ h => h) (Or.inl ⟨by rfl, ?_⟩) (by assumption) ?_
        rotate_left
        · (intro w hSw; (try dsimp only at hSw); go_simp; (try (with_reducible rfl)))
        simp only [Act.put, List.setIfInBounds_toArray, List.set_cons_zero, List.set_cons_succ]
        refine take_d (i := 8) (d := some 22) (v := ?_) rfl rfl (by kernel_rfl) (by kernel_rfl) (by kernel_rfl) (fun _ _ _ h => h) (Or.inl ⟨by rfl, ?_⟩) (by assumption) ?_
        rotate_left
        · (intro w hSw; (try dsimp only at hSw); go_simp; (try (with_reducible rfl)))
        simp only [Act.put, List.setIfInBounds_toArray, List.set_cons_zero, List.set_cons_succ]
        refine take_d (i := 9) (d := some 23) (v := ?_) rfl rfl (by kernel_rfl) (by kernel_rfl) (by kernel_rfl) (fun _ _ _ h => h) (Or.inl ⟨by rfl, ?_⟩) (by assumption) ?_
        rotate_left
        · (intro w hSw; (try dsimp only at hSw); go_simp; (try (with_reducible rfl)))
        simp only [Act.put, List.setIfInBounds_toArray, List.set_cons_zero, List.set_cons_succ]
        refine take_d (i := 10) (d := some 24) (v := ?_) rfl rfl (by kernel_rfl) (by kernel_rfl) (by kernel_rfl) (fun _ _ _ h => h) (Or.inl ⟨by rfl, ?_⟩) (by assumption) ?_
        rotate_left
        · (intro w hSw; (try dsimp only at hSw); go_simp; (try (with_reducible rfl)))
        simp only [Act.put, List.setIfInBounds_toArray, List.set_cons_zero, List.set_cons_succ]
        refine take_d (i := 11) (d := some 25) (v := ?_) rfl rfl (by kernel_rfl) (by kernel_rfl) (by kernel_rfl) (fun _ _ _ h => h) (Or.inl ⟨by rfl, ?_⟩) (by assumption) ?_
        rotate_left
        · (intro w hSw; (try dsimp only at hSw); go_simp; (try (with_reducible rfl)))
        simp only [Act.put, List.setIfInBounds_toArray, List.set_cons_zero, List.set_cons_succ]
        refine take_d (i := 12) (d := some 26) (v := ?_) rfl rfl (by kernel_rfl) (by kernel_rfl) (by kernel_rfl) (fun _ _ _ h => h) (Or.inl ⟨by rfl, ?_⟩) (by assumption) ?_
        rotate_left
        · (intro w hSw; (try dsimp only at hSw); go_simp; (try (with_reducible rfl)))
        simp only [Act.put, List.setIfInBounds_toArray, List.set_cons_zero, List.set_cons_succ]
        refine call_d (i := 13) (d := some 27) rfl rfl (by kernel_rfl) (fun K hK => ?_)
        go_simp
        (clear hSq; go_at_call 48; ((with_reducible refine (HH.out _).mono ?_)); rintro e wq2 ⟨rfl, hbq⟩; have hacc' := hacc.trans (hbq.mono hacc.size); clear hacc; have hacc := hacc'; clear hacc'; have hSq := HS.out _ hacc; clear hbq)
        (try (go_wp2_with fail))
        refine hK.out _ _ (hSq) (fun hHeld => ?_)
        clear hK K
        (try simp only [Act.put, List.setIfInBounds_toArray, List.set_cons_zero, List.set_cons_succ])
        refine take_d (i := 14) (d := some 28) (v := ?_) rfl rfl (by kernel_rfl) (by kernel_rfl) (by kernel_rfl) (fun _ _ _ h => h) (Or.inl ⟨by rfl, ?_⟩) (by assumption) ?_
        rotate_left
        · (intro w hSw; (try dsimp only at hSw); go_simp; (try (with_reducible rfl)))
        simp only [Act.put, List.setIfInBounds_toArray, List.set_cons_zero, List.set_cons_succ]
        refine take_d (i := 15) (d := some 29) (v := ?_) rfl rfl (by kernel_rfl) (by kernel_rfl) (by kernel_rfl) (fun _ _ _ h => h) (Or.inl ⟨by rfl, ?_⟩) (by assumption) ?_
        rotate_left
        · (intro w hSw; (try dsimp only at hSw); go_simp; (try (with_reducible rfl)))
        simp only [Act.put, List.setIfInBounds_toArray, List.set_cons_zero, List.set_cons_succ]
        refine wpAnyH_done (by kernel_rfl) ?_ _
        refine NoPanic.normal ?_
        clear hm1
        go_wp2_with fail
        go_ret
        rw [Hf.out]; exact ⟨rfl, Hbl.out.trans (hacc.mono Hbl.out.size)⟩
      · have Hg := Lib.hid g
        have Hg2 : Hid (k = 0 ∨ ∃ m, m + 1 = k ∧ before ⟨a, b, f, t⟩ (atL xs m) = false) := Lib.hid (.inr ⟨m, hm, gb⟩)
        obtain ⟨b2, o2, hA2, hE2⟩ := HLn.out.atD m (by omega)
        obtain ⟨rfl, rfl⟩ : b1 = b2 ∧ o1 = o2 := by simpa using hA2
        clear hA2
        generalize atL xs m = p at *
        have HP := Lib.hid hE2
        clear hE2
        obtain ⟨pa, pb, pf, pt⟩ := p
        have HH := Lib.hid (fun wx => HH.out ⟨pa, pb, pf, pt⟩ wx)
        (try dsimp only at HH)
        rw [gb] at HH
        rw [g] at HV
        have hk0 : decide (0 < k) = true := decide_eq_true (by omega)
        have hm1 : IntKind.i64.wrap ((k : Int) - 1) = (m : Int) := by rw [IntWalk.i64_in _ (by omega)]; omega
        have hm2 : (m : Int) < (xs.length : Int) := by omega
        have Hm := Lib.hid hm
        clear g gb hm
        go_wp2_with fail
        obtain ⟨f0, f1, f2, f3⟩ := four_at Hnw.out
        generalize w1.alloc (.cells #[.string a, .string b, .int .i64 f, .int .i64 t] 26) = wn at *
        have hacc : Below wn.heap.size wn wn.drew := (Below.refl _ _).drew
        have HS := Lib.hid (show ∀ w', Below wn.heap.size wn w' → _ from fun w' (hb : Below wn.heap.size wn w') => eight_at ((hb.block _ hlw).trans Hnw.out) (HP.out.below (hb.mono (Nat.le_trans hzB (Nat.le_of_lt hlw)))))
        obtain ⟨_, _, _, _, p0, p1, p2, p3⟩ := HS.out _ (Below.refl _ _)
        refine wp_region_noPanic ?_
        refine wp_region_held_drew (S := fun w' => w'.cell? ⟨w1.heap.size, 0, none⟩ = some (.string a) ∧ w'.cell? ⟨w1.heap.size, 1, none⟩ = some (.string b) ∧ w'.cell? ⟨w1.heap.size, 2, none⟩ = some (.int .i64 f) ∧ w'.cell? ⟨w1.heap.size, 3, none⟩ = some (.int .i64 t) ∧ w'.cell? ⟨b1, o1 + m * 4, none⟩ = some (.string pa) ∧ w'.cell? ⟨b1, o1 + m * 4 + 1, none⟩ = some (.string pb) ∧ w'.cell? ⟨b1, o1 + m * 4 + 2, none⟩ = some (.int .i64 pf) ∧ w'.cell? ⟨b1, o1 + m * 4 + 3, none⟩ = some (.int .i64 pt)) (by kernel_rfl) (by (try dsimp only); first | go_keep | assumption) (fun hHeld => ?_)
        refine take_d (i := 0) (d := some 14) (v := ?_) rfl rfl (by kernel_rfl) (by kernel_rfl) (by kernel_rfl) (fun _ _ _ h => h) (Or.inl ⟨by rfl, ?_⟩) (by assumption) ?_
        rotate_left
        · (intro w hSw; (try dsimp only at hSw); go_simp; (try (with_reducible rfl)))
        simp only [Act.put, List.setIfInBounds_toArray, List.set_cons_zero, List.set_cons_succ]
        refine call_d (i := 1) (d := some 15) rfl rfl (by kernel_rfl) (fun K hK => ?_)
        go_simp
        (go_at_call 46; ((with_reducible refine (HV.out _).mono ?_)); rintro e wq ⟨rfl, hbq⟩; have hacc' := hacc.trans (hbq.mono hacc.size); clear hacc; have hacc := hacc'; clear hacc'; have hSq := HS.out _ hacc; clear hbq)
        (try (go_wp2_with fail))
        refine hK.out _ _ (hSq) (fun hHeld => ?_)
        clear hK K
        (try simp only [Act.put, List.setIfInBounds_toArray, List.set_cons_zero, List.set_cons_succ])
        refine take_d (i := 2) (d := some 16) (v := ?_) rfl rfl (by kernel_rfl) (by kernel_rfl) (by kernel_rfl) (fun _ _ _ h => h) (Or.inl ⟨by rfl, ?_⟩) (by assumption) ?_
        rotate_left
        · (intro w hSw; (try dsimp only at hSw); go_simp; (try (with_reducible rfl)))
        simp only [Act.put, List.setIfInBounds_toArray, List.set_cons_zero, List.set_cons_succ]
        refine take_d (i := 3) (d := some 17) (v := ?_) rfl rfl (by kernel_rfl) (by kernel_rfl) (by kernel_rfl) (fun _ _ _ h => h) (Or.inl ⟨by rfl, ?_⟩) (by assumption) ?_
        rotate_left
        · (intro w hSw; (try dsimp only at hSw); go_simp; (try (with_reducible rfl)))
        simp only [Act.put, List.setIfInBounds_toArray, List.set_cons_zero, List.set_cons_succ]
        refine take_d (i := 4) (d := some 18) (v := ?_) rfl rfl (by kernel_rfl) (by kernel_rfl) (by kernel_rfl) (fun _ _ _ h => h) (Or.inl ⟨by rfl, ?_⟩) (by assumption) ?_
        rotate_left
        · (intro w hSw; (try dsimp only at hSw); go_simp; (try (with_reducible rfl)))
        simp only [Act.put, List.setIfInBounds_toArray, List.set_cons_zero, List.set_cons_succ]
        refine take_d (i := 5) (d := some 19) (v := ?_) rfl rfl (by kernel_rfl) (by kernel_rfl) (by kernel_rfl) (fun _ _ _ h => h) (Or.inl ⟨by rfl, ?_⟩) (by assumption) ?_
        rotate_left
        · (intro w hSw; (try dsimp only at hSw); go_simp; (try (with_reducible rfl)))
        simp only [Act.put, List.setIfInBounds_toArray, List.set_cons_zero, List.set_cons_succ]
        refine take_d (i := 6) (d := some 20) (v := ?_) rfl rfl (by kernel_rfl) (by kernel_rfl) (by kernel_rfl) (fun _ _ _ h => h) (Or.inl ⟨by rfl, ?_⟩) (by assumption) ?_
        rotate_left
        · (intro w hSw; (try dsimp only at hSw); go_simp; (try (with_reducible rfl)))
        simp only [Act.put, List.setIfInBounds_toArray, List.set_cons_zero, List.set_cons_succ]
        refine take_d (i := 7) (d := some 21) (v := ?_) rfl rfl (by kernel_rfl) (by kernel_rfl) (by kernel_rfl) (fun _ _ _ h => h) (Or.inl ⟨by rfl, ?_⟩) (by assumption) ?_
        rotate_left
        · (intro w hSw; (try dsimp only at hSw); go_simp; (try (with_reducible rfl)))
        simp only [Act.put, List.setIfInBounds_toArray, List.set_cons_zero, List.set_cons_succ]
        refine take_d (i := 8) (d := some 22) (v := ?_) rfl rfl (by kernel_rfl) (by kernel_rfl) (by kernel_rfl) (fun _ _ _ h => h) (Or.inl ⟨by rfl, ?_⟩) (by assumption) ?_
        rotate_left
        · (intro w hSw; (try dsimp only at hSw); go_simp; (try (with_reducible rfl)))
        simp only [Act.put, List.setIfInBounds_toArray, List.set_cons_zero, List.set_cons_succ]
        refine take_d (i := 9) (d := some 23) (v := ?_) rfl rfl (by kernel_rfl) (by kernel_rfl) (by kernel_rfl) (fun _ _ _ h => h) (Or.inl ⟨by rfl, ?_⟩) (by assumption) ?_
        rotate_left
        · (intro w hSw; (try dsimp only at hSw); go_simp; (try (with_reducible rfl)))
        simp only [Act.put, List.setIfInBounds_toArray, List.set_cons_zero, List.set_cons_succ]
        refine take_d (i := 10) (d := some 24) (v := ?_) rfl rfl (by kernel_rfl) (by kernel_rfl) (by kernel_rfl) (fun _ _ _ h => h) (Or.inl ⟨by rfl, ?_⟩) (by assumption) ?_
        rotate_left
        · (intro w hSw; (try dsimp only at hSw); go_simp; (try (with_reducible rfl)))
        simp only [Act.put, List.setIfInBounds_toArray, List.set_cons_zero, List.set_cons_succ]
        refine take_d (i := 11) (d := some 25) (v := ?_) rfl rfl (by kernel_rfl) (by kernel_rfl) (by kernel_rfl) (fun _ _ _ h => h) (Or.inl ⟨by rfl, ?_⟩) (by assumption) ?_
        rotate_left
        · (intro w hSw; (try dsimp only at hSw); go_simp; (try (with_reducible rfl)))
        simp only [Act.put, List.setIfInBounds_toArray, List.set_cons_zero, List.set_cons_succ]
        refine take_d (i := 12) (d := some 26) (v := ?_) rfl rfl (by kernel_rfl) (by kernel_rfl) (by kernel_rfl) (fun _ _ _ h => h) (Or.inl ⟨by rfl, ?_⟩) (by assumption) ?_
        rotate_left
        · (intro w hSw; (try dsimp only at hSw); go_simp; (try (with_reducible rfl)))
        simp only [Act.put, List.setIfInBounds_toArray, List.set_cons_zero, List.set_cons_succ]
        refine call_d (i := 13) (d := some 27) rfl rfl (by kernel_rfl) (fun K hK => ?_)
        go_simp
        (clear hSq; go_at_call 48; ((with_reducible refine (HH.out _).mono ?_)); rintro e wq2 ⟨rfl, hbq⟩; have hacc' := hacc.trans (hbq.mono hacc.size); clear hacc; have hacc := hacc'; clear hacc'; have hSq := HS.out _ hacc; clear hbq)
        (try (go_wp2_with fail))
        refine hK.out _ _ (hSq) (fun hHeld => ?_)
        clear hK K
        (try simp only [Act.put, List.setIfInBounds_toArray, List.set_cons_zero, List.set_cons_succ])
        refine take_d (i := 14) (d := some 28) (v := ?_) rfl rfl (by kernel_rfl) (by kernel_rfl) (by kernel_rfl) (fun _ _ _ h => h) (Or.inl ⟨by rfl, ?_⟩) (by assumption) ?_
        rotate_left
        · (intro w hSw; (try dsimp only at hSw); go_simp; (try (with_reducible rfl)))
        simp only [Act.put, List.setIfInBounds_toArray, List.set_cons_zero, List.set_cons_succ]
        refine take_d (i := 15) (d := some 29) (v := ?_) rfl rfl (by kernel_rfl) (by kernel_rfl) (by kernel_rfl) (fun _ _ _ h => h) (Or.inl ⟨by rfl, ?_⟩) (by assumption) ?_
        rotate_left
        · (intro w hSw; (try dsimp only at hSw); go_simp; (try (with_reducible rfl)))
        simp only [Act.put, List.setIfInBounds_toArray, List.set_cons_zero, List.set_cons_succ]
        refine wpAnyH_done (by kernel_rfl) ?_ _
        refine NoPanic.normal ?_
        clear hm1
        have Hacc := Lib.hid hacc; clear hacc
        have hkc : k ≤ c := by omega
        go_wp2_with fail
        go_loopw [34] (fun j wy => ∃ j0 : Nat, j0 ≤ k ∧ chk j0 (freeI xs k) = true ∧ j = .int .i64 j0 ∧ Below wn.heap.size wn wy) (fun j _ => k - (intOf j).toNat)
        case atStart => exact ⟨0, Nat.zero_le _, rfl, rfl, Hacc.out⟩
        case round =>
          obtain ⟨j0, hj, hall2, rfl, hby⟩ := hrel
          have Hall2 := Lib.hid hall2; clear hall2
          obtain ⟨d0, d1, d2, d3⟩ := four_at ((hby.block _ hlw).trans Hnw.out)
          by_cases hlt2 : j0 < k
          · obtain ⟨b2, o2, hA2, hE2⟩ := (HLn.out.below (hby.mono (Nat.le_trans hzB (Nat.le_of_lt hlw)))).atD j0 (by omega)
            obtain ⟨rfl, rfl⟩ : b1 = b2 ∧ o1 = o2 := by simpa using hA2
            clear hA2
            have hlt2' : (j0 : Int) < (k : Int) := by omega
            have h3 := Lib.hid (HP3.out j0 hlt2)
            have h5 := Lib.hid (HP5.out j0)
            generalize atL xs j0 = y at *
            have HC := Lib.hid (fun wx => HCl.out y wx)
            obtain ⟨ya, yb, yf, yt⟩ := y
            obtain ⟨_, g0, g1, g2, g3⟩ := hE2
            dsimp only at g0 g1 g2 g3 HC
            have hz2 : b1 < wr.heap.size := by have := hby.size; omega
            have hz3 : w1.heap.size < wr.heap.size := by have := hby.size; omega
            have Hba2 := Lib.hid (hby.alloc hby.size (.cells #[.string ya, .string yb, .int .i64 yf, .int .i64 yt] 26))
            clear hby
            cases gc : clash ⟨a, b, f, t⟩ ⟨ya, yb, yf, yt⟩ with
            | true =>
              have Hf := Lib.hid (h3.out gc)
              rw [gc] at HC
              clear gc
              go_wp2_with fail
              refine (HC.out _).mono ?_; rintro e w5 ⟨rfl, hb5⟩
              have hb05 := Hba2.out.trans (hb5.mono Hba2.out.size)
              go_wp2_with fail
              go_ret
              rw [Hf.out]; exact ⟨rfl, Hbl.out.trans (hb05.mono Hbl.out.size)⟩
            | false =>
              have Hst2 := Lib.hid (chk_step Hall2.out (h5.out gc))
              rw [gc] at HC
              clear gc
              go_wp2_with fail
              refine (HC.out _).mono ?_; rintro e w5 ⟨rfl, hb5⟩
              have hb05 := Hba2.out.trans (hb5.mono Hba2.out.size)
              go_wp2_with fail
              go_roundw
              case rel => exact ⟨j0 + 1, by omega, Hst2.out, by go_num, hb05⟩
              case measure => simp [intOf]; omega
          · obtain rfl : j0 = k := by omega
            have Hst2 := Lib.hid (HP4.out Hg.out Hg2.out Hall2.out)
            have hb1 := Hbl.out.trans (hby.mono Hbl.out.size)
            go_wp2_with fail
            go_roundw
            case rel => exact ⟨j0 + 1, by omega, Hst2.out, by go_num, hb1⟩
            case measure => simp [intOf]; omega
    · have hc : chk xs.length (placeI xs) = true := by rw [show xs.length = k by omega]; exact Hall.out
      have hf := Lib.hid (show loansOkI xs = decide (xs.length ≤ 60) by unfold loansOkI; rw [hc]; rfl)
      have hlt' : (xs.length : Int) ≤ (k : Int) := by omega
      clear hc
      go_wp2_with fail
      go_ret
      rw [hf.out]; exact ⟨by simp; omega, hbl⟩
theorem ValidLoansI_any (B : Nat) (v : Value) (xs : List Ln) (w : World) (h : RdL w B v xs) (hB : B ≤ w.heap.size) (hl : xs.length ≤ 1048576) (hsm : ∀ x ∈ xs, smL x) (hcap : ∀ A n c, v = .slice A n c → n ≤ c ∧ c ≤ maxLen) :
    Calls Tryd.prog 26 #[v] w fun e w' => e = .returned (.bool (loansOk xs)) ∧ Below w.heap.size w w' := by
  rw [← loansOk_eq]; exact ValidI0_any B v xs w h hB hl hsm hcap
end Go.Proofs.YtmheijnckmlbnaaDoor
