/- Similar entries, part 1: finding an entry, a word. -/
import Derived.Test.YtfaoilonkonmkaaEn9
namespace Go.Proofs.Ytfaoilonkonmkaa
open Go.RowKit Go.Joins

def findN : List Ent → Int → Nat → Int
  | [], _, _ => -1
  | x :: l, m, k => if x.num = m then (k : Int) else findN l m (k + 1)
theorem findN_at (xs : List Ent) (m : Int) (k : Nat) (hk : k < xs.length) : findN (xs.drop k) m k = if xs[k].num = m then (k : Int) else findN (xs.drop (k + 1)) m (k + 1) := by
  rw [List.drop_eq_getElem_cons hk]; rfl
theorem findN_end (xs : List Ent) (m : Int) (k : Nat) (hk : xs.length ≤ k) : findN (xs.drop k) m k = -1 := by rw [List.drop_of_length_le hk]; rfl
theorem findN_bd (m : Int) : ∀ (xs : List Ent) (k : Nat), findN xs m k = -1 ∨ ∃ i, i < xs.length ∧ findN xs m k = ((k + i : Nat) : Int) := by
  intro xs
  induction xs with
  | nil => intro k; exact .inl rfl
  | cons x l ih =>
    intro k
    unfold findN
    split
    · exact .inr ⟨0, by simp, rfl⟩
    · rcases ih (k + 1) with h | ⟨i, h1, h2⟩
      · exact .inl h
      · exact .inr ⟨i + 1, by simp; omega, by rw [h2]; congr 1; omega⟩
def hasW : List ByteArray → ByteArray → Bool
  | [], _ => false
  | x :: l, s => if x = s then true else hasW l s
theorem hasW_at (ws : List ByteArray) (s : ByteArray) (k : Nat) (hk : k < ws.length) : hasW (ws.drop k) s = if ws[k] = s then true else hasW (ws.drop (k + 1)) s := by
  rw [List.drop_eq_getElem_cons hk]; rfl
theorem hasW_end (ws : List ByteArray) (s : ByteArray) (k : Nat) (hk : ws.length ≤ k) : hasW (ws.drop k) s = false := by rw [List.drop_of_length_le hk]; rfl

set_option maxRecDepth 100000 in
set_option maxHeartbeats 800000 in
theorem entryAt_any (B : Nat) (v : Value) (xs : List Ent) (m : Int) (w : World) (h : RdE w B v xs) (hB : B ≤ w.heap.size) (hl : xs.length ≤ 1048576) :
    Calls Try.prog 111 #[v, .int .i64 m] w fun e w' => e = .returned (.int .i64 (findN xs m 0)) ∧ Below w.heap.size w w' := by
  have H := Lib.hid h
  obtain ⟨A, c, rfl⟩ := h.slice
  clear h
  have hb0 := Below.refl w.heap.size w
  go_enter Try.func111, Try.ntmps111
  go_wp2_with fail
  go_loopw [9] (fun i wr => ∃ k : Nat, k ≤ xs.length ∧ findN xs m 0 = findN (xs.drop k) m k ∧ i = .int .i64 (k : Int) ∧ Below w.heap.size w wr) (fun i _ => xs.length - (intOf i).toNat)
  case atStart => exact ⟨0, Nat.zero_le _, rfl, rfl, hb0⟩
  case round =>
    obtain ⟨k, hk, heq, rfl, hbl⟩ := hrel
    have Heq := Lib.hid heq; clear heq
    by_cases hlt : k < xs.length
    · obtain ⟨b1, o1, A1, c1, hA, hE⟩ := (H.out.below (hbl.mono hB)).at k hlt
      subst hA
      have hlt' : (k : Int) < (xs.length : Int) := by omega
      have Hst := Lib.hid (findN_at xs m k hlt)
      generalize xs[k] = x at *
      obtain ⟨num, name, maker, year, words⟩ := x
      obtain ⟨hbB, e0, e1, e2, e3, e4, _⟩ := hE
      dsimp only at e0 e1 e2 e3 e4
      (try dsimp only at Hst)
      have hba := Lib.hid (fun o => hbl.alloc hbl.size o)
      clear hbl
      by_cases hm : num = m
      · have hfin := Lib.hid (show findN xs m 0 = (k : Int) by rw [Heq.out, Hst.out]; exact if_pos hm)
        have hq : (num == m) = true := by simpa using hm
        clear hm
        go_wp2_with fail
        go_ret
        rw [hfin.out]; exact ⟨rfl, hba.out _⟩
      · have hfin := Lib.hid (show findN xs m 0 = findN (xs.drop (k + 1)) m (k + 1) by rw [Heq.out, Hst.out]; exact if_neg hm)
        have hq : (num == m) = false := by simpa using hm
        clear hm
        go_wp2_with fail
        go_roundw
        case rel => exact ⟨k + 1, by omega, hfin.out, by go_num, hba.out _⟩
        case measure => simp [intOf]; omega
    · have hfin := Lib.hid (show findN xs m 0 = -1 by rw [Heq.out, findN_end xs m k (by omega)])
      have hlt' : (xs.length : Int) ≤ (k : Int) := by omega
      go_wp2_with fail
      go_ret
      rw [hfin.out]; exact ⟨rfl, hbl⟩

set_option maxRecDepth 100000 in
set_option maxHeartbeats 800000 in
theorem l25Find_any (B : Nat) (v : Value) (xs : List Ent) (m : Int) (w : World) (h : RdE w B v xs) (hl : xs.length ≤ 1048576) :
    Calls Try.prog 156 #[v, .int .i64 m] w fun e w' => e = .returned (.int .i64 (findN xs m 0)) ∧ w = w' := by
  have H := Lib.hid h
  obtain ⟨A, c, rfl⟩ := h.slice
  clear h
  go_enter Try.func156, Try.ntmps156
  go_wp2_with fail
  go_loop [5] (fun i => ∃ k : Nat, k ≤ xs.length ∧ findN xs m 0 = findN (xs.drop k) m k ∧ i = .int .i64 (k : Int)) (fun i => xs.length - (intOf i).toNat)
  case atStart => exact ⟨0, Nat.zero_le _, rfl, rfl⟩
  case round =>
    obtain ⟨k, hk, heq, rfl⟩ := hrel
    have Heq := Lib.hid heq; clear heq
    by_cases hlt : k < xs.length
    · obtain ⟨b1, o1, A1, c1, hA, hE⟩ := H.out.at k hlt
      subst hA
      have hlt' : (k : Int) < (xs.length : Int) := by omega
      have Hst := Lib.hid (findN_at xs m k hlt)
      have e0 := hE.c0
      clear hE
      generalize xs[k].num = num at *
      by_cases hm : num = m
      · have hfin := Lib.hid (show findN xs m 0 = (k : Int) by rw [Heq.out, Hst.out]; exact if_pos hm)
        have hq : (num == m) = true := by simpa using hm
        clear hm
        go_wp2_with fail
        go_ret
        rw [hfin.out]; exact ⟨rfl, rfl⟩
      · have hfin := Lib.hid (show findN xs m 0 = findN (xs.drop (k + 1)) m (k + 1) by rw [Heq.out, Hst.out]; exact if_neg hm)
        have hq : (num == m) = false := by simpa using hm
        clear hm
        go_wp2_with fail
        go_round
        case rel => exact ⟨k + 1, by omega, hfin.out, by go_num⟩
        case measure => simp [intOf]; omega
    · have hfin := Lib.hid (show findN xs m 0 = -1 by rw [Heq.out, findN_end xs m k (by omega)])
      have hlt' : (xs.length : Int) ≤ (k : Int) := by omega
      go_wp2_with fail
      go_ret
      rw [hfin.out]; exact ⟨rfl, rfl⟩

/-- the code of an asked number, and where it is -/
def askC (xs : List Ent) (m : Int) : Int := if entsOk xs = false then 1 else if findN xs m 0 < 0 then 3 else 0
def askI (xs : List Ent) (m : Int) : Int := if entsOk xs = false then 0 else if findN xs m 0 < 0 then 0 else findN xs m 0
theorem l25Ask_any (B : Nat) (v : Value) (xs : List Ent) (m : Int) (w : World) (h : RdE w B v xs) (hl : xs.length ≤ 1048576) (hsm : ∀ x ∈ xs, smE x) :
    Calls Try.prog 109 #[v, .int .i64 m] w fun e w' => e = .returned (.tuple #[.int .i64 (askI xs m), .int .i64 (askC xs m)]) ∧ ∃ n, w' = w.drewN n := by
  have HO := Lib.hid (l25Ok_any B v xs w h hl hsm)
  have HF := Lib.hid (fun n => l25Find_any B v xs m (w.drewN n) (h.drewN n) hl)
  obtain ⟨A, c, rfl⟩ := h.slice
  clear h
  cases hok : entsOk xs with
  | false =>
    have e1 := Lib.hid (show askC xs m = 1 by unfold askC; rw [hok]; rfl)
    have e2 := Lib.hid (show askI xs m = 0 by unfold askI; rw [hok]; rfl)
    rw [hok] at HO
    clear hok
    go_enter Try.func109, Try.ntmps109
    go_wp2_with fail
    refine HO.out.mono ?_; rintro e w1 ⟨rfl, n, rfl⟩
    go_wp2_with fail
    go_ret2
    rw [e1.out, e2.out]; exact ⟨rfl, _, rfl⟩
  | true =>
    rw [hok] at HO
    by_cases hf : findN xs m 0 < 0
    · have e1 := Lib.hid (show askC xs m = 3 by unfold askC; rw [hok, if_pos hf]; rfl)
      have e2 := Lib.hid (show askI xs m = 0 by unfold askI; rw [hok, if_pos hf]; rfl)
      clear hok
      generalize findN xs m 0 = f at *
      go_enter Try.func109, Try.ntmps109
      go_wp2_with fail
      refine HO.out.mono ?_; rintro e w1 ⟨rfl, n, rfl⟩
      go_wp2_with fail
      refine (HF.out _).mono ?_; rintro e w1 ⟨rfl, rfl⟩
      go_wp2_with fail
      go_ret2
      rw [e1.out, e2.out]; exact ⟨rfl, _, rfl⟩
    · have e1 := Lib.hid (show askC xs m = 0 by unfold askC; rw [hok, if_neg hf]; rfl)
      have e2 := Lib.hid (show askI xs m = findN xs m 0 by unfold askI; rw [hok, if_neg hf]; rfl)
      clear hok
      generalize findN xs m 0 = f at *
      go_enter Try.func109, Try.ntmps109
      go_wp2_with fail
      refine HO.out.mono ?_; rintro e w1 ⟨rfl, n, rfl⟩
      go_wp2_with fail
      refine (HF.out _).mono ?_; rintro e w1 ⟨rfl, rfl⟩
      go_wp2_with fail
      go_ret2
      rw [e1.out, e2.out]; exact ⟨rfl, _, rfl⟩

set_option maxRecDepth 100000 in
set_option maxHeartbeats 800000 in
theorem l25Has_any (B : Nat) (v : Value) (ws : List ByteArray) (s : ByteArray) (w : World) (h : Rd w B v ws.length 1 (strs ws)) (hl : ws.length ≤ 1048576) :
    Calls Try.prog 157 #[v, .string s] w fun e w' => e = .returned (.bool (hasW ws s)) ∧ w = w' := by
  have H := Lib.hid h
  obtain ⟨_, A, c, rfl, _⟩ := h
  go_enter Try.func157, Try.ntmps157
  go_wp2_with fail
  go_loop [5] (fun i => ∃ k : Nat, k ≤ ws.length ∧ hasW ws s = hasW (ws.drop k) s ∧ i = .int .i64 (k : Int)) (fun i => ws.length - (intOf i).toNat)
  case atStart => exact ⟨0, Nat.zero_le _, rfl, rfl⟩
  case round =>
    obtain ⟨k, hk, heq, rfl⟩ := hrel
    have Heq := Lib.hid heq; clear heq
    by_cases hlt : k < ws.length
    · obtain ⟨_, b1, o1, hA, hx⟩ := rd_at H.out k hlt
      subst hA
      have hlt' : (k : Int) < (ws.length : Int) := by omega
      have Hst := Lib.hid (hasW_at ws s k hlt)
      generalize ws[k] = z at *
      by_cases hz : z = s
      · have hfin := Lib.hid (show hasW ws s = true by rw [Heq.out, Hst.out]; exact if_pos hz)
        have hq : (z.toList == s.toList) = true := by rw [hz]; simp
        clear hz
        go_wp2_with fail
        go_ret
        rw [hfin.out]; exact ⟨rfl, rfl⟩
      · have hfin := Lib.hid (show hasW ws s = hasW (ws.drop (k + 1)) s by rw [Heq.out, Hst.out]; exact if_neg hz)
        have hq : (z.toList == s.toList) = false := beq_eq_false_iff_ne.2 fun h => hz (ba_inj h)
        clear hz
        go_wp2_with fail
        go_round
        case rel => exact ⟨k + 1, by omega, hfin.out, by go_num⟩
        case measure => simp [intOf]; omega
    · have hfin := Lib.hid (show hasW ws s = false by rw [Heq.out, hasW_end ws s k (by omega)])
      have hlt' : (ws.length : Int) ≤ (k : Int) := by omega
      go_wp2_with fail
      go_ret
      rw [hfin.out]; exact ⟨rfl, rfl⟩

set_option maxRecDepth 100000 in
set_option maxHeartbeats 800000 in
theorem hasWord_any (B : Nat) (x : Ent) (A : Option Addr) (c : Nat) (s : ByteArray) (w : World) (h : Rd w B (.slice A x.words.length c) x.words.length 1 (strs x.words)) (hB : B ≤ w.heap.size) (hl : x.words.length ≤ 1048576) :
    Calls Try.prog 112 #[aggE x A c, .string s] w fun e w' => e = .returned (.bool (hasW x.words s)) ∧ Below w.heap.size w w' := by
  obtain ⟨num, name, maker, year, ws⟩ := x
  dsimp only at *
  have hba := Lib.hid ((Below.refl w.heap.size w).alloc (Nat.le_refl _) (.cells #[.int .i64 num, .string name, .string maker, .int .i64 year, .slice A ws.length c] 124))
  have H := Lib.hid (h.below (hba.out.mono hB))
  clear h
  go_enter Try.func112, Try.ntmps112
  go_wp2_with fail
  generalize w.alloc (.cells #[.int .i64 num, .string name, .string maker, .int .i64 year, .slice A ws.length c] 124) = w0 at *
  go_loop [10] (fun i => ∃ k : Nat, k ≤ ws.length ∧ hasW ws s = hasW (ws.drop k) s ∧ i = .int .i64 (k : Int)) (fun i => ws.length - (intOf i).toNat)
  case atStart => exact ⟨0, Nat.zero_le _, rfl, rfl⟩
  case round =>
    obtain ⟨k, hk, heq, rfl⟩ := hrel
    have Heq := Lib.hid heq; clear heq
    by_cases hlt : k < ws.length
    · obtain ⟨_, b1, o1, hA, hx⟩ := rd_at H.out k hlt
      subst hA
      have hlt' : (k : Int) < (ws.length : Int) := by omega
      have Hst := Lib.hid (hasW_at ws s k hlt)
      generalize ws[k] = z at *
      by_cases hz : z = s
      · have hfin := Lib.hid (show hasW ws s = true by rw [Heq.out, Hst.out]; exact if_pos hz)
        have hq : (z.toList == s.toList) = true := by rw [hz]; simp
        clear hz
        go_wp2_with fail
        go_ret
        rw [hfin.out]; exact ⟨rfl, hba.out⟩
      · have hfin := Lib.hid (show hasW ws s = hasW (ws.drop (k + 1)) s by rw [Heq.out, Hst.out]; exact if_neg hz)
        have hq : (z.toList == s.toList) = false := beq_eq_false_iff_ne.2 fun h => hz (ba_inj h)
        clear hz
        go_wp2_with fail
        go_round
        case rel => exact ⟨k + 1, by omega, hfin.out, by go_num⟩
        case measure => simp [intOf]; omega
    · have hfin := Lib.hid (show hasW ws s = false by rw [Heq.out, hasW_end ws s k (by omega)])
      have hlt' : (ws.length : Int) ≤ (k : Int) := by omega
      go_wp2_with fail
      go_ret
      rw [hfin.out]; exact ⟨rfl, hba.out⟩
end Go.Proofs.Ytfaoilonkonmkaa
