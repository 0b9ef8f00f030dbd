/- Merged texts: Pq2, Dec, Note, Jr1, Jr2, Jr3, Sp1, Sp2, Dn1, Rn1, Rn2, Rn3, Rn4, Ld1, Ld2, Rn5, Ld0, Lib3. -/
import Derived.Test.YtepgfcjfdnakbaaDoorGCardJobs4
import Derived.Test.YtepgfcjfdnakbaaDoorShelf
import Derived.Test.YtepgfcjfdnakbaaDoorGCardJobs1
import Derived.Lib.SmallJoins
import Derived.Lib.ItoaMem
import Derived.Lib.LaidTab
import Derived.Deep.RegionHeld3
/- Inventories, texts, part 2: the piece with a name, both sides (gen_pq2.py). -/
namespace Go.Proofs.YtepgfcjfdnakbaaDoor
open Go.RowKit Go.Joins

/-- the first of the first m pieces that has a name, -1 if there is none -/
def nmI (xs : List Pc) (s : ByteArray) : Nat → Int
  | 0 => -1
  | m + 1 => if 0 ≤ nmI xs s m then nmI xs s m else if (pg xs m).name = s then (m : Int) else -1
theorem nmI_stay {xs : List Pc} {s : ByteArray} {m : Nat} (h : 0 ≤ nmI xs s m) : ∀ n, m ≤ n → nmI xs s n = nmI xs s m := by
  intro n
  induction n with
  | zero => intro hn; rw [Nat.le_zero.1 hn]
  | succ n ih =>
    intro hn
    by_cases e : m = n + 1
    · rw [e]
    · have := ih (by omega)
      show (if 0 ≤ nmI xs s n then nmI xs s n else _) = _
      rw [this, if_pos h]
theorem nmI_hit {xs : List Pc} {s : ByteArray} {m n : Nat} (h : nmI xs s m = -1) (hs : (pg xs m).name = s) (hn : m < n) : nmI xs s n = (m : Int) := by
  have e : nmI xs s (m + 1) = (m : Int) := by
    show (if 0 ≤ nmI xs s m then nmI xs s m else if (pg xs m).name = s then (m : Int) else -1) = _
    rw [h, if_neg (by omega), if_pos hs]
  rw [nmI_stay (m := m + 1) (by rw [e]; omega) n hn, e]
theorem nmI_miss {xs : List Pc} {s : ByteArray} {m : Nat} (h : nmI xs s m = -1) (hs : (pg xs m).name ≠ s) : nmI xs s (m + 1) = -1 := by
  show (if 0 ≤ nmI xs s m then nmI xs s m else if (pg xs m).name = s then (m : Int) else -1) = _
  rw [h, if_neg (by omega), if_neg hs]
theorem nmI_bd (xs : List Pc) (s : ByteArray) : ∀ m, -1 ≤ nmI xs s m ∧ nmI xs s m < (m : Int)
  | 0 => by unfold nmI; omega
  | m + 1 => by
    have := nmI_bd xs s m
    show -1 ≤ (if 0 ≤ nmI xs s m then nmI xs s m else if (pg xs m).name = s then (m : Int) else -1) ∧ (if 0 ≤ nmI xs s m then nmI xs s m else if (pg xs m).name = s then (m : Int) else -1) < ((m + 1 : Nat) : Int)
    split
    · omega
    · split <;> omega
theorem ret_intQ {a b : Int} (h : a = b) : Ending.returned (.int .i64 a) = .returned (.int .i64 b) := by rw [h]
set_option maxRecDepth 100000 in
set_option maxHeartbeats 1600000 in
theorem named_any (B : Nat) (v : Value) (xs : List Pc) (s : ByteArray) (w : World) (h : RdP w B v xs) (hB : B ≤ w.heap.size) (hn : xs.length ≤ 1048576) :
    Calls Tryd.prog 64 #[v, .string s] w fun e w' => e = .returned (.int .i64 (nmI xs s xs.length)) ∧ Below w.heap.size w w' := by
  have H := Lib.hid h
  obtain ⟨A, c, rfl⟩ := h.slice
  clear h
  go_enter Tryd.func64, Tryd.ntmps64
  go_wp2_with fail
  go_loopw [9] (fun i wr => ∃ k : Nat, k ≤ xs.length ∧ i = .int .i64 (k : Int) ∧ nmI xs s k = -1 ∧ Below w.heap.size w wr) (fun i _ => xs.length - (intOf i).toNat)
  case atStart => exact ⟨0, by omega, rfl, rfl, Below.refl _ _⟩
  case round =>
    obtain ⟨k, hk, rfl, hnm, hbl⟩ := hrel
    have Hbl := Lib.hid hbl
    have Hnm := Lib.hid hnm
    by_cases hlt : k < xs.length
    · have hlt' : (k : Int) < (xs.length : Int) := by omega
      obtain ⟨b, off, hA, hat⟩ := (H.out.below (hbl.mono hB)).at k hlt
      subst hA
      obtain ⟨_, q0, q1, q2, q3⟩ := hat
      have hb2 := hbl.alloc hbl.size (.cells #[.string (pg xs k).name, .int .i64 (pg xs k).par, .int .i64 (pg xs k).each, .int .i64 (pg xs k).price] 46)
      obtain ⟨wa, hwa⟩ : ∃ z, wr.alloc (.cells #[.string (pg xs k).name, .int .i64 (pg xs k).par, .int .i64 (pg xs k).each, .int .i64 (pg xs k).price] 46) = z := ⟨_, rfl⟩
      have hblk := heap_alloc_new wr (.cells #[.string (pg xs k).name, .int .i64 (pg xs k).par, .int .i64 (pg xs k).each, .int .i64 (pg xs k).price] 46)
      rw [hwa] at hb2 hblk
      obtain ⟨⟨a0, a1, a2, a3⟩, -⟩ := blk4p hblk
      have Hb2 := Lib.hid hb2
      by_cases hs : (pg xs k).name = s
      · have Hz := Lib.hid (nmI_hit hnm hs hlt)
        rw [hs] at q0 a0 hwa
        clear hnm hbl hb2 hblk hs
        generalize (pg xs k).par = pp at *
        generalize (pg xs k).each = pe at *
        generalize (pg xs k).price = pq at *
        go_wp2_with fail
        go_ret
        exact ⟨ret_intQ Hz.out.symm, Hb2.out⟩
      · have Hz := Lib.hid (nmI_miss hnm hs)
        have hs' : ((pg xs k).name.toList == s.toList) = false := beq_eq_false_iff_ne.2 fun h => hs (ba_inj h)
        clear hnm hbl hb2 hblk hs
        generalize (pg xs k).name = nm at *
        generalize (pg xs k).par = pp at *
        generalize (pg xs k).each = pe at *
        generalize (pg xs k).price = pq at *
        go_wp2_with fail
        go_roundw
        case rel => exact ⟨k + 1, by omega, by go_num, Hz.out, Hb2.out⟩
        case measure => first | (simp [intOf]; done) | (simp [intOf]; omega)
    · obtain rfl : k = xs.length := by omega
      have hlt' : ¬ ((xs.length : Int) < (xs.length : Int)) := by omega
      clear hnm hbl
      go_wp2_with fail
      go_ret
      exact ⟨ret_intQ (by rw [Hnm.out]), Hbl.out⟩
/-- the code and the place of a name -/
def pnC (xs : List Pc) (s : ByteArray) : Int := if okP xs then (if nmI xs s xs.length < 0 then 3 else 0) else 1
def pnV (xs : List Pc) (s : ByteArray) : Int := if okP xs then (if nmI xs s xs.length < 0 then 0 else nmI xs s xs.length) else 0
def RetPn (xs : List Pc) (s : ByteArray) (w : World) (e : Ending) (w' : World) : Prop := e = .returned (.tuple #[.int .i64 (pnV xs s), .int .i64 (pnC xs s)]) ∧ Below w.heap.size w w'
theorem pn_inv {xs : List Pc} {s : ByteArray} (h : okP xs = false) : pnV xs s = 0 ∧ pnC xs s = 1 := by unfold pnV pnC; rw [h]; exact ⟨rfl, rfl⟩
theorem pn_no {xs : List Pc} {s : ByteArray} (h : okP xs = true) (h2 : nmI xs s xs.length < 0) : pnV xs s = 0 ∧ pnC xs s = 3 := by unfold pnV pnC; rw [h, if_pos rfl, if_pos rfl, if_pos h2, if_pos h2]; exact ⟨rfl, rfl⟩
theorem pn_yes {xs : List Pc} {s : ByteArray} (h : okP xs = true) (h2 : ¬ nmI xs s xs.length < 0) : pnV xs s = nmI xs s xs.length ∧ pnC xs s = 0 := by unfold pnV pnC; rw [h, if_pos rfl, if_pos rfl, if_neg h2, if_neg h2]; exact ⟨rfl, rfl⟩
set_option maxRecDepth 100000 in
set_option maxHeartbeats 1600000 in
theorem NamedI_any (B : Nat) (v : Value) (xs : List Pc) (s : ByteArray) (w : World) (h : RdP w B v xs) (hB : B ≤ w.heap.size) (hn : xs.length ≤ 100000) (hz : szP xs) :
    Calls Tryd.prog 19 #[v, .string s] w (RetPn xs s w) := by
  have HV := Lib.hid (ValidPI_any B v xs w h hB hn hz)
  have HN := Lib.hid (fun wx hx hy => named_any B v xs s wx hx hy (by omega))
  have H := Lib.hid h
  obtain ⟨A, c, rfl⟩ := h.slice
  clear h hz
  cases hok : okP xs with
  | false =>
    obtain ⟨e1, e2⟩ := pn_inv (s := s) hok
    have Hf := Lib.hid (fun w' (hb : Below w.heap.size w w') => (show RetPn xs s w (.returned (.tuple #[.int .i64 0, .int .i64 1])) w' from ⟨by rw [e1, e2], hb⟩))
    rw [hok] at HV
    clear hok e1 e2
    go_enter Tryd.func19, Tryd.ntmps19
    go_wp2_with fail
    refine (HV.out).mono ?_; rintro e w2 ⟨rfl, hb2⟩
    have Hz := Lib.hid (Hf.out w2 hb2)
    clear hb2
    go_wp2_with fail
    go_ret2
    exact Hz.out
  | true =>
    rw [hok] at HV
    by_cases h2 : nmI xs s xs.length < 0
    · obtain ⟨e1, e2⟩ := pn_no hok h2
      have Hf := Lib.hid (fun w' (hb : Below w.heap.size w w') => (show RetPn xs s w (.returned (.tuple #[.int .i64 0, .int .i64 3])) w' from ⟨by rw [e1, e2], hb⟩))
      clear hok e1 e2
      generalize nmI xs s xs.length = y at *
      go_enter Tryd.func19, Tryd.ntmps19
      go_wp2_with fail
      refine (HV.out).mono ?_; rintro e w2 ⟨rfl, hb2⟩
      have Hb2 := Lib.hid hb2
      have HN2 := Lib.hid (HN.out w2 (H.out.below (hb2.mono hB)) (Nat.le_trans hB hb2.size))
      clear hb2 HN
      go_wp2_with fail
      refine (HN2.out).mono ?_; rintro e w3 ⟨rfl, hb3⟩
      have Hz := Lib.hid (Hf.out w3 (Hb2.out.trans (hb3.mono Hb2.out.size)))
      clear hb3
      go_wp2_with fail
      go_ret2
      exact Hz.out
    · obtain ⟨e1, e2⟩ := pn_yes hok h2
      have Hf := Lib.hid (fun w' (hb : Below w.heap.size w w') => (show RetPn xs s w (.returned (.tuple #[.int .i64 (nmI xs s xs.length), .int .i64 0])) w' from ⟨by rw [e1, e2], hb⟩))
      clear hok e1 e2
      generalize nmI xs s xs.length = y at *
      go_enter Tryd.func19, Tryd.ntmps19
      go_wp2_with fail
      refine (HV.out).mono ?_; rintro e w2 ⟨rfl, hb2⟩
      have Hb2 := Lib.hid hb2
      have HN2 := Lib.hid (HN.out w2 (H.out.below (hb2.mono hB)) (Nat.le_trans hB hb2.size))
      clear hb2 HN
      go_wp2_with fail
      refine (HN2.out).mono ?_; rintro e w3 ⟨rfl, hb3⟩
      have Hz := Lib.hid (Hf.out w3 (Hb2.out.trans (hb3.mono Hb2.out.size)))
      clear hb3
      go_wp2_with fail
      go_ret2
      exact Hz.out
set_option maxRecDepth 100000 in
set_option maxHeartbeats 1600000 in
theorem NamedS_any (B : Nat) (v : Value) (xs : List Pc) (s : ByteArray) (w : World) (h : RdP w B v xs) (hB : B ≤ w.heap.size) (hn : xs.length ≤ 100000) (hz : szP xs) :
    Calls Tryd.prog 20 #[v, .string s] w (RetPn xs s w) := by
  have HV := Lib.hid (ValidPS_any B v xs w h hB hn hz)
  have H := Lib.hid h
  obtain ⟨A, c, rfl⟩ := h.slice
  clear h hz
  cases hok : okP xs with
  | false =>
    obtain ⟨e1, e2⟩ := pn_inv (s := s) hok
    have Hf := Lib.hid (fun w' (hb : Below w.heap.size w w') => (show RetPn xs s w (.returned (.tuple #[.int .i64 0, .int .i64 1])) w' from ⟨by rw [e1, e2], hb⟩))
    rw [hok] at HV
    clear hok e1 e2
    go_enter Tryd.func20, Tryd.ntmps20
    go_wp2_with fail
    refine (HV.out).mono ?_; rintro e w2 ⟨rfl, hb2⟩
    have Hz := Lib.hid (Hf.out w2 hb2)
    clear hb2
    go_wp2_with fail
    go_ret2
    exact Hz.out
  | true =>
    rw [hok] at HV
    have Hno := Lib.hid (fun h2 => pn_no (s := s) hok h2)
    have Hyes := Lib.hid (fun h2 => pn_yes (s := s) hok h2)
    clear hok
    go_enter Tryd.func20, Tryd.ntmps20
    go_wp2_with fail
    refine (HV.out).mono ?_; rintro e w2 ⟨rfl, hb2⟩
    have Hb2 := Lib.hid hb2
    clear hb2 HV
    go_wp2_with fail
    go_loop [6] (fun i => ∃ k : Nat, k ≤ xs.length ∧ i = .int .i64 (k : Int) ∧ nmI xs s k = -1) (fun i => xs.length - (intOf i).toNat)
    case atStart => exact ⟨0, by omega, rfl, rfl⟩
    case round =>
      obtain ⟨k, hk, rfl, hnm⟩ := hrel
      have Hnm := Lib.hid hnm
      by_cases hlt : k < xs.length
      · have hlt' : (k : Int) < (xs.length : Int) := by omega
        obtain ⟨b, off, hA, hat⟩ := (H.out.below (Hb2.out.mono hB)).at k hlt
        subst hA
        have q0 := hat.c0
        clear hat
        by_cases hs : (pg xs k).name = s
        · have e := nmI_hit hnm hs hlt
          obtain ⟨e1, e2⟩ := Hyes.out (by rw [e]; omega)
          have Hz := Lib.hid (show RetPn xs s w (.returned (.tuple #[.int .i64 (k : Int), .int .i64 0])) w2 from ⟨by rw [e1, e2, e], Hb2.out⟩)
          rw [hs] at q0
          clear hnm hs e e1 e2
          go_wp2_with fail
          go_ret2
          exact Hz.out
        · have Hz := Lib.hid (nmI_miss hnm hs)
          have hs' : ((pg xs k).name.toList == s.toList) = false := beq_eq_false_iff_ne.2 fun h => hs (ba_inj h)
          clear hnm hs
          generalize (pg xs k).name = nm at *
          go_wp2_with fail
          go_round
          case rel => exact ⟨k + 1, by omega, by go_num, Hz.out⟩
          case measure => first | (simp [intOf]; done) | (simp [intOf]; omega)
      · obtain rfl : k = xs.length := by omega
        have hlt' : ¬ ((xs.length : Int) < (xs.length : Int)) := by omega
        obtain ⟨e1, e2⟩ := Hno.out (by rw [hnm]; omega)
        have Hz := Lib.hid (show RetPn xs s w (.returned (.tuple #[.int .i64 0, .int .i64 3])) w2 from ⟨by rw [e1, e2], Hb2.out⟩)
        clear hnm e1 e2
        go_wp2_with fail
        go_ret2
        exact Hz.out
set_option maxRecDepth 100000 in
set_option maxHeartbeats 400000 in
theorem ValidP2_any (B : Nat) (v : Value) (xs : List Pc) (w : World) (h : RdP w B v xs) (hB : B ≤ w.heap.size) (hn : xs.length ≤ 100000) (hz : szP xs) :
    Calls Tryd.prog 27 #[v] w fun e w' => e = .returned (.bool (okP xs)) ∧ Below w.heap.size w w' := by
  have HV := Lib.hid (ValidPS_any B v xs w h hB hn hz)
  obtain ⟨A, c, rfl⟩ := h.slice
  clear h hz
  generalize okP xs = y at *
  go_enter Tryd.func27, Tryd.ntmps27
  go_wp2_with fail
  refine (HV.out).mono ?_; rintro e w2 ⟨rfl, hb2⟩
  have Hb2 := Lib.hid hb2
  clear hb2
  go_wp2_with fail
  go_ret
  exact ⟨rfl, Hb2.out⟩
end Go.Proofs.YtepgfcjfdnakbaaDoor
/- Decimal on both sides (strconv.FormatInt by the shelf's contract; l01Dec by its walk). -/
namespace Go.Proofs.YtepgfcjfdnakbaaDoor
open Go.RowKit Go.Joins

theorem infoB' : (Tryd.prog.info? 5).map (fun i => (i.zero, i.size, i.bytes)) = some (some (.int .u8 0), 1, 1) := by kernel_rfl

/-- the table of powers lies as its initialiser lays it -/
def Tab (w : World) : Prop := Lib.TabIs Tryd.prog w "internal/strconv.uint64pow10" .u64 Lib.pow10Tab
theorem gPow : Tryd.prog.globalNamed "internal/strconv.uint64pow10" = some 0 := by kernel_rfl
theorem Tab.keep {w w' : World} {B : Nat} (h : Tab w) (hb : Below B w w') (hB : w.heap.size ≤ B) : Tab w' := by
  unfold Tab Lib.TabIs World.var? at *
  rw [gPow] at *
  simp only [Option.bind_some] at *
  have hg : 0 < w.heap.size := by
    cases hh : w.heap[0]? with
    | none => rw [hh] at h; cases h
    | some o => exact (Array.getElem?_eq_some_iff.1 hh).1
  rw [hb.block _ (by omega)]
  exact h
theorem Tab.below {w w' : World} (h : Tab w) (hb : Below w.heap.size w w') : Tab w' := h.keep hb (Nat.le_refl _)

/-- decimals -/
def decS (n : Int) : ByteArray := ⟨(Lib.itoa n).toArray⟩

theorem below_app {w w' : World} (os : Array Obj) (h1 : w'.os = w.os) (h2 : w'.tape = w.tape) (h3 : w'.output = w.output) (h4 : w'.heap = w.heap ++ os) : Below w.heap.size w w' :=
  ⟨h1, h2, h3, by rw [h4]; simp, fun i hi => by rw [h4]; exact Array.getElem?_append_left hi⟩

set_option maxHeartbeats 400000 in
theorem Decimal_any (n : Int) (w : World) (h0 : -9223372036854775808 ≤ n) (h1 : n ≤ 9223372036854775807) (ht : Tab w) :
    Calls Tryd.prog 60 #[.int .i64 n] w fun e w' => e = .returned (.string (decS n)) ∧ Below w.heap.size w w' := by
  have HF := Lib.hid (Tryd.strconv_FormatInt_10 n h0 h1 w ht)
  clear h0 h1 ht
  go_enter Tryd.func60, Tryd.ntmps60
  go_wp2_with fail
  refine HF.out.mono ?_; rintro e w1 ⟨rfl, k, os, rfl⟩
  go_wp2_with fail
  go_ret
  exact ⟨rfl, below_app os rfl rfl rfl rfl⟩

/-- the digits in front of what is there -/
def ddL (u : Nat) (acc : List UInt8) : List UInt8 := if u = 0 then acc else Lib.decDigits u ++ acc
theorem ddL_step (u : Nat) (acc : List UInt8) (h : 0 < u) : ddL u acc = ddL (u / 10) (UInt8.ofNat (48 + u % 10) :: acc) := by
  unfold ddL
  rw [if_neg (by omega), Lib.decDigits]
  by_cases h10 : u < 10
  · rw [dif_pos h10, if_pos (by omega), show u % 10 = u by omega]
    rfl
  · rw [dif_neg h10, if_neg (by omega)]
    simp
theorem len19 (k L : Nat) (hk : 0 < k) (h : k * 10 ^ L ≤ 9223372036854775808) : L ≤ 18 := by
  by_cases hL : L ≤ 18
  · exact hL
  · exfalso
    have h1 : 10 ^ 19 ≤ 10 ^ L := Nat.pow_le_pow_right (by omega) (by omega)
    have h2 : 10 ^ L ≤ k * 10 ^ L := Nat.le_mul_of_pos_left _ hk
    have h3 : (10 : Nat) ^ 19 = 10000000000000000000 := by decide
    omega
theorem pow_step (k L N : Nat) (h : k * 10 ^ L ≤ N) : k / 10 * 10 ^ (L + 1) ≤ N := by
  have h1 : k / 10 * 10 ≤ k := by omega
  calc k / 10 * 10 ^ (L + 1) = k / 10 * 10 * 10 ^ L := by rw [Nat.pow_succ, Nat.mul_assoc, Nat.mul_comm 10]
    _ ≤ k * 10 ^ L := Nat.mul_le_mul_right _ h1
    _ ≤ N := h
theorem decDigits_ne (u : Nat) : (Lib.decDigits u).length ≠ 0 := by
  rw [Lib.decDigits]
  split <;> simp

theorem digB' (m : Nat) : IntKind.u8.wrap (48 + (m : Int) % 10) = ((UInt8.ofNat (48 + m % 10)).toNat : Int) := by
  rw [IntKind.wrap_u8]
  simp only [UInt8.toNat_ofNat']
  omega

/-- an owned row appended to a row that has just been made -/
theorem wpList_app_own {P : Program} {w : World} {ops : Array Oper} {rest : List Oper} {o : Oper} {a : Act} {Q : Exit → Act → World → Prop} (t e : TypeId) (z : Value) (size bytes : Nat)
    (ht : P.underlying t = some (.slice e)) (hinfo : (P.info? e).map (fun i => (i.zero, i.size, i.bytes)) = some (some z, size, bytes)) (hzs : z.cells.size = size) (hsz : 0 < size)
    (s x : Operand) (hgd : o.guard = none) (ho : o.op = .call { callee := .builtin .append, args := #[s, x], argTypes := #[t, t] })
    (base : Nat) (v : Value) (n : Nat) (xs : List Value) (hs : a.eval s = v) (hown : w.ownsRow base e size v n xs) (hv : v ≠ .slice none 0 0)
    (g m c : Nat) (news : List Value) (hx : a.eval x = .slice (some ⟨g, 0, none⟩) m c) (hr : ∀ j u, news[j]? = some u → w.cell? ⟨g, j, none⟩ = some u) (hl : news.length = m * size) (h1 : ∀ u ∈ news, u.oneCell' = true)
    (h63 : n + m ≤ maxLen) (hbytes : (n + m) * bytes ≤ 140737488355328) (hbase : base ≤ w.heap.size)
    (h : ∀ g' c' w', w'.ownsRow base e size (.slice (some ⟨g', 0, none⟩) (n + m) c') (n + m) (xs ++ news) → w.grownBy w' v.ownBlock → wpList P ops Q rest (a.put o.dst (.slice (some ⟨g', 0, none⟩) (n + m) c')) w') :
    wpList P ops Q (o :: rest) a w := by
  obtain ⟨i, hi, hz, h2, h3⟩ := info_parts hinfo
  refine wpList_append_own _ hgd s x t ho base e i z size bytes ht hi hz h2 h3 hzs hsz v n xs hs hown ⟨g, 0, none⟩ m c news hx hl (fun j u hu => ?_) h1 h63 hbytes hbase ?_
  · rw [show (⟨g, 0, none⟩ : Addr).add j = ⟨g, j, none⟩ by unfold Addr.add; split <;> simp_all]
    exact hr j u hu
  · intro v' w' ho' hg' hnil
    rcases ownsRow_forms ho' with ⟨rfl, _⟩ | ⟨g', c', rfl⟩
    · exact absurd (hnil.1 rfl).1 hv
    · exact h g' c' w' ho' hg'

set_option maxHeartbeats 1000000 in
theorem l01Dec_nonneg (n : Nat) (w : World) (hn : n ≤ 9223372036854775807) :
    Calls Tryd.prog 95 #[.int .i64 n] w fun e w' => e = .returned (.string (decS n)) ∧ Below w.heap.size w w' := by
  have Hn := Lib.hid hn; clear hn
  go_enter Tryd.func95, Tryd.ntmps95
  go_wp2_with fail
  go_loopw [3, 4] (fun v i wr => ∃ (k : Nat) (acc : List UInt8) (g c : Nat), i = .int .i64 k ∧ v = .slice (some ⟨g, 0, none⟩) acc.length c ∧ wr.ownsRow w.heap.size 5 1 v acc.length (acc.map byV) ∧
      ddL n [] = ddL k acc ∧ Hid (k * 10 ^ acc.length ≤ 9223372036854775808) ∧ Hid (k ≤ n) ∧ Below w.heap.size w wr) (fun _ i _ => (intOf i).toNat)
  case atStart => exact ⟨n, [], w.heap.size, 0, rfl, rfl, World.ownsRow_made w #[] 0 (Nat.le_refl _) (by simp [maxLen]) rfl, rfl, Lib.hid (by have := Hn.out; simp; omega), Lib.hid (Nat.le_refl _), (Below.refl _ _).alloc (Nat.le_refl _) _⟩
  case round =>
    obtain ⟨k, acc, g, c, rfl, rfl, hown, hdd, hp, hkn, hbl⟩ := hrel
    have Hdd := Lib.hid hdd; clear hdd
    by_cases hlt : 0 < k
    · have hne : ((k : Int) != 0) = true := by rw [bne_iff_ne]; omega
      have hL : acc.length ≤ 18 := len19 k acc.length hlt hp.out
      have hd := digB' k
      have Hst := Lib.hid (ddL_step k acc hlt)
      have hk8 : k ≤ 9223372036854775807 := by have := hkn.out; have := Hn.out; omega
      generalize UInt8.ofNat (48 + k % 10) = d at *
      have hnew := World.ownsRow_lit (base := w.heap.size) (e := 5) (size := 1) wr #[.int .u8 (d.toNat : Int)] 1 hbl.size (by simp [maxLen]) rfl
      have hcells := (hown.alloc (.cells #[.int .u8 (d.toNat : Int)] 5)).cells (g := g) rfl
      have hcells' : ∀ j u, (acc.map byV)[j]? = some u → (wr.alloc (.cells #[.int .u8 (d.toNat : Int)] 5)).cell? ⟨g, j, none⟩ = some u := fun j u hu => by
        have := hcells j u hu
        rwa [show (⟨g, 0, none⟩ : Addr).add j = ⟨g, j, none⟩ by unfold Addr.add; split <;> simp_all] at this
      have Hc := Lib.hid hcells'; clear hcells hcells'
      go_wp2_with (at_builtin; refine wpList_app_own 22 5 _ 1 1 Tryd.underlying22 infoB' rfl (by omega) _ _ rfl rfl w.heap.size (.slice (some ⟨wr.heap.size, 0, none⟩) 1 1) 1 _ rfl hnew (by simp) g acc.length c (acc.map byV) rfl Hc.out (by simp) (by simp [byV, Value.oneCell']) (by simp [maxLen]; omega) (by omega) (by simp; have := hbl.size; omega) ?_; intro g' c' w1 hown1 hg1)
      have hb1 : Below w.heap.size w w1 := (hbl.alloc hbl.size _).grown hg1 (by simp; have := hbl.size; omega) (fun x hx => by injection hx with hx; rw [← hx]; exact hbl.size)
      clear Hc hnew
      go_wp2_with fail
      go_roundw
      case rel => exact ⟨k / 10, d :: acc, g', c', by go_num, by simp [Nat.add_comm], by simpa [byV, Nat.add_comm] using hown1, by rw [Hdd.out, Hst.out], Lib.hid (pow_step _ _ _ hp.out), Lib.hid (by have := hkn.out; omega), hb1⟩
      case measure => simp [intOf]; omega
    · have hk0 : k = 0 := by omega
      have hz : ((k : Int) != 0) = false := by rw [hk0]; rfl
      by_cases hn0 : n = 0
      · have hacc : acc = [] := by
          have := Hdd.out
          rw [hk0, hn0] at this
          simpa [ddL] using this.symm
        have hl : ((acc.length : Int) == 0) = true := by rw [hacc]; rfl
        have he := Lib.hid (show decS (n : Int) = ⟨#[48]⟩ by unfold decS; rw [Lib.itoa_nonneg, hn0, Lib.decDigits_one (by omega)]; rfl)
        clear hn0 hacc
        go_wp2_with fail
        go_ret
        rw [he.out]; exact ⟨rfl, hbl⟩
      · have hacc : Lib.decDigits n = acc := by
          have := Hdd.out
          rw [hk0] at this
          simpa [ddL, hn0] using this
        have hl : ((acc.length : Int) == 0) = false := by
          have := decDigits_ne n
          rw [hacc] at this
          rw [beq_eq_false_iff_ne]; omega
        have hpos : ¬ (n : Int) < 0 := by omega
        have he := Lib.hid (show decS (n : Int) = ⟨acc.toArray⟩ by unfold decS; rw [Lib.itoa_nonneg, hacc])
        have hconv := run_conv_own (P := Tryd.prog) 22 9 5 Tryd.underlying22 Tryd.underlying5 Tryd.underlying9 _ _ _ _ hown
        clear hn0 hacc
        go_wp2_with fail
        go_ret
        rw [he.out]; exact ⟨rfl, hbl⟩
end Go.Proofs.YtepgfcjfdnakbaaDoor
/- NoteSum: the walks of both sides. -/
namespace Go.Proofs.YtepgfcjfdnakbaaDoor
open Go.RowKit

theorem take_snoc (s : ByteArray) (k : Nat) (h : k < s.size) : s.data.toList.take (k + 1) = s.data.toList.take k ++ [s[k]] := by
  rw [List.take_succ_eq_append_getElem (by simpa using h)]; rfl

/-- the checksum's fold -/
def sumF (s0 : Int) (l : List UInt8) : Int := l.foldl (fun s c => (31 * s + (c.toNat : Int)) % 65521) s0
theorem sumF_snoc (s0 : Int) (l : List UInt8) (c : UInt8) : sumF s0 (l ++ [c]) = (31 * sumF s0 l + (c.toNat : Int)) % 65521 := by simp [sumF]
theorem sumF_bd (s0 : Int) (h0 : 0 ≤ s0) (h1 : s0 < 65521) (l : List UInt8) : 0 ≤ sumF s0 l ∧ sumF s0 l < 65521 := by
  unfold sumF
  induction l generalizing s0 with
  | nil => exact ⟨h0, h1⟩
  | cons c l ih => exact ih _ (by simp only []; omega) (by simp only []; omega)

def noteSum (before number : Int) (l : List UInt8) : Int :=
  if inB before 0 65520 && inB number 0 1000000 then sumF ((before + 7 * number) % 65521) l else 0

end Go.Proofs.YtepgfcjfdnakbaaDoor
/- Journals, part 1: what a note and a line is; isNote, l26Note, l26Head, l26Line, next. -/
namespace Go.Proofs.YtepgfcjfdnakbaaDoor
open Go.RowKit Go.Joins

/-- every byte can be printed -/
def okByte (c : UInt8) : Bool := decide (32 ≤ (c.toNat : Int)) && decide ((c.toNat : Int) ≤ 126)
def noteOk (l : List UInt8) : Bool := l.all okByte && decide (l.length ≤ 60)

theorem ba_mem (s : ByteArray) (k : Nat) (h : k < s.size) : s[k] ∈ s.data.toList := List.getElem_mem (l := s.data.toList) (n := k) (by simpa using h)
theorem noteOk_no (s : ByteArray) (c : UInt8) (hc : c ∈ s.data.toList) (h : okByte c = false) : noteOk s.data.toList = false := by
  unfold noteOk
  rw [Bool.and_eq_false_iff]; left
  rw [List.all_eq_false]
  exact ⟨c, hc, by simp [h]⟩
theorem noteOk_end (s : ByteArray) (k : Nat) (hk : s.size ≤ k) (h : (s.data.toList.take k).all okByte = true) : noteOk s.data.toList = decide ((s.size : Int) ≤ 60) := by
  unfold noteOk
  rw [List.take_of_length_le (by simpa using hk)] at h
  rw [h, Bool.true_and, show s.data.toList.length = s.size from rfl, Bool.eq_iff_iff]
  simp; omega
theorem all_snoc (s : ByteArray) (k : Nat) (hlt : k < s.size) (h : (s.data.toList.take k).all okByte = true) (hc : okByte s[k] = true) : (s.data.toList.take (k + 1)).all okByte = true := by
  rw [take_snoc s k hlt, List.all_append, h]; simpa using hc

end Go.Proofs.YtepgfcjfdnakbaaDoor
/- Journals, part 2: lines. -/
namespace Go.Proofs.YtepgfcjfdnakbaaDoor
open Go.RowKit Go.Joins

theorem nDig_le (u : Nat) (h : u ≤ 9223372036854775808) : Lib.nDigits u ≤ 19 := by
  have key : ∀ (k u : Nat), u < 10 ^ (k + 1) → Lib.nDigits u ≤ k + 1 := by
    intro k
    induction k with
    | zero => intro u hu; rw [Lib.nDigits_small (by simpa using hu)]; omega
    | succ k ih =>
      intro u hu
      by_cases h10 : u < 10
      · rw [Lib.nDigits_small h10]; omega
      · rw [Lib.nDigits_big h10]
        have := ih (u / 10) (by rw [Nat.pow_succ] at hu; omega)
        omega
  refine key 18 u ?_
  have : (10 : Nat) ^ (18 + 1) = 10000000000000000000 := by decide
  omega
theorem decS_size (n : Int) (h0 : -9223372036854775808 ≤ n) (h1 : n ≤ 9223372036854775807) : (decS n).size ≤ 20 := by
  show (Lib.itoa n).toArray.size ≤ 20
  unfold Lib.itoa
  split
  · have := nDig_le n.natAbs (by omega)
    simp only [List.size_toArray, List.length_cons, Lib.decDigits_length]; omega
  · have := nDig_le n.toNat (by omega)
    simp only [List.size_toArray, Lib.decDigits_length]; omega

/-- the beginning of a line, and a line -/
def headS (number sum : Int) : ByteArray := decS number ++ ⟨#[32]⟩ ++ decS sum ++ ⟨#[32]⟩
def lineS (number sum : Int) (note : ByteArray) : ByteArray := headS number sum ++ note ++ ⟨#[10]⟩
theorem headS_size (number sum : Int) (h0 : 0 ≤ number) (h1 : number ≤ 1000001) (h2 : 0 ≤ sum) (h3 : sum ≤ 1000001) : (headS number sum).size ≤ 42 := by
  have := decS_size number (by omega) (by omega)
  have := decS_size sum (by omega) (by omega)
  unfold headS
  simp only [ByteArray.size_append]
  show _ + 1 + _ + 1 ≤ _
  omega
theorem lineS_size (number sum : Int) (note : ByteArray) (h0 : 0 ≤ number) (h1 : number ≤ 1000001) (h2 : 0 ≤ sum) (h3 : sum ≤ 1000001) : (lineS number sum note).size ≤ note.size + 43 := by
  have := headS_size number sum h0 h1 h2 h3
  unfold lineS
  simp only [ByteArray.size_append]
  show _ + _ + 1 ≤ _
  omega

theorem noteSum_bd (before number : Int) (l : List UInt8) : 0 ≤ noteSum before number l ∧ noteSum before number l < 65521 := by
  unfold noteSum
  split
  · exact sumF_bd _ (by omega) (by omega) l
  · omega

end Go.Proofs.YtepgfcjfdnakbaaDoor
/- Journals, part 3: cut. -/
namespace Go.Proofs.YtepgfcjfdnakbaaDoor
open Go.RowKit Go.Joins

/-- the first place of a byte in a text; its size if there is none -/
def fnd (c : UInt8) (s : ByteArray) : Nat := s.data.toList.findIdx (· == c)
theorem fnd_le (c : UInt8) (s : ByteArray) : fnd c s ≤ s.size := by
  have : fnd c s ≤ s.data.toList.length := List.findIdx_le_length
  simpa using this
theorem fnd_eq (c : UInt8) (s : ByteArray) (k : Nat) (hk : k ≤ fnd c s) (hlt : k < s.size) (h : s[k] = c) : fnd c s = k := by
  refine Nat.le_antisymm (Nat.le_of_not_lt fun hl => ?_) hk
  have := List.not_of_lt_findIdx (p := (· == c)) (xs := s.data.toList) (i := k) hl
  have h' : s.data.toList[k]'(by simpa using hlt) = c := by rw [← h]; rfl
  simp [h'] at this
theorem fnd_ne (c : UInt8) (s : ByteArray) (k : Nat) (hk : k ≤ fnd c s) (hlt : k < s.size) (h : s[k] ≠ c) : k + 1 ≤ fnd c s := by
  rcases Nat.lt_or_ge k (fnd c s) with hl | hg
  · exact hl
  · exfalso
    have he : fnd c s = k := Nat.le_antisymm hg hk
    have := List.findIdx_getElem (p := (· == c)) (xs := s.data.toList) (w := by show fnd c s < s.data.toList.length; rw [he]; simpa using hlt)
    have hh : s.data.toList[fnd c s]'(by rw [he]; simpa using hlt) = c := by simpa [fnd] using this
    simp only [he] at hh
    exact h (by rw [← hh]; rfl)
theorem ext_all (s : ByteArray) : s.extract 0 s.size = s := by
  apply ByteArray.ext; simp
theorem ext_none (s : ByteArray) : s.extract (s.size + 1) s.size = ⟨#[]⟩ := by
  apply ByteArray.ext; simp
theorem one_byte (s : ByteArray) (k : Nat) (hlt : k < s.size) : s.extract k (k + 1) = ⟨#[s[k]]⟩ := by
  apply ByteArray.ext
  have hl : k < s.data.size := hlt
  apply Array.ext
  · simp; omega
  · intro i h1 h2
    have hi : i = 0 := by simp at h2; omega
    subst hi
    simp; rfl

set_option maxRecDepth 100000 in
set_option maxHeartbeats 1000000 in
theorem cut_any (s : ByteArray) (c : UInt8) (w : World) (hs : s.size ≤ 1073741824) :
    Calls Tryd.prog 93 #[.string s, .string ⟨#[c]⟩] w fun e w' => e = .returned (.tuple #[.string (s.extract 0 (fnd c s)), .string (s.extract (fnd c s + 1) s.size), .bool (decide (fnd c s < s.size))]) ∧ ∃ n, w' = w.drewN n := by
  have h1 : (⟨#[c]⟩ : ByteArray).size = 1 := rfl
  go_enter Tryd.func93, Tryd.ntmps93
  go_wp2_with fail
  go_loop [7] (fun i => ∃ k : Nat, k ≤ fnd c s ∧ i = .int .i64 k) (fun i => s.size - (intOf i).toNat)
  case atStart => exact ⟨0, Nat.zero_le _, rfl⟩
  case round =>
    obtain ⟨k, hk, rfl⟩ := hrel
    have hfl := fnd_le c s
    by_cases hlt : k < s.size
    · have hsl := one_byte s k hlt
      by_cases he : s[k] = c
      · have hf := Lib.hid (fnd_eq c s k hk hlt he)
        rw [he] at hsl
        clear he
        go_wp2_with fail
        go_quiet (fail)
        go_wp2_with fail
        go_ret3
        rw [hf.out]; exact ⟨by simp [hlt], _, rfl⟩
      · have hf := Lib.hid (fnd_ne c s k hk hlt he)
        have hb : ((⟨#[s[k]]⟩ : ByteArray).toList == [c]) = false := by
          rw [beq_eq_false_iff_ne]; exact fun h => he (by rw [ByteArray.toList_eq] at h; simpa using h)
        generalize (⟨#[s[k]]⟩ : ByteArray) = o at *
        go_wp2_with fail
        go_round
        case rel => exact ⟨k + 1, hf.out, by go_num⟩
        case measure => simp [intOf]; omega
    · have hf := Lib.hid (show fnd c s = s.size by omega)
      have he1 := ext_all s
      have he2 := ext_none s
      go_wp2_with fail
      go_ret3
      rw [hf.out]; exact ⟨by rw [he1, he2]; simp, 0, rfl⟩
end Go.Proofs.YtepgfcjfdnakbaaDoor
/- Texts cut at a byte, part 1: plain laws. -/
namespace Go.Proofs.YtepgfcjfdnakbaaDoor

/-- the parts of a text between bytes c -/
def splitB (c : UInt8) (s : ByteArray) : List ByteArray :=
  if h : fnd c s < s.size then s.extract 0 (fnd c s) :: splitB c (s.extract (fnd c s + 1) s.size) else [s]
termination_by s.size
decreasing_by rw [ByteArray.size_extract]; omega
theorem splitB_yes {c : UInt8} {s : ByteArray} (h : fnd c s < s.size) : splitB c s = s.extract 0 (fnd c s) :: splitB c (s.extract (fnd c s + 1) s.size) := by
  rw [splitB, dif_pos h]
theorem splitB_no {c : UInt8} {s : ByteArray} (h : s.size ≤ fnd c s) : splitB c s = [s] := by
  rw [splitB, dif_neg (by omega)]
theorem tail_sizeS (s : ByteArray) (f : Nat) : (s.extract f s.size).size = s.size - f := by rw [ByteArray.size_extract]; omega
theorem tail_cut (s : ByteArray) (f i : Nat) (h : f ≤ i) (hi : i ≤ s.size) : (s.extract f s.size).extract 0 (i - f) = s.extract f i := by
  rw [ByteArray.extract_extract, Nat.add_zero, show f + (i - f) = i by omega, Nat.min_eq_left hi]
theorem tail_tail (s : ByteArray) (f i : Nat) (h : f ≤ i) (hf : f ≤ s.size) : (s.extract f s.size).extract (i - f) (s.size - f) = s.extract i s.size := by
  rw [ByteArray.extract_extract, show f + (i - f) = i by omega, show f + (s.size - f) = s.size by omega, Nat.min_self]
/-- the walk of the reference: a byte c at i, the part begins at f -/
theorem sp_hit {c : UInt8} {s : ByteArray} {f i : Nat} (h : f ≤ i) (hi : i < s.size) (hf : i - f ≤ fnd c (s.extract f s.size)) (hc : s[i] = c) :
    splitB c (s.extract f s.size) = s.extract f i :: splitB c (s.extract (i + 1) s.size) := by
  have hz := tail_sizeS s f
  have he : fnd c (s.extract f s.size) = i - f := by
    refine fnd_eq c _ (i - f) hf (by omega) ?_
    rw [ByteArray.getElem_extract]
    simp only [show f + (i - f) = i by omega]
    exact hc
  rw [splitB_yes (by omega), he, tail_cut s f i h (by omega), hz, show i - f + 1 = i + 1 - f by omega, tail_tail s f (i + 1) (by omega) (by omega)]
theorem sp_miss {c : UInt8} {s : ByteArray} {f i : Nat} (h : f ≤ i) (hi : i < s.size) (hf : i - f ≤ fnd c (s.extract f s.size)) (hc : s[i] ≠ c) :
    i + 1 - f ≤ fnd c (s.extract f s.size) := by
  have hz := tail_sizeS s f
  have he := fnd_ne c (s.extract f s.size) (i - f) hf (by omega) (by
    rw [ByteArray.getElem_extract]
    simp only [show f + (i - f) = i by omega]
    exact hc)
  omega
theorem sp_end {c : UInt8} {s : ByteArray} {f : Nat} (hf : s.size - f ≤ fnd c (s.extract f s.size)) : splitB c (s.extract f s.size) = [s.extract f s.size] :=
  splitB_no (by rw [tail_sizeS]; exact hf)
theorem splitB_ne (c : UInt8) (s : ByteArray) : splitB c s ≠ [] := by
  rw [splitB]; split <;> simp
theorem splitB_len (c : UInt8) : ∀ (n : Nat) (s : ByteArray), s.size ≤ n → (splitB c s).length ≤ s.size + 1 := by
  intro n
  induction n with
  | zero =>
    intro s h
    have := fnd_le c s
    rw [splitB_no (by omega)]; simp
  | succ n ih =>
    intro s h
    rcases Nat.lt_or_ge (fnd c s) s.size with h1 | h1
    · rw [splitB_yes h1, List.length_cons]
      have hz := tail_sizeS s (fnd c s + 1)
      have := ih (s.extract (fnd c s + 1) s.size) (by omega)
      omega
    · rw [splitB_no h1]; simp
/-- the lines of a text that ends with c, none where it does not -/
def linesB (c : UInt8) (s : ByteArray) : Option (List ByteArray) := if (splitB c s).getLast? = some ⟨#[]⟩ then some (splitB c s).dropLast else none
end Go.Proofs.YtepgfcjfdnakbaaDoor
/- Texts cut at a byte, part 2: parts (program) and l01Split (reference). -/
namespace Go.Proofs.YtepgfcjfdnakbaaDoor
open Go.RowKit Go.Joins

theorem infoStr : (Tryd.prog.info? 9).map (fun i => (i.zero, i.size, i.bytes)) = some (some (.string ⟨#[]⟩), 1, 16) := by kernel_rfl
/-- a new list of texts -/
def RetPs (w : World) (l : List ByteArray) (e : Ending) (w' : World) : Prop := ∃ v, e = .returned v ∧ w'.ownsRow w.heap.size 9 1 v l.length (l.map Value.string) ∧ Below w.heap.size w w'
def szV : Value → Nat
  | .string s => s.size
  | _ => 0
theorem str_snoc (l : List ByteArray) (x : ByteArray) : (l ++ [x]).map Value.string = l.map Value.string ++ [.string x] := by simp
theorem own_snoc {w : World} {base : Nat} {e : TypeId} {v : Value} {l : List ByteArray} {x : ByteArray} (h : w.ownsRow base e 1 v (l.length + 1) (l.map Value.string ++ [.string x])) : w.ownsRow base e 1 v (l ++ [x]).length ((l ++ [x]).map Value.string) := by
  rw [str_snoc, List.length_append]; exact h

set_option maxRecDepth 100000 in
set_option maxHeartbeats 1600000 in
theorem parts_any (s : ByteArray) (w : World) (hs : s.size ≤ 1073741824) : Calls Tryd.prog 62 #[.string s] w (RetPs w (splitB 32 s)) := by
  have hlen := splitB_len 32 s.size s (Nat.le_refl _)
  have hb0 := Lib.hid ((Below.refl w.heap.size w).alloc (Nat.le_refl _) (.cells #[] 9))
  have ho0 := Lib.hid (World.ownsRow_made (base := w.heap.size) (e := 9) (size := 1) w #[] 0 (Nat.le_refl _) (by simp [maxLen]) rfl)
  generalize hR : splitB 32 s = R at *
  have HR := Lib.hid hR; clear hR
  go_enter Tryd.func62, Tryd.ntmps62
  go_wp2_with fail
  go_loopw [0, 3] (fun l o wr => ∃ (ln : ByteArray) (out : List ByteArray), l = .string ln ∧ ln.size ≤ s.size ∧ R = out ++ splitB 32 ln ∧ wr.ownsRow w.heap.size 9 1 o out.length (out.map Value.string) ∧ Below w.heap.size w wr) (fun l _ _ => szV l)
  case atStart => exact ⟨s, [], rfl, Nat.le_refl _, by rw [← HR.out]; rfl, ho0.out, hb0.out⟩
  case round =>
    obtain ⟨ln, out, rfl, hz, hsp, hown, hbl⟩ := hrel
    have HC := Lib.hid (fun wx => cut_any ln 32 wx (by omega))
    have hfl := fnd_le 32 ln
    have hll : out.length ≤ s.size + 1 := by
      have h1 := congrArg List.length hsp
      rw [List.length_append] at h1
      omega
    have Hsp := Lib.hid hsp; clear hsp
    have Hyes := Lib.hid (fun h => splitB_yes (c := 32) (s := ln) h)
    have Hno := Lib.hid (fun h => splitB_no (c := 32) (s := ln) h)
    have Hz := Lib.hid (tail_sizeS ln (fnd 32 ln + 1))
    have Hall := Lib.hid (ext_all ln)
    have Hown := Lib.hid hown
    have Hbl := Lib.hid hbl
    clear hown hbl
    by_cases hf : fnd 32 ln < ln.size
    · rw [decide_eq_true hf] at HC
      have hy := Hyes.out hf
      generalize fnd 32 ln = k at *
      generalize ln.extract 0 k = x at *
      generalize ln.extract (k + 1) ln.size = y at *
      have Hy := Lib.hid hy; clear hy
      clear Hyes Hno Hall
      go_wp2_with fail
      refine (HC.out _).mono ?_; rintro e w5 ⟨rfl, n5, hw5⟩
      have hb5 : Below w.heap.size w w5 := by rw [hw5]; exact below_drewN Hbl.out n5
      have ho5 := Hown.out.drewN n5
      rw [← hw5] at ho5
      have Hb5 := Lib.hid hb5
      have Ho5 := Lib.hid ho5
      have hz5 := hb5.size
      clear hw5 hb5 ho5 Hown Hbl HC
      go_wp2_with (at_builtin; refine wpList_apd 72 9 _ 1 16 Tryd.underlying72 infoStr rfl (by omega) _ _ rfl rfl w.heap.size _ out.length _ rfl Ho5.out #[.string x] 1 1 rfl rfl (by simp [Value.oneCell']) (by simp [maxLen]; omega) (by omega) hz5 ?_; intro v7 w7 hown7 hg7; have Hb7 := Lib.hid (below_apd Hb5.out Ho5.out hg7 (Nat.le_refl _) hz5); have Ho7 := Lib.hid (own_snoc hown7); clear hown7 hg7)
      go_roundw
      case rel => exact ⟨y, out ++ [x], rfl, by have := Hz.out; omega, by rw [Hsp.out, Hy.out]; simp, Ho7.out, Hb7.out⟩
      case measure => simp [szV]; have := Hz.out; omega
    · rw [decide_eq_false hf] at HC
      have hy := Hno.out (by omega)
      have hk : fnd 32 ln = ln.size := by omega
      rw [hk, Hall.out] at HC
      generalize ln.extract (ln.size + 1) ln.size = y at *
      have Hy := Lib.hid hy; clear hy
      clear Hyes Hno Hall
      go_wp2_with fail
      refine (HC.out _).mono ?_; rintro e w5 ⟨rfl, n5, hw5⟩
      have hb5 : Below w.heap.size w w5 := by rw [hw5]; exact below_drewN Hbl.out n5
      have ho5 := Hown.out.drewN n5
      rw [← hw5] at ho5
      have Hb5 := Lib.hid hb5
      have Ho5 := Lib.hid ho5
      have hz5 := hb5.size
      clear hw5 hb5 ho5 Hown Hbl HC
      go_wp2_with (at_builtin; refine wpList_apd 72 9 _ 1 16 Tryd.underlying72 infoStr rfl (by omega) _ _ rfl rfl w.heap.size _ out.length _ rfl Ho5.out #[.string ln] 1 1 rfl rfl (by simp [Value.oneCell']) (by simp [maxLen]; omega) (by omega) hz5 ?_; intro v7 w7 hown7 hg7; have Hb7 := Lib.hid (below_apd Hb5.out Ho5.out hg7 (Nat.le_refl _) hz5); have Ho7 := Lib.hid (own_snoc hown7); clear hown7 hg7)
      go_ret
      have hfin : R = out ++ [ln] := by rw [Hsp.out, Hy.out]
      rw [hfin]; exact ⟨_, rfl, Ho7.out, Hb7.out⟩

set_option maxRecDepth 100000 in
set_option maxHeartbeats 1600000 in
theorem l01Split_any (s : ByteArray) (c : UInt8) (w : World) (hs : s.size ≤ 1073741824) : Calls Tryd.prog 71 #[.string s, .int .u8 (c.toNat : Int)] w (RetPs w (splitB c s)) := by
  have hlen := splitB_len c s.size s (Nat.le_refl _)
  have hb0 := Lib.hid ((Below.refl w.heap.size w).alloc (Nat.le_refl _) (.cells #[] 9))
  have ho0 := Lib.hid (World.ownsRow_made (base := w.heap.size) (e := 9) (size := 1) w #[] 0 (Nat.le_refl _) (by simp [maxLen]) rfl)
  generalize hR : splitB c s = R at *
  have HR := Lib.hid hR; clear hR
  have h00 := Lib.hid (ext_all s)
  go_enter Tryd.func71, Tryd.ntmps71
  go_wp2_with fail
  go_loopw [5, 6, 7] (fun o f i wr => ∃ (out : List ByteArray) (a k : Nat), f = .int .i64 a ∧ i = .int .i64 k ∧ a ≤ k ∧ k ≤ s.size ∧ R = out ++ splitB c (s.extract a s.size) ∧ k - a ≤ fnd c (s.extract a s.size) ∧ wr.ownsRow w.heap.size 9 1 o out.length (out.map Value.string) ∧ Below w.heap.size w wr) (fun _ _ i _ => s.size - (intOf i).toNat)
  case atStart => exact ⟨[], 0, 0, rfl, rfl, Nat.le_refl _, Nat.zero_le _, by rw [h00.out, HR.out]; rfl, Nat.zero_le _, ho0.out, hb0.out⟩
  case round =>
    obtain ⟨out, a, k, rfl, rfl, hak, hks, hsp, hfd, hown, hbl⟩ := hrel
    have hll : out.length ≤ s.size + 1 := by
      have h1 := congrArg List.length hsp
      rw [List.length_append] at h1
      omega
    have Hsp := Lib.hid hsp; clear hsp
    have Hown := Lib.hid hown
    have Hbl := Lib.hid hbl
    have hz5 := hbl.size
    clear hown hbl
    by_cases hlt : k < s.size
    · have hlt' : (k : Int) < (s.size : Int) := by omega
      by_cases he : s[k] = c
      · have hit := sp_hit hak hlt hfd he
        have Hit := Lib.hid hit; clear hit
        have hb : ((s[k].toNat : Int) == (c.toNat : Int)) = true := by rw [he]; simp
        clear he hfd
        have hx : (a : Int) ≤ (k : Int) := by omega
        go_wp2_with (at_builtin; refine wpList_apd 72 9 _ 1 16 Tryd.underlying72 infoStr rfl (by omega) _ _ rfl rfl w.heap.size _ out.length _ rfl Hown.out #[.string (s.extract a k)] 1 1 rfl rfl (by simp [Value.oneCell']) (by simp [maxLen]; omega) (by omega) hz5 ?_; intro v7 w7 hown7 hg7; have Hb7 := Lib.hid (below_apd Hbl.out Hown.out hg7 (Nat.le_refl _) hz5); have Ho7 := Lib.hid (own_snoc hown7); clear hown7 hg7)
        go_roundw
        case rel => exact ⟨out ++ [s.extract a k], k + 1, k + 1, by go_num, by go_num, Nat.le_refl _, by omega, by rw [Hsp.out, Hit.out]; simp, by omega, Ho7.out, Hb7.out⟩
        case measure => simp [intOf]; omega
      · have hm := sp_miss hak hlt hfd he
        have hb : ((s[k].toNat : Int) == (c.toNat : Int)) = false := by
          rw [beq_eq_false_iff_ne]
          intro h
          exact he (UInt8.toNat_inj.1 (by omega))
        clear he hfd
        go_wp2_with fail
        go_roundw
        case rel => exact ⟨out, a, k + 1, rfl, by go_num, by omega, by omega, Hsp.out, hm, Hown.out, Hbl.out⟩
        case measure => simp [intOf]; omega
    · have hend := sp_end (c := c) (s := s) (f := a) (by omega)
      have Hend := Lib.hid hend; clear hend hfd
      have hlt' : (s.size : Int) ≤ (k : Int) := by omega
      have hx : (a : Int) ≤ (s.size : Int) := by omega
      go_wp2_with (at_builtin; refine wpList_apd 72 9 _ 1 16 Tryd.underlying72 infoStr rfl (by omega) _ _ rfl rfl w.heap.size _ out.length _ rfl Hown.out #[.string (s.extract a s.size)] 1 1 rfl rfl (by simp [Value.oneCell']) (by simp [maxLen]; omega) (by omega) hz5 ?_; intro v7 w7 hown7 hg7; have Hb7 := Lib.hid (below_apd Hbl.out Hown.out hg7 (Nat.le_refl _) hz5); have Ho7 := Lib.hid (own_snoc hown7); clear hown7 hg7)
      go_ret
      have hfin : R = out ++ [s.extract a s.size] := by rw [Hsp.out, Hend.out]
      rw [hfin]; exact ⟨_, rfl, Ho7.out, Hb7.out⟩
end Go.Proofs.YtepgfcjfdnakbaaDoor
/- l01Dec of every number (the negative ones too). -/
namespace Go.Proofs.YtepgfcjfdnakbaaDoor
open Go.RowKit Go.Joins

theorem decS_neg (n : Nat) (hn : 0 < n) : decS (-(n : Int)) = ⟨#[45]⟩ ++ ⟨(Lib.decDigits n).toArray⟩ := by
  unfold decS Lib.itoa
  rw [if_pos (by omega)]
  refine ba_inj ?_
  rw [ByteArray.toList_eq, ByteArray.toList_eq]
  simp
theorem nDig19 (u : Nat) (h : u ≤ 9223372036854775808) : Lib.nDigits u ≤ 19 := by
  have key : ∀ (k u : Nat), u < 10 ^ (k + 1) → Lib.nDigits u ≤ k + 1 := by
    intro k
    induction k with
    | zero => intro u hu; rw [Lib.nDigits_small (by simpa using hu)]; omega
    | succ k ih =>
      intro u hu
      by_cases h10 : u < 10
      · rw [Lib.nDigits_small h10]; omega
      · rw [Lib.nDigits_big h10]
        have := ih (u / 10) (by rw [Nat.pow_succ] at hu; omega)
        omega
  refine key 18 u ?_
  have : (10 : Nat) ^ (18 + 1) = 10000000000000000000 := by decide
  omega
theorem tdiv_neg10 (k : Nat) : Int.tdiv (-(k : Int)) 10 = -((k / 10 : Nat) : Int) := by
  rw [Int.neg_tdiv, Int.tdiv_eq_ediv_of_nonneg (by omega)]; omega
theorem tmod_neg10 (k : Nat) : Int.tmod (-(k : Int)) 10 = -((k % 10 : Nat) : Int) := by
  rw [Int.neg_tmod, Int.tmod_eq_emod_of_nonneg (by omega)]; omega

set_option maxRecDepth 100000 in
set_option maxHeartbeats 1600000 in
theorem l01Dec_neg (n : Nat) (w : World) (hn0 : 0 < n) (hn : n ≤ 9223372036854775808) :
    Calls Tryd.prog 95 #[.int .i64 (-(n : Int))] w fun e w' => e = .returned (.string (decS (-(n : Int)))) ∧ Below w.heap.size w w' := by
  have Hn := Lib.hid hn; clear hn
  have Hn0 := Lib.hid hn0; clear hn0
  obtain ⟨N, hN⟩ : ∃ N : Int, -(n : Int) = N := ⟨_, rfl⟩
  rw [hN]
  have HN := Lib.hid hN
  have hneg : N < 0 := by have := Hn0.out; omega
  clear hN
  go_enter Tryd.func95, Tryd.ntmps95
  go_wp2_with fail
  go_loopw [3, 4] (fun v i wr => ∃ (k : Nat) (acc : List UInt8) (g c : Nat), i = .int .i64 (-(k : Int)) ∧ v = .slice (some ⟨g, 0, none⟩) acc.length c ∧ wr.ownsRow w.heap.size 5 1 v acc.length (acc.map byV) ∧
      ddL n [] = ddL k acc ∧ Hid (k * 10 ^ acc.length ≤ 9223372036854775808) ∧ Hid (k ≤ n) ∧ Below w.heap.size w wr) (fun _ i _ => (intOf i).natAbs)
  case atStart => exact ⟨n, [], w.heap.size, 0, by rw [HN.out], rfl, World.ownsRow_made w #[] 0 (Nat.le_refl _) (by simp [maxLen]) rfl, rfl, Lib.hid (by have := Hn.out; simp; omega), Lib.hid (Nat.le_refl _), (Below.refl _ _).alloc (Nat.le_refl _) _⟩
  case round =>
    obtain ⟨k, acc, g, c, rfl, rfl, hown, hdd, hp, hkn, hbl⟩ := hrel
    have Hdd := Lib.hid hdd; clear hdd
    by_cases hlt : 0 < k
    · have hL : acc.length ≤ 18 := len19 k acc.length hlt hp.out
      have hd := digB' k
      have Hst := Lib.hid (ddL_step k acc hlt)
      have hk8 : k ≤ 9223372036854775808 := by have := hkn.out; have := Hn.out; omega
      generalize UInt8.ofNat (48 + k % 10) = d at *
      have hnew := World.ownsRow_lit (base := w.heap.size) (e := 5) (size := 1) wr #[.int .u8 (d.toNat : Int)] 1 hbl.size (by simp [maxLen]) rfl
      have hcells := (hown.alloc (.cells #[.int .u8 (d.toNat : Int)] 5)).cells (g := g) rfl
      have hcells' : ∀ j u, (acc.map byV)[j]? = some u → (wr.alloc (.cells #[.int .u8 (d.toNat : Int)] 5)).cell? ⟨g, j, none⟩ = some u := fun j u hu => by
        have := hcells j u hu
        rwa [show (⟨g, 0, none⟩ : Addr).add j = ⟨g, j, none⟩ by unfold Addr.add; split <;> simp_all] at this
      have Hc := Lib.hid hcells'; clear hcells hcells'
      have hq0 := tdiv_neg10 k
      have hr0 := tmod_neg10 k
      obtain ⟨K, hK⟩ : ∃ K : Int, -(k : Int) = K := ⟨_, rfl⟩
      have HK := Lib.hid hK
      rw [hK] at hq0 hr0
      have hne : (K != 0) = true := by rw [bne_iff_ne]; omega
      have hwq : IntKind.i64.wrap (-((k / 10 : Nat) : Int)) = -((k / 10 : Nat) : Int) := IntWalk.i64_in _ (by omega)
      have hwr : IntKind.i64.wrap (-((k % 10 : Nat) : Int)) = -((k % 10 : Nat) : Int) := IntWalk.i64_in _ (by omega)
      obtain ⟨q, hq⟩ : ∃ q : Int, -((k / 10 : Nat) : Int) = q := ⟨_, rfl⟩
      obtain ⟨r, hr⟩ : ∃ r : Int, -((k % 10 : Nat) : Int) = r := ⟨_, rfl⟩
      rw [hq] at hq0 hwq
      rw [hr] at hr0 hwr
      have Hq := Lib.hid hq
      have hr9 : -9 ≤ r ∧ r ≤ 0 := by omega
      obtain ⟨hr9, hr99⟩ := hr9
      rw [hK]
      rcases Int.lt_or_le r 0 with hrn | hrn
      · have hwd : IntKind.i64.wrap (-r) = -r := IntWalk.i64_in _ (by omega)
        have hd' : IntKind.u8.wrap (48 + -r) = (d.toNat : Int) := by rw [← hd, ← hr]; congr 1; omega
        clear hd hK hq hr
        go_wp2_with (at_builtin; refine wpList_app_own 22 5 _ 1 1 Tryd.underlying22 infoB' rfl (by omega) _ _ rfl rfl w.heap.size (.slice (some ⟨wr.heap.size, 0, none⟩) 1 1) 1 _ rfl hnew (by simp) g acc.length c (acc.map byV) rfl Hc.out (by simp) (by simp [byV, Value.oneCell']) (by simp [maxLen]; omega) (by omega) (by simp; have := hbl.size; omega) ?_; intro g' c' w1 hown1 hg1)
        have hb1 : Below w.heap.size w w1 := (hbl.alloc hbl.size _).grown hg1 (by simp; have := hbl.size; omega) (fun x hx => by injection hx with hx; rw [← hx]; exact hbl.size)
        clear Hc hnew
        go_wp2_with fail
        go_roundw
        case rel => exact ⟨k / 10, d :: acc, g', c', by rw [Hq.out], by simp [Nat.add_comm], by simpa [byV, Nat.add_comm] using hown1, by rw [Hdd.out, Hst.out], Lib.hid (pow_step _ _ _ hp.out), Lib.hid (by have := hkn.out; omega), hb1⟩
        case measure => simp [intOf]; have := HK.out; have := Hq.out; omega
      · have hr0' : r = 0 := by omega
        have hd' : IntKind.u8.wrap (48 + r) = (d.toNat : Int) := by rw [← hd]; congr 1; omega
        clear hd hK hq hr hr0'
        go_wp2_with (at_builtin; refine wpList_app_own 22 5 _ 1 1 Tryd.underlying22 infoB' rfl (by omega) _ _ rfl rfl w.heap.size (.slice (some ⟨wr.heap.size, 0, none⟩) 1 1) 1 _ rfl hnew (by simp) g acc.length c (acc.map byV) rfl Hc.out (by simp) (by simp [byV, Value.oneCell']) (by simp [maxLen]; omega) (by omega) (by simp; have := hbl.size; omega) ?_; intro g' c' w1 hown1 hg1)
        have hb1 : Below w.heap.size w w1 := (hbl.alloc hbl.size _).grown hg1 (by simp; have := hbl.size; omega) (fun x hx => by injection hx with hx; rw [← hx]; exact hbl.size)
        clear Hc hnew
        go_wp2_with fail
        go_roundw
        case rel => exact ⟨k / 10, d :: acc, g', c', by rw [Hq.out], by simp [Nat.add_comm], by simpa [byV, Nat.add_comm] using hown1, by rw [Hdd.out, Hst.out], Lib.hid (pow_step _ _ _ hp.out), Lib.hid (by have := hkn.out; omega), hb1⟩
        case measure => simp [intOf]; have := HK.out; have := Hq.out; omega
    · have hk0 : k = 0 := by omega
      subst hk0
      have hacc : Lib.decDigits n = acc := by
        have := Hdd.out
        simpa [ddL, show n ≠ 0 by have := Hn0.out; omega] using this
      have hl : ((acc.length : Int) == 0) = false := by
        have := decDigits_ne n
        rw [hacc] at this
        rw [beq_eq_false_iff_ne]; omega
      have he := Lib.hid (show decS N = ⟨#[45]⟩ ++ ⟨acc.toArray⟩ by rw [← HN.out, decS_neg n Hn0.out, hacc])
      have hconv := run_conv_own (P := Tryd.prog) 22 9 5 Tryd.underlying22 Tryd.underlying5 Tryd.underlying9 _ _ _ _ hown
      have hlen : acc.length ≤ 19 := by
        have h1 := congrArg List.length hacc
        rw [Lib.decDigits_length] at h1
        have := Hn.out
        have h2 : Lib.nDigits n ≤ 19 := nDig19 n (by omega)
        omega
      clear hacc
      go_wp2_with fail
      go_ret
      rw [he.out]; exact ⟨rfl, hbl⟩
theorem l01Dec_any (n : Int) (w : World) (h0 : -9223372036854775808 ≤ n) (h1 : n ≤ 9223372036854775807) :
    Calls Tryd.prog 95 #[.int .i64 n] w fun e w' => e = .returned (.string (decS n)) ∧ Below w.heap.size w w' := by
  rcases Int.lt_or_le n 0 with h | h
  · obtain ⟨m, rfl⟩ : ∃ m : Nat, n = -(m : Int) := ⟨n.natAbs, by omega⟩
    exact l01Dec_neg m w (by omega) (by omega)
  · obtain ⟨m, rfl⟩ : ∃ m : Nat, n = m := ⟨n.toNat, by omega⟩
    exact l01Dec_nonneg m w (by omega)
end Go.Proofs.YtepgfcjfdnakbaaDoor
/- Numbers read from texts: the plain reading; ReadDecimal (program). -/
namespace Go.Proofs.YtepgfcjfdnakbaaDoor
open Go.RowKit Go.Joins

def isDg (c : UInt8) : Bool := decide (48 ≤ c.toNat) && decide (c.toNat ≤ 57)
def numVN (l : List UInt8) : Nat := l.foldl (fun n c => 10 * n + (c.toNat - 48)) 0
theorem numVN_snoc (l : List UInt8) (c : UInt8) : numVN (l ++ [c]) = 10 * numVN l + (c.toNat - 48) := by simp [numVN]
theorem numVN_lt' : ∀ (l : List UInt8), (∀ c ∈ l, isDg c = true) → ∀ n : Nat, l.foldl (fun n c => 10 * n + (c.toNat - 48)) n < (n + 1) * 10 ^ l.length := by
  intro l
  induction l with
  | nil => intro _ n; simp
  | cons c l ih =>
    intro h n
    have h1 := ih (fun x hx => h x (List.mem_cons_of_mem _ hx)) (10 * n + (c.toNat - 48))
    have h2 := h c List.mem_cons_self
    unfold isDg at h2
    simp only [Bool.and_eq_true, decide_eq_true_eq] at h2
    rw [List.foldl_cons, List.length_cons, Nat.pow_succ]
    have h3 : (10 * n + (c.toNat - 48) + 1) * 10 ^ l.length ≤ (10 * (n + 1)) * 10 ^ l.length := Nat.mul_le_mul_right _ (by omega)
    have h4 : (10 * (n + 1)) * 10 ^ l.length = (n + 1) * (10 ^ l.length * 10) := by
      rw [Nat.mul_comm 10 (n + 1), Nat.mul_assoc, Nat.mul_comm 10]
    omega
theorem numVN_lt (l : List UInt8) (h : ∀ c ∈ l, isDg c = true) : numVN l < 10 ^ l.length := by
  have := numVN_lt' l h 0
  unfold numVN
  omega
/-- what stands behind a sign -/
def bodyN (s : ByteArray) : ByteArray := if s.data.toList.head? = some 45 then s.extract 1 s.size else s
def valN (s : ByteArray) : Int := if (bodyN s).size < s.size then -(numVN (bodyN s).data.toList : Int) else numVN (bodyN s).data.toList
def readN (s : ByteArray) : Option Int :=
  if (bodyN s).size = 0 ∨ 18 < (bodyN s).size then none
  else if (bodyN s).data.toList.all isDg = true then (if decS (valN s) = s then some (valN s) else none) else none
theorem isDigitN_any (c : UInt8) (w : World) : Calls Tryd.prog 94 #[.int .u8 (c.toNat : Int)] w fun e w' => e = .returned (.bool (isDg c)) ∧ w = w' := by
  unfold isDg
  by_cases h1 : 48 ≤ c.toNat
  · have h1' : (48 : Int) ≤ (c.toNat : Int) := by omega
    by_cases h2 : c.toNat ≤ 57
    · have h2' : (c.toNat : Int) ≤ 57 := by omega
      go_enter Tryd.func94, Tryd.ntmps94
      go_wp2_with fail
      go_ret
      exact ⟨by simp [h1, h2], rfl⟩
    · have h2' : ¬ (c.toNat : Int) ≤ 57 := by omega
      go_enter Tryd.func94, Tryd.ntmps94
      go_wp2_with fail
      go_ret
      exact ⟨by simp, rfl⟩
  · have h1' : ¬ (48 : Int) ≤ (c.toNat : Int) := by omega
    go_enter Tryd.func94, Tryd.ntmps94
    go_wp2_with fail
    go_ret
    exact ⟨by simp, rfl⟩
theorem l01DigitN_any (c : UInt8) (w : World) : Calls Tryd.prog 97 #[.int .u8 (c.toNat : Int)] w fun e w' => e = .returned (.bool (isDg c)) ∧ w = w' := by
  unfold isDg
  by_cases h1 : 48 ≤ c.toNat
  · have h1' : (48 : Int) ≤ (c.toNat : Int) := by omega
    by_cases h2 : c.toNat ≤ 57
    · have h2' : (c.toNat : Int) ≤ 57 := by omega
      go_enter Tryd.func97, Tryd.ntmps97
      go_wp2_with fail
      go_ret
      exact ⟨by simp [h1, h2], rfl⟩
    · have h2' : ¬ (c.toNat : Int) ≤ 57 := by omega
      go_enter Tryd.func97, Tryd.ntmps97
      go_wp2_with fail
      go_ret
      exact ⟨by simp, rfl⟩
  · have h1' : ¬ (48 : Int) ≤ (c.toNat : Int) := by omega
    go_enter Tryd.func97, Tryd.ntmps97
    go_wp2_with fail
    go_ret
    exact ⟨by simp, rfl⟩
end Go.Proofs.YtepgfcjfdnakbaaDoor
/- Numbers read from texts, part 2: ReadDecimal and l01Number (under way). -/
namespace Go.Proofs.YtepgfcjfdnakbaaDoor
open Go.RowKit Go.Joins

def RetN1 (w : World) (s : ByteArray) (e : Ending) (w' : World) : Prop := e = .returned (.tuple #[.int .i64 ((readN s).getD 0), .bool (readN s).isSome]) ∧ Below w.heap.size w w'
theorem head_sizeN {s : ByteArray} (h : s.data.toList.head? = some 45) : ∃ h0 : 0 < s.size, s[0] = 45 := by
  have h0 : 0 < s.size := by
    rcases Nat.eq_zero_or_pos s.size with h1 | h1
    · have : s.data.toList = [] := List.eq_nil_of_length_eq_zero (by simpa using h1)
      rw [this] at h; simp at h
    · exact h1
  refine ⟨h0, ?_⟩
  have h2 : s.data.toList.head? = some s[0] := by
    rw [List.head?_eq_getElem?, List.getElem?_eq_getElem (by simpa using h0)]
    rfl
  rw [h2] at h
  exact Option.some.inj h
theorem head_not {s : ByteArray} (h : ¬ s.data.toList.head? = some 45) (h0 : 0 < s.size) : s[0] ≠ 45 := by
  intro e
  refine h ?_
  rw [List.head?_eq_getElem?, List.getElem?_eq_getElem (by simpa using h0)]
  rw [← e]; rfl
theorem take_at (s : ByteArray) (k : Nat) (hk : k < s.size) : numVN (s.data.toList.take (k + 1)) = 10 * numVN (s.data.toList.take k) + (s[k].toNat - 48) := by
  rw [List.take_succ_eq_append_getElem (by simpa using hk), numVN_snoc]
  rfl
theorem readN_none {s : ByteArray} (h : (bodyN s).size = 0 ∨ 18 < (bodyN s).size) : readN s = none := by unfold readN; rw [if_pos h]
theorem readN_bad {s : ByteArray} (k : Nat) (hk : k < (bodyN s).size) (h : isDg (bodyN s)[k] = false) : readN s = none := by
  unfold readN
  split
  · rfl
  · rw [if_neg]
    intro ha
    have := List.all_eq_true.1 ha (bodyN s)[k] (List.getElem_mem (l := (bodyN s).data.toList) (n := k) (by simpa using hk))
    rw [h] at this; cases this
theorem readN_val {s : ByteArray} (h1 : ¬((bodyN s).size = 0 ∨ 18 < (bodyN s).size)) (h2 : ∀ c ∈ (bodyN s).data.toList, isDg c = true) : readN s = if decS (valN s) = s then some (valN s) else none := by
  unfold readN
  rw [if_neg h1, if_pos (List.all_eq_true.2 h2)]
theorem valN_bd {s : ByteArray} (h1 : ¬((bodyN s).size = 0 ∨ 18 < (bodyN s).size)) (h2 : ∀ c ∈ (bodyN s).data.toList, isDg c = true) : numVN (bodyN s).data.toList < 1000000000000000000 := by
  have h := numVN_lt _ h2
  have h3 : (10 : Nat) ^ (bodyN s).data.toList.length ≤ 10 ^ 18 := Nat.pow_le_pow_right (by omega) (by
    have : (bodyN s).data.toList.length = (bodyN s).size := by simp
    omega)
  have h4 : (10 : Nat) ^ 18 = 1000000000000000000 := by decide
  omega
end Go.Proofs.YtepgfcjfdnakbaaDoor
/- Numbers read from texts, part 3 (printed by gen_rn3.py): ReadDecimal (program). -/
namespace Go.Proofs.YtepgfcjfdnakbaaDoor
open Go.RowKit Go.Joins

theorem tail_size1 (s : ByteArray) : (s.extract 1 s.size).size = s.size - 1 := by rw [ByteArray.size_extract]; omega
theorem dig_wrap (c : UInt8) (h : isDg c = true) : IntKind.u8.wrap ((c.toNat : Int) - 48) = ((c.toNat - 48 : Nat) : Int) ∧ c.toNat - 48 ≤ 9 := by
  unfold isDg at h
  simp only [Bool.and_eq_true, decide_eq_true_eq] at h
  rw [IntKind.wrap_u8]
  omega

set_option maxRecDepth 100000 in
set_option maxHeartbeats 3200000 in
theorem ReadDecimal_any (s : ByteArray) (w : World) (hs : s.size ≤ 1073741824) (ht : Tab w) : Calls Tryd.prog 63 #[.string s] w (RetN1 w s) := by
  have Hnone := Lib.hid (fun h => readN_none (s := s) h)
  have Hbad := Lib.hid (fun k hk h => readN_bad (s := s) k hk h)
  have Hval := Lib.hid (fun h1 h2 => readN_val (s := s) h1 h2)
  have Hbd := Lib.hid (fun h1 h2 => valN_bd (s := s) h1 h2)
  have HD := Lib.hid (fun n wx h0 h1 hx => Decimal_any n wx h0 h1 hx)
  have Ht := Lib.hid ht
  have hb0 := Below.refl w.heap.size w
  have HV := Lib.hid (show valN s = if (bodyN s).size < s.size then -(numVN (bodyN s).data.toList : Int) else numVN (bodyN s).data.toList from rfl)
  clear ht
  by_cases hh : s.data.toList.head? = some 45
  · obtain ⟨h0, he⟩ := head_sizeN hh
    have HT := Lib.hid (show bodyN s = s.extract 1 s.size by unfold bodyN; rw [if_pos hh])
    have hb : ((s[0].toNat : Int) == 45) = true := by rw [he]; rfl
    have hz0 := tail_size1 s
    have hpos : (0 : Int) < (s.size : Int) := by omega
    obtain ⟨T, hT⟩ : ∃ T, s.extract 1 s.size = T := ⟨_, rfl⟩
    rw [HT.out, hT] at Hbad Hbd Hval Hnone HV
    rw [hT] at hz0
    have hlt : T.size < s.size := by omega
    rw [if_pos hlt] at HV
    have hlt' : (T.size : Int) < (s.size : Int) := by omega
    clear HT he hh hz0
    by_cases t0 : T.size = 0
    · have hn := Hnone.out (.inl t0)
      have t0' : ((T.size : Int) == 0) = true := by rw [t0]; rfl
      go_enter Tryd.func63, Tryd.ntmps63
      go_wp2_with fail
      go_ret2
      unfold RetN1; rw [hn]; exact ⟨rfl, hb0⟩
    · have t0' : ((T.size : Int) == 0) = false := by rw [beq_eq_false_iff_ne]; omega
      by_cases t1 : 18 < T.size
      · have hn := Hnone.out (.inr t1)
        have t1' : (18 : Int) < (T.size : Int) := by omega
        go_enter Tryd.func63, Tryd.ntmps63
        go_wp2_with fail
        go_ret2
        unfold RetN1; rw [hn]; exact ⟨rfl, hb0⟩
      · have t1' : ¬ (18 : Int) < (T.size : Int) := by omega
        have hno : ¬(T.size = 0 ∨ 18 < T.size) := by omega
        have Hval2 := Lib.hid (Hval.out hno)
        have Hbd2 := Lib.hid (Hbd.out hno)
        clear Hval Hbd Hnone
        go_enter Tryd.func63, Tryd.ntmps63
        go_wp2_with fail
        go_loop [5, 28] (fun n i => ∃ k : Nat, k ≤ T.size ∧ i = .int .i64 (k : Int) ∧ n = .int .i64 (numVN (T.data.toList.take k) : Int) ∧ ∀ c ∈ T.data.toList.take k, isDg c = true) (fun _ i => T.size - (intOf i).toNat)
        case atStart => exact ⟨0, Nat.zero_le _, rfl, rfl, by simp⟩
        case round =>
          obtain ⟨k, hk, rfl, rfl, hall⟩ := hrel
          have Hall := Lib.hid hall
          by_cases hlk : k < T.size
          · have hlk' : (k : Int) < (T.size : Int) := by omega
            have HDg := Lib.hid (fun wx => isDigitN_any (T)[k] wx)
            have HK := Lib.hid (take_at T k hlk)
            have hN : numVN (T.data.toList.take k) < 100000000000000000 := by
              have h := numVN_lt _ hall
              have h3 : (10 : Nat) ^ (T.data.toList.take k).length ≤ 10 ^ 17 := Nat.pow_le_pow_right (by omega) (by rw [List.length_take]; omega)
              have h4 : (10 : Nat) ^ 17 = 100000000000000000 := by decide
              omega
            have Hsn := Lib.hid (fun (h : isDg (T)[k] = true) => (show ∀ c ∈ T.data.toList.take (k + 1), isDg c = true from fun c hc => by
              rw [List.take_succ_eq_append_getElem (by simpa using hlk)] at hc
              rcases List.mem_append.1 hc with h1 | h1
              · exact Hall.out c h1
              · rw [List.mem_singleton.1 h1]; exact h))
            generalize numVN (T.data.toList.take k) = N at *
            clear hall
            cases hdg : isDg (T)[k] with
            | false =>
              have hn := Hbad.out k hlk hdg
              rw [hdg] at HDg
              clear hdg
              go_wp2_with fail
              refine (HDg.out _).mono ?_; rintro e w1 ⟨rfl, rfl⟩
              go_wp2_with fail
              go_ret2
              unfold RetN1; rw [hn]; exact ⟨rfl, hb0⟩
            | true =>
              obtain ⟨hw, h9⟩ := dig_wrap (T)[k] hdg
              have Hs2 := Lib.hid (Hsn.out hdg)
              rw [hdg] at HDg
              clear hdg Hsn
              generalize (T)[k].toNat - 48 = d at *
              go_wp2_with fail
              refine (HDg.out _).mono ?_; rintro e w1 ⟨rfl, rfl⟩
              go_wp2_with fail
              go_round
              case rel => exact ⟨k + 1, by omega, by go_num, by rw [HK.out]; go_num, Hs2.out⟩
              case measure => simp [intOf]; omega
          · have hd : T.data.toList.take k = T.data.toList := List.take_of_length_le (by simp; omega)
            rw [hd] at hall
            rw [hd]
            have hM := Hbd2.out hall
            have HR := Lib.hid (Hval2.out hall)
            generalize numVN T.data.toList = M at *
            rw [HV.out] at HR
            have hlk' : (T.size : Int) ≤ (k : Int) := by omega
            have HDx := Lib.hid (HD.out (-(M : Int)) w (by omega) (by omega) Ht.out)
            have hwn : IntKind.i64.wrap (-(M : Int)) = -(M : Int) := IntWalk.i64_in _ (by omega)
            clear hall hd Hall
            by_cases hq : decS (-(M : Int)) = s
            · have HQ := Lib.hid (show readN s = some (-(M : Int)) by rw [HR.out, if_pos hq])
              rw [hq] at HDx
              clear hq HR
              go_wp2_with fail
              refine HDx.out.mono ?_; rintro e w5 ⟨rfl, hb5⟩
              go_wp2_with fail
              go_ret2
              unfold RetN1; rw [HQ.out]; exact ⟨rfl, hb5⟩
            · have HQ := Lib.hid (show readN s = none by rw [HR.out, if_neg hq])
              have hbn : ((decS (-(M : Int))).toList != s.toList) = true := bne_iff_ne.2 fun e => hq (ba_inj e)
              have hbq : ((decS (-(M : Int))).toList == s.toList) = false := beq_eq_false_iff_ne.2 fun e => hq (ba_inj e)
              generalize decS (-(M : Int)) = Y at *
              clear hq HR
              go_wp2_with fail
              refine HDx.out.mono ?_; rintro e w5 ⟨rfl, hb5⟩
              go_wp2_with fail
              go_ret2
              unfold RetN1; rw [HQ.out]; exact ⟨rfl, hb5⟩
  · have HT := Lib.hid (show bodyN s = s by unfold bodyN; rw [if_neg hh])
    rw [HT.out] at Hbad Hbd Hval Hnone HV
    rw [if_neg (Nat.lt_irrefl _)] at HV
    clear HT
    by_cases t0 : s.size = 0
    · have hn := Hnone.out (.inl t0)
      have t0' : ((s.size : Int) == 0) = true := by rw [t0]; rfl
      have hp0 : ¬ (0 : Int) < (s.size : Int) := by omega
      go_enter Tryd.func63, Tryd.ntmps63
      go_wp2_with fail
      go_ret2
      unfold RetN1; rw [hn]; exact ⟨rfl, hb0⟩
    · have t0' : ((s.size : Int) == 0) = false := by rw [beq_eq_false_iff_ne]; omega
      have h0 : 0 < s.size := by omega
      have hpos : (0 : Int) < (s.size : Int) := by omega
      have hb : ((s[0].toNat : Int) == 45) = false := by
        rw [beq_eq_false_iff_ne]; intro h
        exact head_not hh h0 (UInt8.toNat_inj.1 (by have : (45 : UInt8).toNat = 45 := rfl
                                                    omega))
      by_cases t1 : 18 < s.size
      · have hn := Hnone.out (.inr t1)
        have t1' : (18 : Int) < (s.size : Int) := by omega
        go_enter Tryd.func63, Tryd.ntmps63
        go_wp2_with fail
        go_ret2
        unfold RetN1; rw [hn]; exact ⟨rfl, hb0⟩
      · have t1' : ¬ (18 : Int) < (s.size : Int) := by omega
        have hno : ¬(s.size = 0 ∨ 18 < s.size) := by omega
        have Hval2 := Lib.hid (Hval.out hno)
        have Hbd2 := Lib.hid (Hbd.out hno)
        clear Hval Hbd Hnone
        go_enter Tryd.func63, Tryd.ntmps63
        go_wp2_with fail
        go_loop [5, 28] (fun n i => ∃ k : Nat, k ≤ s.size ∧ i = .int .i64 (k : Int) ∧ n = .int .i64 (numVN (s.data.toList.take k) : Int) ∧ ∀ c ∈ s.data.toList.take k, isDg c = true) (fun _ i => s.size - (intOf i).toNat)
        case atStart => exact ⟨0, Nat.zero_le _, rfl, rfl, by simp⟩
        case round =>
          obtain ⟨k, hk, rfl, rfl, hall⟩ := hrel
          have Hall := Lib.hid hall
          by_cases hlk : k < s.size
          · have hlk' : (k : Int) < (s.size : Int) := by omega
            have HDg := Lib.hid (fun wx => isDigitN_any (s)[k] wx)
            have HK := Lib.hid (take_at s k hlk)
            have hN : numVN (s.data.toList.take k) < 100000000000000000 := by
              have h := numVN_lt _ hall
              have h3 : (10 : Nat) ^ (s.data.toList.take k).length ≤ 10 ^ 17 := Nat.pow_le_pow_right (by omega) (by rw [List.length_take]; omega)
              have h4 : (10 : Nat) ^ 17 = 100000000000000000 := by decide
              omega
            have Hsn := Lib.hid (fun (h : isDg (s)[k] = true) => (show ∀ c ∈ s.data.toList.take (k + 1), isDg c = true from fun c hc => by
              rw [List.take_succ_eq_append_getElem (by simpa using hlk)] at hc
              rcases List.mem_append.1 hc with h1 | h1
              · exact Hall.out c h1
              · rw [List.mem_singleton.1 h1]; exact h))
            generalize numVN (s.data.toList.take k) = N at *
            clear hall
            cases hdg : isDg (s)[k] with
            | false =>
              have hn := Hbad.out k hlk hdg
              rw [hdg] at HDg
              clear hdg
              go_wp2_with fail
              refine (HDg.out _).mono ?_; rintro e w1 ⟨rfl, rfl⟩
              go_wp2_with fail
              go_ret2
              unfold RetN1; rw [hn]; exact ⟨rfl, hb0⟩
            | true =>
              obtain ⟨hw, h9⟩ := dig_wrap (s)[k] hdg
              have Hs2 := Lib.hid (Hsn.out hdg)
              rw [hdg] at HDg
              clear hdg Hsn
              generalize (s)[k].toNat - 48 = d at *
              go_wp2_with fail
              refine (HDg.out _).mono ?_; rintro e w1 ⟨rfl, rfl⟩
              go_wp2_with fail
              go_round
              case rel => exact ⟨k + 1, by omega, by go_num, by rw [HK.out]; go_num, Hs2.out⟩
              case measure => simp [intOf]; omega
          · have hd : s.data.toList.take k = s.data.toList := List.take_of_length_le (by simp; omega)
            rw [hd] at hall
            rw [hd]
            have hM := Hbd2.out hall
            have HR := Lib.hid (Hval2.out hall)
            generalize numVN s.data.toList = M at *
            rw [HV.out] at HR
            have hlk' : (s.size : Int) ≤ (k : Int) := by omega
            have HDx := Lib.hid (HD.out ((M : Int)) w (by omega) (by omega) Ht.out)
            have hwn : IntKind.i64.wrap ((M : Int)) = (M : Int) := IntWalk.i64_in _ (by omega)
            clear hall hd Hall
            by_cases hq : decS ((M : Int)) = s
            · have HQ := Lib.hid (show readN s = some ((M : Int)) by rw [HR.out, if_pos hq])
              rw [hq] at HDx
              clear hq HR
              go_wp2_with fail
              refine HDx.out.mono ?_; rintro e w5 ⟨rfl, hb5⟩
              go_wp2_with fail
              go_ret2
              unfold RetN1; rw [HQ.out]; exact ⟨rfl, hb5⟩
            · have HQ := Lib.hid (show readN s = none by rw [HR.out, if_neg hq])
              have hbn : ((decS ((M : Int))).toList != s.toList) = true := bne_iff_ne.2 fun e => hq (ba_inj e)
              have hbq : ((decS ((M : Int))).toList == s.toList) = false := beq_eq_false_iff_ne.2 fun e => hq (ba_inj e)
              generalize decS ((M : Int)) = Y at *
              clear hq HR
              go_wp2_with fail
              refine HDx.out.mono ?_; rintro e w5 ⟨rfl, hb5⟩
              go_wp2_with fail
              go_ret2
              unfold RetN1; rw [HQ.out]; exact ⟨rfl, hb5⟩
end Go.Proofs.YtepgfcjfdnakbaaDoor
/- Numbers read from texts, part 4 (printed by gen_rn4.py): l01Number (reference). -/
namespace Go.Proofs.YtepgfcjfdnakbaaDoor
open Go.RowKit Go.Joins

theorem ne_some {s : ByteArray} (h : 0 < s.size) : s.toList.isEmpty = false := by
  rw [ByteArray.toList_eq, List.isEmpty_eq_false_iff]
  intro e
  have h1 : s.data.toList.length = s.size := by simp
  rw [e] at h1
  simp at h1; omega
theorem ne_none {s : ByteArray} (h : s.size = 0) : s.toList.isEmpty = true := by
  rw [ByteArray.toList_eq, List.isEmpty_iff]
  exact List.eq_nil_of_length_eq_zero (by simpa using h)

set_option maxRecDepth 100000 in
set_option maxHeartbeats 3200000 in
theorem l01Number_any (s : ByteArray) (w : World) (hs : s.size ≤ 1073741824) : Calls Tryd.prog 72 #[.string s] w (RetN1 w s) := by
  have Hnone := Lib.hid (fun h => readN_none (s := s) h)
  have Hbad := Lib.hid (fun k hk h => readN_bad (s := s) k hk h)
  have Hval := Lib.hid (fun h1 h2 => readN_val (s := s) h1 h2)
  have Hbd := Lib.hid (fun h1 h2 => valN_bd (s := s) h1 h2)
  have HD := Lib.hid (fun n wx h0 h1 => l01Dec_any n wx h0 h1)
  have hb0 := Below.refl w.heap.size w
  have HV := Lib.hid (show valN s = if (bodyN s).size < s.size then -(numVN (bodyN s).data.toList : Int) else numVN (bodyN s).data.toList from rfl)
  by_cases hh : s.data.toList.head? = some 45
  · obtain ⟨h0, he⟩ := head_sizeN hh
    have HT := Lib.hid (show bodyN s = s.extract 1 s.size by unfold bodyN; rw [if_pos hh])
    have hb : ((s[0].toNat : Int) == 45) = true := by rw [he]; rfl
    have hz0 := tail_size1 s
    have hpos : (0 : Int) < (s.size : Int) := by omega
    have hne := ne_some h0
    obtain ⟨T, hT⟩ : ∃ T, s.extract 1 s.size = T := ⟨_, rfl⟩
    rw [HT.out, hT] at Hbad Hbd Hval Hnone HV
    rw [hT] at hz0
    have hlt : T.size < s.size := by omega
    rw [if_pos hlt] at HV
    have hlt' : (T.size : Int) < (s.size : Int) := by omega
    clear HT he hh hz0
    by_cases t0 : T.size = 0
    · have hn := Hnone.out (.inl t0)
      have t0' : (T.size : Int) < 1 := by omega
      go_enter Tryd.func72, Tryd.ntmps72
      go_wp2_with fail
      go_ret2
      unfold RetN1; rw [hn]; exact ⟨rfl, hb0⟩
    · have t0' : ¬ (T.size : Int) < 1 := by omega
      by_cases t1 : 18 < T.size
      · have hn := Hnone.out (.inr t1)
        have t1' : (18 : Int) < (T.size : Int) := by omega
        go_enter Tryd.func72, Tryd.ntmps72
        go_wp2_with fail
        go_ret2
        unfold RetN1; rw [hn]; exact ⟨rfl, hb0⟩
      · have t1' : ¬ (18 : Int) < (T.size : Int) := by omega
        have hno : ¬(T.size = 0 ∨ 18 < T.size) := by omega
        have Hval2 := Lib.hid (Hval.out hno)
        have Hbd2 := Lib.hid (Hbd.out hno)
        clear Hval Hbd Hnone
        go_enter Tryd.func72, Tryd.ntmps72
        go_wp2_with fail
        go_loop [5, 6] (fun n i => ∃ k : Nat, k ≤ T.size ∧ i = .int .i64 (k : Int) ∧ n = .int .i64 (numVN (T.data.toList.take k) : Int) ∧ ∀ c ∈ T.data.toList.take k, isDg c = true) (fun _ i => T.size - (intOf i).toNat)
        case atStart => exact ⟨0, Nat.zero_le _, rfl, rfl, by simp⟩
        case round =>
          obtain ⟨k, hk, rfl, rfl, hall⟩ := hrel
          have Hall := Lib.hid hall
          by_cases hlk : k < T.size
          · have hlk' : (k : Int) < (T.size : Int) := by omega
            have HDg := Lib.hid (fun wx => l01DigitN_any (T)[k] wx)
            have HK := Lib.hid (take_at T k hlk)
            have hN : numVN (T.data.toList.take k) < 100000000000000000 := by
              have h := numVN_lt _ hall
              have h3 : (10 : Nat) ^ (T.data.toList.take k).length ≤ 10 ^ 17 := Nat.pow_le_pow_right (by omega) (by rw [List.length_take]; omega)
              have h4 : (10 : Nat) ^ 17 = 100000000000000000 := by decide
              omega
            have Hsn := Lib.hid (fun (h : isDg (T)[k] = true) => (show ∀ c ∈ T.data.toList.take (k + 1), isDg c = true from fun c hc => by
              rw [List.take_succ_eq_append_getElem (by simpa using hlk)] at hc
              rcases List.mem_append.1 hc with h1 | h1
              · exact Hall.out c h1
              · rw [List.mem_singleton.1 h1]; exact h))
            generalize numVN (T.data.toList.take k) = N at *
            clear hall
            cases hdg : isDg (T)[k] with
            | false =>
              have hn := Hbad.out k hlk hdg
              rw [hdg] at HDg
              clear hdg
              go_wp2_with fail
              refine (HDg.out _).mono ?_; rintro e w1 ⟨rfl, rfl⟩
              go_wp2_with fail
              go_ret2
              unfold RetN1; rw [hn]; exact ⟨rfl, hb0⟩
            | true =>
              obtain ⟨hw, h9⟩ := dig_wrap (T)[k] hdg
              have Hs2 := Lib.hid (Hsn.out hdg)
              rw [hdg] at HDg
              clear hdg Hsn
              generalize (T)[k].toNat - 48 = d at *
              go_wp2_with fail
              refine (HDg.out _).mono ?_; rintro e w1 ⟨rfl, rfl⟩
              go_wp2_with fail
              go_round
              case rel => exact ⟨k + 1, by omega, by go_num, by rw [HK.out]; go_num, Hs2.out⟩
              case measure => simp [intOf]; omega
          · have hd : T.data.toList.take k = T.data.toList := List.take_of_length_le (by simp; omega)
            rw [hd] at hall
            rw [hd]
            have hM := Hbd2.out hall
            have HR := Lib.hid (Hval2.out hall)
            generalize numVN T.data.toList = M at *
            rw [HV.out] at HR
            have hlk' : (T.size : Int) ≤ (k : Int) := by omega
            have HDx := Lib.hid (HD.out (-(M : Int)) w (by omega) (by omega))
            have hwn : IntKind.i64.wrap (-(M : Int)) = -(M : Int) := IntWalk.i64_in _ (by omega)
            clear hall hd Hall
            by_cases hq : decS (-(M : Int)) = s
            · have HQ := Lib.hid (show readN s = some (-(M : Int)) by rw [HR.out, if_pos hq])
              rw [hq] at HDx
              clear hq HR
              go_wp2_with fail
              refine HDx.out.mono ?_; rintro e w5 ⟨rfl, hb5⟩
              go_wp2_with fail
              go_ret2
              unfold RetN1; rw [HQ.out]; exact ⟨rfl, hb5⟩
            · have HQ := Lib.hid (show readN s = none by rw [HR.out, if_neg hq])
              have hbn : ((decS (-(M : Int))).toList != s.toList) = true := bne_iff_ne.2 fun e => hq (ba_inj e)
              have hbq : ((decS (-(M : Int))).toList == s.toList) = false := beq_eq_false_iff_ne.2 fun e => hq (ba_inj e)
              generalize decS (-(M : Int)) = Y at *
              clear hq HR
              go_wp2_with fail
              refine HDx.out.mono ?_; rintro e w5 ⟨rfl, hb5⟩
              go_wp2_with fail
              go_ret2
              unfold RetN1; rw [HQ.out]; exact ⟨rfl, hb5⟩
  · have HT := Lib.hid (show bodyN s = s by unfold bodyN; rw [if_neg hh])
    rw [HT.out] at Hbad Hbd Hval Hnone HV
    rw [if_neg (Nat.lt_irrefl _)] at HV
    clear HT
    by_cases t0 : s.size = 0
    · have hn := Hnone.out (.inl t0)
      have t0' : (s.size : Int) < 1 := by omega
      have hne := ne_none t0
      go_enter Tryd.func72, Tryd.ntmps72
      go_wp2_with fail
      go_ret2
      unfold RetN1; rw [hn]; exact ⟨rfl, hb0⟩
    · have t0' : ¬ (s.size : Int) < 1 := by omega
      have h0 : 0 < s.size := by omega
      have hpos : (0 : Int) < (s.size : Int) := by omega
      have hne := ne_some h0
      have hb : ((s[0].toNat : Int) == 45) = false := by
        rw [beq_eq_false_iff_ne]; intro h
        exact head_not hh h0 (UInt8.toNat_inj.1 (by have : (45 : UInt8).toNat = 45 := rfl
                                                    omega))
      by_cases t1 : 18 < s.size
      · have hn := Hnone.out (.inr t1)
        have t1' : (18 : Int) < (s.size : Int) := by omega
        go_enter Tryd.func72, Tryd.ntmps72
        go_wp2_with fail
        go_ret2
        unfold RetN1; rw [hn]; exact ⟨rfl, hb0⟩
      · have t1' : ¬ (18 : Int) < (s.size : Int) := by omega
        have hno : ¬(s.size = 0 ∨ 18 < s.size) := by omega
        have Hval2 := Lib.hid (Hval.out hno)
        have Hbd2 := Lib.hid (Hbd.out hno)
        clear Hval Hbd Hnone
        go_enter Tryd.func72, Tryd.ntmps72
        go_wp2_with fail
        go_loop [5, 6] (fun n i => ∃ k : Nat, k ≤ s.size ∧ i = .int .i64 (k : Int) ∧ n = .int .i64 (numVN (s.data.toList.take k) : Int) ∧ ∀ c ∈ s.data.toList.take k, isDg c = true) (fun _ i => s.size - (intOf i).toNat)
        case atStart => exact ⟨0, Nat.zero_le _, rfl, rfl, by simp⟩
        case round =>
          obtain ⟨k, hk, rfl, rfl, hall⟩ := hrel
          have Hall := Lib.hid hall
          by_cases hlk : k < s.size
          · have hlk' : (k : Int) < (s.size : Int) := by omega
            have HDg := Lib.hid (fun wx => l01DigitN_any (s)[k] wx)
            have HK := Lib.hid (take_at s k hlk)
            have hN : numVN (s.data.toList.take k) < 100000000000000000 := by
              have h := numVN_lt _ hall
              have h3 : (10 : Nat) ^ (s.data.toList.take k).length ≤ 10 ^ 17 := Nat.pow_le_pow_right (by omega) (by rw [List.length_take]; omega)
              have h4 : (10 : Nat) ^ 17 = 100000000000000000 := by decide
              omega
            have Hsn := Lib.hid (fun (h : isDg (s)[k] = true) => (show ∀ c ∈ s.data.toList.take (k + 1), isDg c = true from fun c hc => by
              rw [List.take_succ_eq_append_getElem (by simpa using hlk)] at hc
              rcases List.mem_append.1 hc with h1 | h1
              · exact Hall.out c h1
              · rw [List.mem_singleton.1 h1]; exact h))
            generalize numVN (s.data.toList.take k) = N at *
            clear hall
            cases hdg : isDg (s)[k] with
            | false =>
              have hn := Hbad.out k hlk hdg
              rw [hdg] at HDg
              clear hdg
              go_wp2_with fail
              refine (HDg.out _).mono ?_; rintro e w1 ⟨rfl, rfl⟩
              go_wp2_with fail
              go_ret2
              unfold RetN1; rw [hn]; exact ⟨rfl, hb0⟩
            | true =>
              obtain ⟨hw, h9⟩ := dig_wrap (s)[k] hdg
              have Hs2 := Lib.hid (Hsn.out hdg)
              rw [hdg] at HDg
              clear hdg Hsn
              generalize (s)[k].toNat - 48 = d at *
              go_wp2_with fail
              refine (HDg.out _).mono ?_; rintro e w1 ⟨rfl, rfl⟩
              go_wp2_with fail
              go_round
              case rel => exact ⟨k + 1, by omega, by go_num, by rw [HK.out]; go_num, Hs2.out⟩
              case measure => simp [intOf]; omega
          · have hd : s.data.toList.take k = s.data.toList := List.take_of_length_le (by simp; omega)
            rw [hd] at hall
            rw [hd]
            have hM := Hbd2.out hall
            have HR := Lib.hid (Hval2.out hall)
            generalize numVN s.data.toList = M at *
            rw [HV.out] at HR
            have hlk' : (s.size : Int) ≤ (k : Int) := by omega
            have HDx := Lib.hid (HD.out ((M : Int)) w (by omega) (by omega))
            have hwn : IntKind.i64.wrap ((M : Int)) = (M : Int) := IntWalk.i64_in _ (by omega)
            clear hall hd Hall
            by_cases hq : decS ((M : Int)) = s
            · have HQ := Lib.hid (show readN s = some ((M : Int)) by rw [HR.out, if_pos hq])
              rw [hq] at HDx
              clear hq HR
              go_wp2_with fail
              refine HDx.out.mono ?_; rintro e w5 ⟨rfl, hb5⟩
              go_wp2_with fail
              go_ret2
              unfold RetN1; rw [HQ.out]; exact ⟨rfl, hb5⟩
            · have HQ := Lib.hid (show readN s = none by rw [HR.out, if_neg hq])
              have hbn : ((decS ((M : Int))).toList != s.toList) = true := bne_iff_ne.2 fun e => hq (ba_inj e)
              have hbq : ((decS ((M : Int))).toList == s.toList) = false := beq_eq_false_iff_ne.2 fun e => hq (ba_inj e)
              generalize decS ((M : Int)) = Y at *
              clear hq HR
              go_wp2_with fail
              refine HDx.out.mono ?_; rintro e w5 ⟨rfl, hb5⟩
              go_wp2_with fail
              go_ret2
              unfold RetN1; rw [HQ.out]; exact ⟨rfl, hb5⟩
end Go.Proofs.YtepgfcjfdnakbaaDoor
/- Texts, read: cut at two bytes; the lines of a text (textLines). -/
namespace Go.Proofs.YtepgfcjfdnakbaaDoor
open Go.RowKit Go.Joins

def hit2 (c : UInt8) (s : ByteArray) (i : Nat) : Bool := (s.data[i]? == some c) && (s.data[i + 1]? == some c)
/-- the first place of two bytes c; the text's size if there is none -/
def fnd2 (c : UInt8) (s : ByteArray) : Nat := (List.range s.size).findIdx (hit2 c s)
theorem fnd2_le (c : UInt8) (s : ByteArray) : fnd2 c s ≤ s.size := by
  have : fnd2 c s ≤ (List.range s.size).length := List.findIdx_le_length
  simpa using this
theorem hit2_iff (c : UInt8) (s : ByteArray) (i : Nat) : hit2 c s i = true ↔ ∃ h : i + 1 < s.size, s[i] = c ∧ s[i + 1] = c := by
  unfold hit2
  simp only [Bool.and_eq_true, beq_iff_eq]
  constructor
  · rintro ⟨h1, h2⟩
    obtain ⟨q1, e1⟩ := Array.getElem?_eq_some_iff.1 h1
    obtain ⟨q2, e2⟩ := Array.getElem?_eq_some_iff.1 h2
    exact ⟨q2, e1, e2⟩
  · rintro ⟨h, e1, e2⟩
    exact ⟨Array.getElem?_eq_some_iff.2 ⟨Nat.lt_of_succ_lt h, e1⟩, Array.getElem?_eq_some_iff.2 ⟨h, e2⟩⟩
theorem fnd2_hit {c : UInt8} {s : ByteArray} (h : fnd2 c s < s.size) : hit2 c s (fnd2 c s) = true := by
  have := List.findIdx_getElem (p := hit2 c s) (xs := List.range s.size) (w := by show fnd2 c s < _; simpa using h)
  simpa [fnd2] using this
theorem fnd2_no {c : UInt8} {s : ByteArray} {i : Nat} (h : i < fnd2 c s) : hit2 c s i = false := by
  have h0 := fnd2_le c s
  have := List.not_of_lt_findIdx (p := hit2 c s) (xs := List.range s.size) (i := i) h
  simpa using this
theorem fnd2_eq {c : UInt8} {s : ByteArray} {k : Nat} (hk : k ≤ fnd2 c s) (h : hit2 c s k = true) : fnd2 c s = k := by
  refine Nat.le_antisymm (Nat.le_of_not_lt fun hl => ?_) hk
  rw [fnd2_no hl] at h; cases h
theorem fnd2_ne {c : UInt8} {s : ByteArray} {k : Nat} (hk : k ≤ fnd2 c s) (hlt : k < s.size) (h : hit2 c s k = false) : k + 1 ≤ fnd2 c s := by
  rcases Nat.lt_or_ge k (fnd2 c s) with hl | hg
  · exact hl
  · exfalso
    have he : fnd2 c s = k := Nat.le_antisymm hg hk
    have := fnd2_hit (c := c) (s := s) (by omega)
    rw [he, h] at this; cases this
theorem fnd2_end {c : UInt8} {s : ByteArray} {k : Nat} (hk : k ≤ fnd2 c s) (h : s.size < k + 2) : fnd2 c s = s.size := by
  have h0 := fnd2_le c s
  rcases Nat.lt_or_ge (fnd2 c s) s.size with hl | hg
  · obtain ⟨q, _⟩ := (hit2_iff _ _ _).1 (fnd2_hit hl)
    omega
  · omega
theorem two_bytes (s : ByteArray) (k : Nat) (hlt : k + 1 < s.size) : s.extract k (k + 2) = ⟨#[s[k], s[k + 1]]⟩ := by
  have h1 := one_byte s k (by omega)
  have h2 := one_byte s (k + 1) hlt
  have : s.extract k (k + 2) = s.extract k (k + 1) ++ s.extract (k + 1) (k + 2) := by
    apply ByteArray.ext
    simp only [ByteArray.data_append, ByteArray.data_extract]
    rw [Array.extract_append_extract, show min k (k + 1) = k by omega, show max (k + 1) (k + 2) = k + 2 by omega]
  rw [this, h1, h2]; rfl
def RetC2 (w : World) (c : UInt8) (s : ByteArray) (e : Ending) (w' : World) : Prop :=
  (if fnd2 c s < s.size then e = .returned (.tuple #[.string (s.extract 0 (fnd2 c s)), .string (s.extract (fnd2 c s + 2) s.size), .bool true]) else e = .returned (.tuple #[.string s, .string ⟨#[]⟩, .bool false])) ∧ ∃ n, w' = w.drewN n
theorem RetC2.yes {w w' : World} {c : UInt8} {s : ByteArray} {k : Nat} (h : fnd2 c s = k) (hk : k < s.size) (hw : ∃ n, w' = w.drewN n) : RetC2 w c s (.returned (.tuple #[.string (s.extract 0 k), .string (s.extract (k + 2) s.size), .bool true])) w' := by
  subst h; exact ⟨by rw [if_pos hk], hw⟩
theorem RetC2.no {w w' : World} {c : UInt8} {s : ByteArray} (h : fnd2 c s = s.size) (hw : ∃ n, w' = w.drewN n) : RetC2 w c s (.returned (.tuple #[.string s, .string ⟨#[]⟩, .bool false])) w' :=
  ⟨by rw [if_neg (by omega)], hw⟩

set_option maxRecDepth 100000 in
set_option maxHeartbeats 1000000 in
theorem cut2_any (s : ByteArray) (c : UInt8) (w : World) (hs : s.size ≤ 1073741824) : Calls Tryd.prog 93 #[.string s, .string ⟨#[c, c]⟩] w (RetC2 w c s) := by
  have h1 : (⟨#[c, c]⟩ : ByteArray).size = 2 := rfl
  go_enter Tryd.func93, Tryd.ntmps93
  go_wp2_with fail
  go_loop [7] (fun i => ∃ k : Nat, k ≤ fnd2 c s ∧ i = .int .i64 k) (fun i => s.size - (intOf i).toNat)
  case atStart => exact ⟨0, Nat.zero_le _, rfl⟩
  case round =>
    obtain ⟨k, hk, rfl⟩ := hrel
    have hfl := fnd2_le c s
    by_cases hlt : k + 1 < s.size
    · have hsl := two_bytes s k hlt
      have hle : (k : Int) + 2 ≤ (s.size : Int) := by omega
      cases he : hit2 c s k with
      | true =>
        have hf := Lib.hid (fnd2_eq hk he)
        obtain ⟨_, e1, e2⟩ := (hit2_iff _ _ _).1 he
        rw [e1, e2] at hsl
        clear he e1 e2
        go_wp2_with fail
        go_quiet (fail)
        go_wp2_with fail
        go_ret3
        exact RetC2.yes hf.out (by omega) ⟨_, rfl⟩
      | false =>
        have hf := Lib.hid (fnd2_ne hk (by omega) he)
        have hb : ((⟨#[s[k], s[k + 1]]⟩ : ByteArray).toList == [c, c]) = false := by
          rw [beq_eq_false_iff_ne]
          intro h
          rw [ByteArray.toList_eq] at h
          simp only [List.cons.injEq, and_true] at h
          rw [(hit2_iff c s k).2 ⟨hlt, h.1, h.2⟩] at he
          cases he
        generalize (⟨#[s[k], s[k + 1]]⟩ : ByteArray) = o at *
        clear he
        go_wp2_with fail
        go_round
        case rel => exact ⟨k + 1, hf.out, by go_num⟩
        case measure => simp [intOf]; omega
    · have hf := Lib.hid (fnd2_end hk (by omega))
      have hle : ¬ (k : Int) + 2 ≤ (s.size : Int) := by omega
      go_wp2_with fail
      go_ret3
      exact RetC2.no hf.out ⟨0, rfl⟩

theorem linesB_nil (c : UInt8) (s : ByteArray) (h : s.size = 0) : linesB c s = some [] := by
  have hs : s = ⟨#[]⟩ := by
    obtain ⟨⟨l⟩⟩ := s
    have : l = [] := List.eq_nil_of_length_eq_zero h
    rw [this]
  have := fnd_le c s
  unfold linesB
  rw [splitB_no (by omega), hs]
  rfl
theorem linesB_yes {c : UInt8} {s : ByteArray} (h : fnd c s < s.size) : linesB c s = (linesB c (s.extract (fnd c s + 1) s.size)).map (s.extract 0 (fnd c s) :: ·) := by
  have hne := splitB_ne c (s.extract (fnd c s + 1) s.size)
  unfold linesB
  rw [splitB_yes h]
  generalize splitB c (s.extract (fnd c s + 1) s.size) = L at *
  obtain ⟨x, l, rfl⟩ := List.exists_cons_of_ne_nil hne
  rw [List.dropLast_cons_of_ne_nil (by simp), List.getLast?_cons_cons]
  split <;> rfl
theorem linesB_no {c : UInt8} {s : ByteArray} (h : s.size ≤ fnd c s) (h0 : s.size ≠ 0) : linesB c s = none := by
  unfold linesB
  rw [splitB_no h, if_neg]
  intro e
  have h1 : s = ⟨#[]⟩ := Option.some.inj e
  rw [h1] at h0
  exact h0 rfl
end Go.Proofs.YtepgfcjfdnakbaaDoor
/- Texts, read, part 2: textLines (program). -/
namespace Go.Proofs.YtepgfcjfdnakbaaDoor
open Go.RowKit Go.Joins

theorem linesB_le {c : UInt8} {s : ByteArray} {l : List ByteArray} (h : linesB c s = some l) : l.length ≤ s.size := by
  have := splitB_len c s.size s (Nat.le_refl _)
  unfold linesB at h
  split at h
  · rw [← Option.some.inj h, List.length_dropLast]; omega
  · cases h
theorem splitB_mem (c : UInt8) : ∀ (n : Nat) (s : ByteArray), s.size ≤ n → ∀ z ∈ splitB c s, z.size ≤ s.size := by
  intro n
  induction n with
  | zero =>
    intro s h z hz
    have := fnd_le c s
    rw [splitB_no (by omega)] at hz
    rw [List.mem_singleton.1 hz]; exact Nat.le_refl _
  | succ n ih =>
    intro s h z hz
    rcases Nat.lt_or_ge (fnd c s) s.size with h1 | h1
    · rw [splitB_yes h1] at hz
      rcases List.mem_cons.1 hz with rfl | hz
      · rw [ByteArray.size_extract]; omega
      · have hs := tail_sizeS s (fnd c s + 1)
        have := ih _ (by omega) z hz
        omega
    · rw [splitB_no h1] at hz
      rw [List.mem_singleton.1 hz]; exact Nat.le_refl _
theorem linesB_mem {c : UInt8} {s : ByteArray} {l : List ByteArray} (h : linesB c s = some l) : ∀ z ∈ l, z.size ≤ s.size := by
  unfold linesB at h
  split at h
  · intro z hz
    rw [← Option.some.inj h] at hz
    exact splitB_mem c s.size s (Nat.le_refl _) z ((List.dropLast_subset _) hz)
  · cases h
def RetTl (w : World) (r : Option (List ByteArray)) (e : Ending) (w' : World) : Prop :=
  ∃ v, e = .returned (.tuple #[v, .bool r.isSome]) ∧ (∀ l, r = some l → w'.ownsRow w.heap.size 9 1 v l.length (l.map Value.string)) ∧ Below w.heap.size w w'
theorem RetTl.none {w w' : World} {r : Option (List ByteArray)} {v : Value} (h : r = none) (hb : Below w.heap.size w w') : RetTl w r (.returned (.tuple #[v, .bool false])) w' := by
  subst h; exact ⟨v, rfl, (fun l h => by cases h), hb⟩
theorem RetTl.some {w w' : World} {r : Option (List ByteArray)} {v : Value} {l : List ByteArray} (h : r = some l) (ho : w'.ownsRow w.heap.size 9 1 v l.length (l.map Value.string)) (hb : Below w.heap.size w w') : RetTl w r (.returned (.tuple #[v, .bool true])) w' := by
  subst h; exact ⟨v, rfl, (fun l' h' => by rw [← Option.some.inj h']; exact ho), hb⟩

set_option maxRecDepth 100000 in
set_option maxHeartbeats 1600000 in
theorem textLines_any (s : ByteArray) (w : World) (hs : s.size ≤ 1073741824) : Calls Tryd.prog 61 #[.string s] w (RetTl w (linesB 10 s)) := by
  have hle := Lib.hid (fun l h => linesB_le (c := 10) (s := s) (l := l) h)
  have hb0 := Lib.hid ((Below.refl w.heap.size w).alloc (Nat.le_refl _) (.cells #[] 9))
  have ho0 := Lib.hid (World.ownsRow_made (base := w.heap.size) (e := 9) (size := 1) w #[] 0 (Nat.le_refl _) (by simp [maxLen]) rfl)
  have Hmap := Lib.hid (show linesB 10 s = (linesB 10 s).map (([] : List ByteArray) ++ ·) by cases linesB 10 s <;> rfl)
  go_enter Tryd.func61, Tryd.ntmps61
  go_wp2_with fail
  go_loopw [0, 4] (fun l o wr => ∃ (ln : ByteArray) (out : List ByteArray), l = .string ln ∧ ln.size ≤ s.size ∧ out.length + ln.size ≤ s.size ∧ linesB 10 s = (linesB 10 ln).map (out ++ ·) ∧ wr.ownsRow w.heap.size 9 1 o out.length (out.map Value.string) ∧ Below w.heap.size w wr) (fun l _ _ => szV l)
  case atStart => exact ⟨s, [], rfl, Nat.le_refl _, by simp, Hmap.out, ho0.out, hb0.out⟩
  case round =>
    obtain ⟨ln, out, rfl, hz, hol, hsp, hown, hbl⟩ := hrel
    have HC := Lib.hid (fun wx => cut_any ln 10 wx (by omega))
    have hfl := fnd_le 10 ln
    have Hsp := Lib.hid hsp; clear hsp Hmap
    have Hown := Lib.hid hown
    have Hbl := Lib.hid hbl
    clear hown
    by_cases h0 : ln.size = 0
    · have hn := ne_none h0
      have hfin := Lib.hid (show linesB 10 s = some out by rw [Hsp.out, linesB_nil 10 ln h0]; simp)
      clear HC
      go_wp2_with fail
      go_ret2
      exact RetTl.some hfin.out Hown.out hbl
    · have hn := ne_some (s := ln) (by omega)
      by_cases hf : fnd 10 ln < ln.size
      · rw [decide_eq_true hf] at HC
        have hy := linesB_yes (c := 10) (s := ln) hf
        have Hz := Lib.hid (tail_sizeS ln (fnd 10 ln + 1))
        generalize fnd 10 ln = k at *
        generalize ln.extract 0 k = x at *
        generalize ln.extract (k + 1) ln.size = y at *
        have Hy := Lib.hid hy; clear hy
        go_wp2_with fail
        refine (HC.out _).mono ?_; rintro e w5 ⟨rfl, n5, hw5⟩
        have hb5 : Below w.heap.size w w5 := by rw [hw5]; exact below_drewN Hbl.out n5
        have ho5 := Hown.out.drewN n5
        rw [← hw5] at ho5
        have Hb5 := Lib.hid hb5
        have Ho5 := Lib.hid ho5
        have hz5 := hb5.size
        clear hw5 hb5 ho5 Hown Hbl HC hbl
        go_wp2_with (at_builtin; refine wpList_apd 72 9 _ 1 16 Tryd.underlying72 infoStr rfl (by omega) _ _ rfl rfl w.heap.size _ out.length _ rfl Ho5.out #[.string x] 1 1 rfl rfl (by simp [Value.oneCell']) (by simp [maxLen]; omega) (by omega) hz5 ?_; intro v7 w7 hown7 hg7; have Hb7 := Lib.hid (below_apd Hb5.out Ho5.out hg7 (Nat.le_refl _) hz5); have Ho7 := Lib.hid (own_snoc hown7); clear hown7 hg7)
        go_roundw
        case rel => exact ⟨y, out ++ [x], rfl, by have := Hz.out; omega, by rw [List.length_append]; simp; have := Hz.out; omega, by rw [Hsp.out, Hy.out, Option.map_map]; congr 1; funext l; simp, Ho7.out, Hb7.out⟩
        case measure => simp [szV]; have := Hz.out; omega
      · rw [decide_eq_false hf] at HC
        have hfin := Lib.hid (show linesB 10 s = none by rw [Hsp.out, linesB_no (by omega) h0]; rfl)
        have hb5 := Lib.hid (fun n => below_drewN Hbl.out n)
        go_wp2_with fail
        refine (HC.out _).mono ?_; rintro e w5 ⟨rfl, n5, rfl⟩
        go_wp2_with fail
        go_ret2
        exact RetTl.none hfin.out (hb5.out _)
end Go.Proofs.YtepgfcjfdnakbaaDoor
/- Numbers read from texts, part 5: what a text that is a number cannot hold. -/
namespace Go.Proofs.YtepgfcjfdnakbaaDoor

theorem readN_dec {r : ByteArray} {a : Int} (h : readN r = some a) : decS a = r := by
  unfold readN at h
  split at h
  · cases h
  · split at h
    · split at h
      · rename_i he
        rw [← Option.some.inj h]; exact he
      · cases h
    · cases h
theorem readN_none_of {r : ByteArray} (k : Nat) (hk : k < r.size) (h1 : isDg r[k] = false) (h2 : r[k] ≠ 45) : readN r = none := by
  by_cases hh : r.data.toList.head? = some 45
  · obtain ⟨h0, he⟩ := head_sizeN hh
    have hT : bodyN r = r.extract 1 r.size := by unfold bodyN; rw [if_pos hh]
    have hk0 : k ≠ 0 := by
      intro e; subst e; exact h2 he
    have hz : (bodyN r).size = r.size - 1 := by rw [hT, ByteArray.size_extract]; omega
    refine readN_bad (k - 1) (by omega) ?_
    have : (bodyN r)[k - 1]'(by omega) = r[k] := by
      simp only [hT]
      rw [ByteArray.getElem_extract]
      simp only [show 1 + (k - 1) = k by omega]
    rw [this]; exact h1
  · have hT : bodyN r = r := by unfold bodyN; rw [if_neg hh]
    refine readN_bad k (by rw [hT]; exact hk) ?_
    simp only [hT]; exact h1
theorem fnd_at (c : UInt8) (s : ByteArray) (h : fnd c s < s.size) : s[fnd c s] = c := by
  have := List.findIdx_getElem (p := (· == c)) (xs := s.data.toList) (w := by show fnd c s < s.data.toList.length; simpa using h)
  have hh : s.data.toList[fnd c s]'(by simpa using h) = c := by simpa [fnd] using this
  exact hh
end Go.Proofs.YtepgfcjfdnakbaaDoor
/- Texts, read: plain laws and rows of texts of the call's own (moved out of Ld4 .. Ld7). -/
namespace Go.Proofs.YtepgfcjfdnakbaaDoor
open Go.RowKit Go.Joins

theorem cut_back (s : ByteArray) (k : Nat) (hk : k < s.size) : s.extract 0 k ++ ⟨#[s[k]]⟩ ++ s.extract (k + 1) s.size = s := by
  have h1 := one_byte s k hk
  rw [← h1]
  apply ByteArray.ext
  simp only [ByteArray.data_append, ByteArray.data_extract]
  rw [Array.extract_append_extract, show min 0 k = 0 by omega, show max k (k + 1) = k + 1 by omega, Array.extract_append_extract, show min 0 (k + 1) = 0 by omega, show max (k + 1) s.size = s.size by omega]
  exact Array.extract_size
theorem splitB_one {c : UInt8} {s x : ByteArray} (h : splitB c s = [x]) : s = x := by
  rcases Nat.lt_or_ge (fnd c s) s.size with h1 | h1
  · rw [splitB_yes h1] at h
    injection h with _ h2
    exact absurd h2 (splitB_ne _ _)
  · rw [splitB_no h1] at h
    injection h
theorem splitB_cons {c : UInt8} {s x y : ByteArray} {l : List ByteArray} (h : splitB c s = x :: y :: l) : ∃ r, s = x ++ ⟨#[c]⟩ ++ r ∧ splitB c r = y :: l := by
  rcases Nat.lt_or_ge (fnd c s) s.size with h1 | h1
  · rw [splitB_yes h1] at h
    injection h with h2 h3
    refine ⟨_, ?_, h3⟩
    rw [← h2]
    have := cut_back s (fnd c s) h1
    rw [fnd_at c s h1] at this
    exact this.symm
  · rw [splitB_no h1] at h
    injection h with _ h2
    cases h2
/-- the text of lines -/
def textB (c : UInt8) (l : List ByteArray) : ByteArray := ⟨(l.flatMap fun x => x.data.toList ++ [c]).toArray⟩
theorem textB_cons (c : UInt8) (x : ByteArray) (l : List ByteArray) : textB c (x :: l) = x ++ ⟨#[c]⟩ ++ textB c l := by
  unfold textB
  refine ba_inj ?_
  rw [ByteArray.toList_eq, ByteArray.toList_eq]
  simp
theorem linesB_text (c : UInt8) : ∀ (n : Nat) (s : ByteArray), s.size ≤ n → ∀ l, linesB c s = some l → textB c l = s := by
  intro n
  induction n with
  | zero =>
    intro s h l hl
    rw [linesB_nil c s (by omega)] at hl
    rw [← Option.some.inj hl]
    obtain ⟨⟨d⟩⟩ := s
    have : d = [] := List.eq_nil_of_length_eq_zero (Nat.le_zero.1 h)
    subst this; rfl
  | succ n ih =>
    intro s h l hl
    rcases Nat.lt_or_ge (fnd c s) s.size with h1 | h1
    · rw [linesB_yes h1] at hl
      have hz := tail_sizeS s (fnd c s + 1)
      cases hq : linesB c (s.extract (fnd c s + 1) s.size) with
      | none => rw [hq] at hl; cases hl
      | some m =>
        rw [hq] at hl
        rw [← Option.some.inj hl, textB_cons, ih _ (by omega) m hq]
        have := cut_back s (fnd c s) h1
        rw [fnd_at c s h1] at this
        exact this
    · by_cases h0 : s.size = 0
      · exact ih s (by omega) l hl
      · rw [linesB_no h1 h0] at hl; cases hl
theorem sl_of_own {w : World} {base n size : Nat} {e : TypeId} {v : Value} {cs : List Value} (h : w.ownsRow base e size v n cs) : ∃ A c, v = .slice A n c := by
  obtain ⟨_, A, c, hv, _⟩ := Rd.of_own h
  exact ⟨A, c, hv⟩
/-- a row of texts of the call's own -/
theorem own_strs {w : World} {base : Nat} {v : Value} {L : List ByteArray} (h : w.ownsRow base 9 1 v L.length (L.map Value.string)) (hn : 0 < L.length) :
    ∃ g c, v = .slice (some ⟨g, 0, none⟩) L.length c ∧ L.length ≤ c ∧ c ≤ maxLen ∧ g < w.heap.size ∧ ∀ i (hi : i < L.length), w.cell? ⟨g, i, none⟩ = some (.string L[i]) := by
  rcases h.2 with ⟨_, h0⟩ | ⟨g, cap, _, hv, _, _, h1, h2, _⟩
  · omega
  · have hlt := (h.lt g (by rw [hv]; rfl)).2
    subst hv
    refine ⟨g, cap, rfl, h1, h2, hlt, fun i hi => ?_⟩
    have hc := h.cells (g := g) rfl i (.string L[i]) (by rw [List.getElem?_map, List.getElem?_eq_getElem hi]; rfl)
    have e0 : (⟨g, 0, none⟩ : Addr).add i = ⟨g, i, none⟩ := by unfold Addr.add; split <;> simp_all
    rwa [e0] at hc
theorem lines_last {s : ByteArray} : ∃ x, (splitB 10 s).getLast? = some x ∧ ((x.size ≠ 0 ∧ linesB 10 s = none) ∨ (x.size = 0 ∧ linesB 10 s = some (splitB 10 s).dropLast)) := by
  have hne := splitB_ne 10 s
  unfold linesB
  generalize splitB 10 s = L at *
  refine ⟨L.getLast hne, List.getLast?_eq_some_getLast hne, ?_⟩
  rw [List.getLast?_eq_some_getLast hne]
  generalize L.getLast hne = x
  by_cases h : x.size = 0
  · refine .inr ⟨h, ?_⟩
    have : x = ⟨#[]⟩ := by
      obtain ⟨⟨l⟩⟩ := x
      have : l = [] := List.eq_nil_of_length_eq_zero h
      rw [this]
    rw [this, if_pos rfl]
  · refine .inl ⟨h, ?_⟩
    rw [if_neg]
    intro e
    have := Option.some.inj e
    rw [this] at h
    exact h rfl
theorem drop_get {L : List ByteArray} {k : Nat} (h : k < L.dropLast.length) : L.dropLast[k] = L[k]'(by rw [List.length_dropLast] at h; omega) := by
  rw [List.getElem_dropLast]
theorem own_cap {w : World} {base n size m c : Nat} {e : TypeId} {A : Option Addr} {cs : List Value} (h : w.ownsRow base e size (.slice A m c) n cs) : m ≤ c ∧ c ≤ maxLen := by
  rcases h.2 with ⟨h0, _⟩ | ⟨g, cap, _, hv, _, _, h1, h2, _⟩
  · injection h0 with _ h1 h2
    subst h1 h2
    exact ⟨Nat.le_refl _, Nat.zero_le _⟩
  · injection hv with _ h3 h4
    subst h3 h4
    exact ⟨h1, h2⟩
/-- a row of texts of the call's own, empty perhaps -/
theorem own_strs0 {w : World} {base : Nat} {v : Value} {L : List ByteArray} (h : w.ownsRow base 9 1 v L.length (L.map Value.string)) :
    ∃ A c g, v = .slice A L.length c ∧ (0 < L.length → A = some ⟨g, 0, none⟩ ∧ g < w.heap.size) ∧ ∀ i (hi : i < L.length), w.cell? ⟨g, i, none⟩ = some (.string L[i]) := by
  by_cases h0 : 0 < L.length
  · obtain ⟨g, c, hv, _, _, hlt, hc⟩ := own_strs h h0
    exact ⟨_, c, g, hv, (fun _ => ⟨rfl, hlt⟩), hc⟩
  · obtain ⟨A, c, hv⟩ := sl_of_own h
    exact ⟨A, c, 0, hv, (fun h => absurd h h0), fun i hi => absurd hi (by omega)⟩
theorem splitB_one' {c : UInt8} {s x : ByteArray} (h : splitB c s = [x]) : s = x := by
  rcases Nat.lt_or_ge (fnd c s) s.size with h1 | h1
  · rw [splitB_yes h1] at h
    injection h with _ h2
    exact absurd h2 (splitB_ne _ _)
  · rw [splitB_no h1] at h
    injection h
end Go.Proofs.YtepgfcjfdnakbaaDoor
/- A region that draws its order, step by step: an operation that is taken first, its slot given by number. No program is named here. -/
namespace Go.Proofs.YtepgfcjfdnakbaaDoor
open Go.RowKit

section
variable {P : Program} {ops : Array Oper} {Q : Exit → Act → World → Prop} {md : Region.Mode} {S : World → Prop}
theorem take_d {i : Nat} {oi : Oper} {d : Option Nat} {v : Value} {fuel : Nat} {listed : Array Bool} {a : Act} {w : World} (hi : ops[i]? = some oi) (hd : oi.dst = d)
    (hs : Region.noSelect ops = true) (hf : Region.free md ops listed i = true) (hr : (Region.ready md ops listed).contains i = true)
    (hQ : ∀ c a w, Q (.panic c) (a.put d v) w → Q (.panic c) a w) (hy : YieldsIf P ops S oi v a) (hS : S w)
    (h : wpAnyH P md ops Q S fuel (listed.setIfInBounds i true) (a.put d v) w) : wpAnyH P md ops Q S (fuel + 1) listed a w := by
  subst hd
  exact wpAnyH_take hi hs hf hr hQ hy hS h
theorem call_d {i : Nat} {o : Oper} {d : Option Nat} {fuel : Nat} {listed : Array Bool} {a : Act} {w : World} (ho : ops[i]? = some o) (hd : o.dst = d) (hr : Region.ready md ops listed = [i])
    (h : ∀ K' : Act → World → Prop, Shut (∀ a w, S w → (S w → wpAnyH P md ops Q S fuel (listed.setIfInBounds i true) a w) → K' a w) → if Region.wanted o (yielded ops a.tmps) = true then Oper.wp P o a w K' Q else K' (a.put d undef) w) :
    wpAnyH P md ops Q S (fuel + 1) listed a w := by
  subst hd
  exact wpAnyH_ready hr (by simp) (AllReadyH.cons ho h AllReadyH.nil)
end
end Go.Proofs.YtepgfcjfdnakbaaDoor
