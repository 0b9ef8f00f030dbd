/- Decimal on both sides (strconv.FormatInt by the shelf's contract; l01Dec by its walk). -/
import Derived.Test.YtjkjlpjeamifbaaDoorShelf
import Derived.Test.YtjkjlpjeamifbaaDoorLib
import Derived.Lib.SmallJoins
import Derived.Lib.ItoaMem
import Derived.Lib.LaidTab
namespace Go.Proofs.YtjkjlpjeamifbaaDoor
open Go.RowKit Go.Joins

theorem infoB' : (Tryd.prog.info? 5).map (fun i => (i.zero, i.size, i.bytes)) = some (some (.int .u8 0), 1, 1) := by kernel_rfl

/-- the table of powers lies as its initialiser lays it -/
def Tab (w : World) : Prop := Lib.TabIs Tryd.prog w "internal/strconv.uint64pow10" .u64 Lib.pow10Tab
theorem gPow : Tryd.prog.globalNamed "internal/strconv.uint64pow10" = some 0 := by kernel_rfl
theorem Tab.keep {w w' : World} {B : Nat} (h : Tab w) (hb : Below B w w') (hB : w.heap.size ≤ B) : Tab w' := by
  unfold Tab Lib.TabIs World.var? at *
  rw [gPow] at *
  simp only [Option.bind_some] at *
  have hg : 0 < w.heap.size := by
    cases hh : w.heap[0]? with
    | none => rw [hh] at h; cases h
    | some o => exact (Array.getElem?_eq_some_iff.1 hh).1
  rw [hb.block _ (by omega)]
  exact h
theorem Tab.below {w w' : World} (h : Tab w) (hb : Below w.heap.size w w') : Tab w' := h.keep hb (Nat.le_refl _)

/-- decimals -/
def decS (n : Int) : ByteArray := ⟨(Lib.itoa n).toArray⟩

theorem below_app {w w' : World} (os : Array Obj) (h1 : w'.os = w.os) (h2 : w'.tape = w.tape) (h3 : w'.output = w.output) (h4 : w'.heap = w.heap ++ os) : Below w.heap.size w w' :=
  ⟨h1, h2, h3, by rw [h4]; simp, fun i hi => by rw [h4]; exact Array.getElem?_append_left hi⟩

set_option maxHeartbeats 400000 in
theorem Decimal_any (n : Int) (w : World) (h0 : -9223372036854775808 ≤ n) (h1 : n ≤ 9223372036854775807) (ht : Tab w) :
    Calls Tryd.prog 52 #[.int .i64 n] w fun e w' => e = .returned (.string (decS n)) ∧ Below w.heap.size w w' := by
  have HF := Lib.hid (Tryd.strconv_FormatInt_10 n h0 h1 w ht)
  clear h0 h1 ht
  go_enter Tryd.func52, Tryd.ntmps52
  go_wp2_with fail
  refine HF.out.mono ?_; rintro e w1 ⟨rfl, k, os, rfl⟩
  go_wp2_with fail
  go_ret
  exact ⟨rfl, below_app os rfl rfl rfl rfl⟩

/-- the digits in front of what is there -/
def ddL (u : Nat) (acc : List UInt8) : List UInt8 := if u = 0 then acc else Lib.decDigits u ++ acc
theorem ddL_step (u : Nat) (acc : List UInt8) (h : 0 < u) : ddL u acc = ddL (u / 10) (UInt8.ofNat (48 + u % 10) :: acc) := by
  unfold ddL
  rw [if_neg (by omega), Lib.decDigits]
  by_cases h10 : u < 10
  · rw [dif_pos h10, if_pos (by omega), show u % 10 = u by omega]
    rfl
  · rw [dif_neg h10, if_neg (by omega)]
    simp
theorem len19 (k L : Nat) (hk : 0 < k) (h : k * 10 ^ L ≤ 9223372036854775808) : L ≤ 18 := by
  by_cases hL : L ≤ 18
  · exact hL
  · exfalso
    have h1 : 10 ^ 19 ≤ 10 ^ L := Nat.pow_le_pow_right (by omega) (by omega)
    have h2 : 10 ^ L ≤ k * 10 ^ L := Nat.le_mul_of_pos_left _ hk
    have h3 : (10 : Nat) ^ 19 = 10000000000000000000 := by decide
    omega
theorem pow_step (k L N : Nat) (h : k * 10 ^ L ≤ N) : k / 10 * 10 ^ (L + 1) ≤ N := by
  have h1 : k / 10 * 10 ≤ k := by omega
  calc k / 10 * 10 ^ (L + 1) = k / 10 * 10 * 10 ^ L := by rw [Nat.pow_succ, Nat.mul_assoc, Nat.mul_comm 10]
    _ ≤ k * 10 ^ L := Nat.mul_le_mul_right _ h1
    _ ≤ N := h
theorem decDigits_ne (u : Nat) : (Lib.decDigits u).length ≠ 0 := by
  rw [Lib.decDigits]
  split <;> simp

theorem digB' (m : Nat) : IntKind.u8.wrap (48 + (m : Int) % 10) = ((UInt8.ofNat (48 + m % 10)).toNat : Int) := by
  rw [IntKind.wrap_u8]
  simp only [UInt8.toNat_ofNat']
  omega

/-- an owned row appended to a row that has just been made -/
theorem wpList_app_own {P : Program} {w : World} {ops : Array Oper} {rest : List Oper} {o : Oper} {a : Act} {Q : Exit → Act → World → Prop} (t e : TypeId) (z : Value) (size bytes : Nat)
    (ht : P.underlying t = some (.slice e)) (hinfo : (P.info? e).map (fun i => (i.zero, i.size, i.bytes)) = some (some z, size, bytes)) (hzs : z.cells.size = size) (hsz : 0 < size)
    (s x : Operand) (hgd : o.guard = none) (ho : o.op = .call { callee := .builtin .append, args := #[s, x], argTypes := #[t, t] })
    (base : Nat) (v : Value) (n : Nat) (xs : List Value) (hs : a.eval s = v) (hown : w.ownsRow base e size v n xs) (hv : v ≠ .slice none 0 0)
    (g m c : Nat) (news : List Value) (hx : a.eval x = .slice (some ⟨g, 0, none⟩) m c) (hr : ∀ j u, news[j]? = some u → w.cell? ⟨g, j, none⟩ = some u) (hl : news.length = m * size) (h1 : ∀ u ∈ news, u.oneCell' = true)
    (h63 : n + m ≤ maxLen) (hbytes : (n + m) * bytes ≤ 140737488355328) (hbase : base ≤ w.heap.size)
    (h : ∀ g' c' w', w'.ownsRow base e size (.slice (some ⟨g', 0, none⟩) (n + m) c') (n + m) (xs ++ news) → w.grownBy w' v.ownBlock → wpList P ops Q rest (a.put o.dst (.slice (some ⟨g', 0, none⟩) (n + m) c')) w') :
    wpList P ops Q (o :: rest) a w := by
  obtain ⟨i, hi, hz, h2, h3⟩ := info_parts hinfo
  refine wpList_append_own _ hgd s x t ho base e i z size bytes ht hi hz h2 h3 hzs hsz v n xs hs hown ⟨g, 0, none⟩ m c news hx hl (fun j u hu => ?_) h1 h63 hbytes hbase ?_
  · rw [show (⟨g, 0, none⟩ : Addr).add j = ⟨g, j, none⟩ by unfold Addr.add; split <;> simp_all]
    exact hr j u hu
  · intro v' w' ho' hg' hnil
    rcases ownsRow_forms ho' with ⟨rfl, _⟩ | ⟨g', c', rfl⟩
    · exact absurd (hnil.1 rfl).1 hv
    · exact h g' c' w' ho' hg'

set_option maxHeartbeats 1000000 in
theorem l01Dec_nonneg (n : Nat) (w : World) (hn : n ≤ 9223372036854775807) :
    Calls Tryd.prog 57 #[.int .i64 n] w fun e w' => e = .returned (.string (decS n)) ∧ Below w.heap.size w w' := by
  have Hn := Lib.hid hn; clear hn
  go_enter Tryd.func57, Tryd.ntmps57
  go_wp2_with fail
  go_loopw [3, 4] (fun v i wr => ∃ (k : Nat) (acc : List UInt8) (g c : Nat), i = .int .i64 k ∧ v = .slice (some ⟨g, 0, none⟩) acc.length c ∧ wr.ownsRow w.heap.size 5 1 v acc.length (acc.map byV) ∧
      ddL n [] = ddL k acc ∧ Hid (k * 10 ^ acc.length ≤ 9223372036854775808) ∧ Hid (k ≤ n) ∧ Below w.heap.size w wr) (fun _ i _ => (intOf i).toNat)
  case atStart => exact ⟨n, [], w.heap.size, 0, rfl, rfl, World.ownsRow_made w #[] 0 (Nat.le_refl _) (by simp [maxLen]) rfl, rfl, Lib.hid (by have := Hn.out; simp; omega), Lib.hid (Nat.le_refl _), (Below.refl _ _).alloc (Nat.le_refl _) _⟩
  case round =>
    obtain ⟨k, acc, g, c, rfl, rfl, hown, hdd, hp, hkn, hbl⟩ := hrel
    have Hdd := Lib.hid hdd; clear hdd
    by_cases hlt : 0 < k
    · have hne : ((k : Int) != 0) = true := by rw [bne_iff_ne]; omega
      have hL : acc.length ≤ 18 := len19 k acc.length hlt hp.out
      have hd := digB' k
      have Hst := Lib.hid (ddL_step k acc hlt)
      have hk8 : k ≤ 9223372036854775807 := by have := hkn.out; have := Hn.out; omega
      generalize UInt8.ofNat (48 + k % 10) = d at *
      have hnew := World.ownsRow_lit (base := w.heap.size) (e := 5) (size := 1) wr #[.int .u8 (d.toNat : Int)] 1 hbl.size (by simp [maxLen]) rfl
      have hcells := (hown.alloc (.cells #[.int .u8 (d.toNat : Int)] 5)).cells (g := g) rfl
      have hcells' : ∀ j u, (acc.map byV)[j]? = some u → (wr.alloc (.cells #[.int .u8 (d.toNat : Int)] 5)).cell? ⟨g, j, none⟩ = some u := fun j u hu => by
        have := hcells j u hu
        rwa [show (⟨g, 0, none⟩ : Addr).add j = ⟨g, j, none⟩ by unfold Addr.add; split <;> simp_all] at this
      have Hc := Lib.hid hcells'; clear hcells hcells'
      go_wp2_with (at_builtin; refine wpList_app_own 77 5 _ 1 1 Tryd.underlying77 infoB' rfl (by omega) _ _ rfl rfl w.heap.size (.slice (some ⟨wr.heap.size, 0, none⟩) 1 1) 1 _ rfl hnew (by simp) g acc.length c (acc.map byV) rfl Hc.out (by simp) (by simp [byV, Value.oneCell']) (by simp [maxLen]; omega) (by omega) (by simp; have := hbl.size; omega) ?_; intro g' c' w1 hown1 hg1)
      have hb1 : Below w.heap.size w w1 := (hbl.alloc hbl.size _).grown hg1 (by simp; have := hbl.size; omega) (fun x hx => by injection hx with hx; rw [← hx]; exact hbl.size)
      clear Hc hnew
      go_wp2_with fail
      go_roundw
      case rel => exact ⟨k / 10, d :: acc, g', c', by go_num, by simp [Nat.add_comm], by simpa [byV, Nat.add_comm] using hown1, by rw [Hdd.out, Hst.out], Lib.hid (pow_step _ _ _ hp.out), Lib.hid (by have := hkn.out; omega), hb1⟩
      case measure => simp [intOf]; omega
    · have hk0 : k = 0 := by omega
      have hz : ((k : Int) != 0) = false := by rw [hk0]; rfl
      by_cases hn0 : n = 0
      · have hacc : acc = [] := by
          have := Hdd.out
          rw [hk0, hn0] at this
          simpa [ddL] using this.symm
        have hl : ((acc.length : Int) == 0) = true := by rw [hacc]; rfl
        have he := Lib.hid (show decS (n : Int) = ⟨#[48]⟩ by unfold decS; rw [Lib.itoa_nonneg, hn0, Lib.decDigits_one (by omega)]; rfl)
        clear hn0 hacc
        go_wp2_with fail
        go_ret
        rw [he.out]; exact ⟨rfl, hbl⟩
      · have hacc : Lib.decDigits n = acc := by
          have := Hdd.out
          rw [hk0] at this
          simpa [ddL, hn0] using this
        have hl : ((acc.length : Int) == 0) = false := by
          have := decDigits_ne n
          rw [hacc] at this
          rw [beq_eq_false_iff_ne]; omega
        have hpos : ¬ (n : Int) < 0 := by omega
        have he := Lib.hid (show decS (n : Int) = ⟨acc.toArray⟩ by unfold decS; rw [Lib.itoa_nonneg, hacc])
        have hconv := run_conv_own (P := Tryd.prog) 77 9 5 Tryd.underlying77 Tryd.underlying5 Tryd.underlying9 _ _ _ _ hown
        clear hn0 hacc
        go_wp2_with fail
        go_ret
        rw [he.out]; exact ⟨rfl, hbl⟩
end Go.Proofs.YtjkjlpjeamifbaaDoor
