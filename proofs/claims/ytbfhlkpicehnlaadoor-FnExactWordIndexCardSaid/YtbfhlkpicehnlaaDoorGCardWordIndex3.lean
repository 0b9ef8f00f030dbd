/- Merged texts: Wi3, Dec, Lib7, Dn1, Note, Jr1, Jr2, Wi4. -/
import Derived.Test.YtbfhlkpicehnlaaDoorGCardWordIndex2
import Derived.Test.YtbfhlkpicehnlaaDoorShelf
import Derived.Maps.OwnSet
import Derived.Maps.Views
import Derived.Maps.OwnOps
import Derived.Maps.StringElems
import Derived.StringKeys
import Derived.Sort.OwnSorted
import Derived.Test.YtbfhlkpicehnlaaDoorGCardWordIndex1
import Derived.Lib.SmallJoins
import Derived.Lib.ItoaMem
import Derived.Lib.LaidTab
/- An index of words, part 3: a map from words to lines; a row of words that is sorted. -/
namespace Go.Proofs.YtbfhlkpicehnlaaDoor
open Go.RowKit Go.Joins Go.Maps

theorem keyedT : Keyed Tryd.prog 9 := string_keyed Tryd.underlying9
/-- block b holds a map: h says which words it has, f their lines; at most n entries -/
def TxMap (w : World) (b n : Nat) (h : ByteArray → Bool) (f : ByteArray → ByteArray) : Prop :=
  ∃ D : DataW Unit, w.ownsMap Tryd.prog 9 (plainElem Tryd.prog 9) b n D ∧ IsMap D ∧ ∀ s : ByteArray, has D (.string s.data.toList) = h s ∧ D.atKey (.string s.data.toList) (.lit (.string [])) = .lit (.string (if h s = true then f s else ⟨#[]⟩).data.toList)
theorem TxMap.made (w : World) (f : ByteArray → ByteArray) : TxMap (w.alloc (.map #[] 0)) w.heap.size 0 (fun _ => false) f :=
  ⟨.map [], World.ownsMap_made _ _ _ _, isMap_empty, fun s => ⟨rfl, rfl⟩⟩
theorem TxMap.lt {w : World} {b n : Nat} {h : ByteArray → Bool} {f : ByteArray → ByteArray} (hm : TxMap w b n h f) : b < w.heap.size := by
  obtain ⟨D, h1, _⟩ := hm
  exact h1.lt
theorem TxMap.kept {w w' : World} {b n : Nat} {h : ByteArray → Bool} {f : ByteArray → ByteArray} {row : Option Nat} (hm : TxMap w b n h f) (hg : w.grownBy w' row) (hne : some b ≠ row) : TxMap w' b n h f := by
  obtain ⟨D, h1, h2, h3⟩ := hm
  exact ⟨D, h1.kept hg hne, h2, h3⟩
theorem TxMap.below {w w' : World} {b n : Nat} {h : ByteArray → Bool} {f : ByteArray → ByteArray} (hm : TxMap w b n h f) (hb : Below w.heap.size w w') : TxMap w' b n h f := hm.kept (grown_of_below hb none) (by simp)
theorem TxMap.cong {w : World} {b n n' : Nat} {h h' : ByteArray → Bool} {f f' : ByteArray → ByteArray} (hm : TxMap w b n h f) (hn : n ≤ n') (hh : ∀ s, h s = h' s) (hf : ∀ s, h s = true → f s = f' s) : TxMap w b n' h' f' := by
  obtain ⟨D, h1, h2, h3⟩ := hm
  refine ⟨D, h1.mono hn, h2, fun s => ⟨(h3 s).1.trans (hh s), ?_⟩⟩
  rw [(h3 s).2, ← hh s]
  cases hs : h s with
  | false => rfl
  | true => rw [if_pos rfl, if_pos rfl, hf s hs]
set_option maxRecDepth 100000 in
theorem zeroStr (w : World) : (zeroValue 9).run Tryd.prog w = .ok (.string ⟨#[]⟩) w := by kernel_rfl
theorem str_eq {a b : ByteArray} (h : a.data.toList = b.data.toList) : a = b := ByteArray.ext (Array.ext' h)
/-- v, ok := lines[s] -/
theorem TxMap.look2 {w : World} {b n : Nat} {h : ByteArray → Bool} {f : ByteArray → ByteArray} (hm : TxMap w b n h f) (s : ByteArray) (hs : s.size ≤ maxLen) :
    (Instr.lookup 42 (.map (some b)) (.string s) true).run Tryd.prog w = .ok (.tuple #[.string (if h s = true then f s else ⟨#[]⟩), .bool (h s)]) w := by
  obtain ⟨D, h1, h2, h3⟩ := hm
  obtain ⟨v, ps, hrun, hv⟩ := h1.look_ok keyedT Tryd.underlying42 (zeroStr w) (plainElem_string Tryd.underlying9 (by show 0 ≤ maxLen; omega)) (Go.WideMaps.keyOf_string_mk Tryd.underlying9 hs)
  rw [show (⟨#[]⟩ : ByteArray).data.toList = [] from rfl, (h3 s).2] at hv
  rw [(h3 s).1] at hrun
  obtain ⟨x, rfl, hx, _⟩ := plainElem_string_inv Tryd.underlying9 hv
  have : (if h s = true then f s else ⟨#[]⟩) = x := str_eq (by
    have := congrArg Prod.fst hx
    simpa using this)
  rw [this]
  exact hrun
/-- lines[s] -/
theorem TxMap.look1 {w : World} {b n : Nat} {h : ByteArray → Bool} {f : ByteArray → ByteArray} (hm : TxMap w b n h f) (s : ByteArray) (hs : s.size ≤ maxLen) :
    (Instr.lookup 42 (.map (some b)) (.string s) false).run Tryd.prog w = .ok (.string (if h s = true then f s else ⟨#[]⟩)) w := by
  obtain ⟨D, h1, h2, h3⟩ := hm
  obtain ⟨v, ps, hrun, hv⟩ := h1.lookup keyedT Tryd.underlying42 (zeroStr w) (plainElem_string Tryd.underlying9 (by show 0 ≤ maxLen; omega)) (Go.WideMaps.keyOf_string_mk Tryd.underlying9 hs)
  rw [show (⟨#[]⟩ : ByteArray).data.toList = [] from rfl, (h3 s).2] at hv
  obtain ⟨x, rfl, hx, _⟩ := plainElem_string_inv Tryd.underlying9 hv
  have : (if h s = true then f s else ⟨#[]⟩) = x := str_eq (by
    have := congrArg Prod.fst hx
    simpa using this)
  rw [this]
  exact hrun
/-- lines[s] = t -/
theorem TxMap.upd {w : World} {b n : Nat} {h : ByteArray → Bool} {f : ByteArray → ByteArray} (hm : TxMap w b n h f) (s t : ByteArray) (hs : s.size ≤ maxLen) (ht : t.size ≤ maxLen) (hn : n < maxLen) :
    ∃ w', (Instr.mapUpdate 42 (.map (some b)) (.string s) (.string t)).run Tryd.prog w = .ok () w' ∧ TxMap w' b (n + 1) (fun x => decide (x = s) || h x) (fun x => if x = s then t else f x) ∧ w.grownBy w' (some b) := by
  obtain ⟨D, h1, h2, h3⟩ := hm
  obtain ⟨w', hrun, hown, hg⟩ := h1.update keyedT Tryd.underlying42 hn (WideMaps.keyOf_string_mk Tryd.underlying9 hs) (plainElem_string Tryd.underlying9 ht)
  refine ⟨w', hrun, ⟨_, hown, h2.put _ _, fun x => ?_⟩, hg⟩
  dsimp only
  by_cases e : x = s
  · subst e
    have e1 : (decide (x = x) || h x) = true := by simp
    have e2 : (if (decide (x = x) || h x) = true then (if x = x then t else f x) else ⟨#[]⟩) = t := by rw [if_pos e1, if_pos rfl]
    rw [e2]
    exact ⟨(has_put_same h2 (by trivial) _).trans e1.symm, atKey_put_same h2 (by trivial) _ _⟩
  · have hne : (Lit.string x.data.toList) ≠ Lit.string s.data.toList := by intro e2; injection e2 with e3; exact e (str_eq e3)
    have e1 : (decide (x = s) || h x) = h x := by simp [e]
    have e2 : (if (decide (x = s) || h x) = true then (if x = s then t else f x) else ⟨#[]⟩) = if h x = true then f x else ⟨#[]⟩ := by rw [if_neg e]; simp [e]
    rw [e2]
    exact ⟨by rw [has_put_other hne, (h3 x).1, e1], by rw [atKey_put_other hne, (h3 x).2]⟩
theorem own_notmapT {w : World} {base sz m b n : Nat} {e : TypeId} {v : Value} {cs : List Value} {h : ByteArray → Bool} {f : ByteArray → ByteArray} (ho : w.ownsRow base e sz v m cs) (hm : TxMap w b n h f) : v.ownBlock ≠ some b := by
  rcases ho.2 with ⟨rfl, _⟩ | ⟨g1, cap1, cur1, rfl, _, hg1, _⟩
  · simp [Value.ownBlock]
  · intro he
    obtain rfl : g1 = b := by simpa [Value.ownBlock] using he
    obtain ⟨D, ⟨es, clock, h0, _⟩, _⟩ := hm
    rw [hg1] at h0
    cases h0
/-! the sort -/
theorem strs_enc (l : List ByteArray) : strs l = (l.map (·.toList)).map encStr := by
  unfold strs
  rw [List.map_map]
  refine List.map_congr_left fun x _ => ?_
  show Value.string x = Value.string ⟨x.toList.toArray⟩
  rw [ByteArray.toList_eq]
theorem sort_any (base : Nat) (g n cap : Nat) (l : List ByteArray) (w : World) (hl : l.length = n) (h : w.ownsRow base 9 1 (.slice (some ⟨g, 0, none⟩) n cap) n (strs l)) (hn : n ≤ 1000) :
    Calls Tryd.prog 20 #[.slice (some ⟨g, 0, none⟩) n cap] w fun e w' => e = .returned (.tuple #[]) ∧ w'.ownsRow base 9 1 (.slice (some ⟨g, 0, none⟩) n cap) n (strs (((l.map (·.toList)).mergeSort fun x y => decide (x ≤ y)).map fun b => (⟨b.toArray⟩ : ByteArray))) ∧ w.grownBy w' (some g) := by
  subst hl
  rw [strs_enc] at h
  rcases h.2 with ⟨h0, _⟩ | ⟨g', cap', cur, hv, hbase, hb, h1, h2, h3, h4⟩
  · injection h0 with h0; cases h0
  · injection hv with e1 e2 e3
    injection e1 with e1
    injection e1 with e1
    subst e1 e3
    have hlen : (l.map (·.toList)).length = l.length := by simp
    have hH : Go.Sort.Holds encStr w g 0 (l.map (·.toList)).toArray := holds_of_block hb (by rw [hlen]; simpa using h4)
    have hc := Tryd.sort_Strings g 0 cap (l.map (·.toList)) w hH (Array.getElem?_eq_some_iff.1 hb).1 (by rw [hlen]; omega)
    rw [hlen] at hc
    refine hc.mono ?_
    rintro e w' ⟨rfl, m, os, rfl⟩
    refine ⟨rfl, ?_, grownBy_sorted _⟩
    have := ownsRow_sorted (n := m) (os := os) (ss := l.map (·.toList)) (ts := (l.map (·.toList)).mergeSort fun x y => decide (x ≤ y)) (by simp) hbase hb (by rw [hlen]; exact h1) h2 h3
    rw [hlen] at this
    have hm : strs (((l.map (·.toList)).mergeSort fun x y => decide (x ≤ y)).map fun b => (⟨b.toArray⟩ : ByteArray)) = ((l.map (·.toList)).mergeSort fun x y => decide (x ≤ y)).map encStr := by
      unfold strs
      rw [List.map_map]; rfl
    rw [hm]
    exact this
theorem sortv_any (base : Nat) (v : Value) (n : Nat) (l : List ByteArray) (w : World) (hl : l.length = n) (h : w.ownsRow base 9 1 v n (strs l)) (hn : n ≤ 1000) :
    Calls Tryd.prog 20 #[v] w fun e w' => e = .returned (.tuple #[]) ∧ w'.ownsRow base 9 1 v n (strs (((l.map (·.toList)).mergeSort fun x y => decide (x ≤ y)).map fun b => (⟨b.toArray⟩ : ByteArray))) ∧ w.grownBy w' v.ownBlock := by
  rcases h.2 with ⟨rfl, h0⟩ | ⟨g, cap, cur, rfl, _⟩
  · obtain rfl : n = 0 := h0
    obtain rfl : l = [] := List.eq_nil_of_length_eq_zero hl
    refine (Tryd.sort_Strings_none none 0 w).mono ?_
    rintro e w' ⟨rfl, rfl⟩
    exact ⟨rfl, by simpa [strs] using h, ⟨rfl, rfl, rfl, Nat.le_refl _, fun _ _ _ => rfl⟩⟩
  · exact sort_any base g n cap l w hl h hn
end Go.Proofs.YtbfhlkpicehnlaaDoor
/- Decimal on both sides (strconv.FormatInt by the shelf's contract; l01Dec by its walk). -/
namespace Go.Proofs.YtbfhlkpicehnlaaDoor
open Go.RowKit Go.Joins

theorem infoB' : (Tryd.prog.info? 5).map (fun i => (i.zero, i.size, i.bytes)) = some (some (.int .u8 0), 1, 1) := by kernel_rfl

/-- the table of powers lies as its initialiser lays it -/
def Tab (w : World) : Prop := Lib.TabIs Tryd.prog w "internal/strconv.uint64pow10" .u64 Lib.pow10Tab
theorem gPow : Tryd.prog.globalNamed "internal/strconv.uint64pow10" = some 0 := by kernel_rfl
theorem Tab.keep {w w' : World} {B : Nat} (h : Tab w) (hb : Below B w w') (hB : w.heap.size ≤ B) : Tab w' := by
  unfold Tab Lib.TabIs World.var? at *
  rw [gPow] at *
  simp only [Option.bind_some] at *
  have hg : 0 < w.heap.size := by
    cases hh : w.heap[0]? with
    | none => rw [hh] at h; cases h
    | some o => exact (Array.getElem?_eq_some_iff.1 hh).1
  rw [hb.block _ (by omega)]
  exact h
theorem Tab.below {w w' : World} (h : Tab w) (hb : Below w.heap.size w w') : Tab w' := h.keep hb (Nat.le_refl _)

/-- decimals -/
def decS (n : Int) : ByteArray := ⟨(Lib.itoa n).toArray⟩

theorem below_app {w w' : World} (os : Array Obj) (h1 : w'.os = w.os) (h2 : w'.tape = w.tape) (h3 : w'.output = w.output) (h4 : w'.heap = w.heap ++ os) : Below w.heap.size w w' :=
  ⟨h1, h2, h3, by rw [h4]; simp, fun i hi => by rw [h4]; exact Array.getElem?_append_left hi⟩

set_option maxHeartbeats 400000 in
theorem Decimal_any (n : Int) (w : World) (h0 : -9223372036854775808 ≤ n) (h1 : n ≤ 9223372036854775807) (ht : Tab w) :
    Calls Tryd.prog 19 #[.int .i64 n] w fun e w' => e = .returned (.string (decS n)) ∧ Below w.heap.size w w' := by
  have HF := Lib.hid (Tryd.strconv_FormatInt_10 n h0 h1 w ht)
  clear h0 h1 ht
  go_enter Tryd.func19, Tryd.ntmps19
  go_wp2_with fail
  refine HF.out.mono ?_; rintro e w1 ⟨rfl, k, os, rfl⟩
  go_wp2_with fail
  go_ret
  exact ⟨rfl, below_app os rfl rfl rfl rfl⟩

/-- the digits in front of what is there -/
def ddL (u : Nat) (acc : List UInt8) : List UInt8 := if u = 0 then acc else Lib.decDigits u ++ acc
theorem ddL_step (u : Nat) (acc : List UInt8) (h : 0 < u) : ddL u acc = ddL (u / 10) (UInt8.ofNat (48 + u % 10) :: acc) := by
  unfold ddL
  rw [if_neg (by omega), Lib.decDigits]
  by_cases h10 : u < 10
  · rw [dif_pos h10, if_pos (by omega), show u % 10 = u by omega]
    rfl
  · rw [dif_neg h10, if_neg (by omega)]
    simp
theorem len19 (k L : Nat) (hk : 0 < k) (h : k * 10 ^ L ≤ 9223372036854775808) : L ≤ 18 := by
  by_cases hL : L ≤ 18
  · exact hL
  · exfalso
    have h1 : 10 ^ 19 ≤ 10 ^ L := Nat.pow_le_pow_right (by omega) (by omega)
    have h2 : 10 ^ L ≤ k * 10 ^ L := Nat.le_mul_of_pos_left _ hk
    have h3 : (10 : Nat) ^ 19 = 10000000000000000000 := by decide
    omega
theorem pow_step (k L N : Nat) (h : k * 10 ^ L ≤ N) : k / 10 * 10 ^ (L + 1) ≤ N := by
  have h1 : k / 10 * 10 ≤ k := by omega
  calc k / 10 * 10 ^ (L + 1) = k / 10 * 10 * 10 ^ L := by rw [Nat.pow_succ, Nat.mul_assoc, Nat.mul_comm 10]
    _ ≤ k * 10 ^ L := Nat.mul_le_mul_right _ h1
    _ ≤ N := h
theorem decDigits_ne (u : Nat) : (Lib.decDigits u).length ≠ 0 := by
  rw [Lib.decDigits]
  split <;> simp

theorem digB' (m : Nat) : IntKind.u8.wrap (48 + (m : Int) % 10) = ((UInt8.ofNat (48 + m % 10)).toNat : Int) := by
  rw [IntKind.wrap_u8]
  simp only [UInt8.toNat_ofNat']
  omega

/-- an owned row appended to a row that has just been made -/
theorem wpList_app_own {P : Program} {w : World} {ops : Array Oper} {rest : List Oper} {o : Oper} {a : Act} {Q : Exit → Act → World → Prop} (t e : TypeId) (z : Value) (size bytes : Nat)
    (ht : P.underlying t = some (.slice e)) (hinfo : (P.info? e).map (fun i => (i.zero, i.size, i.bytes)) = some (some z, size, bytes)) (hzs : z.cells.size = size) (hsz : 0 < size)
    (s x : Operand) (hgd : o.guard = none) (ho : o.op = .call { callee := .builtin .append, args := #[s, x], argTypes := #[t, t] })
    (base : Nat) (v : Value) (n : Nat) (xs : List Value) (hs : a.eval s = v) (hown : w.ownsRow base e size v n xs) (hv : v ≠ .slice none 0 0)
    (g m c : Nat) (news : List Value) (hx : a.eval x = .slice (some ⟨g, 0, none⟩) m c) (hr : ∀ j u, news[j]? = some u → w.cell? ⟨g, j, none⟩ = some u) (hl : news.length = m * size) (h1 : ∀ u ∈ news, u.oneCell' = true)
    (h63 : n + m ≤ maxLen) (hbytes : (n + m) * bytes ≤ 140737488355328) (hbase : base ≤ w.heap.size)
    (h : ∀ g' c' w', w'.ownsRow base e size (.slice (some ⟨g', 0, none⟩) (n + m) c') (n + m) (xs ++ news) → w.grownBy w' v.ownBlock → wpList P ops Q rest (a.put o.dst (.slice (some ⟨g', 0, none⟩) (n + m) c')) w') :
    wpList P ops Q (o :: rest) a w := by
  obtain ⟨i, hi, hz, h2, h3⟩ := info_parts hinfo
  refine wpList_append_own _ hgd s x t ho base e i z size bytes ht hi hz h2 h3 hzs hsz v n xs hs hown ⟨g, 0, none⟩ m c news hx hl (fun j u hu => ?_) h1 h63 hbytes hbase ?_
  · rw [show (⟨g, 0, none⟩ : Addr).add j = ⟨g, j, none⟩ by unfold Addr.add; split <;> simp_all]
    exact hr j u hu
  · intro v' w' ho' hg' hnil
    rcases ownsRow_forms ho' with ⟨rfl, _⟩ | ⟨g', c', rfl⟩
    · exact absurd (hnil.1 rfl).1 hv
    · exact h g' c' w' ho' hg'

set_option maxHeartbeats 1000000 in
theorem l01Dec_nonneg (n : Nat) (w : World) (hn : n ≤ 9223372036854775807) :
    Calls Tryd.prog 16 #[.int .i64 n] w fun e w' => e = .returned (.string (decS n)) ∧ Below w.heap.size w w' := by
  have Hn := Lib.hid hn; clear hn
  go_enter Tryd.func16, Tryd.ntmps16
  go_wp2_with fail
  go_loopw [3, 4] (fun v i wr => ∃ (k : Nat) (acc : List UInt8) (g c : Nat), i = .int .i64 k ∧ v = .slice (some ⟨g, 0, none⟩) acc.length c ∧ wr.ownsRow w.heap.size 5 1 v acc.length (acc.map byV) ∧
      ddL n [] = ddL k acc ∧ Hid (k * 10 ^ acc.length ≤ 9223372036854775808) ∧ Hid (k ≤ n) ∧ Below w.heap.size w wr) (fun _ i _ => (intOf i).toNat)
  case atStart => exact ⟨n, [], w.heap.size, 0, rfl, rfl, World.ownsRow_made w #[] 0 (Nat.le_refl _) (by simp [maxLen]) rfl, rfl, Lib.hid (by have := Hn.out; simp; omega), Lib.hid (Nat.le_refl _), (Below.refl _ _).alloc (Nat.le_refl _) _⟩
  case round =>
    obtain ⟨k, acc, g, c, rfl, rfl, hown, hdd, hp, hkn, hbl⟩ := hrel
    have Hdd := Lib.hid hdd; clear hdd
    by_cases hlt : 0 < k
    · have hne : ((k : Int) != 0) = true := by rw [bne_iff_ne]; omega
      have hL : acc.length ≤ 18 := len19 k acc.length hlt hp.out
      have hd := digB' k
      have Hst := Lib.hid (ddL_step k acc hlt)
      have hk8 : k ≤ 9223372036854775807 := by have := hkn.out; have := Hn.out; omega
      generalize UInt8.ofNat (48 + k % 10) = d at *
      have hnew := World.ownsRow_lit (base := w.heap.size) (e := 5) (size := 1) wr #[.int .u8 (d.toNat : Int)] 1 hbl.size (by simp [maxLen]) rfl
      have hcells := (hown.alloc (.cells #[.int .u8 (d.toNat : Int)] 5)).cells (g := g) rfl
      have hcells' : ∀ j u, (acc.map byV)[j]? = some u → (wr.alloc (.cells #[.int .u8 (d.toNat : Int)] 5)).cell? ⟨g, j, none⟩ = some u := fun j u hu => by
        have := hcells j u hu
        rwa [show (⟨g, 0, none⟩ : Addr).add j = ⟨g, j, none⟩ by unfold Addr.add; split <;> simp_all] at this
      have Hc := Lib.hid hcells'; clear hcells hcells'
      go_wp2_with (at_builtin; refine wpList_app_own 49 5 _ 1 1 Tryd.underlying49 infoB' rfl (by omega) _ _ rfl rfl w.heap.size (.slice (some ⟨wr.heap.size, 0, none⟩) 1 1) 1 _ rfl hnew (by simp) g acc.length c (acc.map byV) rfl Hc.out (by simp) (by simp [byV, Value.oneCell']) (by simp [maxLen]; omega) (by omega) (by simp; have := hbl.size; omega) ?_; intro g' c' w1 hown1 hg1)
      have hb1 : Below w.heap.size w w1 := (hbl.alloc hbl.size _).grown hg1 (by simp; have := hbl.size; omega) (fun x hx => by injection hx with hx; rw [← hx]; exact hbl.size)
      clear Hc hnew
      go_wp2_with fail
      go_roundw
      case rel => exact ⟨k / 10, d :: acc, g', c', by go_num, by simp [Nat.add_comm], by simpa [byV, Nat.add_comm] using hown1, by rw [Hdd.out, Hst.out], Lib.hid (pow_step _ _ _ hp.out), Lib.hid (by have := hkn.out; omega), hb1⟩
      case measure => simp [intOf]; omega
    · have hk0 : k = 0 := by omega
      have hz : ((k : Int) != 0) = false := by rw [hk0]; rfl
      by_cases hn0 : n = 0
      · have hacc : acc = [] := by
          have := Hdd.out
          rw [hk0, hn0] at this
          simpa [ddL] using this.symm
        have hl : ((acc.length : Int) == 0) = true := by rw [hacc]; rfl
        have he := Lib.hid (show decS (n : Int) = ⟨#[48]⟩ by unfold decS; rw [Lib.itoa_nonneg, hn0, Lib.decDigits_one (by omega)]; rfl)
        clear hn0 hacc
        go_wp2_with fail
        go_ret
        rw [he.out]; exact ⟨rfl, hbl⟩
      · have hacc : Lib.decDigits n = acc := by
          have := Hdd.out
          rw [hk0] at this
          simpa [ddL, hn0] using this
        have hl : ((acc.length : Int) == 0) = false := by
          have := decDigits_ne n
          rw [hacc] at this
          rw [beq_eq_false_iff_ne]; omega
        have hpos : ¬ (n : Int) < 0 := by omega
        have he := Lib.hid (show decS (n : Int) = ⟨acc.toArray⟩ by unfold decS; rw [Lib.itoa_nonneg, hacc])
        have hconv := run_conv_own (P := Tryd.prog) 49 9 5 Tryd.underlying49 Tryd.underlying5 Tryd.underlying9 _ _ _ _ hown
        clear hn0 hacc
        go_wp2_with fail
        go_ret
        rw [he.out]; exact ⟨rfl, hbl⟩
end Go.Proofs.YtbfhlkpicehnlaaDoor
/- A region that draws its order and whose last operations write where the region has loaded: the loads are taken first; S is not asked behind those last operations (Ls). No program is named here. -/
namespace Go.Proofs.YtbfhlkpicehnlaaDoor
open Go.RowKit

section
variable {P : Program} {ops : Array Oper} {Q : Exit → Act → World → Prop} {md : Region.Mode} {S : World → Prop} {L : Nat} {Ls : List Nat}

/-- every operation that has come up has those ahead of it come up -/
def ClosedL (md : Region.Mode) (ops : Array Oper) (listed : Array Bool) : Prop :=
  ∀ (k : Nat) (o : Oper), ops[k]? = some o → listed.getD k true = true → ∀ e ∈ o.after, Region.binds md e = true → listed.getD e.on false = true
def closedB (md : Region.Mode) (ops : Array Oper) (listed : Array Bool) : Bool :=
  (List.range ops.size).all fun k => !listed.getD k true || ((ops[k]?).map (·.after.all fun e => !Region.binds md e || listed.getD e.on false)).getD true
theorem closedB_spec {listed : Array Bool} (h : closedB md ops listed = true) : ClosedL md ops listed := by
  intro k o ho hk e he hb
  unfold closedB at h
  rw [List.all_eq_true] at h
  have h1 := h k (List.mem_range.2 (Array.getElem?_eq_some_iff.1 ho).1)
  rw [ho, hk] at h1
  simp only [Bool.not_true, Bool.false_or, Option.map_some, Option.getD_some] at h1
  have h2 := Array.all_eq_true_iff_forall_mem.1 h1 e he
  rw [hb] at h2
  simpa using h2
theorem ClosedL.set {listed : Array Bool} {j : Nat} (h : ClosedL md ops listed) (hj : j ∈ Region.ready md ops listed) : ClosedL md ops (listed.setIfInBounds j true) := by
  intro k o ho hk e he hb
  by_cases hkj : j = k
  · subst hkj
    obtain ⟨_, o', ho', hall⟩ := mem_ready.1 hj
    rw [ho] at ho'
    cases ho'
    exact getD_set_true (hall e he hb)
  · rw [getD_set_ne true hkj] at hk
    exact getD_set_true (h k o ho hk e he hb)
/-- a chain of operations, each of which waits for the next -/
def waitsB (md : Region.Mode) (ops : Array Oper) : List Nat → Bool
  | x :: y :: rest => (((ops[x]?).map (·.after.any fun e => Region.binds md e && e.on == y)).getD false) && waitsB md ops (y :: rest)
  | _ => true
theorem waits_cons {x y : Nat} {rest : List Nat} (h : waitsB md ops (x :: y :: rest) = true) : (∃ o, ops[x]? = some o ∧ ∃ e ∈ o.after, Region.binds md e = true ∧ e.on = y) ∧ waitsB md ops (y :: rest) = true := by
  unfold waitsB at h
  rw [Bool.and_eq_true] at h
  refine ⟨?_, h.2⟩
  cases ho : ops[x]? with
  | none => rw [ho] at h; simp at h
  | some o =>
    rw [ho] at h
    simp only [Option.map_some, Option.getD_some] at h
    obtain ⟨e, he, hb⟩ := Array.any_eq_true'.1 h.1
    simp only [Bool.and_eq_true, beq_iff_eq] at hb
    exact ⟨o, rfl, e, he, hb.1, hb.2⟩
theorem getD_ft {l : Array Bool} {i : Nat} (h : l.getD i false = true) : l.getD i true = true := by
  rcases Nat.lt_or_ge i l.size with h' | h'
  · simp [h'] at h ⊢; exact h
  · simp [Array.getElem?_eq_none h'] at h
theorem listed_last {listed : Array Bool} (hc : ClosedL md ops listed) : ∀ (rest : List Nat) (y : Nat), listed.getD y false = true → waitsB md ops (y :: rest) = true → listed.getD ((y :: rest).getLast (by simp)) false = true
  | [], _, h, _ => h
  | z :: rest, y, h, hw => by
    obtain ⟨⟨o, ho, e, he, hb, hon⟩, hw2⟩ := waits_cons hw
    have h2 := hc y o ho (getD_ft h) e he hb
    rw [hon] at h2
    have h3 := listed_last hc rest z h2 hw2
    rw [List.getLast_cons (by simp)]
    exact h3
def lateB (md : Region.Mode) (ops : Array Oper) (L : Nat) (p : List Nat) (i : Nat) : Bool := !p.isEmpty && waitsB md ops (L :: p) && p.getLast? == some i
theorem late_not {listed : Array Bool} {p : List Nat} {i : Nat} (hc : ClosedL md ops listed) (h : lateB md ops L p i = true) (hi : listed.getD i true = false) : L ∉ Region.ready md ops listed := by
  intro hL
  unfold lateB at h
  simp only [Bool.and_eq_true, beq_iff_eq] at h
  obtain ⟨⟨h0, h1⟩, h2⟩ := h
  cases p with
  | nil => simp at h0
  | cons y rest =>
    obtain ⟨⟨o, ho, e, he, hb, hon⟩, hw⟩ := waits_cons h1
    obtain ⟨_, o', ho', hall⟩ := mem_ready.1 hL
    rw [ho] at ho'
    cases ho'
    have hy := hall e he hb
    rw [hon] at hy
    have hl := listed_last hc rest y hy hw
    rw [List.getLast?_eq_some_getLast (by simp)] at h2
    injection h2 with h2
    rw [h2] at hl
    rw [getD_ft hl] at hi
    cases hi

/-- what comes behind L in a list -/
def behind (L : Nat) : List Nat → List Nat
  | [] => []
  | x :: l => if x == L then l else behind L l
/-- every one of Ls waits for i, by the chain Ls ++ p -/
def lateAll (md : Region.Mode) (ops : Array Oper) (Ls p : List Nat) (i : Nat) : Bool := Ls.all fun L => lateB md ops L (behind L (Ls ++ p)) i
theorem lateAll_spec {p : List Nat} {i : Nat} (h : lateAll md ops Ls p i = true) (hL : L ∈ Ls) : lateB md ops L (behind L (Ls ++ p)) i = true := List.all_eq_true.1 h L hL
/-- none of the last ones has come up -/
def noneL (Ls : List Nat) (listed : Array Bool) : Bool := Ls.all fun L => !listed.getD L false
theorem noneL_set {listed : Array Bool} {j : Nat} (hj : j ∉ Ls) (h : noneL Ls listed = true) : noneL Ls (listed.setIfInBounds j true) = true := by
  unfold noneL at *
  rw [List.all_eq_true] at *
  intro L hL
  rw [getD_set_ne false (show j ≠ L from fun e => hj (e ▸ hL))]
  exact h L hL
theorem noneL_of {listed : Array Bool} {j : Nat} (h : noneL Ls (listed.setIfInBounds j true) = true) : noneL Ls listed = true := by
  unfold noneL at *
  rw [List.all_eq_true] at *
  intro L hL
  have h1 := h L hL
  cases hb : listed.getD L false with
  | false => rfl
  | true => rw [getD_set_true hb] at h1; exact h1
/-- whatever order is picked, and S holds as long as none of the last ones has come up -/
def wpAnyL (P : Program) (md : Region.Mode) (ops : Array Oper) (Q : Exit → Act → World → Prop) (S : World → Prop) (Ls : List Nat) : Nat → Array Bool → Act → World → Prop
  | 0, listed, a, w => Region.ready md ops listed = [] ∧ Q .normal a w
  | fuel + 1, listed, a, w =>
    (Region.ready md ops listed = [] → Q .normal a w) ∧
    ∀ i ∈ Region.ready md ops listed, wpOp P ops Q i (fun a' w' => (noneL Ls (listed.setIfInBounds i true) = true → S w') ∧ wpAnyL P md ops Q S Ls fuel (listed.setIfInBounds i true) a' w') a w
theorem wpAny_of_L : ∀ (fuel : Nat) (listed : Array Bool) (a : Act) (w : World), wpAnyL P md ops Q S Ls fuel listed a w → wpAny P md ops Q fuel listed a w
  | 0, _, _, _, h => h
  | fuel + 1, _, _, _, h => ⟨h.1, fun i hi => wpOp_mono (fun a' w' h' => wpAny_of_L fuel _ a' w' h'.2) (h.2 i hi)⟩

theorem wpAnyL_first {S0 : World → Prop} {i : Nat} {oi : Oper} {v : Value} (hi : ops[i]? = some oi) (hsel : ∀ (j : Nat) (o : Oper) cs b, ops[j]? = some o → o.op ≠ .select cs b)
    (hQ : ∀ c a w, Q (.panic c) (a.put oi.dst v) w → Q (.panic c) a w) (hiL : i ∉ Ls) (p : List Nat) (hor : (lateAll md ops Ls p i = true ∧ ∀ w, S w → S0 w) ∨ ∀ w, S0 w) :
    ∀ (fuel : Nat) (listed : Array Bool) (a : Act) (w : World), ClosedL md ops listed → (noneL Ls listed = true → S w) → ((∀ w, S0 w) ∨ noneL Ls listed = true) →
      (∀ j oj, ops[j]? = some oj → j ≠ i → listed.getD j true = false → (∀ e ∈ oj.after, Region.binds md e = true → e.on ≠ i) → oi.apart ops oj = true) →
      i ∈ Region.ready md ops listed → YieldsIf P ops S0 oi v a →
      wpAnyL P md ops Q S Ls fuel (listed.setIfInBounds i true) (a.put oi.dst v) w → wpAnyL P md ops Q S Ls (fuel + 1) listed a w := by
  have hS0 : ∀ (listed : Array Bool) (w : World), (noneL Ls listed = true → S w) → ((∀ w, S0 w) ∨ noneL Ls listed = true) → S0 w := fun listed w hS hn => by
    rcases hn with h | h
    · exact h w
    · rcases hor with h' | h'
      · exact h'.2 w (hS h)
      · exact h' w
  intro fuel
  induction fuel with
  | zero =>
    intro listed a w _ hS hn _ hr hy H
    refine ⟨fun h => (by rw [h] at hr; cases hr), fun j hj => ?_⟩
    by_cases hji : j = i
    · subst hji
      exact hy.wpOp hi (hS0 listed w hS hn) ⟨fun h => hS (noneL_of h), H⟩
    · have hm := ready_mono hj hji
      rw [H.1] at hm
      cases hm
  | succ fuel ih =>
    intro listed a w hc hS hn hfree hr hy H
    refine ⟨fun h => (by rw [h] at hr; cases hr), fun j hj => ?_⟩
    by_cases hji : j = i
    · subst hji
      exact hy.wpOp hi (hS0 listed w hS hn) ⟨fun h => hS (noneL_of h), H⟩
    · have hu := (mem_ready.1 hr).1
      have h1 := H.2 j (ready_mono hj hji)
      have hn' : (∀ w, S0 w) ∨ noneL Ls (listed.setIfInBounds j true) = true := by
        rcases hn with h | h
        · exact .inl h
        · rcases hor with h' | h'
          · exact .inr (noneL_set (fun e => late_not hc (lateAll_spec h'.1 e) hu hj) h)
          · exact .inl h'
      obtain ⟨hjun, oj, hoj, hall⟩ := mem_ready.1 hj
      have hnot : ∀ e ∈ oj.after, Region.binds md e = true → e.on ≠ i := fun e he hb heq => by
        have h2 := hall e he hb
        rw [heq] at h2
        rw [getD_ft h2] at hu
        cases hu
      have h2 := wpOp_putIf hoj (hfree j oj hoj hji hjun hnot) (fun cs b => hsel i oi cs b hi) (fun cs b => hsel j oj cs b hoj) hQ hy h1
      have hfree' : ∀ k ok, ops[k]? = some ok → k ≠ i → (listed.setIfInBounds j true).getD k true = false →
          (∀ e ∈ ok.after, Region.binds md e = true → e.on ≠ i) → oi.apart ops ok = true := fun k ok hk hki hun hno => by
        by_cases hjk : j = k
        · subst hjk
          exact hfree j ok hk hki hjun hno
        · rw [getD_set_ne true hjk] at hun
          exact hfree k ok hk hki hun hno
      refine wpOp_mono (fun a' w' h3 => ?_) h2
      have hS' : noneL Ls (listed.setIfInBounds j true) = true → S w' := fun h => h3.2.1 (by
        rw [Array.setIfInBounds_comm _ _ (Ne.symm hji)]
        exact noneL_set hiL h)
      refine ⟨hS', ih (listed.setIfInBounds j true) a' w' (hc.set hj) hS' hn' hfree' (ready_mono hr (Ne.symm hji)) h3.1 ?_⟩
      rw [Array.setIfInBounds_comm _ _ hji]
      exact h3.2.2

/-- a load: taken first, under S -/
theorem take_L {i : Nat} {oi : Oper} {d : Option Nat} {v : Value} {fuel : Nat} {listed : Array Bool} {a : Act} {w : World} (p : List Nat) (hL : lateAll md ops Ls p i = true) (hc : closedB md ops listed = true) (hn : noneL Ls listed = true) (hiL : Ls.contains i = false) (hi : ops[i]? = some oi) (hd : oi.dst = d)
    (hs : Region.noSelect ops = true) (hf : Region.free md ops listed i = true) (hr : (Region.ready md ops listed).contains i = true)
    (hQ : ∀ c a w, Q (.panic c) (a.put d v) w → Q (.panic c) a w) (hy : YieldsIf P ops S oi v a) (hS : S w)
    (h : wpAnyL P md ops Q S Ls fuel (listed.setIfInBounds i true) (a.put d v) w) : wpAnyL P md ops Q S Ls (fuel + 1) listed a w := by
  subst hd
  exact wpAnyL_first hi (Region.noSelect_spec hs) hQ (fun e => by simp [e] at hiL) p (.inl ⟨hL, fun _ h => h⟩) fuel listed a w (closedB_spec hc) (fun _ => hS) (.inr hn) (Region.free_spec hi hf) (by simpa using hr) hy h
/-- what yields in whatever world: taken first -/
theorem take_F {i : Nat} {oi : Oper} {d : Option Nat} {v : Value} {fuel : Nat} {listed : Array Bool} {a : Act} {w : World} (hc : closedB md ops listed = true) (hiL : Ls.contains i = false) (hi : ops[i]? = some oi) (hd : oi.dst = d)
    (hs : Region.noSelect ops = true) (hf : Region.free md ops listed i = true) (hr : (Region.ready md ops listed).contains i = true)
    (hQ : ∀ c a w, Q (.panic c) (a.put d v) w → Q (.panic c) a w) (hy : YieldsIf P ops (fun _ => True) oi v a) (hS : S w)
    (h : wpAnyL P md ops Q S Ls fuel (listed.setIfInBounds i true) (a.put d v) w) : wpAnyL P md ops Q S Ls (fuel + 1) listed a w := by
  subst hd
  exact wpAnyL_first (S0 := fun _ => True) hi (Region.noSelect_spec hs) hQ (fun e => by simp [e] at hiL) [] (.inr fun _ => trivial) fuel listed a w (closedB_spec hc) (fun _ => hS) (.inl fun _ => trivial) (Region.free_spec hi hf) (by simpa using hr) hy h
/-- the only operation that may come up; S is shown anew -/
theorem call_L {i : Nat} {o : Oper} {d : Option Nat} {fuel : Nat} {listed : Array Bool} {a : Act} {w : World} (ho : ops[i]? = some o) (hd : o.dst = d) (hr : Region.ready md ops listed = [i])
    (h : ∀ K' : Act → World → Prop, Shut (∀ a w, S w → (S w → wpAnyL P md ops Q S Ls fuel (listed.setIfInBounds i true) a w) → K' a w) → if Region.wanted o (yielded ops a.tmps) = true then Oper.wp P o a w K' Q else K' (a.put d undef) w) :
    wpAnyL P md ops Q S Ls (fuel + 1) listed a w := by
  subst hd
  refine ⟨fun h0 => absurd (h0.symm.trans hr) (by simp), fun j hj => ?_⟩
  rw [hr] at hj
  obtain rfl := List.mem_singleton.1 hj
  exact wpOp_step ho (fun K' hK => h K' (fun a w hS hW => hK a w ⟨fun _ => hS, hW hS⟩))
/-- two operations that may come up -/
theorem both_L {i j : Nat} {oi oj : Oper} {di dj : Option Nat} {fuel : Nat} {listed : Array Bool} {a : Act} {w : World} (hoi : ops[i]? = some oi) (hdi : oi.dst = di) (hoj : ops[j]? = some oj) (hdj : oj.dst = dj) (hr : Region.ready md ops listed = [i, j])
    (h1 : ∀ K' : Act → World → Prop, Shut (∀ a w, S w → (S w → wpAnyL P md ops Q S Ls fuel (listed.setIfInBounds i true) a w) → K' a w) → if Region.wanted oi (yielded ops a.tmps) = true then Oper.wp P oi a w K' Q else K' (a.put di undef) w)
    (h2 : ∀ K' : Act → World → Prop, Shut (∀ a w, S w → (S w → wpAnyL P md ops Q S Ls fuel (listed.setIfInBounds j true) a w) → K' a w) → if Region.wanted oj (yielded ops a.tmps) = true then Oper.wp P oj a w K' Q else K' (a.put dj undef) w) :
    wpAnyL P md ops Q S Ls (fuel + 1) listed a w := by
  subst hdi
  subst hdj
  refine ⟨fun h0 => absurd (h0.symm.trans hr) (by simp), fun k hk => ?_⟩
  rw [hr] at hk
  rcases List.mem_cons.1 hk with rfl | hk
  · exact wpOp_step hoi (fun K' hK => h1 K' (fun a w hS hW => hK a w ⟨fun _ => hS, hW hS⟩))
  · obtain rfl := List.mem_singleton.1 hk
    exact wpOp_step hoj (fun K' hK => h2 K' (fun a w hS hW => hK a w ⟨fun _ => hS, hW hS⟩))
/-- .. and S is not asked -/
theorem late_L {i : Nat} {o : Oper} {d : Option Nat} {fuel : Nat} {listed : Array Bool} {a : Act} {w : World} (hi : noneL Ls (listed.setIfInBounds i true) = false) (ho : ops[i]? = some o) (hd : o.dst = d) (hr : Region.ready md ops listed = [i])
    (h : ∀ K' : Act → World → Prop, Shut (∀ a w, wpAnyL P md ops Q S Ls fuel (listed.setIfInBounds i true) a w → K' a w) → if Region.wanted o (yielded ops a.tmps) = true then Oper.wp P o a w K' Q else K' (a.put d undef) w) :
    wpAnyL P md ops Q S Ls (fuel + 1) listed a w := by
  subst hd
  refine ⟨fun h0 => absurd (h0.symm.trans hr) (by simp), fun j hj => ?_⟩
  rw [hr] at hj
  obtain rfl := List.mem_singleton.1 hj
  exact wpOp_step ho (fun K' hK => h K' (fun a w hW => hK a w ⟨fun hne => absurd (hi.symm.trans hne) (by simp), hW⟩))
theorem done_L {listed : Array Bool} {a : Act} {w : World} (hr : Region.ready md ops listed = []) (h : Q .normal a w) : ∀ fuel, wpAnyL P md ops Q S Ls fuel listed a w
  | 0 => ⟨hr, h⟩
  | _ + 1 => ⟨fun _ => h, by rw [hr]; simp⟩
theorem wp_region_L {id : Nat} {a : Act} {w : World} (Ls : List Nat) (S : World → Prop) (hm : P.follows .mixedOrders = true) (hS : S w.drew)
    (h : S w.drew → wpAnyL P .any ops Q S Ls ops.size (Array.replicate ops.size false) a w.drew) : (Code.region id ops true).wp P Q a w :=
  wp_region_any hm (wpAny_of_L _ _ _ _ (h hS))
end
end Go.Proofs.YtbfhlkpicehnlaaDoor
/- l01Dec of every number (the negative ones too). -/
namespace Go.Proofs.YtbfhlkpicehnlaaDoor
open Go.RowKit Go.Joins

theorem decS_neg (n : Nat) (hn : 0 < n) : decS (-(n : Int)) = ⟨#[45]⟩ ++ ⟨(Lib.decDigits n).toArray⟩ := by
  unfold decS Lib.itoa
  rw [if_pos (by omega)]
  refine ba_inj ?_
  rw [ByteArray.toList_eq, ByteArray.toList_eq]
  simp
theorem nDig19 (u : Nat) (h : u ≤ 9223372036854775808) : Lib.nDigits u ≤ 19 := by
  have key : ∀ (k u : Nat), u < 10 ^ (k + 1) → Lib.nDigits u ≤ k + 1 := by
    intro k
    induction k with
    | zero => intro u hu; rw [Lib.nDigits_small (by simpa using hu)]; omega
    | succ k ih =>
      intro u hu
      by_cases h10 : u < 10
      · rw [Lib.nDigits_small h10]; omega
      · rw [Lib.nDigits_big h10]
        have := ih (u / 10) (by rw [Nat.pow_succ] at hu; omega)
        omega
  refine key 18 u ?_
  have : (10 : Nat) ^ (18 + 1) = 10000000000000000000 := by decide
  omega
theorem tdiv_neg10 (k : Nat) : Int.tdiv (-(k : Int)) 10 = -((k / 10 : Nat) : Int) := by
  rw [Int.neg_tdiv, Int.tdiv_eq_ediv_of_nonneg (by omega)]; omega
theorem tmod_neg10 (k : Nat) : Int.tmod (-(k : Int)) 10 = -((k % 10 : Nat) : Int) := by
  rw [Int.neg_tmod, Int.tmod_eq_emod_of_nonneg (by omega)]; omega

set_option maxRecDepth 100000 in
set_option maxHeartbeats 1600000 in
theorem l01Dec_neg (n : Nat) (w : World) (hn0 : 0 < n) (hn : n ≤ 9223372036854775808) :
    Calls Tryd.prog 16 #[.int .i64 (-(n : Int))] w fun e w' => e = .returned (.string (decS (-(n : Int)))) ∧ Below w.heap.size w w' := by
  have Hn := Lib.hid hn; clear hn
  have Hn0 := Lib.hid hn0; clear hn0
  obtain ⟨N, hN⟩ : ∃ N : Int, -(n : Int) = N := ⟨_, rfl⟩
  rw [hN]
  have HN := Lib.hid hN
  have hneg : N < 0 := by have := Hn0.out; omega
  clear hN
  go_enter Tryd.func16, Tryd.ntmps16
  go_wp2_with fail
  go_loopw [3, 4] (fun v i wr => ∃ (k : Nat) (acc : List UInt8) (g c : Nat), i = .int .i64 (-(k : Int)) ∧ v = .slice (some ⟨g, 0, none⟩) acc.length c ∧ wr.ownsRow w.heap.size 5 1 v acc.length (acc.map byV) ∧
      ddL n [] = ddL k acc ∧ Hid (k * 10 ^ acc.length ≤ 9223372036854775808) ∧ Hid (k ≤ n) ∧ Below w.heap.size w wr) (fun _ i _ => (intOf i).natAbs)
  case atStart => exact ⟨n, [], w.heap.size, 0, by rw [HN.out], rfl, World.ownsRow_made w #[] 0 (Nat.le_refl _) (by simp [maxLen]) rfl, rfl, Lib.hid (by have := Hn.out; simp; omega), Lib.hid (Nat.le_refl _), (Below.refl _ _).alloc (Nat.le_refl _) _⟩
  case round =>
    obtain ⟨k, acc, g, c, rfl, rfl, hown, hdd, hp, hkn, hbl⟩ := hrel
    have Hdd := Lib.hid hdd; clear hdd
    by_cases hlt : 0 < k
    · have hL : acc.length ≤ 18 := len19 k acc.length hlt hp.out
      have hd := digB' k
      have Hst := Lib.hid (ddL_step k acc hlt)
      have hk8 : k ≤ 9223372036854775808 := by have := hkn.out; have := Hn.out; omega
      generalize UInt8.ofNat (48 + k % 10) = d at *
      have hnew := World.ownsRow_lit (base := w.heap.size) (e := 5) (size := 1) wr #[.int .u8 (d.toNat : Int)] 1 hbl.size (by simp [maxLen]) rfl
      have hcells := (hown.alloc (.cells #[.int .u8 (d.toNat : Int)] 5)).cells (g := g) rfl
      have hcells' : ∀ j u, (acc.map byV)[j]? = some u → (wr.alloc (.cells #[.int .u8 (d.toNat : Int)] 5)).cell? ⟨g, j, none⟩ = some u := fun j u hu => by
        have := hcells j u hu
        rwa [show (⟨g, 0, none⟩ : Addr).add j = ⟨g, j, none⟩ by unfold Addr.add; split <;> simp_all] at this
      have Hc := Lib.hid hcells'; clear hcells hcells'
      have hq0 := tdiv_neg10 k
      have hr0 := tmod_neg10 k
      obtain ⟨K, hK⟩ : ∃ K : Int, -(k : Int) = K := ⟨_, rfl⟩
      have HK := Lib.hid hK
      rw [hK] at hq0 hr0
      have hne : (K != 0) = true := by rw [bne_iff_ne]; omega
      have hwq : IntKind.i64.wrap (-((k / 10 : Nat) : Int)) = -((k / 10 : Nat) : Int) := IntWalk.i64_in _ (by omega)
      have hwr : IntKind.i64.wrap (-((k % 10 : Nat) : Int)) = -((k % 10 : Nat) : Int) := IntWalk.i64_in _ (by omega)
      obtain ⟨q, hq⟩ : ∃ q : Int, -((k / 10 : Nat) : Int) = q := ⟨_, rfl⟩
      obtain ⟨r, hr⟩ : ∃ r : Int, -((k % 10 : Nat) : Int) = r := ⟨_, rfl⟩
      rw [hq] at hq0 hwq
      rw [hr] at hr0 hwr
      have Hq := Lib.hid hq
      have hr9 : -9 ≤ r ∧ r ≤ 0 := by omega
      obtain ⟨hr9, hr99⟩ := hr9
      rw [hK]
      rcases Int.lt_or_le r 0 with hrn | hrn
      · have hwd : IntKind.i64.wrap (-r) = -r := IntWalk.i64_in _ (by omega)
        have hd' : IntKind.u8.wrap (48 + -r) = (d.toNat : Int) := by rw [← hd, ← hr]; congr 1; omega
        clear hd hK hq hr
        go_wp2_with (at_builtin; refine wpList_app_own 49 5 _ 1 1 Tryd.underlying49 infoB' rfl (by omega) _ _ rfl rfl w.heap.size (.slice (some ⟨wr.heap.size, 0, none⟩) 1 1) 1 _ rfl hnew (by simp) g acc.length c (acc.map byV) rfl Hc.out (by simp) (by simp [byV, Value.oneCell']) (by simp [maxLen]; omega) (by omega) (by simp; have := hbl.size; omega) ?_; intro g' c' w1 hown1 hg1)
        have hb1 : Below w.heap.size w w1 := (hbl.alloc hbl.size _).grown hg1 (by simp; have := hbl.size; omega) (fun x hx => by injection hx with hx; rw [← hx]; exact hbl.size)
        clear Hc hnew
        go_wp2_with fail
        go_roundw
        case rel => exact ⟨k / 10, d :: acc, g', c', by rw [Hq.out], by simp [Nat.add_comm], by simpa [byV, Nat.add_comm] using hown1, by rw [Hdd.out, Hst.out], Lib.hid (pow_step _ _ _ hp.out), Lib.hid (by have := hkn.out; omega), hb1⟩
        case measure => simp [intOf]; have := HK.out; have := Hq.out; omega
      · have hr0' : r = 0 := by omega
        have hd' : IntKind.u8.wrap (48 + r) = (d.toNat : Int) := by rw [← hd]; congr 1; omega
        clear hd hK hq hr hr0'
        go_wp2_with (at_builtin; refine wpList_app_own 49 5 _ 1 1 Tryd.underlying49 infoB' rfl (by omega) _ _ rfl rfl w.heap.size (.slice (some ⟨wr.heap.size, 0, none⟩) 1 1) 1 _ rfl hnew (by simp) g acc.length c (acc.map byV) rfl Hc.out (by simp) (by simp [byV, Value.oneCell']) (by simp [maxLen]; omega) (by omega) (by simp; have := hbl.size; omega) ?_; intro g' c' w1 hown1 hg1)
        have hb1 : Below w.heap.size w w1 := (hbl.alloc hbl.size _).grown hg1 (by simp; have := hbl.size; omega) (fun x hx => by injection hx with hx; rw [← hx]; exact hbl.size)
        clear Hc hnew
        go_wp2_with fail
        go_roundw
        case rel => exact ⟨k / 10, d :: acc, g', c', by rw [Hq.out], by simp [Nat.add_comm], by simpa [byV, Nat.add_comm] using hown1, by rw [Hdd.out, Hst.out], Lib.hid (pow_step _ _ _ hp.out), Lib.hid (by have := hkn.out; omega), hb1⟩
        case measure => simp [intOf]; have := HK.out; have := Hq.out; omega
    · have hk0 : k = 0 := by omega
      subst hk0
      have hacc : Lib.decDigits n = acc := by
        have := Hdd.out
        simpa [ddL, show n ≠ 0 by have := Hn0.out; omega] using this
      have hl : ((acc.length : Int) == 0) = false := by
        have := decDigits_ne n
        rw [hacc] at this
        rw [beq_eq_false_iff_ne]; omega
      have he := Lib.hid (show decS N = ⟨#[45]⟩ ++ ⟨acc.toArray⟩ by rw [← HN.out, decS_neg n Hn0.out, hacc])
      have hconv := run_conv_own (P := Tryd.prog) 49 9 5 Tryd.underlying49 Tryd.underlying5 Tryd.underlying9 _ _ _ _ hown
      have hlen : acc.length ≤ 19 := by
        have h1 := congrArg List.length hacc
        rw [Lib.decDigits_length] at h1
        have := Hn.out
        have h2 : Lib.nDigits n ≤ 19 := nDig19 n (by omega)
        omega
      clear hacc
      go_wp2_with fail
      go_ret
      rw [he.out]; exact ⟨rfl, hbl⟩
theorem l01Dec_any (n : Int) (w : World) (h0 : -9223372036854775808 ≤ n) (h1 : n ≤ 9223372036854775807) :
    Calls Tryd.prog 16 #[.int .i64 n] w fun e w' => e = .returned (.string (decS n)) ∧ Below w.heap.size w w' := by
  rcases Int.lt_or_le n 0 with h | h
  · obtain ⟨m, rfl⟩ : ∃ m : Nat, n = -(m : Int) := ⟨n.natAbs, by omega⟩
    exact l01Dec_neg m w (by omega) (by omega)
  · obtain ⟨m, rfl⟩ : ∃ m : Nat, n = m := ⟨n.toNat, by omega⟩
    exact l01Dec_nonneg m w (by omega)
end Go.Proofs.YtbfhlkpicehnlaaDoor
/- NoteSum: the walks of both sides. -/
namespace Go.Proofs.YtbfhlkpicehnlaaDoor
open Go.RowKit

theorem take_snoc (s : ByteArray) (k : Nat) (h : k < s.size) : s.data.toList.take (k + 1) = s.data.toList.take k ++ [s[k]] := by
  rw [List.take_succ_eq_append_getElem (by simpa using h)]; rfl

/-- the checksum's fold -/
def sumF (s0 : Int) (l : List UInt8) : Int := l.foldl (fun s c => (31 * s + (c.toNat : Int)) % 65521) s0
theorem sumF_snoc (s0 : Int) (l : List UInt8) (c : UInt8) : sumF s0 (l ++ [c]) = (31 * sumF s0 l + (c.toNat : Int)) % 65521 := by simp [sumF]
theorem sumF_bd (s0 : Int) (h0 : 0 ≤ s0) (h1 : s0 < 65521) (l : List UInt8) : 0 ≤ sumF s0 l ∧ sumF s0 l < 65521 := by
  unfold sumF
  induction l generalizing s0 with
  | nil => exact ⟨h0, h1⟩
  | cons c l ih => exact ih _ (by simp only []; omega) (by simp only []; omega)

def noteSum (before number : Int) (l : List UInt8) : Int :=
  if inB before 0 65520 && inB number 0 1000000 then sumF ((before + 7 * number) % 65521) l else 0

end Go.Proofs.YtbfhlkpicehnlaaDoor
/- Journals, part 1: what a note and a line is; isNote, l26Note, l26Head, l26Line, next. -/
namespace Go.Proofs.YtbfhlkpicehnlaaDoor
open Go.RowKit Go.Joins

/-- every byte can be printed -/
def okByte (c : UInt8) : Bool := decide (32 ≤ (c.toNat : Int)) && decide ((c.toNat : Int) ≤ 126)
def noteOk (l : List UInt8) : Bool := l.all okByte && decide (l.length ≤ 60)

theorem ba_mem (s : ByteArray) (k : Nat) (h : k < s.size) : s[k] ∈ s.data.toList := List.getElem_mem (l := s.data.toList) (n := k) (by simpa using h)
theorem noteOk_no (s : ByteArray) (c : UInt8) (hc : c ∈ s.data.toList) (h : okByte c = false) : noteOk s.data.toList = false := by
  unfold noteOk
  rw [Bool.and_eq_false_iff]; left
  rw [List.all_eq_false]
  exact ⟨c, hc, by simp [h]⟩
theorem noteOk_end (s : ByteArray) (k : Nat) (hk : s.size ≤ k) (h : (s.data.toList.take k).all okByte = true) : noteOk s.data.toList = decide ((s.size : Int) ≤ 60) := by
  unfold noteOk
  rw [List.take_of_length_le (by simpa using hk)] at h
  rw [h, Bool.true_and, show s.data.toList.length = s.size from rfl, Bool.eq_iff_iff]
  simp; omega
theorem all_snoc (s : ByteArray) (k : Nat) (hlt : k < s.size) (h : (s.data.toList.take k).all okByte = true) (hc : okByte s[k] = true) : (s.data.toList.take (k + 1)).all okByte = true := by
  rw [take_snoc s k hlt, List.all_append, h]; simpa using hc

end Go.Proofs.YtbfhlkpicehnlaaDoor
/- Journals, part 2: lines. -/
namespace Go.Proofs.YtbfhlkpicehnlaaDoor
open Go.RowKit Go.Joins

theorem nDig_le (u : Nat) (h : u ≤ 9223372036854775808) : Lib.nDigits u ≤ 19 := by
  have key : ∀ (k u : Nat), u < 10 ^ (k + 1) → Lib.nDigits u ≤ k + 1 := by
    intro k
    induction k with
    | zero => intro u hu; rw [Lib.nDigits_small (by simpa using hu)]; omega
    | succ k ih =>
      intro u hu
      by_cases h10 : u < 10
      · rw [Lib.nDigits_small h10]; omega
      · rw [Lib.nDigits_big h10]
        have := ih (u / 10) (by rw [Nat.pow_succ] at hu; omega)
        omega
  refine key 18 u ?_
  have : (10 : Nat) ^ (18 + 1) = 10000000000000000000 := by decide
  omega
theorem decS_size (n : Int) (h0 : -9223372036854775808 ≤ n) (h1 : n ≤ 9223372036854775807) : (decS n).size ≤ 20 := by
  show (Lib.itoa n).toArray.size ≤ 20
  unfold Lib.itoa
  split
  · have := nDig_le n.natAbs (by omega)
    simp only [List.size_toArray, List.length_cons, Lib.decDigits_length]; omega
  · have := nDig_le n.toNat (by omega)
    simp only [List.size_toArray, Lib.decDigits_length]; omega

/-- the beginning of a line, and a line -/
def headS (number sum : Int) : ByteArray := decS number ++ ⟨#[32]⟩ ++ decS sum ++ ⟨#[32]⟩
def lineS (number sum : Int) (note : ByteArray) : ByteArray := headS number sum ++ note ++ ⟨#[10]⟩
theorem headS_size (number sum : Int) (h0 : 0 ≤ number) (h1 : number ≤ 1000001) (h2 : 0 ≤ sum) (h3 : sum ≤ 1000001) : (headS number sum).size ≤ 42 := by
  have := decS_size number (by omega) (by omega)
  have := decS_size sum (by omega) (by omega)
  unfold headS
  simp only [ByteArray.size_append]
  show _ + 1 + _ + 1 ≤ _
  omega
theorem lineS_size (number sum : Int) (note : ByteArray) (h0 : 0 ≤ number) (h1 : number ≤ 1000001) (h2 : 0 ≤ sum) (h3 : sum ≤ 1000001) : (lineS number sum note).size ≤ note.size + 43 := by
  have := headS_size number sum h0 h1 h2 h3
  unfold lineS
  simp only [ByteArray.size_append]
  show _ + _ + 1 ≤ _
  omega

theorem noteSum_bd (before number : Int) (l : List UInt8) : 0 ≤ noteSum before number l ∧ noteSum before number l < 65521 := by
  unfold noteSum
  split
  · exact sumF_bd _ (by omega) (by omega) l
  · omega

end Go.Proofs.YtbfhlkpicehnlaaDoor
/- An index of words, part 4: WordIndex of the program. -/
namespace Go.Proofs.YtbfhlkpicehnlaaDoor
open Go.RowKit Go.Joins Go.Maps

theorem own_slW {w : World} {base n size : Nat} {e : TypeId} {v : Value} {cs : List Value} (h : w.ownsRow base e size v n cs) : ∃ A c, v = .slice A n c := by
  obtain ⟨_, A, c, hv, _⟩ := Rd.of_own h
  exact ⟨A, c, hv⟩
def idxR (xs : List Ent) : List ByteArray := if entsOk xs = true then idxL decS xs else []
def idxC (xs : List Ent) : Int := if entsOk xs = true then 0 else 1
theorem idxR_len (xs : List Ent) : (idxR xs).length ≤ 1048576 := by
  unfold idxR
  split
  · rename_i h
    have := idxL_len (dc := decS) (entsOk_ok h)
    omega
  · exact Nat.zero_le _
theorem infoStrW : (Tryd.prog.info? 9).map (fun i => (i.zero, i.size, i.bytes)) = some (some (.string ⟨#[]⟩), 1, 16) := by kernel_rfl
theorem own_neW {w : World} {base n sz g : Nat} {e t : TypeId} {v : Value} {xs : List Value} {cs : Array Value} {f : Nat × Nat} (h : w.ownsRow base e sz v n xs) (hg : w.heap[g]? = some (.cells cs t f)) (hne : e ≠ t) : v.ownBlock ≠ some g := by
  rcases h.2 with ⟨rfl, _⟩ | ⟨g1, cap1, cur1, rfl, _, hg1, _⟩
  · simp [Value.ownBlock]
  · intro he
    obtain rfl : g1 = g := by simpa [Value.ownBlock] using he
    rw [hg1] at hg
    injection hg with hg
    injection hg with _ h2
    exact hne h2
theorem rd_word {w : World} {B n c : Nat} {A : Option Addr} {l : List ByteArray} (h : Rd w B (.slice A n c) n 1 (strs l)) (hn : l.length = n) (h0 : 0 < n) : ∃ b off, A = some ⟨b, off, none⟩ ∧ ∀ i (hi : i < l.length), w.cell? ⟨b, off + i, none⟩ = some (.string l[i]) := by
  obtain ⟨_, A0, c0, hv, hc⟩ := h
  injection hv with e1 e2 e3
  subst e1
  obtain ⟨b, off, hA, _, hcc⟩ := hc (by omega)
  exact ⟨b, off, hA, fun i hi => hcc i _ (strs_at l i hi)⟩
/-- lines of the call's own, and a code -/
def RetWx (c : Int) (L : List ByteArray) (w : World) (e : Ending) (w' : World) : Prop := ∃ v, e = .returned (.tuple #[v, .int .i64 c]) ∧ w'.ownsRow w.heap.size 9 1 v L.length (strs L) ∧ Below w.heap.size w w'
theorem RetWx.bad {xs : List Ent} {w w' : World} (h : entsOk xs = false) (hb : Below w.heap.size w w') : RetWx (idxC xs) (idxR xs) w (.returned (.tuple #[.slice none 0 0, .int .i64 1])) w' := by
  unfold idxC idxR
  rw [h, if_neg (by simp), if_neg (by simp)]
  exact ⟨_, rfl, ⟨rfl, .inl ⟨rfl, rfl⟩⟩, hb⟩
theorem dec20 (n : Int) (h0 : 1 ≤ n) (h1 : n ≤ 1000000) : (decS n).size ≤ 20 := decS_size n (by omega) (by omega)
theorem strs_snoc (l : List ByteArray) (x : ByteArray) : strs l ++ (#[Value.string x] : Array Value).toList = strs (l ++ [x]) := by unfold strs; simp
set_option maxRecDepth 100000 in
set_option maxHeartbeats 6400000 in
theorem WordI_any (B : Nat) (v : Value) (xs : List Ent) (w : World) (h : RdE w B v xs) (hB : B ≤ w.heap.size) (hl : xs.length ≤ 1048576) (hsm : ∀ x ∈ xs, smE x) (ht : Tab w) :
    Calls Tryd.prog 7 #[v] w (RetWx (idxC xs) (idxR xs) w) := by
  have HV := Lib.hid (ValidI_any B v xs w h hB hl hsm)
  have H := Lib.hid h
  have Hsm := Lib.hid hsm
  have Ht := Lib.hid ht
  obtain ⟨A, c, rfl⟩ := h.slice
  clear h hsm ht
  cases hok : entsOk xs with
  | false =>
    have Hz := Lib.hid (fun w' (hb : Below w.heap.size w w') => RetWx.bad hok hb)
    rw [hok] at HV
    clear hok
    go_enter Tryd.func7, Tryd.ntmps7
    go_wp2_with fail
    refine HV.out.mono ?_; rintro e w1 ⟨rfl, hb1⟩
    have Hy := Lib.hid (Hz.out w1 hb1)
    clear hb1
    go_wp2_with fail
    go_ret2
    exact Hy.out
  | true =>
    have HK := Lib.hid (entsOk_ok hok)
    have eR := Lib.hid (show idxR xs = idxL decS xs by unfold idxR; rw [if_pos hok])
    have eC := Lib.hid (show idxC xs = 0 by unfold idxC; rw [if_pos hok])
    have hl50 := HK.out.len
    rw [hok] at HV
    clear hok
    have hmm := @run_makeMap Tryd.prog
    go_enter Tryd.func7, Tryd.ntmps7
    go_wp2_with fail
    refine HV.out.mono ?_; rintro e w1 ⟨rfl, hb1⟩
    have Hb1 := Lib.hid hb1
    have HM0 := TxMap.made w1 (lnW decS [])
    have hma := (Below.refl w1.heap.size w1).alloc (Nat.le_refl _) (.map #[] 0)
    have hmb := (Below.refl (w1.alloc (.map #[] 0)).heap.size (w1.alloc (.map #[] 0))).alloc (Nat.le_refl _) (.cells #[] 9)
    have HM1 := Lib.hid ((HM0.below hmb).cong (n' := 0) (h' := memW (dst (wdP xs 0 0))) (f' := lnW decS (visP xs 0 0)) (Nat.le_refl _) (fun s => by rw [wdP_start]; rfl) (fun s hs => by cases hs))
    have hom := World.ownsRow_made (base := (w1.alloc (.map #[] 0)).heap.size) (e := 9) (size := 1) (w1.alloc (.map #[] 0)) #[] 0 (Nat.le_refl _) (by simp [maxLen]) rfl
    have hpm : (w1.alloc (.map #[] 0)).heap.size = w1.heap.size + 1 := by simp
    rw [hpm] at hom
    have HO1 := Lib.hid (show ((w1.alloc (.map #[] 0)).alloc (.cells #[] 9)).ownsRow (w1.heap.size + 1) 9 1 (.slice (some ⟨w1.heap.size + 1, 0, none⟩) 0 0) (dst (wdP xs 0 0)).length (strs (dst (wdP xs 0 0))) from by rw [wdP_start]; exact hom)
    have HB1 := Lib.hid (hb1.trans ((hma.trans (hmb.mono (by simp))).mono hb1.size))
    have hpq : w.heap.size ≤ w1.heap.size := hb1.size
    clear hb1 HM0 hma hmb hom hpm HV
    go_wp2_with fail
    obtain ⟨pm, hpm⟩ : ∃ z, w1.heap.size = z := ⟨_, rfl⟩
    rw [hpm] at HM1 HO1 hpq ⊢
    clear hmm
    go_loopw [5, 22] (fun o i wr => ∃ (k : Nat) (nn : Nat), k ≤ xs.length ∧ i = .int .i64 (k : Int) ∧ nn ≤ k * 16 ∧ wr.ownsRow (pm + 1) 9 1 o (dst (wdP xs k 0)).length (strs (dst (wdP xs k 0))) ∧ TxMap wr pm nn (memW (dst (wdP xs k 0))) (lnW decS (visP xs k 0)) ∧ Below w.heap.size w wr) (fun _ i _ => xs.length - (intOf i).toNat)
    case atStart => exact ⟨0, 0, Nat.zero_le _, rfl, Nat.le_refl _, HO1.out, HM1.out, HB1.out⟩
    case round =>
      clear HM1 HO1 HB1
      obtain ⟨k, nn, hk, rfl, hnn, ho, hm, hbl⟩ := hrel
      obtain ⟨A5, c5, rfl⟩ := own_slW ho
      by_cases hlt : k < xs.length
      · have hlt' : (k : Int) < (xs.length : Int) := by omega
        obtain ⟨gb, ob, A', c', hA, hat0⟩ := H.out.at k hlt
        subst hA
        rw [← eg_at hlt] at hat0
        have HWw := Lib.hid hat0.words
        have hat := hat0.below (hbl.mono hB)
        clear hat0
        have Ho := Lib.hid ho
        have Hm := Lib.hid hm
        have Hbl := Lib.hid hbl
        have hw8 := HK.out.wds k hlt
        have hnum := HK.out.num k hlt
        have hsmx : smE (eg xs k) := by rw [eg_at hlt]; exact Hsm.out _ (List.getElem_mem hlt)
        have Hwz := Lib.hid hsmx.2.2.2
        have HVs := Lib.hid (fun j hj => visP_step xs (k := k) (j := j) hj)
        have HDs := Lib.hid (fun j hj => wdP_step xs (k := k) (j := j) hj)
        have HVa := Lib.hid (visP_all hlt)
        have HDa := Lib.hid (wdP_all hlt)
        have HLz := Lib.hid (fun j (hj : j ≤ 8) wd => lnP_size decS dec20 HK.out (k := k) (j := j) hlt hj wd)
        have HDn := Lib.hid (fun wx hx => Decimal_any (eg xs k).num wx (by omega) (by omega) hx)
        have hds := decS_size (eg xs k).num (by omega) (by omega)
        have hdl := Lib.hid (fun j (hj : j ≤ 8) => Nat.le_trans (dst_len (wdP xs k j)) (wdP_len HK.out (k := k) (j := j) (by omega) hj))
        obtain ⟨hbB, p0, p1, p2, p3, p4, hws⟩ := hat
        have HW := Lib.hid hws
        have hba := (Below.refl wr.heap.size wr).alloc (Nat.le_refl _) (.cells #[.int .i64 (eg xs k).num, .string (eg xs k).name, .string (eg xs k).maker, .int .i64 (eg xs k).year, .slice A' (eg xs k).words.length c'] 38)
        have HCa := Lib.hid (heap_alloc_new wr (.cells #[.int .i64 (eg xs k).num, .string (eg xs k).name, .string (eg xs k).maker, .int .i64 (eg xs k).year, .slice A' (eg xs k).words.length c'] 38))
        have HOa := Lib.hid (own_below ho hba)
        have HMa := Lib.hid (hm.below hba)
        have HBa := Lib.hid (hbl.trans (hba.mono hbl.size))
        have HWa := Lib.hid (hws.below (hba.mono (Nat.le_trans hB hbl.size)))
        have hpmr : pm < wr.heap.size := hm.lt
        clear hsmx ho hm hbl hws hba Ho Hm Hbl HW
        go_upto_region 7 with (fail)
        generalize wr.alloc (.cells #[.int .i64 (eg xs k).num, .string (eg xs k).name, .string (eg xs k).maker, .int .i64 (eg xs k).year, .slice A' (eg xs k).words.length c'] 38) = wa at *
        generalize wr.heap.size = ga at *
        obtain ⟨y0, y1, y2, y3, y4⟩ := five_at HCa.out
        clear p0 p1 p2 p3 p4
        obtain ⟨nl, hnl⟩ : ∃ z, (eg xs k).words.length = z := ⟨_, rfl⟩
        have Hnl := Lib.hid hnl
        rw [hnl] at y4 hw8 HWa HVa HDa HCa
        clear hnl y1 y2 y3
        generalize (eg xs k).name = nm at *
        generalize (eg xs k).maker = mk at *
        generalize (eg xs k).year = yr at *
        generalize hN : (eg xs k).num = N at *
        clear hN
        go_wp2_with fail
        go_loopw [5, 29] (fun o i wr => ∃ (j n2 : Nat), j ≤ nl ∧ i = .int .i64 (j : Int) ∧ n2 ≤ k * 16 + j * 2 ∧ wr.ownsRow (pm + 1) 9 1 o (dst (wdP xs k j)).length (strs (dst (wdP xs k j))) ∧ TxMap wr pm n2 (memW (dst (wdP xs k j))) (lnW decS (visP xs k j)) ∧ wr.heap[ga]? = some (.cells #[.int .i64 N, .string nm, .string mk, .int .i64 yr, .slice A' nl c'] 38 (0, 0)) ∧ Below w.heap.size w wr) (fun _ i _ => nl - (intOf i).toNat)
        case atStart => exact ⟨0, nn, Nat.zero_le _, rfl, by omega, HOa.out, HMa.out, HCa.out, HBa.out⟩
        case round =>
          clear HOa HMa HBa HWa y0 y4 HCa
          obtain ⟨j, n2, hj, rfl, hn2, ho, hm, hq, hbl⟩ := hrel
          obtain ⟨A6, c6, rfl⟩ := own_slW ho
          by_cases hjl : j < nl
          · have hjl' : (j : Int) < (nl : Int) := by omega
            have hjw : j < (eg xs k).words.length := by rw [Hnl.out]; exact hjl
            have hws2 := HWw.out.below (hbl.mono hB)
            rw [Hnl.out] at hws2
            obtain ⟨b7, o7, hA8, hcc⟩ := rd_word hws2 Hnl.out (by omega)
            subst hA8
            have q1 := hcc j hjw
            have hzs := Hwz.out _ (List.getElem_mem hjw)
            have HDj := Lib.hid (HDs.out j hjw)
            have HVj := Lib.hid (HVs.out j hjw)
            have hlz := HLz.out j (by omega) (eg xs k).words[j]
            have hdj := hdl.out j (by omega)
            have hdj1 := hdl.out (j + 1) (by omega)
            obtain ⟨x0, -⟩ := five_at hq
            clear hws2 hcc
            generalize (eg xs k).words[j] = z at *
            have hlook2 := hm.look2 z (by simp only [maxLen]; omega)
            have Hnum := Lib.hid hnum
            have hz63 : z.size ≤ maxLen := by simp only [maxLen]; omega
            have e1 : (⟨#[32]⟩ ++ decS N : ByteArray).size = 1 + (decS N).size := ByteArray.size_append
            cases hmem : memW (dst (wdP xs k j)) z with
            | true =>
              rw [hmem, if_pos rfl] at hlook2
              have HO := Lib.hid ho
              have HM := Lib.hid hm
              have HQ := Lib.hid hq
              have HB := Lib.hid hbl
              have HCn := Lib.hid (show dst (wdP xs k (j + 1)) = dst (wdP xs k j) by rw [HDj.out]; exact dst_old (memW_iff.1 hmem))
              have Hmem := Lib.hid hmem
              clear ho hm hq hbl hmem
              generalize hcur : lnW decS (visP xs k j) z = cur at *
              have Hcur := Lib.hid hcur
              clear hcur
              go_upto_region 14 with (fail)
              have hgal : ga < wr.heap.size := (Array.getElem?_eq_some_iff.1 HQ.out).1
              have hM0 := HM.out.below ((Below.refl wr.heap.size wr).drew)
              have hO0 := HO.out.drewN 1
              have hacc : Below w.heap.size w wr.drew := HB.out.drew
              have hac2 : Below wr.heap.size wr wr.drew := (Below.refl _ _).drew
              have hx0 : wr.drew.cell? ⟨ga, 0, none⟩ = some (.int .i64 N) := x0
              refine wp_region_noPanic ?_
              refine wp_region_L [8] (fun w' => w'.cell? ⟨ga, 0, none⟩ = some (.int .i64 N) ∧ TxMap w' pm n2 (memW (dst (wdP xs k j))) (lnW decS (visP xs k j))) (by kernel_rfl) (⟨hx0, hM0⟩) (fun hHeld => ?_)
              refine take_F (i := 0) (d := some 49) (v := ?_) (by kernel_rfl) (by kernel_rfl) rfl rfl (by kernel_rfl) (by kernel_rfl) (by kernel_rfl) (fun _ _ _ h => h) (Or.inl ⟨by rfl, ?_⟩) (by assumption) ?_
              rotate_left
              · (intro w hSw; (try dsimp only at hSw); go_simp; (try rw [if_neg (by omega)]); (try (with_reducible rfl)))
              simp only [Act.put, List.setIfInBounds_toArray, List.set_cons_zero, List.set_cons_succ]
              refine take_F (i := 1) (d := some 50) (v := ?_) (by kernel_rfl) (by kernel_rfl) rfl rfl (by kernel_rfl) (by kernel_rfl) (by kernel_rfl) (fun _ _ _ h => h) (Or.inl ⟨by rfl, ?_⟩) (by assumption) ?_
              rotate_left
              · (intro w hSw; (try dsimp only at hSw); go_simp; (try rw [if_neg (by omega)]); (try (with_reducible rfl)))
              simp only [Act.put, List.setIfInBounds_toArray, List.set_cons_zero, List.set_cons_succ]
              refine take_F (i := 3) (d := some 52) (v := ?_) (by kernel_rfl) (by kernel_rfl) rfl rfl (by kernel_rfl) (by kernel_rfl) (by kernel_rfl) (fun _ _ _ h => h) (Or.inl ⟨by rfl, ?_⟩) (by assumption) ?_
              rotate_left
              · (intro w hSw; (try dsimp only at hSw); go_simp; (try rw [if_neg (by omega)]); (try (with_reducible rfl)))
              simp only [Act.put, List.setIfInBounds_toArray, List.set_cons_zero, List.set_cons_succ]
              refine take_L [4] (i := 4) (d := some 53) (v := ?_) (by kernel_rfl) (by kernel_rfl) (by kernel_rfl) (by kernel_rfl) rfl rfl (by kernel_rfl) (by kernel_rfl) (by kernel_rfl) (fun _ _ _ h => h) (Or.inl ⟨by rfl, ?_⟩) (by assumption) ?_
              rotate_left
              · (intro w hSw; (try dsimp only at hSw); go_simp; (try rw [if_neg (by omega)]); (try (with_reducible rfl)))
              simp only [Act.put, List.setIfInBounds_toArray, List.set_cons_zero, List.set_cons_succ]
              refine take_L [7,2] (i := 2) (d := some 51) (v := .string cur) (by kernel_rfl) (by kernel_rfl) (by kernel_rfl) (by kernel_rfl) rfl rfl (by kernel_rfl) (by kernel_rfl) (by kernel_rfl) (fun _ _ _ h => h) (Or.inl ⟨by rfl, ?_⟩) (by assumption) ?_
              · intro w hSw
                have hl := hSw.2.look1 z hz63
                rw [Hmem.out, if_pos rfl, Hcur.out] at hl
                go_simp
              simp only [Act.put, List.setIfInBounds_toArray, List.set_cons_zero, List.set_cons_succ]
              refine call_L (i := 5) (d := (some 54)) rfl rfl (by kernel_rfl) (fun Kq hKq => ?_)
              go_simp
              go_at_call 19
              refine (HDn.out _ (Ht.out.below hacc)).mono ?_; rintro e w6 ⟨rfl, hb6⟩
              have hM6 := hM0.below hb6
              have hO6 := own_below hO0 hb6
              have hx6 := (hb6.cell (p := ⟨ga, 0, none⟩) hgal).trans hx0
              have hq6 := (hb6.block ga hgal).trans HQ.out
              have hB6 := hacc.trans (hb6.mono hacc.size)
              obtain ⟨w7, hrun, hM7, hg7⟩ := hM6.upd z (cur ++ (⟨#[32]⟩ ++ decS N)) hz63 (by rw [ByteArray.size_append, e1]; simp only [maxLen]; omega) (by simp only [maxLen]; omega)
              have HM7 := Lib.hid (show TxMap w7 pm (n2 + 1) (memW (dst (wdP xs k (j + 1)))) (lnW decS (visP xs k (j + 1))) from hM7.cong (Nat.le_refl _) (fun s => by rw [HCn.out]; exact tx_old Hmem.out s) (fun s _ => by rw [HVj.out, ← Hcur.out]; exact tx_oldF decS _ z N s))
              have HO7 := Lib.hid (show w7.ownsRow (pm + 1) 9 1 (.slice A6 (dst (wdP xs k j)).length c6) (dst (wdP xs k (j + 1))).length (strs (dst (wdP xs k (j + 1)))) from by rw [HCn.out]; exact hO6.kept hg7 (.inr (own_notmapT hO6 hM6)))
              have HQ7 := Lib.hid ((hg7.block ga (Nat.lt_of_lt_of_le hgal hb6.size) (fun e => by injection e with e; omega)).trans hq6)
              have HB7 := Lib.hid (hB6.grown hg7 hB6.size (fun x hx => by injection hx with e; omega))
              clear hM7 hg7 hO6 hq6 hB6 hacc hac2 hM0 hO0 hb6
              (try go_wp2_with fail)
              refine hKq.out _ _ (⟨hx6, hM6⟩) (fun hHeld => ?_)
              clear hKq Kq
              (try simp only [Act.put, List.setIfInBounds_toArray, List.set_cons_zero, List.set_cons_succ])
              refine take_F (i := 6) (d := some 55) (v := ?_) (by kernel_rfl) (by kernel_rfl) rfl rfl (by kernel_rfl) (by kernel_rfl) (by kernel_rfl) (fun _ _ _ h => h) (Or.inl ⟨by rfl, ?_⟩) (by assumption) ?_
              rotate_left
              · (intro w hSw; (try dsimp only at hSw); go_simp; (try rw [if_neg (by omega)]); (try (with_reducible rfl)))
              simp only [Act.put, List.setIfInBounds_toArray, List.set_cons_zero, List.set_cons_succ]
              refine take_F (i := 7) (d := some 56) (v := ?_) (by kernel_rfl) (by kernel_rfl) rfl rfl (by kernel_rfl) (by kernel_rfl) (by kernel_rfl) (fun _ _ _ h => h) (Or.inl ⟨by rfl, ?_⟩) (by assumption) ?_
              rotate_left
              · (intro w hSw; (try dsimp only at hSw); go_simp; (try rw [if_neg (by omega)]); (try (with_reducible rfl)))
              simp only [Act.put, List.setIfInBounds_toArray, List.set_cons_zero, List.set_cons_succ]
              refine late_L (i := 8) (d := none) (by kernel_rfl) rfl rfl (by kernel_rfl) (fun Kq hKq => ?_)
              go_simp
              refine hKq.out _ _ ?_
              clear hKq Kq
              refine done_L (by kernel_rfl) ?_ _
              refine NoPanic.normal ?_
              clear hM6 hx6 hx0 x0
              go_wp2_with fail
              go_roundw
              case rel => exact ⟨j + 1, n2 + 1, by omega, by go_num, by omega, HO7.out, HM7.out, HQ7.out, HB7.out⟩
              case measure => first | (simp [intOf]; done) | (simp [intOf]; omega)
            | false =>
              rw [hmem, if_neg (by simp)] at hlook2
              have hnm : ¬ z ∈ dst (wdP xs k j) := fun h => by rw [memW_iff.2 h] at hmem; cases hmem
              have HCn := Lib.hid (show dst (wdP xs k (j + 1)) = dst (wdP xs k j) ++ [z] by rw [HDj.out]; exact dst_new hnm)
              have HNv := Lib.hid (show ¬ z ∈ (visP xs k j).map (·.1) from fun h => hnm ((dst_mem _ z).2 h))
              have HO := Lib.hid ho
              have HM := Lib.hid hm
              have HQ := Lib.hid hq
              have HB := Lib.hid hbl
              have hzr : pm + 1 ≤ wr.heap.size := hm.lt
              have e2 : (z ++ ⟨#[58]⟩ : ByteArray).size = z.size + 1 := ByteArray.size_append
              have hz58 : (z ++ ⟨#[58]⟩ : ByteArray).size ≤ maxLen := by rw [e2]; simp only [maxLen]; omega
              have hn63 : n2 < maxLen := by simp only [maxLen]; omega
              clear ho hm hq hbl hmem hnm hlz
              go_upto_region 14 with (at_builtin; refine wpList_apd 24 9 _ 1 16 Tryd.underlying24 infoStrW rfl (by omega) _ _ rfl rfl (pm + 1) _ (dst (wdP xs k j)).length _ rfl HO.out #[.string z] 1 1 rfl rfl (by simp [Value.oneCell']) (by simp [maxLen]; omega) (by omega) hzr ?_; intro v7 w7 hown7 hg7; obtain ⟨A7, c7, rfl⟩ := own_slW hown7; have hM7 := HM.out.kept hg7 (fun e => own_notmapT HO.out HM.out e.symm); have hQ7 := (hg7.block ga (Array.getElem?_eq_some_iff.1 HQ.out).1 (fun e => own_neW HO.out HQ.out (by decide) e.symm)).trans HQ.out; have hB7 := below_apd HB.out HO.out hg7 (by omega) (by omega); obtain ⟨w8, hrun8, hM8, hg8⟩ := hM7.upd z (z ++ ⟨#[58]⟩) hz63 hz58 hn63; have HM8 := Lib.hid hM8; have HO8 := Lib.hid (show w8.ownsRow (pm + 1) 9 1 (.slice A7 ((dst (wdP xs k j)).length + 1) c7) (dst (wdP xs k (j + 1))).length (strs (dst (wdP xs k (j + 1)))) from by rw [HCn.out, ← strs_snoc, List.length_append]; exact hown7.kept hg8 (.inr (own_notmapT hown7 hM7))); have HQ8 := Lib.hid ((hg8.block ga (Array.getElem?_eq_some_iff.1 hQ7).1 (fun e => by injection e with e; have := hM7.lt; omega)).trans hQ7); have HB8 := Lib.hid (hB7.grown hg8 hB7.size (fun x hx => by injection hx with e; omega)); clear hown7 hg7 hM7 hQ7 hB7 hM8 hg8)
              have hx0 : w8.drew.cell? ⟨ga, 0, none⟩ = some (.int .i64 N) := (five_at HQ8.out).1
              have hgal : ga < w8.heap.size := (Array.getElem?_eq_some_iff.1 HQ8.out).1
              have hM0 := HM8.out.below ((Below.refl w8.heap.size w8).drew)
              have hO0 := HO8.out.drewN 1
              have hacc : Below w.heap.size w w8.drew := HB8.out.drew
              refine wp_region_noPanic ?_
              refine wp_region_L [8] (fun w' => w'.cell? ⟨ga, 0, none⟩ = some (.int .i64 N) ∧ TxMap w' pm (n2 + 1) (fun s => decide (s = z) || memW (dst (wdP xs k j)) s) (fun s => if s = z then z ++ ⟨#[58]⟩ else lnW decS (visP xs k j) s)) (by kernel_rfl) (⟨hx0, hM0⟩) (fun hHeld => ?_)
              refine take_F (i := 0) (d := some 49) (v := ?_) (by kernel_rfl) (by kernel_rfl) rfl rfl (by kernel_rfl) (by kernel_rfl) (by kernel_rfl) (fun _ _ _ h => h) (Or.inl ⟨by rfl, ?_⟩) (by assumption) ?_
              rotate_left
              · (intro w hSw; (try dsimp only at hSw); go_simp; (try rw [if_neg (by omega)]); (try (with_reducible rfl)))
              simp only [Act.put, List.setIfInBounds_toArray, List.set_cons_zero, List.set_cons_succ]
              refine take_F (i := 1) (d := some 50) (v := ?_) (by kernel_rfl) (by kernel_rfl) rfl rfl (by kernel_rfl) (by kernel_rfl) (by kernel_rfl) (fun _ _ _ h => h) (Or.inl ⟨by rfl, ?_⟩) (by assumption) ?_
              rotate_left
              · (intro w hSw; (try dsimp only at hSw); go_simp; (try rw [if_neg (by omega)]); (try (with_reducible rfl)))
              simp only [Act.put, List.setIfInBounds_toArray, List.set_cons_zero, List.set_cons_succ]
              refine take_F (i := 3) (d := some 52) (v := ?_) (by kernel_rfl) (by kernel_rfl) rfl rfl (by kernel_rfl) (by kernel_rfl) (by kernel_rfl) (fun _ _ _ h => h) (Or.inl ⟨by rfl, ?_⟩) (by assumption) ?_
              rotate_left
              · (intro w hSw; (try dsimp only at hSw); go_simp; (try rw [if_neg (by omega)]); (try (with_reducible rfl)))
              simp only [Act.put, List.setIfInBounds_toArray, List.set_cons_zero, List.set_cons_succ]
              refine take_L [4] (i := 4) (d := some 53) (v := ?_) (by kernel_rfl) (by kernel_rfl) (by kernel_rfl) (by kernel_rfl) rfl rfl (by kernel_rfl) (by kernel_rfl) (by kernel_rfl) (fun _ _ _ h => h) (Or.inl ⟨by rfl, ?_⟩) (by assumption) ?_
              rotate_left
              · (intro w hSw; (try dsimp only at hSw); go_simp; (try rw [if_neg (by omega)]); (try (with_reducible rfl)))
              simp only [Act.put, List.setIfInBounds_toArray, List.set_cons_zero, List.set_cons_succ]
              refine take_L [7,2] (i := 2) (d := some 51) (v := .string (z ++ ⟨#[58]⟩)) (by kernel_rfl) (by kernel_rfl) (by kernel_rfl) (by kernel_rfl) rfl rfl (by kernel_rfl) (by kernel_rfl) (by kernel_rfl) (fun _ _ _ h => h) (Or.inl ⟨by rfl, ?_⟩) (by assumption) ?_
              · intro w hSw
                have hl := hSw.2.look1 z hz63
                (try dsimp only at hl)
                rw [if_pos (show (decide (z = z) || memW (dst (wdP xs k j)) z) = true by simp), if_pos rfl] at hl
                go_simp
              simp only [Act.put, List.setIfInBounds_toArray, List.set_cons_zero, List.set_cons_succ]
              refine call_L (i := 5) (d := (some 54)) rfl rfl (by kernel_rfl) (fun Kq hKq => ?_)
              go_simp
              go_at_call 19
              refine (HDn.out _ (Ht.out.below hacc)).mono ?_; rintro e w6 ⟨rfl, hb6⟩
              have hM6 := hM0.below hb6
              have hO6 := own_below hO0 hb6
              have hx6 := (hb6.cell (p := ⟨ga, 0, none⟩) hgal).trans hx0
              have hq6 := (hb6.block ga hgal).trans HQ8.out
              have hB6 := hacc.trans (hb6.mono hacc.size)
              obtain ⟨w7, hrun, hM7, hg7⟩ := hM6.upd z (z ++ ⟨#[58]⟩ ++ (⟨#[32]⟩ ++ decS N)) hz63 (by rw [ByteArray.size_append, e1, e2]; simp only [maxLen]; omega) (by simp only [maxLen]; omega)
              have HM7 := Lib.hid (show TxMap w7 pm (n2 + 2) (memW (dst (wdP xs k (j + 1)))) (lnW decS (visP xs k (j + 1))) from hM7.cong (Nat.le_refl _) (fun s => by (try dsimp only); rw [HCn.out, memW_snoc]; cases decide (s = z) <;> rfl) (fun s _ => by rw [HVj.out]; exact tx_newF decS HNv.out N s))
              have HO7 := Lib.hid (hO6.kept hg7 (.inr (own_notmapT hO6 hM6)))
              have HQ7 := Lib.hid ((hg7.block ga (Nat.lt_of_lt_of_le hgal hb6.size) (fun e => by injection e with e; omega)).trans hq6)
              have HB7 := Lib.hid (hB6.grown hg7 hB6.size (fun x hx => by injection hx with e; omega))
              clear hM7 hg7 hO6 hq6 hB6 hacc hM0 hO0 hb6
              (try go_wp2_with fail)
              refine hKq.out _ _ (⟨hx6, hM6⟩) (fun hHeld => ?_)
              clear hKq Kq
              (try simp only [Act.put, List.setIfInBounds_toArray, List.set_cons_zero, List.set_cons_succ])
              refine take_F (i := 6) (d := some 55) (v := ?_) (by kernel_rfl) (by kernel_rfl) rfl rfl (by kernel_rfl) (by kernel_rfl) (by kernel_rfl) (fun _ _ _ h => h) (Or.inl ⟨by rfl, ?_⟩) (by assumption) ?_
              rotate_left
              · (intro w hSw; (try dsimp only at hSw); go_simp; (try rw [if_neg (by omega)]); (try (with_reducible rfl)))
              simp only [Act.put, List.setIfInBounds_toArray, List.set_cons_zero, List.set_cons_succ]
              refine take_F (i := 7) (d := some 56) (v := ?_) (by kernel_rfl) (by kernel_rfl) rfl rfl (by kernel_rfl) (by kernel_rfl) (by kernel_rfl) (fun _ _ _ h => h) (Or.inl ⟨by rfl, ?_⟩) (by assumption) ?_
              rotate_left
              · (intro w hSw; (try dsimp only at hSw); go_simp; (try rw [if_neg (by omega)]); (try (with_reducible rfl)))
              simp only [Act.put, List.setIfInBounds_toArray, List.set_cons_zero, List.set_cons_succ]
              refine late_L (i := 8) (d := none) (by kernel_rfl) rfl rfl (by kernel_rfl) (fun Kq hKq => ?_)
              go_simp
              refine hKq.out _ _ ?_
              clear hKq Kq
              refine done_L (by kernel_rfl) ?_ _
              refine NoPanic.normal ?_
              clear hM6 hx6 hx0
              go_wp2_with fail
              go_roundw
              case rel => exact ⟨j + 1, n2 + 2, by omega, by go_num, by omega, HO7.out, HM7.out, HQ7.out, HB7.out⟩
              case measure => first | (simp [intOf]; done) | (simp [intOf]; omega)
          · obtain rfl : j = nl := by omega
            have hjl' : ¬ ((j : Int) < (j : Int)) := by omega
            rw [HVa.out, HDa.out] at hm
            have HO := Lib.hid (show wr.ownsRow (pm + 1) 9 1 (.slice A6 (dst (wdP xs k j)).length c6) (dst (wdP xs (k + 1) 0)).length (strs (dst (wdP xs (k + 1) 0))) from by rw [← HDa.out]; exact ho)
            have HM := Lib.hid hm
            have HB := Lib.hid hbl
            clear ho hm hbl hq
            go_wp2_with fail
            go_roundw
            case rel => exact ⟨k + 1, n2, by omega, by go_num, by omega, HO.out, HM.out, HB.out⟩
            case measure => first | (simp [intOf]; done) | (simp [intOf]; omega)
      · obtain rfl : k = xs.length := by omega
        have hlt' : ¬ ((xs.length : Int) < (xs.length : Int)) := by omega
        have hdl := Nat.le_trans (dst_len (wdP xs xs.length 0)) (wdP_len HK.out (k := xs.length) (j := 0) (Nat.le_refl _) (by omega))
        have HSt := Lib.hid (sortv_any (pm + 1) (.slice A5 (dst (wdP xs xs.length 0)).length c5) (dst (wdP xs xs.length 0)).length (dst (wdP xs xs.length 0)) wr rfl ho (by omega))
        rw [sort_srtW] at HSt
        have hslen : (srtW (wdP xs xs.length 0)).length = (dst (wdP xs xs.length 0)).length := by
          have := congrArg List.length (sort_srtW (wdP xs xs.length 0))
          rw [List.length_map, List.length_mergeSort, List.length_map] at this
          exact this.symm
        have Hmem := Lib.hid (show ∀ s, s ∈ srtW (wdP xs xs.length 0) → memW (dst (wdP xs xs.length 0)) s = true from fun s hs => memW_iff.2 ((dst_mem _ s).2 (((srtW_ok _).2 s).1 hs)))
        have HIx := Lib.hid (show idxL decS xs = (srtW (wdP xs xs.length 0)).map (lnW decS (visP xs xs.length 0)) by unfold idxL; rw [visP_end])
        have HLz := Lib.hid (fun wd => (show (lnW decS (visP xs xs.length 0) wd).size ≤ wd.size + 9000 from by rw [visP_zero]; exact lnE_size decS dec20 HK.out (k := xs.length) (Nat.le_refl _) wd))
        have Hwsz := Lib.hid (show ∀ s, s ∈ srtW (wdP xs xs.length 0) → s.size ≤ 1048576 from fun s hs => by
          have h1 := ((srtW_ok _).2 s).1 hs
          unfold wdP at h1
          rw [visP_end] at h1
          unfold visE at h1
          obtain ⟨p, hp, rfl⟩ := List.mem_map.1 h1
          obtain ⟨x, hx, hp⟩ := List.mem_flatMap.1 hp
          obtain ⟨y, hy, rfl⟩ := List.mem_map.1 hp
          exact (Hsm.out x hx).2.2.2 y hy)
        have HO := Lib.hid ho
        have HM := Lib.hid hm
        have HB := Lib.hid hbl
        clear ho hm hbl
        generalize hS : srtW (wdP xs xs.length 0) = S at *
        clear hS
        go_wp2_with fail
        refine HSt.out.mono ?_; rintro e w6 ⟨rfl, ho6, hg6⟩
        have HO6 := Lib.hid ho6
        have HM6 := Lib.hid (HM.out.kept hg6 (fun e => own_notmapT HO.out HM.out e.symm))
        have HB6 := Lib.hid (HB.out.grown hg6 HB.out.size (fun x hx => by have := (HO.out.lt x hx).1; omega))
        clear ho6 hg6 HSt HO HM HB
        generalize (dst (wdP xs xs.length 0)).length = n at *
        have hoe := Lib.hid (World.ownsRow_made (base := w6.heap.size) (e := 9) (size := 1) w6 #[] 0 (Nat.le_refl _) (by simp [maxLen]) rfl)
        have hbe := Lib.hid ((Below.refl w6.heap.size w6).alloc (Nat.le_refl _) (.cells #[] 9))
        go_wp2_with fail
        go_loopw [12, 64] (fun o i wr => ∃ m : Nat, m ≤ n ∧ i = .int .i64 (m : Int) ∧ wr.ownsRow w6.heap.size 9 1 o m (strs ((S.take m).map (lnW decS (visP xs xs.length 0)))) ∧ Below w6.heap.size w6 wr) (fun _ i _ => n - (intOf i).toNat)
        case atStart => exact ⟨0, Nat.zero_le _, rfl, hoe.out, hbe.out⟩
        case round =>
          clear hoe hbe
          obtain ⟨m, hm2, rfl, hown, hbo⟩ := hrel
          obtain ⟨A3, c3, rfl⟩ := own_slW hown
          by_cases hmn : m < n
          · have hmn' : (m : Int) < (n : Int) := by omega
            have hmS : m < S.length := by omega
            obtain ⟨b7, o7, hA8, hcc⟩ := rd_word (Rd.of_own (own_below HO6.out hbo)) hslen (by omega)
            subst hA8
            have q1 := hcc m hmS
            have hzs := Hwsz.out _ (List.getElem_mem hmS)
            have hlz := HLz.out S[m]
            have hl1 := (HM6.out.below hbo).look1 S[m] (by simp only [maxLen]; omega)
            rw [if_pos (Hmem.out _ (List.getElem_mem hmS))] at hl1
            have HE := Lib.hid (show (S.take (m + 1)).map (lnW decS (visP xs xs.length 0)) = (S.take m).map (lnW decS (visP xs xs.length 0)) ++ [lnW decS (visP xs xs.length 0) S[m]] by rw [List.take_succ_eq_append_getElem hmS, List.map_append]; rfl)
            have Hown := Lib.hid hown
            have Hbo := Lib.hid hbo
            have hz7 := hbo.size
            clear hcc hown hbo
            generalize lnW decS (visP xs xs.length 0) S[m] = line at *
            generalize S[m] = z at *
            go_wp2_with (at_builtin; refine wpList_apd 24 9 _ 1 16 Tryd.underlying24 infoStrW rfl (by omega) _ _ rfl rfl w6.heap.size _ m _ rfl Hown.out #[.string line] 1 1 rfl rfl (by simp [Value.oneCell']) (by simp [maxLen]; omega) (by omega) hz7 ?_; intro v7 w7 hown7 hg7; have Hb7 := Lib.hid (below_apd Hbo.out Hown.out hg7 (Nat.le_refl _) hz7); have Ho7 := Lib.hid (show w7.ownsRow w6.heap.size 9 1 v7 (m + 1) (strs ((S.take (m + 1)).map (lnW decS (visP xs xs.length 0)))) from by rw [HE.out, ← strs_snoc]; exact hown7); clear hown7 hg7)
            go_roundw
            case rel => exact ⟨m + 1, by omega, by go_num, Ho7.out, Hb7.out⟩
            case measure => first | (simp [intOf]; done) | (simp [intOf]; omega)
          · obtain rfl : m = n := by omega
            have hmn' : ¬ ((m : Int) < (m : Int)) := by omega
            have Hz := Lib.hid (show RetWx (idxC xs) (idxR xs) w (.returned (.tuple #[.slice A3 m c3, .int .i64 0])) wr from by
              rw [eC.out, eR.out, HIx.out]
              have h1 : (S.map (lnW decS (visP xs xs.length 0))).length = m := by rw [List.length_map, hslen]
              refine ⟨_, rfl, ?_, HB6.out.trans (hbo.mono HB6.out.size)⟩
              rw [h1]
              rw [List.take_of_length_le (by omega)] at hown
              exact ownsRow_le hown HB6.out.size)
            clear hown hbo
            go_wp2_with fail
            go_ret2
            exact Hz.out
end Go.Proofs.YtbfhlkpicehnlaaDoor
