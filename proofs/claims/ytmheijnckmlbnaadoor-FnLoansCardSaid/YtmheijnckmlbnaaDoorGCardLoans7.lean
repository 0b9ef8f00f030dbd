/- Merged texts: Rn2, Rn5, Rn6, Sp1, Sp2, Rn3, Rn4, Ld1, Ld2, Ld0, Ld3, Ld4, Ld5, Ld6. -/
import Derived.Test.YtmheijnckmlbnaaDoorGCardLoans6
import Derived.Test.YtmheijnckmlbnaaDoorGCardLoans2
import Derived.Test.YtmheijnckmlbnaaDoorGCardLoans4
import Derived.Test.YtmheijnckmlbnaaDoorGCardLoans1
import Derived.Deep.DeepCutAuto
import Derived.Deep.CutRange
/- Numbers read from texts, part 2: ReadDecimal and l01Number (under way). -/
namespace Go.Proofs.YtmheijnckmlbnaaDoor
open Go.RowKit Go.Joins

def RetN1 (w : World) (s : ByteArray) (e : Ending) (w' : World) : Prop := e = .returned (.tuple #[.int .i64 ((readN s).getD 0), .bool (readN s).isSome]) ∧ Below w.heap.size w w'
theorem head_sizeN {s : ByteArray} (h : s.data.toList.head? = some 45) : ∃ h0 : 0 < s.size, s[0] = 45 := by
  have h0 : 0 < s.size := by
    rcases Nat.eq_zero_or_pos s.size with h1 | h1
    · have : s.data.toList = [] := List.eq_nil_of_length_eq_zero (by simpa using h1)
      rw [this] at h; simp at h
    · exact h1
  refine ⟨h0, ?_⟩
  have h2 : s.data.toList.head? = some s[0] := by
    rw [List.head?_eq_getElem?, List.getElem?_eq_getElem (by simpa using h0)]
    rfl
  rw [h2] at h
  exact Option.some.inj h
theorem head_not {s : ByteArray} (h : ¬ s.data.toList.head? = some 45) (h0 : 0 < s.size) : s[0] ≠ 45 := by
  intro e
  refine h ?_
  rw [List.head?_eq_getElem?, List.getElem?_eq_getElem (by simpa using h0)]
  rw [← e]; rfl
theorem take_at (s : ByteArray) (k : Nat) (hk : k < s.size) : numVN (s.data.toList.take (k + 1)) = 10 * numVN (s.data.toList.take k) + (s[k].toNat - 48) := by
  rw [List.take_succ_eq_append_getElem (by simpa using hk), numVN_snoc]
  rfl
theorem readN_none {s : ByteArray} (h : (bodyN s).size = 0 ∨ 18 < (bodyN s).size) : readN s = none := by unfold readN; rw [if_pos h]
theorem readN_bad {s : ByteArray} (k : Nat) (hk : k < (bodyN s).size) (h : isDg (bodyN s)[k] = false) : readN s = none := by
  unfold readN
  split
  · rfl
  · rw [if_neg]
    intro ha
    have := List.all_eq_true.1 ha (bodyN s)[k] (List.getElem_mem (l := (bodyN s).data.toList) (n := k) (by simpa using hk))
    rw [h] at this; cases this
theorem readN_val {s : ByteArray} (h1 : ¬((bodyN s).size = 0 ∨ 18 < (bodyN s).size)) (h2 : ∀ c ∈ (bodyN s).data.toList, isDg c = true) : readN s = if decS (valN s) = s then some (valN s) else none := by
  unfold readN
  rw [if_neg h1, if_pos (List.all_eq_true.2 h2)]
theorem valN_bd {s : ByteArray} (h1 : ¬((bodyN s).size = 0 ∨ 18 < (bodyN s).size)) (h2 : ∀ c ∈ (bodyN s).data.toList, isDg c = true) : numVN (bodyN s).data.toList < 1000000000000000000 := by
  have h := numVN_lt _ h2
  have h3 : (10 : Nat) ^ (bodyN s).data.toList.length ≤ 10 ^ 18 := Nat.pow_le_pow_right (by omega) (by
    have : (bodyN s).data.toList.length = (bodyN s).size := by simp
    omega)
  have h4 : (10 : Nat) ^ 18 = 1000000000000000000 := by decide
  omega
end Go.Proofs.YtmheijnckmlbnaaDoor
/- Numbers read from texts, part 5: what a text that is a number cannot hold. -/
namespace Go.Proofs.YtmheijnckmlbnaaDoor

theorem readN_dec {r : ByteArray} {a : Int} (h : readN r = some a) : decS a = r := by
  unfold readN at h
  split at h
  · cases h
  · split at h
    · split at h
      · rename_i he
        rw [← Option.some.inj h]; exact he
      · cases h
    · cases h
theorem readN_none_of {r : ByteArray} (k : Nat) (hk : k < r.size) (h1 : isDg r[k] = false) (h2 : r[k] ≠ 45) : readN r = none := by
  by_cases hh : r.data.toList.head? = some 45
  · obtain ⟨h0, he⟩ := head_sizeN hh
    have hT : bodyN r = r.extract 1 r.size := by unfold bodyN; rw [if_pos hh]
    have hk0 : k ≠ 0 := by
      intro e; subst e; exact h2 he
    have hz : (bodyN r).size = r.size - 1 := by rw [hT, ByteArray.size_extract]; omega
    refine readN_bad (k - 1) (by omega) ?_
    have : (bodyN r)[k - 1]'(by omega) = r[k] := by
      simp only [hT]
      rw [ByteArray.getElem_extract]
      simp only [show 1 + (k - 1) = k by omega]
    rw [this]; exact h1
  · have hT : bodyN r = r := by unfold bodyN; rw [if_neg hh]
    refine readN_bad k (by rw [hT]; exact hk) ?_
    simp only [hT]; exact h1
theorem fnd_at (c : UInt8) (s : ByteArray) (h : fnd c s < s.size) : s[fnd c s] = c := by
  have := List.findIdx_getElem (p := (· == c)) (xs := s.data.toList) (w := by show fnd c s < s.data.toList.length; simpa using h)
  have hh : s.data.toList[fnd c s]'(by simpa using h) = c := by simpa [fnd] using this
  exact hh
end Go.Proofs.YtmheijnckmlbnaaDoor
/- Numbers read from texts, part 6: a decimal form is read back. -/
namespace Go.Proofs.YtmheijnckmlbnaaDoor

theorem dgt_ok (d : Nat) (h : d < 10) : isDg (UInt8.ofNat (48 + d)) = true ∧ (UInt8.ofNat (48 + d)).toNat - 48 = d ∧ UInt8.ofNat (48 + d) ≠ 45 := by
  have hh : ∀ m : Fin 10, isDg (UInt8.ofNat (48 + m.1)) = true ∧ (UInt8.ofNat (48 + m.1)).toNat - 48 = m.1 ∧ UInt8.ofNat (48 + m.1) ≠ 45 := by decide
  exact hh ⟨d, h⟩
theorem dec_facts (u : Nat) : (∀ c ∈ Lib.decDigits u, isDg c = true ∧ c ≠ 45) ∧ numVN (Lib.decDigits u) = u := by
  induction u using Nat.strongRecOn with
  | _ u ih =>
    by_cases h : u < 10
    · rw [Lib.decDigits, dif_pos h]
      obtain ⟨h1, h2, h3⟩ := dgt_ok u h
      refine ⟨fun c hc => ?_, ?_⟩
      · rw [List.mem_singleton.1 hc]; exact ⟨h1, h3⟩
      · show 10 * 0 + ((UInt8.ofNat (48 + u)).toNat - 48) = u
        omega
    · rw [Lib.decDigits, dif_neg h]
      obtain ⟨h1, h2, h3⟩ := dgt_ok (u % 10) (Nat.mod_lt _ (by omega))
      obtain ⟨k1, k2⟩ := ih (u / 10) (by omega)
      refine ⟨fun c hc => ?_, ?_⟩
      · rcases List.mem_append.1 hc with hc | hc
        · exact k1 c hc
        · rw [List.mem_singleton.1 hc]; exact ⟨h1, h3⟩
      · rw [numVN_snoc, k2, h2]; omega
theorem nDig18 (u : Nat) (h : u < 1000000000000000000) : 1 ≤ Lib.nDigits u ∧ Lib.nDigits u ≤ 18 := by
  refine ⟨Lib.nDigits_pos u, ?_⟩
  by_cases h0 : u < 10
  · rw [Lib.nDigits_small h0]; omega
  · rcases Nat.lt_or_ge 18 (Lib.nDigits u) with hl | hg
    · exfalso
      have key : ∀ (k v : Nat), v < 10 ^ (k + 1) → Lib.nDigits v ≤ k + 1 := by
        intro k
        induction k with
        | zero => intro v hv; rw [Lib.nDigits_small (by simpa using hv)]; omega
        | succ k ih =>
          intro v hv
          by_cases hs : v < 10
          · rw [Lib.nDigits_small hs]; omega
          · rw [Lib.nDigits_big hs]
            have := ih (v / 10) (by rw [Nat.pow_succ] at hv; omega)
            omega
      have := key 17 u h
      omega
    · exact hg
theorem readN_decS (a : Int) (h0 : -1000000000000000000 < a) (h1 : a < 1000000000000000000) : readN (decS a) = some a := by
  by_cases hn : a < 0
  · obtain ⟨u, hu⟩ : ∃ u : Nat, a = -(u : Int) := ⟨(-a).toNat, by omega⟩
    obtain ⟨k1, k2⟩ := dec_facts u
    obtain ⟨d1, d2⟩ := nDig18 u (by omega)
    have hs : decS a = ⟨(45 :: Lib.decDigits u).toArray⟩ := by
      unfold decS Lib.itoa
      rw [if_pos hn, show a.natAbs = u by omega]
    have hb : bodyN (decS a) = ⟨(Lib.decDigits u).toArray⟩ := by
      unfold bodyN
      rw [hs, if_pos (by rfl)]
      apply ByteArray.ext
      rw [ByteArray.data_extract]
      simp [ByteArray.size]
    have hz : (bodyN (decS a)).size = Lib.nDigits u := by rw [hb, ← Lib.decDigits_length]; simp [ByteArray.size]
    have hzz : (decS a).size = Lib.nDigits u + 1 := by rw [hs, ← Lib.decDigits_length]; simp [ByteArray.size]
    have hv : valN (decS a) = a := by
      unfold valN
      rw [if_pos (by omega), hb]
      show -((numVN (Lib.decDigits u) : Nat) : Int) = a
      rw [k2]; exact hu.symm
    rw [readN_val (by omega) (by rw [hb]; exact fun c hc => (k1 c hc).1), hv, if_pos rfl]
  · obtain ⟨u, rfl⟩ : ∃ u : Nat, a = (u : Int) := ⟨a.toNat, by omega⟩
    obtain ⟨k1, k2⟩ := dec_facts u
    obtain ⟨d1, d2⟩ := nDig18 u (by omega)
    have hs : decS (u : Int) = ⟨(Lib.decDigits u).toArray⟩ := by
      unfold decS Lib.itoa
      rw [if_neg hn]; rfl
    have hh : (decS (u : Int)).data.toList.head? ≠ some 45 := by
      rw [hs]
      intro e
      have e2 : (Lib.decDigits u).head? = some 45 := e
      exact (k1 45 (List.mem_of_mem_head? e2)).2 rfl
    have hb : bodyN (decS (u : Int)) = decS (u : Int) := by unfold bodyN; rw [if_neg hh]
    have hz : (decS (u : Int)).size = Lib.nDigits u := by rw [hs, ← Lib.decDigits_length]; simp [ByteArray.size]
    have hv : valN (decS (u : Int)) = u := by
      unfold valN
      rw [hb, if_neg (by omega), hs]
      show ((numVN (Lib.decDigits u) : Nat) : Int) = u
      rw [k2]
    rw [readN_val (by rw [hb]; omega) (by rw [hb, hs]; exact fun c hc => (k1 c hc).1), hv, if_pos rfl]
end Go.Proofs.YtmheijnckmlbnaaDoor
/- Texts cut at a byte, part 1: plain laws. -/
namespace Go.Proofs.YtmheijnckmlbnaaDoor

/-- the parts of a text between bytes c -/
def splitB (c : UInt8) (s : ByteArray) : List ByteArray :=
  if h : fnd c s < s.size then s.extract 0 (fnd c s) :: splitB c (s.extract (fnd c s + 1) s.size) else [s]
termination_by s.size
decreasing_by rw [ByteArray.size_extract]; omega
theorem splitB_yes {c : UInt8} {s : ByteArray} (h : fnd c s < s.size) : splitB c s = s.extract 0 (fnd c s) :: splitB c (s.extract (fnd c s + 1) s.size) := by
  rw [splitB, dif_pos h]
theorem splitB_no {c : UInt8} {s : ByteArray} (h : s.size ≤ fnd c s) : splitB c s = [s] := by
  rw [splitB, dif_neg (by omega)]
theorem tail_sizeS (s : ByteArray) (f : Nat) : (s.extract f s.size).size = s.size - f := by rw [ByteArray.size_extract]; omega
theorem tail_cut (s : ByteArray) (f i : Nat) (h : f ≤ i) (hi : i ≤ s.size) : (s.extract f s.size).extract 0 (i - f) = s.extract f i := by
  rw [ByteArray.extract_extract, Nat.add_zero, show f + (i - f) = i by omega, Nat.min_eq_left hi]
theorem tail_tail (s : ByteArray) (f i : Nat) (h : f ≤ i) (hf : f ≤ s.size) : (s.extract f s.size).extract (i - f) (s.size - f) = s.extract i s.size := by
  rw [ByteArray.extract_extract, show f + (i - f) = i by omega, show f + (s.size - f) = s.size by omega, Nat.min_self]
/-- the walk of the reference: a byte c at i, the part begins at f -/
theorem sp_hit {c : UInt8} {s : ByteArray} {f i : Nat} (h : f ≤ i) (hi : i < s.size) (hf : i - f ≤ fnd c (s.extract f s.size)) (hc : s[i] = c) :
    splitB c (s.extract f s.size) = s.extract f i :: splitB c (s.extract (i + 1) s.size) := by
  have hz := tail_sizeS s f
  have he : fnd c (s.extract f s.size) = i - f := by
    refine fnd_eq c _ (i - f) hf (by omega) ?_
    rw [ByteArray.getElem_extract]
    simp only [show f + (i - f) = i by omega]
    exact hc
  rw [splitB_yes (by omega), he, tail_cut s f i h (by omega), hz, show i - f + 1 = i + 1 - f by omega, tail_tail s f (i + 1) (by omega) (by omega)]
theorem sp_miss {c : UInt8} {s : ByteArray} {f i : Nat} (h : f ≤ i) (hi : i < s.size) (hf : i - f ≤ fnd c (s.extract f s.size)) (hc : s[i] ≠ c) :
    i + 1 - f ≤ fnd c (s.extract f s.size) := by
  have hz := tail_sizeS s f
  have he := fnd_ne c (s.extract f s.size) (i - f) hf (by omega) (by
    rw [ByteArray.getElem_extract]
    simp only [show f + (i - f) = i by omega]
    exact hc)
  omega
theorem sp_end {c : UInt8} {s : ByteArray} {f : Nat} (hf : s.size - f ≤ fnd c (s.extract f s.size)) : splitB c (s.extract f s.size) = [s.extract f s.size] :=
  splitB_no (by rw [tail_sizeS]; exact hf)
theorem splitB_ne (c : UInt8) (s : ByteArray) : splitB c s ≠ [] := by
  rw [splitB]; split <;> simp
theorem splitB_len (c : UInt8) : ∀ (n : Nat) (s : ByteArray), s.size ≤ n → (splitB c s).length ≤ s.size + 1 := by
  intro n
  induction n with
  | zero =>
    intro s h
    have := fnd_le c s
    rw [splitB_no (by omega)]; simp
  | succ n ih =>
    intro s h
    rcases Nat.lt_or_ge (fnd c s) s.size with h1 | h1
    · rw [splitB_yes h1, List.length_cons]
      have hz := tail_sizeS s (fnd c s + 1)
      have := ih (s.extract (fnd c s + 1) s.size) (by omega)
      omega
    · rw [splitB_no h1]; simp
/-- the lines of a text that ends with c, none where it does not -/
def linesB (c : UInt8) (s : ByteArray) : Option (List ByteArray) := if (splitB c s).getLast? = some ⟨#[]⟩ then some (splitB c s).dropLast else none
end Go.Proofs.YtmheijnckmlbnaaDoor
/- Texts cut at a byte, part 2: parts (program) and l01Split (reference). -/
namespace Go.Proofs.YtmheijnckmlbnaaDoor
open Go.RowKit Go.Joins

theorem infoStr : (Tryd.prog.info? 9).map (fun i => (i.zero, i.size, i.bytes)) = some (some (.string ⟨#[]⟩), 1, 16) := by kernel_rfl
/-- a new list of texts -/
def RetPs (w : World) (l : List ByteArray) (e : Ending) (w' : World) : Prop := ∃ v, e = .returned v ∧ w'.ownsRow w.heap.size 9 1 v l.length (l.map Value.string) ∧ Below w.heap.size w w'
def szV : Value → Nat
  | .string s => s.size
  | _ => 0
theorem str_snoc (l : List ByteArray) (x : ByteArray) : (l ++ [x]).map Value.string = l.map Value.string ++ [.string x] := by simp
theorem own_snoc {w : World} {base : Nat} {e : TypeId} {v : Value} {l : List ByteArray} {x : ByteArray} (h : w.ownsRow base e 1 v (l.length + 1) (l.map Value.string ++ [.string x])) : w.ownsRow base e 1 v (l ++ [x]).length ((l ++ [x]).map Value.string) := by
  rw [str_snoc, List.length_append]; exact h

set_option maxRecDepth 100000 in
set_option maxHeartbeats 1600000 in
theorem parts_any (s : ByteArray) (w : World) (hs : s.size ≤ 1073741824) : Calls Tryd.prog 58 #[.string s] w (RetPs w (splitB 32 s)) := by
  have hlen := splitB_len 32 s.size s (Nat.le_refl _)
  have hb0 := Lib.hid ((Below.refl w.heap.size w).alloc (Nat.le_refl _) (.cells #[] 9))
  have ho0 := Lib.hid (World.ownsRow_made (base := w.heap.size) (e := 9) (size := 1) w #[] 0 (Nat.le_refl _) (by simp [maxLen]) rfl)
  generalize hR : splitB 32 s = R at *
  have HR := Lib.hid hR; clear hR
  go_enter Tryd.func58, Tryd.ntmps58
  go_wp2_with fail
  go_loopw [0, 3] (fun l o wr => ∃ (ln : ByteArray) (out : List ByteArray), l = .string ln ∧ ln.size ≤ s.size ∧ R = out ++ splitB 32 ln ∧ wr.ownsRow w.heap.size 9 1 o out.length (out.map Value.string) ∧ Below w.heap.size w wr) (fun l _ _ => szV l)
  case atStart => exact ⟨s, [], rfl, Nat.le_refl _, by rw [← HR.out]; rfl, ho0.out, hb0.out⟩
  case round =>
    obtain ⟨ln, out, rfl, hz, hsp, hown, hbl⟩ := hrel
    have HC := Lib.hid (fun wx => cut_any ln 32 wx (by omega))
    have hfl := fnd_le 32 ln
    have hll : out.length ≤ s.size + 1 := by
      have h1 := congrArg List.length hsp
      rw [List.length_append] at h1
      omega
    have Hsp := Lib.hid hsp; clear hsp
    have Hyes := Lib.hid (fun h => splitB_yes (c := 32) (s := ln) h)
    have Hno := Lib.hid (fun h => splitB_no (c := 32) (s := ln) h)
    have Hz := Lib.hid (tail_sizeS ln (fnd 32 ln + 1))
    have Hall := Lib.hid (ext_all ln)
    have Hown := Lib.hid hown
    have Hbl := Lib.hid hbl
    clear hown hbl
    by_cases hf : fnd 32 ln < ln.size
    · rw [decide_eq_true hf] at HC
      have hy := Hyes.out hf
      generalize fnd 32 ln = k at *
      generalize ln.extract 0 k = x at *
      generalize ln.extract (k + 1) ln.size = y at *
      have Hy := Lib.hid hy; clear hy
      clear Hyes Hno Hall
      go_wp2_with fail
      refine (HC.out _).mono ?_; rintro e w5 ⟨rfl, n5, hw5⟩
      have hb5 : Below w.heap.size w w5 := by rw [hw5]; exact below_drewN Hbl.out n5
      have ho5 := Hown.out.drewN n5
      rw [← hw5] at ho5
      have Hb5 := Lib.hid hb5
      have Ho5 := Lib.hid ho5
      have hz5 := hb5.size
      clear hw5 hb5 ho5 Hown Hbl HC
      go_wp2_with (at_builtin; refine wpList_apd 57 9 _ 1 16 Tryd.underlying57 infoStr rfl (by omega) _ _ rfl rfl w.heap.size _ out.length _ rfl Ho5.out #[.string x] 1 1 rfl rfl (by simp [Value.oneCell']) (by simp [maxLen]; omega) (by omega) hz5 ?_; intro v7 w7 hown7 hg7; have Hb7 := Lib.hid (below_apd Hb5.out Ho5.out hg7 (Nat.le_refl _) hz5); have Ho7 := Lib.hid (own_snoc hown7); clear hown7 hg7)
      go_roundw
      case rel => exact ⟨y, out ++ [x], rfl, by have := Hz.out; omega, by rw [Hsp.out, Hy.out]; simp, Ho7.out, Hb7.out⟩
      case measure => simp [szV]; have := Hz.out; omega
    · rw [decide_eq_false hf] at HC
      have hy := Hno.out (by omega)
      have hk : fnd 32 ln = ln.size := by omega
      rw [hk, Hall.out] at HC
      generalize ln.extract (ln.size + 1) ln.size = y at *
      have Hy := Lib.hid hy; clear hy
      clear Hyes Hno Hall
      go_wp2_with fail
      refine (HC.out _).mono ?_; rintro e w5 ⟨rfl, n5, hw5⟩
      have hb5 : Below w.heap.size w w5 := by rw [hw5]; exact below_drewN Hbl.out n5
      have ho5 := Hown.out.drewN n5
      rw [← hw5] at ho5
      have Hb5 := Lib.hid hb5
      have Ho5 := Lib.hid ho5
      have hz5 := hb5.size
      clear hw5 hb5 ho5 Hown Hbl HC
      go_wp2_with (at_builtin; refine wpList_apd 57 9 _ 1 16 Tryd.underlying57 infoStr rfl (by omega) _ _ rfl rfl w.heap.size _ out.length _ rfl Ho5.out #[.string ln] 1 1 rfl rfl (by simp [Value.oneCell']) (by simp [maxLen]; omega) (by omega) hz5 ?_; intro v7 w7 hown7 hg7; have Hb7 := Lib.hid (below_apd Hb5.out Ho5.out hg7 (Nat.le_refl _) hz5); have Ho7 := Lib.hid (own_snoc hown7); clear hown7 hg7)
      go_ret
      have hfin : R = out ++ [ln] := by rw [Hsp.out, Hy.out]
      rw [hfin]; exact ⟨_, rfl, Ho7.out, Hb7.out⟩

set_option maxRecDepth 100000 in
set_option maxHeartbeats 1600000 in
theorem l01Split_any (s : ByteArray) (c : UInt8) (w : World) (hs : s.size ≤ 1073741824) : Calls Tryd.prog 64 #[.string s, .int .u8 (c.toNat : Int)] w (RetPs w (splitB c s)) := by
  have hlen := splitB_len c s.size s (Nat.le_refl _)
  have hb0 := Lib.hid ((Below.refl w.heap.size w).alloc (Nat.le_refl _) (.cells #[] 9))
  have ho0 := Lib.hid (World.ownsRow_made (base := w.heap.size) (e := 9) (size := 1) w #[] 0 (Nat.le_refl _) (by simp [maxLen]) rfl)
  generalize hR : splitB c s = R at *
  have HR := Lib.hid hR; clear hR
  have h00 := Lib.hid (ext_all s)
  go_enter Tryd.func64, Tryd.ntmps64
  go_wp2_with fail
  go_loopw [5, 6, 7] (fun o f i wr => ∃ (out : List ByteArray) (a k : Nat), f = .int .i64 a ∧ i = .int .i64 k ∧ a ≤ k ∧ k ≤ s.size ∧ R = out ++ splitB c (s.extract a s.size) ∧ k - a ≤ fnd c (s.extract a s.size) ∧ wr.ownsRow w.heap.size 9 1 o out.length (out.map Value.string) ∧ Below w.heap.size w wr) (fun _ _ i _ => s.size - (intOf i).toNat)
  case atStart => exact ⟨[], 0, 0, rfl, rfl, Nat.le_refl _, Nat.zero_le _, by rw [h00.out, HR.out]; rfl, Nat.zero_le _, ho0.out, hb0.out⟩
  case round =>
    obtain ⟨out, a, k, rfl, rfl, hak, hks, hsp, hfd, hown, hbl⟩ := hrel
    have hll : out.length ≤ s.size + 1 := by
      have h1 := congrArg List.length hsp
      rw [List.length_append] at h1
      omega
    have Hsp := Lib.hid hsp; clear hsp
    have Hown := Lib.hid hown
    have Hbl := Lib.hid hbl
    have hz5 := hbl.size
    clear hown hbl
    by_cases hlt : k < s.size
    · have hlt' : (k : Int) < (s.size : Int) := by omega
      by_cases he : s[k] = c
      · have hit := sp_hit hak hlt hfd he
        have Hit := Lib.hid hit; clear hit
        have hb : ((s[k].toNat : Int) == (c.toNat : Int)) = true := by rw [he]; simp
        clear he hfd
        have hx : (a : Int) ≤ (k : Int) := by omega
        go_wp2_with (at_builtin; refine wpList_apd 57 9 _ 1 16 Tryd.underlying57 infoStr rfl (by omega) _ _ rfl rfl w.heap.size _ out.length _ rfl Hown.out #[.string (s.extract a k)] 1 1 rfl rfl (by simp [Value.oneCell']) (by simp [maxLen]; omega) (by omega) hz5 ?_; intro v7 w7 hown7 hg7; have Hb7 := Lib.hid (below_apd Hbl.out Hown.out hg7 (Nat.le_refl _) hz5); have Ho7 := Lib.hid (own_snoc hown7); clear hown7 hg7)
        go_roundw
        case rel => exact ⟨out ++ [s.extract a k], k + 1, k + 1, by go_num, by go_num, Nat.le_refl _, by omega, by rw [Hsp.out, Hit.out]; simp, by omega, Ho7.out, Hb7.out⟩
        case measure => simp [intOf]; omega
      · have hm := sp_miss hak hlt hfd he
        have hb : ((s[k].toNat : Int) == (c.toNat : Int)) = false := by
          rw [beq_eq_false_iff_ne]
          intro h
          exact he (UInt8.toNat_inj.1 (by omega))
        clear he hfd
        go_wp2_with fail
        go_roundw
        case rel => exact ⟨out, a, k + 1, rfl, by go_num, by omega, by omega, Hsp.out, hm, Hown.out, Hbl.out⟩
        case measure => simp [intOf]; omega
    · have hend := sp_end (c := c) (s := s) (f := a) (by omega)
      have Hend := Lib.hid hend; clear hend hfd
      have hlt' : (s.size : Int) ≤ (k : Int) := by omega
      have hx : (a : Int) ≤ (s.size : Int) := by omega
      go_wp2_with (at_builtin; refine wpList_apd 57 9 _ 1 16 Tryd.underlying57 infoStr rfl (by omega) _ _ rfl rfl w.heap.size _ out.length _ rfl Hown.out #[.string (s.extract a s.size)] 1 1 rfl rfl (by simp [Value.oneCell']) (by simp [maxLen]; omega) (by omega) hz5 ?_; intro v7 w7 hown7 hg7; have Hb7 := Lib.hid (below_apd Hbl.out Hown.out hg7 (Nat.le_refl _) hz5); have Ho7 := Lib.hid (own_snoc hown7); clear hown7 hg7)
      go_ret
      have hfin : R = out ++ [s.extract a s.size] := by rw [Hsp.out, Hend.out]
      rw [hfin]; exact ⟨_, rfl, Ho7.out, Hb7.out⟩
end Go.Proofs.YtmheijnckmlbnaaDoor
/- Numbers read from texts, part 3 (printed by gen_rn3.py): ReadDecimal (program). -/
namespace Go.Proofs.YtmheijnckmlbnaaDoor
open Go.RowKit Go.Joins

theorem tail_size1 (s : ByteArray) : (s.extract 1 s.size).size = s.size - 1 := by rw [ByteArray.size_extract]; omega
theorem dig_wrap (c : UInt8) (h : isDg c = true) : IntKind.u8.wrap ((c.toNat : Int) - 48) = ((c.toNat - 48 : Nat) : Int) ∧ c.toNat - 48 ≤ 9 := by
  unfold isDg at h
  simp only [Bool.and_eq_true, decide_eq_true_eq] at h
  rw [IntKind.wrap_u8]
  omega

set_option maxRecDepth 100000 in
set_option maxHeartbeats 3200000 in
theorem ReadDecimal_any (s : ByteArray) (w : World) (hs : s.size ≤ 1073741824) (ht : Tab w) : Calls Tryd.prog 60 #[.string s] w (RetN1 w s) := by
  have Hnone := Lib.hid (fun h => readN_none (s := s) h)
  have Hbad := Lib.hid (fun k hk h => readN_bad (s := s) k hk h)
  have Hval := Lib.hid (fun h1 h2 => readN_val (s := s) h1 h2)
  have Hbd := Lib.hid (fun h1 h2 => valN_bd (s := s) h1 h2)
  have HD := Lib.hid (fun n wx h0 h1 hx => Decimal_any n wx h0 h1 hx)
  have Ht := Lib.hid ht
  have hb0 := Below.refl w.heap.size w
  have HV := Lib.hid (show valN s = if (bodyN s).size < s.size then -(numVN (bodyN s).data.toList : Int) else numVN (bodyN s).data.toList from rfl)
  clear ht
  by_cases hh : s.data.toList.head? = some 45
  · obtain ⟨h0, he⟩ := head_sizeN hh
    have HT := Lib.hid (show bodyN s = s.extract 1 s.size by unfold bodyN; rw [if_pos hh])
    have hb : ((s[0].toNat : Int) == 45) = true := by rw [he]; rfl
    have hz0 := tail_size1 s
    have hpos : (0 : Int) < (s.size : Int) := by omega
    obtain ⟨T, hT⟩ : ∃ T, s.extract 1 s.size = T := ⟨_, rfl⟩
    rw [HT.out, hT] at Hbad Hbd Hval Hnone HV
    rw [hT] at hz0
    have hlt : T.size < s.size := by omega
    rw [if_pos hlt] at HV
    have hlt' : (T.size : Int) < (s.size : Int) := by omega
    clear HT he hh hz0
    by_cases t0 : T.size = 0
    · have hn := Hnone.out (.inl t0)
      have t0' : ((T.size : Int) == 0) = true := by rw [t0]; rfl
      go_enter Tryd.func60, Tryd.ntmps60
      go_wp2_with fail
      go_ret2
      unfold RetN1; rw [hn]; exact ⟨rfl, hb0⟩
    · have t0' : ((T.size : Int) == 0) = false := by rw [beq_eq_false_iff_ne]; omega
      by_cases t1 : 18 < T.size
      · have hn := Hnone.out (.inr t1)
        have t1' : (18 : Int) < (T.size : Int) := by omega
        go_enter Tryd.func60, Tryd.ntmps60
        go_wp2_with fail
        go_ret2
        unfold RetN1; rw [hn]; exact ⟨rfl, hb0⟩
      · have t1' : ¬ (18 : Int) < (T.size : Int) := by omega
        have hno : ¬(T.size = 0 ∨ 18 < T.size) := by omega
        have Hval2 := Lib.hid (Hval.out hno)
        have Hbd2 := Lib.hid (Hbd.out hno)
        clear Hval Hbd Hnone
        go_enter Tryd.func60, Tryd.ntmps60
        go_wp2_with fail
        go_loop [5, 28] (fun n i => ∃ k : Nat, k ≤ T.size ∧ i = .int .i64 (k : Int) ∧ n = .int .i64 (numVN (T.data.toList.take k) : Int) ∧ ∀ c ∈ T.data.toList.take k, isDg c = true) (fun _ i => T.size - (intOf i).toNat)
        case atStart => exact ⟨0, Nat.zero_le _, rfl, rfl, by simp⟩
        case round =>
          obtain ⟨k, hk, rfl, rfl, hall⟩ := hrel
          have Hall := Lib.hid hall
          by_cases hlk : k < T.size
          · have hlk' : (k : Int) < (T.size : Int) := by omega
            have HDg := Lib.hid (fun wx => isDigitN_any (T)[k] wx)
            have HK := Lib.hid (take_at T k hlk)
            have hN : numVN (T.data.toList.take k) < 100000000000000000 := by
              have h := numVN_lt _ hall
              have h3 : (10 : Nat) ^ (T.data.toList.take k).length ≤ 10 ^ 17 := Nat.pow_le_pow_right (by omega) (by rw [List.length_take]; omega)
              have h4 : (10 : Nat) ^ 17 = 100000000000000000 := by decide
              omega
            have Hsn := Lib.hid (fun (h : isDg (T)[k] = true) => (show ∀ c ∈ T.data.toList.take (k + 1), isDg c = true from fun c hc => by
              rw [List.take_succ_eq_append_getElem (by simpa using hlk)] at hc
              rcases List.mem_append.1 hc with h1 | h1
              · exact Hall.out c h1
              · rw [List.mem_singleton.1 h1]; exact h))
            generalize numVN (T.data.toList.take k) = N at *
            clear hall
            cases hdg : isDg (T)[k] with
            | false =>
              have hn := Hbad.out k hlk hdg
              rw [hdg] at HDg
              clear hdg
              go_wp2_with fail
              refine (HDg.out _).mono ?_; rintro e w1 ⟨rfl, rfl⟩
              go_wp2_with fail
              go_ret2
              unfold RetN1; rw [hn]; exact ⟨rfl, hb0⟩
            | true =>
              obtain ⟨hw, h9⟩ := dig_wrap (T)[k] hdg
              have Hs2 := Lib.hid (Hsn.out hdg)
              rw [hdg] at HDg
              clear hdg Hsn
              generalize (T)[k].toNat - 48 = d at *
              go_wp2_with fail
              refine (HDg.out _).mono ?_; rintro e w1 ⟨rfl, rfl⟩
              go_wp2_with fail
              go_round
              case rel => exact ⟨k + 1, by omega, by go_num, by rw [HK.out]; go_num, Hs2.out⟩
              case measure => simp [intOf]; omega
          · have hd : T.data.toList.take k = T.data.toList := List.take_of_length_le (by simp; omega)
            rw [hd] at hall
            rw [hd]
            have hM := Hbd2.out hall
            have HR := Lib.hid (Hval2.out hall)
            generalize numVN T.data.toList = M at *
            rw [HV.out] at HR
            have hlk' : (T.size : Int) ≤ (k : Int) := by omega
            have HDx := Lib.hid (HD.out (-(M : Int)) w (by omega) (by omega) Ht.out)
            have hwn : IntKind.i64.wrap (-(M : Int)) = -(M : Int) := IntWalk.i64_in _ (by omega)
            clear hall hd Hall
            by_cases hq : decS (-(M : Int)) = s
            · have HQ := Lib.hid (show readN s = some (-(M : Int)) by rw [HR.out, if_pos hq])
              rw [hq] at HDx
              clear hq HR
              go_wp2_with fail
              refine HDx.out.mono ?_; rintro e w5 ⟨rfl, hb5⟩
              go_wp2_with fail
              go_ret2
              unfold RetN1; rw [HQ.out]; exact ⟨rfl, hb5⟩
            · have HQ := Lib.hid (show readN s = none by rw [HR.out, if_neg hq])
              have hbn : ((decS (-(M : Int))).toList != s.toList) = true := bne_iff_ne.2 fun e => hq (ba_inj e)
              have hbq : ((decS (-(M : Int))).toList == s.toList) = false := beq_eq_false_iff_ne.2 fun e => hq (ba_inj e)
              generalize decS (-(M : Int)) = Y at *
              clear hq HR
              go_wp2_with fail
              refine HDx.out.mono ?_; rintro e w5 ⟨rfl, hb5⟩
              go_wp2_with fail
              go_ret2
              unfold RetN1; rw [HQ.out]; exact ⟨rfl, hb5⟩
  · have HT := Lib.hid (show bodyN s = s by unfold bodyN; rw [if_neg hh])
    rw [HT.out] at Hbad Hbd Hval Hnone HV
    rw [if_neg (Nat.lt_irrefl _)] at HV
    clear HT
    by_cases t0 : s.size = 0
    · have hn := Hnone.out (.inl t0)
      have t0' : ((s.size : Int) == 0) = true := by rw [t0]; rfl
      have hp0 : ¬ (0 : Int) < (s.size : Int) := by omega
      go_enter Tryd.func60, Tryd.ntmps60
      go_wp2_with fail
      go_ret2
      unfold RetN1; rw [hn]; exact ⟨rfl, hb0⟩
    · have t0' : ((s.size : Int) == 0) = false := by rw [beq_eq_false_iff_ne]; omega
      have h0 : 0 < s.size := by omega
      have hpos : (0 : Int) < (s.size : Int) := by omega
      have hb : ((s[0].toNat : Int) == 45) = false := by
        rw [beq_eq_false_iff_ne]; intro h
        exact head_not hh h0 (UInt8.toNat_inj.1 (by have : (45 : UInt8).toNat = 45 := rfl
                                                    omega))
      by_cases t1 : 18 < s.size
      · have hn := Hnone.out (.inr t1)
        have t1' : (18 : Int) < (s.size : Int) := by omega
        go_enter Tryd.func60, Tryd.ntmps60
        go_wp2_with fail
        go_ret2
        unfold RetN1; rw [hn]; exact ⟨rfl, hb0⟩
      · have t1' : ¬ (18 : Int) < (s.size : Int) := by omega
        have hno : ¬(s.size = 0 ∨ 18 < s.size) := by omega
        have Hval2 := Lib.hid (Hval.out hno)
        have Hbd2 := Lib.hid (Hbd.out hno)
        clear Hval Hbd Hnone
        go_enter Tryd.func60, Tryd.ntmps60
        go_wp2_with fail
        go_loop [5, 28] (fun n i => ∃ k : Nat, k ≤ s.size ∧ i = .int .i64 (k : Int) ∧ n = .int .i64 (numVN (s.data.toList.take k) : Int) ∧ ∀ c ∈ s.data.toList.take k, isDg c = true) (fun _ i => s.size - (intOf i).toNat)
        case atStart => exact ⟨0, Nat.zero_le _, rfl, rfl, by simp⟩
        case round =>
          obtain ⟨k, hk, rfl, rfl, hall⟩ := hrel
          have Hall := Lib.hid hall
          by_cases hlk : k < s.size
          · have hlk' : (k : Int) < (s.size : Int) := by omega
            have HDg := Lib.hid (fun wx => isDigitN_any (s)[k] wx)
            have HK := Lib.hid (take_at s k hlk)
            have hN : numVN (s.data.toList.take k) < 100000000000000000 := by
              have h := numVN_lt _ hall
              have h3 : (10 : Nat) ^ (s.data.toList.take k).length ≤ 10 ^ 17 := Nat.pow_le_pow_right (by omega) (by rw [List.length_take]; omega)
              have h4 : (10 : Nat) ^ 17 = 100000000000000000 := by decide
              omega
            have Hsn := Lib.hid (fun (h : isDg (s)[k] = true) => (show ∀ c ∈ s.data.toList.take (k + 1), isDg c = true from fun c hc => by
              rw [List.take_succ_eq_append_getElem (by simpa using hlk)] at hc
              rcases List.mem_append.1 hc with h1 | h1
              · exact Hall.out c h1
              · rw [List.mem_singleton.1 h1]; exact h))
            generalize numVN (s.data.toList.take k) = N at *
            clear hall
            cases hdg : isDg (s)[k] with
            | false =>
              have hn := Hbad.out k hlk hdg
              rw [hdg] at HDg
              clear hdg
              go_wp2_with fail
              refine (HDg.out _).mono ?_; rintro e w1 ⟨rfl, rfl⟩
              go_wp2_with fail
              go_ret2
              unfold RetN1; rw [hn]; exact ⟨rfl, hb0⟩
            | true =>
              obtain ⟨hw, h9⟩ := dig_wrap (s)[k] hdg
              have Hs2 := Lib.hid (Hsn.out hdg)
              rw [hdg] at HDg
              clear hdg Hsn
              generalize (s)[k].toNat - 48 = d at *
              go_wp2_with fail
              refine (HDg.out _).mono ?_; rintro e w1 ⟨rfl, rfl⟩
              go_wp2_with fail
              go_round
              case rel => exact ⟨k + 1, by omega, by go_num, by rw [HK.out]; go_num, Hs2.out⟩
              case measure => simp [intOf]; omega
          · have hd : s.data.toList.take k = s.data.toList := List.take_of_length_le (by simp; omega)
            rw [hd] at hall
            rw [hd]
            have hM := Hbd2.out hall
            have HR := Lib.hid (Hval2.out hall)
            generalize numVN s.data.toList = M at *
            rw [HV.out] at HR
            have hlk' : (s.size : Int) ≤ (k : Int) := by omega
            have HDx := Lib.hid (HD.out ((M : Int)) w (by omega) (by omega) Ht.out)
            have hwn : IntKind.i64.wrap ((M : Int)) = (M : Int) := IntWalk.i64_in _ (by omega)
            clear hall hd Hall
            by_cases hq : decS ((M : Int)) = s
            · have HQ := Lib.hid (show readN s = some ((M : Int)) by rw [HR.out, if_pos hq])
              rw [hq] at HDx
              clear hq HR
              go_wp2_with fail
              refine HDx.out.mono ?_; rintro e w5 ⟨rfl, hb5⟩
              go_wp2_with fail
              go_ret2
              unfold RetN1; rw [HQ.out]; exact ⟨rfl, hb5⟩
            · have HQ := Lib.hid (show readN s = none by rw [HR.out, if_neg hq])
              have hbn : ((decS ((M : Int))).toList != s.toList) = true := bne_iff_ne.2 fun e => hq (ba_inj e)
              have hbq : ((decS ((M : Int))).toList == s.toList) = false := beq_eq_false_iff_ne.2 fun e => hq (ba_inj e)
              generalize decS ((M : Int)) = Y at *
              clear hq HR
              go_wp2_with fail
              refine HDx.out.mono ?_; rintro e w5 ⟨rfl, hb5⟩
              go_wp2_with fail
              go_ret2
              unfold RetN1; rw [HQ.out]; exact ⟨rfl, hb5⟩
end Go.Proofs.YtmheijnckmlbnaaDoor
/- Numbers read from texts, part 4 (printed by gen_rn4.py): l01Number (reference). -/
namespace Go.Proofs.YtmheijnckmlbnaaDoor
open Go.RowKit Go.Joins

theorem ne_some {s : ByteArray} (h : 0 < s.size) : s.toList.isEmpty = false := by
  rw [ByteArray.toList_eq, List.isEmpty_eq_false_iff]
  intro e
  have h1 : s.data.toList.length = s.size := by simp
  rw [e] at h1
  simp at h1; omega
theorem ne_none {s : ByteArray} (h : s.size = 0) : s.toList.isEmpty = true := by
  rw [ByteArray.toList_eq, List.isEmpty_iff]
  exact List.eq_nil_of_length_eq_zero (by simpa using h)

set_option maxRecDepth 100000 in
set_option maxHeartbeats 3200000 in
theorem l01Number_any (s : ByteArray) (w : World) (hs : s.size ≤ 1073741824) : Calls Tryd.prog 92 #[.string s] w (RetN1 w s) := by
  have Hnone := Lib.hid (fun h => readN_none (s := s) h)
  have Hbad := Lib.hid (fun k hk h => readN_bad (s := s) k hk h)
  have Hval := Lib.hid (fun h1 h2 => readN_val (s := s) h1 h2)
  have Hbd := Lib.hid (fun h1 h2 => valN_bd (s := s) h1 h2)
  have HD := Lib.hid (fun n wx h0 h1 => l01Dec_any n wx h0 h1)
  have hb0 := Below.refl w.heap.size w
  have HV := Lib.hid (show valN s = if (bodyN s).size < s.size then -(numVN (bodyN s).data.toList : Int) else numVN (bodyN s).data.toList from rfl)
  by_cases hh : s.data.toList.head? = some 45
  · obtain ⟨h0, he⟩ := head_sizeN hh
    have HT := Lib.hid (show bodyN s = s.extract 1 s.size by unfold bodyN; rw [if_pos hh])
    have hb : ((s[0].toNat : Int) == 45) = true := by rw [he]; rfl
    have hz0 := tail_size1 s
    have hpos : (0 : Int) < (s.size : Int) := by omega
    have hne := ne_some h0
    obtain ⟨T, hT⟩ : ∃ T, s.extract 1 s.size = T := ⟨_, rfl⟩
    rw [HT.out, hT] at Hbad Hbd Hval Hnone HV
    rw [hT] at hz0
    have hlt : T.size < s.size := by omega
    rw [if_pos hlt] at HV
    have hlt' : (T.size : Int) < (s.size : Int) := by omega
    clear HT he hh hz0
    by_cases t0 : T.size = 0
    · have hn := Hnone.out (.inl t0)
      have t0' : (T.size : Int) < 1 := by omega
      go_enter Tryd.func92, Tryd.ntmps92
      go_wp2_with fail
      go_ret2
      unfold RetN1; rw [hn]; exact ⟨rfl, hb0⟩
    · have t0' : ¬ (T.size : Int) < 1 := by omega
      by_cases t1 : 18 < T.size
      · have hn := Hnone.out (.inr t1)
        have t1' : (18 : Int) < (T.size : Int) := by omega
        go_enter Tryd.func92, Tryd.ntmps92
        go_wp2_with fail
        go_ret2
        unfold RetN1; rw [hn]; exact ⟨rfl, hb0⟩
      · have t1' : ¬ (18 : Int) < (T.size : Int) := by omega
        have hno : ¬(T.size = 0 ∨ 18 < T.size) := by omega
        have Hval2 := Lib.hid (Hval.out hno)
        have Hbd2 := Lib.hid (Hbd.out hno)
        clear Hval Hbd Hnone
        go_enter Tryd.func92, Tryd.ntmps92
        go_wp2_with fail
        go_loop [5, 6] (fun n i => ∃ k : Nat, k ≤ T.size ∧ i = .int .i64 (k : Int) ∧ n = .int .i64 (numVN (T.data.toList.take k) : Int) ∧ ∀ c ∈ T.data.toList.take k, isDg c = true) (fun _ i => T.size - (intOf i).toNat)
        case atStart => exact ⟨0, Nat.zero_le _, rfl, rfl, by simp⟩
        case round =>
          obtain ⟨k, hk, rfl, rfl, hall⟩ := hrel
          have Hall := Lib.hid hall
          by_cases hlk : k < T.size
          · have hlk' : (k : Int) < (T.size : Int) := by omega
            have HDg := Lib.hid (fun wx => l01DigitN_any (T)[k] wx)
            have HK := Lib.hid (take_at T k hlk)
            have hN : numVN (T.data.toList.take k) < 100000000000000000 := by
              have h := numVN_lt _ hall
              have h3 : (10 : Nat) ^ (T.data.toList.take k).length ≤ 10 ^ 17 := Nat.pow_le_pow_right (by omega) (by rw [List.length_take]; omega)
              have h4 : (10 : Nat) ^ 17 = 100000000000000000 := by decide
              omega
            have Hsn := Lib.hid (fun (h : isDg (T)[k] = true) => (show ∀ c ∈ T.data.toList.take (k + 1), isDg c = true from fun c hc => by
              rw [List.take_succ_eq_append_getElem (by simpa using hlk)] at hc
              rcases List.mem_append.1 hc with h1 | h1
              · exact Hall.out c h1
              · rw [List.mem_singleton.1 h1]; exact h))
            generalize numVN (T.data.toList.take k) = N at *
            clear hall
            cases hdg : isDg (T)[k] with
            | false =>
              have hn := Hbad.out k hlk hdg
              rw [hdg] at HDg
              clear hdg
              go_wp2_with fail
              refine (HDg.out _).mono ?_; rintro e w1 ⟨rfl, rfl⟩
              go_wp2_with fail
              go_ret2
              unfold RetN1; rw [hn]; exact ⟨rfl, hb0⟩
            | true =>
              obtain ⟨hw, h9⟩ := dig_wrap (T)[k] hdg
              have Hs2 := Lib.hid (Hsn.out hdg)
              rw [hdg] at HDg
              clear hdg Hsn
              generalize (T)[k].toNat - 48 = d at *
              go_wp2_with fail
              refine (HDg.out _).mono ?_; rintro e w1 ⟨rfl, rfl⟩
              go_wp2_with fail
              go_round
              case rel => exact ⟨k + 1, by omega, by go_num, by rw [HK.out]; go_num, Hs2.out⟩
              case measure => simp [intOf]; omega
          · have hd : T.data.toList.take k = T.data.toList := List.take_of_length_le (by simp; omega)
            rw [hd] at hall
            rw [hd]
            have hM := Hbd2.out hall
            have HR := Lib.hid (Hval2.out hall)
            generalize numVN T.data.toList = M at *
            rw [HV.out] at HR
            have hlk' : (T.size : Int) ≤ (k : Int) := by omega
            have HDx := Lib.hid (HD.out (-(M : Int)) w (by omega) (by omega))
            have hwn : IntKind.i64.wrap (-(M : Int)) = -(M : Int) := IntWalk.i64_in _ (by omega)
            clear hall hd Hall
            by_cases hq : decS (-(M : Int)) = s
            · have HQ := Lib.hid (show readN s = some (-(M : Int)) by rw [HR.out, if_pos hq])
              rw [hq] at HDx
              clear hq HR
              go_wp2_with fail
              refine HDx.out.mono ?_; rintro e w5 ⟨rfl, hb5⟩
              go_wp2_with fail
              go_ret2
              unfold RetN1; rw [HQ.out]; exact ⟨rfl, hb5⟩
            · have HQ := Lib.hid (show readN s = none by rw [HR.out, if_neg hq])
              have hbn : ((decS (-(M : Int))).toList != s.toList) = true := bne_iff_ne.2 fun e => hq (ba_inj e)
              have hbq : ((decS (-(M : Int))).toList == s.toList) = false := beq_eq_false_iff_ne.2 fun e => hq (ba_inj e)
              generalize decS (-(M : Int)) = Y at *
              clear hq HR
              go_wp2_with fail
              refine HDx.out.mono ?_; rintro e w5 ⟨rfl, hb5⟩
              go_wp2_with fail
              go_ret2
              unfold RetN1; rw [HQ.out]; exact ⟨rfl, hb5⟩
  · have HT := Lib.hid (show bodyN s = s by unfold bodyN; rw [if_neg hh])
    rw [HT.out] at Hbad Hbd Hval Hnone HV
    rw [if_neg (Nat.lt_irrefl _)] at HV
    clear HT
    by_cases t0 : s.size = 0
    · have hn := Hnone.out (.inl t0)
      have t0' : (s.size : Int) < 1 := by omega
      have hne := ne_none t0
      go_enter Tryd.func92, Tryd.ntmps92
      go_wp2_with fail
      go_ret2
      unfold RetN1; rw [hn]; exact ⟨rfl, hb0⟩
    · have t0' : ¬ (s.size : Int) < 1 := by omega
      have h0 : 0 < s.size := by omega
      have hpos : (0 : Int) < (s.size : Int) := by omega
      have hne := ne_some h0
      have hb : ((s[0].toNat : Int) == 45) = false := by
        rw [beq_eq_false_iff_ne]; intro h
        exact head_not hh h0 (UInt8.toNat_inj.1 (by have : (45 : UInt8).toNat = 45 := rfl
                                                    omega))
      by_cases t1 : 18 < s.size
      · have hn := Hnone.out (.inr t1)
        have t1' : (18 : Int) < (s.size : Int) := by omega
        go_enter Tryd.func92, Tryd.ntmps92
        go_wp2_with fail
        go_ret2
        unfold RetN1; rw [hn]; exact ⟨rfl, hb0⟩
      · have t1' : ¬ (18 : Int) < (s.size : Int) := by omega
        have hno : ¬(s.size = 0 ∨ 18 < s.size) := by omega
        have Hval2 := Lib.hid (Hval.out hno)
        have Hbd2 := Lib.hid (Hbd.out hno)
        clear Hval Hbd Hnone
        go_enter Tryd.func92, Tryd.ntmps92
        go_wp2_with fail
        go_loop [5, 6] (fun n i => ∃ k : Nat, k ≤ s.size ∧ i = .int .i64 (k : Int) ∧ n = .int .i64 (numVN (s.data.toList.take k) : Int) ∧ ∀ c ∈ s.data.toList.take k, isDg c = true) (fun _ i => s.size - (intOf i).toNat)
        case atStart => exact ⟨0, Nat.zero_le _, rfl, rfl, by simp⟩
        case round =>
          obtain ⟨k, hk, rfl, rfl, hall⟩ := hrel
          have Hall := Lib.hid hall
          by_cases hlk : k < s.size
          · have hlk' : (k : Int) < (s.size : Int) := by omega
            have HDg := Lib.hid (fun wx => l01DigitN_any (s)[k] wx)
            have HK := Lib.hid (take_at s k hlk)
            have hN : numVN (s.data.toList.take k) < 100000000000000000 := by
              have h := numVN_lt _ hall
              have h3 : (10 : Nat) ^ (s.data.toList.take k).length ≤ 10 ^ 17 := Nat.pow_le_pow_right (by omega) (by rw [List.length_take]; omega)
              have h4 : (10 : Nat) ^ 17 = 100000000000000000 := by decide
              omega
            have Hsn := Lib.hid (fun (h : isDg (s)[k] = true) => (show ∀ c ∈ s.data.toList.take (k + 1), isDg c = true from fun c hc => by
              rw [List.take_succ_eq_append_getElem (by simpa using hlk)] at hc
              rcases List.mem_append.1 hc with h1 | h1
              · exact Hall.out c h1
              · rw [List.mem_singleton.1 h1]; exact h))
            generalize numVN (s.data.toList.take k) = N at *
            clear hall
            cases hdg : isDg (s)[k] with
            | false =>
              have hn := Hbad.out k hlk hdg
              rw [hdg] at HDg
              clear hdg
              go_wp2_with fail
              refine (HDg.out _).mono ?_; rintro e w1 ⟨rfl, rfl⟩
              go_wp2_with fail
              go_ret2
              unfold RetN1; rw [hn]; exact ⟨rfl, hb0⟩
            | true =>
              obtain ⟨hw, h9⟩ := dig_wrap (s)[k] hdg
              have Hs2 := Lib.hid (Hsn.out hdg)
              rw [hdg] at HDg
              clear hdg Hsn
              generalize (s)[k].toNat - 48 = d at *
              go_wp2_with fail
              refine (HDg.out _).mono ?_; rintro e w1 ⟨rfl, rfl⟩
              go_wp2_with fail
              go_round
              case rel => exact ⟨k + 1, by omega, by go_num, by rw [HK.out]; go_num, Hs2.out⟩
              case measure => simp [intOf]; omega
          · have hd : s.data.toList.take k = s.data.toList := List.take_of_length_le (by simp; omega)
            rw [hd] at hall
            rw [hd]
            have hM := Hbd2.out hall
            have HR := Lib.hid (Hval2.out hall)
            generalize numVN s.data.toList = M at *
            rw [HV.out] at HR
            have hlk' : (s.size : Int) ≤ (k : Int) := by omega
            have HDx := Lib.hid (HD.out ((M : Int)) w (by omega) (by omega))
            have hwn : IntKind.i64.wrap ((M : Int)) = (M : Int) := IntWalk.i64_in _ (by omega)
            clear hall hd Hall
            by_cases hq : decS ((M : Int)) = s
            · have HQ := Lib.hid (show readN s = some ((M : Int)) by rw [HR.out, if_pos hq])
              rw [hq] at HDx
              clear hq HR
              go_wp2_with fail
              refine HDx.out.mono ?_; rintro e w5 ⟨rfl, hb5⟩
              go_wp2_with fail
              go_ret2
              unfold RetN1; rw [HQ.out]; exact ⟨rfl, hb5⟩
            · have HQ := Lib.hid (show readN s = none by rw [HR.out, if_neg hq])
              have hbn : ((decS ((M : Int))).toList != s.toList) = true := bne_iff_ne.2 fun e => hq (ba_inj e)
              have hbq : ((decS ((M : Int))).toList == s.toList) = false := beq_eq_false_iff_ne.2 fun e => hq (ba_inj e)
              generalize decS ((M : Int)) = Y at *
              clear hq HR
              go_wp2_with fail
              refine HDx.out.mono ?_; rintro e w5 ⟨rfl, hb5⟩
              go_wp2_with fail
              go_ret2
              unfold RetN1; rw [HQ.out]; exact ⟨rfl, hb5⟩
end Go.Proofs.YtmheijnckmlbnaaDoor
/- Texts, read: cut at two bytes; the lines of a text (textLines). -/
namespace Go.Proofs.YtmheijnckmlbnaaDoor
open Go.RowKit Go.Joins

def hit2 (c : UInt8) (s : ByteArray) (i : Nat) : Bool := (s.data[i]? == some c) && (s.data[i + 1]? == some c)
/-- the first place of two bytes c; the text's size if there is none -/
def fnd2 (c : UInt8) (s : ByteArray) : Nat := (List.range s.size).findIdx (hit2 c s)
theorem fnd2_le (c : UInt8) (s : ByteArray) : fnd2 c s ≤ s.size := by
  have : fnd2 c s ≤ (List.range s.size).length := List.findIdx_le_length
  simpa using this
theorem hit2_iff (c : UInt8) (s : ByteArray) (i : Nat) : hit2 c s i = true ↔ ∃ h : i + 1 < s.size, s[i] = c ∧ s[i + 1] = c := by
  unfold hit2
  simp only [Bool.and_eq_true, beq_iff_eq]
  constructor
  · rintro ⟨h1, h2⟩
    obtain ⟨q1, e1⟩ := Array.getElem?_eq_some_iff.1 h1
    obtain ⟨q2, e2⟩ := Array.getElem?_eq_some_iff.1 h2
    exact ⟨q2, e1, e2⟩
  · rintro ⟨h, e1, e2⟩
    exact ⟨Array.getElem?_eq_some_iff.2 ⟨Nat.lt_of_succ_lt h, e1⟩, Array.getElem?_eq_some_iff.2 ⟨h, e2⟩⟩
theorem fnd2_hit {c : UInt8} {s : ByteArray} (h : fnd2 c s < s.size) : hit2 c s (fnd2 c s) = true := by
  have := List.findIdx_getElem (p := hit2 c s) (xs := List.range s.size) (w := by show fnd2 c s < _; simpa using h)
  simpa [fnd2] using this
theorem fnd2_no {c : UInt8} {s : ByteArray} {i : Nat} (h : i < fnd2 c s) : hit2 c s i = false := by
  have h0 := fnd2_le c s
  have := List.not_of_lt_findIdx (p := hit2 c s) (xs := List.range s.size) (i := i) h
  simpa using this
theorem fnd2_eq {c : UInt8} {s : ByteArray} {k : Nat} (hk : k ≤ fnd2 c s) (h : hit2 c s k = true) : fnd2 c s = k := by
  refine Nat.le_antisymm (Nat.le_of_not_lt fun hl => ?_) hk
  rw [fnd2_no hl] at h; cases h
theorem fnd2_ne {c : UInt8} {s : ByteArray} {k : Nat} (hk : k ≤ fnd2 c s) (hlt : k < s.size) (h : hit2 c s k = false) : k + 1 ≤ fnd2 c s := by
  rcases Nat.lt_or_ge k (fnd2 c s) with hl | hg
  · exact hl
  · exfalso
    have he : fnd2 c s = k := Nat.le_antisymm hg hk
    have := fnd2_hit (c := c) (s := s) (by omega)
    rw [he, h] at this; cases this
theorem fnd2_end {c : UInt8} {s : ByteArray} {k : Nat} (hk : k ≤ fnd2 c s) (h : s.size < k + 2) : fnd2 c s = s.size := by
  have h0 := fnd2_le c s
  rcases Nat.lt_or_ge (fnd2 c s) s.size with hl | hg
  · obtain ⟨q, _⟩ := (hit2_iff _ _ _).1 (fnd2_hit hl)
    omega
  · omega
theorem two_bytes (s : ByteArray) (k : Nat) (hlt : k + 1 < s.size) : s.extract k (k + 2) = ⟨#[s[k], s[k + 1]]⟩ := by
  have h1 := one_byte s k (by omega)
  have h2 := one_byte s (k + 1) hlt
  have : s.extract k (k + 2) = s.extract k (k + 1) ++ s.extract (k + 1) (k + 2) := by
    apply ByteArray.ext
    simp only [ByteArray.data_append, ByteArray.data_extract]
    rw [Array.extract_append_extract, show min k (k + 1) = k by omega, show max (k + 1) (k + 2) = k + 2 by omega]
  rw [this, h1, h2]; rfl
def RetC2 (w : World) (c : UInt8) (s : ByteArray) (e : Ending) (w' : World) : Prop :=
  (if fnd2 c s < s.size then e = .returned (.tuple #[.string (s.extract 0 (fnd2 c s)), .string (s.extract (fnd2 c s + 2) s.size), .bool true]) else e = .returned (.tuple #[.string s, .string ⟨#[]⟩, .bool false])) ∧ ∃ n, w' = w.drewN n
theorem RetC2.yes {w w' : World} {c : UInt8} {s : ByteArray} {k : Nat} (h : fnd2 c s = k) (hk : k < s.size) (hw : ∃ n, w' = w.drewN n) : RetC2 w c s (.returned (.tuple #[.string (s.extract 0 k), .string (s.extract (k + 2) s.size), .bool true])) w' := by
  subst h; exact ⟨by rw [if_pos hk], hw⟩
theorem RetC2.no {w w' : World} {c : UInt8} {s : ByteArray} (h : fnd2 c s = s.size) (hw : ∃ n, w' = w.drewN n) : RetC2 w c s (.returned (.tuple #[.string s, .string ⟨#[]⟩, .bool false])) w' :=
  ⟨by rw [if_neg (by omega)], hw⟩

set_option maxRecDepth 100000 in
set_option maxHeartbeats 1000000 in
theorem cut2_any (s : ByteArray) (c : UInt8) (w : World) (hs : s.size ≤ 1073741824) : Calls Tryd.prog 59 #[.string s, .string ⟨#[c, c]⟩] w (RetC2 w c s) := by
  have h1 : (⟨#[c, c]⟩ : ByteArray).size = 2 := rfl
  go_enter Tryd.func59, Tryd.ntmps59
  go_wp2_with fail
  go_loop [7] (fun i => ∃ k : Nat, k ≤ fnd2 c s ∧ i = .int .i64 k) (fun i => s.size - (intOf i).toNat)
  case atStart => exact ⟨0, Nat.zero_le _, rfl⟩
  case round =>
    obtain ⟨k, hk, rfl⟩ := hrel
    have hfl := fnd2_le c s
    by_cases hlt : k + 1 < s.size
    · have hsl := two_bytes s k hlt
      have hle : (k : Int) + 2 ≤ (s.size : Int) := by omega
      cases he : hit2 c s k with
      | true =>
        have hf := Lib.hid (fnd2_eq hk he)
        obtain ⟨_, e1, e2⟩ := (hit2_iff _ _ _).1 he
        rw [e1, e2] at hsl
        clear he e1 e2
        go_wp2_with fail
        go_quiet (fail)
        go_wp2_with fail
        go_ret3
        exact RetC2.yes hf.out (by omega) ⟨_, rfl⟩
      | false =>
        have hf := Lib.hid (fnd2_ne hk (by omega) he)
        have hb : ((⟨#[s[k], s[k + 1]]⟩ : ByteArray).toList == [c, c]) = false := by
          rw [beq_eq_false_iff_ne]
          intro h
          rw [ByteArray.toList_eq] at h
          simp only [List.cons.injEq, and_true] at h
          rw [(hit2_iff c s k).2 ⟨hlt, h.1, h.2⟩] at he
          cases he
        generalize (⟨#[s[k], s[k + 1]]⟩ : ByteArray) = o at *
        clear he
        go_wp2_with fail
        go_round
        case rel => exact ⟨k + 1, hf.out, by go_num⟩
        case measure => simp [intOf]; omega
    · have hf := Lib.hid (fnd2_end hk (by omega))
      have hle : ¬ (k : Int) + 2 ≤ (s.size : Int) := by omega
      go_wp2_with fail
      go_ret3
      exact RetC2.no hf.out ⟨0, rfl⟩

theorem linesB_nil (c : UInt8) (s : ByteArray) (h : s.size = 0) : linesB c s = some [] := by
  have hs : s = ⟨#[]⟩ := by
    obtain ⟨⟨l⟩⟩ := s
    have : l = [] := List.eq_nil_of_length_eq_zero h
    rw [this]
  have := fnd_le c s
  unfold linesB
  rw [splitB_no (by omega), hs]
  rfl
theorem linesB_yes {c : UInt8} {s : ByteArray} (h : fnd c s < s.size) : linesB c s = (linesB c (s.extract (fnd c s + 1) s.size)).map (s.extract 0 (fnd c s) :: ·) := by
  have hne := splitB_ne c (s.extract (fnd c s + 1) s.size)
  unfold linesB
  rw [splitB_yes h]
  generalize splitB c (s.extract (fnd c s + 1) s.size) = L at *
  obtain ⟨x, l, rfl⟩ := List.exists_cons_of_ne_nil hne
  rw [List.dropLast_cons_of_ne_nil (by simp), List.getLast?_cons_cons]
  split <;> rfl
theorem linesB_no {c : UInt8} {s : ByteArray} (h : s.size ≤ fnd c s) (h0 : s.size ≠ 0) : linesB c s = none := by
  unfold linesB
  rw [splitB_no h, if_neg]
  intro e
  have h1 : s = ⟨#[]⟩ := Option.some.inj e
  rw [h1] at h0
  exact h0 rfl
end Go.Proofs.YtmheijnckmlbnaaDoor
/- Texts, read, part 2: textLines (program). -/
namespace Go.Proofs.YtmheijnckmlbnaaDoor
open Go.RowKit Go.Joins

theorem linesB_le {c : UInt8} {s : ByteArray} {l : List ByteArray} (h : linesB c s = some l) : l.length ≤ s.size := by
  have := splitB_len c s.size s (Nat.le_refl _)
  unfold linesB at h
  split at h
  · rw [← Option.some.inj h, List.length_dropLast]; omega
  · cases h
theorem splitB_mem (c : UInt8) : ∀ (n : Nat) (s : ByteArray), s.size ≤ n → ∀ z ∈ splitB c s, z.size ≤ s.size := by
  intro n
  induction n with
  | zero =>
    intro s h z hz
    have := fnd_le c s
    rw [splitB_no (by omega)] at hz
    rw [List.mem_singleton.1 hz]; exact Nat.le_refl _
  | succ n ih =>
    intro s h z hz
    rcases Nat.lt_or_ge (fnd c s) s.size with h1 | h1
    · rw [splitB_yes h1] at hz
      rcases List.mem_cons.1 hz with rfl | hz
      · rw [ByteArray.size_extract]; omega
      · have hs := tail_sizeS s (fnd c s + 1)
        have := ih _ (by omega) z hz
        omega
    · rw [splitB_no h1] at hz
      rw [List.mem_singleton.1 hz]; exact Nat.le_refl _
theorem linesB_mem {c : UInt8} {s : ByteArray} {l : List ByteArray} (h : linesB c s = some l) : ∀ z ∈ l, z.size ≤ s.size := by
  unfold linesB at h
  split at h
  · intro z hz
    rw [← Option.some.inj h] at hz
    exact splitB_mem c s.size s (Nat.le_refl _) z ((List.dropLast_subset _) hz)
  · cases h
def RetTl (w : World) (r : Option (List ByteArray)) (e : Ending) (w' : World) : Prop :=
  ∃ v, e = .returned (.tuple #[v, .bool r.isSome]) ∧ (∀ l, r = some l → w'.ownsRow w.heap.size 9 1 v l.length (l.map Value.string)) ∧ Below w.heap.size w w'
theorem RetTl.none {w w' : World} {r : Option (List ByteArray)} {v : Value} (h : r = none) (hb : Below w.heap.size w w') : RetTl w r (.returned (.tuple #[v, .bool false])) w' := by
  subst h; exact ⟨v, rfl, (fun l h => by cases h), hb⟩
theorem RetTl.some {w w' : World} {r : Option (List ByteArray)} {v : Value} {l : List ByteArray} (h : r = some l) (ho : w'.ownsRow w.heap.size 9 1 v l.length (l.map Value.string)) (hb : Below w.heap.size w w') : RetTl w r (.returned (.tuple #[v, .bool true])) w' := by
  subst h; exact ⟨v, rfl, (fun l' h' => by rw [← Option.some.inj h']; exact ho), hb⟩

set_option maxRecDepth 100000 in
set_option maxHeartbeats 1600000 in
theorem textLines_any (s : ByteArray) (w : World) (hs : s.size ≤ 1073741824) : Calls Tryd.prog 57 #[.string s] w (RetTl w (linesB 10 s)) := by
  have hle := Lib.hid (fun l h => linesB_le (c := 10) (s := s) (l := l) h)
  have hb0 := Lib.hid ((Below.refl w.heap.size w).alloc (Nat.le_refl _) (.cells #[] 9))
  have ho0 := Lib.hid (World.ownsRow_made (base := w.heap.size) (e := 9) (size := 1) w #[] 0 (Nat.le_refl _) (by simp [maxLen]) rfl)
  have Hmap := Lib.hid (show linesB 10 s = (linesB 10 s).map (([] : List ByteArray) ++ ·) by cases linesB 10 s <;> rfl)
  go_enter Tryd.func57, Tryd.ntmps57
  go_wp2_with fail
  go_loopw [0, 4] (fun l o wr => ∃ (ln : ByteArray) (out : List ByteArray), l = .string ln ∧ ln.size ≤ s.size ∧ out.length + ln.size ≤ s.size ∧ linesB 10 s = (linesB 10 ln).map (out ++ ·) ∧ wr.ownsRow w.heap.size 9 1 o out.length (out.map Value.string) ∧ Below w.heap.size w wr) (fun l _ _ => szV l)
  case atStart => exact ⟨s, [], rfl, Nat.le_refl _, by simp, Hmap.out, ho0.out, hb0.out⟩
  case round =>
    obtain ⟨ln, out, rfl, hz, hol, hsp, hown, hbl⟩ := hrel
    have HC := Lib.hid (fun wx => cut_any ln 10 wx (by omega))
    have hfl := fnd_le 10 ln
    have Hsp := Lib.hid hsp; clear hsp Hmap
    have Hown := Lib.hid hown
    have Hbl := Lib.hid hbl
    clear hown
    by_cases h0 : ln.size = 0
    · have hn := ne_none h0
      have hfin := Lib.hid (show linesB 10 s = some out by rw [Hsp.out, linesB_nil 10 ln h0]; simp)
      clear HC
      go_wp2_with fail
      go_ret2
      exact RetTl.some hfin.out Hown.out hbl
    · have hn := ne_some (s := ln) (by omega)
      by_cases hf : fnd 10 ln < ln.size
      · rw [decide_eq_true hf] at HC
        have hy := linesB_yes (c := 10) (s := ln) hf
        have Hz := Lib.hid (tail_sizeS ln (fnd 10 ln + 1))
        generalize fnd 10 ln = k at *
        generalize ln.extract 0 k = x at *
        generalize ln.extract (k + 1) ln.size = y at *
        have Hy := Lib.hid hy; clear hy
        go_wp2_with fail
        refine (HC.out _).mono ?_; rintro e w5 ⟨rfl, n5, hw5⟩
        have hb5 : Below w.heap.size w w5 := by rw [hw5]; exact below_drewN Hbl.out n5
        have ho5 := Hown.out.drewN n5
        rw [← hw5] at ho5
        have Hb5 := Lib.hid hb5
        have Ho5 := Lib.hid ho5
        have hz5 := hb5.size
        clear hw5 hb5 ho5 Hown Hbl HC hbl
        go_wp2_with (at_builtin; refine wpList_apd 57 9 _ 1 16 Tryd.underlying57 infoStr rfl (by omega) _ _ rfl rfl w.heap.size _ out.length _ rfl Ho5.out #[.string x] 1 1 rfl rfl (by simp [Value.oneCell']) (by simp [maxLen]; omega) (by omega) hz5 ?_; intro v7 w7 hown7 hg7; have Hb7 := Lib.hid (below_apd Hb5.out Ho5.out hg7 (Nat.le_refl _) hz5); have Ho7 := Lib.hid (own_snoc hown7); clear hown7 hg7)
        go_roundw
        case rel => exact ⟨y, out ++ [x], rfl, by have := Hz.out; omega, by rw [List.length_append]; simp; have := Hz.out; omega, by rw [Hsp.out, Hy.out, Option.map_map]; congr 1; funext l; simp, Ho7.out, Hb7.out⟩
        case measure => simp [szV]; have := Hz.out; omega
      · rw [decide_eq_false hf] at HC
        have hfin := Lib.hid (show linesB 10 s = none by rw [Hsp.out, linesB_no (by omega) h0]; rfl)
        have hb5 := Lib.hid (fun n => below_drewN Hbl.out n)
        go_wp2_with fail
        refine (HC.out _).mono ?_; rintro e w5 ⟨rfl, n5, rfl⟩
        go_wp2_with fail
        go_ret2
        exact RetTl.none hfin.out (hb5.out _)
end Go.Proofs.YtmheijnckmlbnaaDoor
/- Texts, read: plain laws and rows of texts of the call's own (moved out of Ld4 .. Ld7). -/
namespace Go.Proofs.YtmheijnckmlbnaaDoor
open Go.RowKit Go.Joins

theorem cut_back (s : ByteArray) (k : Nat) (hk : k < s.size) : s.extract 0 k ++ ⟨#[s[k]]⟩ ++ s.extract (k + 1) s.size = s := by
  have h1 := one_byte s k hk
  rw [← h1]
  apply ByteArray.ext
  simp only [ByteArray.data_append, ByteArray.data_extract]
  rw [Array.extract_append_extract, show min 0 k = 0 by omega, show max k (k + 1) = k + 1 by omega, Array.extract_append_extract, show min 0 (k + 1) = 0 by omega, show max (k + 1) s.size = s.size by omega]
  exact Array.extract_size
theorem splitB_one {c : UInt8} {s x : ByteArray} (h : splitB c s = [x]) : s = x := by
  rcases Nat.lt_or_ge (fnd c s) s.size with h1 | h1
  · rw [splitB_yes h1] at h
    injection h with _ h2
    exact absurd h2 (splitB_ne _ _)
  · rw [splitB_no h1] at h
    injection h
theorem splitB_cons {c : UInt8} {s x y : ByteArray} {l : List ByteArray} (h : splitB c s = x :: y :: l) : ∃ r, s = x ++ ⟨#[c]⟩ ++ r ∧ splitB c r = y :: l := by
  rcases Nat.lt_or_ge (fnd c s) s.size with h1 | h1
  · rw [splitB_yes h1] at h
    injection h with h2 h3
    refine ⟨_, ?_, h3⟩
    rw [← h2]
    have := cut_back s (fnd c s) h1
    rw [fnd_at c s h1] at this
    exact this.symm
  · rw [splitB_no h1] at h
    injection h with _ h2
    cases h2
/-- the text of lines -/
def textB (c : UInt8) (l : List ByteArray) : ByteArray := ⟨(l.flatMap fun x => x.data.toList ++ [c]).toArray⟩
theorem textB_cons (c : UInt8) (x : ByteArray) (l : List ByteArray) : textB c (x :: l) = x ++ ⟨#[c]⟩ ++ textB c l := by
  unfold textB
  refine ba_inj ?_
  rw [ByteArray.toList_eq, ByteArray.toList_eq]
  simp
theorem linesB_text (c : UInt8) : ∀ (n : Nat) (s : ByteArray), s.size ≤ n → ∀ l, linesB c s = some l → textB c l = s := by
  intro n
  induction n with
  | zero =>
    intro s h l hl
    rw [linesB_nil c s (by omega)] at hl
    rw [← Option.some.inj hl]
    obtain ⟨⟨d⟩⟩ := s
    have : d = [] := List.eq_nil_of_length_eq_zero (Nat.le_zero.1 h)
    subst this; rfl
  | succ n ih =>
    intro s h l hl
    rcases Nat.lt_or_ge (fnd c s) s.size with h1 | h1
    · rw [linesB_yes h1] at hl
      have hz := tail_sizeS s (fnd c s + 1)
      cases hq : linesB c (s.extract (fnd c s + 1) s.size) with
      | none => rw [hq] at hl; cases hl
      | some m =>
        rw [hq] at hl
        rw [← Option.some.inj hl, textB_cons, ih _ (by omega) m hq]
        have := cut_back s (fnd c s) h1
        rw [fnd_at c s h1] at this
        exact this
    · by_cases h0 : s.size = 0
      · exact ih s (by omega) l hl
      · rw [linesB_no h1 h0] at hl; cases hl
theorem sl_of_own {w : World} {base n size : Nat} {e : TypeId} {v : Value} {cs : List Value} (h : w.ownsRow base e size v n cs) : ∃ A c, v = .slice A n c := by
  obtain ⟨_, A, c, hv, _⟩ := Rd.of_own h
  exact ⟨A, c, hv⟩
/-- a row of texts of the call's own -/
theorem own_strs {w : World} {base : Nat} {v : Value} {L : List ByteArray} (h : w.ownsRow base 9 1 v L.length (L.map Value.string)) (hn : 0 < L.length) :
    ∃ g c, v = .slice (some ⟨g, 0, none⟩) L.length c ∧ L.length ≤ c ∧ c ≤ maxLen ∧ g < w.heap.size ∧ ∀ i (hi : i < L.length), w.cell? ⟨g, i, none⟩ = some (.string L[i]) := by
  rcases h.2 with ⟨_, h0⟩ | ⟨g, cap, _, hv, _, _, h1, h2, _⟩
  · omega
  · have hlt := (h.lt g (by rw [hv]; rfl)).2
    subst hv
    refine ⟨g, cap, rfl, h1, h2, hlt, fun i hi => ?_⟩
    have hc := h.cells (g := g) rfl i (.string L[i]) (by rw [List.getElem?_map, List.getElem?_eq_getElem hi]; rfl)
    have e0 : (⟨g, 0, none⟩ : Addr).add i = ⟨g, i, none⟩ := by unfold Addr.add; split <;> simp_all
    rwa [e0] at hc
theorem lines_last {s : ByteArray} : ∃ x, (splitB 10 s).getLast? = some x ∧ ((x.size ≠ 0 ∧ linesB 10 s = none) ∨ (x.size = 0 ∧ linesB 10 s = some (splitB 10 s).dropLast)) := by
  have hne := splitB_ne 10 s
  unfold linesB
  generalize splitB 10 s = L at *
  refine ⟨L.getLast hne, List.getLast?_eq_some_getLast hne, ?_⟩
  rw [List.getLast?_eq_some_getLast hne]
  generalize L.getLast hne = x
  by_cases h : x.size = 0
  · refine .inr ⟨h, ?_⟩
    have : x = ⟨#[]⟩ := by
      obtain ⟨⟨l⟩⟩ := x
      have : l = [] := List.eq_nil_of_length_eq_zero h
      rw [this]
    rw [this, if_pos rfl]
  · refine .inl ⟨h, ?_⟩
    rw [if_neg]
    intro e
    have := Option.some.inj e
    rw [this] at h
    exact h rfl
theorem drop_get {L : List ByteArray} {k : Nat} (h : k < L.dropLast.length) : L.dropLast[k] = L[k]'(by rw [List.length_dropLast] at h; omega) := by
  rw [List.getElem_dropLast]
theorem own_cap {w : World} {base n size m c : Nat} {e : TypeId} {A : Option Addr} {cs : List Value} (h : w.ownsRow base e size (.slice A m c) n cs) : m ≤ c ∧ c ≤ maxLen := by
  rcases h.2 with ⟨h0, _⟩ | ⟨g, cap, _, hv, _, _, h1, h2, _⟩
  · injection h0 with _ h1 h2
    subst h1 h2
    exact ⟨Nat.le_refl _, Nat.zero_le _⟩
  · injection hv with _ h3 h4
    subst h3 h4
    exact ⟨h1, h2⟩
/-- a row of texts of the call's own, empty perhaps -/
theorem own_strs0 {w : World} {base : Nat} {v : Value} {L : List ByteArray} (h : w.ownsRow base 9 1 v L.length (L.map Value.string)) :
    ∃ A c g, v = .slice A L.length c ∧ (0 < L.length → A = some ⟨g, 0, none⟩ ∧ g < w.heap.size) ∧ ∀ i (hi : i < L.length), w.cell? ⟨g, i, none⟩ = some (.string L[i]) := by
  by_cases h0 : 0 < L.length
  · obtain ⟨g, c, hv, _, _, hlt, hc⟩ := own_strs h h0
    exact ⟨_, c, g, hv, (fun _ => ⟨rfl, hlt⟩), hc⟩
  · obtain ⟨A, c, hv⟩ := sl_of_own h
    exact ⟨A, c, 0, hv, (fun h => absurd h h0), fun i hi => absurd hi (by omega)⟩
theorem splitB_one' {c : UInt8} {s x : ByteArray} (h : splitB c s = [x]) : s = x := by
  rcases Nat.lt_or_ge (fnd c s) s.size with h1 | h1
  · rw [splitB_yes h1] at h
    injection h with _ h2
    exact absurd h2 (splitB_ne _ _)
  · rw [splitB_no h1] at h
    injection h
end Go.Proofs.YtmheijnckmlbnaaDoor
/- A loan's line, read: the plain law. -/
namespace Go.Proofs.YtmheijnckmlbnaaDoor

def both (a b : Option Int) : Option (Int × Int) := match a, b with
  | some x, some y => some (x, y)
  | _, _ => none
theorem both_some {a b : Option Int} {p : Int × Int} (h : both a b = some p) : a = some p.1 ∧ b = some p.2 := by
  cases a <;> cases b <;> simp [both] at h
  subst h; exact ⟨rfl, rfl⟩
/-- two numbers with two points between them -/
def two2 (s : ByteArray) : Option (Int × Int) := if fnd2 46 s < s.size then both (readN (s.extract 0 (fnd2 46 s))) (readN (s.extract (fnd2 46 s + 2) s.size)) else none
theorem fnd_not {c : UInt8} {s : ByteArray} {i : Nat} (h : i < fnd c s) (hi : i < s.size) : s[i] ≠ c := by
  have := List.not_of_lt_findIdx (p := (· == c)) (xs := s.data.toList) (i := i) h
  intro e
  have h' : s.data.toList[i]'(by simpa using hi) = c := by rw [← e]; rfl
  simp [h'] at this
theorem fnd_ge {c : UInt8} {s : ByteArray} {k : Nat} (hk : k ≤ s.size) (h : ∀ i (hi : i < s.size), i < k → s[i] ≠ c) : k ≤ fnd c s := by
  induction k with
  | zero => exact Nat.zero_le _
  | succ k ih =>
    have h1 := ih (by omega) fun i hi hl => h i hi (by omega)
    exact fnd_ne c s k h1 (by omega) (h k (by omega) (by omega))
theorem readN_no {r : ByteArray} {a : Int} (c : UInt8) (h1 : isDg c = false) (h2 : c ≠ 45) (h : readN r = some a) : fnd c r = r.size := by
  have h0 := fnd_le c r
  rcases Nat.lt_or_ge (fnd c r) r.size with hl | hg
  · have he := fnd_at c r hl
    rw [readN_none_of (fnd c r) hl (by rw [he]; exact h1) (by rw [he]; exact h2)] at h
    cases h
  · omega
theorem split3 {s x e y : ByteArray} (h : splitB 46 s = [x, e, y]) (h0 : e.size = 0) : fnd2 46 s < s.size ∧ x = s.extract 0 (fnd2 46 s) ∧ y = s.extract (fnd2 46 s + 2) s.size := by
  rcases Nat.lt_or_ge (fnd 46 s) s.size with h1 | h1
  · rw [splitB_yes h1] at h
    injection h with hx ht
    have hz := tail_sizeS s (fnd 46 s + 1)
    have hb := fnd_at 46 s h1
    have hfn : ∀ i (q : i < s.size), i < fnd 46 s → s[i] ≠ 46 := fun i q hi => fnd_not hi q
    have htt := fun m (h : fnd 46 s + 1 ≤ m) => tail_tail s (fnd 46 s + 1) m h (by omega)
    generalize fnd 46 s = f at *
    have hge : ∀ (q : 0 < (s.extract (f + 1) s.size).size), (s.extract (f + 1) s.size)[0] = s[f + 1]'(by omega) := fun q => by
      rw [ByteArray.getElem_extract]
    have hx2 := htt (f + 2) (by omega)
    rw [show f + 2 - (f + 1) = 1 by omega] at hx2
    clear htt
    rcases Nat.lt_or_ge (fnd 46 (s.extract (f + 1) s.size)) (s.extract (f + 1) s.size).size with h2 | h2
    · rw [splitB_yes h2] at ht
      injection ht with he ht2
      have hf0 : fnd 46 (s.extract (f + 1) s.size) = 0 := by
        have := congrArg ByteArray.size he
        rw [ByteArray.size_extract] at this
        omega
      have hat := fnd_at 46 _ h2
      rw [hf0] at h2 ht2
      simp only [hf0] at hat
      rw [hge (by omega)] at hat
      have hhit : hit2 46 s f = true := (hit2_iff _ _ _).2 ⟨by omega, hb, hat⟩
      have hno : f ≤ fnd2 46 s := by
        rcases Nat.lt_or_ge (fnd2 46 s) f with hl | hg
        · exfalso
          obtain ⟨q, e1, _⟩ := (hit2_iff _ _ _).1 (fnd2_hit (c := 46) (s := s) (by omega))
          exact hfn _ (by omega) hl e1
        · exact hg
      have he2 := fnd2_eq hno hhit
      refine ⟨by omega, by rw [he2]; exact hx.symm, ?_⟩
      rw [Nat.zero_add, hz, hx2] at ht2
      rw [he2]
      exact (splitB_one' ht2).symm
    · rw [splitB_no h2] at ht
      injection ht with _ h4
      cases h4
  · rw [splitB_no h1] at h
    injection h with _ h4
    cases h4
theorem split3' {s : ByteArray} {p : Int × Int} (h : two2 s = some p) : splitB 46 s = [s.extract 0 (fnd2 46 s), ⟨#[]⟩, s.extract (fnd2 46 s + 2) s.size] := by
  unfold two2 at h
  split at h
  · rename_i hk
    obtain ⟨ha, hb⟩ := both_some h
    obtain ⟨q, e1, e2⟩ := (hit2_iff _ _ _).1 (fnd2_hit hk)
    have hx := readN_no 46 (by decide) (by decide) ha
    have hy := readN_no 46 (by decide) (by decide) hb
    have hxs : (s.extract 0 (fnd2 46 s)).size = fnd2 46 s := by rw [ByteArray.size_extract]; omega
    have hf : fnd 46 s = fnd2 46 s := by
      refine fnd_eq 46 s _ (fnd_ge (by omega) fun i hi hl => ?_) hk e1
      have h1 := fnd_not (c := 46) (s := s.extract 0 (fnd2 46 s)) (i := i) (by rw [hx]; omega) (by omega)
      rw [ByteArray.getElem_extract] at h1
      simp only [Nat.zero_add] at h1
      exact h1
    have hz := tail_sizeS s (fnd2 46 s + 1)
    have hf0 : fnd 46 (s.extract (fnd2 46 s + 1) s.size) = 0 := by
      refine fnd_eq 46 _ 0 (Nat.zero_le _) (by omega) ?_
      rw [ByteArray.getElem_extract]
      simp only [Nat.add_zero]
      exact e2
    rw [splitB_yes (by omega), hf, splitB_yes (s := s.extract (fnd2 46 s + 1) s.size) (by omega), hf0]
    have ht := tail_tail s (fnd2 46 s + 1) (fnd2 46 s + 2) (by omega) (by omega)
    rw [show fnd2 46 s + 2 - (fnd2 46 s + 1) = 0 + 1 by omega, ← hz] at ht
    rw [ht, splitB_no (s := s.extract (fnd2 46 s + 2) s.size) (by omega)]
    have he : (s.extract (fnd2 46 s + 1) s.size).extract 0 0 = ⟨#[]⟩ := by
      apply ByteArray.ext; simp
    rw [he]
  · cases h
/-- what the reference sees -/
theorem two2_cases (s : ByteArray) : (∃ x y, splitB 46 s = [x, ⟨#[]⟩, y] ∧ two2 s = both (readN x) (readN y)) ∨
    (two2 s = none ∧ ((splitB 46 s).length ≠ 3 ∨ ∃ x e y, splitB 46 s = [x, e, y] ∧ e.size ≠ 0)) := by
  by_cases h : (splitB 46 s).length = 3
  · obtain ⟨x, e, y, he⟩ : ∃ x e y, splitB 46 s = [x, e, y] := by
      generalize splitB 46 s = L at *
      match L, h with
      | [x, e, y], _ => exact ⟨x, e, y, rfl⟩
    by_cases h0 : e.size = 0
    · obtain ⟨h1, rfl, rfl⟩ := split3 he h0
      have e0 : e = ⟨#[]⟩ := by
        obtain ⟨⟨l⟩⟩ := e
        have : l = [] := List.eq_nil_of_length_eq_zero h0
        rw [this]
      subst e0
      exact .inl ⟨_, _, he, by unfold two2; rw [if_pos h1]⟩
    · refine .inr ⟨?_, .inr ⟨x, e, y, he, h0⟩⟩
      cases hq : two2 s with
      | none => rfl
      | some p =>
        have := split3' hq
        rw [he] at this
        injection this with _ h2
        injection h2 with h3 _
        exact absurd (by rw [h3]; rfl) h0
  · refine .inr ⟨?_, .inl h⟩
    cases hq : two2 s with
    | none => rfl
    | some p => exact absurd (by rw [split3' hq]; rfl) h
/-- a loan's line, read -/
def rdLn (s : ByteArray) : Option Ln := match splitB 32 s with
  | [x, a, b] => (two2 x).map fun p => ⟨a, b, p.1, p.2⟩
  | _ => none
theorem rdLn_three {s x a b : ByteArray} (h : splitB 32 s = [x, a, b]) : rdLn s = (two2 x).map fun p => ⟨a, b, p.1, p.2⟩ := by unfold rdLn; rw [h]
theorem rdLn_not {s : ByteArray} (h : (splitB 32 s).length ≠ 3) : rdLn s = none := by
  unfold rdLn
  split
  · rename_i he; rw [he] at h; exact absurd rfl h
  · rfl
end Go.Proofs.YtmheijnckmlbnaaDoor
/- Loans' texts, read: the plain law (a text whose lines are loans is the text of these loans). -/
namespace Go.Proofs.YtmheijnckmlbnaaDoor

def okLn (s : ByteArray) : Bool := (rdLn s).isSome
theorem okLn_some {s : ByteArray} {x : Ln} (h : rdLn s = some x) : okLn s = true := by unfold okLn; rw [h]; rfl
theorem okLn_none {s : ByteArray} (h : rdLn s = none) : okLn s = false := by unfold okLn; rw [h]; rfl
theorem okLn_get {s : ByteArray} (h : okLn s = true) : ∃ x, rdLn s = some x := Option.isSome_iff_exists.1 h
theorem split_sp {s x a b : ByteArray} (h : splitB 32 s = [x, a, b]) : s = x ++ ⟨#[32]⟩ ++ a ++ ⟨#[32]⟩ ++ b := by
  obtain ⟨r, h1, h2⟩ := splitB_cons h
  obtain ⟨r', h3, h4⟩ := splitB_cons h2
  have := splitB_one h4
  subst this h3
  rw [h1]
  simp only [ByteArray.append_assoc]
theorem two2_text {s : ByteArray} {p : Int × Int} (h : two2 s = some p) : s = decS p.1 ++ ⟨#[46, 46]⟩ ++ decS p.2 := by
  unfold two2 at h
  split at h
  · rename_i hk
    obtain ⟨ha, hb⟩ := both_some h
    obtain ⟨q, e1, e2⟩ := (hit2_iff _ _ _).1 (fnd2_hit hk)
    rw [readN_dec ha, readN_dec hb]
    have h1 := cut_back s (fnd2 46 s) hk
    have h2 := cut_back (s.extract (fnd2 46 s + 1) s.size) 0 (by rw [ByteArray.size_extract]; omega)
    rw [ByteArray.getElem_extract] at h2
    simp only [Nat.add_zero] at h2
    rw [e2] at h2
    rw [e1] at h1
    have h3 := tail_tail s (fnd2 46 s + 1) (fnd2 46 s + 2) (by omega) (by omega)
    have hz := tail_sizeS s (fnd2 46 s + 1)
    rw [show fnd2 46 s + 2 - (fnd2 46 s + 1) = 0 + 1 by omega, ← hz] at h3
    rw [h3] at h2
    rw [← h2] at h1
    have e0 : ((s.extract (fnd2 46 s + 1) s.size).extract 0 0 : ByteArray) = ⟨#[]⟩ := by
      apply ByteArray.ext; simp
    rw [e0] at h1
    have : (⟨#[46, 46]⟩ : ByteArray) = ⟨#[46]⟩ ++ (⟨#[]⟩ ++ ⟨#[46]⟩) := rfl
    rw [this]
    refine h1.symm.trans ?_
    simp only [ByteArray.append_assoc]
  · cases h
theorem rdLn_text {s : ByteArray} {x : Ln} (h : rdLn s = some x) : lineL x = s ++ ⟨#[10]⟩ := by
  unfold rdLn at h
  split at h
  · rename_i y a b he
    cases hq : two2 y with
    | none => rw [hq] at h; cases h
    | some p =>
      rw [hq] at h
      rw [← Option.some.inj h]
      have h1 := split_sp he
      have h2 := two2_text hq
      rw [h1]
      conv => rhs; rw [h2]
      unfold lineL
      rfl
  · cases h
theorem rdLn_size {s : ByteArray} {x : Ln} (h : rdLn s = some x) : x.what.size ≤ s.size ∧ x.who.size ≤ s.size := by
  unfold rdLn at h
  split at h
  · rename_i y a b he
    cases hq : two2 y with
    | none => rw [hq] at h; cases h
    | some p =>
      rw [hq] at h
      rw [← Option.some.inj h]
      have h1 := splitB_mem 32 s.size s (Nat.le_refl _)
      rw [he] at h1
      exact ⟨h1 a (by simp), h1 b (by simp)⟩
  · cases h
theorem readLn_text : ∀ (l : List ByteArray), l.all okLn = true → textL (l.filterMap rdLn) = textB 10 l := by
  intro l
  induction l with
  | nil => intro _; rfl
  | cons s l ih =>
    intro h
    rw [List.all_cons, Bool.and_eq_true] at h
    obtain ⟨x, hx⟩ := okLn_get h.1
    rw [List.filterMap_cons_some hx, textB_cons, ← ih h.2, ← rdLn_text hx]
    unfold textL
    refine ba_inj ?_
    rw [ByteArray.toList_eq, ByteArray.toList_eq]
    simp
/-- the loans of a text -/
def rdLoans (s : ByteArray) : Option (List Ln) := match linesB 10 s with
  | none => none
  | some l => if l.all okLn = true then (if loansOk (l.filterMap rdLn) = true then some (l.filterMap rdLn) else none) else none
theorem rdLoans_none {s : ByteArray} (h : linesB 10 s = none) : rdLoans s = none := by unfold rdLoans; rw [h]
theorem rdLoans_bad {s : ByteArray} {l : List ByteArray} (h : linesB 10 s = some l) (k : Nat) (hk : k < l.length) (hb : okLn l[k] = false) : rdLoans s = none := by
  unfold rdLoans; rw [h]
  simp only
  rw [if_neg]
  intro ha
  rw [List.all_eq_true.1 ha _ (List.getElem_mem hk)] at hb
  cases hb
theorem rdLoans_at {s : ByteArray} {l : List ByteArray} (h : linesB 10 s = some l) (ha : l.all okLn = true) : rdLoans s = if loansOk (l.filterMap rdLn) = true then some (l.filterMap rdLn) else none := by
  unfold rdLoans; rw [h]
  simp only
  rw [if_pos ha]
theorem okLn_step {l : List ByteArray} {k : Nat} {x : Ln} (hk : k < l.length) (ha : (l.take k).all okLn = true) (hx : rdLn l[k] = some x) :
    (l.take (k + 1)).all okLn = true ∧ (l.take (k + 1)).filterMap rdLn = (l.take k).filterMap rdLn ++ [x] := by
  rw [List.take_succ_eq_append_getElem hk, List.all_append, List.filterMap_append, ha]
  refine ⟨by simp [okLn_some hx], by rw [List.filterMap_cons_some hx]; rfl⟩
theorem filter_len {l : List ByteArray} (h : l.all okLn = true) : (l.filterMap rdLn).length = l.length := by
  induction l with
  | nil => rfl
  | cons s l ih =>
    rw [List.all_cons, Bool.and_eq_true] at h
    obtain ⟨x, hx⟩ := okLn_get h.1
    rw [List.filterMap_cons_some hx, List.length_cons, List.length_cons, ih h.2]
theorem rdLoans_long {s : ByteArray} {l : List ByteArray} (h : linesB 10 s = some l) (hl : 60 < l.length) : rdLoans s = none := by
  cases ha : l.all okLn with
  | false => unfold rdLoans; rw [h]; simp [ha]
  | true =>
    rw [rdLoans_at h ha, if_neg]
    intro hk
    have := loans_60 hk
    rw [filter_len ha] at this
    omega
theorem filter_sm {l : List ByteArray} {n : Nat} (hn : n ≤ 1048576) (hl : ∀ z ∈ l, z.size ≤ n) : ∀ x ∈ l.filterMap rdLn, smL x := by
  intro x hx
  obtain ⟨s, hs, he⟩ := List.mem_filterMap.1 hx
  have h1 := rdLn_size he
  have h2 := hl s hs
  exact ⟨by omega, by omega⟩
end Go.Proofs.YtmheijnckmlbnaaDoor
/- A loan's line, read by the reference: l23Line. -/
namespace Go.Proofs.YtmheijnckmlbnaaDoor
open Go.RowKit Go.Joins

/-- three texts in a block -/
structure W3 (w : World) (g : Nat) (x a b : ByteArray) : Prop where
  lt : g < w.heap.size
  c0 : w.cell? ⟨g, 0, none⟩ = some (.string x)
  c1 : w.cell? ⟨g, 1, none⟩ = some (.string a)
  c2 : w.cell? ⟨g, 2, none⟩ = some (.string b)
theorem W3.next {w w' : World} {g : Nat} {x a b : ByteArray} (h : W3 w g x a b) (hb : Below w.heap.size w w') : W3 w' g x a b :=
  ⟨Nat.lt_of_lt_of_le h.lt hb.size, (hb.cell (p := ⟨g, 0, none⟩) h.lt).trans h.c0, (hb.cell (p := ⟨g, 1, none⟩) h.lt).trans h.c1, (hb.cell (p := ⟨g, 2, none⟩) h.lt).trans h.c2⟩
theorem own_w3 {w : World} {base : Nat} {v : Value} {x a b : ByteArray} (h : w.ownsRow base 9 1 v [x, a, b].length ([x, a, b].map Value.string)) :
    ∃ g c, v = .slice (some ⟨g, 0, none⟩) 3 c ∧ W3 w g x a b := by
  obtain ⟨g, c, hv, _, _, hlt, hc⟩ := own_strs h (by simp)
  exact ⟨g, c, hv, hlt, hc 0 (by simp), hc 1 (by simp), hc 2 (by simp)⟩
theorem three_of {L : List ByteArray} (h : L.length = 3) : ∃ x a b, L = [x, a, b] := by
  match L, h with
  | [x, a, b], _ => exact ⟨x, a, b, rfl⟩
theorem ll_fin {s x a b p q : ByteArray} (h1 : splitB 32 s = [x, a, b]) (h2 : two2 x = both (readN p) (readN q)) :
    (rdLn s).isSome = ((readN p).isSome && (readN q).isSome) ∧ ∀ y, rdLn s = some y → (⟨a, b, (readN p).getD 0, (readN q).getD 0⟩ : Ln) = y := by
  rw [rdLn_three h1, h2]
  cases readN p <;> cases readN q <;> simp [both]
/-- a loan and whether the line is one -/
def RetLl (w : World) (r : Option Ln) (e : Ending) (w' : World) : Prop :=
  ∃ x : Ln, e = .returned (.tuple #[aggL x, .bool r.isSome]) ∧ (∀ y, r = some y → x = y) ∧ Below w.heap.size w w'
theorem RetLl.none {w w' : World} {r : Option Ln} {a b : ByteArray} {f t : Int} (h : r = none) (hb : Below w.heap.size w w') : RetLl w r (.returned (.tuple #[.agg #[.string a, .string b, .int .i64 f, .int .i64 t], .bool false])) w' := by
  subst h; exact ⟨⟨a, b, f, t⟩, rfl, (fun y h => by cases h), hb⟩
theorem RetLl.of {w w' : World} {r : Option Ln} {a b : ByteArray} {f t : Int} {o : Bool} (h : r.isSome = o ∧ ∀ y, r = some y → (⟨a, b, f, t⟩ : Ln) = y) (hb : Below w.heap.size w w') : RetLl w r (.returned (.tuple #[.agg #[.string a, .string b, .int .i64 f, .int .i64 t], .bool o])) w' := by
  obtain ⟨h1, h2⟩ := h
  subst h1; exact ⟨⟨a, b, f, t⟩, rfl, h2, hb⟩

set_option maxRecDepth 100000 in
set_option maxHeartbeats 3200000 in
theorem l23Line_any (s : ByteArray) (w : World) (hs : s.size ≤ 1073741824) : Calls Tryd.prog 65 #[.string s] w (RetLl w (rdLn s)) := by
  have HSp := Lib.hid (fun wx => l01Split_any s 32 wx hs)
  unfold RetPs at HSp
  have HB0 := Lib.hid (Below.refl (w.alloc (.cells #[.string ⟨#[]⟩, .string ⟨#[]⟩, .int .i64 0, .int .i64 0] 26)).heap.size (w.alloc (.cells #[.string ⟨#[]⟩, .string ⟨#[]⟩, .int .i64 0, .int .i64 0] 26)))
  have hlen := splitB_len 32 s.size s (Nat.le_refl _)
  by_cases h3 : (splitB 32 s).length = 3
  · obtain ⟨x, a, b, he⟩ := three_of h3
    have hmem := splitB_mem 32 s.size s (Nat.le_refl _)
    rw [he] at HSp hmem
    have hx : x.size ≤ 1073741824 := Nat.le_trans (hmem x (by simp)) hs
    have HS2 := Lib.hid (fun wx => l01Split_any x 46 wx hx)
    unfold RetPs at HS2
    have HC := Lib.hid (two2_cases x)
    have hmem2 := splitB_mem 46 x.size x (Nat.le_refl _)
    have hlen2 := splitB_len 46 x.size x (Nat.le_refl _)
    have He := Lib.hid he
    clear he h3 hmem
    go_enter Tryd.func65, Tryd.ntmps65
    go_wp2_with fail
    refine (HSp.out _).mono ?_; rintro e w5 ⟨v5, rfl, ho5, hb5⟩
    have HB5 := Lib.hid (HB0.out.trans (hb5.mono HB0.out.size))
    obtain ⟨g5, c5, rfl, hw5⟩ := own_w3 ho5
    have W5 := Lib.hid hw5
    obtain ⟨l5, p0, p1, p2⟩ := hw5
    clear ho5 hb5 HSp HB0
    go_wp2_with fail
    rcases HC.out with ⟨p, q, hs2, ht2⟩ | ⟨ht2, hne | ⟨p, e2, q, hs2, hne⟩⟩
    · rw [hs2] at HS2 hmem2
      have hp : p.size ≤ 1073741824 := Nat.le_trans (hmem2 p (by simp)) hx
      have hq : q.size ≤ 1073741824 := Nat.le_trans (hmem2 q (by simp)) hx
      have HP := Lib.hid (fun wx => l01Number_any p wx hp)
      have HQ := Lib.hid (fun wx => l01Number_any q wx hq)
      unfold RetN1 at HP HQ
      have Hfin := Lib.hid (ll_fin He.out ht2)
      generalize (readN p).getD 0 = f at *
      generalize (readN q).getD 0 = t at *
      generalize (readN p).isSome = o1 at *
      generalize (readN q).isSome = o2 at *
      clear HC hs2 ht2 hmem2
      refine (HS2.out _).mono ?_; rintro e w6 ⟨v6, rfl, ho6, hb6⟩
      have HB6 := Lib.hid (HB5.out.trans (hb6.mono HB5.out.size))
      obtain ⟨g6, c6, rfl, hw6⟩ := own_w3 ho6
      have W6 := Lib.hid hw6
      obtain ⟨l6, q0, q1, q2⟩ := hw6
      have V6 := Lib.hid (W5.out.next hb6)
      clear ho6 hb6 HS2 HB5 W5 p0 p1 p2 l5 l6
      go_wp2_with fail
      refine (HP.out _).mono ?_; rintro e w7 ⟨rfl, hb7⟩
      have HB7 := Lib.hid (HB6.out.trans (hb7.mono HB6.out.size))
      have W7 := Lib.hid (W6.out.next hb7)
      have V7 := Lib.hid (V6.out.next hb7)
      obtain ⟨l6, q0, q1, q2⟩ := W7.out
      clear hb7 HB6 W6 V6 HP l6
      go_wp2_with fail
      refine (HQ.out _).mono ?_; rintro e w8 ⟨rfl, hb8⟩
      have HB8 := Lib.hid (HB7.out.trans (hb8.mono HB7.out.size))
      have V8 := Lib.hid (V7.out.next hb8)
      obtain ⟨l6, p0, p1, p2⟩ := V8.out
      obtain ⟨⟨d0, d1, d2, d3⟩, e0, e1, e2, e3⟩ := res4_pre HB8.out
      have HD := Lib.hid (res4_post HB8.out (.string a) (.string b) (.int .i64 f) (.int .i64 t))
      clear hb8 HB7 W7 V7 HQ l6 q0 q1 q2
      cases o1 with
      | true =>
        go_wp2_with fail
        refine wp_region_noPanic ?_
        refine wp_region_L [14,13] (fun w' => w'.cell? ⟨g5, 1, none⟩ = some (.string a) ∧ w'.cell? ⟨g5, 2, none⟩ = some (.string b)) (by kernel_rfl) (⟨p1, p2⟩) (fun hHeld => ?_)
        refine take_F (i := 0) (d := some 44) (v := ?_) (by kernel_rfl) (by kernel_rfl) rfl rfl (by kernel_rfl) (by kernel_rfl) (by kernel_rfl) (fun _ _ _ h => h) (Or.inl ⟨by rfl, ?_⟩) (by assumption) ?_
        rotate_left
        · (intro w hSw; (try dsimp only at hSw); go_simp; (try rw [if_neg (by omega)]); (try (with_reducible rfl)))
        simp only [Act.put, List.setIfInBounds_toArray, List.set_cons_zero, List.set_cons_succ]
        refine take_F (i := 1) (d := some 45) (v := ?_) (by kernel_rfl) (by kernel_rfl) rfl rfl (by kernel_rfl) (by kernel_rfl) (by kernel_rfl) (fun _ _ _ h => h) (Or.inl ⟨by rfl, ?_⟩) (by assumption) ?_
        rotate_left
        · (intro w hSw; (try dsimp only at hSw); go_simp; (try rw [if_neg (by omega)]); (try (with_reducible rfl)))
        simp only [Act.put, List.setIfInBounds_toArray, List.set_cons_zero, List.set_cons_succ]
        refine take_L [8,2] (i := 2) (d := some 46) (v := ?_) (by kernel_rfl) (by kernel_rfl) (by kernel_rfl) (by kernel_rfl) rfl rfl (by kernel_rfl) (by kernel_rfl) (by kernel_rfl) (fun _ _ _ h => h) (Or.inl ⟨by rfl, ?_⟩) (by assumption) ?_
        rotate_left
        · (intro w hSw; (try dsimp only at hSw); go_simp; (try rw [if_neg (by omega)]); (try (with_reducible rfl)))
        simp only [Act.put, List.setIfInBounds_toArray, List.set_cons_zero, List.set_cons_succ]
        refine take_F (i := 3) (d := some 47) (v := ?_) (by kernel_rfl) (by kernel_rfl) rfl rfl (by kernel_rfl) (by kernel_rfl) (by kernel_rfl) (fun _ _ _ h => h) (Or.inl ⟨by rfl, ?_⟩) (by assumption) ?_
        rotate_left
        · (intro w hSw; (try dsimp only at hSw); go_simp; (try rw [if_neg (by omega)]); (try (with_reducible rfl)))
        simp only [Act.put, List.setIfInBounds_toArray, List.set_cons_zero, List.set_cons_succ]
        refine take_F (i := 4) (d := some 48) (v := ?_) (by kernel_rfl) (by kernel_rfl) rfl rfl (by kernel_rfl) (by kernel_rfl) (by kernel_rfl) (fun _ _ _ h => h) (Or.inl ⟨by rfl, ?_⟩) (by assumption) ?_
        rotate_left
        · (intro w hSw; (try dsimp only at hSw); go_simp; (try rw [if_neg (by omega)]); (try (with_reducible rfl)))
        simp only [Act.put, List.setIfInBounds_toArray, List.set_cons_zero, List.set_cons_succ]
        refine take_L [8,5] (i := 5) (d := some 49) (v := ?_) (by kernel_rfl) (by kernel_rfl) (by kernel_rfl) (by kernel_rfl) rfl rfl (by kernel_rfl) (by kernel_rfl) (by kernel_rfl) (fun _ _ _ h => h) (Or.inl ⟨by rfl, ?_⟩) (by assumption) ?_
        rotate_left
        · (intro w hSw; (try dsimp only at hSw); go_simp; (try rw [if_neg (by omega)]); (try (with_reducible rfl)))
        simp only [Act.put, List.setIfInBounds_toArray, List.set_cons_zero, List.set_cons_succ]
        refine take_F (i := 6) (d := some 50) (v := ?_) (by kernel_rfl) (by kernel_rfl) rfl rfl (by kernel_rfl) (by kernel_rfl) (by kernel_rfl) (fun _ _ _ h => h) (Or.inl ⟨by rfl, ?_⟩) (by assumption) ?_
        rotate_left
        · (intro w hSw; (try dsimp only at hSw); go_simp; (try rw [if_neg (by omega)]); (try (with_reducible rfl)))
        simp only [Act.put, List.setIfInBounds_toArray, List.set_cons_zero, List.set_cons_succ]
        refine take_F (i := 7) (d := some 51) (v := ?_) (by kernel_rfl) (by kernel_rfl) rfl rfl (by kernel_rfl) (by kernel_rfl) (by kernel_rfl) (fun _ _ _ h => h) (Or.inl ⟨by rfl, ?_⟩) (by assumption) ?_
        rotate_left
        · (intro w hSw; (try dsimp only at hSw); go_simp; (try rw [if_neg (by omega)]); (try (with_reducible rfl)))
        simp only [Act.put, List.setIfInBounds_toArray, List.set_cons_zero, List.set_cons_succ]
        refine take_F (i := 8) (d := some 52) (v := ?_) (by kernel_rfl) (by kernel_rfl) rfl rfl (by kernel_rfl) (by kernel_rfl) (by kernel_rfl) (fun _ _ _ h => h) (Or.inl ⟨by rfl, ?_⟩) (by assumption) ?_
        rotate_left
        · (intro w hSw; (try dsimp only at hSw); go_simp; (try rw [if_neg (by omega)]); (try (with_reducible rfl)))
        simp only [Act.put, List.setIfInBounds_toArray, List.set_cons_zero, List.set_cons_succ]
        refine take_F (i := 9) (d := some 53) (v := ?_) (by kernel_rfl) (by kernel_rfl) rfl rfl (by kernel_rfl) (by kernel_rfl) (by kernel_rfl) (fun _ _ _ h => h) (Or.inl ⟨by rfl, ?_⟩) (by assumption) ?_
        rotate_left
        · (intro w hSw; (try dsimp only at hSw); go_simp; (try rw [if_neg (by omega)]); (try (with_reducible rfl)))
        simp only [Act.put, List.setIfInBounds_toArray, List.set_cons_zero, List.set_cons_succ]
        refine take_F (i := 10) (d := some 54) (v := ?_) (by kernel_rfl) (by kernel_rfl) rfl rfl (by kernel_rfl) (by kernel_rfl) (by kernel_rfl) (fun _ _ _ h => h) (Or.inl ⟨by rfl, ?_⟩) (by assumption) ?_
        rotate_left
        · (intro w hSw; (try dsimp only at hSw); go_simp; (try rw [if_neg (by omega)]); (try (with_reducible rfl)))
        simp only [Act.put, List.setIfInBounds_toArray, List.set_cons_zero, List.set_cons_succ]
        refine take_F (i := 11) (d := some 55) (v := ?_) (by kernel_rfl) (by kernel_rfl) rfl rfl (by kernel_rfl) (by kernel_rfl) (by kernel_rfl) (fun _ _ _ h => h) (Or.inl ⟨by rfl, ?_⟩) (by assumption) ?_
        rotate_left
        · (intro w hSw; (try dsimp only at hSw); go_simp; (try rw [if_neg (by omega)]); (try (with_reducible rfl)))
        simp only [Act.put, List.setIfInBounds_toArray, List.set_cons_zero, List.set_cons_succ]
        refine take_F (i := 12) (d := some 56) (v := ?_) (by kernel_rfl) (by kernel_rfl) rfl rfl (by kernel_rfl) (by kernel_rfl) (by kernel_rfl) (fun _ _ _ h => h) (Or.inl ⟨by rfl, ?_⟩) (by assumption) ?_
        rotate_left
        · (intro w hSw; (try dsimp only at hSw); go_simp; (try rw [if_neg (by omega)]); (try (with_reducible rfl)))
        simp only [Act.put, List.setIfInBounds_toArray, List.set_cons_zero, List.set_cons_succ]
        refine late_L (i := 13) (d := none) (by kernel_rfl) rfl rfl (by kernel_rfl) (fun Kq hKq => ?_)
        go_simp
        refine hKq.out _ _ ?_
        clear hKq Kq
        refine late_L (i := 14) (d := (some 3)) (by kernel_rfl) rfl rfl (by kernel_rfl) (fun Kq hKq => ?_)
        go_simp
        refine hKq.out _ _ ?_
        clear hKq Kq
        refine done_L (by kernel_rfl) ?_ _
        refine NoPanic.normal ?_
        go_wp2_with fail
        obtain ⟨⟨k0, k1, k2, k3⟩, hbz⟩ := HD.out
        refine bodyPost_ret (v := .tuple #[.agg #[.string a, .string b, .int .i64 f, .int .i64 t], .bool o2]) (by simp [results, Tryd.results65, go_sem, k0, k1, k2, k3]) rfl ?_
        exact RetLl.of Hfin.out hbz.drew
      | false =>
        go_wp2_with fail
        refine wp_region_noPanic ?_
        refine wp_region_L [14,13] (fun w' => w'.cell? ⟨g5, 1, none⟩ = some (.string a) ∧ w'.cell? ⟨g5, 2, none⟩ = some (.string b)) (by kernel_rfl) (⟨p1, p2⟩) (fun hHeld => ?_)
        refine take_F (i := 0) (d := some 44) (v := ?_) (by kernel_rfl) (by kernel_rfl) rfl rfl (by kernel_rfl) (by kernel_rfl) (by kernel_rfl) (fun _ _ _ h => h) (Or.inl ⟨by rfl, ?_⟩) (by assumption) ?_
        rotate_left
        · (intro w hSw; (try dsimp only at hSw); go_simp; (try rw [if_neg (by omega)]); (try (with_reducible rfl)))
        simp only [Act.put, List.setIfInBounds_toArray, List.set_cons_zero, List.set_cons_succ]
        refine take_F (i := 1) (d := some 45) (v := ?_) (by kernel_rfl) (by kernel_rfl) rfl rfl (by kernel_rfl) (by kernel_rfl) (by kernel_rfl) (fun _ _ _ h => h) (Or.inl ⟨by rfl, ?_⟩) (by assumption) ?_
        rotate_left
        · (intro w hSw; (try dsimp only at hSw); go_simp; (try rw [if_neg (by omega)]); (try (with_reducible rfl)))
        simp only [Act.put, List.setIfInBounds_toArray, List.set_cons_zero, List.set_cons_succ]
        refine take_L [8,2] (i := 2) (d := some 46) (v := ?_) (by kernel_rfl) (by kernel_rfl) (by kernel_rfl) (by kernel_rfl) rfl rfl (by kernel_rfl) (by kernel_rfl) (by kernel_rfl) (fun _ _ _ h => h) (Or.inl ⟨by rfl, ?_⟩) (by assumption) ?_
        rotate_left
        · (intro w hSw; (try dsimp only at hSw); go_simp; (try rw [if_neg (by omega)]); (try (with_reducible rfl)))
        simp only [Act.put, List.setIfInBounds_toArray, List.set_cons_zero, List.set_cons_succ]
        refine take_F (i := 3) (d := some 47) (v := ?_) (by kernel_rfl) (by kernel_rfl) rfl rfl (by kernel_rfl) (by kernel_rfl) (by kernel_rfl) (fun _ _ _ h => h) (Or.inl ⟨by rfl, ?_⟩) (by assumption) ?_
        rotate_left
        · (intro w hSw; (try dsimp only at hSw); go_simp; (try rw [if_neg (by omega)]); (try (with_reducible rfl)))
        simp only [Act.put, List.setIfInBounds_toArray, List.set_cons_zero, List.set_cons_succ]
        refine take_F (i := 4) (d := some 48) (v := ?_) (by kernel_rfl) (by kernel_rfl) rfl rfl (by kernel_rfl) (by kernel_rfl) (by kernel_rfl) (fun _ _ _ h => h) (Or.inl ⟨by rfl, ?_⟩) (by assumption) ?_
        rotate_left
        · (intro w hSw; (try dsimp only at hSw); go_simp; (try rw [if_neg (by omega)]); (try (with_reducible rfl)))
        simp only [Act.put, List.setIfInBounds_toArray, List.set_cons_zero, List.set_cons_succ]
        refine take_L [8,5] (i := 5) (d := some 49) (v := ?_) (by kernel_rfl) (by kernel_rfl) (by kernel_rfl) (by kernel_rfl) rfl rfl (by kernel_rfl) (by kernel_rfl) (by kernel_rfl) (fun _ _ _ h => h) (Or.inl ⟨by rfl, ?_⟩) (by assumption) ?_
        rotate_left
        · (intro w hSw; (try dsimp only at hSw); go_simp; (try rw [if_neg (by omega)]); (try (with_reducible rfl)))
        simp only [Act.put, List.setIfInBounds_toArray, List.set_cons_zero, List.set_cons_succ]
        refine take_F (i := 6) (d := some 50) (v := ?_) (by kernel_rfl) (by kernel_rfl) rfl rfl (by kernel_rfl) (by kernel_rfl) (by kernel_rfl) (fun _ _ _ h => h) (Or.inl ⟨by rfl, ?_⟩) (by assumption) ?_
        rotate_left
        · (intro w hSw; (try dsimp only at hSw); go_simp; (try rw [if_neg (by omega)]); (try (with_reducible rfl)))
        simp only [Act.put, List.setIfInBounds_toArray, List.set_cons_zero, List.set_cons_succ]
        refine take_F (i := 7) (d := some 51) (v := ?_) (by kernel_rfl) (by kernel_rfl) rfl rfl (by kernel_rfl) (by kernel_rfl) (by kernel_rfl) (fun _ _ _ h => h) (Or.inl ⟨by rfl, ?_⟩) (by assumption) ?_
        rotate_left
        · (intro w hSw; (try dsimp only at hSw); go_simp; (try rw [if_neg (by omega)]); (try (with_reducible rfl)))
        simp only [Act.put, List.setIfInBounds_toArray, List.set_cons_zero, List.set_cons_succ]
        refine take_F (i := 8) (d := some 52) (v := ?_) (by kernel_rfl) (by kernel_rfl) rfl rfl (by kernel_rfl) (by kernel_rfl) (by kernel_rfl) (fun _ _ _ h => h) (Or.inl ⟨by rfl, ?_⟩) (by assumption) ?_
        rotate_left
        · (intro w hSw; (try dsimp only at hSw); go_simp; (try rw [if_neg (by omega)]); (try (with_reducible rfl)))
        simp only [Act.put, List.setIfInBounds_toArray, List.set_cons_zero, List.set_cons_succ]
        refine take_F (i := 9) (d := some 53) (v := ?_) (by kernel_rfl) (by kernel_rfl) rfl rfl (by kernel_rfl) (by kernel_rfl) (by kernel_rfl) (fun _ _ _ h => h) (Or.inl ⟨by rfl, ?_⟩) (by assumption) ?_
        rotate_left
        · (intro w hSw; (try dsimp only at hSw); go_simp; (try rw [if_neg (by omega)]); (try (with_reducible rfl)))
        simp only [Act.put, List.setIfInBounds_toArray, List.set_cons_zero, List.set_cons_succ]
        refine take_F (i := 10) (d := some 54) (v := ?_) (by kernel_rfl) (by kernel_rfl) rfl rfl (by kernel_rfl) (by kernel_rfl) (by kernel_rfl) (fun _ _ _ h => h) (Or.inl ⟨by rfl, ?_⟩) (by assumption) ?_
        rotate_left
        · (intro w hSw; (try dsimp only at hSw); go_simp; (try rw [if_neg (by omega)]); (try (with_reducible rfl)))
        simp only [Act.put, List.setIfInBounds_toArray, List.set_cons_zero, List.set_cons_succ]
        refine take_F (i := 11) (d := some 55) (v := undef) (by kernel_rfl) (by kernel_rfl) rfl rfl (by kernel_rfl) (by kernel_rfl) (by kernel_rfl) (fun _ _ _ h => h) (Or.inr ⟨by rfl, rfl⟩) (by assumption) ?_
        simp only [Act.put, List.setIfInBounds_toArray, List.set_cons_zero, List.set_cons_succ]
        refine take_F (i := 12) (d := some 56) (v := ?_) (by kernel_rfl) (by kernel_rfl) rfl rfl (by kernel_rfl) (by kernel_rfl) (by kernel_rfl) (fun _ _ _ h => h) (Or.inl ⟨by rfl, ?_⟩) (by assumption) ?_
        rotate_left
        · (intro w hSw; (try dsimp only at hSw); go_simp; (try rw [if_neg (by omega)]); (try (with_reducible rfl)))
        simp only [Act.put, List.setIfInBounds_toArray, List.set_cons_zero, List.set_cons_succ]
        refine late_L (i := 13) (d := none) (by kernel_rfl) rfl rfl (by kernel_rfl) (fun Kq hKq => ?_)
        go_simp
        refine hKq.out _ _ ?_
        clear hKq Kq
        refine late_L (i := 14) (d := (some 3)) (by kernel_rfl) rfl rfl (by kernel_rfl) (fun Kq hKq => ?_)
        go_simp
        refine hKq.out _ _ ?_
        clear hKq Kq
        refine done_L (by kernel_rfl) ?_ _
        refine NoPanic.normal ?_
        go_wp2_with fail
        obtain ⟨⟨k0, k1, k2, k3⟩, hbz⟩ := HD.out
        refine bodyPost_ret (v := .tuple #[.agg #[.string a, .string b, .int .i64 f, .int .i64 t], .bool false]) (by simp [results, Tryd.results65, go_sem, k0, k1, k2, k3]) rfl ?_
        exact RetLl.of Hfin.out hbz.drew
    · have hlen2' : ((splitB 46 x).length : Int) ≤ 1073741825 := by omega
      have Hr := Lib.hid (show rdLn s = none by rw [rdLn_three He.out, ht2]; rfl)
      clear HC ht2 hmem2
      refine (HS2.out _).mono ?_; rintro e w6 ⟨v6, rfl, ho6, hb6⟩
      have HB6 := Lib.hid (HB5.out.trans (hb6.mono HB5.out.size))
      obtain ⟨A6, c6, rfl⟩ := sl_of_own ho6
      have hnq : (((splitB 46 x).length : Int) == 3) = false := by rw [beq_eq_false_iff_ne]; omega
      have hnq2 : (((splitB 46 x).length : Int) != 3) = true := by simp [bne, hnq]
      obtain ⟨⟨d0, d1, d2, d3⟩, e0, e1, e2, e3⟩ := res4_pre HB6.out
      have HD := Lib.hid (res4_post HB6.out (.string ⟨#[]⟩) (.string ⟨#[]⟩) (.int .i64 0) (.int .i64 0))
      generalize (splitB 46 x).length = n at *
      clear ho6 hb6 HS2 HB5 W5 p0 p1 p2 l5 hne
      go_wp2_with fail
      obtain ⟨⟨k0, k1, k2, k3⟩, hbz⟩ := HD.out
      refine bodyPost_ret (v := .tuple #[.agg #[.string ⟨#[]⟩, .string ⟨#[]⟩, .int .i64 0, .int .i64 0], .bool false]) (by simp [results, Tryd.results65, go_sem, k0, k1, k2, k3]) rfl ?_
      exact RetLl.none Hr.out hbz
    · have Hr := Lib.hid (show rdLn s = none by rw [rdLn_three He.out, ht2]; rfl)
      rw [hs2] at HS2
      clear HC ht2 hs2 hmem2
      refine (HS2.out _).mono ?_; rintro e w6 ⟨v6, rfl, ho6, hb6⟩
      have HB6 := Lib.hid (HB5.out.trans (hb6.mono HB5.out.size))
      obtain ⟨g6, c6, rfl, hw6⟩ := own_w3 ho6
      obtain ⟨l6, q0, q1, q2⟩ := hw6
      have hn := ne_some (s := e2) (by omega)
      obtain ⟨⟨d0, d1, d2, d3⟩, e0, e1, e2', e3⟩ := res4_pre HB6.out
      have HD := Lib.hid (res4_post HB6.out (.string ⟨#[]⟩) (.string ⟨#[]⟩) (.int .i64 0) (.int .i64 0))
      clear ho6 hb6 HS2 HB5 W5 p0 p1 p2 l5 l6 hne
      go_wp2_with fail
      obtain ⟨⟨k0, k1, k2, k3⟩, hbz⟩ := HD.out
      refine bodyPost_ret (v := .tuple #[.agg #[.string ⟨#[]⟩, .string ⟨#[]⟩, .int .i64 0, .int .i64 0], .bool false]) (by simp [results, Tryd.results65, go_sem, k0, k1, k2, k3]) rfl ?_
      exact RetLl.none Hr.out hbz
  · have Hr := Lib.hid (rdLn_not h3)
    have hnq : (((splitB 32 s).length : Int) == 3) = false := by rw [beq_eq_false_iff_ne]; omega
    have hnq2 : (((splitB 32 s).length : Int) != 3) = true := by simp [bne, hnq]
    have hlen' : ((splitB 32 s).length : Int) ≤ 1073741825 := by omega
    go_enter Tryd.func65, Tryd.ntmps65
    go_wp2_with fail
    refine (HSp.out _).mono ?_; rintro e w5 ⟨v5, rfl, ho5, hb5⟩
    have HB5 := Lib.hid (HB0.out.trans (hb5.mono HB0.out.size))
    obtain ⟨A5, c5, rfl⟩ := sl_of_own ho5
    obtain ⟨⟨d0, d1, d2, d3⟩, e0, e1, e2, e3⟩ := res4_pre HB5.out
    have HD := Lib.hid (res4_post HB5.out (.string ⟨#[]⟩) (.string ⟨#[]⟩) (.int .i64 0) (.int .i64 0))
    generalize (splitB 32 s).length = n at *
    clear ho5 hb5 HSp HB0 h3
    go_wp2_with fail
    obtain ⟨⟨k0, k1, k2, k3⟩, hbz⟩ := HD.out
    refine bodyPost_ret (v := .tuple #[.agg #[.string ⟨#[]⟩, .string ⟨#[]⟩, .int .i64 0, .int .i64 0], .bool false]) (by simp [results, Tryd.results65, go_sem, k0, k1, k2, k3]) rfl ?_
    exact RetLl.none Hr.out hbz
end Go.Proofs.YtmheijnckmlbnaaDoor
/- Loans' texts, read by the reference: ReadLoans. -/
namespace Go.Proofs.YtmheijnckmlbnaaDoor
open Go.RowKit Go.Joins

def RetRn (w : World) (r : Option (List Ln)) (e : Ending) (w' : World) : Prop :=
  ∃ v, e = .returned (.tuple #[v, .bool r.isSome]) ∧ OwnL w' w.heap.size v (r.getD []) ∧ Below w.heap.size w w'
theorem RetRn.none {w w' : World} {r : Option (List Ln)} (h : r = none) (hb : Below w.heap.size w w') : RetRn w r (.returned (.tuple #[.slice none 0 0, .bool false])) w' := by
  subst h; exact ⟨_, rfl, ⟨rfl, .inl ⟨rfl, rfl⟩⟩, hb⟩
theorem RetRn.some {w w' : World} {r : Option (List Ln)} {xs : List Ln} {v : Value} (h : r = some xs) (ho : OwnL w' w.heap.size v xs) (hb : Below w.heap.size w w') : RetRn w r (.returned (.tuple #[v, .bool true])) w' := by
  subst h; exact ⟨_, rfl, ho, hb⟩
theorem ones4 (a b : ByteArray) (f t : Int) : ∀ u ∈ (#[Value.string a, Value.string b, .int .i64 f, .int .i64 t] : Array Value).toList, u.oneCell' = true := by
  simp [Value.oneCell']
theorem ln_snoc {xs : List Ln} {a b : ByteArray} {f t : Int} : xs.flatMap cellsL ++ (#[Value.string a, Value.string b, .int .i64 f, .int .i64 t] : Array Value).toList = (xs ++ [(⟨a, b, f, t⟩ : Ln)]).flatMap cellsL := by
  rw [List.flatMap_append]; simp [cellsL]

set_option maxRecDepth 100000 in
set_option maxHeartbeats 3200000 in
theorem ReadLoansS_any (s : ByteArray) (w : World) (hs : s.size ≤ 1048576) : Calls Tryd.prog 21 #[.string s] w (RetRn w (rdLoans s)) := by
  have HSp := Lib.hid (fun wx => l01Split_any s 10 wx (by omega))
  unfold RetPs at HSp
  have hlen := splitB_len 10 s.size s (Nat.le_refl _)
  obtain ⟨x, hx, hcs⟩ := lines_last (s := s)
  have hmem := splitB_mem 10 s.size s (Nat.le_refl _)
  have hpos : 0 < (splitB 10 s).length := List.length_pos_iff.2 (splitB_ne 10 s)
  have Hcs := Lib.hid hcs
  generalize hL : splitB 10 s = L at *
  have hxl : L[L.length - 1]'(by omega) = x := by
    rw [List.getLast?_eq_getElem?, List.getElem?_eq_getElem (by omega)] at hx
    exact Option.some.inj hx
  clear hL hx hcs
  obtain ⟨n, hn⟩ : ∃ n, L.length = n + 1 := ⟨L.length - 1, by omega⟩
  have Hn := Lib.hid hn
  have HB0 := Lib.hid (Below.refl w.heap.size w)
  go_enter Tryd.func21, Tryd.ntmps21
  go_wp2_with fail
  refine (HSp.out _).mono ?_; rintro e w5 ⟨v5, rfl, ho5, hb5⟩
  obtain ⟨g5, c5, rfl, _, _, hlt5, hc5⟩ := own_strs ho5 hpos
  have hlast := hc5 (L.length - 1) (by omega)
  rw [hxl] at hlast
  have HC5 := Lib.hid hc5
  have Hmem := Lib.hid hmem
  simp only [hn, Nat.add_sub_cancel] at hlast
  rw [hn]
  have Hlt5 := Lib.hid hlt5
  have HB5 := Lib.hid hb5
  have hb0 := Lib.hid ((Below.refl w5.heap.size w5).alloc (Nat.le_refl _) (.cells #[] 26))
  have ho0 := Lib.hid (World.ownsRow_made (base := w5.heap.size) (e := 26) (size := 4) w5 #[] 0 (Nat.le_refl _) (by simp [maxLen]) rfl)
  have hlast2 := (hb0.out.cell (p := ⟨g5, n, none⟩) hlt5).trans hlast
  have hn6 : n ≤ 1048576 := by omega
  clear ho5 hb5 HSp hxl hlast hc5 hmem hlt5 hn hpos hlen
  rcases Hcs.out with ⟨hx0, hl⟩ | ⟨hx0, hl⟩
  · have Hr := Lib.hid (rdLoans_none hl)
    have hne := ne_some (s := x) (by omega)
    clear Hcs hl
    go_wp2_with fail
    go_ret2
    exact RetRn.none Hr.out (HB5.out.trans (hb0.out.mono HB5.out.size))
  · have hne := ne_none hx0
    by_cases h61 : 60 < n
    · have Hr := Lib.hid (rdLoans_long hl (by rw [List.length_dropLast, Hn.out]; omega))
      have h61' : (61 : Int) < (n : Int) + 1 := by omega
      clear Hcs hl
      go_wp2_with fail
      go_ret2
      exact RetRn.none Hr.out (HB5.out.trans (hb0.out.mono HB5.out.size))
    · have h61' : ¬ (61 : Int) < (n : Int) + 1 := by omega
      have Hl := Lib.hid hl
      have hdl : L.dropLast.length = n := by rw [List.length_dropLast, Hn.out]; omega
      have Hget := Lib.hid (fun k (h : k < L.dropLast.length) => drop_get h)
      have HM := Lib.hid (show ∀ z ∈ L.dropLast, z.size ≤ 1048576 from fun z hz => Nat.le_trans (Hmem.out z (List.dropLast_subset _ hz)) hs)
      have HC := Lib.hid (show ∀ (k : Nat) (h : k < L.dropLast.length), w5.cell? ⟨g5, k, none⟩ = some (.string L.dropLast[k]) from fun k h => by rw [Hget.out k h]; exact HC5.out k _)
      clear Hcs hl HC5 Hmem Hget Hn hne
      generalize L.dropLast = l at *
      have hne := ne_none hx0
      have Hdl := Lib.hid hdl; clear hdl
      go_wp2_with fail
      go_loopw [5, 6] (fun o i wr => ∃ k : Nat, k ≤ n ∧ i = .int .i64 (k : Int) ∧ (l.take k).all okLn = true ∧ wr.ownsRow w5.heap.size 26 4 o k (((l.take k).filterMap rdLn).flatMap cellsL) ∧ Below w5.heap.size w5 wr) (fun _ i _ => n - (intOf i).toNat)
      case atStart => exact ⟨0, Nat.zero_le _, rfl, rfl, ho0.out, hb0.out⟩
      case round =>
        obtain ⟨k, hk, rfl, hall, hown, hbl⟩ := hrel
        have Hown := Lib.hid hown
        have Hbl := Lib.hid hbl
        have Hall := Lib.hid hall
        obtain ⟨A6, c6, rfl⟩ := sl_of_own hown
        clear hown hall
        by_cases hlt : k < n
        · have hlt' : (k : Int) < (n : Int) := by omega
          have hkl : k < l.length := by rw [Hdl.out]; exact hlt
          have hce := (hbl.cell (p := ⟨g5, k, none⟩) Hlt5.out).trans (HC.out k hkl)
          have HL := Lib.hid (l23Line_any l[k] wr (Nat.le_trans (HM.out _ (List.getElem_mem hkl)) (by omega)))
          have Hbad := Lib.hid (fun h => rdLoans_bad Hl.out k hkl (okLn_none h))
          have Hgood := Lib.hid (fun x h => okLn_step (x := x) hkl Hall.out h)
          unfold RetLl at HL
          generalize l[k] = line at *
          clear hbl
          go_wp2_with fail
          refine HL.out.mono ?_; rintro e w6 ⟨⟨a, b, f, t⟩, rfl, hx, hb6⟩
          have HX := Lib.hid hx
          have Hb6 := Lib.hid (Hbl.out.trans (hb6.mono Hbl.out.size))
          have Ho6 := Lib.hid (own_below Hown.out hb6)
          have Hb7 := Lib.hid (Hb6.out.alloc Hb6.out.size (.cells #[.string a, .string b, .int .i64 f, .int .i64 t] 26))
          have Ho7 := Lib.hid (own_below Ho6.out ((Below.refl w6.heap.size w6).alloc (Nat.le_refl _) (.cells #[.string a, .string b, .int .i64 f, .int .i64 t] 26)))
          obtain ⟨c0, c1, c2, c3⟩ := four_at (heap_alloc_new w6 (.cells #[.string a, .string b, .int .i64 f, .int .i64 t] 26))
          have hz7 := Hb7.out.size
          clear hx hb6 HL hce Hown Hbl Hb6 Ho6
          cases hr : rdLn line with
          | none =>
            have Hr := Lib.hid (Hbad.out hr)
            clear hr Hbad Hgood HX
            go_wp2_with fail
            go_ret2
            exact RetRn.none Hr.out (HB5.out.trans (Hb7.out.mono HB5.out.size))
          | some y =>
            have hy := HX.out y hr
            subst hy
            obtain ⟨hall2, hfl⟩ := Hgood.out _ hr
            have Hall2 := Lib.hid hall2
            have Hfl := Lib.hid hfl
            have Hon := Lib.hid (ones4 a b f t)
            clear hr Hbad Hgood HX hall2 hfl
            go_upto_region 11 with (fail)
            generalize w6.alloc (.cells #[.string a, .string b, .int .i64 f, .int .i64 t] 26) = w8 at *
            go_wp2_with (at_builtin; refine wpList_apd 24 26 _ 4 48 Tryd.underlying24 infoL rfl (by omega) _ _ rfl rfl w5.heap.size _ k _ rfl Ho7.out #[.string a, .string b, .int .i64 f, .int .i64 t] 1 1 rfl rfl Hon.out (by simp [maxLen]; omega) (by omega) hz7 ?_; intro v9 w9 hown9 hg9; have Hb9 := Lib.hid (below_apd Hb7.out Ho7.out hg9 (Nat.le_refl _) hz7); have Ho9 := Lib.hid hown9; clear hown9 hg9)
            go_roundw
            case rel => exact ⟨k + 1, by omega, by go_num, Hall2.out, by rw [Hfl.out, ← ln_snoc]; exact Ho9.out, Hb9.out⟩
            case measure => simp [intOf]; omega
        · have hkn : k = n := by omega
          subst hkn
          have hlt' : ¬ (k : Int) < (k : Int) := by omega
          have htk : l.take k = l := List.take_of_length_le (by rw [Hdl.out]; exact Nat.le_refl _)
          have hal := Hall.out
          have hown2 := Hown.out
          rw [htk] at hal hown2
          have hr := rdLoans_at Hl.out hal
          have hfl : (l.filterMap rdLn).length = k := (filter_len hal).trans Hdl.out
          have hO : OwnL wr w5.heap.size (.slice A6 k c6) (l.filterMap rdLn) := by unfold OwnL; rw [hfl]; exact hown2
          have HO := Lib.hid hO
          have HK := Lib.hid (l23Ok_any wr.heap.size _ (l.filterMap rdLn) wr hO.rd (by rw [hfl]; exact hn6) (filter_sm (Nat.le_refl _) HM.out))
          clear hal hown2 htk hfl hO Hown Hall
          cases hok : loansOk (l.filterMap rdLn) with
          | true =>
            have Hr := Lib.hid (hr.trans (if_pos hok))
            rw [hok] at HK
            clear hok hr
            go_wp2_with fail
            refine HK.out.mono ?_; rintro e w9 ⟨rfl, q9, rfl⟩
            go_wp2_with fail
            go_ret2
            exact RetRn.some Hr.out (ownsRow_le (HO.out.drewN q9) HB5.out.size) (HB5.out.trans ((below_drewN hbl q9).mono HB5.out.size))
          | false =>
            have Hr := Lib.hid (hr.trans (if_neg (by rw [hok]; simp)))
            rw [hok] at HK
            clear hok hr
            go_wp2_with fail
            refine HK.out.mono ?_; rintro e w9 ⟨rfl, q9, rfl⟩
            go_wp2_with fail
            go_ret2
            exact RetRn.none Hr.out (HB5.out.trans ((below_drewN hbl q9).mono HB5.out.size))
end Go.Proofs.YtmheijnckmlbnaaDoor
