/- Journals, part 14: plain laws: a journal that was made is read back; a text that is cut. -/
import Derived.Test.YtcidjbgjgancgaaDoorJr12
namespace Go.Proofs.YtcidjbgjgancgaaDoor
open Go.RowKit Go.Joins

def noC (c : UInt8) (s : ByteArray) : Prop := c ∉ s.data.toList
theorem fnd_no {c : UInt8} {s : ByteArray} (h : noC c s) : fnd c s = s.size := by
  have : s.data.toList.findIdx (· == c) = s.data.toList.length := List.findIdx_eq_length.2 fun x hx => by
    rw [beq_eq_false_iff_ne]; intro e; exact h (e ▸ hx)
  simpa [fnd] using this
theorem app_data (a b : ByteArray) : (a ++ b).data.toList = a.data.toList ++ b.data.toList := by simp
theorem fnd_app {c : UInt8} {a : ByteArray} (h : noC c a) (b : ByteArray) : fnd c (a ++ b) = a.size + fnd c b := by
  have h1 := fnd_no h
  unfold fnd at *
  rw [app_data, List.findIdx_append, h1, if_neg (by simp)]
  simp
  omega
theorem fnd_one (c : UInt8) (b : ByteArray) : fnd c ((⟨#[c]⟩ : ByteArray) ++ b) = 0 := by
  unfold fnd
  rw [app_data]
  simp [List.findIdx_cons]
theorem noC_app {c : UInt8} {a b : ByteArray} (h : noC c a) (k : noC c b) : noC c (a ++ b) := by
  unfold noC at *
  rw [app_data]
  simp [h, k]
theorem ext_left (x y : ByteArray) : (x ++ y).extract 0 x.size = x := by
  apply ByteArray.ext
  simp
theorem ext_right (x y : ByteArray) : (x ++ y).extract x.size (x ++ y).size = y := by
  apply ByteArray.ext
  have h1 : x.data.extract x.size (x.size + y.size) = #[] := Array.extract_empty_of_size_le_start (Nat.le_refl _)
  have h2 : y.data.extract 0 y.size = y.data := Array.extract_eq_self_of_le (Nat.le_refl _)
  simp [h1, h2]
theorem one_size (c : UInt8) (b : ByteArray) : ((⟨#[c]⟩ : ByteArray) ++ b).size = 1 + b.size := by
  rw [ByteArray.size_append]; rfl
theorem tail_app {c : UInt8} {a : ByteArray} (h : noC c a) (b : ByteArray) : tailOf c (a ++ ((⟨#[c]⟩ : ByteArray) ++ b)) = b := by
  unfold tailOf
  rw [fnd_app h, fnd_one, ← app_assoc, Nat.add_zero, show a.size + 1 = (a ++ (⟨#[c]⟩ : ByteArray)).size by rw [ByteArray.size_append]; rfl]
  exact ext_right _ _

theorem dig_range : ∀ (u : Nat) (c : UInt8), c ∈ Lib.decDigits u → 48 ≤ c.toNat ∧ c.toNat ≤ 57 := by
  intro u
  induction u using Nat.strongRecOn with
  | _ u ih =>
    intro c hc
    rw [Lib.decDigits] at hc
    split at hc
    · simp only [List.mem_singleton] at hc
      subst hc
      simp only [UInt8.toNat_ofNat']
      omega
    · rcases List.mem_append.1 hc with h | h
      · exact ih (u / 10) (by omega) c h
      · simp only [List.mem_singleton] at h
        subst h
        simp only [UInt8.toNat_ofNat']
        omega
theorem decS_no (n : Int) (h : 0 ≤ n) (c : UInt8) (hc : c.toNat < 48) : noC c (decS n) := by
  intro hm
  unfold decS Lib.itoa at hm
  rw [if_neg (by omega)] at hm
  have := dig_range _ c (by simpa using hm)
  omega
theorem note_no (z : ByteArray) (h : noteOk z.data.toList = true) : noC 10 z := by
  intro hm
  have := noteOk_no z 10 hm (by decide)
  rw [this] at h
  exact Bool.noConfusion h

theorem head_no (N S : Int) (z : ByteArray) (hN : 0 ≤ N) (hS : 0 ≤ S) (hz : noteOk z.data.toList = true) : noC 10 (headS N S ++ z) := by
  have h32 : noC 10 (⟨#[32]⟩ : ByteArray) := by unfold noC; decide
  exact noC_app (noC_app (noC_app (noC_app (decS_no N hN 10 (by decide)) h32) (decS_no S hS 10 (by decide))) h32) (note_no z hz)
theorem head_two (N S : Int) (z : ByteArray) (hN : 0 ≤ N) (hS : 0 ≤ S) : two (headS N S ++ z) = true ∧ noteOf (headS N S ++ z) = z := by
  have e1 : headS N S ++ z = decS N ++ ((⟨#[32]⟩ : ByteArray) ++ (decS S ++ ((⟨#[32]⟩ : ByteArray) ++ z))) := by
    unfold headS
    simp only [app_assoc]
  have d1 := decS_no N hN 32 (by decide)
  have d2 := decS_no S hS 32 (by decide)
  rw [e1]
  unfold two noteOf
  rw [tail_app d1, tail_app d2, fnd_app d1, fnd_app d2, fnd_one, fnd_one]
  refine ⟨?_, rfl⟩
  simp only [ByteArray.size_append, Bool.and_eq_true, decide_eq_true_eq]
  exact ⟨by show _ < _ + (1 + _); omega, by show _ < _ + (1 + _); omega⟩
theorem line_split (N S : Int) (z rest : ByteArray) : lineS N S z ++ rest = (headS N S ++ z) ++ ((⟨#[10]⟩ : ByteArray) ++ rest) := by
  unfold lineS
  rw [app_assoc]

theorem step_line (s : ByteArray) (st : JSt) (z rest : ByteArray) (hz : noteOk z.data.toList = true)
    (h : restOf s st.at_ = lineS ((st.notes.length : Int) + 1) (noteSum st.sum ((st.notes.length : Int) + 1) z.data.toList) z ++ rest) :
    stepJ s st = some ⟨st.at_ + (lineS ((st.notes.length : Int) + 1) (noteSum st.sum ((st.notes.length : Int) + 1) z.data.toList) z).size, noteSum st.sum ((st.notes.length : Int) + 1) z.data.toList, st.notes ++ [z]⟩ := by
  have hbd := noteSum_bd st.sum ((st.notes.length : Int) + 1) z.data.toList
  have hls : (lineS ((st.notes.length : Int) + 1) (noteSum st.sum ((st.notes.length : Int) + 1) z.data.toList) z).size = (headS ((st.notes.length : Int) + 1) (noteSum st.sum ((st.notes.length : Int) + 1) z.data.toList) ++ z).size + 1 := ByteArray.size_append
  rw [line_split] at h
  have hno := head_no ((st.notes.length : Int) + 1) (noteSum st.sum ((st.notes.length : Int) + 1) z.data.toList) z (by omega) hbd.1 hz
  have h2 := head_two ((st.notes.length : Int) + 1) (noteSum st.sum ((st.notes.length : Int) + 1) z.data.toList) z (by omega) hbd.1
  have hf : fnd 10 (restOf s st.at_) = (headS ((st.notes.length : Int) + 1) (noteSum st.sum ((st.notes.length : Int) + 1) z.data.toList) ++ z).size := by rw [h, fnd_app hno, fnd_one, Nat.add_zero]
  have hhd : headOf (restOf s st.at_) = headS ((st.notes.length : Int) + 1) (noteSum st.sum ((st.notes.length : Int) + 1) z.data.toList) ++ z := by
    unfold headOf
    rw [hf, h, ext_left]
  have hsz : (restOf s st.at_).size = (headS ((st.notes.length : Int) + 1) (noteSum st.sum ((st.notes.length : Int) + 1) z.data.toList) ++ z).size + (1 + rest.size) := by
    rw [h, ByteArray.size_append, one_size]
  have hg : goodJ st.notes.length st.sum (headOf (restOf s st.at_)) = true := by
    unfold goodJ
    rw [hhd, h2.1, h2.2, hz]
    simp only [Bool.true_and, decide_eq_true_eq]
    rfl
  unfold stepJ
  rw [if_pos ⟨by rw [hf, hsz]; omega, hg⟩, hhd, h2.2, hf, hls]
theorem step_none (s : ByteArray) (st : JSt) (h : noC 10 (restOf s st.at_)) : stepJ s st = none := if_neg fun hh => by
  have := fnd_no h
  omega
theorem rest_next (s : ByteArray) (a : Nat) (x y : ByteArray) (h : restOf s a = x ++ y) : restOf s (a + x.size) = y := by
  have h1 := ext_right x y
  rw [← h] at h1
  unfold restOf at *
  rw [ByteArray.extract_extract] at h1
  rw [← h1]
  congr 1
  simp
  omega

def sumJ : Nat → Int → List ByteArray → Int
  | _, sum, [] => sum
  | n, sum, x :: xs => sumJ (n + 1) (noteSum sum ((n : Int) + 1) x.data.toList) xs
theorem okAll_cons {z : ByteArray} {zs : List ByteArray} (h : okAll (z :: zs) = true) : noteOk z.data.toList = true ∧ okAll zs = true := by
  unfold okAll at *
  simpa using h
theorem run_lines (s t : ByteArray) (ht : noC 10 t) : ∀ (zs : List ByteArray) (fuel : Nat) (st : JSt), okAll zs = true → restOf s st.at_ = outJ st.notes.length st.sum zs ++ t → zs.length ≤ fuel →
    runJ s fuel st = ⟨st.at_ + (outJ st.notes.length st.sum zs).size, sumJ st.notes.length st.sum zs, st.notes ++ zs⟩ := by
  intro zs
  induction zs with
  | nil =>
    intro fuel st _ h _
    have hr : restOf s st.at_ = t := by rw [h]; exact nil_app t
    rw [runJ_stop s fuel st (step_none s st (by rw [hr]; exact ht))]
    obtain ⟨a, b, c⟩ := st
    simp [outJ, sumJ]
    rfl
  | cons z zs ih =>
    intro fuel st hall h hf
    obtain ⟨hz, hall'⟩ := okAll_cons hall
    cases fuel with
    | zero => simp at hf
    | succ fuel =>
      have h' : restOf s st.at_ = lineS ((st.notes.length : Int) + 1) (noteSum st.sum ((st.notes.length : Int) + 1) z.data.toList) z ++ (outJ (st.notes.length + 1) (noteSum st.sum ((st.notes.length : Int) + 1) z.data.toList) zs ++ t) := by
        rw [h]; simp only [outJ, app_assoc]
      have hst := step_line s st z _ hz h'
      have hnx := rest_next s _ _ _ h'
      unfold runJ
      rw [hst]
      have := ih fuel ⟨st.at_ + (lineS ((st.notes.length : Int) + 1) (noteSum st.sum ((st.notes.length : Int) + 1) z.data.toList) z).size, noteSum st.sum ((st.notes.length : Int) + 1) z.data.toList, st.notes ++ [z]⟩ hall' (by simpa using hnx) (by simpa using hf)
      show runJ s fuel _ = _
      rw [this]
      simp only [outJ, sumJ, ByteArray.size_append, List.length_append, List.length_singleton, List.append_assoc, List.singleton_append, Nat.add_assoc]
theorem readJ_made (zs : List ByteArray) (t : ByteArray) (hall : okAll zs = true) (ht : noC 10 t) : readJ (outJ 0 0 zs ++ t) = ⟨(outJ 0 0 zs).size, sumJ 0 0 zs, zs⟩ := by
  have hr : restOf (outJ 0 0 zs ++ t) 0 = outJ 0 0 zs ++ t := ext_all _
  have hl := outJ_len zs 0 0
  have := run_lines (outJ 0 0 zs ++ t) t ht zs (outJ 0 0 zs ++ t).size ⟨0, 0, []⟩ hall hr (by rw [ByteArray.size_append]; omega)
  unfold readJ
  rw [this]
  simp

theorem noC_take {c : UInt8} {a : ByteArray} (h : noC c a) (k : Nat) : noC c (a.extract 0 k) := by
  intro hm
  apply h
  simp only [ByteArray.data_extract, Array.toList_extract, List.extract_eq_take_drop] at hm
  exact List.mem_of_mem_drop (List.mem_of_mem_take hm)
theorem ext_app (x y : ByteArray) (k : Nat) (h : x.size ≤ k) : (x ++ y).extract 0 k = x ++ y.extract 0 (k - x.size) := by
  apply ByteArray.ext
  have h' : x.data.size ≤ k := h
  simp [Array.extract_append, Array.extract_eq_self_of_le h']
theorem ext_less (x y : ByteArray) (k : Nat) (h : k ≤ x.size) : (x ++ y).extract 0 k = x.extract 0 k := by
  apply ByteArray.ext
  simp [Array.extract_append]
  exact .inl (by omega)
theorem pre_cut : ∀ (zs : List ByteArray) (n : Nat) (sum : Int) (k : Nat), okAll zs = true → k ≤ (outJ n sum zs).size → ∃ m t, m ≤ zs.length ∧ (outJ n sum zs).extract 0 k = outJ n sum (zs.take m) ++ t ∧ noC 10 t := by
  intro zs
  induction zs with
  | nil =>
    intro n sum k _ hk
    refine ⟨0, ⟨#[]⟩, Nat.le_refl _, ?_, by unfold noC; decide⟩
    have hk' : k = 0 := Nat.le_zero.1 hk
    subst hk'
    simp [outJ]
    rfl
  | cons z zs ih =>
    intro n sum k hall hk
    obtain ⟨hz, hall'⟩ := okAll_cons hall
    have hbd := noteSum_bd sum ((n : Int) + 1) z.data.toList
    by_cases hlt : k < (lineS ((n : Int) + 1) (noteSum sum ((n : Int) + 1) z.data.toList) z).size
    · refine ⟨0, (headS ((n : Int) + 1) (noteSum sum ((n : Int) + 1) z.data.toList) ++ z).extract 0 k, Nat.zero_le _, ?_, noC_take (head_no _ _ z (by omega) hbd.1 hz) k⟩
      simp only [outJ, List.take_zero]
      rw [nil_app, line_split, ext_less]
      have : (lineS ((n : Int) + 1) (noteSum sum ((n : Int) + 1) z.data.toList) z).size = (headS ((n : Int) + 1) (noteSum sum ((n : Int) + 1) z.data.toList) ++ z).size + 1 := ByteArray.size_append
      omega
    · simp only [outJ, ByteArray.size_append] at hk
      obtain ⟨m, t, hm, he, ht⟩ := ih (n + 1) (noteSum sum ((n : Int) + 1) z.data.toList) (k - (lineS ((n : Int) + 1) (noteSum sum ((n : Int) + 1) z.data.toList) z).size) hall' (by omega)
      refine ⟨m + 1, t, by simp; omega, ?_, ht⟩
      simp only [outJ, List.take_succ_cons]
      rw [ext_app _ _ _ (by omega), he, app_assoc]

theorem count_no {c : UInt8} {s : ByteArray} (h : noC c s) : s.data.toList.count c = 0 := List.count_eq_zero.2 h
theorem count_out : ∀ (zs : List ByteArray) (n : Nat) (sum : Int), okAll zs = true → (outJ n sum zs).data.toList.count 10 = zs.length := by
  intro zs
  induction zs with
  | nil => intro n sum _; rfl
  | cons z zs ih =>
    intro n sum hall
    obtain ⟨hz, hall'⟩ := okAll_cons hall
    have hbd := noteSum_bd sum ((n : Int) + 1) z.data.toList
    have h1 := count_no (head_no ((n : Int) + 1) (noteSum sum ((n : Int) + 1) z.data.toList) z (by omega) hbd.1 hz)
    simp only [outJ]
    rw [line_split, app_data, List.count_append, h1, app_data, List.count_append, ih _ _ hall']
    simp
    omega
theorem out_size : ∀ (zs : List ByteArray) (n : Nat) (sum : Int), okAll zs = true → n + zs.length ≤ 1000 → (outJ n sum zs).size ≤ 103 * zs.length := by
  intro zs
  induction zs with
  | nil => intro n sum _ _; exact Nat.zero_le _
  | cons z zs ih =>
    intro n sum hall hn
    obtain ⟨hz, hall'⟩ := okAll_cons hall
    have hbd := noteSum_bd sum ((n : Int) + 1) z.data.toList
    simp only [List.length_cons] at hn
    have h1 := lineS_size ((n : Int) + 1) (noteSum sum ((n : Int) + 1) z.data.toList) z (by omega) (by omega) hbd.1 (by omega)
    have h2 := note_small z hz
    have h3 := ih (n + 1) (noteSum sum ((n : Int) + 1) z.data.toList) hall' (by omega)
    simp only [outJ, ByteArray.size_append, List.length_cons]
    omega
theorem out_snoc : ∀ (zs : List ByteArray) (n : Nat) (sum : Int) (z : ByteArray), outJ n sum (zs ++ [z]) = outJ n sum zs ++ lineS (((n + zs.length : Nat) : Int) + 1) (noteSum (sumJ n sum zs) (((n + zs.length : Nat) : Int) + 1) z.data.toList) z := by
  intro zs
  induction zs with
  | nil => intro n sum z; simp only [List.nil_append, outJ, sumJ, List.length_nil, Nat.add_zero]; rw [app_nil, nil_app]
  | cons x zs ih =>
    intro n sum z
    simp only [List.cons_append, outJ, sumJ, List.length_cons]
    rw [ih, app_assoc, show n + 1 + zs.length = n + (zs.length + 1) by omega]
end Go.Proofs.YtcidjbgjgancgaaDoor
