/- Journals, part 11: the journal with some notes: l26Make, journalOf, JournalOf on both sides. -/
import Derived.Test.YtcidjbgjgancgaaDoorJr10
namespace Go.Proofs.YtcidjbgjgancgaaDoor
open Go.RowKit Go.Joins

def outJ : Nat → Int → List ByteArray → ByteArray
  | _, _, [] => ⟨#[]⟩
  | n, sum, x :: xs => lineS ((n : Int) + 1) (noteSum sum ((n : Int) + 1) x.data.toList) x ++ outJ (n + 1) (noteSum sum ((n : Int) + 1) x.data.toList) xs
def mkJ (zs : List ByteArray) : ByteArray × Int := if 4000 < (outJ 0 0 zs).size then (⟨#[]⟩, 5) else (outJ 0 0 zs, 0)
def makR (zs : List ByteArray) : ByteArray × Int := if zs.all (fun z => noteOk z.data.toList) = true then mkJ zs else (⟨#[]⟩, 7)
theorem lineS_pos (a b : Int) (z : ByteArray) : 1 ≤ (lineS a b z).size := by
  unfold lineS
  rw [ByteArray.size_append]
  show 1 ≤ _ + 1
  omega
theorem outJ_nil (n : Nat) (sum : Int) : outJ n sum [] = ⟨#[]⟩ := rfl
theorem outJ_at (zs : List ByteArray) (k : Nat) (sum : Int) (h : k < zs.length) :
    outJ k sum (zs.drop k) = lineS ((k : Int) + 1) (noteSum sum ((k : Int) + 1) zs[k].data.toList) zs[k] ++ outJ (k + 1) (noteSum sum ((k : Int) + 1) zs[k].data.toList) (zs.drop (k + 1)) := by
  rw [List.drop_eq_getElem_cons h]; rfl
theorem outJ_len (zs : List ByteArray) : ∀ n sum, zs.length ≤ (outJ n sum zs).size := by
  induction zs with
  | nil => intro n sum; simp
  | cons z zs ih =>
    intro n sum
    have h1 := ih (n + 1) (noteSum sum ((n : Int) + 1) z.data.toList)
    have h2 := lineS_pos ((n : Int) + 1) (noteSum sum ((n : Int) + 1) z.data.toList) z
    simp only [outJ, ByteArray.size_append, List.length_cons]
    omega
theorem app_nil (a : ByteArray) : a ++ ⟨#[]⟩ = a := ByteArray.ext (by simp)
theorem nil_app (a : ByteArray) : (⟨#[]⟩ : ByteArray) ++ a = a := ByteArray.ext (by simp)
theorem app_assoc (a b c : ByteArray) : a ++ b ++ c = a ++ (b ++ c) := ByteArray.ext (by simp [Array.append_assoc])
theorem note_small (z : ByteArray) (h : noteOk z.data.toList = true) : z.size ≤ 60 := by
  unfold noteOk at h
  simp only [Bool.and_eq_true, decide_eq_true_eq] at h
  exact h.2

/-- a string of a list that is read -/
theorem rd_at {w : World} {B n c : Nat} {A : Option Addr} {zs : List ByteArray} (h : Rd w B (.slice A n c) zs.length 1 (strs zs)) (k : Nat) (hk : k < zs.length) :
    n = zs.length ∧ ∃ b off, A = some ⟨b, off, none⟩ ∧ w.cell? ⟨b, off + k, none⟩ = some (.string zs[k]) := by
  obtain ⟨_, A', c', hv, hc⟩ := h
  injection hv with e1 e2 e3
  subst e1
  obtain ⟨b, off, hA, _, hcc⟩ := hc (by omega)
  exact ⟨e2, b, off, hA, hcc k _ (strs_at zs k hk)⟩

set_option maxRecDepth 100000 in
set_option maxHeartbeats 1000000 in
theorem l26Make_any (B : Nat) (v : Value) (zs : List ByteArray) (w : World) (h : Rd w B v zs.length 1 (strs zs)) (hB : B ≤ w.heap.size) (hall : ∀ z ∈ zs, z.size ≤ 60) (hlen : zs.length ≤ 1048576) :
    Calls Tryd.prog 34 #[v] w fun e w' => e = .returned (.tuple #[.string (mkJ zs).1, .int .i64 (mkJ zs).2]) ∧ Below w.heap.size w w' := by
  have h' := h
  obtain ⟨_, A, c, rfl, _⟩ := h'
  have H := Lib.hid h; clear h
  have Hall := Lib.hid hall; clear hall
  go_enter Tryd.func34, Tryd.ntmps34
  go_wp2_with fail
  go_loopw [4, 5, 6] (fun o su i wr => ∃ (k : Nat) (out : ByteArray) (sum : Int), k ≤ zs.length ∧ k ≤ out.size ∧ out.size ≤ 4000 ∧ out ++ outJ k sum (zs.drop k) = outJ 0 0 zs ∧ o = .string out ∧ su = .int .i64 sum ∧ i = .int .i64 k ∧ Below w.heap.size w wr) (fun _ _ i _ => zs.length - (intOf i).toNat)
  case atStart => exact ⟨0, ⟨#[]⟩, 0, Nat.zero_le _, Nat.zero_le _, by decide, nil_app _, rfl, rfl, rfl, Below.refl _ _⟩
  case round =>
    obtain ⟨k, out, sum, hk, hko, ho4, heq, rfl, rfl, rfl, hbl⟩ := hrel
    have Heq := Lib.hid heq; clear heq
    by_cases hlt : k < zs.length
    · obtain ⟨_, b1, o1, hA, hx⟩ := rd_at (H.out.below (hbl.mono hB)) k hlt
      subst hA
      have hz := Hall.out zs[k] (List.getElem_mem _)
      have HL := Lib.hid (fun v => l26Line_any sum ((k : Int) + 1) zs[k] v (by omega) (by omega) (by omega))
      have hbd := noteSum_bd sum ((k : Int) + 1) zs[k].data.toList
      have hls := lineS_size ((k : Int) + 1) (noteSum sum ((k : Int) + 1) zs[k].data.toList) zs[k] (by omega) (by omega) hbd.1 (by omega)
      have hlp := lineS_pos ((k : Int) + 1) (noteSum sum ((k : Int) + 1) zs[k].data.toList) zs[k]
      have Hst := Lib.hid (outJ_at zs k sum hlt)
      generalize noteSum sum ((k : Int) + 1) zs[k].data.toList = S at *
      generalize lineS ((k : Int) + 1) S zs[k] = L at *
      generalize zs[k] = z at *
      have e1 : (out ++ L : ByteArray).size = out.size + L.size := ByteArray.size_append
      have hlt' : (k : Int) < (zs.length : Int) := by omega
      by_cases hbig : 4000 < out.size + L.size
      · have hfin := Lib.hid (show mkJ zs = (⟨#[]⟩, 5) by
          unfold mkJ; rw [if_pos]
          rw [← Heq.out, Hst.out, ← app_assoc, ByteArray.size_append, e1]; omega)
        go_wp2_with fail
        refine (HL.out _).mono ?_; rintro e w1 ⟨rfl, hb1⟩
        have hb2 := hbl.trans (hb1.mono hbl.size)
        go_wp2_with fail
        go_ret2
        rw [hfin.out]; exact ⟨rfl, hb2⟩
      · go_wp2_with fail
        refine (HL.out _).mono ?_; rintro e w1 ⟨rfl, hb1⟩
        have hb2 := hbl.trans (hb1.mono hbl.size)
        go_wp2_with fail
        go_roundw
        case rel => exact ⟨k + 1, out ++ L, S, by omega, by omega, by omega, by rw [app_assoc, ← Hst.out]; exact Heq.out, rfl, rfl, by go_num, hb2⟩
        case measure => simp [intOf]; omega
    · have hfin := Lib.hid (show mkJ zs = (out, 0) by
        have := Heq.out
        rw [List.drop_eq_nil_of_le (by omega), outJ_nil, app_nil] at this
        unfold mkJ; rw [← this, if_neg (by omega)])
      have hlt' : (zs.length : Int) ≤ (k : Int) := by omega
      go_wp2_with fail
      go_ret2
      rw [hfin.out]; exact ⟨rfl, hbl⟩

theorem j_set2 {w W : World} {B g n : Nat} {nv v : Value} {sum : Int} {a : Nat} {xs : List Value} (hj : Jn w g nv sum a) (ho : w.ownsRow B 9 1 v n xs) (hB : B ≤ g) (hb : Below B W w) (sum' : Int) :
    Jn ((w.setCell ⟨g, 0, none⟩ v).setCell ⟨g, 1, none⟩ (.int .i64 sum')) g v sum' a ∧ ((w.setCell ⟨g, 0, none⟩ v).setCell ⟨g, 1, none⟩ (.int .i64 sum')).ownsRow B 9 1 v n xs ∧
      Below B W ((w.setCell ⟨g, 0, none⟩ v).setCell ⟨g, 1, none⟩ (.int .i64 sum')) := by
  have hne := hj.ne ho
  exact ⟨heap_setCell_same _ g 1 _ _ _ (heap_setCell_same _ g 0 _ _ _ hj), ownsRow_setCell_other (ownsRow_setCell_other ho (a := ⟨g, 0, none⟩) hne _) (a := ⟨g, 1, none⟩) hne _, (hb.setCell (p := ⟨g, 0, none⟩) hB _).setCell (p := ⟨g, 1, none⟩) hB _⟩
theorem take_strs (zs : List ByteArray) (k : Nat) (h : k < zs.length) : strs (zs.take k) ++ [.string zs[k]] = strs (zs.take (k + 1)) := by
  rw [List.take_succ_eq_append_getElem h]; unfold strs; rw [List.map_append]; rfl

set_option maxRecDepth 100000 in
set_option maxHeartbeats 2000000 in
theorem journalOf_any (B : Nat) (v : Value) (zs : List ByteArray) (w : World) (h : Rd w B v zs.length 1 (strs zs)) (hB : B ≤ w.heap.size) (hall : ∀ z ∈ zs, z.size ≤ 60) (hlen : zs.length ≤ 4000) (ht : Tab w) :
    Calls Tryd.prog 36 #[v] w fun e w' => e = .returned (.string (outJ 0 0 zs)) ∧ Below w.heap.size w w' := by
  have h' := h
  obtain ⟨_, A, c, rfl, _⟩ := h'
  have H := Lib.hid h; clear h
  have Hall := Lib.hid hall; clear hall
  have Ht := Lib.hid ht; clear ht
  go_enter Tryd.func36, Tryd.ntmps36
  go_wp2_with fail
  go_loopw [4, 13] (fun o i wr => ∃ (k : Nat) (out : ByteArray) (sum : Int) (nv : Value), k ≤ zs.length ∧ out.size ≤ k * 103 ∧ out ++ outJ k sum (zs.drop k) = outJ 0 0 zs ∧ o = .string out ∧ i = .int .i64 k ∧ Jn wr w.heap.size nv sum 0 ∧ wr.ownsRow w.heap.size 9 1 nv k (strs (zs.take k)) ∧ Below w.heap.size w wr) (fun _ i _ => zs.length - (intOf i).toNat)
  case atStart => exact ⟨0, ⟨#[]⟩, 0, _, Nat.zero_le _, by decide, nil_app _, rfl, rfl, heap_alloc_new _ _, World.ownsRow_nil _ _ _ _, (Below.refl _ _).alloc (Nat.le_refl _) _⟩
  case round =>
    obtain ⟨k, out, sum, nv, hk, ho4, heq, rfl, rfl, hj, hown, hbl⟩ := hrel
    have Heq := Lib.hid heq; clear heq
    by_cases hlt : k < zs.length
    · obtain ⟨_, A2, c2, rfl, _⟩ := Rd.of_own hown
      obtain ⟨_, b1, o1, hA, hx⟩ := rd_at (H.out.below (hbl.mono hB)) k hlt
      subst hA
      have hz := Hall.out zs[k] (List.getElem_mem _)
      have Hj := Lib.hid hj; clear hj
      have HL := Lib.hid (fun v hj ht => next_j w.heap.size k c2 A2 sum 0 zs[k] v hj (by omega) (by omega) ht)
      have hbd := noteSum_bd sum ((k : Int) + 1) zs[k].data.toList
      have hls := lineS_size ((k : Int) + 1) (noteSum sum ((k : Int) + 1) zs[k].data.toList) zs[k] (by omega) (by omega) hbd.1 (by omega)
      have Hst := Lib.hid (outJ_at zs k sum hlt)
      have Htk := Lib.hid (take_strs zs k hlt)
      generalize noteSum sum ((k : Int) + 1) zs[k].data.toList = S at *
      generalize lineS ((k : Int) + 1) S zs[k] = L at *
      generalize zs[k] = z at *
      have e1 : (out ++ L : ByteArray).size = out.size + L.size := ByteArray.size_append
      have hlt' : (k : Int) < (zs.length : Int) := by omega
      go_wp2_with fail
      refine (HL.out _ Hj.out (Ht.out.below hbl)).mono ?_; rintro e w1 ⟨rfl, hb1⟩
      have hbl1 := hbl.trans (hb1.mono hbl.size)
      have hown1 := own_below hown hb1
      have Hj1 := Lib.hid (Hj.out.below hb1)
      obtain ⟨hc0, hc1, hc2, hf0, hf1, hf2⟩ := Hj1.out.cells
      clear hb1 hx hown hbl
      go_wp2_with (at_builtin; refine wpList_apd 27 9 _ 1 16 Tryd.underlying27 infoSL rfl (by omega) _ _ rfl rfl w.heap.size (.slice A2 k c2) k _ rfl hown1 #[.string z] 1 1 rfl rfl (by simp [Value.oneCell']) (by simp [maxLen]; omega) (by omega) hbl1.size ?_; intro v' w7 hown7 hg7; obtain ⟨_, A7, c7, rfl, _⟩ := Rd.of_own hown7; have Hj7 := Lib.hid (Hj1.out.row hown1 hg7); have Hb7 := Lib.hid (below_apd hbl1 hown1 hg7 (Nat.le_refl _) hbl1.size); obtain ⟨m0, m1, m2, mf0, mf1, mf2⟩ := Hj7.out.cells)
      have hown8 : w7.ownsRow w.heap.size 9 1 (.slice A7 (k + 1) c7) (k + 1) (strs (zs.take (k + 1))) := by rw [← Htk.out]; exact hown7
      have hfin := Lib.hid (j_set2 Hj7.out hown8 (Nat.le_refl _) Hb7.out S)
      go_wp2_with fail
      go_roundw
      case rel => exact ⟨k + 1, out ++ L, S, _, by omega, by omega, by rw [app_assoc, ← Hst.out]; exact Heq.out, rfl, by go_num, hfin.out.1, hfin.out.2.1, hfin.out.2.2⟩
      case measure => simp [intOf]; omega
    · have hfin := Lib.hid (show outJ 0 0 zs = out by
        have := Heq.out
        rw [List.drop_eq_nil_of_le (by omega), outJ_nil, app_nil] at this
        exact this.symm)
      have hlt' : (zs.length : Int) ≤ (k : Int) := by omega
      go_wp2_with fail
      go_ret
      rw [hfin.out]; exact ⟨rfl, hbl⟩
end Go.Proofs.YtcidjbgjgancgaaDoor
