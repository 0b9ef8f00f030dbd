/- A program's lines, read, part 6: readLines (program). -/
import Derived.Test.YtjkjlpjeamifbaaDoorCp5
import Derived.Test.YtjkjlpjeamifbaaDoorSz1
import Derived.Test.YtjkjlpjeamifbaaDoorMi1
namespace Go.Proofs.YtjkjlpjeamifbaaDoor
open Go.RowKit Go.Joins

def rdL : Int → Nat → List ByteArray → Int × Int
  | d, i, [] => if 0 < d then ((i : Int), 3) else (-1, 0)
  | d, i, s :: l => if (rl s).2.2 ≠ 0 then ((i : Int), (rl s).2.2) else if stepF (rl s).1 d ≠ 0 then ((i : Int), stepF (rl s).1 d) else rdL (stepV (rl s).1 d) (i + 1) l
theorem rdL_at (zs : List ByteArray) (k : Nat) (hk : k < zs.length) (d : Int) : rdL d k (zs.drop k) = if (rl zs[k]).2.2 ≠ 0 then ((k : Int), (rl zs[k]).2.2) else if stepF (rl zs[k]).1 d ≠ 0 then ((k : Int), stepF (rl zs[k]).1 d) else rdL (stepV (rl zs[k]).1 d) (k + 1) (zs.drop (k + 1)) := by
  rw [List.drop_eq_getElem_cons hk]; rfl
theorem rdL_end (zs : List ByteArray) (k : Nat) (hk : zs.length ≤ k) (d : Int) : rdL d k (zs.drop k) = if 0 < d then ((k : Int), 3) else (-1, 0) := by
  rw [List.drop_of_length_le hk]; rfl
def opOf (s : ByteArray) : Int × Int := ((rl s).1, (rl s).2.1)
def resL (zs : List ByteArray) : List (Int × Int) := if (rdL 0 0 zs).2 = 0 then zs.map opOf else []
theorem resL_bad {zs : List ByteArray} {a b : Int} (h : rdL 0 0 zs = (a, b)) (hb : b ≠ 0) : resL zs = [] := by unfold resL; rw [h, if_neg hb]
theorem resL_ok {zs : List ByteArray} {a : Int} (h : rdL 0 0 zs = (a, 0)) : resL zs = zs.map opOf := by unfold resL; rw [h, if_pos rfl]
theorem resL_len (zs : List ByteArray) : (resL zs).length ≤ zs.length := by unfold resL; split <;> simp
/-- a new list of instructions, the wrong line and its fault -/
def RetLs (w : World) (zs : List ByteArray) (e : Ending) (w' : World) : Prop := ∃ v, e = .returned (.tuple #[v, .int .i64 (rdL 0 0 zs).1, .int .i64 (rdL 0 0 zs).2]) ∧ w'.ownsRow w.heap.size 70 2 v (resL zs).length (progs (resL zs)) ∧ Below w.heap.size w w'
theorem RetLs.bad {w w' : World} {zs : List ByteArray} {a b : Int} (h : rdL 0 0 zs = (a, b)) (hb : b ≠ 0) (hw : Below w.heap.size w w') : RetLs w zs (.returned (.tuple #[.slice none 0 0, .int .i64 a, .int .i64 b])) w' := by
  refine ⟨_, by rw [h], ?_, hw⟩
  rw [resL_bad h hb]
  exact ⟨rfl, .inl ⟨rfl, rfl⟩⟩
theorem RetLs.good {w w' : World} {zs : List ByteArray} {a : Int} {v : Value} (h : rdL 0 0 zs = (a, 0)) (ho : w'.ownsRow w.heap.size 70 2 v zs.length (progs (zs.map opOf))) (hw : Below w.heap.size w w') : RetLs w zs (.returned (.tuple #[v, .int .i64 a, .int .i64 0])) w' := by
  refine ⟨_, by rw [h], ?_, hw⟩
  rw [resL_ok h, List.length_map]
  exact ho
theorem progs_next (zs : List ByteArray) (k : Nat) (hk : k < zs.length) : progs ((zs.take k).map opOf) ++ (#[Value.int .i64 (rl zs[k]).1, Value.int .i64 (rl zs[k]).2.1] : Array Value).toList = progs ((zs.take (k + 1)).map opOf) := by
  rw [progs_snoc, List.take_succ_eq_append_getElem hk, List.map_append]; rfl
theorem ones2 (a b : Int) : ∀ u ∈ (#[Value.int .i64 a, Value.int .i64 b] : Array Value).toList, u.oneCell' = true := by
  simp [Value.oneCell']

set_option maxRecDepth 100000 in
set_option maxHeartbeats 3200000 in
theorem readLines_any (B : Nat) (v : Value) (zs : List ByteArray) (w : World) (h : Rd w B v zs.length 1 (strs zs)) (hB : B ≤ w.heap.size) (hl : zs.length ≤ 1048576) (hz : ∀ z ∈ zs, z.size ≤ 1048576) (ht : Tab w) :
    Calls Tryd.prog 46 #[v] w (RetLs w zs) := by
  have H := Lib.hid h
  have Ht := Lib.hid ht
  have Hz := Lib.hid hz
  obtain ⟨_, A, c, rfl, _⟩ := h
  have hb0 := Lib.hid ((Below.refl w.heap.size w).alloc (Nat.le_refl _) (.cells #[] 70))
  have ho0 := Lib.hid (World.ownsRow_made (base := w.heap.size) (e := 70) (size := 2) w #[] 0 (Nat.le_refl _) (by simp [maxLen]) rfl)
  clear ht hz
  go_enter Tryd.func46, Tryd.ntmps46
  go_wp2_with fail
  go_loopw [5, 6, 14] (fun o d i wr => ∃ (k : Nat) (D : Int), k ≤ zs.length ∧ i = .int .i64 (k : Int) ∧ d = .int .i64 D ∧ 0 ≤ D ∧ D ≤ 4 ∧ rdL 0 0 zs = rdL D k (zs.drop k) ∧ wr.ownsRow w.heap.size 70 2 o k (progs ((zs.take k).map opOf)) ∧ Below w.heap.size w wr) (fun _ _ i _ => zs.length - (intOf i).toNat)
  case atStart => exact ⟨0, 0, Nat.zero_le _, rfl, rfl, by omega, by omega, rfl, ho0.out, hb0.out⟩
  case round =>
    obtain ⟨k, D, hk, rfl, rfl, hD0, hD4, hrd, hown, hbl⟩ := hrel
    have Hrd := Lib.hid hrd
    have Hown := Lib.hid hown
    have Hbl := Lib.hid hbl
    clear hrd
    by_cases hlt : k < zs.length
    · obtain ⟨_, b1, o1, hA, e1⟩ := rd_at (H.out.below (hbl.mono hB)) k hlt
      subst hA
      have hlt' : (k : Int) < (zs.length : Int) := by omega
      have Hst := Lib.hid (rdL_at zs k hlt D)
      have Hnx := Lib.hid (progs_next zs k hlt)
      have hzk := Hz.out zs[k] (List.getElem_mem hlt)
      have HL := Lib.hid (readLine_any zs[k] wr (by omega) (Ht.out.below hbl))
      unfold RetRl at HL
      generalize rl zs[k] = x at *
      generalize zs[k] = s at *
      obtain ⟨op, a, ft⟩ := x
      dsimp only at Hst Hnx HL
      have HDB := Lib.hid (fun wx => depthBehind_any op a D wx hD0 hD4)
      clear hown hbl
      go_wp2_with fail
      refine HL.out.mono ?_; rintro e w6 ⟨rfl, hb6⟩
      have Hb6 := Lib.hid (Hbl.out.trans (hb6.mono Hbl.out.size))
      have Ho6 := Lib.hid (own_below Hown.out hb6)
      clear hb6 Hown Hbl HL e1
      by_cases hf : ft = 0
      · subst hf
        have hst := Hst.out
        rw [if_neg (by simp)] at hst
        have Hb7 := Lib.hid (Hb6.out.alloc Hb6.out.size (.cells #[.int .i64 op, .int .i64 a] 70))
        have Hnw := Lib.hid (heap_alloc_new w6 (.cells #[.int .i64 op, .int .i64 a] 70))
        have Ho7 := Lib.hid (own_below Ho6.out ((Below.refl w6.heap.size w6).alloc (Nat.le_refl _) (.cells #[.int .i64 op, .int .i64 a] 70)))
        obtain ⟨c0, c1⟩ := blkp Hnw.out
        have hlw : w6.heap.size < (w6.alloc (.cells #[.int .i64 op, .int .i64 a] 70)).heap.size := by simp
        by_cases hs : stepF op D = 0
        · have Hst2 := Lib.hid (hst.trans (if_neg (by simp [hs])))
          rw [hs] at HDB
          have hsb := step_bd op D hD0 hD4
          generalize stepV op D = D2 at *
          clear hst hs Hst
          go_wp2_with fail
          refine (HDB.out _).mono ?_; rintro e w8 ⟨rfl, hb8⟩
          have Hb8 := Lib.hid (Hb7.out.trans (hb8.mono Hb7.out.size))
          have Ho8 := Lib.hid (own_below Ho7.out hb8)
          obtain ⟨d0, d1⟩ := blkp ((hb8.block _ hlw).trans Hnw.out)
          have hz8 := Hb8.out.size
          clear hb8 c0 c1 Hb7 Ho7 Hb6 Ho6 Hnw HDB
          have Hon := Lib.hid (ones2 op a)
          go_wp2_with (at_builtin; refine wpList_apd 35 70 _ 2 16 Tryd.underlying35 infoP rfl (by omega) _ _ rfl rfl w.heap.size _ k _ rfl Ho8.out #[.int .i64 op, .int .i64 a] 1 1 rfl rfl Hon.out (by simp [maxLen]; omega) (by omega) hz8 ?_; intro v9 w9 hown9 hg9; have Hb9 := Lib.hid (below_apd Hb8.out Ho8.out hg9 (Nat.le_refl _) hz8); have Ho9 := Lib.hid hown9; clear hown9 hg9)
          go_roundw
          case rel => exact ⟨k + 1, D2, by omega, by go_num, rfl, hsb.1, hsb.2, by rw [Hrd.out, Hst2.out], by rw [← Hnx.out]; exact Ho9.out, Hb9.out⟩
          case measure => simp [intOf]; omega
        · have hfin := Lib.hid ((Hrd.out.trans hst).trans (if_pos (by simp [hs])))
          have hne : (stepF op D != 0) = true := by simp [hs]
          generalize stepF op D = F2 at *
          clear hst Hst
          go_wp2_with fail
          refine (HDB.out _).mono ?_; rintro e w8 ⟨rfl, hb8⟩
          have Hb8 := Lib.hid (Hb7.out.trans (hb8.mono Hb7.out.size))
          clear hb8
          go_wp2_with fail
          go_ret3
          exact RetLs.bad hfin.out hs Hb8.out
      · have hfin := Lib.hid ((Hrd.out.trans Hst.out).trans (if_pos (by simp [hf])))
        have hne : (ft != 0) = true := by simp [hf]
        have hne2 : (ft == 0) = false := by simp [hf]
        have Hb7 := Lib.hid (Hb6.out.alloc Hb6.out.size (.cells #[.int .i64 op, .int .i64 a] 70))
        clear Hst
        go_wp2_with fail
        go_ret3
        exact RetLs.bad hfin.out hf Hb7.out
    · have hkk : k = zs.length := by omega
      subst hkk
      have hend := (Hrd.out).trans (rdL_end zs zs.length (Nat.le_refl _) D)
      rw [List.take_length] at hown
      have Hend := Lib.hid hend
      clear hend hown
      have hlt' : ¬ (zs.length : Int) < (zs.length : Int) := by omega
      by_cases hd : 0 < D
      · have hfin := Lib.hid (Hend.out.trans (if_pos hd))
        clear Hend
        go_wp2_with fail
        go_ret3
        exact RetLs.bad hfin.out (by decide) hbl
      · have hfin := Lib.hid (Hend.out.trans (if_neg hd))
        clear Hend
        go_wp2_with fail
        go_ret3
        exact RetLs.good hfin.out (by have := Hown.out; rwa [List.take_length] at this) hbl
end Go.Proofs.YtjkjlpjeamifbaaDoor
