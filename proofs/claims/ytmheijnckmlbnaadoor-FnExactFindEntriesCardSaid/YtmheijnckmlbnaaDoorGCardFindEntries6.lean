/- Merged texts: Fe7. -/
import Derived.Test.YtmheijnckmlbnaaDoorGCardFindEntries4
import Derived.Test.YtmheijnckmlbnaaDoorGCardFindEntries5
import Derived.Test.YtmheijnckmlbnaaDoorGCardFindEntries1
import Derived.Test.YtmheijnckmlbnaaDoorGCardFindEntries2
import Derived.Deep.DeepCutAuto
import Derived.Deep.CutRange
/- Queries: the reference's parse of a part (l25Parse). -/
namespace Go.Proofs.YtmheijnckmlbnaaDoor
open Go.RowKit Go.Joins

abbrev ZT : Array Value := #[.string ⟨#[]⟩, .int .u8 0, .string ⟨#[]⟩, .int .i64 0]
/-- the parse under way: the result's block is fresh, the term lies in block g -/
structure PsL (w wx : World) (g : Nat) (F T : ByteArray) (c : Int) (y : Int) : Prop where
  hr : wx.heap[w.heap.size]? = some (.cells #[.string ⟨#[]⟩, .int .u8 0, .string ⟨#[]⟩, .int .i64 0] 94 (0, 0))
  hq : wx.heap[g]? = some (.cells #[.string F, .int .u8 c, .string T, .int .i64 y] 94 (0, 0))
  lt : w.heap.size < g
  bel : Below w.heap.size w wx
theorem PsL.next {w wx wy : World} {g : Nat} {F T : ByteArray} {c y : Int} (h : PsL w wx g F T c y) (hb : Below wx.heap.size wx wy) : PsL w wy g F T c y :=
  ⟨(hb.block _ (blk_lt h.hr)).trans h.hr, (hb.block _ (blk_lt h.hq)).trans h.hq, h.lt, h.bel.trans (hb.mono h.bel.size)⟩
theorem PsL.setY {w wx : World} {g : Nat} {F T : ByteArray} {c y : Int} (h : PsL w wx g F T c y) (z : Int) : PsL w (wx.setCell ⟨g, 3, none⟩ (.int .i64 z)) g F T c z := by
  have h1 := heap_setCell_same wx g 3 _ _ (.int .i64 z) h.hq
  exact ⟨(Below.heap_setCell _ _ _ _ (Nat.ne_of_lt h.lt)).trans h.hr, h1, h.lt, h.bel.setCell (p := ⟨g, 3, none⟩) (Nat.le_of_lt h.lt) _⟩
theorem PsL.done {w wx : World} {g : Nat} {F T : ByteArray} {c y : Int} (h : PsL w wx g F T c y) (a b d e : Value) :
    ((put4 wx w.heap.size a b d e).cell? ⟨w.heap.size, 0, none⟩ = some a ∧ (put4 wx w.heap.size a b d e).cell? ⟨w.heap.size, 1, none⟩ = some b ∧ (put4 wx w.heap.size a b d e).cell? ⟨w.heap.size, 2, none⟩ = some d ∧ (put4 wx w.heap.size a b d e).cell? ⟨w.heap.size, 3, none⟩ = some e) ∧
    Below w.heap.size w (put4 wx w.heap.size a b d e) := by
  have g := heap_setCell_same _ w.heap.size 3 _ _ e (heap_setCell_same _ w.heap.size 2 _ _ d (heap_setCell_same _ w.heap.size 1 _ _ b (heap_setCell_same wx w.heap.size 0 _ _ a h.hr)))
  exact ⟨(blk4 g).1, (((h.bel.setCell (p := ⟨w.heap.size, 0, none⟩) (Nat.le_refl _) a).setCell (p := ⟨w.heap.size, 1, none⟩) (Nat.le_refl _) b).setCell (p := ⟨w.heap.size, 2, none⟩) (Nat.le_refl _) d).setCell (p := ⟨w.heap.size, 3, none⟩) (Nat.le_refl _) e⟩
theorem PsL.made {w w1 : World} {F T : ByteArray} {c y : Int} (h : w1.heap[w.heap.size]? = some (.cells #[.string ⟨#[]⟩, .int .u8 0, .string ⟨#[]⟩, .int .i64 0] 94 (0, 0))) (hb : Below w.heap.size w w1) :
    PsL w (w1.alloc (.cells #[.string F, .int .u8 c, .string T, .int .i64 y] 94)).drew w1.heap.size F T c y := by
  have hlt := blk_lt h
  have hba := (Below.refl w1.heap.size w1).alloc (Nat.le_refl _) (.cells #[.string F, .int .u8 c, .string T, .int .i64 y] 94)
  exact ⟨(hba.block _ hlt).trans h, heap_alloc_new w1 _, hlt, (hb.trans (hba.mono hb.size)).drew⟩
theorem res_fin {w w1 : World} (h : w1.heap[w.heap.size]? = some (.cells #[.string ⟨#[]⟩, .int .u8 0, .string ⟨#[]⟩, .int .i64 0] 94 (0, 0))) (hb : Below w.heap.size w w1) (a b d e : Value) :
    ((put4 w1 w.heap.size a b d e).cell? ⟨w.heap.size, 0, none⟩ = some a ∧ (put4 w1 w.heap.size a b d e).cell? ⟨w.heap.size, 1, none⟩ = some b ∧ (put4 w1 w.heap.size a b d e).cell? ⟨w.heap.size, 2, none⟩ = some d ∧ (put4 w1 w.heap.size a b d e).cell? ⟨w.heap.size, 3, none⟩ = some e) ∧
    Below w.heap.size w (put4 w1 w.heap.size a b d e) := by
  have g := heap_setCell_same _ w.heap.size 3 _ _ e (heap_setCell_same _ w.heap.size 2 _ _ d (heap_setCell_same _ w.heap.size 1 _ _ b (heap_setCell_same w1 w.heap.size 0 _ _ a h)))
  exact ⟨(blk4 g).1, (((hb.setCell (p := ⟨w.heap.size, 0, none⟩) (Nat.le_refl _) a).setCell (p := ⟨w.heap.size, 1, none⟩) (Nat.le_refl _) b).setCell (p := ⟨w.heap.size, 2, none⟩) (Nat.le_refl _) d).setCell (p := ⟨w.heap.size, 3, none⟩) (Nat.le_refl _) e⟩
/-- the cells say what the term says -/
def TermIs (t : Term) (F : ByteArray) (c : Int) (T : ByteArray) (y : Int) : Prop := match t with
  | .name n => F = nameW ∧ T = n
  | .maker n => F = makerW ∧ T = n
  | .year b z => F = yearW ∧ c = (b.toNat : Int) ∧ y = z ∧ (b = 61 ∨ b = 60 ∨ b = 62)
  | .word n => F = ⟨#[119, 111, 114, 100]⟩ ∧ T = n
def RetP (w : World) (s : ByteArray) (e : Ending) (w' : World) : Prop := ∃ (F T : ByteArray) (c y : Int), e = .returned (.tuple #[.agg #[.string F, .int .u8 c, .string T, .int .i64 y], .bool (parseT s).isSome]) ∧ (∀ t, parseT s = some t → TermIs t F c T y) ∧ Below w.heap.size w w'
theorem RetP.no {w w' : World} {s F T : ByteArray} {c y : Int} (h : parseT s = none) (hb : Below w.heap.size w w') : RetP w s (.returned (.tuple #[.agg #[.string F, .int .u8 c, .string T, .int .i64 y], .bool false])) w' :=
  ⟨F, T, c, y, by rw [h]; rfl, fun t ht => by (rw [h] at ht; cases ht), hb⟩
theorem RetP.yes {w w' : World} {s F T : ByteArray} {c y : Int} {t : Term} (h : parseT s = some t) (ht : TermIs t F c T y) (hb : Below w.heap.size w w') : RetP w s (.returned (.tuple #[.agg #[.string F, .int .u8 c, .string T, .int .i64 y], .bool true])) w' :=
  ⟨F, T, c, y, by rw [h]; rfl, fun t' h' => by (rw [h] at h'; cases h'; exact ht), hb⟩
theorem nm_emp : isNm (⟨#[]⟩ : ByteArray).data.toList = false := rfl
theorem ne_lit {F W : ByteArray} {l : List UInt8} (h : F ≠ W) (hl : W.data.toList = l) : (F.toList == l) = false := by
  rw [beq_eq_false_iff_ne]
  intro e
  rw [ByteArray.toList_eq] at e
  exact h (ba_ext2 (e.trans hl.symm))

set_option maxRecDepth 100000 in
set_option maxHeartbeats 6400000 in
theorem l25Parse_any (s : ByteArray) (w : World) (hs : s.size ≤ 1048576) : Calls Tryd.prog 70 #[.string s] w (RetP w s) := by
  have HN := Lib.hid (fun z wx hz => IsNameS_any z wx hz)
  have HR := Lib.hid (fun z wx hz => l01Number_any z wx hz)
  have HI := Lib.hid (fun y wx => l00In_any y 0 10000 wx)
  have Hno := Lib.hid (fun h => parse_no (s := s) h)
  have Hsg := Lib.hid (fun k hlt h hs => parse_sg (s := s) (k := k) hlt h hs)
  have hb1 := (Below.refl w.heap.size w).alloc (Nat.le_refl _) (.cells #[.string ⟨#[]⟩, .int .u8 0, .string ⟨#[]⟩, .int .i64 0] 94)
  have HQ1 := Lib.hid (heap_alloc_new w (.cells #[.string ⟨#[]⟩, .int .u8 0, .string ⟨#[]⟩, .int .i64 0] 94))
  have HB1 := Lib.hid hb1
  unfold RetN1 at HR
  go_enter Tryd.func70, Tryd.ntmps70
  go_wp2_with fail
  generalize hw1 : w.alloc (.cells #[.string ⟨#[]⟩, .int .u8 0, .string ⟨#[]⟩, .int .i64 0] 94) = w1 at *
  clear hw1 hb1
  go_loopw [4] (fun i wr => ∃ k : Nat, k ≤ s.size ∧ i = .int .i64 (k : Int) ∧ (∀ j (hj : j < s.size), j < k → isSg s[j] = false) ∧ wr = w1) (fun i _ => s.size - (intOf i).toNat)
  case atStart => exact ⟨0, Nat.zero_le _, rfl, fun j _ hj => absurd hj (by omega), rfl⟩
  case round =>
    obtain ⟨k, hk, rfl, hpre, rfl⟩ := hrel
    have Hpre := Lib.hid hpre; clear hpre
    by_cases hlt : k < s.size
    · have hlt' : (k : Int) < (s.size : Int) := by omega
      have hx0 : (k : Int) + 1 ≤ (s.size : Int) := by omega
      have hx1 : (0 : Int) ≤ (k : Int) + 1 := by omega
      have hwk : IntKind.i64.wrap ((k : Int) + 1) = (k : Int) + 1 := IntWalk.i64_in _ (by omega)
      cases hsg : isSg s[k] with
      | false =>
        obtain ⟨n1, n2, n3⟩ : s[k] ≠ 61 ∧ s[k] ≠ 60 ∧ s[k] ≠ 62 := by
          unfold isSg at hsg
          simp only [Bool.or_eq_false_iff, beq_eq_false_iff_ne] at hsg
          exact ⟨hsg.1.1, hsg.1.2, hsg.2⟩
        have m1 : ((s[k].toNat : Int) == 61) = false := by rw [beq_eq_false_iff_ne]; intro h; exact n1 (UInt8.toNat_inj.1 (by show s[k].toNat = 61; omega))
        have m2 : ((s[k].toNat : Int) == 60) = false := by rw [beq_eq_false_iff_ne]; intro h; exact n2 (UInt8.toNat_inj.1 (by show s[k].toNat = 60; omega))
        have m3 : ((s[k].toNat : Int) == 62) = false := by rw [beq_eq_false_iff_ne]; intro h; exact n3 (UInt8.toNat_inj.1 (by show s[k].toNat = 62; omega))
        have q1 : ((s[k].toNat : Int) != 61) = true := by rw [bne, m1]; rfl
        have q2 : ((s[k].toNat : Int) != 60) = true := by rw [bne, m2]; rfl
        have q3 : ((s[k].toNat : Int) != 62) = true := by rw [bne, m3]; rfl
        have Hnx := Lib.hid (show ∀ j (hj : j < s.size), j < k + 1 → isSg s[j] = false from fun j hj hjk => by
          by_cases e : j = k
          · subst e; exact hsg
          · exact Hpre.out j hj (by omega))
        clear hsg n1 n2 n3
        go_wp2_with fail
        go_roundw
        case rel => exact ⟨k + 1, by omega, by go_num, Hnx.out, by trivial⟩
        case measure => simp [intOf]; omega
      | true =>
        have Hp := Lib.hid (Hsg.out k hlt Hpre.out hsg)
        have hor := isSg_or hsg
        have hTz : (s.extract (k + 1) s.size).size ≤ s.size := by rw [ByteArray.size_extract]; omega
        clear hsg Hpre Hno Hsg
        rcases hor with hc | hc | hc
        · have hb : ((s[k].toNat : Int) == 61) = true := by rw [hc]; rfl
          have q61 : ((s[k].toNat : Int) != 61) = false := by rw [hc]; rfl
          have q60 : ((s[k].toNat : Int) != 60) = true := by rw [hc]; rfl
          have q62 : ((s[k].toNat : Int) != 62) = true := by rw [hc]; rfl
          have hcz : (s[k].toNat : Int) = 61 := by rw [hc]; rfl
          rw [hc] at Hp
          have hsz : ((k : Int) == (s.size : Int)) = false := by rw [beq_eq_false_iff_ne]; omega
          go_upto_region 6 with (fail)
          refine wp_region_noPanic ?_
          refine wp_region_L [12] (fun _ => True) (by kernel_rfl) (trivial) (fun hHeld => ?_)
          refine take_F (i := 0) (d := some 40) (v := ?_) (by kernel_rfl) (by kernel_rfl) rfl rfl (by kernel_rfl) (by kernel_rfl) (by kernel_rfl) (fun _ _ _ h => h) (Or.inl ⟨by rfl, ?_⟩) (by assumption) ?_
          rotate_left
          · (intro w hSw; (try dsimp only at hSw); go_simp; (try rw [if_neg (by omega)]); (try (with_reducible rfl)))
          simp only [Act.put, List.setIfInBounds_toArray, List.set_cons_zero, List.set_cons_succ]
          refine take_F (i := 1) (d := some 41) (v := ?_) (by kernel_rfl) (by kernel_rfl) rfl rfl (by kernel_rfl) (by kernel_rfl) (by kernel_rfl) (fun _ _ _ h => h) (Or.inl ⟨by rfl, ?_⟩) (by assumption) ?_
          rotate_left
          · (intro w hSw; (try dsimp only at hSw); go_simp; (try rw [if_neg (by omega)]); (try (with_reducible rfl)))
          simp only [Act.put, List.setIfInBounds_toArray, List.set_cons_zero, List.set_cons_succ]
          refine take_F (i := 2) (d := some 42) (v := ?_) (by kernel_rfl) (by kernel_rfl) rfl rfl (by kernel_rfl) (by kernel_rfl) (by kernel_rfl) (fun _ _ _ h => h) (Or.inl ⟨by rfl, ?_⟩) (by assumption) ?_
          rotate_left
          · (intro w hSw; (try dsimp only at hSw); go_simp; (try rw [if_neg (by omega)]); (try (with_reducible rfl)))
          simp only [Act.put, List.setIfInBounds_toArray, List.set_cons_zero, List.set_cons_succ]
          refine take_F (i := 3) (d := some 43) (v := ?_) (by kernel_rfl) (by kernel_rfl) rfl rfl (by kernel_rfl) (by kernel_rfl) (by kernel_rfl) (fun _ _ _ h => h) (Or.inl ⟨by rfl, ?_⟩) (by assumption) ?_
          rotate_left
          · (intro w hSw; (try dsimp only at hSw); go_simp; (try rw [if_neg (by omega)]); (try (with_reducible rfl)))
          simp only [Act.put, List.setIfInBounds_toArray, List.set_cons_zero, List.set_cons_succ]
          refine take_F (i := 4) (d := some 44) (v := ?_) (by kernel_rfl) (by kernel_rfl) rfl rfl (by kernel_rfl) (by kernel_rfl) (by kernel_rfl) (fun _ _ _ h => h) (Or.inl ⟨by rfl, ?_⟩) (by assumption) ?_
          rotate_left
          · (intro w hSw; (try dsimp only at hSw); go_simp; (try rw [if_neg (by omega)]); (try (with_reducible rfl)))
          simp only [Act.put, List.setIfInBounds_toArray, List.set_cons_zero, List.set_cons_succ]
          refine take_F (i := 5) (d := some 45) (v := ?_) (by kernel_rfl) (by kernel_rfl) rfl rfl (by kernel_rfl) (by kernel_rfl) (by kernel_rfl) (fun _ _ _ h => h) (Or.inl ⟨by rfl, ?_⟩) (by assumption) ?_
          rotate_left
          · (intro w hSw; (try dsimp only at hSw); go_simp; (try rw [if_neg (by omega)]); (try (with_reducible rfl)))
          simp only [Act.put, List.setIfInBounds_toArray, List.set_cons_zero, List.set_cons_succ]
          refine take_F (i := 6) (d := some 46) (v := ?_) (by kernel_rfl) (by kernel_rfl) rfl rfl (by kernel_rfl) (by kernel_rfl) (by kernel_rfl) (fun _ _ _ h => h) (Or.inl ⟨by rfl, ?_⟩) (by assumption) ?_
          rotate_left
          · (intro w hSw; (try dsimp only at hSw); go_simp; (try rw [if_neg (by omega)]); (try (with_reducible rfl)))
          simp only [Act.put, List.setIfInBounds_toArray, List.set_cons_zero, List.set_cons_succ]
          refine take_F (i := 7) (d := some 47) (v := ?_) (by kernel_rfl) (by kernel_rfl) rfl rfl (by kernel_rfl) (by kernel_rfl) (by kernel_rfl) (fun _ _ _ h => h) (Or.inl ⟨by rfl, ?_⟩) (by assumption) ?_
          rotate_left
          · (intro w hSw; (try dsimp only at hSw); go_simp; (try rw [if_neg (by omega)]); (try (with_reducible rfl)))
          simp only [Act.put, List.setIfInBounds_toArray, List.set_cons_zero, List.set_cons_succ]
          refine take_F (i := 8) (d := some 48) (v := ?_) (by kernel_rfl) (by kernel_rfl) rfl rfl (by kernel_rfl) (by kernel_rfl) (by kernel_rfl) (fun _ _ _ h => h) (Or.inl ⟨by rfl, ?_⟩) (by assumption) ?_
          rotate_left
          · (intro w hSw; (try dsimp only at hSw); go_simp; (try rw [if_neg (by omega)]); (try (with_reducible rfl)))
          simp only [Act.put, List.setIfInBounds_toArray, List.set_cons_zero, List.set_cons_succ]
          refine take_F (i := 9) (d := some 49) (v := ?_) (by kernel_rfl) (by kernel_rfl) rfl rfl (by kernel_rfl) (by kernel_rfl) (by kernel_rfl) (fun _ _ _ h => h) (Or.inl ⟨by rfl, ?_⟩) (by assumption) ?_
          rotate_left
          · (intro w hSw; (try dsimp only at hSw); go_simp; (try rw [if_neg (by omega)]); (try (with_reducible rfl)))
          simp only [Act.put, List.setIfInBounds_toArray, List.set_cons_zero, List.set_cons_succ]
          refine take_F (i := 10) (d := some 50) (v := ?_) (by kernel_rfl) (by kernel_rfl) rfl rfl (by kernel_rfl) (by kernel_rfl) (by kernel_rfl) (fun _ _ _ h => h) (Or.inl ⟨by rfl, ?_⟩) (by assumption) ?_
          rotate_left
          · (intro w hSw; (try dsimp only at hSw); go_simp; (try rw [if_neg (by omega)]); (try (with_reducible rfl)))
          simp only [Act.put, List.setIfInBounds_toArray, List.set_cons_zero, List.set_cons_succ]
          refine call_L (i := 11) (d := (some 5)) rfl rfl (by kernel_rfl) (fun Kq hKq => ?_)
          go_simp
          refine hKq.out _ _ (trivial) (fun hHeld => ?_)
          clear hKq Kq
          (try simp only [Act.put, List.setIfInBounds_toArray, List.set_cons_zero, List.set_cons_succ])
          refine late_L (i := 12) (d := none) (by kernel_rfl) rfl rfl (by kernel_rfl) (fun Kq hKq => ?_)
          go_simp
          refine hKq.out _ _ ?_
          clear hKq Kq
          refine done_L (by kernel_rfl) ?_ _
          refine NoPanic.normal ?_
          have HP := Lib.hid (PsL.made (F := s.extract 0 k) (T := s.extract (k + 1) s.size) (c := 61) (y := 0) HQ1.out HB1.out)
          have HNT := Lib.hid (fun wx => HN.out (s.extract (k + 1) s.size) wx (Nat.le_trans hTz hs))
          have HRT := Lib.hid (fun wx => HR.out (s.extract (k + 1) s.size) wx (Nat.le_trans hTz (by omega)))
          obtain ⟨P1, P2, P3, P4⟩ := Hp.out
          generalize wr.heap.size = g5 at *
          generalize (wr.alloc (.cells #[.string (s.extract 0 k), .int .u8 61, .string (s.extract (k + 1) s.size), .int .i64 0] 94)).drew = w6 at *
          clear Hp HQ1 HB1 HN HR hTz hb q61 q60 q62 hcz hc hsz
          generalize s.extract 0 k = F at *
          generalize s.extract (k + 1) s.size = T at *
          clear hx0 hx1 hwk hlt'
          by_cases h1 : F = nameW
          · obtain rfl : F = ⟨#[110, 97, 109, 101]⟩ := h1
            cases hz : isNm T.data.toList with
            | true =>
              rw [hz] at HNT
              have Hpt := Lib.hid (show parseT s = some (.name T) by rw [P1 rfl, if_pos ⟨rfl, hz⟩])
              clear hz P1 P2 P3 P4
              obtain ⟨⟨p0, p1, p2, p3⟩, f0, f1, f2, f3⟩ := blk4 HP.out.hq
              obtain ⟨⟨d0, d1, d2, d3⟩, e0, e1, e2, e3⟩ := blk4 HP.out.hr
              have HD := Lib.hid (HP.out.done (.string ⟨#[110, 97, 109, 101]⟩) (.int .u8 61) (.string T) (.int .i64 0))
              go_upto_region 10 with (fail)
              refine wp_region_noPanic ?_
              refine wp_region_L [10,9] (fun w' => w'.cell? ⟨g5, 0, none⟩ = some (.string ⟨#[110, 97, 109, 101]⟩) ∧ w'.cell? ⟨g5, 1, none⟩ = some (.int .u8 61) ∧ w'.cell? ⟨g5, 2, none⟩ = some (.string T) ∧ w'.cell? ⟨g5, 3, none⟩ = some (.int .i64 0)) (by kernel_rfl) (⟨p0, p1, p2, p3⟩) (fun hHeld => ?_)
              refine take_L [0] (i := 0) (d := some 56) (v := ?_) (by kernel_rfl) (by kernel_rfl) (by kernel_rfl) (by kernel_rfl) rfl rfl (by kernel_rfl) (by kernel_rfl) (by kernel_rfl) (fun _ _ _ h => h) (Or.inl ⟨by rfl, ?_⟩) (by assumption) ?_
              rotate_left
              · (intro w hSw; (try dsimp only at hSw); go_simp; (try rw [if_neg (by omega)]); (try (with_reducible rfl)))
              simp only [Act.put, List.setIfInBounds_toArray, List.set_cons_zero, List.set_cons_succ]
              refine take_F (i := 1) (d := some 57) (v := ?_) (by kernel_rfl) (by kernel_rfl) rfl rfl (by kernel_rfl) (by kernel_rfl) (by kernel_rfl) (fun _ _ _ h => h) (Or.inl ⟨by rfl, ?_⟩) (by assumption) ?_
              rotate_left
              · (intro w hSw; (try dsimp only at hSw); go_simp; (try rw [if_neg (by omega)]); (try (with_reducible rfl)))
              simp only [Act.put, List.setIfInBounds_toArray, List.set_cons_zero, List.set_cons_succ]
              refine take_L [7,4,3,2] (i := 2) (d := some 58) (v := ?_) (by kernel_rfl) (by kernel_rfl) (by kernel_rfl) (by kernel_rfl) rfl rfl (by kernel_rfl) (by kernel_rfl) (by kernel_rfl) (fun _ _ _ h => h) (Or.inl ⟨by rfl, ?_⟩) (by assumption) ?_
              rotate_left
              · (intro w hSw; (try dsimp only at hSw); go_simp; (try rw [if_neg (by omega)]); (try (with_reducible rfl)))
              simp only [Act.put, List.setIfInBounds_toArray, List.set_cons_zero, List.set_cons_succ]
              refine take_F (i := 3) (d := some 59) (v := ?_) (by kernel_rfl) (by kernel_rfl) rfl rfl (by kernel_rfl) (by kernel_rfl) (by kernel_rfl) (fun _ _ _ h => h) (Or.inl ⟨by rfl, ?_⟩) (by assumption) ?_
              rotate_left
              · (intro w hSw; (try dsimp only at hSw); go_simp; (try rw [if_neg (by omega)]); (try (with_reducible rfl)))
              simp only [Act.put, List.setIfInBounds_toArray, List.set_cons_zero, List.set_cons_succ]
              refine take_F (i := 4) (d := some 60) (v := ?_) (by kernel_rfl) (by kernel_rfl) rfl rfl (by kernel_rfl) (by kernel_rfl) (by kernel_rfl) (fun _ _ _ h => h) (Or.inl ⟨by rfl, ?_⟩) (by assumption) ?_
              rotate_left
              · (intro w hSw; (try dsimp only at hSw); go_simp; (try rw [if_neg (by omega)]); (try (with_reducible rfl)))
              simp only [Act.put, List.setIfInBounds_toArray, List.set_cons_zero, List.set_cons_succ]
              refine take_F (i := 5) (d := some 61) (v := ?_) (by kernel_rfl) (by kernel_rfl) rfl rfl (by kernel_rfl) (by kernel_rfl) (by kernel_rfl) (fun _ _ _ h => h) (Or.inl ⟨by rfl, ?_⟩) (by assumption) ?_
              rotate_left
              · (intro w hSw; (try dsimp only at hSw); go_simp; (try rw [if_neg (by omega)]); (try (with_reducible rfl)))
              simp only [Act.put, List.setIfInBounds_toArray, List.set_cons_zero, List.set_cons_succ]
              refine take_L [7,6] (i := 6) (d := some 62) (v := ?_) (by kernel_rfl) (by kernel_rfl) (by kernel_rfl) (by kernel_rfl) rfl rfl (by kernel_rfl) (by kernel_rfl) (by kernel_rfl) (fun _ _ _ h => h) (Or.inl ⟨by rfl, ?_⟩) (by assumption) ?_
              rotate_left
              · (intro w hSw; (try dsimp only at hSw); go_simp; (try rw [if_neg (by omega)]); (try (with_reducible rfl)))
              simp only [Act.put, List.setIfInBounds_toArray, List.set_cons_zero, List.set_cons_succ]
              refine call_L (i := 7) (d := (some 63)) rfl rfl (by kernel_rfl) (fun Kq hKq => ?_)
              go_simp
              go_at_call 86
              refine (HNT.out _).mono ?_; rintro e w8 ⟨rfl, rfl⟩
              (try go_wp2_with fail)
              refine hKq.out _ _ (⟨p0, p1, p2, p3⟩) (fun hHeld => ?_)
              clear hKq Kq
              (try simp only [Act.put, List.setIfInBounds_toArray, List.set_cons_zero, List.set_cons_succ])
              refine take_F (i := 8) (d := some 64) (v := ?_) (by kernel_rfl) (by kernel_rfl) rfl rfl (by kernel_rfl) (by kernel_rfl) (by kernel_rfl) (fun _ _ _ h => h) (Or.inl ⟨by rfl, ?_⟩) (by assumption) ?_
              rotate_left
              · (intro w hSw; (try dsimp only at hSw); go_simp; (try rw [if_neg (by omega)]); (try (with_reducible rfl)))
              simp only [Act.put, List.setIfInBounds_toArray, List.set_cons_zero, List.set_cons_succ]
              refine late_L (i := 9) (d := none) (by kernel_rfl) rfl rfl (by kernel_rfl) (fun Kq hKq => ?_)
              go_simp
              refine hKq.out _ _ ?_
              clear hKq Kq
              refine late_L (i := 10) (d := (some 3)) (by kernel_rfl) rfl rfl (by kernel_rfl) (fun Kq hKq => ?_)
              go_simp
              refine hKq.out _ _ ?_
              clear hKq Kq
              refine done_L (by kernel_rfl) ?_ _
              refine NoPanic.normal ?_
              go_wp2_with fail
              obtain ⟨⟨k0, k1, k2, k3⟩, hbz⟩ := HD.out
              refine bodyPost_ret (v := .tuple #[.agg #[.string ⟨#[110, 97, 109, 101]⟩, .int .u8 61, .string T, .int .i64 0], .bool true]) (by simp [results, Tryd.results70, go_sem, k0, k1, k2, k3]) rfl ?_
              first | exact RetP.yes Hpt.out ⟨rfl, rfl⟩ hbz.drew | exact RetP.yes Hpt.out ⟨rfl, rfl⟩ hbz
            | false =>
              rw [hz] at HNT
              have Hpt := Lib.hid (show parseT s = none by rw [P1 rfl, if_neg (by rw [hz]; rintro ⟨_, h⟩; cases h)])
              clear hz P1 P2 P3 P4
              obtain ⟨⟨p0, p1, p2, p3⟩, f0, f1, f2, f3⟩ := blk4 HP.out.hq
              obtain ⟨⟨d0, d1, d2, d3⟩, e0, e1, e2, e3⟩ := blk4 HP.out.hr
              have HD := Lib.hid (HP.out.done (.string ⟨#[110, 97, 109, 101]⟩) (.int .u8 61) (.string T) (.int .i64 0))
              go_upto_region 10 with (fail)
              refine wp_region_noPanic ?_
              refine wp_region_L [10,9] (fun w' => w'.cell? ⟨g5, 0, none⟩ = some (.string ⟨#[110, 97, 109, 101]⟩) ∧ w'.cell? ⟨g5, 1, none⟩ = some (.int .u8 61) ∧ w'.cell? ⟨g5, 2, none⟩ = some (.string T) ∧ w'.cell? ⟨g5, 3, none⟩ = some (.int .i64 0)) (by kernel_rfl) (⟨p0, p1, p2, p3⟩) (fun hHeld => ?_)
              refine take_L [0] (i := 0) (d := some 56) (v := ?_) (by kernel_rfl) (by kernel_rfl) (by kernel_rfl) (by kernel_rfl) rfl rfl (by kernel_rfl) (by kernel_rfl) (by kernel_rfl) (fun _ _ _ h => h) (Or.inl ⟨by rfl, ?_⟩) (by assumption) ?_
              rotate_left
              · (intro w hSw; (try dsimp only at hSw); go_simp; (try rw [if_neg (by omega)]); (try (with_reducible rfl)))
              simp only [Act.put, List.setIfInBounds_toArray, List.set_cons_zero, List.set_cons_succ]
              refine take_F (i := 1) (d := some 57) (v := ?_) (by kernel_rfl) (by kernel_rfl) rfl rfl (by kernel_rfl) (by kernel_rfl) (by kernel_rfl) (fun _ _ _ h => h) (Or.inl ⟨by rfl, ?_⟩) (by assumption) ?_
              rotate_left
              · (intro w hSw; (try dsimp only at hSw); go_simp; (try rw [if_neg (by omega)]); (try (with_reducible rfl)))
              simp only [Act.put, List.setIfInBounds_toArray, List.set_cons_zero, List.set_cons_succ]
              refine take_L [7,4,3,2] (i := 2) (d := some 58) (v := ?_) (by kernel_rfl) (by kernel_rfl) (by kernel_rfl) (by kernel_rfl) rfl rfl (by kernel_rfl) (by kernel_rfl) (by kernel_rfl) (fun _ _ _ h => h) (Or.inl ⟨by rfl, ?_⟩) (by assumption) ?_
              rotate_left
              · (intro w hSw; (try dsimp only at hSw); go_simp; (try rw [if_neg (by omega)]); (try (with_reducible rfl)))
              simp only [Act.put, List.setIfInBounds_toArray, List.set_cons_zero, List.set_cons_succ]
              refine take_F (i := 3) (d := some 59) (v := ?_) (by kernel_rfl) (by kernel_rfl) rfl rfl (by kernel_rfl) (by kernel_rfl) (by kernel_rfl) (fun _ _ _ h => h) (Or.inl ⟨by rfl, ?_⟩) (by assumption) ?_
              rotate_left
              · (intro w hSw; (try dsimp only at hSw); go_simp; (try rw [if_neg (by omega)]); (try (with_reducible rfl)))
              simp only [Act.put, List.setIfInBounds_toArray, List.set_cons_zero, List.set_cons_succ]
              refine take_F (i := 4) (d := some 60) (v := ?_) (by kernel_rfl) (by kernel_rfl) rfl rfl (by kernel_rfl) (by kernel_rfl) (by kernel_rfl) (fun _ _ _ h => h) (Or.inl ⟨by rfl, ?_⟩) (by assumption) ?_
              rotate_left
              · (intro w hSw; (try dsimp only at hSw); go_simp; (try rw [if_neg (by omega)]); (try (with_reducible rfl)))
              simp only [Act.put, List.setIfInBounds_toArray, List.set_cons_zero, List.set_cons_succ]
              refine take_F (i := 5) (d := some 61) (v := ?_) (by kernel_rfl) (by kernel_rfl) rfl rfl (by kernel_rfl) (by kernel_rfl) (by kernel_rfl) (fun _ _ _ h => h) (Or.inl ⟨by rfl, ?_⟩) (by assumption) ?_
              rotate_left
              · (intro w hSw; (try dsimp only at hSw); go_simp; (try rw [if_neg (by omega)]); (try (with_reducible rfl)))
              simp only [Act.put, List.setIfInBounds_toArray, List.set_cons_zero, List.set_cons_succ]
              refine take_L [7,6] (i := 6) (d := some 62) (v := ?_) (by kernel_rfl) (by kernel_rfl) (by kernel_rfl) (by kernel_rfl) rfl rfl (by kernel_rfl) (by kernel_rfl) (by kernel_rfl) (fun _ _ _ h => h) (Or.inl ⟨by rfl, ?_⟩) (by assumption) ?_
              rotate_left
              · (intro w hSw; (try dsimp only at hSw); go_simp; (try rw [if_neg (by omega)]); (try (with_reducible rfl)))
              simp only [Act.put, List.setIfInBounds_toArray, List.set_cons_zero, List.set_cons_succ]
              refine call_L (i := 7) (d := (some 63)) rfl rfl (by kernel_rfl) (fun Kq hKq => ?_)
              go_simp
              go_at_call 86
              refine (HNT.out _).mono ?_; rintro e w8 ⟨rfl, rfl⟩
              (try go_wp2_with fail)
              refine hKq.out _ _ (⟨p0, p1, p2, p3⟩) (fun hHeld => ?_)
              clear hKq Kq
              (try simp only [Act.put, List.setIfInBounds_toArray, List.set_cons_zero, List.set_cons_succ])
              refine take_F (i := 8) (d := some 64) (v := ?_) (by kernel_rfl) (by kernel_rfl) rfl rfl (by kernel_rfl) (by kernel_rfl) (by kernel_rfl) (fun _ _ _ h => h) (Or.inl ⟨by rfl, ?_⟩) (by assumption) ?_
              rotate_left
              · (intro w hSw; (try dsimp only at hSw); go_simp; (try rw [if_neg (by omega)]); (try (with_reducible rfl)))
              simp only [Act.put, List.setIfInBounds_toArray, List.set_cons_zero, List.set_cons_succ]
              refine late_L (i := 9) (d := none) (by kernel_rfl) rfl rfl (by kernel_rfl) (fun Kq hKq => ?_)
              go_simp
              refine hKq.out _ _ ?_
              clear hKq Kq
              refine late_L (i := 10) (d := (some 3)) (by kernel_rfl) rfl rfl (by kernel_rfl) (fun Kq hKq => ?_)
              go_simp
              refine hKq.out _ _ ?_
              clear hKq Kq
              refine done_L (by kernel_rfl) ?_ _
              refine NoPanic.normal ?_
              go_wp2_with fail
              obtain ⟨⟨k0, k1, k2, k3⟩, hbz⟩ := HD.out
              refine bodyPost_ret (v := .tuple #[.agg #[.string ⟨#[110, 97, 109, 101]⟩, .int .u8 61, .string T, .int .i64 0], .bool false]) (by simp [results, Tryd.results70, go_sem, k0, k1, k2, k3]) rfl ?_
              first | exact RetP.no Hpt.out hbz.drew | exact RetP.no Hpt.out hbz
          · have n1 := ne_lit (l := [110, 97, 109, 101]) h1 rfl
            by_cases h2 : F = makerW
            · clear h1 n1
              obtain rfl : F = ⟨#[109, 97, 107, 101, 114]⟩ := h2
              cases hz : isNm T.data.toList with
              | true =>
                rw [hz] at HNT
                have Hpt := Lib.hid (show parseT s = some (.maker T) by rw [P2 rfl, if_pos ⟨rfl, hz⟩])
                clear hz P1 P2 P3 P4
                obtain ⟨⟨p0, p1, p2, p3⟩, f0, f1, f2, f3⟩ := blk4 HP.out.hq
                obtain ⟨⟨d0, d1, d2, d3⟩, e0, e1, e2, e3⟩ := blk4 HP.out.hr
                have HD := Lib.hid (HP.out.done (.string ⟨#[109, 97, 107, 101, 114]⟩) (.int .u8 61) (.string T) (.int .i64 0))
                go_upto_region 10 with (fail)
                refine wp_region_noPanic ?_
                refine wp_region_L [10,9] (fun w' => w'.cell? ⟨g5, 0, none⟩ = some (.string ⟨#[109, 97, 107, 101, 114]⟩) ∧ w'.cell? ⟨g5, 1, none⟩ = some (.int .u8 61) ∧ w'.cell? ⟨g5, 2, none⟩ = some (.string T) ∧ w'.cell? ⟨g5, 3, none⟩ = some (.int .i64 0)) (by kernel_rfl) (⟨p0, p1, p2, p3⟩) (fun hHeld => ?_)
                refine take_L [0] (i := 0) (d := some 56) (v := ?_) (by kernel_rfl) (by kernel_rfl) (by kernel_rfl) (by kernel_rfl) rfl rfl (by kernel_rfl) (by kernel_rfl) (by kernel_rfl) (fun _ _ _ h => h) (Or.inl ⟨by rfl, ?_⟩) (by assumption) ?_
                rotate_left
                · (intro w hSw; (try dsimp only at hSw); go_simp; (try rw [if_neg (by omega)]); (try (with_reducible rfl)))
                simp only [Act.put, List.setIfInBounds_toArray, List.set_cons_zero, List.set_cons_succ]
                refine take_F (i := 1) (d := some 57) (v := ?_) (by kernel_rfl) (by kernel_rfl) rfl rfl (by kernel_rfl) (by kernel_rfl) (by kernel_rfl) (fun _ _ _ h => h) (Or.inl ⟨by rfl, ?_⟩) (by assumption) ?_
                rotate_left
                · (intro w hSw; (try dsimp only at hSw); go_simp; (try rw [if_neg (by omega)]); (try (with_reducible rfl)))
                simp only [Act.put, List.setIfInBounds_toArray, List.set_cons_zero, List.set_cons_succ]
                refine take_L [7,4,3,2] (i := 2) (d := some 58) (v := ?_) (by kernel_rfl) (by kernel_rfl) (by kernel_rfl) (by kernel_rfl) rfl rfl (by kernel_rfl) (by kernel_rfl) (by kernel_rfl) (fun _ _ _ h => h) (Or.inl ⟨by rfl, ?_⟩) (by assumption) ?_
                rotate_left
                · (intro w hSw; (try dsimp only at hSw); go_simp; (try rw [if_neg (by omega)]); (try (with_reducible rfl)))
                simp only [Act.put, List.setIfInBounds_toArray, List.set_cons_zero, List.set_cons_succ]
                refine take_F (i := 3) (d := some 59) (v := ?_) (by kernel_rfl) (by kernel_rfl) rfl rfl (by kernel_rfl) (by kernel_rfl) (by kernel_rfl) (fun _ _ _ h => h) (Or.inl ⟨by rfl, ?_⟩) (by assumption) ?_
                rotate_left
                · (intro w hSw; (try dsimp only at hSw); go_simp; (try rw [if_neg (by omega)]); (try (with_reducible rfl)))
                simp only [Act.put, List.setIfInBounds_toArray, List.set_cons_zero, List.set_cons_succ]
                refine take_F (i := 4) (d := some 60) (v := ?_) (by kernel_rfl) (by kernel_rfl) rfl rfl (by kernel_rfl) (by kernel_rfl) (by kernel_rfl) (fun _ _ _ h => h) (Or.inl ⟨by rfl, ?_⟩) (by assumption) ?_
                rotate_left
                · (intro w hSw; (try dsimp only at hSw); go_simp; (try rw [if_neg (by omega)]); (try (with_reducible rfl)))
                simp only [Act.put, List.setIfInBounds_toArray, List.set_cons_zero, List.set_cons_succ]
                refine take_F (i := 5) (d := some 61) (v := ?_) (by kernel_rfl) (by kernel_rfl) rfl rfl (by kernel_rfl) (by kernel_rfl) (by kernel_rfl) (fun _ _ _ h => h) (Or.inl ⟨by rfl, ?_⟩) (by assumption) ?_
                rotate_left
                · (intro w hSw; (try dsimp only at hSw); go_simp; (try rw [if_neg (by omega)]); (try (with_reducible rfl)))
                simp only [Act.put, List.setIfInBounds_toArray, List.set_cons_zero, List.set_cons_succ]
                refine take_L [7,6] (i := 6) (d := some 62) (v := ?_) (by kernel_rfl) (by kernel_rfl) (by kernel_rfl) (by kernel_rfl) rfl rfl (by kernel_rfl) (by kernel_rfl) (by kernel_rfl) (fun _ _ _ h => h) (Or.inl ⟨by rfl, ?_⟩) (by assumption) ?_
                rotate_left
                · (intro w hSw; (try dsimp only at hSw); go_simp; (try rw [if_neg (by omega)]); (try (with_reducible rfl)))
                simp only [Act.put, List.setIfInBounds_toArray, List.set_cons_zero, List.set_cons_succ]
                refine call_L (i := 7) (d := (some 63)) rfl rfl (by kernel_rfl) (fun Kq hKq => ?_)
                go_simp
                go_at_call 86
                refine (HNT.out _).mono ?_; rintro e w8 ⟨rfl, rfl⟩
                (try go_wp2_with fail)
                refine hKq.out _ _ (⟨p0, p1, p2, p3⟩) (fun hHeld => ?_)
                clear hKq Kq
                (try simp only [Act.put, List.setIfInBounds_toArray, List.set_cons_zero, List.set_cons_succ])
                refine take_F (i := 8) (d := some 64) (v := ?_) (by kernel_rfl) (by kernel_rfl) rfl rfl (by kernel_rfl) (by kernel_rfl) (by kernel_rfl) (fun _ _ _ h => h) (Or.inl ⟨by rfl, ?_⟩) (by assumption) ?_
                rotate_left
                · (intro w hSw; (try dsimp only at hSw); go_simp; (try rw [if_neg (by omega)]); (try (with_reducible rfl)))
                simp only [Act.put, List.setIfInBounds_toArray, List.set_cons_zero, List.set_cons_succ]
                refine late_L (i := 9) (d := none) (by kernel_rfl) rfl rfl (by kernel_rfl) (fun Kq hKq => ?_)
                go_simp
                refine hKq.out _ _ ?_
                clear hKq Kq
                refine late_L (i := 10) (d := (some 3)) (by kernel_rfl) rfl rfl (by kernel_rfl) (fun Kq hKq => ?_)
                go_simp
                refine hKq.out _ _ ?_
                clear hKq Kq
                refine done_L (by kernel_rfl) ?_ _
                refine NoPanic.normal ?_
                go_wp2_with fail
                obtain ⟨⟨k0, k1, k2, k3⟩, hbz⟩ := HD.out
                refine bodyPost_ret (v := .tuple #[.agg #[.string ⟨#[109, 97, 107, 101, 114]⟩, .int .u8 61, .string T, .int .i64 0], .bool true]) (by simp [results, Tryd.results70, go_sem, k0, k1, k2, k3]) rfl ?_
                first | exact RetP.yes Hpt.out ⟨rfl, rfl⟩ hbz.drew | exact RetP.yes Hpt.out ⟨rfl, rfl⟩ hbz
              | false =>
                rw [hz] at HNT
                have Hpt := Lib.hid (show parseT s = none by rw [P2 rfl, if_neg (by rw [hz]; rintro ⟨_, h⟩; cases h)])
                clear hz P1 P2 P3 P4
                obtain ⟨⟨p0, p1, p2, p3⟩, f0, f1, f2, f3⟩ := blk4 HP.out.hq
                obtain ⟨⟨d0, d1, d2, d3⟩, e0, e1, e2, e3⟩ := blk4 HP.out.hr
                have HD := Lib.hid (HP.out.done (.string ⟨#[109, 97, 107, 101, 114]⟩) (.int .u8 61) (.string T) (.int .i64 0))
                go_upto_region 10 with (fail)
                refine wp_region_noPanic ?_
                refine wp_region_L [10,9] (fun w' => w'.cell? ⟨g5, 0, none⟩ = some (.string ⟨#[109, 97, 107, 101, 114]⟩) ∧ w'.cell? ⟨g5, 1, none⟩ = some (.int .u8 61) ∧ w'.cell? ⟨g5, 2, none⟩ = some (.string T) ∧ w'.cell? ⟨g5, 3, none⟩ = some (.int .i64 0)) (by kernel_rfl) (⟨p0, p1, p2, p3⟩) (fun hHeld => ?_)
                refine take_L [0] (i := 0) (d := some 56) (v := ?_) (by kernel_rfl) (by kernel_rfl) (by kernel_rfl) (by kernel_rfl) rfl rfl (by kernel_rfl) (by kernel_rfl) (by kernel_rfl) (fun _ _ _ h => h) (Or.inl ⟨by rfl, ?_⟩) (by assumption) ?_
                rotate_left
                · (intro w hSw; (try dsimp only at hSw); go_simp; (try rw [if_neg (by omega)]); (try (with_reducible rfl)))
                simp only [Act.put, List.setIfInBounds_toArray, List.set_cons_zero, List.set_cons_succ]
                refine take_F (i := 1) (d := some 57) (v := ?_) (by kernel_rfl) (by kernel_rfl) rfl rfl (by kernel_rfl) (by kernel_rfl) (by kernel_rfl) (fun _ _ _ h => h) (Or.inl ⟨by rfl, ?_⟩) (by assumption) ?_
                rotate_left
                · (intro w hSw; (try dsimp only at hSw); go_simp; (try rw [if_neg (by omega)]); (try (with_reducible rfl)))
                simp only [Act.put, List.setIfInBounds_toArray, List.set_cons_zero, List.set_cons_succ]
                refine take_L [7,4,3,2] (i := 2) (d := some 58) (v := ?_) (by kernel_rfl) (by kernel_rfl) (by kernel_rfl) (by kernel_rfl) rfl rfl (by kernel_rfl) (by kernel_rfl) (by kernel_rfl) (fun _ _ _ h => h) (Or.inl ⟨by rfl, ?_⟩) (by assumption) ?_
                rotate_left
                · (intro w hSw; (try dsimp only at hSw); go_simp; (try rw [if_neg (by omega)]); (try (with_reducible rfl)))
                simp only [Act.put, List.setIfInBounds_toArray, List.set_cons_zero, List.set_cons_succ]
                refine take_F (i := 3) (d := some 59) (v := ?_) (by kernel_rfl) (by kernel_rfl) rfl rfl (by kernel_rfl) (by kernel_rfl) (by kernel_rfl) (fun _ _ _ h => h) (Or.inl ⟨by rfl, ?_⟩) (by assumption) ?_
                rotate_left
                · (intro w hSw; (try dsimp only at hSw); go_simp; (try rw [if_neg (by omega)]); (try (with_reducible rfl)))
                simp only [Act.put, List.setIfInBounds_toArray, List.set_cons_zero, List.set_cons_succ]
                refine take_F (i := 4) (d := some 60) (v := ?_) (by kernel_rfl) (by kernel_rfl) rfl rfl (by kernel_rfl) (by kernel_rfl) (by kernel_rfl) (fun _ _ _ h => h) (Or.inl ⟨by rfl, ?_⟩) (by assumption) ?_
                rotate_left
                · (intro w hSw; (try dsimp only at hSw); go_simp; (try rw [if_neg (by omega)]); (try (with_reducible rfl)))
                simp only [Act.put, List.setIfInBounds_toArray, List.set_cons_zero, List.set_cons_succ]
                refine take_F (i := 5) (d := some 61) (v := ?_) (by kernel_rfl) (by kernel_rfl) rfl rfl (by kernel_rfl) (by kernel_rfl) (by kernel_rfl) (fun _ _ _ h => h) (Or.inl ⟨by rfl, ?_⟩) (by assumption) ?_
                rotate_left
                · (intro w hSw; (try dsimp only at hSw); go_simp; (try rw [if_neg (by omega)]); (try (with_reducible rfl)))
                simp only [Act.put, List.setIfInBounds_toArray, List.set_cons_zero, List.set_cons_succ]
                refine take_L [7,6] (i := 6) (d := some 62) (v := ?_) (by kernel_rfl) (by kernel_rfl) (by kernel_rfl) (by kernel_rfl) rfl rfl (by kernel_rfl) (by kernel_rfl) (by kernel_rfl) (fun _ _ _ h => h) (Or.inl ⟨by rfl, ?_⟩) (by assumption) ?_
                rotate_left
                · (intro w hSw; (try dsimp only at hSw); go_simp; (try rw [if_neg (by omega)]); (try (with_reducible rfl)))
                simp only [Act.put, List.setIfInBounds_toArray, List.set_cons_zero, List.set_cons_succ]
                refine call_L (i := 7) (d := (some 63)) rfl rfl (by kernel_rfl) (fun Kq hKq => ?_)
                go_simp
                go_at_call 86
                refine (HNT.out _).mono ?_; rintro e w8 ⟨rfl, rfl⟩
                (try go_wp2_with fail)
                refine hKq.out _ _ (⟨p0, p1, p2, p3⟩) (fun hHeld => ?_)
                clear hKq Kq
                (try simp only [Act.put, List.setIfInBounds_toArray, List.set_cons_zero, List.set_cons_succ])
                refine take_F (i := 8) (d := some 64) (v := ?_) (by kernel_rfl) (by kernel_rfl) rfl rfl (by kernel_rfl) (by kernel_rfl) (by kernel_rfl) (fun _ _ _ h => h) (Or.inl ⟨by rfl, ?_⟩) (by assumption) ?_
                rotate_left
                · (intro w hSw; (try dsimp only at hSw); go_simp; (try rw [if_neg (by omega)]); (try (with_reducible rfl)))
                simp only [Act.put, List.setIfInBounds_toArray, List.set_cons_zero, List.set_cons_succ]
                refine late_L (i := 9) (d := none) (by kernel_rfl) rfl rfl (by kernel_rfl) (fun Kq hKq => ?_)
                go_simp
                refine hKq.out _ _ ?_
                clear hKq Kq
                refine late_L (i := 10) (d := (some 3)) (by kernel_rfl) rfl rfl (by kernel_rfl) (fun Kq hKq => ?_)
                go_simp
                refine hKq.out _ _ ?_
                clear hKq Kq
                refine done_L (by kernel_rfl) ?_ _
                refine NoPanic.normal ?_
                go_wp2_with fail
                obtain ⟨⟨k0, k1, k2, k3⟩, hbz⟩ := HD.out
                refine bodyPost_ret (v := .tuple #[.agg #[.string ⟨#[109, 97, 107, 101, 114]⟩, .int .u8 61, .string T, .int .i64 0], .bool false]) (by simp [results, Tryd.results70, go_sem, k0, k1, k2, k3]) rfl ?_
                first | exact RetP.no Hpt.out hbz.drew | exact RetP.no Hpt.out hbz
            · have n2 := ne_lit (l := [109, 97, 107, 101, 114]) h2 rfl
              by_cases h3 : F = yearW
              · clear h1 n1 h2 n2
                obtain rfl : F = ⟨#[121, 101, 97, 114]⟩ := h3
                obtain ⟨⟨p0, p1, p2, p3⟩, _⟩ := blk4 HP.out.hq
                have HPY := Lib.hid (show parseT s = yearS 61 T from P3 rfl)
                clear P1 P2 P3 P4
                unfold yearS at HPY
                cases hr : readN T with
                | none =>
                  rw [hr] at HRT HPY
                  simp only [Option.getD_none, Option.isSome_none] at HRT
                  dsimp only at HPY
                  go_wp2_with fail
                  refine (HRT.out _).mono ?_; rintro e w7 ⟨rfl, hb7⟩
                  have HP1 := Lib.hid (HP.out.next hb7)
                  obtain ⟨⟨q0, q1, q2, q3⟩, f0, f1, f2, f3⟩ := blk4 HP1.out.hq
                  have HP2 := Lib.hid (HP1.out.setY 0)
                  clear hb7 p0 p1 p2 p3 HRT
                  go_upto_region 14 with (fail)
                  generalize w7.setCell ⟨g5, 3, none⟩ (.int .i64 0) = w8 at *
                  clear q0 q1 q2 q3 f0 f1 f2 f3 HP1 HP
                  obtain ⟨⟨p0, p1, p2, p3⟩, f0, f1, f2, f3⟩ := blk4 HP2.out.hq
                  obtain ⟨⟨d0, d1, d2, d3⟩, e0, e1, e2, e3⟩ := blk4 HP2.out.hr
                  have HD := Lib.hid (HP2.out.done (.string ⟨#[121, 101, 97, 114]⟩) (.int .u8 61) (.string T) (.int .i64 0))
                  refine wp_region_noPanic ?_
                  refine wp_region_L [7,6] (fun w' => w'.cell? ⟨g5, 0, none⟩ = some (.string ⟨#[121, 101, 97, 114]⟩) ∧ w'.cell? ⟨g5, 1, none⟩ = some (.int .u8 61) ∧ w'.cell? ⟨g5, 2, none⟩ = some (.string T) ∧ w'.cell? ⟨g5, 3, none⟩ = some (.int .i64 0)) (by kernel_rfl) (⟨p0, p1, p2, p3⟩) (fun hHeld => ?_)
                  refine take_L [0] (i := 0) (d := some 75) (v := ?_) (by kernel_rfl) (by kernel_rfl) (by kernel_rfl) (by kernel_rfl) rfl rfl (by kernel_rfl) (by kernel_rfl) (by kernel_rfl) (fun _ _ _ h => h) (Or.inl ⟨by rfl, ?_⟩) (by assumption) ?_
                  rotate_left
                  · (intro w hSw; (try dsimp only at hSw); go_simp; (try rw [if_neg (by omega)]); (try (with_reducible rfl)))
                  simp only [Act.put, List.setIfInBounds_toArray, List.set_cons_zero, List.set_cons_succ]
                  refine take_F (i := 1) (d := some 76) (v := ?_) (by kernel_rfl) (by kernel_rfl) rfl rfl (by kernel_rfl) (by kernel_rfl) (by kernel_rfl) (fun _ _ _ h => h) (Or.inl ⟨by rfl, ?_⟩) (by assumption) ?_
                  rotate_left
                  · (intro w hSw; (try dsimp only at hSw); go_simp; (try rw [if_neg (by omega)]); (try (with_reducible rfl)))
                  simp only [Act.put, List.setIfInBounds_toArray, List.set_cons_zero, List.set_cons_succ]
                  refine take_F (i := 2) (d := some 77) (v := ?_) (by kernel_rfl) (by kernel_rfl) rfl rfl (by kernel_rfl) (by kernel_rfl) (by kernel_rfl) (fun _ _ _ h => h) (Or.inl ⟨by rfl, ?_⟩) (by assumption) ?_
                  rotate_left
                  · (intro w hSw; (try dsimp only at hSw); go_simp; (try rw [if_neg (by omega)]); (try (with_reducible rfl)))
                  simp only [Act.put, List.setIfInBounds_toArray, List.set_cons_zero, List.set_cons_succ]
                  refine take_F (i := 3) (d := some 78) (v := undef) (by kernel_rfl) (by kernel_rfl) rfl rfl (by kernel_rfl) (by kernel_rfl) (by kernel_rfl) (fun _ _ _ h => h) (Or.inr ⟨by rfl, rfl⟩) (by assumption) ?_
                  simp only [Act.put, List.setIfInBounds_toArray, List.set_cons_zero, List.set_cons_succ]
                  refine take_F (i := 4) (d := some 79) (v := undef) (by kernel_rfl) (by kernel_rfl) rfl rfl (by kernel_rfl) (by kernel_rfl) (by kernel_rfl) (fun _ _ _ h => h) (Or.inr ⟨by rfl, rfl⟩) (by assumption) ?_
                  simp only [Act.put, List.setIfInBounds_toArray, List.set_cons_zero, List.set_cons_succ]
                  refine take_F (i := 5) (d := some 80) (v := ?_) (by kernel_rfl) (by kernel_rfl) rfl rfl (by kernel_rfl) (by kernel_rfl) (by kernel_rfl) (fun _ _ _ h => h) (Or.inl ⟨by rfl, ?_⟩) (by assumption) ?_
                  rotate_left
                  · (intro w hSw; (try dsimp only at hSw); go_simp; (try rw [if_neg (by omega)]); (try (with_reducible rfl)))
                  simp only [Act.put, List.setIfInBounds_toArray, List.set_cons_zero, List.set_cons_succ]
                  refine late_L (i := 6) (d := none) (by kernel_rfl) rfl rfl (by kernel_rfl) (fun Kq hKq => ?_)
                  go_simp
                  refine hKq.out _ _ ?_
                  clear hKq Kq
                  refine late_L (i := 7) (d := (some 3)) (by kernel_rfl) rfl rfl (by kernel_rfl) (fun Kq hKq => ?_)
                  go_simp
                  refine hKq.out _ _ ?_
                  clear hKq Kq
                  refine done_L (by kernel_rfl) ?_ _
                  refine NoPanic.normal ?_
                  go_wp2_with fail
                  obtain ⟨⟨k0, k1, k2, k3⟩, hbz⟩ := HD.out
                  refine bodyPost_ret (v := .tuple #[.agg #[.string ⟨#[121, 101, 97, 114]⟩, .int .u8 61, .string T, .int .i64 0], .bool false]) (by simp [results, Tryd.results70, go_sem, k0, k1, k2, k3]) rfl ?_
                  first | exact RetP.no HPY.out hbz.drew | exact RetP.no HPY.out hbz
                | some y =>
                  rw [hr] at HRT HPY
                  simp only [Option.getD_some, Option.isSome_some] at HRT
                  dsimp only at HPY
                  have HIy := Lib.hid (HI.out y)
                  cases hi : inB y 0 10000 with
                  | true =>
                    rw [hi] at HIy
                    rw [hi, if_pos rfl] at HPY
                    clear hi hr
                    go_wp2_with fail
                    refine (HRT.out _).mono ?_; rintro e w7 ⟨rfl, hb7⟩
                    have HP1 := Lib.hid (HP.out.next hb7)
                    obtain ⟨⟨q0, q1, q2, q3⟩, f0, f1, f2, f3⟩ := blk4 HP1.out.hq
                    have HP2 := Lib.hid (HP1.out.setY y)
                    clear hb7 p0 p1 p2 p3 HRT
                    go_upto_region 14 with (fail)
                    generalize w7.setCell ⟨g5, 3, none⟩ (.int .i64 y) = w8 at *
                    clear q0 q1 q2 q3 f0 f1 f2 f3 HP1 HP
                    obtain ⟨⟨p0, p1, p2, p3⟩, f0, f1, f2, f3⟩ := blk4 HP2.out.hq
                    obtain ⟨⟨d0, d1, d2, d3⟩, e0, e1, e2, e3⟩ := blk4 HP2.out.hr
                    have HD := Lib.hid (HP2.out.done (.string ⟨#[121, 101, 97, 114]⟩) (.int .u8 61) (.string T) (.int .i64 y))
                    refine wp_region_noPanic ?_
                    refine wp_region_L [7,6] (fun w' => w'.cell? ⟨g5, 0, none⟩ = some (.string ⟨#[121, 101, 97, 114]⟩) ∧ w'.cell? ⟨g5, 1, none⟩ = some (.int .u8 61) ∧ w'.cell? ⟨g5, 2, none⟩ = some (.string T) ∧ w'.cell? ⟨g5, 3, none⟩ = some (.int .i64 y)) (by kernel_rfl) (⟨p0, p1, p2, p3⟩) (fun hHeld => ?_)
                    refine take_L [0] (i := 0) (d := some 75) (v := ?_) (by kernel_rfl) (by kernel_rfl) (by kernel_rfl) (by kernel_rfl) rfl rfl (by kernel_rfl) (by kernel_rfl) (by kernel_rfl) (fun _ _ _ h => h) (Or.inl ⟨by rfl, ?_⟩) (by assumption) ?_
                    rotate_left
                    · (intro w hSw; (try dsimp only at hSw); go_simp; (try rw [if_neg (by omega)]); (try (with_reducible rfl)))
                    simp only [Act.put, List.setIfInBounds_toArray, List.set_cons_zero, List.set_cons_succ]
                    refine take_F (i := 1) (d := some 76) (v := ?_) (by kernel_rfl) (by kernel_rfl) rfl rfl (by kernel_rfl) (by kernel_rfl) (by kernel_rfl) (fun _ _ _ h => h) (Or.inl ⟨by rfl, ?_⟩) (by assumption) ?_
                    rotate_left
                    · (intro w hSw; (try dsimp only at hSw); go_simp; (try rw [if_neg (by omega)]); (try (with_reducible rfl)))
                    simp only [Act.put, List.setIfInBounds_toArray, List.set_cons_zero, List.set_cons_succ]
                    refine take_F (i := 2) (d := some 77) (v := ?_) (by kernel_rfl) (by kernel_rfl) rfl rfl (by kernel_rfl) (by kernel_rfl) (by kernel_rfl) (fun _ _ _ h => h) (Or.inl ⟨by rfl, ?_⟩) (by assumption) ?_
                    rotate_left
                    · (intro w hSw; (try dsimp only at hSw); go_simp; (try rw [if_neg (by omega)]); (try (with_reducible rfl)))
                    simp only [Act.put, List.setIfInBounds_toArray, List.set_cons_zero, List.set_cons_succ]
                    refine take_F (i := 3) (d := some 78) (v := ?_) (by kernel_rfl) (by kernel_rfl) rfl rfl (by kernel_rfl) (by kernel_rfl) (by kernel_rfl) (fun _ _ _ h => h) (Or.inl ⟨by rfl, ?_⟩) (by assumption) ?_
                    rotate_left
                    · (intro w hSw; (try dsimp only at hSw); go_simp; (try rw [if_neg (by omega)]); (try (with_reducible rfl)))
                    simp only [Act.put, List.setIfInBounds_toArray, List.set_cons_zero, List.set_cons_succ]
                    refine call_L (i := 4) (d := (some 79)) rfl rfl (by kernel_rfl) (fun Kq hKq => ?_)
                    go_simp
                    go_at_call 96
                    refine (HIy.out _).mono ?_; rintro e w9 ⟨rfl, rfl⟩
                    (try go_wp2_with fail)
                    refine hKq.out _ _ (⟨p0, p1, p2, p3⟩) (fun hHeld => ?_)
                    clear hKq Kq
                    (try simp only [Act.put, List.setIfInBounds_toArray, List.set_cons_zero, List.set_cons_succ])
                    refine take_F (i := 5) (d := some 80) (v := ?_) (by kernel_rfl) (by kernel_rfl) rfl rfl (by kernel_rfl) (by kernel_rfl) (by kernel_rfl) (fun _ _ _ h => h) (Or.inl ⟨by rfl, ?_⟩) (by assumption) ?_
                    rotate_left
                    · (intro w hSw; (try dsimp only at hSw); go_simp; (try rw [if_neg (by omega)]); (try (with_reducible rfl)))
                    simp only [Act.put, List.setIfInBounds_toArray, List.set_cons_zero, List.set_cons_succ]
                    refine late_L (i := 6) (d := none) (by kernel_rfl) rfl rfl (by kernel_rfl) (fun Kq hKq => ?_)
                    go_simp
                    refine hKq.out _ _ ?_
                    clear hKq Kq
                    refine late_L (i := 7) (d := (some 3)) (by kernel_rfl) rfl rfl (by kernel_rfl) (fun Kq hKq => ?_)
                    go_simp
                    refine hKq.out _ _ ?_
                    clear hKq Kq
                    refine done_L (by kernel_rfl) ?_ _
                    refine NoPanic.normal ?_
                    go_wp2_with fail
                    obtain ⟨⟨k0, k1, k2, k3⟩, hbz⟩ := HD.out
                    refine bodyPost_ret (v := .tuple #[.agg #[.string ⟨#[121, 101, 97, 114]⟩, .int .u8 61, .string T, .int .i64 y], .bool true]) (by simp [results, Tryd.results70, go_sem, k0, k1, k2, k3]) rfl ?_
                    first | exact RetP.yes HPY.out ⟨rfl, rfl, rfl, .inl rfl⟩ hbz.drew | exact RetP.yes HPY.out ⟨rfl, rfl, rfl, .inl rfl⟩ hbz
                  | false =>
                    rw [hi] at HIy
                    rw [hi, if_neg (by decide)] at HPY
                    clear hi hr
                    go_wp2_with fail
                    refine (HRT.out _).mono ?_; rintro e w7 ⟨rfl, hb7⟩
                    have HP1 := Lib.hid (HP.out.next hb7)
                    obtain ⟨⟨q0, q1, q2, q3⟩, f0, f1, f2, f3⟩ := blk4 HP1.out.hq
                    have HP2 := Lib.hid (HP1.out.setY y)
                    clear hb7 p0 p1 p2 p3 HRT
                    go_upto_region 14 with (fail)
                    generalize w7.setCell ⟨g5, 3, none⟩ (.int .i64 y) = w8 at *
                    clear q0 q1 q2 q3 f0 f1 f2 f3 HP1 HP
                    obtain ⟨⟨p0, p1, p2, p3⟩, f0, f1, f2, f3⟩ := blk4 HP2.out.hq
                    obtain ⟨⟨d0, d1, d2, d3⟩, e0, e1, e2, e3⟩ := blk4 HP2.out.hr
                    have HD := Lib.hid (HP2.out.done (.string ⟨#[121, 101, 97, 114]⟩) (.int .u8 61) (.string T) (.int .i64 y))
                    refine wp_region_noPanic ?_
                    refine wp_region_L [7,6] (fun w' => w'.cell? ⟨g5, 0, none⟩ = some (.string ⟨#[121, 101, 97, 114]⟩) ∧ w'.cell? ⟨g5, 1, none⟩ = some (.int .u8 61) ∧ w'.cell? ⟨g5, 2, none⟩ = some (.string T) ∧ w'.cell? ⟨g5, 3, none⟩ = some (.int .i64 y)) (by kernel_rfl) (⟨p0, p1, p2, p3⟩) (fun hHeld => ?_)
                    refine take_L [0] (i := 0) (d := some 75) (v := ?_) (by kernel_rfl) (by kernel_rfl) (by kernel_rfl) (by kernel_rfl) rfl rfl (by kernel_rfl) (by kernel_rfl) (by kernel_rfl) (fun _ _ _ h => h) (Or.inl ⟨by rfl, ?_⟩) (by assumption) ?_
                    rotate_left
                    · (intro w hSw; (try dsimp only at hSw); go_simp; (try rw [if_neg (by omega)]); (try (with_reducible rfl)))
                    simp only [Act.put, List.setIfInBounds_toArray, List.set_cons_zero, List.set_cons_succ]
                    refine take_F (i := 1) (d := some 76) (v := ?_) (by kernel_rfl) (by kernel_rfl) rfl rfl (by kernel_rfl) (by kernel_rfl) (by kernel_rfl) (fun _ _ _ h => h) (Or.inl ⟨by rfl, ?_⟩) (by assumption) ?_
                    rotate_left
                    · (intro w hSw; (try dsimp only at hSw); go_simp; (try rw [if_neg (by omega)]); (try (with_reducible rfl)))
                    simp only [Act.put, List.setIfInBounds_toArray, List.set_cons_zero, List.set_cons_succ]
                    refine take_F (i := 2) (d := some 77) (v := ?_) (by kernel_rfl) (by kernel_rfl) rfl rfl (by kernel_rfl) (by kernel_rfl) (by kernel_rfl) (fun _ _ _ h => h) (Or.inl ⟨by rfl, ?_⟩) (by assumption) ?_
                    rotate_left
                    · (intro w hSw; (try dsimp only at hSw); go_simp; (try rw [if_neg (by omega)]); (try (with_reducible rfl)))
                    simp only [Act.put, List.setIfInBounds_toArray, List.set_cons_zero, List.set_cons_succ]
                    refine take_F (i := 3) (d := some 78) (v := ?_) (by kernel_rfl) (by kernel_rfl) rfl rfl (by kernel_rfl) (by kernel_rfl) (by kernel_rfl) (fun _ _ _ h => h) (Or.inl ⟨by rfl, ?_⟩) (by assumption) ?_
                    rotate_left
                    · (intro w hSw; (try dsimp only at hSw); go_simp; (try rw [if_neg (by omega)]); (try (with_reducible rfl)))
                    simp only [Act.put, List.setIfInBounds_toArray, List.set_cons_zero, List.set_cons_succ]
                    refine call_L (i := 4) (d := (some 79)) rfl rfl (by kernel_rfl) (fun Kq hKq => ?_)
                    go_simp
                    go_at_call 96
                    refine (HIy.out _).mono ?_; rintro e w9 ⟨rfl, rfl⟩
                    (try go_wp2_with fail)
                    refine hKq.out _ _ (⟨p0, p1, p2, p3⟩) (fun hHeld => ?_)
                    clear hKq Kq
                    (try simp only [Act.put, List.setIfInBounds_toArray, List.set_cons_zero, List.set_cons_succ])
                    refine take_F (i := 5) (d := some 80) (v := ?_) (by kernel_rfl) (by kernel_rfl) rfl rfl (by kernel_rfl) (by kernel_rfl) (by kernel_rfl) (fun _ _ _ h => h) (Or.inl ⟨by rfl, ?_⟩) (by assumption) ?_
                    rotate_left
                    · (intro w hSw; (try dsimp only at hSw); go_simp; (try rw [if_neg (by omega)]); (try (with_reducible rfl)))
                    simp only [Act.put, List.setIfInBounds_toArray, List.set_cons_zero, List.set_cons_succ]
                    refine late_L (i := 6) (d := none) (by kernel_rfl) rfl rfl (by kernel_rfl) (fun Kq hKq => ?_)
                    go_simp
                    refine hKq.out _ _ ?_
                    clear hKq Kq
                    refine late_L (i := 7) (d := (some 3)) (by kernel_rfl) rfl rfl (by kernel_rfl) (fun Kq hKq => ?_)
                    go_simp
                    refine hKq.out _ _ ?_
                    clear hKq Kq
                    refine done_L (by kernel_rfl) ?_ _
                    refine NoPanic.normal ?_
                    go_wp2_with fail
                    obtain ⟨⟨k0, k1, k2, k3⟩, hbz⟩ := HD.out
                    refine bodyPost_ret (v := .tuple #[.agg #[.string ⟨#[121, 101, 97, 114]⟩, .int .u8 61, .string T, .int .i64 y], .bool false]) (by simp [results, Tryd.results70, go_sem, k0, k1, k2, k3]) rfl ?_
                    first | exact RetP.no HPY.out hbz.drew | exact RetP.no HPY.out hbz
              · have n3 := ne_lit (l := [121, 101, 97, 114]) h3 rfl
                have Hpt := Lib.hid (P4 h1 h2 h3)
                clear P1 P2 P3 P4 h1 h2 h3
                obtain ⟨⟨p0, p1, p2, p3⟩, f0, f1, f2, f3⟩ := blk4 HP.out.hq
                obtain ⟨⟨d0, d1, d2, d3⟩, e0, e1, e2, e3⟩ := blk4 HP.out.hr
                have HD := Lib.hid (HP.out.done (.string F) (.int .u8 61) (.string T) (.int .i64 0))
                go_wp2_with fail
                obtain ⟨⟨k0, k1, k2, k3⟩, hbz⟩ := HD.out
                refine bodyPost_ret (v := .tuple #[.agg #[.string F, .int .u8 61, .string T, .int .i64 0], .bool false]) (by simp [results, Tryd.results70, go_sem, k0, k1, k2, k3]) rfl ?_
                first | exact RetP.no Hpt.out hbz.drew | exact RetP.no Hpt.out hbz
        · have hb : ((s[k].toNat : Int) == 60) = true := by rw [hc]; rfl
          have q61 : ((s[k].toNat : Int) != 61) = true := by rw [hc]; rfl
          have q60 : ((s[k].toNat : Int) != 60) = false := by rw [hc]; rfl
          have q62 : ((s[k].toNat : Int) != 62) = true := by rw [hc]; rfl
          have hcz : (s[k].toNat : Int) = 60 := by rw [hc]; rfl
          rw [hc] at Hp
          have hsz : ((k : Int) == (s.size : Int)) = false := by rw [beq_eq_false_iff_ne]; omega
          go_upto_region 6 with (fail)
          refine wp_region_noPanic ?_
          refine wp_region_L [12] (fun _ => True) (by kernel_rfl) (trivial) (fun hHeld => ?_)
          refine take_F (i := 0) (d := some 40) (v := ?_) (by kernel_rfl) (by kernel_rfl) rfl rfl (by kernel_rfl) (by kernel_rfl) (by kernel_rfl) (fun _ _ _ h => h) (Or.inl ⟨by rfl, ?_⟩) (by assumption) ?_
          rotate_left
          · (intro w hSw; (try dsimp only at hSw); go_simp; (try rw [if_neg (by omega)]); (try (with_reducible rfl)))
          simp only [Act.put, List.setIfInBounds_toArray, List.set_cons_zero, List.set_cons_succ]
          refine take_F (i := 1) (d := some 41) (v := ?_) (by kernel_rfl) (by kernel_rfl) rfl rfl (by kernel_rfl) (by kernel_rfl) (by kernel_rfl) (fun _ _ _ h => h) (Or.inl ⟨by rfl, ?_⟩) (by assumption) ?_
          rotate_left
          · (intro w hSw; (try dsimp only at hSw); go_simp; (try rw [if_neg (by omega)]); (try (with_reducible rfl)))
          simp only [Act.put, List.setIfInBounds_toArray, List.set_cons_zero, List.set_cons_succ]
          refine take_F (i := 2) (d := some 42) (v := ?_) (by kernel_rfl) (by kernel_rfl) rfl rfl (by kernel_rfl) (by kernel_rfl) (by kernel_rfl) (fun _ _ _ h => h) (Or.inl ⟨by rfl, ?_⟩) (by assumption) ?_
          rotate_left
          · (intro w hSw; (try dsimp only at hSw); go_simp; (try rw [if_neg (by omega)]); (try (with_reducible rfl)))
          simp only [Act.put, List.setIfInBounds_toArray, List.set_cons_zero, List.set_cons_succ]
          refine take_F (i := 3) (d := some 43) (v := ?_) (by kernel_rfl) (by kernel_rfl) rfl rfl (by kernel_rfl) (by kernel_rfl) (by kernel_rfl) (fun _ _ _ h => h) (Or.inl ⟨by rfl, ?_⟩) (by assumption) ?_
          rotate_left
          · (intro w hSw; (try dsimp only at hSw); go_simp; (try rw [if_neg (by omega)]); (try (with_reducible rfl)))
          simp only [Act.put, List.setIfInBounds_toArray, List.set_cons_zero, List.set_cons_succ]
          refine take_F (i := 4) (d := some 44) (v := ?_) (by kernel_rfl) (by kernel_rfl) rfl rfl (by kernel_rfl) (by kernel_rfl) (by kernel_rfl) (fun _ _ _ h => h) (Or.inl ⟨by rfl, ?_⟩) (by assumption) ?_
          rotate_left
          · (intro w hSw; (try dsimp only at hSw); go_simp; (try rw [if_neg (by omega)]); (try (with_reducible rfl)))
          simp only [Act.put, List.setIfInBounds_toArray, List.set_cons_zero, List.set_cons_succ]
          refine take_F (i := 5) (d := some 45) (v := ?_) (by kernel_rfl) (by kernel_rfl) rfl rfl (by kernel_rfl) (by kernel_rfl) (by kernel_rfl) (fun _ _ _ h => h) (Or.inl ⟨by rfl, ?_⟩) (by assumption) ?_
          rotate_left
          · (intro w hSw; (try dsimp only at hSw); go_simp; (try rw [if_neg (by omega)]); (try (with_reducible rfl)))
          simp only [Act.put, List.setIfInBounds_toArray, List.set_cons_zero, List.set_cons_succ]
          refine take_F (i := 6) (d := some 46) (v := ?_) (by kernel_rfl) (by kernel_rfl) rfl rfl (by kernel_rfl) (by kernel_rfl) (by kernel_rfl) (fun _ _ _ h => h) (Or.inl ⟨by rfl, ?_⟩) (by assumption) ?_
          rotate_left
          · (intro w hSw; (try dsimp only at hSw); go_simp; (try rw [if_neg (by omega)]); (try (with_reducible rfl)))
          simp only [Act.put, List.setIfInBounds_toArray, List.set_cons_zero, List.set_cons_succ]
          refine take_F (i := 7) (d := some 47) (v := ?_) (by kernel_rfl) (by kernel_rfl) rfl rfl (by kernel_rfl) (by kernel_rfl) (by kernel_rfl) (fun _ _ _ h => h) (Or.inl ⟨by rfl, ?_⟩) (by assumption) ?_
          rotate_left
          · (intro w hSw; (try dsimp only at hSw); go_simp; (try rw [if_neg (by omega)]); (try (with_reducible rfl)))
          simp only [Act.put, List.setIfInBounds_toArray, List.set_cons_zero, List.set_cons_succ]
          refine take_F (i := 8) (d := some 48) (v := ?_) (by kernel_rfl) (by kernel_rfl) rfl rfl (by kernel_rfl) (by kernel_rfl) (by kernel_rfl) (fun _ _ _ h => h) (Or.inl ⟨by rfl, ?_⟩) (by assumption) ?_
          rotate_left
          · (intro w hSw; (try dsimp only at hSw); go_simp; (try rw [if_neg (by omega)]); (try (with_reducible rfl)))
          simp only [Act.put, List.setIfInBounds_toArray, List.set_cons_zero, List.set_cons_succ]
          refine take_F (i := 9) (d := some 49) (v := ?_) (by kernel_rfl) (by kernel_rfl) rfl rfl (by kernel_rfl) (by kernel_rfl) (by kernel_rfl) (fun _ _ _ h => h) (Or.inl ⟨by rfl, ?_⟩) (by assumption) ?_
          rotate_left
          · (intro w hSw; (try dsimp only at hSw); go_simp; (try rw [if_neg (by omega)]); (try (with_reducible rfl)))
          simp only [Act.put, List.setIfInBounds_toArray, List.set_cons_zero, List.set_cons_succ]
          refine take_F (i := 10) (d := some 50) (v := ?_) (by kernel_rfl) (by kernel_rfl) rfl rfl (by kernel_rfl) (by kernel_rfl) (by kernel_rfl) (fun _ _ _ h => h) (Or.inl ⟨by rfl, ?_⟩) (by assumption) ?_
          rotate_left
          · (intro w hSw; (try dsimp only at hSw); go_simp; (try rw [if_neg (by omega)]); (try (with_reducible rfl)))
          simp only [Act.put, List.setIfInBounds_toArray, List.set_cons_zero, List.set_cons_succ]
          refine call_L (i := 11) (d := (some 5)) rfl rfl (by kernel_rfl) (fun Kq hKq => ?_)
          go_simp
          refine hKq.out _ _ (trivial) (fun hHeld => ?_)
          clear hKq Kq
          (try simp only [Act.put, List.setIfInBounds_toArray, List.set_cons_zero, List.set_cons_succ])
          refine late_L (i := 12) (d := none) (by kernel_rfl) rfl rfl (by kernel_rfl) (fun Kq hKq => ?_)
          go_simp
          refine hKq.out _ _ ?_
          clear hKq Kq
          refine done_L (by kernel_rfl) ?_ _
          refine NoPanic.normal ?_
          have HP := Lib.hid (PsL.made (F := s.extract 0 k) (T := s.extract (k + 1) s.size) (c := 60) (y := 0) HQ1.out HB1.out)
          have HNT := Lib.hid (fun wx => HN.out (s.extract (k + 1) s.size) wx (Nat.le_trans hTz hs))
          have HRT := Lib.hid (fun wx => HR.out (s.extract (k + 1) s.size) wx (Nat.le_trans hTz (by omega)))
          obtain ⟨P1, P2, P3, P4⟩ := Hp.out
          generalize wr.heap.size = g5 at *
          generalize (wr.alloc (.cells #[.string (s.extract 0 k), .int .u8 60, .string (s.extract (k + 1) s.size), .int .i64 0] 94)).drew = w6 at *
          clear Hp HQ1 HB1 HN HR hTz hb q61 q60 q62 hcz hc hsz
          generalize s.extract 0 k = F at *
          generalize s.extract (k + 1) s.size = T at *
          clear hx0 hx1 hwk hlt'
          by_cases h1 : F = nameW
          · obtain rfl : F = ⟨#[110, 97, 109, 101]⟩ := h1
            have Hpt := Lib.hid (show parseT s = none by rw [P1 rfl, if_neg (by rintro ⟨h, _⟩; exact absurd h (by decide))])
            clear P1 P2 P3 P4
            obtain ⟨⟨p0, p1, p2, p3⟩, f0, f1, f2, f3⟩ := blk4 HP.out.hq
            obtain ⟨⟨d0, d1, d2, d3⟩, e0, e1, e2, e3⟩ := blk4 HP.out.hr
            have HD := Lib.hid (HP.out.done (.string ⟨#[110, 97, 109, 101]⟩) (.int .u8 60) (.string T) (.int .i64 0))
            go_upto_region 10 with (fail)
            refine wp_region_noPanic ?_
            refine wp_region_L [10,9] (fun w' => w'.cell? ⟨g5, 0, none⟩ = some (.string ⟨#[110, 97, 109, 101]⟩) ∧ w'.cell? ⟨g5, 1, none⟩ = some (.int .u8 60) ∧ w'.cell? ⟨g5, 2, none⟩ = some (.string T) ∧ w'.cell? ⟨g5, 3, none⟩ = some (.int .i64 0)) (by kernel_rfl) (⟨p0, p1, p2, p3⟩) (fun hHeld => ?_)
            refine take_L [0] (i := 0) (d := some 56) (v := ?_) (by kernel_rfl) (by kernel_rfl) (by kernel_rfl) (by kernel_rfl) rfl rfl (by kernel_rfl) (by kernel_rfl) (by kernel_rfl) (fun _ _ _ h => h) (Or.inl ⟨by rfl, ?_⟩) (by assumption) ?_
            rotate_left
            · (intro w hSw; (try dsimp only at hSw); go_simp; (try rw [if_neg (by omega)]); (try (with_reducible rfl)))
            simp only [Act.put, List.setIfInBounds_toArray, List.set_cons_zero, List.set_cons_succ]
            refine take_F (i := 1) (d := some 57) (v := ?_) (by kernel_rfl) (by kernel_rfl) rfl rfl (by kernel_rfl) (by kernel_rfl) (by kernel_rfl) (fun _ _ _ h => h) (Or.inl ⟨by rfl, ?_⟩) (by assumption) ?_
            rotate_left
            · (intro w hSw; (try dsimp only at hSw); go_simp; (try rw [if_neg (by omega)]); (try (with_reducible rfl)))
            simp only [Act.put, List.setIfInBounds_toArray, List.set_cons_zero, List.set_cons_succ]
            refine take_L [7,4,3,2] (i := 2) (d := some 58) (v := ?_) (by kernel_rfl) (by kernel_rfl) (by kernel_rfl) (by kernel_rfl) rfl rfl (by kernel_rfl) (by kernel_rfl) (by kernel_rfl) (fun _ _ _ h => h) (Or.inl ⟨by rfl, ?_⟩) (by assumption) ?_
            rotate_left
            · (intro w hSw; (try dsimp only at hSw); go_simp; (try rw [if_neg (by omega)]); (try (with_reducible rfl)))
            simp only [Act.put, List.setIfInBounds_toArray, List.set_cons_zero, List.set_cons_succ]
            refine take_F (i := 3) (d := some 59) (v := ?_) (by kernel_rfl) (by kernel_rfl) rfl rfl (by kernel_rfl) (by kernel_rfl) (by kernel_rfl) (fun _ _ _ h => h) (Or.inl ⟨by rfl, ?_⟩) (by assumption) ?_
            rotate_left
            · (intro w hSw; (try dsimp only at hSw); go_simp; (try rw [if_neg (by omega)]); (try (with_reducible rfl)))
            simp only [Act.put, List.setIfInBounds_toArray, List.set_cons_zero, List.set_cons_succ]
            refine take_F (i := 4) (d := some 60) (v := ?_) (by kernel_rfl) (by kernel_rfl) rfl rfl (by kernel_rfl) (by kernel_rfl) (by kernel_rfl) (fun _ _ _ h => h) (Or.inl ⟨by rfl, ?_⟩) (by assumption) ?_
            rotate_left
            · (intro w hSw; (try dsimp only at hSw); go_simp; (try rw [if_neg (by omega)]); (try (with_reducible rfl)))
            simp only [Act.put, List.setIfInBounds_toArray, List.set_cons_zero, List.set_cons_succ]
            refine take_F (i := 5) (d := some 61) (v := undef) (by kernel_rfl) (by kernel_rfl) rfl rfl (by kernel_rfl) (by kernel_rfl) (by kernel_rfl) (fun _ _ _ h => h) (Or.inr ⟨by rfl, rfl⟩) (by assumption) ?_
            simp only [Act.put, List.setIfInBounds_toArray, List.set_cons_zero, List.set_cons_succ]
            refine take_F (i := 6) (d := some 62) (v := undef) (by kernel_rfl) (by kernel_rfl) rfl rfl (by kernel_rfl) (by kernel_rfl) (by kernel_rfl) (fun _ _ _ h => h) (Or.inr ⟨by rfl, rfl⟩) (by assumption) ?_
            simp only [Act.put, List.setIfInBounds_toArray, List.set_cons_zero, List.set_cons_succ]
            refine take_F (i := 7) (d := some 63) (v := undef) (by kernel_rfl) (by kernel_rfl) rfl rfl (by kernel_rfl) (by kernel_rfl) (by kernel_rfl) (fun _ _ _ h => h) (Or.inr ⟨by rfl, rfl⟩) (by assumption) ?_
            simp only [Act.put, List.setIfInBounds_toArray, List.set_cons_zero, List.set_cons_succ]
            refine take_F (i := 8) (d := some 64) (v := ?_) (by kernel_rfl) (by kernel_rfl) rfl rfl (by kernel_rfl) (by kernel_rfl) (by kernel_rfl) (fun _ _ _ h => h) (Or.inl ⟨by rfl, ?_⟩) (by assumption) ?_
            rotate_left
            · (intro w hSw; (try dsimp only at hSw); go_simp; (try rw [if_neg (by omega)]); (try (with_reducible rfl)))
            simp only [Act.put, List.setIfInBounds_toArray, List.set_cons_zero, List.set_cons_succ]
            refine late_L (i := 9) (d := none) (by kernel_rfl) rfl rfl (by kernel_rfl) (fun Kq hKq => ?_)
            go_simp
            refine hKq.out _ _ ?_
            clear hKq Kq
            refine late_L (i := 10) (d := (some 3)) (by kernel_rfl) rfl rfl (by kernel_rfl) (fun Kq hKq => ?_)
            go_simp
            refine hKq.out _ _ ?_
            clear hKq Kq
            refine done_L (by kernel_rfl) ?_ _
            refine NoPanic.normal ?_
            go_wp2_with fail
            obtain ⟨⟨k0, k1, k2, k3⟩, hbz⟩ := HD.out
            refine bodyPost_ret (v := .tuple #[.agg #[.string ⟨#[110, 97, 109, 101]⟩, .int .u8 60, .string T, .int .i64 0], .bool false]) (by simp [results, Tryd.results70, go_sem, k0, k1, k2, k3]) rfl ?_
            first | exact RetP.no Hpt.out hbz.drew | exact RetP.no Hpt.out hbz
          · have n1 := ne_lit (l := [110, 97, 109, 101]) h1 rfl
            by_cases h2 : F = makerW
            · clear h1 n1
              obtain rfl : F = ⟨#[109, 97, 107, 101, 114]⟩ := h2
              have Hpt := Lib.hid (show parseT s = none by rw [P2 rfl, if_neg (by rintro ⟨h, _⟩; exact absurd h (by decide))])
              clear P1 P2 P3 P4
              obtain ⟨⟨p0, p1, p2, p3⟩, f0, f1, f2, f3⟩ := blk4 HP.out.hq
              obtain ⟨⟨d0, d1, d2, d3⟩, e0, e1, e2, e3⟩ := blk4 HP.out.hr
              have HD := Lib.hid (HP.out.done (.string ⟨#[109, 97, 107, 101, 114]⟩) (.int .u8 60) (.string T) (.int .i64 0))
              go_upto_region 10 with (fail)
              refine wp_region_noPanic ?_
              refine wp_region_L [10,9] (fun w' => w'.cell? ⟨g5, 0, none⟩ = some (.string ⟨#[109, 97, 107, 101, 114]⟩) ∧ w'.cell? ⟨g5, 1, none⟩ = some (.int .u8 60) ∧ w'.cell? ⟨g5, 2, none⟩ = some (.string T) ∧ w'.cell? ⟨g5, 3, none⟩ = some (.int .i64 0)) (by kernel_rfl) (⟨p0, p1, p2, p3⟩) (fun hHeld => ?_)
              refine take_L [0] (i := 0) (d := some 56) (v := ?_) (by kernel_rfl) (by kernel_rfl) (by kernel_rfl) (by kernel_rfl) rfl rfl (by kernel_rfl) (by kernel_rfl) (by kernel_rfl) (fun _ _ _ h => h) (Or.inl ⟨by rfl, ?_⟩) (by assumption) ?_
              rotate_left
              · (intro w hSw; (try dsimp only at hSw); go_simp; (try rw [if_neg (by omega)]); (try (with_reducible rfl)))
              simp only [Act.put, List.setIfInBounds_toArray, List.set_cons_zero, List.set_cons_succ]
              refine take_F (i := 1) (d := some 57) (v := ?_) (by kernel_rfl) (by kernel_rfl) rfl rfl (by kernel_rfl) (by kernel_rfl) (by kernel_rfl) (fun _ _ _ h => h) (Or.inl ⟨by rfl, ?_⟩) (by assumption) ?_
              rotate_left
              · (intro w hSw; (try dsimp only at hSw); go_simp; (try rw [if_neg (by omega)]); (try (with_reducible rfl)))
              simp only [Act.put, List.setIfInBounds_toArray, List.set_cons_zero, List.set_cons_succ]
              refine take_L [7,4,3,2] (i := 2) (d := some 58) (v := ?_) (by kernel_rfl) (by kernel_rfl) (by kernel_rfl) (by kernel_rfl) rfl rfl (by kernel_rfl) (by kernel_rfl) (by kernel_rfl) (fun _ _ _ h => h) (Or.inl ⟨by rfl, ?_⟩) (by assumption) ?_
              rotate_left
              · (intro w hSw; (try dsimp only at hSw); go_simp; (try rw [if_neg (by omega)]); (try (with_reducible rfl)))
              simp only [Act.put, List.setIfInBounds_toArray, List.set_cons_zero, List.set_cons_succ]
              refine take_F (i := 3) (d := some 59) (v := ?_) (by kernel_rfl) (by kernel_rfl) rfl rfl (by kernel_rfl) (by kernel_rfl) (by kernel_rfl) (fun _ _ _ h => h) (Or.inl ⟨by rfl, ?_⟩) (by assumption) ?_
              rotate_left
              · (intro w hSw; (try dsimp only at hSw); go_simp; (try rw [if_neg (by omega)]); (try (with_reducible rfl)))
              simp only [Act.put, List.setIfInBounds_toArray, List.set_cons_zero, List.set_cons_succ]
              refine take_F (i := 4) (d := some 60) (v := ?_) (by kernel_rfl) (by kernel_rfl) rfl rfl (by kernel_rfl) (by kernel_rfl) (by kernel_rfl) (fun _ _ _ h => h) (Or.inl ⟨by rfl, ?_⟩) (by assumption) ?_
              rotate_left
              · (intro w hSw; (try dsimp only at hSw); go_simp; (try rw [if_neg (by omega)]); (try (with_reducible rfl)))
              simp only [Act.put, List.setIfInBounds_toArray, List.set_cons_zero, List.set_cons_succ]
              refine take_F (i := 5) (d := some 61) (v := undef) (by kernel_rfl) (by kernel_rfl) rfl rfl (by kernel_rfl) (by kernel_rfl) (by kernel_rfl) (fun _ _ _ h => h) (Or.inr ⟨by rfl, rfl⟩) (by assumption) ?_
              simp only [Act.put, List.setIfInBounds_toArray, List.set_cons_zero, List.set_cons_succ]
              refine take_F (i := 6) (d := some 62) (v := undef) (by kernel_rfl) (by kernel_rfl) rfl rfl (by kernel_rfl) (by kernel_rfl) (by kernel_rfl) (fun _ _ _ h => h) (Or.inr ⟨by rfl, rfl⟩) (by assumption) ?_
              simp only [Act.put, List.setIfInBounds_toArray, List.set_cons_zero, List.set_cons_succ]
              refine take_F (i := 7) (d := some 63) (v := undef) (by kernel_rfl) (by kernel_rfl) rfl rfl (by kernel_rfl) (by kernel_rfl) (by kernel_rfl) (fun _ _ _ h => h) (Or.inr ⟨by rfl, rfl⟩) (by assumption) ?_
              simp only [Act.put, List.setIfInBounds_toArray, List.set_cons_zero, List.set_cons_succ]
              refine take_F (i := 8) (d := some 64) (v := ?_) (by kernel_rfl) (by kernel_rfl) rfl rfl (by kernel_rfl) (by kernel_rfl) (by kernel_rfl) (fun _ _ _ h => h) (Or.inl ⟨by rfl, ?_⟩) (by assumption) ?_
              rotate_left
              · (intro w hSw; (try dsimp only at hSw); go_simp; (try rw [if_neg (by omega)]); (try (with_reducible rfl)))
              simp only [Act.put, List.setIfInBounds_toArray, List.set_cons_zero, List.set_cons_succ]
              refine late_L (i := 9) (d := none) (by kernel_rfl) rfl rfl (by kernel_rfl) (fun Kq hKq => ?_)
              go_simp
              refine hKq.out _ _ ?_
              clear hKq Kq
              refine late_L (i := 10) (d := (some 3)) (by kernel_rfl) rfl rfl (by kernel_rfl) (fun Kq hKq => ?_)
              go_simp
              refine hKq.out _ _ ?_
              clear hKq Kq
              refine done_L (by kernel_rfl) ?_ _
              refine NoPanic.normal ?_
              go_wp2_with fail
              obtain ⟨⟨k0, k1, k2, k3⟩, hbz⟩ := HD.out
              refine bodyPost_ret (v := .tuple #[.agg #[.string ⟨#[109, 97, 107, 101, 114]⟩, .int .u8 60, .string T, .int .i64 0], .bool false]) (by simp [results, Tryd.results70, go_sem, k0, k1, k2, k3]) rfl ?_
              first | exact RetP.no Hpt.out hbz.drew | exact RetP.no Hpt.out hbz
            · have n2 := ne_lit (l := [109, 97, 107, 101, 114]) h2 rfl
              by_cases h3 : F = yearW
              · clear h1 n1 h2 n2
                obtain rfl : F = ⟨#[121, 101, 97, 114]⟩ := h3
                obtain ⟨⟨p0, p1, p2, p3⟩, _⟩ := blk4 HP.out.hq
                have HPY := Lib.hid (show parseT s = yearS 60 T from P3 rfl)
                clear P1 P2 P3 P4
                unfold yearS at HPY
                cases hr : readN T with
                | none =>
                  rw [hr] at HRT HPY
                  simp only [Option.getD_none, Option.isSome_none] at HRT
                  dsimp only at HPY
                  go_wp2_with fail
                  refine (HRT.out _).mono ?_; rintro e w7 ⟨rfl, hb7⟩
                  have HP1 := Lib.hid (HP.out.next hb7)
                  obtain ⟨⟨q0, q1, q2, q3⟩, f0, f1, f2, f3⟩ := blk4 HP1.out.hq
                  have HP2 := Lib.hid (HP1.out.setY 0)
                  clear hb7 p0 p1 p2 p3 HRT
                  go_upto_region 14 with (fail)
                  generalize w7.setCell ⟨g5, 3, none⟩ (.int .i64 0) = w8 at *
                  clear q0 q1 q2 q3 f0 f1 f2 f3 HP1 HP
                  obtain ⟨⟨p0, p1, p2, p3⟩, f0, f1, f2, f3⟩ := blk4 HP2.out.hq
                  obtain ⟨⟨d0, d1, d2, d3⟩, e0, e1, e2, e3⟩ := blk4 HP2.out.hr
                  have HD := Lib.hid (HP2.out.done (.string ⟨#[121, 101, 97, 114]⟩) (.int .u8 60) (.string T) (.int .i64 0))
                  refine wp_region_noPanic ?_
                  refine wp_region_L [7,6] (fun w' => w'.cell? ⟨g5, 0, none⟩ = some (.string ⟨#[121, 101, 97, 114]⟩) ∧ w'.cell? ⟨g5, 1, none⟩ = some (.int .u8 60) ∧ w'.cell? ⟨g5, 2, none⟩ = some (.string T) ∧ w'.cell? ⟨g5, 3, none⟩ = some (.int .i64 0)) (by kernel_rfl) (⟨p0, p1, p2, p3⟩) (fun hHeld => ?_)
                  refine take_L [0] (i := 0) (d := some 75) (v := ?_) (by kernel_rfl) (by kernel_rfl) (by kernel_rfl) (by kernel_rfl) rfl rfl (by kernel_rfl) (by kernel_rfl) (by kernel_rfl) (fun _ _ _ h => h) (Or.inl ⟨by rfl, ?_⟩) (by assumption) ?_
                  rotate_left
                  · (intro w hSw; (try dsimp only at hSw); go_simp; (try rw [if_neg (by omega)]); (try (with_reducible rfl)))
                  simp only [Act.put, List.setIfInBounds_toArray, List.set_cons_zero, List.set_cons_succ]
                  refine take_F (i := 1) (d := some 76) (v := ?_) (by kernel_rfl) (by kernel_rfl) rfl rfl (by kernel_rfl) (by kernel_rfl) (by kernel_rfl) (fun _ _ _ h => h) (Or.inl ⟨by rfl, ?_⟩) (by assumption) ?_
                  rotate_left
                  · (intro w hSw; (try dsimp only at hSw); go_simp; (try rw [if_neg (by omega)]); (try (with_reducible rfl)))
                  simp only [Act.put, List.setIfInBounds_toArray, List.set_cons_zero, List.set_cons_succ]
                  refine take_F (i := 2) (d := some 77) (v := ?_) (by kernel_rfl) (by kernel_rfl) rfl rfl (by kernel_rfl) (by kernel_rfl) (by kernel_rfl) (fun _ _ _ h => h) (Or.inl ⟨by rfl, ?_⟩) (by assumption) ?_
                  rotate_left
                  · (intro w hSw; (try dsimp only at hSw); go_simp; (try rw [if_neg (by omega)]); (try (with_reducible rfl)))
                  simp only [Act.put, List.setIfInBounds_toArray, List.set_cons_zero, List.set_cons_succ]
                  refine take_F (i := 3) (d := some 78) (v := undef) (by kernel_rfl) (by kernel_rfl) rfl rfl (by kernel_rfl) (by kernel_rfl) (by kernel_rfl) (fun _ _ _ h => h) (Or.inr ⟨by rfl, rfl⟩) (by assumption) ?_
                  simp only [Act.put, List.setIfInBounds_toArray, List.set_cons_zero, List.set_cons_succ]
                  refine take_F (i := 4) (d := some 79) (v := undef) (by kernel_rfl) (by kernel_rfl) rfl rfl (by kernel_rfl) (by kernel_rfl) (by kernel_rfl) (fun _ _ _ h => h) (Or.inr ⟨by rfl, rfl⟩) (by assumption) ?_
                  simp only [Act.put, List.setIfInBounds_toArray, List.set_cons_zero, List.set_cons_succ]
                  refine take_F (i := 5) (d := some 80) (v := ?_) (by kernel_rfl) (by kernel_rfl) rfl rfl (by kernel_rfl) (by kernel_rfl) (by kernel_rfl) (fun _ _ _ h => h) (Or.inl ⟨by rfl, ?_⟩) (by assumption) ?_
                  rotate_left
                  · (intro w hSw; (try dsimp only at hSw); go_simp; (try rw [if_neg (by omega)]); (try (with_reducible rfl)))
                  simp only [Act.put, List.setIfInBounds_toArray, List.set_cons_zero, List.set_cons_succ]
                  refine late_L (i := 6) (d := none) (by kernel_rfl) rfl rfl (by kernel_rfl) (fun Kq hKq => ?_)
                  go_simp
                  refine hKq.out _ _ ?_
                  clear hKq Kq
                  refine late_L (i := 7) (d := (some 3)) (by kernel_rfl) rfl rfl (by kernel_rfl) (fun Kq hKq => ?_)
                  go_simp
                  refine hKq.out _ _ ?_
                  clear hKq Kq
                  refine done_L (by kernel_rfl) ?_ _
                  refine NoPanic.normal ?_
                  go_wp2_with fail
                  obtain ⟨⟨k0, k1, k2, k3⟩, hbz⟩ := HD.out
                  refine bodyPost_ret (v := .tuple #[.agg #[.string ⟨#[121, 101, 97, 114]⟩, .int .u8 60, .string T, .int .i64 0], .bool false]) (by simp [results, Tryd.results70, go_sem, k0, k1, k2, k3]) rfl ?_
                  first | exact RetP.no HPY.out hbz.drew | exact RetP.no HPY.out hbz
                | some y =>
                  rw [hr] at HRT HPY
                  simp only [Option.getD_some, Option.isSome_some] at HRT
                  dsimp only at HPY
                  have HIy := Lib.hid (HI.out y)
                  cases hi : inB y 0 10000 with
                  | true =>
                    rw [hi] at HIy
                    rw [hi, if_pos rfl] at HPY
                    clear hi hr
                    go_wp2_with fail
                    refine (HRT.out _).mono ?_; rintro e w7 ⟨rfl, hb7⟩
                    have HP1 := Lib.hid (HP.out.next hb7)
                    obtain ⟨⟨q0, q1, q2, q3⟩, f0, f1, f2, f3⟩ := blk4 HP1.out.hq
                    have HP2 := Lib.hid (HP1.out.setY y)
                    clear hb7 p0 p1 p2 p3 HRT
                    go_upto_region 14 with (fail)
                    generalize w7.setCell ⟨g5, 3, none⟩ (.int .i64 y) = w8 at *
                    clear q0 q1 q2 q3 f0 f1 f2 f3 HP1 HP
                    obtain ⟨⟨p0, p1, p2, p3⟩, f0, f1, f2, f3⟩ := blk4 HP2.out.hq
                    obtain ⟨⟨d0, d1, d2, d3⟩, e0, e1, e2, e3⟩ := blk4 HP2.out.hr
                    have HD := Lib.hid (HP2.out.done (.string ⟨#[121, 101, 97, 114]⟩) (.int .u8 60) (.string T) (.int .i64 y))
                    refine wp_region_noPanic ?_
                    refine wp_region_L [7,6] (fun w' => w'.cell? ⟨g5, 0, none⟩ = some (.string ⟨#[121, 101, 97, 114]⟩) ∧ w'.cell? ⟨g5, 1, none⟩ = some (.int .u8 60) ∧ w'.cell? ⟨g5, 2, none⟩ = some (.string T) ∧ w'.cell? ⟨g5, 3, none⟩ = some (.int .i64 y)) (by kernel_rfl) (⟨p0, p1, p2, p3⟩) (fun hHeld => ?_)
                    refine take_L [0] (i := 0) (d := some 75) (v := ?_) (by kernel_rfl) (by kernel_rfl) (by kernel_rfl) (by kernel_rfl) rfl rfl (by kernel_rfl) (by kernel_rfl) (by kernel_rfl) (fun _ _ _ h => h) (Or.inl ⟨by rfl, ?_⟩) (by assumption) ?_
                    rotate_left
                    · (intro w hSw; (try dsimp only at hSw); go_simp; (try rw [if_neg (by omega)]); (try (with_reducible rfl)))
                    simp only [Act.put, List.setIfInBounds_toArray, List.set_cons_zero, List.set_cons_succ]
                    refine take_F (i := 1) (d := some 76) (v := ?_) (by kernel_rfl) (by kernel_rfl) rfl rfl (by kernel_rfl) (by kernel_rfl) (by kernel_rfl) (fun _ _ _ h => h) (Or.inl ⟨by rfl, ?_⟩) (by assumption) ?_
                    rotate_left
                    · (intro w hSw; (try dsimp only at hSw); go_simp; (try rw [if_neg (by omega)]); (try (with_reducible rfl)))
                    simp only [Act.put, List.setIfInBounds_toArray, List.set_cons_zero, List.set_cons_succ]
                    refine take_F (i := 2) (d := some 77) (v := ?_) (by kernel_rfl) (by kernel_rfl) rfl rfl (by kernel_rfl) (by kernel_rfl) (by kernel_rfl) (fun _ _ _ h => h) (Or.inl ⟨by rfl, ?_⟩) (by assumption) ?_
                    rotate_left
                    · (intro w hSw; (try dsimp only at hSw); go_simp; (try rw [if_neg (by omega)]); (try (with_reducible rfl)))
                    simp only [Act.put, List.setIfInBounds_toArray, List.set_cons_zero, List.set_cons_succ]
                    refine take_F (i := 3) (d := some 78) (v := ?_) (by kernel_rfl) (by kernel_rfl) rfl rfl (by kernel_rfl) (by kernel_rfl) (by kernel_rfl) (fun _ _ _ h => h) (Or.inl ⟨by rfl, ?_⟩) (by assumption) ?_
                    rotate_left
                    · (intro w hSw; (try dsimp only at hSw); go_simp; (try rw [if_neg (by omega)]); (try (with_reducible rfl)))
                    simp only [Act.put, List.setIfInBounds_toArray, List.set_cons_zero, List.set_cons_succ]
                    refine call_L (i := 4) (d := (some 79)) rfl rfl (by kernel_rfl) (fun Kq hKq => ?_)
                    go_simp
                    go_at_call 96
                    refine (HIy.out _).mono ?_; rintro e w9 ⟨rfl, rfl⟩
                    (try go_wp2_with fail)
                    refine hKq.out _ _ (⟨p0, p1, p2, p3⟩) (fun hHeld => ?_)
                    clear hKq Kq
                    (try simp only [Act.put, List.setIfInBounds_toArray, List.set_cons_zero, List.set_cons_succ])
                    refine take_F (i := 5) (d := some 80) (v := ?_) (by kernel_rfl) (by kernel_rfl) rfl rfl (by kernel_rfl) (by kernel_rfl) (by kernel_rfl) (fun _ _ _ h => h) (Or.inl ⟨by rfl, ?_⟩) (by assumption) ?_
                    rotate_left
                    · (intro w hSw; (try dsimp only at hSw); go_simp; (try rw [if_neg (by omega)]); (try (with_reducible rfl)))
                    simp only [Act.put, List.setIfInBounds_toArray, List.set_cons_zero, List.set_cons_succ]
                    refine late_L (i := 6) (d := none) (by kernel_rfl) rfl rfl (by kernel_rfl) (fun Kq hKq => ?_)
                    go_simp
                    refine hKq.out _ _ ?_
                    clear hKq Kq
                    refine late_L (i := 7) (d := (some 3)) (by kernel_rfl) rfl rfl (by kernel_rfl) (fun Kq hKq => ?_)
                    go_simp
                    refine hKq.out _ _ ?_
                    clear hKq Kq
                    refine done_L (by kernel_rfl) ?_ _
                    refine NoPanic.normal ?_
                    go_wp2_with fail
                    obtain ⟨⟨k0, k1, k2, k3⟩, hbz⟩ := HD.out
                    refine bodyPost_ret (v := .tuple #[.agg #[.string ⟨#[121, 101, 97, 114]⟩, .int .u8 60, .string T, .int .i64 y], .bool true]) (by simp [results, Tryd.results70, go_sem, k0, k1, k2, k3]) rfl ?_
                    first | exact RetP.yes HPY.out ⟨rfl, rfl, rfl, .inr (.inl rfl)⟩ hbz.drew | exact RetP.yes HPY.out ⟨rfl, rfl, rfl, .inr (.inl rfl)⟩ hbz
                  | false =>
                    rw [hi] at HIy
                    rw [hi, if_neg (by decide)] at HPY
                    clear hi hr
                    go_wp2_with fail
                    refine (HRT.out _).mono ?_; rintro e w7 ⟨rfl, hb7⟩
                    have HP1 := Lib.hid (HP.out.next hb7)
                    obtain ⟨⟨q0, q1, q2, q3⟩, f0, f1, f2, f3⟩ := blk4 HP1.out.hq
                    have HP2 := Lib.hid (HP1.out.setY y)
                    clear hb7 p0 p1 p2 p3 HRT
                    go_upto_region 14 with (fail)
                    generalize w7.setCell ⟨g5, 3, none⟩ (.int .i64 y) = w8 at *
                    clear q0 q1 q2 q3 f0 f1 f2 f3 HP1 HP
                    obtain ⟨⟨p0, p1, p2, p3⟩, f0, f1, f2, f3⟩ := blk4 HP2.out.hq
                    obtain ⟨⟨d0, d1, d2, d3⟩, e0, e1, e2, e3⟩ := blk4 HP2.out.hr
                    have HD := Lib.hid (HP2.out.done (.string ⟨#[121, 101, 97, 114]⟩) (.int .u8 60) (.string T) (.int .i64 y))
                    refine wp_region_noPanic ?_
                    refine wp_region_L [7,6] (fun w' => w'.cell? ⟨g5, 0, none⟩ = some (.string ⟨#[121, 101, 97, 114]⟩) ∧ w'.cell? ⟨g5, 1, none⟩ = some (.int .u8 60) ∧ w'.cell? ⟨g5, 2, none⟩ = some (.string T) ∧ w'.cell? ⟨g5, 3, none⟩ = some (.int .i64 y)) (by kernel_rfl) (⟨p0, p1, p2, p3⟩) (fun hHeld => ?_)
                    refine take_L [0] (i := 0) (d := some 75) (v := ?_) (by kernel_rfl) (by kernel_rfl) (by kernel_rfl) (by kernel_rfl) rfl rfl (by kernel_rfl) (by kernel_rfl) (by kernel_rfl) (fun _ _ _ h => h) (Or.inl ⟨by rfl, ?_⟩) (by assumption) ?_
                    rotate_left
                    · (intro w hSw; (try dsimp only at hSw); go_simp; (try rw [if_neg (by omega)]); (try (with_reducible rfl)))
                    simp only [Act.put, List.setIfInBounds_toArray, List.set_cons_zero, List.set_cons_succ]
                    refine take_F (i := 1) (d := some 76) (v := ?_) (by kernel_rfl) (by kernel_rfl) rfl rfl (by kernel_rfl) (by kernel_rfl) (by kernel_rfl) (fun _ _ _ h => h) (Or.inl ⟨by rfl, ?_⟩) (by assumption) ?_
                    rotate_left
                    · (intro w hSw; (try dsimp only at hSw); go_simp; (try rw [if_neg (by omega)]); (try (with_reducible rfl)))
                    simp only [Act.put, List.setIfInBounds_toArray, List.set_cons_zero, List.set_cons_succ]
                    refine take_F (i := 2) (d := some 77) (v := ?_) (by kernel_rfl) (by kernel_rfl) rfl rfl (by kernel_rfl) (by kernel_rfl) (by kernel_rfl) (fun _ _ _ h => h) (Or.inl ⟨by rfl, ?_⟩) (by assumption) ?_
                    rotate_left
                    · (intro w hSw; (try dsimp only at hSw); go_simp; (try rw [if_neg (by omega)]); (try (with_reducible rfl)))
                    simp only [Act.put, List.setIfInBounds_toArray, List.set_cons_zero, List.set_cons_succ]
                    refine take_F (i := 3) (d := some 78) (v := ?_) (by kernel_rfl) (by kernel_rfl) rfl rfl (by kernel_rfl) (by kernel_rfl) (by kernel_rfl) (fun _ _ _ h => h) (Or.inl ⟨by rfl, ?_⟩) (by assumption) ?_
                    rotate_left
                    · (intro w hSw; (try dsimp only at hSw); go_simp; (try rw [if_neg (by omega)]); (try (with_reducible rfl)))
                    simp only [Act.put, List.setIfInBounds_toArray, List.set_cons_zero, List.set_cons_succ]
                    refine call_L (i := 4) (d := (some 79)) rfl rfl (by kernel_rfl) (fun Kq hKq => ?_)
                    go_simp
                    go_at_call 96
                    refine (HIy.out _).mono ?_; rintro e w9 ⟨rfl, rfl⟩
                    (try go_wp2_with fail)
                    refine hKq.out _ _ (⟨p0, p1, p2, p3⟩) (fun hHeld => ?_)
                    clear hKq Kq
                    (try simp only [Act.put, List.setIfInBounds_toArray, List.set_cons_zero, List.set_cons_succ])
                    refine take_F (i := 5) (d := some 80) (v := ?_) (by kernel_rfl) (by kernel_rfl) rfl rfl (by kernel_rfl) (by kernel_rfl) (by kernel_rfl) (fun _ _ _ h => h) (Or.inl ⟨by rfl, ?_⟩) (by assumption) ?_
                    rotate_left
                    · (intro w hSw; (try dsimp only at hSw); go_simp; (try rw [if_neg (by omega)]); (try (with_reducible rfl)))
                    simp only [Act.put, List.setIfInBounds_toArray, List.set_cons_zero, List.set_cons_succ]
                    refine late_L (i := 6) (d := none) (by kernel_rfl) rfl rfl (by kernel_rfl) (fun Kq hKq => ?_)
                    go_simp
                    refine hKq.out _ _ ?_
                    clear hKq Kq
                    refine late_L (i := 7) (d := (some 3)) (by kernel_rfl) rfl rfl (by kernel_rfl) (fun Kq hKq => ?_)
                    go_simp
                    refine hKq.out _ _ ?_
                    clear hKq Kq
                    refine done_L (by kernel_rfl) ?_ _
                    refine NoPanic.normal ?_
                    go_wp2_with fail
                    obtain ⟨⟨k0, k1, k2, k3⟩, hbz⟩ := HD.out
                    refine bodyPost_ret (v := .tuple #[.agg #[.string ⟨#[121, 101, 97, 114]⟩, .int .u8 60, .string T, .int .i64 y], .bool false]) (by simp [results, Tryd.results70, go_sem, k0, k1, k2, k3]) rfl ?_
                    first | exact RetP.no HPY.out hbz.drew | exact RetP.no HPY.out hbz
              · have n3 := ne_lit (l := [121, 101, 97, 114]) h3 rfl
                have Hpt := Lib.hid (P4 h1 h2 h3)
                clear P1 P2 P3 P4 h1 h2 h3
                obtain ⟨⟨p0, p1, p2, p3⟩, f0, f1, f2, f3⟩ := blk4 HP.out.hq
                obtain ⟨⟨d0, d1, d2, d3⟩, e0, e1, e2, e3⟩ := blk4 HP.out.hr
                have HD := Lib.hid (HP.out.done (.string F) (.int .u8 60) (.string T) (.int .i64 0))
                go_wp2_with fail
                obtain ⟨⟨k0, k1, k2, k3⟩, hbz⟩ := HD.out
                refine bodyPost_ret (v := .tuple #[.agg #[.string F, .int .u8 60, .string T, .int .i64 0], .bool false]) (by simp [results, Tryd.results70, go_sem, k0, k1, k2, k3]) rfl ?_
                first | exact RetP.no Hpt.out hbz.drew | exact RetP.no Hpt.out hbz
        · have hb : ((s[k].toNat : Int) == 62) = true := by rw [hc]; rfl
          have q61 : ((s[k].toNat : Int) != 61) = true := by rw [hc]; rfl
          have q60 : ((s[k].toNat : Int) != 60) = true := by rw [hc]; rfl
          have q62 : ((s[k].toNat : Int) != 62) = false := by rw [hc]; rfl
          have hcz : (s[k].toNat : Int) = 62 := by rw [hc]; rfl
          rw [hc] at Hp
          have hsz : ((k : Int) == (s.size : Int)) = false := by rw [beq_eq_false_iff_ne]; omega
          go_upto_region 6 with (fail)
          refine wp_region_noPanic ?_
          refine wp_region_L [12] (fun _ => True) (by kernel_rfl) (trivial) (fun hHeld => ?_)
          refine take_F (i := 0) (d := some 40) (v := ?_) (by kernel_rfl) (by kernel_rfl) rfl rfl (by kernel_rfl) (by kernel_rfl) (by kernel_rfl) (fun _ _ _ h => h) (Or.inl ⟨by rfl, ?_⟩) (by assumption) ?_
          rotate_left
          · (intro w hSw; (try dsimp only at hSw); go_simp; (try rw [if_neg (by omega)]); (try (with_reducible rfl)))
          simp only [Act.put, List.setIfInBounds_toArray, List.set_cons_zero, List.set_cons_succ]
          refine take_F (i := 1) (d := some 41) (v := ?_) (by kernel_rfl) (by kernel_rfl) rfl rfl (by kernel_rfl) (by kernel_rfl) (by kernel_rfl) (fun _ _ _ h => h) (Or.inl ⟨by rfl, ?_⟩) (by assumption) ?_
          rotate_left
          · (intro w hSw; (try dsimp only at hSw); go_simp; (try rw [if_neg (by omega)]); (try (with_reducible rfl)))
          simp only [Act.put, List.setIfInBounds_toArray, List.set_cons_zero, List.set_cons_succ]
          refine take_F (i := 2) (d := some 42) (v := ?_) (by kernel_rfl) (by kernel_rfl) rfl rfl (by kernel_rfl) (by kernel_rfl) (by kernel_rfl) (fun _ _ _ h => h) (Or.inl ⟨by rfl, ?_⟩) (by assumption) ?_
          rotate_left
          · (intro w hSw; (try dsimp only at hSw); go_simp; (try rw [if_neg (by omega)]); (try (with_reducible rfl)))
          simp only [Act.put, List.setIfInBounds_toArray, List.set_cons_zero, List.set_cons_succ]
          refine take_F (i := 3) (d := some 43) (v := ?_) (by kernel_rfl) (by kernel_rfl) rfl rfl (by kernel_rfl) (by kernel_rfl) (by kernel_rfl) (fun _ _ _ h => h) (Or.inl ⟨by rfl, ?_⟩) (by assumption) ?_
          rotate_left
          · (intro w hSw; (try dsimp only at hSw); go_simp; (try rw [if_neg (by omega)]); (try (with_reducible rfl)))
          simp only [Act.put, List.setIfInBounds_toArray, List.set_cons_zero, List.set_cons_succ]
          refine take_F (i := 4) (d := some 44) (v := ?_) (by kernel_rfl) (by kernel_rfl) rfl rfl (by kernel_rfl) (by kernel_rfl) (by kernel_rfl) (fun _ _ _ h => h) (Or.inl ⟨by rfl, ?_⟩) (by assumption) ?_
          rotate_left
          · (intro w hSw; (try dsimp only at hSw); go_simp; (try rw [if_neg (by omega)]); (try (with_reducible rfl)))
          simp only [Act.put, List.setIfInBounds_toArray, List.set_cons_zero, List.set_cons_succ]
          refine take_F (i := 5) (d := some 45) (v := ?_) (by kernel_rfl) (by kernel_rfl) rfl rfl (by kernel_rfl) (by kernel_rfl) (by kernel_rfl) (fun _ _ _ h => h) (Or.inl ⟨by rfl, ?_⟩) (by assumption) ?_
          rotate_left
          · (intro w hSw; (try dsimp only at hSw); go_simp; (try rw [if_neg (by omega)]); (try (with_reducible rfl)))
          simp only [Act.put, List.setIfInBounds_toArray, List.set_cons_zero, List.set_cons_succ]
          refine take_F (i := 6) (d := some 46) (v := ?_) (by kernel_rfl) (by kernel_rfl) rfl rfl (by kernel_rfl) (by kernel_rfl) (by kernel_rfl) (fun _ _ _ h => h) (Or.inl ⟨by rfl, ?_⟩) (by assumption) ?_
          rotate_left
          · (intro w hSw; (try dsimp only at hSw); go_simp; (try rw [if_neg (by omega)]); (try (with_reducible rfl)))
          simp only [Act.put, List.setIfInBounds_toArray, List.set_cons_zero, List.set_cons_succ]
          refine take_F (i := 7) (d := some 47) (v := ?_) (by kernel_rfl) (by kernel_rfl) rfl rfl (by kernel_rfl) (by kernel_rfl) (by kernel_rfl) (fun _ _ _ h => h) (Or.inl ⟨by rfl, ?_⟩) (by assumption) ?_
          rotate_left
          · (intro w hSw; (try dsimp only at hSw); go_simp; (try rw [if_neg (by omega)]); (try (with_reducible rfl)))
          simp only [Act.put, List.setIfInBounds_toArray, List.set_cons_zero, List.set_cons_succ]
          refine take_F (i := 8) (d := some 48) (v := ?_) (by kernel_rfl) (by kernel_rfl) rfl rfl (by kernel_rfl) (by kernel_rfl) (by kernel_rfl) (fun _ _ _ h => h) (Or.inl ⟨by rfl, ?_⟩) (by assumption) ?_
          rotate_left
          · (intro w hSw; (try dsimp only at hSw); go_simp; (try rw [if_neg (by omega)]); (try (with_reducible rfl)))
          simp only [Act.put, List.setIfInBounds_toArray, List.set_cons_zero, List.set_cons_succ]
          refine take_F (i := 9) (d := some 49) (v := ?_) (by kernel_rfl) (by kernel_rfl) rfl rfl (by kernel_rfl) (by kernel_rfl) (by kernel_rfl) (fun _ _ _ h => h) (Or.inl ⟨by rfl, ?_⟩) (by assumption) ?_
          rotate_left
          · (intro w hSw; (try dsimp only at hSw); go_simp; (try rw [if_neg (by omega)]); (try (with_reducible rfl)))
          simp only [Act.put, List.setIfInBounds_toArray, List.set_cons_zero, List.set_cons_succ]
          refine take_F (i := 10) (d := some 50) (v := ?_) (by kernel_rfl) (by kernel_rfl) rfl rfl (by kernel_rfl) (by kernel_rfl) (by kernel_rfl) (fun _ _ _ h => h) (Or.inl ⟨by rfl, ?_⟩) (by assumption) ?_
          rotate_left
          · (intro w hSw; (try dsimp only at hSw); go_simp; (try rw [if_neg (by omega)]); (try (with_reducible rfl)))
          simp only [Act.put, List.setIfInBounds_toArray, List.set_cons_zero, List.set_cons_succ]
          refine call_L (i := 11) (d := (some 5)) rfl rfl (by kernel_rfl) (fun Kq hKq => ?_)
          go_simp
          refine hKq.out _ _ (trivial) (fun hHeld => ?_)
          clear hKq Kq
          (try simp only [Act.put, List.setIfInBounds_toArray, List.set_cons_zero, List.set_cons_succ])
          refine late_L (i := 12) (d := none) (by kernel_rfl) rfl rfl (by kernel_rfl) (fun Kq hKq => ?_)
          go_simp
          refine hKq.out _ _ ?_
          clear hKq Kq
          refine done_L (by kernel_rfl) ?_ _
          refine NoPanic.normal ?_
          have HP := Lib.hid (PsL.made (F := s.extract 0 k) (T := s.extract (k + 1) s.size) (c := 62) (y := 0) HQ1.out HB1.out)
          have HNT := Lib.hid (fun wx => HN.out (s.extract (k + 1) s.size) wx (Nat.le_trans hTz hs))
          have HRT := Lib.hid (fun wx => HR.out (s.extract (k + 1) s.size) wx (Nat.le_trans hTz (by omega)))
          obtain ⟨P1, P2, P3, P4⟩ := Hp.out
          generalize wr.heap.size = g5 at *
          generalize (wr.alloc (.cells #[.string (s.extract 0 k), .int .u8 62, .string (s.extract (k + 1) s.size), .int .i64 0] 94)).drew = w6 at *
          clear Hp HQ1 HB1 HN HR hTz hb q61 q60 q62 hcz hc hsz
          generalize s.extract 0 k = F at *
          generalize s.extract (k + 1) s.size = T at *
          clear hx0 hx1 hwk hlt'
          by_cases h1 : F = nameW
          · obtain rfl : F = ⟨#[110, 97, 109, 101]⟩ := h1
            have Hpt := Lib.hid (show parseT s = none by rw [P1 rfl, if_neg (by rintro ⟨h, _⟩; exact absurd h (by decide))])
            clear P1 P2 P3 P4
            obtain ⟨⟨p0, p1, p2, p3⟩, f0, f1, f2, f3⟩ := blk4 HP.out.hq
            obtain ⟨⟨d0, d1, d2, d3⟩, e0, e1, e2, e3⟩ := blk4 HP.out.hr
            have HD := Lib.hid (HP.out.done (.string ⟨#[110, 97, 109, 101]⟩) (.int .u8 62) (.string T) (.int .i64 0))
            go_upto_region 10 with (fail)
            refine wp_region_noPanic ?_
            refine wp_region_L [10,9] (fun w' => w'.cell? ⟨g5, 0, none⟩ = some (.string ⟨#[110, 97, 109, 101]⟩) ∧ w'.cell? ⟨g5, 1, none⟩ = some (.int .u8 62) ∧ w'.cell? ⟨g5, 2, none⟩ = some (.string T) ∧ w'.cell? ⟨g5, 3, none⟩ = some (.int .i64 0)) (by kernel_rfl) (⟨p0, p1, p2, p3⟩) (fun hHeld => ?_)
            refine take_L [0] (i := 0) (d := some 56) (v := ?_) (by kernel_rfl) (by kernel_rfl) (by kernel_rfl) (by kernel_rfl) rfl rfl (by kernel_rfl) (by kernel_rfl) (by kernel_rfl) (fun _ _ _ h => h) (Or.inl ⟨by rfl, ?_⟩) (by assumption) ?_
            rotate_left
            · (intro w hSw; (try dsimp only at hSw); go_simp; (try rw [if_neg (by omega)]); (try (with_reducible rfl)))
            simp only [Act.put, List.setIfInBounds_toArray, List.set_cons_zero, List.set_cons_succ]
            refine take_F (i := 1) (d := some 57) (v := ?_) (by kernel_rfl) (by kernel_rfl) rfl rfl (by kernel_rfl) (by kernel_rfl) (by kernel_rfl) (fun _ _ _ h => h) (Or.inl ⟨by rfl, ?_⟩) (by assumption) ?_
            rotate_left
            · (intro w hSw; (try dsimp only at hSw); go_simp; (try rw [if_neg (by omega)]); (try (with_reducible rfl)))
            simp only [Act.put, List.setIfInBounds_toArray, List.set_cons_zero, List.set_cons_succ]
            refine take_L [7,4,3,2] (i := 2) (d := some 58) (v := ?_) (by kernel_rfl) (by kernel_rfl) (by kernel_rfl) (by kernel_rfl) rfl rfl (by kernel_rfl) (by kernel_rfl) (by kernel_rfl) (fun _ _ _ h => h) (Or.inl ⟨by rfl, ?_⟩) (by assumption) ?_
            rotate_left
            · (intro w hSw; (try dsimp only at hSw); go_simp; (try rw [if_neg (by omega)]); (try (with_reducible rfl)))
            simp only [Act.put, List.setIfInBounds_toArray, List.set_cons_zero, List.set_cons_succ]
            refine take_F (i := 3) (d := some 59) (v := ?_) (by kernel_rfl) (by kernel_rfl) rfl rfl (by kernel_rfl) (by kernel_rfl) (by kernel_rfl) (fun _ _ _ h => h) (Or.inl ⟨by rfl, ?_⟩) (by assumption) ?_
            rotate_left
            · (intro w hSw; (try dsimp only at hSw); go_simp; (try rw [if_neg (by omega)]); (try (with_reducible rfl)))
            simp only [Act.put, List.setIfInBounds_toArray, List.set_cons_zero, List.set_cons_succ]
            refine take_F (i := 4) (d := some 60) (v := ?_) (by kernel_rfl) (by kernel_rfl) rfl rfl (by kernel_rfl) (by kernel_rfl) (by kernel_rfl) (fun _ _ _ h => h) (Or.inl ⟨by rfl, ?_⟩) (by assumption) ?_
            rotate_left
            · (intro w hSw; (try dsimp only at hSw); go_simp; (try rw [if_neg (by omega)]); (try (with_reducible rfl)))
            simp only [Act.put, List.setIfInBounds_toArray, List.set_cons_zero, List.set_cons_succ]
            refine take_F (i := 5) (d := some 61) (v := undef) (by kernel_rfl) (by kernel_rfl) rfl rfl (by kernel_rfl) (by kernel_rfl) (by kernel_rfl) (fun _ _ _ h => h) (Or.inr ⟨by rfl, rfl⟩) (by assumption) ?_
            simp only [Act.put, List.setIfInBounds_toArray, List.set_cons_zero, List.set_cons_succ]
            refine take_F (i := 6) (d := some 62) (v := undef) (by kernel_rfl) (by kernel_rfl) rfl rfl (by kernel_rfl) (by kernel_rfl) (by kernel_rfl) (fun _ _ _ h => h) (Or.inr ⟨by rfl, rfl⟩) (by assumption) ?_
            simp only [Act.put, List.setIfInBounds_toArray, List.set_cons_zero, List.set_cons_succ]
            refine take_F (i := 7) (d := some 63) (v := undef) (by kernel_rfl) (by kernel_rfl) rfl rfl (by kernel_rfl) (by kernel_rfl) (by kernel_rfl) (fun _ _ _ h => h) (Or.inr ⟨by rfl, rfl⟩) (by assumption) ?_
            simp only [Act.put, List.setIfInBounds_toArray, List.set_cons_zero, List.set_cons_succ]
            refine take_F (i := 8) (d := some 64) (v := ?_) (by kernel_rfl) (by kernel_rfl) rfl rfl (by kernel_rfl) (by kernel_rfl) (by kernel_rfl) (fun _ _ _ h => h) (Or.inl ⟨by rfl, ?_⟩) (by assumption) ?_
            rotate_left
            · (intro w hSw; (try dsimp only at hSw); go_simp; (try rw [if_neg (by omega)]); (try (with_reducible rfl)))
            simp only [Act.put, List.setIfInBounds_toArray, List.set_cons_zero, List.set_cons_succ]
            refine late_L (i := 9) (d := none) (by kernel_rfl) rfl rfl (by kernel_rfl) (fun Kq hKq => ?_)
            go_simp
            refine hKq.out _ _ ?_
            clear hKq Kq
            refine late_L (i := 10) (d := (some 3)) (by kernel_rfl) rfl rfl (by kernel_rfl) (fun Kq hKq => ?_)
            go_simp
            refine hKq.out _ _ ?_
            clear hKq Kq
            refine done_L (by kernel_rfl) ?_ _
            refine NoPanic.normal ?_
            go_wp2_with fail
            obtain ⟨⟨k0, k1, k2, k3⟩, hbz⟩ := HD.out
            refine bodyPost_ret (v := .tuple #[.agg #[.string ⟨#[110, 97, 109, 101]⟩, .int .u8 62, .string T, .int .i64 0], .bool false]) (by simp [results, Tryd.results70, go_sem, k0, k1, k2, k3]) rfl ?_
            first | exact RetP.no Hpt.out hbz.drew | exact RetP.no Hpt.out hbz
          · have n1 := ne_lit (l := [110, 97, 109, 101]) h1 rfl
            by_cases h2 : F = makerW
            · clear h1 n1
              obtain rfl : F = ⟨#[109, 97, 107, 101, 114]⟩ := h2
              have Hpt := Lib.hid (show parseT s = none by rw [P2 rfl, if_neg (by rintro ⟨h, _⟩; exact absurd h (by decide))])
              clear P1 P2 P3 P4
              obtain ⟨⟨p0, p1, p2, p3⟩, f0, f1, f2, f3⟩ := blk4 HP.out.hq
              obtain ⟨⟨d0, d1, d2, d3⟩, e0, e1, e2, e3⟩ := blk4 HP.out.hr
              have HD := Lib.hid (HP.out.done (.string ⟨#[109, 97, 107, 101, 114]⟩) (.int .u8 62) (.string T) (.int .i64 0))
              go_upto_region 10 with (fail)
              refine wp_region_noPanic ?_
              refine wp_region_L [10,9] (fun w' => w'.cell? ⟨g5, 0, none⟩ = some (.string ⟨#[109, 97, 107, 101, 114]⟩) ∧ w'.cell? ⟨g5, 1, none⟩ = some (.int .u8 62) ∧ w'.cell? ⟨g5, 2, none⟩ = some (.string T) ∧ w'.cell? ⟨g5, 3, none⟩ = some (.int .i64 0)) (by kernel_rfl) (⟨p0, p1, p2, p3⟩) (fun hHeld => ?_)
              refine take_L [0] (i := 0) (d := some 56) (v := ?_) (by kernel_rfl) (by kernel_rfl) (by kernel_rfl) (by kernel_rfl) rfl rfl (by kernel_rfl) (by kernel_rfl) (by kernel_rfl) (fun _ _ _ h => h) (Or.inl ⟨by rfl, ?_⟩) (by assumption) ?_
              rotate_left
              · (intro w hSw; (try dsimp only at hSw); go_simp; (try rw [if_neg (by omega)]); (try (with_reducible rfl)))
              simp only [Act.put, List.setIfInBounds_toArray, List.set_cons_zero, List.set_cons_succ]
              refine take_F (i := 1) (d := some 57) (v := ?_) (by kernel_rfl) (by kernel_rfl) rfl rfl (by kernel_rfl) (by kernel_rfl) (by kernel_rfl) (fun _ _ _ h => h) (Or.inl ⟨by rfl, ?_⟩) (by assumption) ?_
              rotate_left
              · (intro w hSw; (try dsimp only at hSw); go_simp; (try rw [if_neg (by omega)]); (try (with_reducible rfl)))
              simp only [Act.put, List.setIfInBounds_toArray, List.set_cons_zero, List.set_cons_succ]
              refine take_L [7,4,3,2] (i := 2) (d := some 58) (v := ?_) (by kernel_rfl) (by kernel_rfl) (by kernel_rfl) (by kernel_rfl) rfl rfl (by kernel_rfl) (by kernel_rfl) (by kernel_rfl) (fun _ _ _ h => h) (Or.inl ⟨by rfl, ?_⟩) (by assumption) ?_
              rotate_left
              · (intro w hSw; (try dsimp only at hSw); go_simp; (try rw [if_neg (by omega)]); (try (with_reducible rfl)))
              simp only [Act.put, List.setIfInBounds_toArray, List.set_cons_zero, List.set_cons_succ]
              refine take_F (i := 3) (d := some 59) (v := ?_) (by kernel_rfl) (by kernel_rfl) rfl rfl (by kernel_rfl) (by kernel_rfl) (by kernel_rfl) (fun _ _ _ h => h) (Or.inl ⟨by rfl, ?_⟩) (by assumption) ?_
              rotate_left
              · (intro w hSw; (try dsimp only at hSw); go_simp; (try rw [if_neg (by omega)]); (try (with_reducible rfl)))
              simp only [Act.put, List.setIfInBounds_toArray, List.set_cons_zero, List.set_cons_succ]
              refine take_F (i := 4) (d := some 60) (v := ?_) (by kernel_rfl) (by kernel_rfl) rfl rfl (by kernel_rfl) (by kernel_rfl) (by kernel_rfl) (fun _ _ _ h => h) (Or.inl ⟨by rfl, ?_⟩) (by assumption) ?_
              rotate_left
              · (intro w hSw; (try dsimp only at hSw); go_simp; (try rw [if_neg (by omega)]); (try (with_reducible rfl)))
              simp only [Act.put, List.setIfInBounds_toArray, List.set_cons_zero, List.set_cons_succ]
              refine take_F (i := 5) (d := some 61) (v := undef) (by kernel_rfl) (by kernel_rfl) rfl rfl (by kernel_rfl) (by kernel_rfl) (by kernel_rfl) (fun _ _ _ h => h) (Or.inr ⟨by rfl, rfl⟩) (by assumption) ?_
              simp only [Act.put, List.setIfInBounds_toArray, List.set_cons_zero, List.set_cons_succ]
              refine take_F (i := 6) (d := some 62) (v := undef) (by kernel_rfl) (by kernel_rfl) rfl rfl (by kernel_rfl) (by kernel_rfl) (by kernel_rfl) (fun _ _ _ h => h) (Or.inr ⟨by rfl, rfl⟩) (by assumption) ?_
              simp only [Act.put, List.setIfInBounds_toArray, List.set_cons_zero, List.set_cons_succ]
              refine take_F (i := 7) (d := some 63) (v := undef) (by kernel_rfl) (by kernel_rfl) rfl rfl (by kernel_rfl) (by kernel_rfl) (by kernel_rfl) (fun _ _ _ h => h) (Or.inr ⟨by rfl, rfl⟩) (by assumption) ?_
              simp only [Act.put, List.setIfInBounds_toArray, List.set_cons_zero, List.set_cons_succ]
              refine take_F (i := 8) (d := some 64) (v := ?_) (by kernel_rfl) (by kernel_rfl) rfl rfl (by kernel_rfl) (by kernel_rfl) (by kernel_rfl) (fun _ _ _ h => h) (Or.inl ⟨by rfl, ?_⟩) (by assumption) ?_
              rotate_left
              · (intro w hSw; (try dsimp only at hSw); go_simp; (try rw [if_neg (by omega)]); (try (with_reducible rfl)))
              simp only [Act.put, List.setIfInBounds_toArray, List.set_cons_zero, List.set_cons_succ]
              refine late_L (i := 9) (d := none) (by kernel_rfl) rfl rfl (by kernel_rfl) (fun Kq hKq => ?_)
              go_simp
              refine hKq.out _ _ ?_
              clear hKq Kq
              refine late_L (i := 10) (d := (some 3)) (by kernel_rfl) rfl rfl (by kernel_rfl) (fun Kq hKq => ?_)
              go_simp
              refine hKq.out _ _ ?_
              clear hKq Kq
              refine done_L (by kernel_rfl) ?_ _
              refine NoPanic.normal ?_
              go_wp2_with fail
              obtain ⟨⟨k0, k1, k2, k3⟩, hbz⟩ := HD.out
              refine bodyPost_ret (v := .tuple #[.agg #[.string ⟨#[109, 97, 107, 101, 114]⟩, .int .u8 62, .string T, .int .i64 0], .bool false]) (by simp [results, Tryd.results70, go_sem, k0, k1, k2, k3]) rfl ?_
              first | exact RetP.no Hpt.out hbz.drew | exact RetP.no Hpt.out hbz
            · have n2 := ne_lit (l := [109, 97, 107, 101, 114]) h2 rfl
              by_cases h3 : F = yearW
              · clear h1 n1 h2 n2
                obtain rfl : F = ⟨#[121, 101, 97, 114]⟩ := h3
                obtain ⟨⟨p0, p1, p2, p3⟩, _⟩ := blk4 HP.out.hq
                have HPY := Lib.hid (show parseT s = yearS 62 T from P3 rfl)
                clear P1 P2 P3 P4
                unfold yearS at HPY
                cases hr : readN T with
                | none =>
                  rw [hr] at HRT HPY
                  simp only [Option.getD_none, Option.isSome_none] at HRT
                  dsimp only at HPY
                  go_wp2_with fail
                  refine (HRT.out _).mono ?_; rintro e w7 ⟨rfl, hb7⟩
                  have HP1 := Lib.hid (HP.out.next hb7)
                  obtain ⟨⟨q0, q1, q2, q3⟩, f0, f1, f2, f3⟩ := blk4 HP1.out.hq
                  have HP2 := Lib.hid (HP1.out.setY 0)
                  clear hb7 p0 p1 p2 p3 HRT
                  go_upto_region 14 with (fail)
                  generalize w7.setCell ⟨g5, 3, none⟩ (.int .i64 0) = w8 at *
                  clear q0 q1 q2 q3 f0 f1 f2 f3 HP1 HP
                  obtain ⟨⟨p0, p1, p2, p3⟩, f0, f1, f2, f3⟩ := blk4 HP2.out.hq
                  obtain ⟨⟨d0, d1, d2, d3⟩, e0, e1, e2, e3⟩ := blk4 HP2.out.hr
                  have HD := Lib.hid (HP2.out.done (.string ⟨#[121, 101, 97, 114]⟩) (.int .u8 62) (.string T) (.int .i64 0))
                  refine wp_region_noPanic ?_
                  refine wp_region_L [7,6] (fun w' => w'.cell? ⟨g5, 0, none⟩ = some (.string ⟨#[121, 101, 97, 114]⟩) ∧ w'.cell? ⟨g5, 1, none⟩ = some (.int .u8 62) ∧ w'.cell? ⟨g5, 2, none⟩ = some (.string T) ∧ w'.cell? ⟨g5, 3, none⟩ = some (.int .i64 0)) (by kernel_rfl) (⟨p0, p1, p2, p3⟩) (fun hHeld => ?_)
                  refine take_L [0] (i := 0) (d := some 75) (v := ?_) (by kernel_rfl) (by kernel_rfl) (by kernel_rfl) (by kernel_rfl) rfl rfl (by kernel_rfl) (by kernel_rfl) (by kernel_rfl) (fun _ _ _ h => h) (Or.inl ⟨by rfl, ?_⟩) (by assumption) ?_
                  rotate_left
                  · (intro w hSw; (try dsimp only at hSw); go_simp; (try rw [if_neg (by omega)]); (try (with_reducible rfl)))
                  simp only [Act.put, List.setIfInBounds_toArray, List.set_cons_zero, List.set_cons_succ]
                  refine take_F (i := 1) (d := some 76) (v := ?_) (by kernel_rfl) (by kernel_rfl) rfl rfl (by kernel_rfl) (by kernel_rfl) (by kernel_rfl) (fun _ _ _ h => h) (Or.inl ⟨by rfl, ?_⟩) (by assumption) ?_
                  rotate_left
                  · (intro w hSw; (try dsimp only at hSw); go_simp; (try rw [if_neg (by omega)]); (try (with_reducible rfl)))
                  simp only [Act.put, List.setIfInBounds_toArray, List.set_cons_zero, List.set_cons_succ]
                  refine take_F (i := 2) (d := some 77) (v := ?_) (by kernel_rfl) (by kernel_rfl) rfl rfl (by kernel_rfl) (by kernel_rfl) (by kernel_rfl) (fun _ _ _ h => h) (Or.inl ⟨by rfl, ?_⟩) (by assumption) ?_
                  rotate_left
                  · (intro w hSw; (try dsimp only at hSw); go_simp; (try rw [if_neg (by omega)]); (try (with_reducible rfl)))
                  simp only [Act.put, List.setIfInBounds_toArray, List.set_cons_zero, List.set_cons_succ]
                  refine take_F (i := 3) (d := some 78) (v := undef) (by kernel_rfl) (by kernel_rfl) rfl rfl (by kernel_rfl) (by kernel_rfl) (by kernel_rfl) (fun _ _ _ h => h) (Or.inr ⟨by rfl, rfl⟩) (by assumption) ?_
                  simp only [Act.put, List.setIfInBounds_toArray, List.set_cons_zero, List.set_cons_succ]
                  refine take_F (i := 4) (d := some 79) (v := undef) (by kernel_rfl) (by kernel_rfl) rfl rfl (by kernel_rfl) (by kernel_rfl) (by kernel_rfl) (fun _ _ _ h => h) (Or.inr ⟨by rfl, rfl⟩) (by assumption) ?_
                  simp only [Act.put, List.setIfInBounds_toArray, List.set_cons_zero, List.set_cons_succ]
                  refine take_F (i := 5) (d := some 80) (v := ?_) (by kernel_rfl) (by kernel_rfl) rfl rfl (by kernel_rfl) (by kernel_rfl) (by kernel_rfl) (fun _ _ _ h => h) (Or.inl ⟨by rfl, ?_⟩) (by assumption) ?_
                  rotate_left
                  · (intro w hSw; (try dsimp only at hSw); go_simp; (try rw [if_neg (by omega)]); (try (with_reducible rfl)))
                  simp only [Act.put, List.setIfInBounds_toArray, List.set_cons_zero, List.set_cons_succ]
                  refine late_L (i := 6) (d := none) (by kernel_rfl) rfl rfl (by kernel_rfl) (fun Kq hKq => ?_)
                  go_simp
                  refine hKq.out _ _ ?_
                  clear hKq Kq
                  refine late_L (i := 7) (d := (some 3)) (by kernel_rfl) rfl rfl (by kernel_rfl) (fun Kq hKq => ?_)
                  go_simp
                  refine hKq.out _ _ ?_
                  clear hKq Kq
                  refine done_L (by kernel_rfl) ?_ _
                  refine NoPanic.normal ?_
                  go_wp2_with fail
                  obtain ⟨⟨k0, k1, k2, k3⟩, hbz⟩ := HD.out
                  refine bodyPost_ret (v := .tuple #[.agg #[.string ⟨#[121, 101, 97, 114]⟩, .int .u8 62, .string T, .int .i64 0], .bool false]) (by simp [results, Tryd.results70, go_sem, k0, k1, k2, k3]) rfl ?_
                  first | exact RetP.no HPY.out hbz.drew | exact RetP.no HPY.out hbz
                | some y =>
                  rw [hr] at HRT HPY
                  simp only [Option.getD_some, Option.isSome_some] at HRT
                  dsimp only at HPY
                  have HIy := Lib.hid (HI.out y)
                  cases hi : inB y 0 10000 with
                  | true =>
                    rw [hi] at HIy
                    rw [hi, if_pos rfl] at HPY
                    clear hi hr
                    go_wp2_with fail
                    refine (HRT.out _).mono ?_; rintro e w7 ⟨rfl, hb7⟩
                    have HP1 := Lib.hid (HP.out.next hb7)
                    obtain ⟨⟨q0, q1, q2, q3⟩, f0, f1, f2, f3⟩ := blk4 HP1.out.hq
                    have HP2 := Lib.hid (HP1.out.setY y)
                    clear hb7 p0 p1 p2 p3 HRT
                    go_upto_region 14 with (fail)
                    generalize w7.setCell ⟨g5, 3, none⟩ (.int .i64 y) = w8 at *
                    clear q0 q1 q2 q3 f0 f1 f2 f3 HP1 HP
                    obtain ⟨⟨p0, p1, p2, p3⟩, f0, f1, f2, f3⟩ := blk4 HP2.out.hq
                    obtain ⟨⟨d0, d1, d2, d3⟩, e0, e1, e2, e3⟩ := blk4 HP2.out.hr
                    have HD := Lib.hid (HP2.out.done (.string ⟨#[121, 101, 97, 114]⟩) (.int .u8 62) (.string T) (.int .i64 y))
                    refine wp_region_noPanic ?_
                    refine wp_region_L [7,6] (fun w' => w'.cell? ⟨g5, 0, none⟩ = some (.string ⟨#[121, 101, 97, 114]⟩) ∧ w'.cell? ⟨g5, 1, none⟩ = some (.int .u8 62) ∧ w'.cell? ⟨g5, 2, none⟩ = some (.string T) ∧ w'.cell? ⟨g5, 3, none⟩ = some (.int .i64 y)) (by kernel_rfl) (⟨p0, p1, p2, p3⟩) (fun hHeld => ?_)
                    refine take_L [0] (i := 0) (d := some 75) (v := ?_) (by kernel_rfl) (by kernel_rfl) (by kernel_rfl) (by kernel_rfl) rfl rfl (by kernel_rfl) (by kernel_rfl) (by kernel_rfl) (fun _ _ _ h => h) (Or.inl ⟨by rfl, ?_⟩) (by assumption) ?_
                    rotate_left
                    · (intro w hSw; (try dsimp only at hSw); go_simp; (try rw [if_neg (by omega)]); (try (with_reducible rfl)))
                    simp only [Act.put, List.setIfInBounds_toArray, List.set_cons_zero, List.set_cons_succ]
                    refine take_F (i := 1) (d := some 76) (v := ?_) (by kernel_rfl) (by kernel_rfl) rfl rfl (by kernel_rfl) (by kernel_rfl) (by kernel_rfl) (fun _ _ _ h => h) (Or.inl ⟨by rfl, ?_⟩) (by assumption) ?_
                    rotate_left
                    · (intro w hSw; (try dsimp only at hSw); go_simp; (try rw [if_neg (by omega)]); (try (with_reducible rfl)))
                    simp only [Act.put, List.setIfInBounds_toArray, List.set_cons_zero, List.set_cons_succ]
                    refine take_F (i := 2) (d := some 77) (v := ?_) (by kernel_rfl) (by kernel_rfl) rfl rfl (by kernel_rfl) (by kernel_rfl) (by kernel_rfl) (fun _ _ _ h => h) (Or.inl ⟨by rfl, ?_⟩) (by assumption) ?_
                    rotate_left
                    · (intro w hSw; (try dsimp only at hSw); go_simp; (try rw [if_neg (by omega)]); (try (with_reducible rfl)))
                    simp only [Act.put, List.setIfInBounds_toArray, List.set_cons_zero, List.set_cons_succ]
                    refine take_F (i := 3) (d := some 78) (v := ?_) (by kernel_rfl) (by kernel_rfl) rfl rfl (by kernel_rfl) (by kernel_rfl) (by kernel_rfl) (fun _ _ _ h => h) (Or.inl ⟨by rfl, ?_⟩) (by assumption) ?_
                    rotate_left
                    · (intro w hSw; (try dsimp only at hSw); go_simp; (try rw [if_neg (by omega)]); (try (with_reducible rfl)))
                    simp only [Act.put, List.setIfInBounds_toArray, List.set_cons_zero, List.set_cons_succ]
                    refine call_L (i := 4) (d := (some 79)) rfl rfl (by kernel_rfl) (fun Kq hKq => ?_)
                    go_simp
                    go_at_call 96
                    refine (HIy.out _).mono ?_; rintro e w9 ⟨rfl, rfl⟩
                    (try go_wp2_with fail)
                    refine hKq.out _ _ (⟨p0, p1, p2, p3⟩) (fun hHeld => ?_)
                    clear hKq Kq
                    (try simp only [Act.put, List.setIfInBounds_toArray, List.set_cons_zero, List.set_cons_succ])
                    refine take_F (i := 5) (d := some 80) (v := ?_) (by kernel_rfl) (by kernel_rfl) rfl rfl (by kernel_rfl) (by kernel_rfl) (by kernel_rfl) (fun _ _ _ h => h) (Or.inl ⟨by rfl, ?_⟩) (by assumption) ?_
                    rotate_left
                    · (intro w hSw; (try dsimp only at hSw); go_simp; (try rw [if_neg (by omega)]); (try (with_reducible rfl)))
                    simp only [Act.put, List.setIfInBounds_toArray, List.set_cons_zero, List.set_cons_succ]
                    refine late_L (i := 6) (d := none) (by kernel_rfl) rfl rfl (by kernel_rfl) (fun Kq hKq => ?_)
                    go_simp
                    refine hKq.out _ _ ?_
                    clear hKq Kq
                    refine late_L (i := 7) (d := (some 3)) (by kernel_rfl) rfl rfl (by kernel_rfl) (fun Kq hKq => ?_)
                    go_simp
                    refine hKq.out _ _ ?_
                    clear hKq Kq
                    refine done_L (by kernel_rfl) ?_ _
                    refine NoPanic.normal ?_
                    go_wp2_with fail
                    obtain ⟨⟨k0, k1, k2, k3⟩, hbz⟩ := HD.out
                    refine bodyPost_ret (v := .tuple #[.agg #[.string ⟨#[121, 101, 97, 114]⟩, .int .u8 62, .string T, .int .i64 y], .bool true]) (by simp [results, Tryd.results70, go_sem, k0, k1, k2, k3]) rfl ?_
                    first | exact RetP.yes HPY.out ⟨rfl, rfl, rfl, .inr (.inr rfl)⟩ hbz.drew | exact RetP.yes HPY.out ⟨rfl, rfl, rfl, .inr (.inr rfl)⟩ hbz
                  | false =>
                    rw [hi] at HIy
                    rw [hi, if_neg (by decide)] at HPY
                    clear hi hr
                    go_wp2_with fail
                    refine (HRT.out _).mono ?_; rintro e w7 ⟨rfl, hb7⟩
                    have HP1 := Lib.hid (HP.out.next hb7)
                    obtain ⟨⟨q0, q1, q2, q3⟩, f0, f1, f2, f3⟩ := blk4 HP1.out.hq
                    have HP2 := Lib.hid (HP1.out.setY y)
                    clear hb7 p0 p1 p2 p3 HRT
                    go_upto_region 14 with (fail)
                    generalize w7.setCell ⟨g5, 3, none⟩ (.int .i64 y) = w8 at *
                    clear q0 q1 q2 q3 f0 f1 f2 f3 HP1 HP
                    obtain ⟨⟨p0, p1, p2, p3⟩, f0, f1, f2, f3⟩ := blk4 HP2.out.hq
                    obtain ⟨⟨d0, d1, d2, d3⟩, e0, e1, e2, e3⟩ := blk4 HP2.out.hr
                    have HD := Lib.hid (HP2.out.done (.string ⟨#[121, 101, 97, 114]⟩) (.int .u8 62) (.string T) (.int .i64 y))
                    refine wp_region_noPanic ?_
                    refine wp_region_L [7,6] (fun w' => w'.cell? ⟨g5, 0, none⟩ = some (.string ⟨#[121, 101, 97, 114]⟩) ∧ w'.cell? ⟨g5, 1, none⟩ = some (.int .u8 62) ∧ w'.cell? ⟨g5, 2, none⟩ = some (.string T) ∧ w'.cell? ⟨g5, 3, none⟩ = some (.int .i64 y)) (by kernel_rfl) (⟨p0, p1, p2, p3⟩) (fun hHeld => ?_)
                    refine take_L [0] (i := 0) (d := some 75) (v := ?_) (by kernel_rfl) (by kernel_rfl) (by kernel_rfl) (by kernel_rfl) rfl rfl (by kernel_rfl) (by kernel_rfl) (by kernel_rfl) (fun _ _ _ h => h) (Or.inl ⟨by rfl, ?_⟩) (by assumption) ?_
                    rotate_left
                    · (intro w hSw; (try dsimp only at hSw); go_simp; (try rw [if_neg (by omega)]); (try (with_reducible rfl)))
                    simp only [Act.put, List.setIfInBounds_toArray, List.set_cons_zero, List.set_cons_succ]
                    refine take_F (i := 1) (d := some 76) (v := ?_) (by kernel_rfl) (by kernel_rfl) rfl rfl (by kernel_rfl) (by kernel_rfl) (by kernel_rfl) (fun _ _ _ h => h) (Or.inl ⟨by rfl, ?_⟩) (by assumption) ?_
                    rotate_left
                    · (intro w hSw; (try dsimp only at hSw); go_simp; (try rw [if_neg (by omega)]); (try (with_reducible rfl)))
                    simp only [Act.put, List.setIfInBounds_toArray, List.set_cons_zero, List.set_cons_succ]
                    refine take_F (i := 2) (d := some 77) (v := ?_) (by kernel_rfl) (by kernel_rfl) rfl rfl (by kernel_rfl) (by kernel_rfl) (by kernel_rfl) (fun _ _ _ h => h) (Or.inl ⟨by rfl, ?_⟩) (by assumption) ?_
                    rotate_left
                    · (intro w hSw; (try dsimp only at hSw); go_simp; (try rw [if_neg (by omega)]); (try (with_reducible rfl)))
                    simp only [Act.put, List.setIfInBounds_toArray, List.set_cons_zero, List.set_cons_succ]
                    refine take_F (i := 3) (d := some 78) (v := ?_) (by kernel_rfl) (by kernel_rfl) rfl rfl (by kernel_rfl) (by kernel_rfl) (by kernel_rfl) (fun _ _ _ h => h) (Or.inl ⟨by rfl, ?_⟩) (by assumption) ?_
                    rotate_left
                    · (intro w hSw; (try dsimp only at hSw); go_simp; (try rw [if_neg (by omega)]); (try (with_reducible rfl)))
                    simp only [Act.put, List.setIfInBounds_toArray, List.set_cons_zero, List.set_cons_succ]
                    refine call_L (i := 4) (d := (some 79)) rfl rfl (by kernel_rfl) (fun Kq hKq => ?_)
                    go_simp
                    go_at_call 96
                    refine (HIy.out _).mono ?_; rintro e w9 ⟨rfl, rfl⟩
                    (try go_wp2_with fail)
                    refine hKq.out _ _ (⟨p0, p1, p2, p3⟩) (fun hHeld => ?_)
                    clear hKq Kq
                    (try simp only [Act.put, List.setIfInBounds_toArray, List.set_cons_zero, List.set_cons_succ])
                    refine take_F (i := 5) (d := some 80) (v := ?_) (by kernel_rfl) (by kernel_rfl) rfl rfl (by kernel_rfl) (by kernel_rfl) (by kernel_rfl) (fun _ _ _ h => h) (Or.inl ⟨by rfl, ?_⟩) (by assumption) ?_
                    rotate_left
                    · (intro w hSw; (try dsimp only at hSw); go_simp; (try rw [if_neg (by omega)]); (try (with_reducible rfl)))
                    simp only [Act.put, List.setIfInBounds_toArray, List.set_cons_zero, List.set_cons_succ]
                    refine late_L (i := 6) (d := none) (by kernel_rfl) rfl rfl (by kernel_rfl) (fun Kq hKq => ?_)
                    go_simp
                    refine hKq.out _ _ ?_
                    clear hKq Kq
                    refine late_L (i := 7) (d := (some 3)) (by kernel_rfl) rfl rfl (by kernel_rfl) (fun Kq hKq => ?_)
                    go_simp
                    refine hKq.out _ _ ?_
                    clear hKq Kq
                    refine done_L (by kernel_rfl) ?_ _
                    refine NoPanic.normal ?_
                    go_wp2_with fail
                    obtain ⟨⟨k0, k1, k2, k3⟩, hbz⟩ := HD.out
                    refine bodyPost_ret (v := .tuple #[.agg #[.string ⟨#[121, 101, 97, 114]⟩, .int .u8 62, .string T, .int .i64 y], .bool false]) (by simp [results, Tryd.results70, go_sem, k0, k1, k2, k3]) rfl ?_
                    first | exact RetP.no HPY.out hbz.drew | exact RetP.no HPY.out hbz
              · have n3 := ne_lit (l := [121, 101, 97, 114]) h3 rfl
                have Hpt := Lib.hid (P4 h1 h2 h3)
                clear P1 P2 P3 P4 h1 h2 h3
                obtain ⟨⟨p0, p1, p2, p3⟩, f0, f1, f2, f3⟩ := blk4 HP.out.hq
                obtain ⟨⟨d0, d1, d2, d3⟩, e0, e1, e2, e3⟩ := blk4 HP.out.hr
                have HD := Lib.hid (HP.out.done (.string F) (.int .u8 62) (.string T) (.int .i64 0))
                go_wp2_with fail
                obtain ⟨⟨k0, k1, k2, k3⟩, hbz⟩ := HD.out
                refine bodyPost_ret (v := .tuple #[.agg #[.string F, .int .u8 62, .string T, .int .i64 0], .bool false]) (by simp [results, Tryd.results70, go_sem, k0, k1, k2, k3]) rfl ?_
                first | exact RetP.no Hpt.out hbz.drew | exact RetP.no Hpt.out hbz
    · have hks : k = s.size := by omega
      have hlt' : ¬ (k : Int) < (s.size : Int) := by omega
      have hsz : ((k : Int) == (s.size : Int)) = true := by rw [hks]; simp
      have hp0 := Hno.out (fun j hj => Hpre.out j hj (by omega))
      have HNs := Lib.hid (fun wx => HN.out s wx hs)
      obtain ⟨⟨d0, d1, d2, d3⟩, e0, e1, e2, e3⟩ := blk4 HQ1.out
      have HD := Lib.hid (res_fin HQ1.out HB1.out (.string ⟨#[119, 111, 114, 100]⟩) (.int .u8 0) (.string s) (.int .i64 0))
      cases hz : isNm s.data.toList with
      | true =>
        rw [hz] at HNs hp0
        have Hpt := Lib.hid (show parseT s = some (.word s) by rw [hp0]; rfl)
        clear hz hp0 hks Hno Hpre
        go_wp2_with fail
        refine (HNs.out _).mono ?_; rintro e w8 ⟨rfl, rfl⟩
        go_wp2_with fail
        obtain ⟨⟨k0, k1, k2, k3⟩, hbz⟩ := HD.out
        refine bodyPost_ret (v := .tuple #[.agg #[.string ⟨#[119, 111, 114, 100]⟩, .int .u8 0, .string s, .int .i64 0], .bool true]) (by simp [results, Tryd.results70, go_sem, k0, k1, k2, k3]) rfl ?_
        first | exact RetP.yes Hpt.out ⟨rfl, rfl⟩ hbz.drew | exact RetP.yes Hpt.out ⟨rfl, rfl⟩ hbz
      | false =>
        rw [hz] at HNs hp0
        have Hpt := Lib.hid (show parseT s = none by rw [hp0]; rfl)
        clear hz hp0 hks Hno Hpre
        go_wp2_with fail
        refine (HNs.out _).mono ?_; rintro e w8 ⟨rfl, rfl⟩
        go_wp2_with fail
        obtain ⟨⟨k0, k1, k2, k3⟩, hbz⟩ := HD.out
        refine bodyPost_ret (v := .tuple #[.agg #[.string ⟨#[119, 111, 114, 100]⟩, .int .u8 0, .string s, .int .i64 0], .bool false]) (by simp [results, Tryd.results70, go_sem, k0, k1, k2, k3]) rfl ?_
        first | exact RetP.no Hpt.out hbz.drew | exact RetP.no Hpt.out hbz
end Go.Proofs.YtmheijnckmlbnaaDoor
