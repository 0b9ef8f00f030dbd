/- Journals, part 5: readJournal. -/
import Derived.Test.YtcidjbgjgancgaaDoorJr4
import Derived.Test.YtcidjbgjgancgaaDoorMark
import Derived.Deep.LoopGhost
import Derived.Deep.RegionHeld3
import Derived.Deep.RegionLaw
import Derived.Lib.OwnKind
import Derived.OneCell
namespace Go.Proofs.YtcidjbgjgancgaaDoor
open Go.RowKit Go.Joins

def JAt (w : World) (B g : Nat) (st : JSt) : Prop :=
  ∃ nv, Jn w g nv st.sum st.at_ ∧ w.ownsRow B 9 1 nv st.notes.length (strs st.notes) ∧ B ≤ g

theorem Jn.new (w : World) (o : Obj) (nv : Value) : Jn ((w.alloc o).alloc (.cells #[nv, .int .i64 0, .int .i64 0] 49)) (w.heap.size + 1) nv 0 0 := by
  have := heap_alloc_new (w.alloc o) (.cells #[nv, .int .i64 0, .int .i64 0] 49)
  simpa [Jn] using this

theorem Jn.row {w w' : World} {g B n : Nat} {nv v : Value} {sum : Int} {a : Nat} {xs : List Value} (hj : Jn w g nv sum a) (ho : w.ownsRow B 9 1 v n xs) (hg : w.grownBy w' v.ownBlock) : Jn w' g nv sum a := by
  refine (hg.block g hj.lt (fun e => ?_)).trans hj
  obtain ⟨c, fz, hk⟩ := Lib.ownsRow_kind ho g e.symm
  unfold Jn at hj
  rw [hj] at hk
  injection hk with hk
  injection hk with _ h _
  exact absurd h (by decide)
theorem Jn.ne {w : World} {g B n : Nat} {nv v : Value} {sum : Int} {a : Nat} {xs : List Value} (hj : Jn w g nv sum a) (ho : w.ownsRow B 9 1 v n xs) : v.ownBlock ≠ some g := by
  intro e
  obtain ⟨c, fz, hk⟩ := Lib.ownsRow_kind ho g e
  unfold Jn at hj
  rw [hj] at hk
  injection hk with hk
  injection hk with _ h _
  exact absurd h (by decide)
/-- a journal is turned -/
theorem jat_set {w W : World} {B g n : Nat} {nv v : Value} {sum : Int} {a : Nat} {notes : List ByteArray} (hj : Jn w g nv sum a) (ho : w.ownsRow B 9 1 v n (strs notes)) (hn : n = notes.length) (hB : B ≤ g) (hb : Below B W w)
    (sum' : Int) (X : Int) (a' : Nat) (hX : X = (a' : Int)) :
    JAt (((w.setCell ⟨g, 0, none⟩ v).setCell ⟨g, 1, none⟩ (.int .i64 sum')).setCell ⟨g, 2, none⟩ (.int .i64 X)) B g ⟨a', sum', notes⟩ ∧
      Below B W (((w.setCell ⟨g, 0, none⟩ v).setCell ⟨g, 1, none⟩ (.int .i64 sum')).setCell ⟨g, 2, none⟩ (.int .i64 X)) := by
  subst hX hn
  have hne := hj.ne ho
  refine ⟨⟨v, heap_setCell_same _ g 2 _ _ _ (heap_setCell_same _ g 1 _ _ _ (heap_setCell_same _ g 0 _ _ _ hj)), ?_, hB⟩, ((hb.setCell (p := ⟨g, 0, none⟩) hB _).setCell (p := ⟨g, 1, none⟩) hB _).setCell (p := ⟨g, 2, none⟩) hB _⟩
  exact ownsRow_setCell_other (ownsRow_setCell_other (ownsRow_setCell_other ho (a := ⟨g, 0, none⟩) hne _) (a := ⟨g, 1, none⟩) hne _) (a := ⟨g, 2, none⟩) hne _

theorem infoS : (Tryd.prog.info? 9).map (fun i => (i.zero, i.size, i.bytes)) = some (some (.string ⟨#[]⟩), 1, 16) := by kernel_rfl

theorem cutR (r : ByteArray) (c : UInt8) (hs : r.size ≤ 1073741824) (w : World) :
    Calls Tryd.prog 48 #[.string r, .string ⟨#[c]⟩] w fun e w' => e = .returned (.tuple #[.string (r.extract 0 (fnd c r)), .string (tailOf c r), .bool (decide (fnd c r < r.size))]) ∧ ∃ n, w' = w.drewN n := cut_any r c w hs

theorem cutN (r : ByteArray) (hs : r.size ≤ 1073741824) (w : World) :
    Calls Tryd.prog 48 #[.string r, .string ⟨#[10]⟩] w fun e w' => e = .returned (.tuple #[.string (headOf r), .string (tailOf 10 r), .bool (decide (fnd 10 r < r.size))]) ∧ ∃ n, w' = w.drewN n := cut_any r 10 w hs

set_option maxRecDepth 100000 in
set_option maxHeartbeats 4000000 in
theorem readJournal_any (s : ByteArray) (w : World) (hs : s.size ≤ 4000) (ht : Tab w) :
    Calls Tryd.prog 32 #[.string s] w fun e w' => ∃ g, e = .returned (.pointer (some ⟨g, 0, none⟩)) ∧ JAt w' w.heap.size g (readJ s) ∧ Below w.heap.size w w' := by
  have Ht := Lib.hid ht; clear ht
  go_enter Tryd.func32, Tryd.ntmps32
  go_wp2_with fail
  go_loopg [4] s.size (fun k _ wr => ∃ (st : JSt), OnWay s st ∧ st.at_ + k = s.size ∧ JAt wr w.heap.size (w.heap.size + 1) st ∧ Below w.heap.size w wr)
  case atStart =>
    exact ⟨⟨0, 0, []⟩, OnWay.start s, by simp, ⟨_, Jn.new _ _ _, (World.ownsRow_made w #[] 0 (Nat.le_refl _) (by simp [maxLen]) rfl).alloc _, by omega⟩, ((Below.refl _ _).alloc (Nat.le_refl _) _).alloc (by simp) _⟩
  case round =>
    obtain ⟨⟨a, sum, notes⟩, hway, hk, ⟨nv, hjn, hown, hB⟩, hbl⟩ := hrel
    obtain ⟨_, A, c, rfl, _⟩ := Rd.of_own hown
    obtain ⟨⟨_, h1, h2, _, _⟩⟩ := (⟨hway⟩ : PLift (OnWay s _))
    simp only at hjn hown hk h1 h2
    have hn : notes.length ≤ 4000 := by omega
    obtain ⟨hc0, hc1, hc2, hf0, hf1, hf2⟩ := hjn.cells
    have Hjn := Lib.hid hjn; clear hjn
    have Hway := Lib.hid hway; clear hway
    have hr : s.extract a s.size = restOf s a := rfl
    have hno1 := Lib.hid (fun h => Hway.out.no1 (st := ⟨a, sum, notes⟩) h)
    have hno2 := Lib.hid (fun h => Hway.out.no2 (st := ⟨a, sum, notes⟩) h)
    have hyes := Lib.hid (fun h h' => Hway.out.step (st := ⟨a, sum, notes⟩) h h')
    have hrs := rest_size s a
    simp only at hno1 hno2 hyes
    have hrz : (restOf s a).size ≤ 4000 := by omega
    have Hrs := Lib.hid hrs; clear hrs
    have ha4 : a ≤ 4000 := by omega
    generalize restOf s a = r at *
    have HC1 := Lib.hid (fun w => cutN r (by omega) w)
    have hls := head_size r
    have hfl := fnd_le 10 r
    generalize headOf r = l at *
    generalize tailOf 10 r = r2 at *
    generalize hb1 : decide (fnd 10 r < r.size) = b1 at *
    have Hb1 := Lib.hid hb1; clear hb1
    cases b1 with
    | false =>
      have hfin := Lib.hid (hno1.out (by have := Hb1.out; simpa using this))
      clear hno1 hno2 hyes
      go_wp2_with fail
      refine (HC1.out _).mono ?_; rintro e w1 ⟨rfl, nq, rfl⟩
      go_wp2_with fail
      go_ret
      rw [hfin.out]
      exact ⟨_, rfl, ⟨_, Hjn.out, hown.drewN nq, hB⟩, below_drewN hbl nq⟩
    | true =>
      have hlz : l.size ≤ 4000 := by omega
      have hfr := Lib.hid (show fnd 10 r < r.size by have := Hb1.out; simpa using this)
      have Hls := Lib.hid hls; clear hls
      clear hno1
      have HC2 := Lib.hid (fun w => cutR l 32 (by omega) w)
      have hts := tail_size 32 l
      have hnz := note_size l
      have hT : noteOf l = tailOf 32 (tailOf 32 l) := rfl
      have hG : ∀ n sum, goodJ n sum l = (decide (fnd 32 l < l.size) && decide (fnd 32 (tailOf 32 l) < (tailOf 32 l).size) && noteOk (noteOf l).data.toList && decide (lineS ((n : Int) + 1) (noteSum sum ((n : Int) + 1) (noteOf l).data.toList) (noteOf l) = l ++ ⟨#[10]⟩)) := fun _ _ => rfl
      rw [hG] at hno2 hyes
      clear hG
      have HC3 := Lib.hid (fun w => cutR (tailOf 32 l) 32 (by omega) w)
      rw [← hT] at HC3
      clear hT
      have hx := Lib.hid (fun v hw ht => next_j (w.heap.size + 1) notes.length c A sum a (noteOf l) v hw (by omega) (by omega) ht)
      have HI := Lib.hid (fun w => isNote_any (noteOf l) w (by omega))
      have hyes := Lib.hid (hyes.out (by have := Hb1.out; simpa using this))
      have hbd := noteSum_bd sum ((notes.length : Int) + 1) (noteOf l).data.toList
      generalize noteSum sum ((notes.length : Int) + 1) (noteOf l).data.toList = S at *
      generalize lineS ((notes.length : Int) + 1) S (noteOf l) = due at *
      generalize noteOf l = note at *
      generalize noteOk note.data.toList = ok at *
      generalize decide (fnd 32 l < l.size) = o1 at *
      generalize decide (fnd 32 (tailOf 32 l) < (tailOf 32 l).size) = o2 at *
      generalize (tailOf 32 l).extract 0 (fnd 32 (tailOf 32 l)) = x1 at *
      generalize l.extract 0 (fnd 32 l) = x2 at *
      generalize tailOf 32 l = T at *
      clear hts Hb1
      go_wp2_with fail
      refine (HC1.out _).mono ?_; rintro e w1 ⟨rfl, nq1, rfl⟩
      go_wp2_with fail
      refine (HC2.out _).mono ?_; rintro e w1 ⟨rfl, nq2, rfl⟩
      go_wp2_with fail
      refine (HC3.out _).mono ?_; rintro e w1 ⟨rfl, nq3, rfl⟩
      go_wp2_with fail
      generalize nq1 + nq2 + nq3 = m at *
      have hblm := below_drewN hbl m
      have hownm := hown.drewN m
      have Hjnm := Lib.hid (show Jn (wr.drewN m) (w.heap.size + 1) (.slice A notes.length c) sum a from Hjn.out)
      have hzm : w.heap.size ≤ (wr.drewN m).heap.size := hbl.size
      generalize wr.drewN m = w3 at *
      refine (hx.out _ Hjnm.out (Ht.out.below hblm)).mono ?_; rintro e w4 ⟨rfl, hb4⟩
      have hown4 := own_below hownm hb4
      have hbl4 := hblm.trans (hb4.mono hzm)
      have Hjn4 := Lib.hid (Hjnm.out.below hb4)
      clear hb4 hc0 hc1 hc2 hf0 hf1 hf2 Hjn Hjnm
      obtain ⟨hc0, hc1, hc2, hf0, hf1, hf2⟩ := Hjn4.out.cells
      cases o1 with
      | false =>
        have hfin := Lib.hid (hno2.out rfl)
        go_wp2_with fail
        go_ret
        rw [hfin.out]
        exact ⟨_, rfl, ⟨_, Hjn4.out, hown4, hB⟩, hbl4⟩
      | true =>
        cases o2 with
        | false =>
          have hfin := Lib.hid (hno2.out rfl)
          go_wp2_with fail
          go_ret
          rw [hfin.out]
          exact ⟨_, rfl, ⟨_, Hjn4.out, hown4, hB⟩, hbl4⟩
        | true =>
          cases ok with
          | false =>
            have hfin := Lib.hid (hno2.out rfl)
            go_wp2_with fail
            refine (HI.out _).mono ?_; rintro e w5 ⟨rfl, rfl⟩
            go_wp2_with fail
            go_ret
            rw [hfin.out]
            exact ⟨_, rfl, ⟨_, Hjn4.out, hown4, hB⟩, hbl4⟩
          | true =>
            by_cases hdue : due = l ++ ⟨#[10]⟩
            · have hway := Lib.hid (hyes.out (by simp [hdue]))
              clear hyes hno2
              subst hdue
              go_wp2_with fail
              refine (HI.out _).mono ?_; rintro e w5 ⟨rfl, rfl⟩
              have e1 : (l ++ ⟨#[10]⟩ : ByteArray).size = l.size + 1 := ByteArray.size_append
              clear hx HC1 HC2 HC3 HI hown hownm hblm hbl hyes
              go_wp2_with fail
              have hjA := Hjn4.out.below ((Below.refl w4.heap.size w4).alloc (Nat.le_refl _) (.cells #[.string note] 9))
              obtain ⟨ha0, ha1, ha2, ga0, ga1, ga2⟩ := hjA.cells
              go_region_law
                ((refine step_apd 27 9 _ 1 16 Tryd.underlying27 infoS rfl (by omega) _ _ (by rfl) (by rfl) w.heap.size (.slice A notes.length c) notes.length _ (by rfl) hown4 #[.string note] 1 1 (by rfl) (by rfl) (by simp [Value.oneCell']) (by simp [maxLen]; omega) (by omega) (hbl4.size) ?_; intro v' w5 hown5 hg5; obtain ⟨_, A5, c5, rfl, _⟩ := Rd.of_own hown5; have Hj5 := Lib.hid (Hjn4.out.row hown4 hg5); have Hb5 := Lib.hid (below_apd hbl4 hown4 hg5 (Nat.le_refl _) hbl4.size); obtain ⟨k0, k1, k2, kf0, kf1, kf2⟩ := (Hjn4.out.row hown4 hg5).cells))
              all_goals
                have hle : a + (fnd 10 r + 1) ≤ s.size := by have := hfr.out; have := Hrs.out; omega
                go_wp2_with fail
                go_roundg (s.size - (a + (fnd 10 r + 1)))
                case measure => omega
                case rel =>
                  have hfin := jat_set (B := w.heap.size) (notes := notes ++ [note]) Hj5.out (by simpa [strs] using hown5) (by simp) hB Hb5.out S (IntKind.i64.wrap ((a : Int) + ((l.size : Int) + 1))) (a + (fnd 10 r + 1)) (by rw [IntWalk.i64_in _ (by omega)]; have := Hls.out; omega)
                  exact ⟨_, hway.out, by show a + (fnd 10 r + 1) + _ = _; omega, hfin.1, hfin.2⟩
            · have hfin := Lib.hid (hno2.out (by simp [hdue]))
              have hq : (due.toList == (l ++ ⟨#[10]⟩ : ByteArray).toList) = false := by
                rw [beq_eq_false_iff_ne]; exact fun h => hdue (ba_inj h)
              have hq2 : (due.toList != (l ++ ⟨#[10]⟩ : ByteArray).toList) = true := by
                simp only [bne, hq]; rfl
              clear hyes hno2 hdue
              go_wp2_with fail
              refine (HI.out _).mono ?_; rintro e w5 ⟨rfl, rfl⟩
              go_wp2_with fail
              go_ret
              rw [hfin.out]
              exact ⟨_, rfl, ⟨_, Hjn4.out, hown4, hB⟩, hbl4⟩
end Go.Proofs.YtcidjbgjgancgaaDoor
