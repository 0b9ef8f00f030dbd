/- Chains, part 9: the law's chain, and chains in blocks of their own. -/
import Derived.Test.YtdljlemgaefbpaaCh8
import Derived.Test.YtdljlemgaefbpaaLong
namespace Go.Proofs.Ytdljlemgaefbpaa
open Go.RowKit Go.Joins

def RetA2C (w : World) (e : Ending) (w' : World) : Prop :=
  ∃ vp vq n p q, e = .returned (.agg #[vp, vq]) ∧ Chn n p q ∧ Small 1000 (n + 1) q ∧ w'.ownsRow w.heap.size 2 1 vp n (tab n p) ∧ w'.ownsRow w.heap.size 2 1 vq (n + 1) (tab (n + 1) q) ∧ Below w.heap.size w w'
theorem RetA2C.of {w w' : World} {vp vq : Value} {ps qs : List Int} (hF : DrF ps qs) (h1 : 1 ≤ ps.length) (h5 : ps.length ≤ 5) (ho1 : w'.ownsRow w.heap.size 2 1 vp ps.length (nmV ps)) (ho2 : w'.ownsRow w.heap.size 2 1 vq qs.length (nmV qs)) (hb : Below w.heap.size w w') : RetA2C w (.returned (.agg #[vp, vq])) w' := by
  obtain ⟨hc, hs⟩ := hF.chn h1 h5
  rw [nmV_tab] at ho1 ho2
  rw [hF.2.1] at ho2
  exact ⟨vp, vq, ps.length, at0 ps, at0 qs, rfl, hc, hs, ho1, ho2, hb⟩

set_option maxRecDepth 100000 in
set_option maxHeartbeats 1600000 in
theorem A2Chain_any (B : Nat) (cv : Value) (bs : List UInt8) (w : World) (h : Rd w B cv bs.length 1 (bs.map byV)) (hB : B ≤ w.heap.size) :
    Calls Try.prog 10 #[cv] w (RetA2C w) := by
  have hb1 := (Below.refl w.heap.size w).alloc (Nat.le_refl _) (.cells #[.slice none 0 0, .slice none 0 0] 26)
  have HF := Lib.hid (l00From_any B cv bs _ (h.below (hb1.mono hB)) (Nat.le_trans hB hb1.size))
  have Hb1 := Lib.hid hb1
  have Hr1 := Lib.hid (heap_alloc_new w (.cells #[.slice none 0 0, .slice none 0 0] 26))
  have hz1 : w.heap.size < (w.alloc (.cells #[.slice none 0 0, .slice none 0 0] 26)).heap.size := by simp
  obtain ⟨A, c, rfl⟩ := rd_sl h
  clear h hb1
  go_enter Try.func10, Try.ntmps10
  go_wp2_with fail
  generalize w.alloc (.cells #[.slice none 0 0, .slice none 0 0] 26) = w1 at *
  refine HF.out.mono ?_; rintro e w2 ⟨rfl, hs2, hb2, hz2⟩
  have HD := Lib.hid (l04DrawChain_any B w1.heap.size bs w2 hs2)
  unfold RetDC at HD
  have hr2 := (hb2.block w.heap.size hz1).trans Hr1.out
  have Hr2 := Lib.hid hr2
  have Hb2 := Lib.hid (Hb1.out.trans (hb2.mono (Nat.le_of_lt hz1)))
  clear hs2 hb2 hr2
  go_wp2_with fail
  refine (HD.out).mono ?_; rintro e w3 ⟨vp, vq, ps, qs, rfl, hF, h1, h5, ho3, ho4, hb3⟩
  obtain ⟨A3, c3, rfl⟩ := own_sl ho3
  obtain ⟨A4, c4, rfl⟩ := own_sl ho4
  have hr3 := (hb3.block w.heap.size hz1).trans Hr2.out
  obtain ⟨r0, r1, z0, z1⟩ := blk2 hr3
  have hq := heap_setCell_same _ w.heap.size 1 _ _ (.slice A4 qs.length c4) (heap_setCell_same w3 w.heap.size 0 _ _ (.slice A3 ps.length c3) hr3)
  obtain ⟨e0, e1, _, _⟩ := blk2 hq
  have He0 := Lib.hid e0
  have He1 := Lib.hid e1
  have hle : w.heap.size < w2.heap.size := Nat.lt_trans hz1 hz2
  have Ho3 := Lib.hid (res2_own ho3 (g := w.heap.size) (B := w.heap.size) hle (Nat.le_of_lt hle) (.slice A3 ps.length c3) (.slice A4 qs.length c4))
  have Ho4 := Lib.hid (res2_own ho4 (g := w.heap.size) (B := w.heap.size) hle (Nat.le_of_lt hle) (.slice A3 ps.length c3) (.slice A4 qs.length c4))
  have Hbe := Lib.hid (((Hb2.out.trans (hb3.mono (Nat.le_of_lt hz1))).setCell (p := ⟨w.heap.size, 0, none⟩) (Nat.le_refl _) (.slice A3 ps.length c3)).setCell (p := ⟨w.heap.size, 1, none⟩) (Nat.le_refl _) (.slice A4 qs.length c4))
  have Hfin := Lib.hid (RetA2C.of hF h1 h5 Ho3.out Ho4.out Hbe.out)
  clear hq e0 e1 hr3 ho3 ho4 hb3 hF h1 h5
  go_wp2_with fail
  exact bodyPost_ret (v := .agg #[.slice A3 ps.length c3, .slice A4 qs.length c4]) (by simp [results, Try.results10, go_sem, He0.out, He1.out]) rfl Hfin.out

/-- a chain in a block of its own -/
def ChIn (w : World) (g n : Nat) (p q : Nat → Int) (gp cp gq cq : Nat) : Prop :=
  w.cell? ⟨g, 0, none⟩ = some (.slice (some ⟨gp, 0, none⟩) n cp) ∧ w.cell? ⟨g, 1, none⟩ = some (.slice (some ⟨gq, 0, none⟩) (n + 1) cq) ∧ g < w.heap.size ∧ RdC w w.heap.size (.slice (some ⟨gp, 0, none⟩) n cp) (.slice (some ⟨gq, 0, none⟩) (n + 1) cq) n p q
theorem ChIn.below {w w' : World} {g n gp cp gq cq : Nat} {p q : Nat → Int} (h : ChIn w g n p q gp cp gq cq) (hb : Below w.heap.size w w') : ChIn w' g n p q gp cp gq cq :=
  ⟨(hb.cell (p := ⟨g, 0, none⟩) h.2.2.1).trans h.1, (hb.cell (p := ⟨g, 1, none⟩) h.2.2.1).trans h.2.1, Nat.lt_of_lt_of_le h.2.2.1 hb.size, h.2.2.2.next hb⟩
theorem ChIn.new {w : World} {n gp cp gq cq : Nat} {p q : Nat → Int} (h : RdC w w.heap.size (.slice (some ⟨gp, 0, none⟩) n cp) (.slice (some ⟨gq, 0, none⟩) (n + 1) cq) n p q) : ChIn (w.alloc (.cells #[.slice (some ⟨gp, 0, none⟩) n cp, .slice (some ⟨gq, 0, none⟩) (n + 1) cq] 26)) w.heap.size n p q gp cp gq cq :=
  ⟨box2.1, box2.2, by simp, h.next ((Below.refl _ _).alloc (Nat.le_refl _) _)⟩
theorem ChIn.fill {w : World} {G n gp cp gq cq : Nat} {p q : Nat → Int} (hG : w.heap[G]? = some nilC) (h : w.ownsRow (G + 1) 2 1 (.slice (some ⟨gp, 0, none⟩) n cp) n (tab n p)) (h' : w.ownsRow (G + 1) 2 1 (.slice (some ⟨gq, 0, none⟩) (n + 1) cq) (n + 1) (tab (n + 1) q)) :
    ChIn ((w.setCell ⟨G, 0, none⟩ (.slice (some ⟨gp, 0, none⟩) n cp)).setCell ⟨G, 1, none⟩ (.slice (some ⟨gq, 0, none⟩) (n + 1) cq)) G n p q gp cp gq cq := by
  have g := heap_setCell_same _ G 1 _ _ (.slice (some ⟨gq, 0, none⟩) (n + 1) cq) (heap_setCell_same w G 0 _ _ (.slice (some ⟨gp, 0, none⟩) n cp) hG)
  obtain ⟨e0, e1, _, _⟩ := blk2 g
  exact ⟨e0, e1, (Array.getElem?_eq_some_iff.1 g).1, Rd.of_own (res2_own h (g := G) (B := 0) (Nat.lt_succ_self G) (Nat.zero_le _) _ _), Rd.of_own (res2_own h' (g := G) (B := 0) (Nat.lt_succ_self G) (Nat.zero_le _) _ _)⟩
theorem ChIn.at {w : World} {g n gp cp gq cq : Nat} {p q : Nat → Int} (h : ChIn w g n p q gp cp gq cq) (k : Nat) (hk : k ≤ n) : w.cell? ⟨gq, k, none⟩ = some (.int .i64 (q k)) := by
  obtain ⟨b, off, hA, _, hc⟩ := rdF_all h.2.2.2.2 (show 0 < n + 1 by omega)
  injection hA with hA
  injection hA with h1 h2
  subst h1
  subst h2
  have := hc k (by omega)
  rwa [Nat.zero_add] at this
theorem RdC.of_own {w : World} {b1 b2 n gp cp gq cq : Nat} {p q : Nat → Int} (h : w.ownsRow b1 2 1 (.slice (some ⟨gp, 0, none⟩) n cp) n (tab n p)) (h' : w.ownsRow b2 2 1 (.slice (some ⟨gq, 0, none⟩) (n + 1) cq) (n + 1) (tab (n + 1) q)) :
    RdC w w.heap.size (.slice (some ⟨gp, 0, none⟩) n cp) (.slice (some ⟨gq, 0, none⟩) (n + 1) cq) n p q := ⟨Rd.of_own h, Rd.of_own h'⟩
theorem mv_chn {n : Nat} {p q : Nat → Int} {tz : Int} (hc : Chn n p q) (ht : -2000 ≤ tz ∧ tz ≤ 2000) : Chn n p (mv p q tz) := by
  obtain ⟨h1, h2, h3, h4, h5⟩ := hc
  exact ⟨h1, h2, mv_ok h3 tz, h4, fun k hk => by
    have := mv_near1 ⟨h1, h2, h3, h4, h5⟩ ht k (by omega)
    omega⟩
/-- a place that has moved -/
theorem mv_sides {n : Nat} {p q : Nat → Int} {tz : Int} (hc : Chn n p q) (k : Nat) (hk : k ≤ n) : (q 0 ≤ tz → q k ≤ mv p q tz k) ∧ (tz ≤ q 0 → mv p q tz k ≤ q k) := by
  refine ⟨fun h => ?_, fun h => ?_⟩
  · rw [mv_up hc.2.2.1 tz h k hk]; omega
  · rw [mv_dn hc.2.2.1 tz h k hk]; omega
theorem need_in {n : Nat} {p q : Nat → Int} {goal : Int} (hc : Chn n p q) (hg : -20 ≤ goal ∧ goal ≤ 20) (hq : -1000 ≤ q 0 ∧ q 0 ≤ 1000) : -2000 ≤ need p q n goal ∧ need p q n goal ≤ 2000 := by
  obtain ⟨h1, h2⟩ := tot_bd hc n (Nat.le_refl _)
  have hn := hc.2.1
  have := need_bd (p := p) (q := q) (n := n) (goal := goal) (T := 1000) (M := 1000) (by omega) h1 (by omega) hq
  omega
end Go.Proofs.Ytdljlemgaefbpaa
