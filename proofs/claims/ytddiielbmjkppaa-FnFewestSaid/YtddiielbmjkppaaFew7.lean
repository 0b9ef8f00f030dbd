/- Fewest turns, part 7: the reference's fewest turns (made in a struct of its own). -/
import Derived.Test.YtddiielbmjkppaaFew6
import Derived.Test.YtddiielbmjkppaaDr1
namespace Go.Proofs.Ytddiielbmjkppaa
open Go.RowKit Go.Joins

/-- two blocks of different types are two blocks -/
theorem own_ne {w : World} {base n sz g : Nat} {e t : TypeId} {v : Value} {xs : List Value} {cs : Array Value} {f : Nat × Nat} (h : w.ownsRow base e sz v n xs) (hg : w.heap[g]? = some (.cells cs t f)) (hne : e ≠ t) : v.ownBlock ≠ some g := by
  rcases h.2 with ⟨rfl, _⟩ | ⟨g', cap, cur, rfl, _, h1, _⟩
  · simp [Value.ownBlock]
  · intro h2
    simp [Value.ownBlock] at h2
    subst h2
    rw [h1] at hg
    simp at hg
    exact hne hg.2.1
/-- a struct of turns in block g, and a result's block r beside it -/
structure TurnsAt (B0 : Nat) (w wr : World) (r g b : Nat) (v : Value) (l : List Int) : Prop where
  res : wr.heap[r]? = some (.cells #[.int .i64 0, .slice none 0 0] 58 (0, 0))
  own : wr.heap[g]? = some (.cells #[.int .i64 (b : Int), v] 58 (0, 0))
  row : wr.ownsRow w.heap.size 2 1 v l.length (nmV l)
  bel : Below B0 w wr
theorem TurnsAt.app {B0 : Nat} {w wr w' : World} {r g b : Nat} {v v' : Value} {l : List Int} {x : Int} (h : TurnsAt B0 w wr r g b v l) (hB : B0 ≤ w.heap.size) (hg : w.heap.size ≤ g) (hrg : r ≠ g) (h2 : w'.ownsRow w.heap.size 2 1 v' (l.length + 1) (nmV l ++ [.int .i64 x])) (h3 : wr.grownBy w' v.ownBlock) :
    w'.cell? ⟨g, 1, none⟩ = some v ∧ w'.frozen? ⟨g, 1, none⟩ = false ∧ TurnsAt B0 w (w'.setCell ⟨g, 1, none⟩ v') r g b v' (l ++ [x]) := by
  have hr0 := (h3.block r (Array.getElem?_eq_some_iff.1 h.res).1 (fun e => own_ne h.row h.res (by decide) e.symm)).trans h.res
  have hg0 := (h3.block g (Array.getElem?_eq_some_iff.1 h.own).1 (fun e => own_ne h.row h.own (by decide) e.symm)).trans h.own
  obtain ⟨_, q1, _, q3⟩ := blk2 hg0
  refine ⟨q1, q3, ⟨(Below.heap_setCell _ _ _ _ hrg).trans hr0, heap_setCell_same w' g 1 _ _ v' hg0, ?_, ?_⟩⟩
  · have h4 : w'.ownsRow w.heap.size 2 1 v' (l ++ [x]).length (nmV (l ++ [x])) := by rw [List.length_append, nmV_app]; exact h2
    refine h4.kept (row := some g) ⟨rfl, rfl, rfl, by simp [World.setCell], fun i _ hi => Below.heap_setCell _ _ _ _ (fun e => hi (by rw [e]))⟩ ?_
    have := own_ne h4 hg0 (by decide)
    cases hv : v'.ownBlock with
    | none => exact .inl rfl
    | some y => exact .inr (fun e => this (by rw [hv, e]))
  · exact (h.bel.grown h3 (Nat.le_trans hB h.bel.size) (fun k hk => Nat.le_trans hB (h.row.lt k hk).1)).setCell (p := ⟨g, 1, none⟩) (Nat.le_trans hB hg) v'
theorem three_at (w : World) (b : Nat) :
    TurnsAt w.heap.size w (((w.alloc (.cells #[.int .i64 0, .slice none 0 0] 58)).alloc (.cells #[] 2)).alloc (.cells #[.int .i64 (b : Int), .slice (some ⟨w.heap.size + 1, 0, none⟩) 0 0] 58)) w.heap.size (w.heap.size + 2) b (.slice (some ⟨w.heap.size + 1, 0, none⟩) 0 0) [] := by
  refine ⟨?_, ?_, ?_, (((Below.refl _ _).alloc (Nat.le_refl _) _).alloc (by simp) _).alloc (by simp; omega) _⟩
  · show (((w.heap.push _).push _).push _)[w.heap.size]? = _
    simp only [Array.getElem?_push, Array.size_push]
    rw [if_neg (by omega), if_neg (by omega), if_pos trivial]
  · show (((w.heap.push _).push _).push _)[w.heap.size + 2]? = _
    simp only [Array.getElem?_push, Array.size_push]
    rw [if_pos trivial]
  · have h := World.ownsRow_made (base := w.heap.size) (e := 2) (size := 1) (w.alloc (.cells #[.int .i64 0, .slice none 0 0] 58)) #[] 0 (by simp) (by simp [maxLen]) rfl
    rw [show (w.alloc (.cells #[.int .i64 0, .slice none 0 0] 58)).heap.size = w.heap.size + 1 by simp] at h
    exact h.alloc _
theorem TurnsAt.done {B0 : Nat} {w wr : World} {r g b : Nat} {v : Value} {l : List Int} (h : TurnsAt B0 w wr r g b v l) (hr : B0 ≤ r) (x y : Value) : ((wr.setCell ⟨r, 0, none⟩ x).setCell ⟨r, 1, none⟩ y).ownsRow w.heap.size 2 1 v l.length (nmV l) ∧ Below B0 w ((wr.setCell ⟨r, 0, none⟩ x).setCell ⟨r, 1, none⟩ y) := by
  refine ⟨h.row.kept (row := some r) ⟨rfl, rfl, rfl, by simp [World.setCell], fun i _ hi => ?_⟩ ?_, (h.bel.setCell (p := ⟨r, 0, none⟩) hr x).setCell (p := ⟨r, 1, none⟩) hr y⟩
  · have hi' : i ≠ r := fun e => hi (by rw [e])
    rw [Below.heap_setCell _ _ _ _ hi', Below.heap_setCell _ _ _ _ hi']
  · have := own_ne h.row h.res (by decide)
    cases hv : v.ownBlock with
    | none => exact .inl rfl
    | some y => exact .inr (fun e => this (by rw [hv, e]))

set_option maxRecDepth 100000 in
set_option maxHeartbeats 1600000 in
theorem l13Few_any (b N : Nat) (w : World) (hb : 2 ≤ b) (hb2 : b ≤ 16) (hN : N ≤ 62500000) : Calls Try.prog 314 #[.int .i64 (b : Int), .int .i64 (N : Int)] w fun e w' => ∃ v, e = .returned (.agg #[.int .i64 (b : Int), v]) ∧ w'.ownsRow w.heap.size 2 1 v (few b N).length (nmV (few b N)) ∧ Below w.heap.size w w' := by
  have Hlen := Lib.hid (few_len hb hN)
  go_enter Try.func314, Try.ntmps314
  go_wp2_with fail
  go_loopw [1] (fun i wr => ∃ (acc : List Int) (m : Nat) (v : Value), acc ++ few b m = few b N ∧ m ≤ N ∧ i = .int .i64 (m : Int) ∧ TurnsAt w.heap.size w wr w.heap.size (w.heap.size + 2) b v acc) (fun i _ => (intOf i).toNat)
  case atStart => exact ⟨[], N, _, rfl, Nat.le_refl _, rfl, three_at w b⟩
  case round =>
    obtain ⟨acc, m, v, heq, hmN, rfl, htu⟩ := hrel
    obtain ⟨A3, c3, rfl⟩ := own_sl htu.row
    have hal : acc.length ≤ 28 := by have := congrArg List.length heq; rw [List.length_append] at this; have := Hlen.out; omega
    obtain ⟨q0, q1, z0, z1⟩ := blk2 htu.own
    have Htu := Lib.hid htu
    by_cases hm : m = 0
    · subst hm
      have Heq := Lib.hid heq
      clear heq htu
      obtain ⟨r0, r1, y0, y1⟩ := blk2 Htu.out.res
      have hq := heap_setCell_same _ w.heap.size 1 _ _ (.slice A3 acc.length c3) (heap_setCell_same wr w.heap.size 0 _ _ (.int .i64 (b : Int)) Htu.out.res)
      obtain ⟨e0, e1, _, _⟩ := blk2 hq
      have Hq0 := Lib.hid e0
      have Hq1 := Lib.hid e1
      clear hq e0 e1
      go_wp2_with fail
      have := Heq.out
      rw [show few b 0 = [] from rfl, List.append_nil] at this
      subst this
      exact bodyPost_ret (v := .agg #[.int .i64 (b : Int), (.slice A3 (few b N).length c3)]) (by simp [results, Try.results314, go_sem, Hq0.out, Hq1.out]) rfl ⟨_, rfl, (Htu.out.done (Nat.le_refl _) _ _).1, (Htu.out.done (Nat.le_refl _) _ _).2⟩
    · have hm' : (0 : Int) < (m : Int) := by omega
      have hlt := nxF_lt hb m (by omega)
      have Hst := Lib.hid (few_step hb (by omega) heq)
      have hdb := dgF_bd hb m
      have hds := Nat.mod_lt m (show 0 < b by omega)
      have hes := Nat.mod_lt (m / b) (show 0 < b by omega)
      have Hcs := Lib.hid (low_cases b m)
      have hqm : m / b ≤ m := Nat.div_le_self _ _
      have e1 : Int.tmod (m : Int) (b : Int) = ((m % b : Nat) : Int) := by rw [Int.tmod_eq_emod_of_nonneg (by omega)]; exact (Int.natCast_emod _ _).symm
      have e2 : Int.tdiv (m : Int) (b : Int) = ((m / b : Nat) : Int) := by rw [Int.tdiv_eq_ediv_of_nonneg (by omega)]; exact (Int.natCast_ediv _ _).symm
      have e3 : (m : Int) % (b : Int) = ((m % b : Nat) : Int) := (Int.natCast_emod _ _).symm
      have e4 : (m : Int) / (b : Int) = ((m / b : Nat) : Int) := (Int.natCast_ediv _ _).symm
      have e5 : Int.tmod ((m / b : Nat) : Int) (b : Int) = ((m / b % b : Nat) : Int) := by rw [Int.tmod_eq_emod_of_nonneg (Int.natCast_nonneg _)]; exact (Int.natCast_emod _ _).symm
      have e6 : ((m / b : Nat) : Int) % (b : Int) = ((m / b % b : Nat) : Int) := (Int.natCast_emod _ _).symm
      generalize m / b % b = e at *
      generalize hd : m % b = d at *
      generalize hq : m / b = q at *
      generalize dgF b m = z at *
      generalize nxF b m = y at *
      have hqb : (q : Int) ≤ 62500000 := by omega
      have hb0' : (b : Int) ≠ 0 := by omega
      have Hown := Lib.hid htu.row
      have Hsz := Lib.hid htu.bel.size
      have Happ := Lib.hid (fun v' w' h2 h3 => TurnsAt.app (v' := v') (w' := w') (x := z) htu (Nat.le_refl _) (by omega) (by omega) h2 h3)
      generalize hL : acc.length = L at *
      clear htu heq hd hq hL
      rcases Hcs.out with ⟨h1, rfl, rfl⟩ | ⟨h1, h2, rfl, rfl⟩ | ⟨h1, h2, rfl, rfl⟩ | ⟨h1, rfl, rfl⟩
      · have h1' : 2 * (d : Int) < (b : Int) := by omega
        clear Hcs hdb e5 e6
        go_wp2_with (at_builtin; refine wpList_apd 24 2 _ 1 8 Try.underlying24 infoD rfl (by omega) _ _ rfl rfl w.heap.size _ L _ rfl Hown.out #[.int .i64 ((d : Int))] 1 1 rfl rfl (by simp [Value.oneCell']) (by simp [maxLen]; omega) (by omega) Hsz.out ?_; intro v7 w7 hown7 hg7; obtain ⟨k1, k2, k3⟩ := Happ.out v7 w7 hown7 hg7; obtain ⟨A7, c7, rfl⟩ := own_sl hown7; have Hk3 := Lib.hid k3; clear hown7 hg7 k3)
        go_roundw
        case rel => exact ⟨acc ++ [_], _, .slice A7 (L + 1) c7, Hst.out, by omega, rfl, Hk3.out⟩
        case measure => simp [intOf]; omega
      · have h1' : ¬ (2 * (d : Int) < (b : Int)) := by omega
        have h1'' : 2 * (d : Int) = (b : Int) := by omega
        have h2' : 2 * (e : Int) < (b : Int) - 1 := by omega
        clear Hcs hdb h1
        go_wp2_with (at_builtin; refine wpList_apd 24 2 _ 1 8 Try.underlying24 infoD rfl (by omega) _ _ rfl rfl w.heap.size _ L _ rfl Hown.out #[.int .i64 ((d : Int))] 1 1 rfl rfl (by simp [Value.oneCell']) (by simp [maxLen]; omega) (by omega) Hsz.out ?_; intro v7 w7 hown7 hg7; obtain ⟨k1, k2, k3⟩ := Happ.out v7 w7 hown7 hg7; obtain ⟨A7, c7, rfl⟩ := own_sl hown7; have Hk3 := Lib.hid k3; clear hown7 hg7 k3)
        go_roundw
        case rel => exact ⟨acc ++ [_], _, .slice A7 (L + 1) c7, Hst.out, by omega, rfl, Hk3.out⟩
        case measure => simp [intOf]; omega
      · have h1' : ¬ (2 * (d : Int) < (b : Int)) := by omega
        have h1'' : 2 * (d : Int) = (b : Int) := by omega
        have h2' : ¬ (2 * (e : Int) < (b : Int) - 1) := by omega
        clear Hcs hdb h1
        go_wp2_with (at_builtin; refine wpList_apd 24 2 _ 1 8 Try.underlying24 infoD rfl (by omega) _ _ rfl rfl w.heap.size _ L _ rfl Hown.out #[.int .i64 ((d : Int) - (b : Int))] 1 1 rfl rfl (by simp [Value.oneCell']) (by simp [maxLen]; omega) (by omega) Hsz.out ?_; intro v7 w7 hown7 hg7; obtain ⟨k1, k2, k3⟩ := Happ.out v7 w7 hown7 hg7; obtain ⟨A7, c7, rfl⟩ := own_sl hown7; have Hk3 := Lib.hid k3; clear hown7 hg7 k3)
        go_roundw
        case rel => exact ⟨acc ++ [_], _, .slice A7 (L + 1) c7, Hst.out, by omega, by go_num, Hk3.out⟩
        case measure => simp [intOf]; omega
      · have h1' : ¬ (2 * (d : Int) < (b : Int)) := by omega
        have h1'' : ¬ (2 * (d : Int) = (b : Int)) := by omega
        clear Hcs hdb e5 e6
        go_wp2_with (at_builtin; refine wpList_apd 24 2 _ 1 8 Try.underlying24 infoD rfl (by omega) _ _ rfl rfl w.heap.size _ L _ rfl Hown.out #[.int .i64 ((d : Int) - (b : Int))] 1 1 rfl rfl (by simp [Value.oneCell']) (by simp [maxLen]; omega) (by omega) Hsz.out ?_; intro v7 w7 hown7 hg7; obtain ⟨k1, k2, k3⟩ := Happ.out v7 w7 hown7 hg7; obtain ⟨A7, c7, rfl⟩ := own_sl hown7; have Hk3 := Lib.hid k3; clear hown7 hg7 k3)
        go_roundw
        case rel => exact ⟨acc ++ [_], _, .slice A7 (L + 1) c7, Hst.out, by omega, by go_num, Hk3.out⟩
        case measure => simp [intOf]; omega
end Go.Proofs.Ytddiielbmjkppaa
