/- Fewest turns, part 9: the draw. -/
import Derived.Test.YtddiielbmjkppaaFew8
namespace Go.Proofs.Ytddiielbmjkppaa
open Go.RowKit Go.Joins

theorem SrcAt.setC {w : World} {B gs k g i : Nat} {bs : List UInt8} (h : SrcAt w B gs k bs) (hg : gs < g) (u : Value) : SrcAt (w.setCell ⟨g, i, none⟩ u) B gs k bs :=
  h.grown (r := some g) ⟨rfl, rfl, rfl, by simp [World.setCell], fun j _ hj => Below.heap_setCell _ _ _ _ (fun e => hj (by rw [e]))⟩ (fun x hx => by cases hx; exact hg)
theorem TurnsAt.doneC {B0 : Nat} {w wr : World} {r g b : Nat} {v : Value} {l : List Int} (h : TurnsAt B0 w wr r g b v l) (x y : Value) : ((wr.setCell ⟨r, 0, none⟩ x).setCell ⟨r, 1, none⟩ y).cell? ⟨r, 0, none⟩ = some x ∧ ((wr.setCell ⟨r, 0, none⟩ x).setCell ⟨r, 1, none⟩ y).cell? ⟨r, 1, none⟩ = some y := by
  have hq := heap_setCell_same _ r 1 _ _ y (heap_setCell_same wr r 0 _ _ x h.res)
  obtain ⟨e0, e1, _, _⟩ := blk2 hq
  exact ⟨e0, e1⟩
theorem wsa {x : Int} (h0 : 0 ≤ x) (h1 : x < 3) : IntKind.i64.wrap (1 + x) = 1 + x := IntWalk.i64_in _ (by omega)
theorem wsc {x : Int} (h0 : 0 ≤ x) (h1 : x < 3) : 1 ≤ 1 + x ∧ 1 + x ≤ 3 := by omega
theorem wsb {x : Int} (h0 : 0 ≤ x) (h1 : x < 9) : IntKind.i64.wrap (x - 4) = x - 4 := IntWalk.i64_in _ (by omega)
theorem srcStep {B B0 gs K r g b : Nat} {bs : List UInt8} {w w2 : World} {v : Value} {l : List Int} (hs : SrcAt w2 B gs K bs) (htu : TurnsAt B0 w w2 r g b v l) (hgl : gs < w.heap.size) (hg : gs < g) (w' : World) (v' : Value) (h3 : w2.grownBy w' v.ownBlock) : SrcAt (w'.setCell ⟨g, 1, none⟩ v') B gs K bs :=
  SrcAt.setC (SrcAt.grown (w' := w') hs h3 (fun z hz => Nat.lt_of_lt_of_le hgl (htu.row.lt z hz).1)) hg v'
def RetTD (gs : Nat) (w : World) (e : Ending) (w' : World) : Prop :=
  ∃ v b l, e = .returned (.agg #[.int .i64 ((b : Nat) : Int), v]) ∧ TOk b l ∧ w'.ownsRow w.heap.size 2 1 v l.length (nmV l) ∧ Below gs w w'
set_option maxRecDepth 100000 in
set_option maxHeartbeats 3200000 in
theorem l13Draw_any (B gs : Nat) (bs : List UInt8) (w : World) (h : SrcAt w B gs 0 bs) : Calls Try.prog 200 #[.pointer (some ⟨gs, 0, none⟩)] w (RetTD gs w) := by
  have hgl := h.lt
  have hb1 := (Below.refl w.heap.size w).alloc (Nat.le_refl _) (.cells #[.int .i64 0, .slice none 0 0] 58)
  have Hs1 := Lib.hid (h.below hb1)
  have Hb1 := Lib.hid (hb1.mono (Nat.le_of_lt hgl))
  have Hr1 := Lib.hid (heap_alloc_new w (.cells #[.int .i64 0, .slice none 0 0] 58))
  have hz1 : w.heap.size < (w.alloc (.cells #[.int .i64 0, .slice none 0 0] 58)).heap.size := by simp
  have Hsz1 := Lib.hid (show (w.alloc (.cells #[.int .i64 0, .slice none 0 0] 58)).heap.size = w.heap.size + 1 by simp)
  clear h hb1
  go_enter Try.func200, Try.ntmps200
  go_wp2_with fail
  generalize w.alloc (.cells #[.int .i64 0, .slice none 0 0] 58) = w1 at *
  rw [← Hsz1.out]
  refine (among_in B gs 0 7 [10, 10, 2, 3, 8, 12, 16] bs w1 Hs1.out (by omega) rfl (by omega) (by omega)).mono ?_; rintro e w2 ⟨x, hxl, rfl, hs2, hg2⟩
  obtain ⟨b, rfl, hb, hb2⟩ : ∃ b : Nat, x = (b : Int) ∧ 2 ≤ b ∧ b ≤ 16 := by
    simp at hxl
    exact ⟨x.toNat, by omega, by omega, by omega⟩
  have hr2 := (hg2.block w.heap.size hz1 (fun e => by injection e; omega)).trans Hr1.out
  have Hb2 := Lib.hid (Hb1.out.grown hg2 (Nat.le_trans (Nat.le_of_lt hgl) Hb1.out.size) (fun k hk => by cases hk; exact Nat.le_refl _))
  have hz2 : w.heap.size < w2.heap.size := Nat.lt_of_lt_of_le hz1 hg2.size
  have Hs2 := Lib.hid hs2
  have Hr2 := Lib.hid hr2
  clear hs2 hg2 hxl hr2 Hs1 Hb1 Hr1 hz1
  go_wp2_with fail
  refine (one_any B gs 2 bs 2 _ Hs2.out (by omega)).mono ?_; rintro e w3 ⟨t, rfl, hs3, hg3⟩
  have hr3 := (hg3.block w.heap.size hz2 (fun e => by injection e; omega)).trans Hr2.out
  have Hb3 := Lib.hid (Hb2.out.grown hg3 (Nat.le_trans (Nat.le_of_lt hgl) Hb2.out.size) (fun k hk => by cases hk; exact Nat.le_refl _))
  have hz3 : w.heap.size < w3.heap.size := Nat.lt_of_lt_of_le hz2 hg3.size
  have Hs3 := Lib.hid hs3
  have Hr3 := Lib.hid hr3
  clear hs3 hg3 hr3 Hs2 Hb2 Hr2 hz2
  cases t with
  | true =>
    go_wp2_with fail
    refine (pick_any B gs 4 bs 100000 _ Hs3.out (by omega)).mono ?_; rintro e w4 ⟨y, rfl, ⟨hy0, hy1, _⟩, hs4, hg4⟩
    have hy2 := hy1 (by omega)
    obtain ⟨N, rfl⟩ : ∃ N : Nat, y = (N : Int) := ⟨y.toNat, by omega⟩
    have hr4 := (hg4.block w.heap.size hz3 (fun e => by injection e; omega)).trans Hr3.out
    have Hb4 := Lib.hid (Hb3.out.grown hg4 (Nat.le_trans (Nat.le_of_lt hgl) Hb3.out.size) (fun k hk => by cases hk; exact Nat.le_refl _))
    have hz4 : w.heap.size < w4.heap.size := Nat.lt_of_lt_of_le hz3 hg4.size
    have Hr4 := Lib.hid hr4
    have HL := Lib.hid (l13Few_any b N w4 hb hb2 (by omega))
    have Htok := Lib.hid (tok_few hb hb2 (show N ≤ 62500000 by omega))
    clear hs4 hg4 hr4 Hs3 Hb3 Hr3 hz3 hy0 hy1
    go_wp2_with fail
    refine (HL.out).mono ?_; rintro e w5 ⟨v, rfl, ho5, hb5⟩
    obtain ⟨A, c, rfl⟩ := own_sl ho5
    have hr5 := (hb5.block w.heap.size hz4).trans Hr4.out
    obtain ⟨_, _, z0, z1⟩ := blk2 hr5
    have hq := heap_setCell_same _ w.heap.size 1 _ _ (.slice A (few b N).length c) (heap_setCell_same w5 w.heap.size 0 _ _ (.int .i64 (b : Int)) hr5)
    obtain ⟨e0, e1, _, _⟩ := blk2 hq
    have Hq0 := Lib.hid e0
    have Hq1 := Lib.hid e1
    have Hoe := Lib.hid (res2_own ho5 (g := w.heap.size) (B := w.heap.size) hz4 (Nat.le_of_lt hz4) (.int .i64 (b : Int)) (.slice A (few b N).length c))
    have Hbe := Lib.hid (((Hb4.out.trans (hb5.mono (Nat.le_trans (Nat.le_of_lt hgl) (Nat.le_of_lt hz4)))).setCell (p := ⟨w.heap.size, 0, none⟩) (Nat.le_of_lt hgl) (.int .i64 (b : Int))).setCell (p := ⟨w.heap.size, 1, none⟩) (Nat.le_of_lt hgl) (.slice A (few b N).length c))
    obtain ⟨r0, r1, _, _⟩ := blk2 hr5
    clear hq e0 e1 hr5 ho5 hb5
    go_wp2_with fail
    exact bodyPost_ret (v := .agg #[.int .i64 (b : Int), .slice A (few b N).length c]) (by simp [results, Try.results200, go_sem, Hq0.out, Hq1.out]) rfl ⟨_, b, few b N, rfl, Htok.out, Hoe.out, Hbe.out⟩
  | false =>
    have Htn := Lib.hid (turns_new b Hr3.out Hb3.out (Nat.le_of_lt hgl))
    have Hsn := Lib.hid ((Hs3.out.below ((Below.refl w3.heap.size w3).alloc (Nat.le_refl _) (.cells #[] 2))).below ((Below.refl _ _).alloc (Nat.le_refl _) (.cells #[.int .i64 (b : Int), .slice (some ⟨w3.heap.size, 0, none⟩) 0 0] 58)))
    have hG : w.heap.size ≤ w3.heap.size + 1 := by omega
    go_wp2_with fail
    generalize hw4 : (w3.alloc (.cells #[] 2)).alloc (.cells #[.int .i64 (b : Int), .slice (some ⟨w3.heap.size, 0, none⟩) 0 0] 58) = w4 at *
    refine (pick_any B gs 4 bs 6 _ Hsn.out (by omega)).mono ?_; rintro e w5 ⟨y, rfl, ⟨hy0, hy1', _⟩, hs5, hg5⟩
    have hy2 := hy1' (by omega)
    obtain ⟨m, rfl⟩ : ∃ m : Nat, y = (m : Int) := ⟨y.toNat, by omega⟩
    have htu5 := Htn.out.pick (Nat.le_of_lt hgl) (Nat.le_refl _) hgl (Nat.le_refl _) hG hg5
    have Hs5 := Lib.hid hs5
    have Ht5 := Lib.hid htu5
    have hGw : w.heap.size ≤ w3.heap.size + 1 := hG
    have hGr : w.heap.size ≠ w3.heap.size + 1 := by omega
    have hGg : gs < w3.heap.size + 1 := by omega
    clear hs5 hg5 htu5 Htn Hsn hw4 hy0 hy1' hG Hr3 Hb3 Hs3
    go_wp2_with fail
    go_loopw [5] (fun i wr => ∃ (l : List Int) (q : Nat) (v : Value), l.length + q = m ∧ i = .int .i64 (q : Int) ∧ (∀ x ∈ l, -4 ≤ x ∧ x ≤ 4) ∧ TurnsAt gs w wr w.heap.size (w3.heap.size + 1) b v l ∧ SrcAt wr B gs (6 + 2 * l.length) bs) (fun i _ => (intOf i).toNat)
    case atStart => exact ⟨[], m, _, by simp, rfl, by simp, Ht5.out, Hs5.out⟩
    case round =>
      obtain ⟨l, q, v, hlq, rfl, hall, htu, hs⟩ := hrel
      obtain ⟨A3, c3, rfl⟩ := own_sl htu.row
      obtain ⟨_, q1, _, z1⟩ := blk2 htu.own
      have Htu := Lib.hid htu
      have Hs := Lib.hid hs
      have Hall := Lib.hid hall
      have hl5 : l.length ≤ 5 := by omega
      have Hlq := Lib.hid hlq
      have Hl1 := Lib.hid (fun x : Int => show (l ++ [x]).length = l.length + 1 by simp)
      by_cases hq : q = 0
      · subst hq
        clear hlq htu hs hall
        have Htok := Lib.hid (fun y hy => tok_drawn (y := y) hb hb2 hl5 Hall.out hy)
        obtain ⟨K, hK⟩ : ∃ K, K = 6 + 2 * l.length := ⟨_, rfl⟩
        rw [← hK] at Hs
        have hK2 : K ≤ 20 := by omega
        have hK3 : K < 4611686018427387900 := by omega
        have hmx : l.length + 1 ≤ maxLen := by simp [maxLen]; omega
        have hby : (l.length + 1) * 8 ≤ 140737488355328 := by omega
        have hn2 : (2 : Int) ≤ 3 := by omega
        clear hK
        go_wp2_with fail
        go_region_law ((first
          | (refine step_apd0 24 2 _ 1 8 Try.underlying24 infoD rfl (by omega) _ _ (by rfl) (by rfl) w.heap.size _ l.length _ (by rfl) Hown2.out #[.int .i64 (1 + x)] 1 1 (by rfl) (by rfl) (by simp [Value.oneCell']) hmx hby Hsz2.out ?_; intro v7 w7 hown7 hg7; obtain ⟨k1, k2, k3⟩ := Happ.out v7 w7 hown7 hg7; have Hs7 := Lib.hid (Hs2f.out w7 v7 hg7); obtain ⟨A7, c7, rfl⟩ := own_sl hown7; have Hk3 := Lib.hid k3; obtain ⟨o0, o1, _, _⟩ := blk2 k3.own; obtain ⟨p0, p1, y0, y1⟩ := blk2 k3.res; have hx3 := Lib.hid (wsc x0 x2); clear hown7 hg7 k3)
          | (go_simp; go_at_call 205; refine (pick_any B gs K bs 3 wr.drew Hs.out.drew hK3).mono ?_; rintro e w2 ⟨x, rfl, ⟨x0, x1, _⟩, hs2, hg2⟩; have x2 := x1 hn2; have xw := wsa x0 x2; have htu2 := Htu.out.pick (Nat.le_of_lt hgl) (Nat.le_refl _) hgl (Nat.le_refl _) hGw (grown_undrew hg2); obtain ⟨_, q1', _, z1'⟩ := blk2 htu2.own; have q1A := cell_alloc q1' (.cells #[.int .i64 (1 + x)] 2); have Hown2 := Lib.hid htu2.row; have Hsz2 := Lib.hid htu2.bel.size; have Happ := Lib.hid (fun v' w' h2 h3 => TurnsAt.app (v' := v') (w' := w') (x := 1 + x) htu2 (Nat.le_of_lt hgl) hGw hGr h2 h3); have Hs2f := Lib.hid (srcStep hs2 htu2 hgl hGg); clear hs2 hg2 htu2 x1)))
        all_goals
          (try go_wp2_with fail)
          have hlA := Hl1.out (1 + x)
          obtain ⟨e0, e1⟩ := Hk3.out.doneC (.int .i64 (b : Int)) (.slice A7 (l.length + 1) c7)
          exact bodyPost_ret (v := .agg #[.int .i64 (b : Int), .slice A7 (l.length + 1) c7]) (by simp [results, Try.results200, go_sem, e0, e1]) rfl ⟨_, b, l ++ [1 + x], rfl, Htok.out _ hx3.out, (Hk3.out.done (Nat.le_of_lt hgl) _ _).1, (Hk3.out.done (Nat.le_of_lt hgl) _ _).2⟩
      · have hq' : (0 : Int) < (q : Int) := by omega
        obtain ⟨K, hK⟩ : ∃ K, K = 6 + 2 * l.length := ⟨_, rfl⟩
        rw [← hK] at Hs
        have HK := Lib.hid hK
        have Hq := Lib.hid (show 1 ≤ q by omega)
        have hq6 : (q : Int) ≤ 6 := by omega
        have hK2 : K ≤ 20 := by omega
        have hK3 : K < 4611686018427387900 := by omega
        have hmx : l.length + 1 ≤ maxLen := by simp [maxLen]; omega
        have hby : (l.length + 1) * 8 ≤ 140737488355328 := by omega
        have hn2 : (2 : Int) ≤ 9 := by omega
        clear hK hlq htu hs hall
        go_wp2_with fail
        go_region_law ((first
          | (refine step_apd0 24 2 _ 1 8 Try.underlying24 infoD rfl (by omega) _ _ (by rfl) (by rfl) w.heap.size _ l.length _ (by rfl) Hown2.out #[.int .i64 (x - 4)] 1 1 (by rfl) (by rfl) (by simp [Value.oneCell']) hmx hby Hsz2.out ?_; intro v7 w7 hown7 hg7; obtain ⟨k1, k2, k3⟩ := Happ.out v7 w7 hown7 hg7; have Hs7 := Lib.hid (Hs2f.out w7 v7 hg7); obtain ⟨A7, c7, rfl⟩ := own_sl hown7; have Hk3 := Lib.hid k3; clear hown7 hg7 k3)
          | (go_simp; go_at_call 205; refine (pick_any B gs K bs 9 wr.drew Hs.out.drew hK3).mono ?_; rintro e w2 ⟨x, rfl, ⟨x0, x1, _⟩, hs2, hg2⟩; have x2 := x1 hn2; have xw := wsb x0 x2; have htu2 := Htu.out.pick (Nat.le_of_lt hgl) (Nat.le_refl _) hgl (Nat.le_refl _) hGw (grown_undrew hg2); obtain ⟨_, q1', _, z1'⟩ := blk2 htu2.own; have q1A := cell_alloc q1' (.cells #[.int .i64 (x - 4)] 2); have Hown2 := Lib.hid htu2.row; have Hsz2 := Lib.hid htu2.bel.size; have Happ := Lib.hid (fun v' w' h2 h3 => TurnsAt.app (v' := v') (w' := w') (x := x - 4) htu2 (Nat.le_of_lt hgl) hGw hGr h2 h3); have Hs2f := Lib.hid (srcStep hs2 htu2 hgl hGg); clear hs2 hg2 htu2 x1)))
        all_goals
          (try go_wp2_with fail)
          go_roundw
          case rel =>
            have hK6 := HK.out
            have hq1 := Hq.out
            have hlq := Hlq.out
            have hlA := Hl1.out (x - 4)
            have g1 : (l ++ [x - 4]).length + (q - 1) = m := by rw [hlA]; omega
            have g2 : Value.int .i64 ((q : Int) - 1) = .int .i64 ((q - 1 : Nat) : Int) := by congr 1; omega
            refine ⟨l ++ [x - 4], q - 1, _, g1, g2, ?_, Hk3.out, by rw [hlA, show 6 + 2 * (l.length + 1) = K + 2 by omega]; exact Hs7.out⟩
            intro z hz
            rcases List.mem_append.1 hz with hz | hz
            · exact Hall.out z hz
            · rw [List.mem_singleton.1 hz]; omega
          case measure =>
            have hq1 := Hq.out
            first | (simp [intOf]; done) | (simp [intOf]; omega)
end Go.Proofs.Ytddiielbmjkppaa
