/- Differences, part 6: degrees, what an entry must be. -/
import Derived.Test.YtfaoilonkonmkaaDf3
import Derived.Deep.RegionWith
import Derived.Deep.DeepCutAuto
import Derived.Deep.CutRange
namespace Go.Proofs.Ytfaoilonkonmkaa
open Go.RowKit Go.Joins

theorem mk_ints (n : Nat) (hn : n ≤ 1000) (w : World) : ∃ w', (Instr.makeSlice 22 (.int .i64 (n : Int)) (.int .i64 (n : Int))).run Try.prog w = .ok (.slice (some ⟨w.heap.size, 0, none⟩) n n) w' ∧
    w'.ownsRow w.heap.size 2 1 (.slice (some ⟨w.heap.size, 0, none⟩) n n) n (tab n (fun _ => 0)) ∧ Below w.heap.size w w' := by
  obtain ⟨i, hi, hz, h2, h3⟩ := info_parts infoD
  obtain ⟨w1, hr, hown, hg⟩ := run_makeSlice_full (P := Try.prog) (w := w) w.heap.size 22 2 i _ 1 Try.underlying22 hi hz h2 .i64 .i64 n (by omega) (by rw [h3]; omega) (by simp [maxLen]; omega) (Nat.le_refl _)
  refine ⟨w1, hr, ?_, below_of_grown hg (Nat.le_refl _) (fun x hx => by cases hx)⟩
  have e : (madeCells (Value.cells (.int .i64 0)) (n * 1)).toList = tab n (fun _ => 0) := by
    rw [Nat.mul_one]
    refine List.ext_getElem (by simp [madeCells, tab]) fun i h1 h2 => ?_
    simp [madeCells, tab, Value.cells]
    rw [Nat.mod_one]; rfl
  rw [← e]
  exact hown
def zap (f : Nat → Int) (a : Nat) : Nat → Int := fun x => if x = a then 0 else f x
def one (a : Nat) : Nat → Int := fun x => if x = a then 1 else 0
def put (f : Nat → Int) (a : Nat) (y : Int) : Nat → Int := fun x => if x = a then y else f x
theorem tab_set (n : Nat) (f : Nat → Int) (a : Nat) (y : Int) : (tab n f).set a (.int .i64 y) = tab n (put f a y) := by
  refine List.ext_getElem (by simp [tab]) fun i h1 h2 => ?_
  rw [List.getElem_set]
  simp only [tab, List.getElem_map, List.getElem_range, put]
  by_cases h : a = i
  · simp [h]
  · rw [if_neg h, if_neg (fun e => h e.symm)]
theorem Small.put {M n : Nat} {f : Nat → Int} (h : Small M n f) (a : Nat) (y : Int) (hy : -(M : Int) ≤ y ∧ y ≤ M) : Small M n (put f a y) := by
  intro i hi
  show _ ≤ (if i = a then y else f i) ∧ (if i = a then y else f i) ≤ _
  split
  · exact hy
  · exact h i hi
/-- all are 0 -/
def zer (n : Nat) (f : Nat → Int) : Bool := (List.range n).all fun i => f i == 0
theorem zer_at {n : Nat} {f : Nat → Int} (i : Nat) (hi : i < n) (h : f i ≠ 0) : zer n f = false := by
  unfold zer
  rw [List.all_eq_false]
  exact ⟨i, List.mem_range.2 hi, by simpa using h⟩
theorem zer_all {n : Nat} {f : Nat → Int} (h : ∀ i, i < n → f i = 0) : zer n f = true := by
  unfold zer
  rw [List.all_eq_true]
  intro i hi
  simp [h i (List.mem_range.1 hi)]

set_option maxRecDepth 100000 in
set_option maxHeartbeats 800000 in
theorem areZero_any (B : Nat) (v : Value) (n : Nat) (f : Nat → Int) (w : World) (h : Rd w B v n 1 (tab n f)) (hn : n ≤ 1000) :
    Calls Try.prog 167 #[v] w fun e w' => e = .returned (.bool (zer n f)) ∧ w = w' := by
  have H := Lib.hid h
  obtain ⟨A, c, rfl⟩ := rd_sl h
  clear h
  go_enter Try.func167, Try.ntmps167
  go_wp2_with fail
  go_loop [7] (fun i => ∃ k : Nat, k ≤ n ∧ (∀ j, j < k → f j = 0) ∧ i = .int .i64 (k : Int)) (fun i => n - (intOf i).toNat)
  case atStart => exact ⟨0, Nat.zero_le _, fun j hj => by omega, rfl⟩
  case round =>
    obtain ⟨k, hk, hall, rfl⟩ := hrel
    have Hall := Lib.hid hall
    clear hall
    by_cases hlt : k < n
    · obtain ⟨b1, o1, hA, _, hcc⟩ := rdF_all H.out (by omega)
      subst hA
      have q0 := hcc k hlt
      have hlt' : (k : Int) < (n : Int) := by omega
      have Hst := Lib.hid (fun (h0 : f k = 0) j (hj : j < k + 1) => (show f j = 0 by
        by_cases e : j = k
        · rw [e]; exact h0
        · exact Hall.out j (by omega)))
      have Hbad := Lib.hid (fun (h0 : f k ≠ 0) => zer_at k hlt h0)
      generalize f k = x at *
      clear hcc
      by_cases hx : x = 0
      · have Hn := Lib.hid (Hst.out hx)
        have hx' : (x != 0) = false := by simp [hx]
        subst hx
        go_wp2_with fail
        go_round
        case rel => exact ⟨k + 1, by omega, Hn.out, by go_num⟩
        case measure => simp [intOf]; omega
      · have Hn := Lib.hid (Hbad.out hx)
        have hx' : (x != 0) = true := by simp [hx]
        clear hx
        go_wp2_with fail
        go_ret
        rw [Hn.out]; exact ⟨rfl, rfl⟩
    · have hlt' : (n : Int) ≤ (k : Int) := by omega
      have Hn := Lib.hid (zer_all (n := n) (f := f) (fun i hi => Hall.out i (by omega)))
      go_wp2_with fail
      go_ret
      rw [Hn.out]; exact ⟨rfl, rfl⟩

set_option maxRecDepth 100000 in
set_option maxHeartbeats 800000 in
theorem hasDegree_any (B : Nat) (v : Value) (n M d : Nat) (f : Nat → Int) (w : World) (h : Rd w B v n 1 (tab n f)) (hB : B ≤ w.heap.size) (hn : n ≤ 100) (hd : d + 1 < n) (hS : Small M n f) (hM : 2 ^ (d + 1) * M ≤ 4611686018427387903) :
    Calls Try.prog 133 #[v, .int .i64 (d : Int)] w fun e w' => e = .returned (.bool (zer (n - (d + 1)) (Dn (d + 1) f))) ∧ Below w.heap.size w w' := by
  have HD := Lib.hid (differences_any B v n M (d + 1) f w h hB (by omega) (by omega) (by omega) hS hM)
  rw [show ((d + 1 : Nat) : Int) = (d : Int) + 1 by omega] at HD
  have HZ := Lib.hid (fun Bx wx vx hx => areZero_any Bx vx (n - (d + 1)) (Dn (d + 1) f) wx hx (by omega))
  unfold RetF at HD
  obtain ⟨A, c, rfl⟩ := rd_sl h
  have hd' : ¬ ((n : Int) ≤ (d : Int) + 1) := by omega
  have hdd : (d : Int) < 100 := by omega
  generalize n - (d + 1) = q at *
  clear h hS hM
  go_enter Try.func133, Try.ntmps133
  go_wp2_with fail
  refine HD.out.mono ?_; rintro e w1 ⟨v1, rfl, ho1, hb1⟩
  obtain ⟨A1, c1, rfl⟩ := own_sl ho1
  have HZ1 := Lib.hid (HZ.out _ w1 _ (Rd.of_own ho1))
  clear ho1
  go_wp2_with fail
  refine HZ1.out.mono ?_; rintro e w2 ⟨rfl, rfl⟩
  go_wp2_with fail
  go_ret
  exact ⟨rfl, hb1⟩

/-- what replacement finds: the loop from place i on -/
def rep (r s : Nat → Int) : Nat → Nat → Int → Bool → Int × Bool
  | 0, _, due, _ => (due, true)
  | n + 1, i, due, found =>
    if s i = 0 then (if r i = 0 then rep r s n (i + 1) due found else (0, false))
    else if (r i).tmod (s i) = 0 then (if found = true ∧ (-(r i)).tdiv (s i) ≠ due then (0, false) else rep r s n (i + 1) ((-(r i)).tdiv (s i)) true)
    else (0, false)
theorem tmod_bd {a b : Int} {M : Int} (h : -M ≤ a ∧ a ≤ M) : -M ≤ a.tmod b ∧ a.tmod b ≤ M := by
  have h1 : (a.tmod b).natAbs = a.natAbs % b.natAbs := Int.natAbs_tmod a b
  have h2 := Nat.mod_le a.natAbs b.natAbs
  omega
theorem tdiv_bd {a b : Int} {M : Int} (h : -M ≤ a ∧ a ≤ M) : -M ≤ a.tdiv b ∧ a.tdiv b ≤ M := by
  have h1 : (a.tdiv b).natAbs = a.natAbs / b.natAbs := Int.natAbs_tdiv a b
  have h2 := Nat.div_le_self a.natAbs b.natAbs
  omega
theorem rep_succ (r s : Nat → Int) (n i : Nat) (due : Int) (found : Bool) : rep r s (n + 1) i due found =
    if s i = 0 then (if r i = 0 then rep r s n (i + 1) due found else (0, false))
    else if (r i).tmod (s i) = 0 then (if found = true ∧ (-(r i)).tdiv (s i) ≠ due then (0, false) else rep r s n (i + 1) ((-(r i)).tdiv (s i)) true)
    else (0, false) := rfl
theorem rep_cases (r s : Nat → Int) (n i : Nat) (due : Int) (found : Bool) : (s i = 0 ∧ r i ≠ 0 ∧ rep r s (n + 1) i due found = (0, false)) ∨ (s i = 0 ∧ r i = 0 ∧ rep r s (n + 1) i due found = rep r s n (i + 1) due found) ∨
    (s i ≠ 0 ∧ (r i).tmod (s i) ≠ 0 ∧ rep r s (n + 1) i due found = (0, false)) ∨ (s i ≠ 0 ∧ (r i).tmod (s i) = 0 ∧ found = true ∧ (-(r i)).tdiv (s i) ≠ due ∧ rep r s (n + 1) i due found = (0, false)) ∨
    (s i ≠ 0 ∧ (r i).tmod (s i) = 0 ∧ found = true ∧ (-(r i)).tdiv (s i) = due ∧ rep r s (n + 1) i due found = rep r s n (i + 1) ((-(r i)).tdiv (s i)) true) ∨
    (s i ≠ 0 ∧ (r i).tmod (s i) = 0 ∧ found = false ∧ rep r s (n + 1) i due found = rep r s n (i + 1) ((-(r i)).tdiv (s i)) true) := by
  rw [rep_succ]
  generalize (-(r i)).tdiv (s i) = U
  by_cases h1 : s i = 0
  · by_cases h2 : r i = 0 <;> simp [h1, h2]
  · by_cases h2 : (r i).tmod (s i) = 0
    · cases found with
      | false => simp [h1, h2]
      | true => by_cases h3 : U = due <;> simp [h1, h2, h3]
    · simp [h1, h2]

theorem own_posD {w : World} {base n size : Nat} {e : TypeId} {v : Value} {cs : List Value} (h : w.ownsRow base e size v n cs) (hn : 0 < n) : ∃ g cap, v = .slice (some ⟨g, 0, none⟩) n cap := by
  rcases ownsRow_forms h with ⟨_, h0⟩ | ⟨g, cap, rfl⟩
  · omega
  · exact ⟨g, cap, rfl⟩
theorem own_cellD {w : World} {base n g cap : Nat} {e : TypeId} {f : Nat → Int} (h : w.ownsRow base e 1 (.slice (some ⟨g, 0, none⟩) n cap) n (tab n f)) (j : Nat) (hj : j < n) : w.cell? ⟨g, j, none⟩ = some (.int .i64 (f j)) ∧ w.frozen? ⟨g, j, none⟩ = false :=
  ⟨(h.cellAt j (by omega)).trans (tab_at f hj), h.frozenAt j⟩

set_option maxRecDepth 100000 in
set_option maxHeartbeats 6400000 in
theorem replacement_any (B : Nat) (v : Value) (n d at' : Nat) (f : Nat → Int) (w : World) (h : Rd w B v n 1 (tab n f)) (hB : B ≤ w.heap.size) (hn : n ≤ 100) (hd : d + 1 < n) (hd5 : d ≤ 8) (ha : at' < n) (hS : Small 1000000000 n f) :
    Calls Try.prog 134 #[v, .int .i64 (d : Int), .int .i64 (at' : Int)] w fun e w' => e = .returned (.tuple #[.int .i64 (rep (Dn (d + 1) (put f at' 0)) (Dn (d + 1) (put (fun _ => 0) at' 1)) (n - (d + 1)) 0 0 false).1, .bool (rep (Dn (d + 1) (put f at' 0)) (Dn (d + 1) (put (fun _ => 0) at' 1)) (n - (d + 1)) 0 0 false).2]) ∧ Below w.heap.size w w' := by
  have H := Lib.hid h
  have h2p : 2 ^ (d + 1) ≤ 512 := Nat.le_trans (Nat.pow_le_pow_right (by omega) (show d + 1 ≤ 9 by omega)) (by omega)
  have HS0 := hS.put at' 0 (by omega)
  have HS1 : Small 1000000000 n (put (fun _ => 0) at' 1) := Small.put (fun i _ => by omega) at' 1 (by omega)
  have HDr := Lib.hid (fun i hi => (HS0.Dn (d + 1) i hi))
  have HDs := Lib.hid (fun i hi => (HS1.Dn (d + 1) i hi))
  have HC := Lib.hid (fun wx hx hz => copyNumbers_any B v n f wx hx hz (by omega) (by omega))
  have HM := Lib.hid (fun wx => mk_ints n (by omega) wx)
  have HD0 := Lib.hid (fun wx vx hx => differences_any wx.heap.size vx n 1000000000 (d + 1) (put f at' 0) wx hx (Nat.le_refl _) (by omega) (by omega) (by omega) HS0 (by omega))
  have HD1 := Lib.hid (fun Bx wx vx hx hz => differences_any Bx vx n 1000000000 (d + 1) (put (fun _ => 0) at' 1) wx hx hz (by omega) (by omega) (by omega) HS1 (by omega))
  have Hset0 := Lib.hid (tab_set n f at' 0)
  have Hset1 := Lib.hid (tab_set n (fun _ => 0) at' 1)
  rw [show ((d + 1 : Nat) : Int) = (d : Int) + 1 by omega] at HD0 HD1
  unfold RetF at HC HD0 HD1
  have hL : n - (d + 1) ≤ 100 := by omega
  generalize n - (d + 1) = L at *
  generalize Dn (d + 1) (put f at' 0) = r at *
  generalize Dn (d + 1) (put (fun _ => 0) at' 1) = s at *
  generalize hR : rep r s L 0 0 false = R at *
  have HR := Lib.hid hR
  clear hR
  obtain ⟨A, c, rfl⟩ := rd_sl h
  have ha' : (at' : Int) < (n : Int) := by omega
  have hdd : (d : Int) < 100 := by omega
  clear h hS HS0 HS1
  have hb0 := Lib.hid (Below.refl w.heap.size w)
  go_enter Try.func134, Try.ntmps134
  go_wp2_with fail
  go_cut [8, 9] (fun s8 s9 wx => ∃ (g8 c8 g9 : Nat), s8 = .slice (some ⟨g8, 0, none⟩) n c8 ∧ s9 = .slice (some ⟨g9, 0, none⟩) n n ∧ g8 ≠ g9 ∧ wx.ownsRow w.heap.size 2 1 s8 n (tab n f) ∧ wx.ownsRow w.heap.size 2 1 s9 n (tab n (fun _ => 0)) ∧ Below w.heap.size w wx)
  case first =>
    obtain ⟨wm, hrm, hom, hbm⟩ := HM.out w.drew
    have Hd := Lib.hid (show Rd w.drew B (.slice A n c) n 1 (tab n f) from H.out)
    go_region_with ((first | (go_at_call 127; refine (HC.out _ (by first | exact Hd.out.below (hbm.mono hB) | exact H.out) (by first | exact Nat.le_trans hB hbm.size | exact hB)).mono ?_; rintro e wq ⟨vq, rfl, hoq, hbq⟩; obtain ⟨gq, cq, rfl⟩ := own_posD hoq (by omega); obtain ⟨wn, hrn, hon, hbn⟩ := HM.out wq)))
    all_goals
      go_wp2_with fail
      go_meet
      first
        | exact ⟨gq, cq, wq.heap.size, rfl, rfl, Nat.ne_of_lt (hoq.lt gq rfl).2, own_below hoq hbn, ownsRow_le hon hbq.size, (below_undrew hbq).trans (hbn.mono hbq.size)⟩
        | exact ⟨gq, cq, w.heap.size, rfl, rfl, Nat.ne_of_gt (Nat.lt_of_lt_of_le (hom.lt _ rfl).2 (hoq.lt gq rfl).1), ownsRow_le hoq hbm.size, own_below hom hbq, (below_undrew hbm).trans (hbq.mono hbm.size)⟩
  case rest =>
    obtain ⟨g8, c8, g9, rfl, rfl, hne, ho8, ho9, hbc⟩ := hcut
    obtain ⟨q8, f8⟩ := own_cellD ho8 at' ha
    obtain ⟨ho8', hg8⟩ := ho8.stored at' (.int .i64 0)
    have ho9' := ho9.kept hg8 (.inr (by simp [Value.ownBlock]; omega))
    obtain ⟨q9, f9⟩ := own_cellD ho9' at' ha
    obtain ⟨ho9'', hg9⟩ := ho9'.stored at' (.int .i64 1)
    have ho8'' := ho8'.kept hg9 (.inr (by simp [Value.ownBlock]; omega))
    rw [Hset0.out] at ho8''
    rw [Hset1.out] at ho9''
    have hbs := (hbc.setCell (p := ⟨g8, at', none⟩) (ho8.lt _ rfl).1 (.int .i64 0)).setCell (p := ⟨g9, at', none⟩) (ho9.lt _ rfl).1 (.int .i64 1)
    have HE0 := Lib.hid (HD0.out _ _ (Rd.of_own ho8''))
    have Ho9 := Lib.hid ho9''
    have Hbs := Lib.hid hbs
    have hne' : g9 ≠ g8 := fun e => hne e.symm
    clear ho8 ho8' ho8'' ho9 ho9' ho9'' hg8 hg9 hbs hbc
    go_wp2_with fail
    generalize (wc.setCell ⟨g8, at', none⟩ (.int .i64 0)).setCell ⟨g9, at', none⟩ (.int .i64 1) = w2 at *
    refine HE0.out.mono ?_; rintro e w3 ⟨v3, rfl, ho3, hb3⟩
    obtain ⟨A3, c3, rfl⟩ := own_sl ho3
    have HE1 := Lib.hid (HD1.out w2.heap.size w3 _ ((Rd.of_own Ho9.out).below hb3) hb3.size)
    have Ho3 := Lib.hid ho3
    have Hb3 := Lib.hid (Hbs.out.trans (hb3.mono Hbs.out.size))
    clear ho3 hb3 HE0 q8 f8 q9 f9
    go_wp2_with fail
    refine HE1.out.mono ?_; rintro e w4 ⟨v4, rfl, ho4, hb4⟩
    obtain ⟨A4, c4, rfl⟩ := own_sl ho4
    have R3 := Lib.hid (Rd.of_own (own_below Ho3.out hb4))
    have R4 := Lib.hid (Rd.of_own ho4)
    have Hb4 := Lib.hid (Hb3.out.trans (hb4.mono Hb3.out.size))
    clear ho4 hb4 HE1
    go_wp2_with fail
    go_loop [12, 13, 37] (fun a b i => ∃ (k : Nat) (due : Int) (found : Bool), k ≤ L ∧ rep r s (L - k) k due found = R ∧ (-1000000000000000 ≤ due ∧ due ≤ 1000000000000000) ∧ a = .int .i64 due ∧ b = .bool found ∧ i = .int .i64 (k : Int)) (fun _ _ i => L - (intOf i).toNat)
    case atStart => exact ⟨0, 0, false, Nat.zero_le _, HR.out, by omega, rfl, rfl, rfl⟩
    case round =>
      obtain ⟨k, due, found, hk, hrep, hdue, rfl, rfl, rfl⟩ := hrel
      have Hrep := Lib.hid hrep
      clear hrep
      by_cases hlt : k < L
      · obtain ⟨b1, o1, hA1, _, hcc1⟩ := rdF_all R3.out (by omega)
        obtain ⟨b2, o2, hA2, _, hcc2⟩ := rdF_all R4.out (by omega)
        subst hA1 hA2
        have q1 := hcc1 k hlt
        have q2 := hcc2 k hlt
        have e1 := HDr.out k hlt
        have e2 := HDs.out k hlt
        have hlt' : (k : Int) < (L : Int) := by omega
        obtain ⟨q, hq⟩ : ∃ q, L - k = q + 1 := ⟨L - k - 1, by omega⟩
        have Hq := Lib.hid (show L - (k + 1) = q by omega)
        have hcs := rep_cases r s q k due found
        rw [← hq, Hrep.out, ← Hq.out] at hcs
        have h512 : ((2 ^ (d + 1) * 1000000000 : Nat) : Int) ≤ 512000000000 := by omega
        generalize ((2 ^ (d + 1) * 1000000000 : Nat) : Int) = X at *
        have tb := tmod_bd (b := s k) e1
        have db := tdiv_bd (b := s k) e1
        rw [Int.neg_tdiv] at hcs
        have Hneg := Lib.hid (show (-(r k)).tdiv (s k) = -((r k).tdiv (s k)) from Int.neg_tdiv _ _)
        clear hcc1 hcc2 hq Hrep
        generalize r k = R1 at *
        generalize s k = S1 at *
        have hRn : IntKind.i64.wrap (-R1) = -R1 := IntWalk.i64_in _ (by omega)
        rcases hcs with ⟨g1, g2, hf⟩ | ⟨g1, g2, hf⟩ | ⟨g1, g2, hf⟩ | ⟨g1, g2, g3, g4, hf⟩ | ⟨g1, g2, g3, g4, hf⟩ | ⟨g1, g2, g3, hf⟩
        · have Hf := Lib.hid hf
          have hb : (R1 != 0) = true := by simp [g2]
          subst g1
          clear hf e2 tb db g2 hRn
          go_wp2_with fail
          go_ret2
          rw [Hf.out]; exact ⟨rfl, Hb4.out⟩
        · have Hf := Lib.hid hf
          subst g1 g2
          clear hf e1 e2 tb db hRn
          go_wp2_with fail
          go_round
          case rel => exact ⟨k + 1, due, found, by omega, Hf.out.symm, hdue, rfl, rfl, by go_num⟩
          case measure => simp [intOf]; omega
        · have Hf := Lib.hid hf
          generalize hT : R1.tmod S1 = T at *
          have hTw : wrap64 T = T := IntWalk.wrap64_in _ ⟨by omega, by omega⟩
          have hT0 : (T != 0) = true := by simp [g2]
          have hS0 : (S1 == 0) = false := by simp [g1]
          clear hf e2 tb db g2
          go_wp2_with fail
          go_ret2
          rw [Hf.out]; exact ⟨rfl, Hb4.out⟩
        · have Hf := Lib.hid hf
          generalize hV : R1.tdiv S1 = V at *
          have hVw : wrap64 (-V) = -V := IntWalk.wrap64_in _ ⟨by omega, by omega⟩
          have hN := Hneg.out
          have hS0 : (S1 == 0) = false := by simp [g1]
          have hc : (-V != due) = true := by simp [g4]
          subst g3
          clear hf e2 tb db g4
          go_wp2_with fail
          go_ret2
          rw [Hf.out]; exact ⟨rfl, Hb4.out⟩
        · have Hf := Lib.hid hf
          generalize hV : R1.tdiv S1 = V at *
          have hVw : wrap64 (-V) = -V := IntWalk.wrap64_in _ ⟨by omega, by omega⟩
          have hN := Hneg.out
          have hS0 : (S1 == 0) = false := by simp [g1]
          subst g3
          subst g4
          clear hf e2 tb
          go_wp2_with fail
          go_round
          case rel => exact ⟨k + 1, -V, true, by omega, Hf.out.symm, by omega, rfl, rfl, by go_num⟩
          case measure => simp [intOf]; omega
        · have Hf := Lib.hid hf
          generalize hV : R1.tdiv S1 = V at *
          have hVw : wrap64 (-V) = -V := IntWalk.wrap64_in _ ⟨by omega, by omega⟩
          have hN := Hneg.out
          have hS0 : (S1 == 0) = false := by simp [g1]
          subst g3
          clear hf e2 tb
          go_wp2_with fail
          go_round
          case rel => exact ⟨k + 1, -V, true, by omega, Hf.out.symm, by omega, rfl, rfl, by go_num⟩
          case measure => simp [intOf]; omega
      · have hkL : k = L := by omega
        subst hkL
        have Hf := Lib.hid (show R = (due, true) by rw [← Hrep.out, Nat.sub_self]; rfl)
        have HI := Lib.hid (fun wx => isFar_any due wx hdue.1 hdue.2)
        clear hdue
        go_wp2_with fail
        refine (HI.out _).mono ?_; rintro e w5 ⟨rfl, rfl⟩
        go_wp2_with fail
        go_ret2
        rw [Hf.out]; exact ⟨rfl, Hb4.out⟩
end Go.Proofs.Ytfaoilonkonmkaa
