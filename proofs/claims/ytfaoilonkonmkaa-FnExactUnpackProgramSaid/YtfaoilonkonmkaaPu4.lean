/- Programs of hand movements, unpacked, part 4: the program's UnpackProgram. -/
import Derived.Test.YtfaoilonkonmkaaPu3
import Derived.Test.YtfaoilonkonmkaaPg5
namespace Go.Proofs.Ytfaoilonkonmkaa
open Go.RowKit Go.Joins

/-- what the program hands back -/
def resI (s : List UInt8) : Option (List (Int × Int)) := match s with
  | _ :: c :: l => match parseF 7 c.toNat l with
    | none => none
    | some x => if okProg x.1 = true ∧ sealB (packP x.1) = s then some x.1 else none
  | _ => none
def RetU (res : Option (List (Int × Int))) (w : World) (e : Ending) (w' : World) : Prop :=
  ∃ v, e = .returned (.tuple #[v, .int .i64 (if res.isSome then 0 else 8)]) ∧ w'.ownsRow w.heap.size 109 2 v (res.getD []).length (progs (res.getD [])) ∧ Below w.heap.size w w'
theorem RetU_no {res : Option (List (Int × Int))} {w w' : World} (h : res = none) (hb : Below w.heap.size w w') : RetU res w (.returned (.tuple #[.slice none 0 0, .int .i64 8])) w' := by
  subst h
  exact ⟨_, rfl, World.ownsRow_nil _ _ _ _, hb⟩
theorem RetU_yes {res : Option (List (Int × Int))} {l : List (Int × Int)} {v : Value} {w w' : World} (h : res = some l) (ho : w'.ownsRow w.heap.size 109 2 v l.length (progs l)) (hb : Below w.heap.size w w') : RetU res w (.returned (.tuple #[v, .int .i64 0])) w' := by
  subst h
  exact ⟨_, rfl, ho, hb⟩

/-- how the reading goes on -/
def goOn (f k : Nat) (acc : List (Int × Int)) (R : List UInt8) : Option (List (Int × Int) × List UInt8) := (parseF f k R).map fun y => (acc ++ y.1, y.2)
theorem goOn_0 (f : Nat) (acc : List (Int × Int)) (R : List UInt8) : goOn f 0 acc R = some (acc, R) := by simp [goOn, parseF]
theorem goOn_start (f k : Nat) (R : List UInt8) : goOn f k [] R = parseF f k R := by
  unfold goOn
  cases parseF f k R with
  | none => rfl
  | some x => rfl
theorem goOn_nil (f k : Nat) (acc : List (Int × Int)) : goOn f (k + 1) acc [] = none := rfl
theorem goOn_bad (f k : Nat) (acc : List (Int × Int)) (c : UInt8) (l : List UInt8) (h : numF f 1 0 l = none) : goOn f (k + 1) acc (c :: l) = none := by
  unfold goOn parseF
  rw [h]; rfl
theorem goOn_step (f k : Nat) (acc : List (Int × Int)) (c : UInt8) (l : List UInt8) (v n : Nat) (h : numF f 1 0 l = some (v, n)) : goOn f (k + 1) acc (c :: l) = goOn f k (acc ++ [((c.toNat : Int), (v : Int))]) (l.drop n) := by
  unfold goOn
  rw [parseF, h]
  simp only [Option.map_map]
  congr 1
  funext y
  simp

theorem take_cases {s : ByteArray} {w w' : World} {k : Nat} {acc : List (Int × Int)} {e : Ending} (h : TakeI s w e w') : ∃ (op a : Int) (r : ByteArray) (ok : Bool), e = .returned (.tuple #[.agg #[.int .i64 op, .int .i64 a], .string r, .bool ok]) ∧ Below w.heap.size w w' ∧
    ((ok = false ∧ Hid (goOn 7 (k + 1) acc s.data.toList = none)) ∨ (ok = true ∧ Hid (goOn 7 (k + 1) acc s.data.toList = goOn 7 k (acc ++ [(op, a)]) r.data.toList) ∧ r.size ≤ s.size)) := by
  obtain ⟨op, a, r, ok, he, hb, hm⟩ := h
  refine ⟨op, a, r, ok, he, hb, ?_⟩
  cases hs : s.data.toList with
  | nil =>
    rw [hs] at hm
    exact .inl ⟨hm, Lib.hid (goOn_nil 7 k acc)⟩
  | cons c l =>
    rw [hs] at hm
    simp only at hm
    cases hn : numF 7 1 0 l with
    | none =>
      rw [hn] at hm
      exact .inl ⟨hm, Lib.hid (goOn_bad 7 k acc c l hn)⟩
    | some x =>
      rw [hn] at hm
      obtain ⟨h1, h2, h3, h4⟩ := hm
      refine .inr ⟨h1, Lib.hid ?_, ?_⟩
      · rw [goOn_step 7 k acc c l x.1 x.2 hn, h2, h3, h4]
      · have e1 := congrArg List.length h4
        have e2 := congrArg List.length hs
        simp at e1 e2
        rw [e1, e2]; omega

theorem progs_snoc (l : List (Int × Int)) (op a : Int) : progs l ++ (#[Value.int .i64 op, Value.int .i64 a] : Array Value).toList = progs (l ++ [(op, a)]) := by
  unfold progs
  rw [List.flatMap_append]; rfl
theorem ones_two (a b : Int) : ∀ u ∈ (#[Value.int .i64 a, Value.int .i64 b] : Array Value).toList, u.oneCell' = true := by
  intro u hu
  simp at hu
  rcases hu with rfl | rfl <;> rfl

set_option maxRecDepth 100000 in
set_option maxHeartbeats 3200000 in
theorem UnpackI_any (s : ByteArray) (w : World) (hs : s.size ≤ 1048576) :
    Calls Try.prog 28 #[.string s] w (RetU (resI s.data.toList) w) := by
  have hsz : s.data.toList.length = s.size := by simp
  have Hsz := Lib.hid hsz; clear hsz
  have hb0 := Below.refl w.heap.size w
  by_cases h2 : s.size < 2
  · have hno : resI s.data.toList = none := by
      match hl : s.data.toList with
      | [] => rfl
      | [_] => rfl
      | _ :: _ :: _ => have := congrArg List.length hl; rw [Hsz.out] at this; simp at this; omega
    have Hno := Lib.hid hno; clear hno
    have h2' : (s.size : Int) < 2 := by omega
    go_enter Try.func28, Try.ntmps28
    go_wp2_with fail
    go_ret2
    exact RetU_no Hno.out hb0
  · have h2' : (2 : Int) ≤ (s.size : Int) := by omega
    have h1s : 1 < s.size := by omega
    have h1' : (1 : Int) < (s.size : Int) := by omega
    have hc8 := s[1].toNat_lt
    obtain ⟨N, hN⟩ : ∃ N, N = s[1].toNat := ⟨_, rfl⟩
    have hN8 : N < 256 := by omega
    have hNi : (s[1].toNat : Int) = (N : Int) := by rw [hN]
    have Hres : Hid (∀ l r, goOn 7 N [] (s.data.toList.drop 2) = some (l, r) → resI s.data.toList = if okProg l = true ∧ sealB (packP l) = s.data.toList then some l else none) := Lib.hid (by
      intro l r hg
      rw [goOn_start] at hg
      have hd : s.data.toList = s[0] :: s[1] :: s.data.toList.drop 2 := by
        have e0 := List.drop_eq_getElem_cons (l := s.data.toList) (i := 0) (by rw [Hsz.out]; omega)
        have e1 := List.drop_eq_getElem_cons (l := s.data.toList) (i := 1) (by rw [Hsz.out]; omega)
        rw [List.drop_zero] at e0
        rw [e1] at e0
        exact e0
      generalize s.data.toList.drop 2 = t at *
      rw [hd]
      unfold resI
      simp only
      rw [← hN, hg])
    have Hbad : Hid (goOn 7 N [] (s.data.toList.drop 2) = none → resI s.data.toList = none) := Lib.hid (by
      intro hg
      rw [goOn_start] at hg
      have hd : s.data.toList = s[0] :: s[1] :: s.data.toList.drop 2 := by
        have e0 := List.drop_eq_getElem_cons (l := s.data.toList) (i := 0) (by rw [Hsz.out]; omega)
        have e1 := List.drop_eq_getElem_cons (l := s.data.toList) (i := 1) (by rw [Hsz.out]; omega)
        rw [List.drop_zero] at e0
        rw [e1] at e0
        exact e0
      generalize s.data.toList.drop 2 = t at *
      rw [hd]
      unfold resI
      simp only
      rw [← hN, hg])
    have ho0 := Lib.hid (World.ownsRow_made (base := w.heap.size) (e := 109) (size := 2) w #[] 0 (Nat.le_refl _) (by simp [maxLen]) rfl)
    have hba := Lib.hid ((Below.refl w.heap.size w).alloc (Nat.le_refl _) (.cells #[] 109))
    have hr0 := Lib.hid (extr_list s 2)
    have hrs : (s.extract 2 s.size).size ≤ s.size := by simp
    clear hN hc8 h2
    go_enter Try.func28, Try.ntmps28
    go_wp2_with fail
    go_region_held3 (fun _ => True) (trivial) (fail)
    go_wp2_with fail
    go_loopw [4, 5, 19] (fun v r i wr => ∃ (k : Nat) (acc : List (Int × Int)) (A' : Option Addr) (c' : Nat) (t : ByteArray), k ≤ N ∧ acc.length ≤ k ∧ t.size ≤ s.size ∧ goOn 7 (N - k) acc t.data.toList = goOn 7 N [] (s.data.toList.drop 2) ∧ i = .int .u8 (k : Int) ∧ r = .string t ∧ v = .slice A' acc.length c' ∧ wr.ownsRow w.heap.size 109 2 (.slice A' acc.length c') acc.length (progs acc) ∧ Below w.heap.size w wr) (fun _ _ i _ => N - (intOf i).toNat)
    case atStart => exact ⟨0, [], _, _, s.extract 2 s.size, Nat.zero_le _, Nat.le_refl _, hrs, by rw [hr0.out]; rfl, rfl, rfl, rfl, ho0.out.drew, hba.out.drew⟩
    case round =>
      obtain ⟨k, acc, A', c', t, hk, hal, htz, heq, rfl, rfl, rfl, hown, hbl⟩ := hrel
      have Heq := Lib.hid heq; clear heq
      have Hown := Lib.hid hown; clear hown
      by_cases hlt : k < N
      · obtain ⟨m, hm⟩ : ∃ m, N - k = m + 1 := ⟨N - k - 1, by omega⟩
        rw [hm] at Heq
        have Hm := Lib.hid hm; clear hm
        have hlt' : (k : Int) < (N : Int) := by omega
        go_wp2_with fail
        refine (takeInstr_any t _ (by omega)).mono ?_; intro e w1 hT
        obtain ⟨op, a, r, ok, rfl, hb1, hcs⟩ := take_cases (k := m) (acc := acc) hT
        have hbl1 := hbl.trans (hb1.mono hbl.size)
        have hown1 := own_below Hown.out hb1
        clear hT hbl hb1
        rcases hcs with ⟨rfl, hno⟩ | ⟨rfl, hgo, hrz⟩
        · have hbf := Lib.hid (fun o => hbl1.alloc hbl1.size o)
          have hfin := Lib.hid (Hbad.out (by rw [← Heq.out, hno.out]))
          clear hown1 hbl1
          go_wp2_with fail
          go_ret2
          exact RetU_no hfin.out (hbf.out _)
        · have hba1 := hbl1.alloc hbl1.size (.cells #[.int .i64 op, .int .i64 a] 109)
          have hown2 := hown1.alloc (.cells #[.int .i64 op, .int .i64 a] 109)
          have Hsz1 := Lib.hid (show (w1.alloc (.cells #[.int .i64 op, .int .i64 a] 109)).heap.size = w1.heap.size + 1 by simp)
          have Hones := Lib.hid (ones_two op a)
          have hwk : IntKind.u8.wrap ((k : Int) + 1) = (k : Int) + 1 := wrap8 (by omega) (by omega)
          clear hown1 hbl1
          go_wp2_with (at_builtin; refine wpList_apd 38 109 _ 2 16 Try.underlying38 infoP rfl (by omega) _ _ rfl rfl w.heap.size (.slice A' acc.length c') acc.length _ rfl hown2 #[.int .i64 op, .int .i64 a] 1 1 (by rw [Hsz1.out]; rfl) rfl Hones.out (by simp [maxLen]; omega) (by omega) hba1.size ?_; intro v' w7 hown7 hg7; obtain ⟨_, A7, c7, rfl, _⟩ := Rd.of_own hown7)
          have Hb7 := Lib.hid (below_apd hba1 hown2 hg7 (Nat.le_refl _) hba1.size)
          rw [progs_snoc] at hown7
          have Hown7 := Lib.hid hown7
          clear hown7 hg7 hown2 hba1
          go_wp2_with fail
          clear hwk
          go_roundw
          case rel => exact ⟨k + 1, acc ++ [(op, a)], A7, c7, r, by omega, by simp; omega, by omega, by rw [← Heq.out, hgo.out, show N - (k + 1) = m by have := Hm.out; omega], by go_num, rfl, by simp, by simpa using Hown7.out, Hb7.out⟩
          case measure => simp [intOf]; omega
      · have hkN : k = N := by omega
        have hres := Lib.hid (Hres.out acc t.data.toList (by rw [← Heq.out, show N - k = 0 by omega, goOn_0]))
        have hlt' : (N : Int) ≤ (k : Int) := by omega
        have HP := Lib.hid (PackPI_any _ _ acc wr (Rd.of_own Hown.out) (Nat.le_refl _) (by omega))
        clear hkN hlt
        cases hok : okProg acc with
        | false =>
          have e2 : packPE acc = 1 := by unfold packPE; rw [hok]; rfl
          rw [e2] at HP
          have hfin : Hid (resI s.data.toList = none) := Lib.hid (by rw [hres.out, if_neg (by simp [hok])])
          clear e2 hok
          go_wp2_with fail
          refine HP.out.mono ?_; rintro e w9 ⟨rfl, hb9⟩
          have hb09 := hbl.trans (hb9.mono hbl.size)
          generalize packPT acc = Q at *
          go_wp2_with fail
          go_ret2
          exact RetU_no hfin.out hb09
        | true =>
          have e2 : packPE acc = 0 := by unfold packPE; rw [if_pos hok]
          have e3 : packPT acc = ⟨(sealB (packP acc)).toArray⟩ := by unfold packPT; rw [if_pos hok]
          rw [e2] at HP
          by_cases hq : sealB (packP acc) = s.data.toList
          · have hfin : Hid (resI s.data.toList = some acc) := Lib.hid (by rw [hres.out, if_pos ⟨hok, hq⟩])
            have hQ : packPT acc = s := by rw [e3, hq]
            rw [hQ] at HP
            clear e2 e3 hok hQ hq
            go_wp2_with fail
            refine HP.out.mono ?_; rintro e w9 ⟨rfl, hb9⟩
            have Hb09 := Lib.hid (hbl.trans (hb9.mono hbl.size))
            have Hown9 := Lib.hid (own_below Hown.out hb9)
            clear hb9 hbl
            go_wp2_with fail
            go_ret2
            exact RetU_yes hfin.out Hown9.out Hb09.out
          · have hfin : Hid (resI s.data.toList = none) := Lib.hid (by rw [hres.out, if_neg (fun h => hq h.2)])
            have hQn : packPT acc ≠ s := fun h => hq (by rw [← h, e3])
            clear e2 e3 hok hq
            generalize packPT acc = Q at *
            have hq1 : (Q.toList == s.toList) = false := beq_eq_false_iff_ne.2 fun h => hQn (ba_inj h)
            have hq2 : (Q.toList != s.toList) = true := bne_iff_ne.2 fun h => hQn (ba_inj h)
            clear hQn
            go_wp2_with fail
            refine HP.out.mono ?_; rintro e w9 ⟨rfl, hb9⟩
            have hb09 := hbl.trans (hb9.mono hbl.size)
            go_wp2_with fail
            go_ret2
            exact RetU_no hfin.out hb09
end Go.Proofs.Ytfaoilonkonmkaa
