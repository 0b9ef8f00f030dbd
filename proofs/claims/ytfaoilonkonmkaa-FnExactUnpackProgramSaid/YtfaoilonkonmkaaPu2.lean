/- Programs of hand movements, unpacked, part 2: takeInstr. -/
import Derived.Test.YtfaoilonkonmkaaPu1
import Derived.StillTailTactics
namespace Go.Proofs.Ytfaoilonkonmkaa
open Go.RowKit Go.Joins

theorem blk2f {w : World} {g : Nat} {a b : Value} {t : TypeId} (h : w.heap[g]? = some (.cells #[a, b] t (0, 0))) :
    w.cell? ⟨g, 0, none⟩ = some a ∧ w.cell? ⟨g, 1, none⟩ = some b ∧ w.frozen? ⟨g, 0, none⟩ = false ∧ w.frozen? ⟨g, 1, none⟩ = false := blk2 h
/-- what is left to read -/
def restF (f u a j : Nat) (l : List UInt8) : Option (Nat × Nat) := (numF f u a l).map fun x => (x.1, x.2 + j)
theorem restF_0 (l : List UInt8) (f : Nat) : restF f 1 0 0 l = numF f 1 0 l := by
  unfold restF
  cases numF f 1 0 l with
  | none => rfl
  | some x => rfl
theorem restF_end (u a j : Nat) (l : List UInt8) (f : Nat) (h : f = 0 ∨ l = []) : restF f u a j l = none := by
  rcases h with rfl | rfl
  · rfl
  · cases f <;> rfl
theorem restF_last (f u a j : Nat) (c : UInt8) (l : List UInt8) (h : c.toNat < 128) : restF (f + 1) u a j (c :: l) = some (a + c.toNat % 128 * u, j + 1) := by
  unfold restF
  simp only [numF, if_pos h, Option.map_some]
  rw [Nat.add_comm 1 j]
theorem restF_more (f u a j : Nat) (c : UInt8) (l : List UInt8) (h : ¬ c.toNat < 128) : restF (f + 1) u a j (c :: l) = restF f (u * 128) (a + c.toNat % 128 * u) (j + 1) l := by
  unfold restF
  simp only [numF, if_neg h, Option.map_map]
  congr 1
  funext x
  simp only [Function.comp, Prod.mk.injEq, true_and]
  omega

def TakeI (s : ByteArray) (w : World) (e : Ending) (w' : World) : Prop :=
  ∃ (op a : Int) (r : ByteArray) (ok : Bool), e = .returned (.tuple #[.agg #[.int .i64 op, .int .i64 a], .string r, .bool ok]) ∧ Below w.heap.size w w' ∧
    match s.data.toList with
    | [] => ok = false
    | c :: l => match numF 7 1 0 l with
      | none => ok = false
      | some (v, n) => ok = true ∧ op = c.toNat ∧ a = v ∧ r.data.toList = l.drop n

theorem TakeI_yes {s r : ByteArray} {w w' : World} {c : UInt8} {l : List UInt8} {v n : Nat} {a : Int} (h1 : s.data.toList = c :: l) (h2 : numF 7 1 0 l = some (v, n)) (h3 : Below w.heap.size w w') (h4 : a = (v : Int)) (h5 : r.data.toList = l.drop n) :
    TakeI s w (.returned (.tuple #[.agg #[.int .i64 (c.toNat : Int), .int .i64 a], .string r, .bool true])) w' := by
  refine ⟨_, _, _, _, rfl, h3, ?_⟩
  rw [h1]
  simp only [h2]
  exact ⟨trivial, trivial, h4, h5⟩
theorem TakeI_no1 {s : ByteArray} {w w' : World} (h1 : s.data.toList = []) (h3 : Below w.heap.size w w') : TakeI s w (.returned (.tuple #[.agg #[.int .i64 0, .int .i64 0], .string ⟨#[]⟩, .bool false])) w' := by
  refine ⟨_, _, _, _, rfl, h3, ?_⟩
  rw [h1]
theorem TakeI_no2 {s : ByteArray} {w w' : World} {c : UInt8} {l : List UInt8} (h1 : s.data.toList = c :: l) (h2 : numF 7 1 0 l = none) (h3 : Below w.heap.size w w') : TakeI s w (.returned (.tuple #[.agg #[.int .i64 0, .int .i64 0], .string ⟨#[]⟩, .bool false])) w' := by
  refine ⟨_, _, _, _, rfl, h3, ?_⟩
  rw [h1]
  simp only [h2]
theorem extr_list (s : ByteArray) (k : Nat) : (s.extract k s.size).data.toList = s.data.toList.drop k := by
  obtain ⟨⟨l⟩⟩ := s
  simp [ByteArray.size]
  rw [List.take_of_length_le (by simp)]

set_option maxRecDepth 100000 in
set_option maxHeartbeats 1600000 in
theorem takeInstr_any (s : ByteArray) (w : World) (hs : s.size ≤ 1048576) :
    Calls Try.prog 89 #[.string s] w (TakeI s w) := by
  have hsz : s.data.toList.length = s.size := by simp
  have Hsz := Lib.hid hsz; clear hsz
  by_cases h0 : s.size = 0
  · obtain rfl : s = ⟨#[]⟩ := by
      obtain ⟨⟨l⟩⟩ := s
      have : l = [] := List.eq_nil_of_length_eq_zero h0
      rw [this]
    clear h0
    have hb := fun o => Lib.hid ((Below.refl w.heap.size w).alloc (Nat.le_refl _) o)
    go_enter Try.func89, Try.ntmps89
    go_wp2_with fail
    exact bodyPost_ret (v := .tuple #[.agg #[.int .i64 0, .int .i64 0], .string ⟨#[]⟩, .bool false]) (by simp [results, Try.results89, go_sem]) rfl (TakeI_no1 rfl (hb _).out)
  · have he : s.toList.isEmpty = false := by
      cases hs : s.toList.isEmpty with
      | false => rfl
      | true =>
        have h1 : s.toList = [] := by simpa using hs
        have h2 := congrArg List.length h1
        rw [ByteArray.toList_eq] at h2
        simp at h2
        exact absurd h2 (by simpa using h0)
    have hp0 : 0 < s.size := by omega
    have hp1 : (0 : Int) < (s.size : Int) := by omega
    have hc0 := s[0].toNat_lt
    have hc1 : (s[0].toNat : Int) < 256 := by omega
    obtain ⟨L, hL⟩ : ∃ L, L = s.data.toList.drop 1 := ⟨_, rfl⟩
    have hLl : L.length + 1 = s.size := by rw [hL, List.length_drop, Hsz.out]; omega
    have HL := Lib.hid hL
    have HLl := Lib.hid hLl
    have Hcons : Hid (s.data.toList = s[0] :: L) := Lib.hid (by
      have h1 := List.drop_eq_getElem_cons (l := s.data.toList) (i := 0) (by rw [Hsz.out]; exact hp0)
      rw [List.drop_zero, ← hL] at h1
      exact h1)
    clear hL hLl h0 hc0
    go_enter Try.func89, Try.ntmps89
    go_wp2_with fail
    have hcell : (w.alloc (.cells #[.int .i64 0, .int .i64 0] 109)).heap[w.heap.size]? = some (.cells #[.int .i64 0, .int .i64 0] 109 (0, 0)) := heap_alloc_new w _
    have hcell2 : ((w.alloc (.cells #[.int .i64 0, .int .i64 0] 109)).alloc (.cells #[.int .i64 (s[0].toNat : Int), .int .i64 0] 109)).heap[w.heap.size + 1]? = some (.cells #[.int .i64 (s[0].toNat : Int), .int .i64 0] 109 (0, 0)) := by
      have := heap_alloc_new (w.alloc (.cells #[.int .i64 0, .int .i64 0] 109)) (.cells #[.int .i64 (s[0].toNat : Int), .int .i64 0] 109)
      simpa using this
    have hcell1 : ((w.alloc (.cells #[.int .i64 0, .int .i64 0] 109)).alloc (.cells #[.int .i64 (s[0].toNat : Int), .int .i64 0] 109)).heap[w.heap.size]? = some (.cells #[.int .i64 0, .int .i64 0] 109 (0, 0)) := (Below.heap_alloc _ _ _ (by simp)).trans hcell
    have Hc1 := Lib.hid hcell1
    have Hc2 := Lib.hid hcell2
    have hba := Lib.hid (((Below.refl w.heap.size w).alloc (Nat.le_refl _) (.cells #[.int .i64 0, .int .i64 0] 109)).alloc (by simp) (.cells #[.int .i64 (s[0].toNat : Int), .int .i64 0] 109))
    clear hcell hcell1 hcell2
    go_loopw [6, 7] (fun un i wr => ∃ (k j u a : Nat), k = j + 1 ∧ j ≤ 7 ∧ u = 128 ^ j ∧ a < u ∧ restF (7 - j) u a j (L.drop j) = numF 7 1 0 L ∧ un = .int .i64 u ∧ i = .int .i64 (k : Int) ∧ wr.heap[w.heap.size]? = some (.cells #[.int .i64 0, .int .i64 0] 109 (0, 0)) ∧ wr.heap[w.heap.size + 1]? = some (.cells #[.int .i64 (s[0].toNat : Int), .int .i64 a] 109 (0, 0)) ∧ Below w.heap.size w wr) (fun _ i _ => 9 - (intOf i).toNat)
    case atStart => exact ⟨1, 0, 1, 0, rfl, by omega, rfl, by omega, restF_0 L 7, rfl, rfl, Hc1.out, Hc2.out, hba.out⟩
    case round =>
      obtain ⟨k, j, u, a, hkj, hj, hu, ha, heq, rfl, rfl, hr0, hr1, hbl⟩ := hrel
      have Heq := Lib.hid heq; clear heq
      have Hr0 := Lib.hid hr0
      have Hr1 := Lib.hid hr1
      have Hu := Lib.hid hu
      obtain ⟨p0, p1, p2, p3⟩ := blk2f hr0
      obtain ⟨q0, q1, q2, q3⟩ := blk2f hr1
      clear hr0 hr1
      by_cases hlt : j < 7 ∧ j < L.length
      · obtain ⟨hj7, hjl⟩ := hlt
        have hju : u ≤ 128 ^ 6 := by rw [hu]; exact Nat.pow_le_pow_right (by omega) (by omega)
        have hpw : (128 : Nat) ^ 6 = 4398046511104 := by decide
        rw [hpw] at hju
        clear hpw hu
        have hks : k < s.size := by have := HLl.out; omega
        have hks1 : (k : Int) < (s.size : Int) := by omega
        have hks2 : (k : Int) < 8 := by omega
        have Hkj := Lib.hid hkj
        have hget : Hid (L[j] = s[k]) := Lib.hid (by
          have h1 : L[j] = s.data.toList[1 + j]'(by rw [Hsz.out]; have := HLl.out; omega) := by
            have := HL.out
            subst this
            rw [List.getElem_drop]
          rw [h1]
          have : 1 + j = k := by omega
          subst this
          rfl)
        have hdl := Lib.hid (List.drop_eq_getElem_cons hjl)
        rw [hget.out] at hdl
        clear hkj
        have hcc := s[k].toNat_lt
        have hce : (s[k].toNat : Int) < 256 := by omega
        obtain ⟨d, hd⟩ : ∃ d, d = s[k].toNat % 128 := ⟨_, rfl⟩
        have hd8 : d < 128 := by omega
        obtain ⟨P, hP⟩ : ∃ P, P = d * u := ⟨_, rfl⟩
        have hPb : P ≤ 127 * u := by rw [hP]; exact Nat.mul_le_mul_right u (by omega)
        have Hd := Lib.hid hd
        have HP := Lib.hid hP
        have hm1 : (s[k].toNat : Int).tmod 128 = (d : Int) := by rw [Int.tmod_eq_emod_of_nonneg (by omega)]; omega
        have hm0 : (s[k].toNat : Int) % 128 = (d : Int) := by omega
        have hm2 : IntKind.i64.wrap (d : Int) = (d : Int) := IntWalk.i64_in _ (by omega)
        have hm3 : (d : Int) * (u : Int) = (P : Int) := by rw [hP, Int.natCast_mul]
        have hm4 : IntKind.i64.wrap (P : Int) = (P : Int) := IntWalk.i64_in _ (by omega)
        have hm5 : IntKind.i64.wrap ((a : Int) + (P : Int)) = (a : Int) + (P : Int) := IntWalk.i64_in _ (by omega)
        have hset := Lib.hid (heap_setCell_same wr (w.heap.size + 1) 1 _ _ (.int .i64 ((a : Int) + (P : Int))) Hr1.out)
        have hset0 := Lib.hid ((Below.heap_setCell wr ⟨w.heap.size + 1, 1, none⟩ (.int .i64 ((a : Int) + (P : Int))) w.heap.size (by simp)).trans Hr0.out)
        have hbs := Lib.hid (hbl.setCell (p := ⟨w.heap.size + 1, 1, none⟩) (by simp) (.int .i64 ((a : Int) + (P : Int))))
        clear hd hP
        go_wp2_with fail
        go_still_tail 10, (by kernel_rfl)
        rw [show ({ heap := wr.heap, tape := wr.tape, drawn := wr.drawn + 1, os := wr.os, output := wr.output } : World) = wr.drew from rfl]
        clear hm0 hm1 hm2 hm3 hm4 hm5
        obtain ⟨q0, q1, q2, q3⟩ := blk2f Hr1.out
        by_cases hc : s[k].toNat < 128
        · have hc' : (s[k].toNat : Int) < 128 := by omega
          have hfin : Hid (numF 7 1 0 L = some (a + P, k)) := Lib.hid (by
            rw [← Heq.out, hdl.out]
            obtain ⟨f, hf⟩ : ∃ f, 7 - j = f + 1 := ⟨6 - j, by omega⟩
            rw [hf, restF_last f u a j _ _ hc, ← Hd.out, ← HP.out]
            exact congrArg (fun q => some (a + P, q)) Hkj.out.symm)
          obtain ⟨x0, x1, x2, x3⟩ := blk2f hset.out
          obtain ⟨y0, y1, y2, y3⟩ := blk2f hset0.out
          have hs0 := heap_setCell_same _ w.heap.size 0 _ _ (.int .i64 (s[0].toNat : Int)) hset0.out
          have hs1 := heap_setCell_same _ w.heap.size 1 _ _ (.int .i64 ((a : Int) + (P : Int))) hs0
          obtain ⟨z0, z1, _, _⟩ := blk2f hs1
          have hbf := Lib.hid ((hbs.out.setCell (p := ⟨w.heap.size, 0, none⟩) (Nat.le_refl _) (.int .i64 (s[0].toNat : Int))).setCell (p := ⟨w.heap.size, 1, none⟩) (Nat.le_refl _) (.int .i64 ((a : Int) + (P : Int))))
          clear hc hs0 hs1
          go_wp2_with fail
          have hk1 : IntKind.i64.wrap ((k : Int) + 1) = (k : Int) + 1 := IntWalk.i64_in _ (by omega)
          have hk2 : (0 : Int) ≤ (k : Int) + 1 := by omega
          have hk3 : (k : Int) + 1 ≤ (s.size : Int) := by omega
          have hk4 : ((k : Int) + 1).toNat = k + 1 := by omega
          go_region_held3 (fun w' => w'.cell? ⟨w.heap.size + 1, 0, none⟩ = some (.int .i64 (s[0].toNat : Int)) ∧ w'.cell? ⟨w.heap.size + 1, 1, none⟩ = some (.int .i64 ((a : Int) + (P : Int))))
            (first | go_keep | assumption)
            (fail)
          clear hk1
          have hr : Hid ((s.extract (k + 1) s.size).data.toList = L.drop k) := Lib.hid (by
            have h1 := HL.out
            subst h1
            rw [List.drop_drop, Nat.add_comm 1 k, extr_list])
          go_wp2_with fail
          exact bodyPost_ret (v := .tuple #[.agg #[.int .i64 (s[0].toNat : Int), .int .i64 ((a : Int) + (P : Int))], .string (s.extract (k + 1) s.size), .bool true]) (by simp [results, Try.results89, go_sem, z0, z1]) rfl (TakeI_yes Hcons.out hfin.out hbf.out.drew.drew (by omega) hr.out)
        · have hc' : (128 : Int) ≤ (s[k].toNat : Int) := by omega
          have hfin : Hid (restF (7 - (j + 1)) (u * 128) (a + P) (j + 1) (L.drop (j + 1)) = numF 7 1 0 L) := Lib.hid (by
            rw [← Heq.out, hdl.out]
            obtain ⟨f, hf⟩ : ∃ f, 7 - j = f + 1 := ⟨6 - j, by omega⟩
            rw [hf, restF_more f u a j _ _ hc, ← Hd.out, ← HP.out, show 7 - (j + 1) = f by omega])
          clear hc
          go_wp2_with fail
          go_roundw
          case rel => exact ⟨k + 1, j + 1, u * 128, a + P, by have := Hkj.out; omega, by omega, by rw [Hu.out, Nat.pow_succ], by omega, hfin.out, by go_num, by go_num, hset0.out, hset.out, hbs.out.drew⟩
          case measure => simp [intOf]; omega
      · have hno : Hid (numF 7 1 0 L = none) := Lib.hid (by
          rw [← Heq.out]
          refine restF_end _ _ _ _ _ ?_
          by_cases h7 : j < 7
          · exact .inr (List.drop_of_length_le (by omega))
          · exact .inl (by omega))
        have hs0 := heap_setCell_same wr w.heap.size 0 _ _ (.int .i64 0) Hr0.out
        have hs1 := heap_setCell_same _ w.heap.size 1 _ _ (.int .i64 0) hs0
        obtain ⟨z0, z1, _, _⟩ := blk2f hs1
        have hbf := Lib.hid ((hbl.setCell (p := ⟨w.heap.size, 0, none⟩) (Nat.le_refl _) (.int .i64 0)).setCell (p := ⟨w.heap.size, 1, none⟩) (Nat.le_refl _) (.int .i64 0))
        clear hs0 hs1 hu
        by_cases hks : k < s.size
        · have h8 : (8 : Int) ≤ (k : Int) := by have := HLl.out; omega
          have hks1 : (k : Int) < (s.size : Int) := by omega
          clear hlt hkj
          go_wp2_with fail
          exact bodyPost_ret (v := .tuple #[.agg #[.int .i64 0, .int .i64 0], .string ⟨#[]⟩, .bool false]) (by simp [results, Try.results89, go_sem, z0, z1]) rfl (TakeI_no2 Hcons.out hno.out hbf.out)
        · have hks1 : (s.size : Int) ≤ (k : Int) := by omega
          clear hlt hkj
          go_wp2_with fail
          exact bodyPost_ret (v := .tuple #[.agg #[.int .i64 0, .int .i64 0], .string ⟨#[]⟩, .bool false]) (by simp [results, Try.results89, go_sem, z0, z1]) rfl (TakeI_no2 Hcons.out hno.out hbf.out)
end Go.Proofs.Ytfaoilonkonmkaa
