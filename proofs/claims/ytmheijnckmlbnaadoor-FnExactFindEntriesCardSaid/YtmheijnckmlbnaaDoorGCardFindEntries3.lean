/- Merged texts: Lib2, Lib3, En8, En4, En5, En9, Si1, Fe2, Fe3, Reg1, Si2, Si3, Si4. -/
import Derived.Test.YtmheijnckmlbnaaDoorGCardFindEntries1
import Derived.Deep.RegionHeld3
import Derived.Test.YtmheijnckmlbnaaDoorGCardFindEntries2
import Derived.Laws.EntriesVeiled
import Derived.Deep.DeepCutAuto
import Derived.Deep.CutRange
import Derived.Lib.SmallJoins
/- Append of a row that is read to a row of the call's own. No program is named here. -/
namespace Go.Proofs.YtmheijnckmlbnaaDoor
open Go.RowKit

section
variable {P : Program}
theorem wpList_apr {w : World} {ops : Array Oper} {rest : List Oper} {o : Oper} {a : Act} {Q : Exit → Act → World → Prop} (t e : TypeId) (z : Value) (size bytes : Nat)
    (ht : P.underlying t = some (.slice e)) (hinfo : (P.info? e).map (fun i => (i.zero, i.size, i.bytes)) = some (some z, size, bytes)) (hzs : z.cells.size = size) (hsz : 0 < size)
    (s x : Operand) (hgd : o.guard = none) (ho : o.op = .call { callee := .builtin .append, args := #[s, x], argTypes := #[t, t] })
    (base : Nat) (v : Value) (n : Nat) (xs : List Value) (hs : a.eval s = v) (hown : w.ownsRow base e size v n xs)
    (b off m c : Nat) (cs : List Value) (hx : a.eval x = .slice (some ⟨b, off, none⟩) m c) (hl : cs.length = m * size) (hc : ∀ (i : Nat) (u : Value), cs[i]? = some u → w.cell? ⟨b, off + i, none⟩ = some u) (h1 : ∀ u ∈ cs, u.oneCell' = true)
    (h63 : n + m ≤ maxLen) (hbytes : (n + m) * bytes ≤ 140737488355328) (hbase : base ≤ w.heap.size)
    (h : ∀ v' w', w'.ownsRow base e size v' (n + m) (xs ++ cs) → w.grownBy w' v.ownBlock → wpList P ops Q rest (a.put o.dst v') w') :
    wpList P ops Q (o :: rest) a w := by
  obtain ⟨i, hi, hz, h2, h3⟩ := info_parts hinfo
  refine wpList_append_own _ hgd s x t ho base e i z size bytes ht hi hz h2 h3 hzs hsz v n xs hs hown ⟨b, off, none⟩ m c cs hx hl (fun j u hu => ?_) h1 h63 hbytes hbase ?_
  · have hadd : (⟨b, off, none⟩ : Addr).add j = ⟨b, off + j, none⟩ := by unfold Addr.add; split <;> simp_all
    rw [hadd]; exact hc j u hu
  · intro v' w' ho' hg' _
    exact h v' w' ho' hg'
end
end Go.Proofs.YtmheijnckmlbnaaDoor
/- A region that draws its order, step by step: an operation that is taken first, its slot given by number. No program is named here. -/
namespace Go.Proofs.YtmheijnckmlbnaaDoor
open Go.RowKit

section
variable {P : Program} {ops : Array Oper} {Q : Exit → Act → World → Prop} {md : Region.Mode} {S : World → Prop}
theorem take_d {i : Nat} {oi : Oper} {d : Option Nat} {v : Value} {fuel : Nat} {listed : Array Bool} {a : Act} {w : World} (hi : ops[i]? = some oi) (hd : oi.dst = d)
    (hs : Region.noSelect ops = true) (hf : Region.free md ops listed i = true) (hr : (Region.ready md ops listed).contains i = true)
    (hQ : ∀ c a w, Q (.panic c) (a.put d v) w → Q (.panic c) a w) (hy : YieldsIf P ops S oi v a) (hS : S w)
    (h : wpAnyH P md ops Q S fuel (listed.setIfInBounds i true) (a.put d v) w) : wpAnyH P md ops Q S (fuel + 1) listed a w := by
  subst hd
  exact wpAnyH_take hi hs hf hr hQ hy hS h
theorem call_d {i : Nat} {o : Oper} {d : Option Nat} {fuel : Nat} {listed : Array Bool} {a : Act} {w : World} (ho : ops[i]? = some o) (hd : o.dst = d) (hr : Region.ready md ops listed = [i])
    (h : ∀ K' : Act → World → Prop, Shut (∀ a w, S w → (S w → wpAnyH P md ops Q S fuel (listed.setIfInBounds i true) a w) → K' a w) → if Region.wanted o (yielded ops a.tmps) = true then Oper.wp P o a w K' Q else K' (a.put d undef) w) :
    wpAnyH P md ops Q S (fuel + 1) listed a w := by
  subst hd
  exact wpAnyH_ready hr (by simp) (AllReadyH.cons ho h AllReadyH.nil)
end
end Go.Proofs.YtmheijnckmlbnaaDoor
/- Entries, part 8 (regions' steps by heldsteps.py): ValidEntries on both sides. -/
namespace Go.Proofs.YtmheijnckmlbnaaDoor
open Go.RowKit Go.Joins

def noEnt : Ent := ⟨0, ⟨#[]⟩, ⟨#[]⟩, 0, []⟩
def placeOk (xs : List Ent) (i : Nat) : Bool := entOk (xs.getD i noEnt) && (decide (i = 0) || decide ((xs.getD (i - 1) noEnt).num < (xs.getD i noEnt).num))
def entsOk (xs : List Ent) : Bool := chk xs.length (placeOk xs) && decide (xs.length ≤ 50)
theorem getE_at (l : List Ent) (k : Nat) (hk : k < l.length) : l.getD k noEnt = l[k] := by simp [List.getD, hk]
theorem place_no (l : List Ent) (k : Nat) (hk : k < l.length) (h : entOk l[k] = false) : placeOk l k = false := by unfold placeOk; rw [getE_at l k hk, h]; rfl
theorem place_0 (l : List Ent) (hk : 0 < l.length) (h : entOk l[0] = true) : placeOk l 0 = true := by unfold placeOk; rw [getE_at l 0 hk, h]; rfl
theorem place_s (l : List Ent) (k : Nat) (hk : k + 1 < l.length) (h : entOk l[k + 1] = true) : placeOk l (k + 1) = decide (l[k].num < l[k + 1].num) := by
  unfold placeOk
  rw [getE_at l (k + 1) hk, h, show k + 1 - 1 = k by omega, getE_at l k (by omega)]
  simp
theorem ents_no {l : List Ent} (k : Nat) (hk : k < l.length) (h : placeOk l k = false) : entsOk l = false := by unfold entsOk; rw [chk_bad k hk h]; rfl
theorem five_at {w : World} {g : Nat} {a b c d e : Value} {t : TypeId} (h : w.heap[g]? = some (.cells #[a, b, c, d, e] t (0, 0))) :
    w.cell? ⟨g, 0, none⟩ = some a ∧ w.cell? ⟨g, 1, none⟩ = some b ∧ w.cell? ⟨g, 2, none⟩ = some c ∧ w.cell? ⟨g, 3, none⟩ = some d ∧ w.cell? ⟨g, 4, none⟩ = some e := by
  obtain ⟨h0, h1, h2, h3, h4, _⟩ := blk5 h
  exact ⟨h0, h1, h2, h3, h4⟩
theorem six_at {w : World} {g : Nat} {a b c d e v : Value} {q : Addr} {t : TypeId} (h : w.heap[g]? = some (.cells #[a, b, c, d, e] t (0, 0))) (hq : w.cell? q = some v) :
    w.cell? ⟨g, 0, none⟩ = some a ∧ w.cell? ⟨g, 1, none⟩ = some b ∧ w.cell? ⟨g, 2, none⟩ = some c ∧ w.cell? ⟨g, 3, none⟩ = some d ∧ w.cell? ⟨g, 4, none⟩ = some e ∧ w.cell? q = some v := by
  obtain ⟨h0, h1, h2, h3, h4, _⟩ := blk5 h
  exact ⟨h0, h1, h2, h3, h4, hq⟩

set_option maxRecDepth 100000 in
set_option maxHeartbeats 3200000 in
theorem ValidI_any (B : Nat) (v : Value) (xs : List Ent) (w : World) (h : RdE w B v xs) (hB : B ≤ w.heap.size) (hl : xs.length ≤ 1048576) (hsm : ∀ x ∈ xs, smE x) :
    Calls Tryd.prog 73 #[v] w fun e w' => e = .returned (.bool (entsOk xs)) ∧ Below w.heap.size w w' := by
  have H := Lib.hid h
  have Hsm := Lib.hid hsm
  obtain ⟨A, c, rfl⟩ := h.slice
  clear h hsm
  have hb0 := Below.refl w.heap.size w
  go_enter Tryd.func73, Tryd.ntmps73
  go_wp2_with fail
  go_loopw [7] (fun i wr => ∃ k : Nat, k ≤ xs.length ∧ chk k (placeOk xs) = true ∧ i = .int .i64 k ∧ Below w.heap.size w wr) (fun i _ => xs.length - (intOf i).toNat)
  case atStart => exact ⟨0, Nat.zero_le _, rfl, rfl, hb0⟩
  case round =>
    obtain ⟨k, hk, hall, rfl, hbl⟩ := hrel
    have Hall := Lib.hid hall; clear hall
    by_cases hlt : k < xs.length
    · obtain ⟨b1, o1, A3, c3, hA, hE⟩ := (H.out.below (hbl.mono hB)).at k hlt
      have HA := Lib.hid hA
      have hlt' : (k : Int) < (xs.length : Int) := by omega
      have Hbad := Lib.hid (fun h => ents_no (l := xs) k hlt h)
      have Hst := Lib.hid (fun h => chk_step (f := placeOk xs) (k := k) Hall.out h)
      have Hn := Lib.hid (fun h => place_no xs k hlt h)
      have hsx := Lib.hid (Hsm.out xs[k] (List.getElem_mem hlt))
      have hzB : B ≤ wr.heap.size := Nat.le_trans hB hbl.size
      have hz1 : b1 < wr.heap.size := Nat.lt_of_lt_of_le hE.lt hzB
      cases k with
      | zero =>
        have H0 := Lib.hid (fun h => place_0 xs hlt h)
        generalize xs[0] = x at *
        subst hA
        clear HA
        obtain ⟨num, name, maker, year, words⟩ := x
        have HV := Lib.hid (fun wx hx hz => validEntry_any B ⟨num, name, maker, year, words⟩ A3 c3 wx hx hz hsx.out)
        obtain ⟨hbB, e0, e1, e2, e3, e4, ew⟩ := hE
        dsimp only at e0 e1 e2 e3 e4 ew
        rw [Nat.zero_mul, Nat.add_zero] at e0 e1 e2 e3 e4
        have hba := (Below.refl wr.heap.size wr).alloc (Nat.le_refl _) (.cells #[.int .i64 num, .string name, .string maker, .int .i64 year, .slice A3 words.length c3] 99)
        have hnw := heap_alloc_new wr (.cells #[.int .i64 num, .string name, .string maker, .int .i64 year, .slice A3 words.length c3] 99)
        have hlw : wr.heap.size < (wr.alloc (.cells #[.int .i64 num, .string name, .string maker, .int .i64 year, .slice A3 words.length c3] 99)).heap.size := by simp
        have Hnw := Lib.hid hnw
        have Hba := Lib.hid hba
        have Hbl := Lib.hid hbl
        have Hew := Lib.hid ew
        clear hba hbl ew hnw
        cases g : entOk ⟨num, name, maker, year, words⟩ with
        | false =>
          have hf := Lib.hid (Hbad.out (Hn.out g))
          rw [g] at HV
          clear Hbad Hst Hn g H0
          go_wp2_with fail
          obtain ⟨f0, f1, f2, f3, f4, _⟩ := blk5 Hnw.out
          have hacc : Below wr.heap.size wr (wr.alloc (.cells #[.int .i64 num, .string name, .string maker, .int .i64 year, .slice A3 words.length c3] 99)).drew := Hba.out.drew
          generalize wr.alloc (.cells #[.int .i64 num, .string name, .string maker, .int .i64 year, .slice A3 words.length c3] 99) = wn at *
          refine wp_region_noPanic ?_
          refine wp_region_held_drew (S := fun w' => w'.cell? ⟨wr.heap.size, 0, none⟩ = some (.int .i64 num) ∧ w'.cell? ⟨wr.heap.size, 1, none⟩ = some (.string name) ∧ w'.cell? ⟨wr.heap.size, 2, none⟩ = some (.string maker) ∧ w'.cell? ⟨wr.heap.size, 3, none⟩ = some (.int .i64 year) ∧ w'.cell? ⟨wr.heap.size, 4, none⟩ = some (.slice A3 words.length c3)) (by kernel_rfl) (by (try dsimp only); first | go_keep | assumption) (fun hHeld => ?_)
          refine take_d (i := 0) (d := some 12) (v := ?_) rfl rfl (by kernel_rfl) (by kernel_rfl) (by kernel_rfl) (fun _ _ _ h => h) (Or.inl ⟨by rfl, ?_⟩) (by assumption) ?_
          rotate_left
          · (intro w hSw; (try dsimp only at hSw); go_simp; (try (with_reducible rfl)))
          simp only [Act.put, List.setIfInBounds_toArray, List.set_cons_zero, List.set_cons_succ]
          refine call_d (i := 1) (d := some 13) rfl rfl (by kernel_rfl) (fun K hK => ?_)
          go_simp
          (go_at_call 98; ((with_reducible refine (HV.out _ (Hew.out.below (hacc.mono hzB)) (Nat.le_trans hzB hacc.size)).mono ?_)); rintro e wq ⟨rfl, hbq⟩; have hSq := five_at ((hbq.block _ hlw).trans Hnw.out); have hacc' := hacc.trans (hbq.mono hacc.size); clear hacc; have hacc := hacc'; clear hacc')
          (try (go_wp2_with fail))
          refine hK.out _ _ (hSq) (fun hHeld => ?_)
          clear hK K
          (try simp only [Act.put, List.setIfInBounds_toArray, List.set_cons_zero, List.set_cons_succ])
          refine take_d (i := 2) (d := some 14) (v := ?_) rfl rfl (by kernel_rfl) (by kernel_rfl) (by kernel_rfl) (fun _ _ _ h => h) (Or.inl ⟨by rfl, ?_⟩) (by assumption) ?_
          rotate_left
          · (intro w hSw; (try dsimp only at hSw); go_simp; (try (with_reducible rfl)))
          simp only [Act.put, List.setIfInBounds_toArray, List.set_cons_zero, List.set_cons_succ]
          refine take_d (i := 3) (d := some 15) (v := ?_) rfl rfl (by kernel_rfl) (by kernel_rfl) (by kernel_rfl) (fun _ _ _ h => h) (Or.inl ⟨by rfl, ?_⟩) (by assumption) ?_
          rotate_left
          · (intro w hSw; (try dsimp only at hSw); go_simp; (try (with_reducible rfl)))
          simp only [Act.put, List.setIfInBounds_toArray, List.set_cons_zero, List.set_cons_succ]
          refine take_d (i := 4) (d := some 16) (v := undef) rfl rfl (by kernel_rfl) (by kernel_rfl) (by kernel_rfl) (fun _ _ _ h => h) (Or.inr ⟨by rfl, rfl⟩) (by assumption) ?_
          simp only [Act.put, List.setIfInBounds_toArray, List.set_cons_zero, List.set_cons_succ]
          refine take_d (i := 5) (d := some 17) (v := undef) rfl rfl (by kernel_rfl) (by kernel_rfl) (by kernel_rfl) (fun _ _ _ h => h) (Or.inr ⟨by rfl, rfl⟩) (by assumption) ?_
          simp only [Act.put, List.setIfInBounds_toArray, List.set_cons_zero, List.set_cons_succ]
          refine take_d (i := 6) (d := some 18) (v := undef) rfl rfl (by kernel_rfl) (by kernel_rfl) (by kernel_rfl) (fun _ _ _ h => h) (Or.inr ⟨by rfl, rfl⟩) (by assumption) ?_
          simp only [Act.put, List.setIfInBounds_toArray, List.set_cons_zero, List.set_cons_succ]
          refine take_d (i := 7) (d := some 19) (v := undef) rfl rfl (by kernel_rfl) (by kernel_rfl) (by kernel_rfl) (fun _ _ _ h => h) (Or.inr ⟨by rfl, rfl⟩) (by assumption) ?_
          simp only [Act.put, List.setIfInBounds_toArray, List.set_cons_zero, List.set_cons_succ]
          refine take_d (i := 8) (d := some 20) (v := undef) rfl rfl (by kernel_rfl) (by kernel_rfl) (by kernel_rfl) (fun _ _ _ h => h) (Or.inr ⟨by rfl, rfl⟩) (by assumption) ?_
          simp only [Act.put, List.setIfInBounds_toArray, List.set_cons_zero, List.set_cons_succ]
          refine take_d (i := 9) (d := some 21) (v := undef) rfl rfl (by kernel_rfl) (by kernel_rfl) (by kernel_rfl) (fun _ _ _ h => h) (Or.inr ⟨by rfl, rfl⟩) (by assumption) ?_
          simp only [Act.put, List.setIfInBounds_toArray, List.set_cons_zero, List.set_cons_succ]
          refine take_d (i := 10) (d := some 22) (v := undef) rfl rfl (by kernel_rfl) (by kernel_rfl) (by kernel_rfl) (fun _ _ _ h => h) (Or.inr ⟨by rfl, rfl⟩) (by assumption) ?_
          simp only [Act.put, List.setIfInBounds_toArray, List.set_cons_zero, List.set_cons_succ]
          refine take_d (i := 11) (d := some 23) (v := undef) rfl rfl (by kernel_rfl) (by kernel_rfl) (by kernel_rfl) (fun _ _ _ h => h) (Or.inr ⟨by rfl, rfl⟩) (by assumption) ?_
          simp only [Act.put, List.setIfInBounds_toArray, List.set_cons_zero, List.set_cons_succ]
          refine take_d (i := 12) (d := some 24) (v := undef) rfl rfl (by kernel_rfl) (by kernel_rfl) (by kernel_rfl) (fun _ _ _ h => h) (Or.inr ⟨by rfl, rfl⟩) (by assumption) ?_
          simp only [Act.put, List.setIfInBounds_toArray, List.set_cons_zero, List.set_cons_succ]
          refine take_d (i := 13) (d := some 25) (v := undef) rfl rfl (by kernel_rfl) (by kernel_rfl) (by kernel_rfl) (fun _ _ _ h => h) (Or.inr ⟨by rfl, rfl⟩) (by assumption) ?_
          simp only [Act.put, List.setIfInBounds_toArray, List.set_cons_zero, List.set_cons_succ]
          refine take_d (i := 14) (d := some 26) (v := undef) rfl rfl (by kernel_rfl) (by kernel_rfl) (by kernel_rfl) (fun _ _ _ h => h) (Or.inr ⟨by rfl, rfl⟩) (by assumption) ?_
          simp only [Act.put, List.setIfInBounds_toArray, List.set_cons_zero, List.set_cons_succ]
          refine take_d (i := 15) (d := some 27) (v := undef) rfl rfl (by kernel_rfl) (by kernel_rfl) (by kernel_rfl) (fun _ _ _ h => h) (Or.inr ⟨by rfl, rfl⟩) (by assumption) ?_
          simp only [Act.put, List.setIfInBounds_toArray, List.set_cons_zero, List.set_cons_succ]
          refine take_d (i := 16) (d := some 28) (v := undef) rfl rfl (by kernel_rfl) (by kernel_rfl) (by kernel_rfl) (fun _ _ _ h => h) (Or.inr ⟨by rfl, rfl⟩) (by assumption) ?_
          simp only [Act.put, List.setIfInBounds_toArray, List.set_cons_zero, List.set_cons_succ]
          refine take_d (i := 17) (d := some 29) (v := ?_) rfl rfl (by kernel_rfl) (by kernel_rfl) (by kernel_rfl) (fun _ _ _ h => h) (Or.inl ⟨by rfl, ?_⟩) (by assumption) ?_
          rotate_left
          · (intro w hSw; (try dsimp only at hSw); go_simp; (try (with_reducible rfl)))
          simp only [Act.put, List.setIfInBounds_toArray, List.set_cons_zero, List.set_cons_succ]
          refine wpAnyH_done (by kernel_rfl) ?_ _
          refine NoPanic.normal ?_
          go_wp2_with fail
          go_ret
          rw [hf.out]; exact ⟨rfl, Hbl.out.trans (hacc.mono Hbl.out.size)⟩
        | true =>
          have hst := Lib.hid (Hst.out (H0.out g))
          rw [g] at HV
          clear Hbad Hst Hn g H0
          go_wp2_with fail
          obtain ⟨f0, f1, f2, f3, f4, _⟩ := blk5 Hnw.out
          have hacc : Below wr.heap.size wr (wr.alloc (.cells #[.int .i64 num, .string name, .string maker, .int .i64 year, .slice A3 words.length c3] 99)).drew := Hba.out.drew
          generalize wr.alloc (.cells #[.int .i64 num, .string name, .string maker, .int .i64 year, .slice A3 words.length c3] 99) = wn at *
          refine wp_region_noPanic ?_
          refine wp_region_held_drew (S := fun w' => w'.cell? ⟨wr.heap.size, 0, none⟩ = some (.int .i64 num) ∧ w'.cell? ⟨wr.heap.size, 1, none⟩ = some (.string name) ∧ w'.cell? ⟨wr.heap.size, 2, none⟩ = some (.string maker) ∧ w'.cell? ⟨wr.heap.size, 3, none⟩ = some (.int .i64 year) ∧ w'.cell? ⟨wr.heap.size, 4, none⟩ = some (.slice A3 words.length c3)) (by kernel_rfl) (by (try dsimp only); first | go_keep | assumption) (fun hHeld => ?_)
          refine take_d (i := 0) (d := some 12) (v := ?_) rfl rfl (by kernel_rfl) (by kernel_rfl) (by kernel_rfl) (fun _ _ _ h => h) (Or.inl ⟨by rfl, ?_⟩) (by assumption) ?_
          rotate_left
          · (intro w hSw; (try dsimp only at hSw); go_simp; (try (with_reducible rfl)))
          simp only [Act.put, List.setIfInBounds_toArray, List.set_cons_zero, List.set_cons_succ]
          refine call_d (i := 1) (d := some 13) rfl rfl (by kernel_rfl) (fun K hK => ?_)
          go_simp
          (go_at_call 98; ((with_reducible refine (HV.out _ (Hew.out.below (hacc.mono hzB)) (Nat.le_trans hzB hacc.size)).mono ?_)); rintro e wq ⟨rfl, hbq⟩; have hSq := five_at ((hbq.block _ hlw).trans Hnw.out); have hacc' := hacc.trans (hbq.mono hacc.size); clear hacc; have hacc := hacc'; clear hacc')
          (try (go_wp2_with fail))
          refine hK.out _ _ (hSq) (fun hHeld => ?_)
          clear hK K
          (try simp only [Act.put, List.setIfInBounds_toArray, List.set_cons_zero, List.set_cons_succ])
          refine take_d (i := 2) (d := some 14) (v := ?_) rfl rfl (by kernel_rfl) (by kernel_rfl) (by kernel_rfl) (fun _ _ _ h => h) (Or.inl ⟨by rfl, ?_⟩) (by assumption) ?_
          rotate_left
          · (intro w hSw; (try dsimp only at hSw); go_simp; (try (with_reducible rfl)))
          simp only [Act.put, List.setIfInBounds_toArray, List.set_cons_zero, List.set_cons_succ]
          refine take_d (i := 3) (d := some 15) (v := ?_) rfl rfl (by kernel_rfl) (by kernel_rfl) (by kernel_rfl) (fun _ _ _ h => h) (Or.inl ⟨by rfl, ?_⟩) (by assumption) ?_
          rotate_left
          · (intro w hSw; (try dsimp only at hSw); go_simp; (try (with_reducible rfl)))
          simp only [Act.put, List.setIfInBounds_toArray, List.set_cons_zero, List.set_cons_succ]
          refine take_d (i := 4) (d := some 16) (v := ?_) rfl rfl (by kernel_rfl) (by kernel_rfl) (by kernel_rfl) (fun _ _ _ h => h) (Or.inl ⟨by rfl, ?_⟩) (by assumption) ?_
          rotate_left
          · (intro w hSw; (try dsimp only at hSw); go_simp; (try (with_reducible rfl)))
          simp only [Act.put, List.setIfInBounds_toArray, List.set_cons_zero, List.set_cons_succ]
          refine take_d (i := 5) (d := some 17) (v := ?_) rfl rfl (by kernel_rfl) (by kernel_rfl) (by kernel_rfl) (fun _ _ _ h => h) (Or.inl ⟨by rfl, ?_⟩) (by assumption) ?_
          rotate_left
          · (intro w hSw; (try dsimp only at hSw); go_simp; (try (with_reducible rfl)))
          simp only [Act.put, List.setIfInBounds_toArray, List.set_cons_zero, List.set_cons_succ]
          refine take_d (i := 6) (d := some 18) (v := ?_) rfl rfl (by kernel_rfl) (by kernel_rfl) (by kernel_rfl) (fun _ _ _ h => h) (Or.inl ⟨by rfl, ?_⟩) (by assumption) ?_
          rotate_left
          · (intro w hSw; (try dsimp only at hSw); go_simp; (try (with_reducible rfl)))
          simp only [Act.put, List.setIfInBounds_toArray, List.set_cons_zero, List.set_cons_succ]
          refine take_d (i := 7) (d := some 19) (v := undef) rfl rfl (by kernel_rfl) (by kernel_rfl) (by kernel_rfl) (fun _ _ _ h => h) (Or.inr ⟨by rfl, rfl⟩) (by assumption) ?_
          simp only [Act.put, List.setIfInBounds_toArray, List.set_cons_zero, List.set_cons_succ]
          refine take_d (i := 8) (d := some 20) (v := undef) rfl rfl (by kernel_rfl) (by kernel_rfl) (by kernel_rfl) (fun _ _ _ h => h) (Or.inr ⟨by rfl, rfl⟩) (by assumption) ?_
          simp only [Act.put, List.setIfInBounds_toArray, List.set_cons_zero, List.set_cons_succ]
          refine take_d (i := 9) (d := some 21) (v := undef) rfl rfl (by kernel_rfl) (by kernel_rfl) (by kernel_rfl) (fun _ _ _ h => h) (Or.inr ⟨by rfl, rfl⟩) (by assumption) ?_
          simp only [Act.put, List.setIfInBounds_toArray, List.set_cons_zero, List.set_cons_succ]
          refine take_d (i := 10) (d := some 22) (v := undef) rfl rfl (by kernel_rfl) (by kernel_rfl) (by kernel_rfl) (fun _ _ _ h => h) (Or.inr ⟨by rfl, rfl⟩) (by assumption) ?_
          simp only [Act.put, List.setIfInBounds_toArray, List.set_cons_zero, List.set_cons_succ]
          refine take_d (i := 11) (d := some 23) (v := undef) rfl rfl (by kernel_rfl) (by kernel_rfl) (by kernel_rfl) (fun _ _ _ h => h) (Or.inr ⟨by rfl, rfl⟩) (by assumption) ?_
          simp only [Act.put, List.setIfInBounds_toArray, List.set_cons_zero, List.set_cons_succ]
          refine take_d (i := 12) (d := some 24) (v := undef) rfl rfl (by kernel_rfl) (by kernel_rfl) (by kernel_rfl) (fun _ _ _ h => h) (Or.inr ⟨by rfl, rfl⟩) (by assumption) ?_
          simp only [Act.put, List.setIfInBounds_toArray, List.set_cons_zero, List.set_cons_succ]
          refine take_d (i := 13) (d := some 25) (v := undef) rfl rfl (by kernel_rfl) (by kernel_rfl) (by kernel_rfl) (fun _ _ _ h => h) (Or.inr ⟨by rfl, rfl⟩) (by assumption) ?_
          simp only [Act.put, List.setIfInBounds_toArray, List.set_cons_zero, List.set_cons_succ]
          refine take_d (i := 14) (d := some 26) (v := undef) rfl rfl (by kernel_rfl) (by kernel_rfl) (by kernel_rfl) (fun _ _ _ h => h) (Or.inr ⟨by rfl, rfl⟩) (by assumption) ?_
          simp only [Act.put, List.setIfInBounds_toArray, List.set_cons_zero, List.set_cons_succ]
          refine take_d (i := 15) (d := some 27) (v := undef) rfl rfl (by kernel_rfl) (by kernel_rfl) (by kernel_rfl) (fun _ _ _ h => h) (Or.inr ⟨by rfl, rfl⟩) (by assumption) ?_
          simp only [Act.put, List.setIfInBounds_toArray, List.set_cons_zero, List.set_cons_succ]
          refine take_d (i := 16) (d := some 28) (v := ?_) rfl rfl (by kernel_rfl) (by kernel_rfl) (by kernel_rfl) (fun _ _ _ h => h) (Or.inl ⟨by rfl, ?_⟩) (by assumption) ?_
          rotate_left
          · (intro w hSw; (try dsimp only at hSw); go_simp; (try (with_reducible rfl)))
          simp only [Act.put, List.setIfInBounds_toArray, List.set_cons_zero, List.set_cons_succ]
          refine take_d (i := 17) (d := some 29) (v := ?_) rfl rfl (by kernel_rfl) (by kernel_rfl) (by kernel_rfl) (fun _ _ _ h => h) (Or.inl ⟨by rfl, ?_⟩) (by assumption) ?_
          rotate_left
          · (intro w hSw; (try dsimp only at hSw); go_simp; (try (with_reducible rfl)))
          simp only [Act.put, List.setIfInBounds_toArray, List.set_cons_zero, List.set_cons_succ]
          refine wpAnyH_done (by kernel_rfl) ?_ _
          refine NoPanic.normal ?_
          go_wp2_with fail
          go_roundw
          case rel => exact ⟨1, by omega, hst.out, by go_num, Hbl.out.trans (hacc.mono Hbl.out.size)⟩
          case measure => simp [intOf]; omega
      | succ m =>
        obtain ⟨b2, o2, A4, c4, hA', hE'⟩ := (H.out.below (hbl.mono hB)).at m (by omega)
        rw [HA.out] at hA'
        obtain ⟨rfl, rfl⟩ : b1 = b2 ∧ o1 = o2 := by simpa using hA'
        have H0 := Lib.hid (fun h => place_s xs m hlt h)
        generalize xs[m + 1] = x at *
        have hp0 := hE'.c0
        generalize xs[m] = y at *
        generalize y.num = pn at *
        subst hA
        clear hA' HA hE'
        obtain ⟨num, name, maker, year, words⟩ := x
        have HV := Lib.hid (fun wx hx hz => validEntry_any B ⟨num, name, maker, year, words⟩ A3 c3 wx hx hz hsx.out)
        obtain ⟨hbB, e0, e1, e2, e3, e4, ew⟩ := hE
        dsimp only at e0 e1 e2 e3 e4 ew
        (try dsimp only at H0)
        have hba := (Below.refl wr.heap.size wr).alloc (Nat.le_refl _) (.cells #[.int .i64 num, .string name, .string maker, .int .i64 year, .slice A3 words.length c3] 99)
        have hnw := heap_alloc_new wr (.cells #[.int .i64 num, .string name, .string maker, .int .i64 year, .slice A3 words.length c3] 99)
        have hlw : wr.heap.size < (wr.alloc (.cells #[.int .i64 num, .string name, .string maker, .int .i64 year, .slice A3 words.length c3] 99)).heap.size := by simp
        have Hnw := Lib.hid hnw
        have Hba := Lib.hid hba
        have Hbl := Lib.hid hbl
        have Hew := Lib.hid ew
        have Hp0 := Lib.hid (fun wx (hb : Below wr.heap.size wr wx) => (hb.cell (p := ⟨b1, o1 + m * 5, none⟩) hz1).trans hp0)
        clear hba hbl ew hnw
        have hpos : (0 : Int) < ((m + 1 : Nat) : Int) := by omega
        cases g : entOk ⟨num, name, maker, year, words⟩ with
        | false =>
          have hf := Lib.hid (Hbad.out (Hn.out g))
          rw [g] at HV
          clear Hbad Hst Hn g H0
          go_wp2_with fail
          obtain ⟨f0, f1, f2, f3, f4, _⟩ := blk5 Hnw.out
          have hacc : Below wr.heap.size wr (wr.alloc (.cells #[.int .i64 num, .string name, .string maker, .int .i64 year, .slice A3 words.length c3] 99)).drew := Hba.out.drew
          generalize wr.alloc (.cells #[.int .i64 num, .string name, .string maker, .int .i64 year, .slice A3 words.length c3] 99) = wn at *
          refine wp_region_noPanic ?_
          refine wp_region_held_drew (S := fun w' => w'.cell? ⟨wr.heap.size, 0, none⟩ = some (.int .i64 num) ∧ w'.cell? ⟨wr.heap.size, 1, none⟩ = some (.string name) ∧ w'.cell? ⟨wr.heap.size, 2, none⟩ = some (.string maker) ∧ w'.cell? ⟨wr.heap.size, 3, none⟩ = some (.int .i64 year) ∧ w'.cell? ⟨wr.heap.size, 4, none⟩ = some (.slice A3 words.length c3)) (by kernel_rfl) (by (try dsimp only); first | go_keep | assumption) (fun hHeld => ?_)
          refine take_d (i := 0) (d := some 12) (v := ?_) rfl rfl (by kernel_rfl) (by kernel_rfl) (by kernel_rfl) (fun _ _ _ h => h) (Or.inl ⟨by rfl, ?_⟩) (by assumption) ?_
          rotate_left
          · (intro w hSw; (try dsimp only at hSw); go_simp; (try (with_reducible rfl)))
          simp only [Act.put, List.setIfInBounds_toArray, List.set_cons_zero, List.set_cons_succ]
          refine call_d (i := 1) (d := some 13) rfl rfl (by kernel_rfl) (fun K hK => ?_)
          go_simp
          (go_at_call 98; ((with_reducible refine (HV.out _ (Hew.out.below (hacc.mono hzB)) (Nat.le_trans hzB hacc.size)).mono ?_)); rintro e wq ⟨rfl, hbq⟩; have hSq := five_at ((hbq.block _ hlw).trans Hnw.out); have hacc' := hacc.trans (hbq.mono hacc.size); clear hacc; have hacc := hacc'; clear hacc')
          (try (go_wp2_with fail))
          refine hK.out _ _ (hSq) (fun hHeld => ?_)
          clear hK K
          (try simp only [Act.put, List.setIfInBounds_toArray, List.set_cons_zero, List.set_cons_succ])
          refine take_d (i := 2) (d := some 14) (v := ?_) rfl rfl (by kernel_rfl) (by kernel_rfl) (by kernel_rfl) (fun _ _ _ h => h) (Or.inl ⟨by rfl, ?_⟩) (by assumption) ?_
          rotate_left
          · (intro w hSw; (try dsimp only at hSw); go_simp; (try (with_reducible rfl)))
          simp only [Act.put, List.setIfInBounds_toArray, List.set_cons_zero, List.set_cons_succ]
          refine take_d (i := 3) (d := some 15) (v := ?_) rfl rfl (by kernel_rfl) (by kernel_rfl) (by kernel_rfl) (fun _ _ _ h => h) (Or.inl ⟨by rfl, ?_⟩) (by assumption) ?_
          rotate_left
          · (intro w hSw; (try dsimp only at hSw); go_simp; (try (with_reducible rfl)))
          simp only [Act.put, List.setIfInBounds_toArray, List.set_cons_zero, List.set_cons_succ]
          refine take_d (i := 4) (d := some 16) (v := undef) rfl rfl (by kernel_rfl) (by kernel_rfl) (by kernel_rfl) (fun _ _ _ h => h) (Or.inr ⟨by rfl, rfl⟩) (by assumption) ?_
          simp only [Act.put, List.setIfInBounds_toArray, List.set_cons_zero, List.set_cons_succ]
          refine take_d (i := 5) (d := some 17) (v := undef) rfl rfl (by kernel_rfl) (by kernel_rfl) (by kernel_rfl) (fun _ _ _ h => h) (Or.inr ⟨by rfl, rfl⟩) (by assumption) ?_
          simp only [Act.put, List.setIfInBounds_toArray, List.set_cons_zero, List.set_cons_succ]
          refine take_d (i := 6) (d := some 18) (v := undef) rfl rfl (by kernel_rfl) (by kernel_rfl) (by kernel_rfl) (fun _ _ _ h => h) (Or.inr ⟨by rfl, rfl⟩) (by assumption) ?_
          simp only [Act.put, List.setIfInBounds_toArray, List.set_cons_zero, List.set_cons_succ]
          refine take_d (i := 7) (d := some 19) (v := undef) rfl rfl (by kernel_rfl) (by kernel_rfl) (by kernel_rfl) (fun _ _ _ h => h) (Or.inr ⟨by rfl, rfl⟩) (by assumption) ?_
          simp only [Act.put, List.setIfInBounds_toArray, List.set_cons_zero, List.set_cons_succ]
          refine take_d (i := 8) (d := some 20) (v := undef) rfl rfl (by kernel_rfl) (by kernel_rfl) (by kernel_rfl) (fun _ _ _ h => h) (Or.inr ⟨by rfl, rfl⟩) (by assumption) ?_
          simp only [Act.put, List.setIfInBounds_toArray, List.set_cons_zero, List.set_cons_succ]
          refine take_d (i := 9) (d := some 21) (v := undef) rfl rfl (by kernel_rfl) (by kernel_rfl) (by kernel_rfl) (fun _ _ _ h => h) (Or.inr ⟨by rfl, rfl⟩) (by assumption) ?_
          simp only [Act.put, List.setIfInBounds_toArray, List.set_cons_zero, List.set_cons_succ]
          refine take_d (i := 10) (d := some 22) (v := undef) rfl rfl (by kernel_rfl) (by kernel_rfl) (by kernel_rfl) (fun _ _ _ h => h) (Or.inr ⟨by rfl, rfl⟩) (by assumption) ?_
          simp only [Act.put, List.setIfInBounds_toArray, List.set_cons_zero, List.set_cons_succ]
          refine take_d (i := 11) (d := some 23) (v := undef) rfl rfl (by kernel_rfl) (by kernel_rfl) (by kernel_rfl) (fun _ _ _ h => h) (Or.inr ⟨by rfl, rfl⟩) (by assumption) ?_
          simp only [Act.put, List.setIfInBounds_toArray, List.set_cons_zero, List.set_cons_succ]
          refine take_d (i := 12) (d := some 24) (v := undef) rfl rfl (by kernel_rfl) (by kernel_rfl) (by kernel_rfl) (fun _ _ _ h => h) (Or.inr ⟨by rfl, rfl⟩) (by assumption) ?_
          simp only [Act.put, List.setIfInBounds_toArray, List.set_cons_zero, List.set_cons_succ]
          refine take_d (i := 13) (d := some 25) (v := undef) rfl rfl (by kernel_rfl) (by kernel_rfl) (by kernel_rfl) (fun _ _ _ h => h) (Or.inr ⟨by rfl, rfl⟩) (by assumption) ?_
          simp only [Act.put, List.setIfInBounds_toArray, List.set_cons_zero, List.set_cons_succ]
          refine take_d (i := 14) (d := some 26) (v := undef) rfl rfl (by kernel_rfl) (by kernel_rfl) (by kernel_rfl) (fun _ _ _ h => h) (Or.inr ⟨by rfl, rfl⟩) (by assumption) ?_
          simp only [Act.put, List.setIfInBounds_toArray, List.set_cons_zero, List.set_cons_succ]
          refine take_d (i := 15) (d := some 27) (v := undef) rfl rfl (by kernel_rfl) (by kernel_rfl) (by kernel_rfl) (fun _ _ _ h => h) (Or.inr ⟨by rfl, rfl⟩) (by assumption) ?_
          simp only [Act.put, List.setIfInBounds_toArray, List.set_cons_zero, List.set_cons_succ]
          refine take_d (i := 16) (d := some 28) (v := undef) rfl rfl (by kernel_rfl) (by kernel_rfl) (by kernel_rfl) (fun _ _ _ h => h) (Or.inr ⟨by rfl, rfl⟩) (by assumption) ?_
          simp only [Act.put, List.setIfInBounds_toArray, List.set_cons_zero, List.set_cons_succ]
          refine take_d (i := 17) (d := some 29) (v := ?_) rfl rfl (by kernel_rfl) (by kernel_rfl) (by kernel_rfl) (fun _ _ _ h => h) (Or.inl ⟨by rfl, ?_⟩) (by assumption) ?_
          rotate_left
          · (intro w hSw; (try dsimp only at hSw); go_simp; (try (with_reducible rfl)))
          simp only [Act.put, List.setIfInBounds_toArray, List.set_cons_zero, List.set_cons_succ]
          refine wpAnyH_done (by kernel_rfl) ?_ _
          refine NoPanic.normal ?_
          go_wp2_with fail
          go_ret
          rw [hf.out]; exact ⟨rfl, Hbl.out.trans (hacc.mono Hbl.out.size)⟩
        | true =>
          rw [g] at HV
          have h1 := H0.out g
          rcases Decidable.em (pn < num) with gl | gl
          · have hst := Lib.hid (Hst.out (h1.trans (decide_eq_true gl)))
            clear Hbad Hst Hn g H0 h1
            go_wp2_with fail
            obtain ⟨f0, f1, f2, f3, f4, _⟩ := blk5 Hnw.out
            have hacc : Below wr.heap.size wr (wr.alloc (.cells #[.int .i64 num, .string name, .string maker, .int .i64 year, .slice A3 words.length c3] 99)).drew := Hba.out.drew
            have hp1 := Hp0.out _ Hba.out
            generalize wr.alloc (.cells #[.int .i64 num, .string name, .string maker, .int .i64 year, .slice A3 words.length c3] 99) = wn at *
            have hm2 : (m : Int) < (xs.length : Int) := by omega
            have hm1 : IntKind.i64.wrap (m : Int) = (m : Int) := IntWalk.i64_in _ (by omega)
            refine wp_region_noPanic ?_
            refine wp_region_held_drew (S := fun w' => w'.cell? ⟨wr.heap.size, 0, none⟩ = some (.int .i64 num) ∧ w'.cell? ⟨wr.heap.size, 1, none⟩ = some (.string name) ∧ w'.cell? ⟨wr.heap.size, 2, none⟩ = some (.string maker) ∧ w'.cell? ⟨wr.heap.size, 3, none⟩ = some (.int .i64 year) ∧ w'.cell? ⟨wr.heap.size, 4, none⟩ = some (.slice A3 words.length c3) ∧ w'.cell? ⟨b1, o1 + m * 5, none⟩ = some (.int .i64 pn)) (by kernel_rfl) (by (try dsimp only); first | go_keep | assumption) (fun hHeld => ?_)
            refine take_d (i := 0) (d := some 12) (v := ?_) rfl rfl (by kernel_rfl) (by kernel_rfl) (by kernel_rfl) (fun _ _ _ h => h) (Or.inl ⟨by rfl, ?_⟩) (by assumption) ?_
            rotate_left
            · (intro w hSw; (try dsimp only at hSw); go_simp; (try (with_reducible rfl)))
            simp only [Act.put, List.setIfInBounds_toArray, List.set_cons_zero, List.set_cons_succ]
            refine call_d (i := 1) (d := some 13) rfl rfl (by kernel_rfl) (fun K hK => ?_)
            go_simp
            (go_at_call 98; ((with_reducible refine (HV.out _ (Hew.out.below (hacc.mono hzB)) (Nat.le_trans hzB hacc.size)).mono ?_)); rintro e wq ⟨rfl, hbq⟩; have hacc' := hacc.trans (hbq.mono hacc.size); have hSq := six_at ((hbq.block _ hlw).trans Hnw.out) (Hp0.out _ hacc'); clear hacc; have hacc := hacc'; clear hacc')
            (try (go_wp2_with fail))
            refine hK.out _ _ (hSq) (fun hHeld => ?_)
            clear hK K
            (try simp only [Act.put, List.setIfInBounds_toArray, List.set_cons_zero, List.set_cons_succ])
            refine take_d (i := 2) (d := some 14) (v := ?_) rfl rfl (by kernel_rfl) (by kernel_rfl) (by kernel_rfl) (fun _ _ _ h => h) (Or.inl ⟨by rfl, ?_⟩) (by assumption) ?_
            rotate_left
            · (intro w hSw; (try dsimp only at hSw); go_simp; (try (with_reducible rfl)))
            simp only [Act.put, List.setIfInBounds_toArray, List.set_cons_zero, List.set_cons_succ]
            refine take_d (i := 3) (d := some 15) (v := ?_) rfl rfl (by kernel_rfl) (by kernel_rfl) (by kernel_rfl) (fun _ _ _ h => h) (Or.inl ⟨by rfl, ?_⟩) (by assumption) ?_
            rotate_left
            · (intro w hSw; (try dsimp only at hSw); go_simp; (try (with_reducible rfl)))
            simp only [Act.put, List.setIfInBounds_toArray, List.set_cons_zero, List.set_cons_succ]
            refine take_d (i := 4) (d := some 16) (v := ?_) rfl rfl (by kernel_rfl) (by kernel_rfl) (by kernel_rfl) (fun _ _ _ h => h) (Or.inl ⟨by rfl, ?_⟩) (by assumption) ?_
            rotate_left
            · (intro w hSw; (try dsimp only at hSw); go_simp; (try (with_reducible rfl)))
            simp only [Act.put, List.setIfInBounds_toArray, List.set_cons_zero, List.set_cons_succ]
            refine take_d (i := 5) (d := some 17) (v := ?_) rfl rfl (by kernel_rfl) (by kernel_rfl) (by kernel_rfl) (fun _ _ _ h => h) (Or.inl ⟨by rfl, ?_⟩) (by assumption) ?_
            rotate_left
            · (intro w hSw; (try dsimp only at hSw); go_simp; (try (with_reducible rfl)))
            simp only [Act.put, List.setIfInBounds_toArray, List.set_cons_zero, List.set_cons_succ]
            refine take_d (i := 6) (d := some 18) (v := ?_) rfl rfl (by kernel_rfl) (by kernel_rfl) (by kernel_rfl) (fun _ _ _ h => h) (Or.inl ⟨by rfl, ?_⟩) (by assumption) ?_
            rotate_left
            · (intro w hSw; (try dsimp only at hSw); go_simp; (try (with_reducible rfl)))
            simp only [Act.put, List.setIfInBounds_toArray, List.set_cons_zero, List.set_cons_succ]
            refine take_d (i := 7) (d := some 19) (v := ?_) rfl rfl (by kernel_rfl) (by kernel_rfl) (by kernel_rfl) (fun _ _ _ h => h) (Or.inl ⟨by rfl, ?_⟩) (by assumption) ?_
            rotate_left
            · (intro w hSw; (try dsimp only at hSw); go_simp; (try (with_reducible rfl)))
            simp only [Act.put, List.setIfInBounds_toArray, List.set_cons_zero, List.set_cons_succ]
            refine take_d (i := 8) (d := some 20) (v := ?_) rfl rfl (by kernel_rfl) (by kernel_rfl) (by kernel_rfl) (fun _ _ _ h => h) (Or.inl ⟨by rfl, ?_⟩) (by assumption) ?_
            rotate_left
            · (intro w hSw; (try dsimp only at hSw); go_simp; (try (with_reducible rfl)))
            simp only [Act.put, List.setIfInBounds_toArray, List.set_cons_zero, List.set_cons_succ]
            refine take_d (i := 9) (d := some 21) (v := ?_) rfl rfl (by kernel_rfl) (by kernel_rfl) (by kernel_rfl) (fun _ _ _ h => h) (Or.inl ⟨by rfl, ?_⟩) (by assumption) ?_
            rotate_left
            · (intro w hSw; (try dsimp only at hSw); go_simp; (try (with_reducible rfl)))
            simp only [Act.put, List.setIfInBounds_toArray, List.set_cons_zero, List.set_cons_succ]
            refine take_d (i := 10) (d := some 22) (v := ?_) rfl rfl (by kernel_rfl) (by kernel_rfl) (by kernel_rfl) (fun _ _ _ h => h) (Or.inl ⟨by rfl, ?_⟩) (by assumption) ?_
            rotate_left
            · (intro w hSw; (try dsimp only at hSw); go_simp; (try (with_reducible rfl)))
            simp only [Act.put, List.setIfInBounds_toArray, List.set_cons_zero, List.set_cons_succ]
            refine take_d (i := 11) (d := some 23) (v := ?_) rfl rfl (by kernel_rfl) (by kernel_rfl) (by kernel_rfl) (fun _ _ _ h => h) (Or.inl ⟨by rfl, ?_⟩) (by assumption) ?_
            rotate_left
            · (intro w hSw; (try dsimp only at hSw); go_simp; (try (with_reducible rfl)))
            simp only [Act.put, List.setIfInBounds_toArray, List.set_cons_zero, List.set_cons_succ]
            refine take_d (i := 12) (d := some 24) (v := ?_) rfl rfl (by kernel_rfl) (by kernel_rfl) (by kernel_rfl) (fun _ _ _ h => h) (Or.inl ⟨by rfl, ?_⟩) (by assumption) ?_
            rotate_left
            · (intro w hSw; (try dsimp only at hSw); go_simp; (try (with_reducible rfl)))
            simp only [Act.put, List.setIfInBounds_toArray, List.set_cons_zero, List.set_cons_succ]
            refine take_d (i := 13) (d := some 25) (v := ?_) rfl rfl (by kernel_rfl) (by kernel_rfl) (by kernel_rfl) (fun _ _ _ h => h) (Or.inl ⟨by rfl, ?_⟩) (by assumption) ?_
            rotate_left
            · (intro w hSw; (try dsimp only at hSw); go_simp; (try (with_reducible rfl)))
            simp only [Act.put, List.setIfInBounds_toArray, List.set_cons_zero, List.set_cons_succ]
            refine take_d (i := 14) (d := some 26) (v := ?_) rfl rfl (by kernel_rfl) (by kernel_rfl) (by kernel_rfl) (fun _ _ _ h => h) (Or.inl ⟨by rfl, ?_⟩) (by assumption) ?_
            rotate_left
            · (intro w hSw; (try dsimp only at hSw); go_simp; (try (with_reducible rfl)))
            simp only [Act.put, List.setIfInBounds_toArray, List.set_cons_zero, List.set_cons_succ]
            refine take_d (i := 15) (d := some 27) (v := ?_) rfl rfl (by kernel_rfl) (by kernel_rfl) (by kernel_rfl) (fun _ _ _ h => h) (Or.inl ⟨by rfl, ?_⟩) (by assumption) ?_
            rotate_left
            · (intro w hSw; (try dsimp only at hSw); go_simp; (try (with_reducible rfl)))
            simp only [Act.put, List.setIfInBounds_toArray, List.set_cons_zero, List.set_cons_succ]
            refine take_d (i := 16) (d := some 28) (v := ?_) rfl rfl (by kernel_rfl) (by kernel_rfl) (by kernel_rfl) (fun _ _ _ h => h) (Or.inl ⟨by rfl, ?_⟩) (by assumption) ?_
            rotate_left
            · (intro w hSw; (try dsimp only at hSw); go_simp; (try (with_reducible rfl)))
            simp only [Act.put, List.setIfInBounds_toArray, List.set_cons_zero, List.set_cons_succ]
            refine take_d (i := 17) (d := some 29) (v := ?_) rfl rfl (by kernel_rfl) (by kernel_rfl) (by kernel_rfl) (fun _ _ _ h => h) (Or.inl ⟨by rfl, ?_⟩) (by assumption) ?_
            rotate_left
            · (intro w hSw; (try dsimp only at hSw); go_simp; (try (with_reducible rfl)))
            simp only [Act.put, List.setIfInBounds_toArray, List.set_cons_zero, List.set_cons_succ]
            refine wpAnyH_done (by kernel_rfl) ?_ _
            refine NoPanic.normal ?_
            clear hm1
            go_wp2_with fail
            go_roundw
            case rel => exact ⟨m + 1 + 1, by omega, hst.out, by go_num, Hbl.out.trans (hacc.mono Hbl.out.size)⟩
            case measure => simp [intOf]; omega
          · have hf := Lib.hid (Hbad.out (h1.trans (decide_eq_false gl)))
            have gl' : num ≤ pn := by omega
            clear Hbad Hst Hn g H0 h1 gl
            go_wp2_with fail
            obtain ⟨f0, f1, f2, f3, f4, _⟩ := blk5 Hnw.out
            have hacc : Below wr.heap.size wr (wr.alloc (.cells #[.int .i64 num, .string name, .string maker, .int .i64 year, .slice A3 words.length c3] 99)).drew := Hba.out.drew
            have hp1 := Hp0.out _ Hba.out
            generalize wr.alloc (.cells #[.int .i64 num, .string name, .string maker, .int .i64 year, .slice A3 words.length c3] 99) = wn at *
            have hm2 : (m : Int) < (xs.length : Int) := by omega
            have hm1 : IntKind.i64.wrap (m : Int) = (m : Int) := IntWalk.i64_in _ (by omega)
            refine wp_region_noPanic ?_
            refine wp_region_held_drew (S := fun w' => w'.cell? ⟨wr.heap.size, 0, none⟩ = some (.int .i64 num) ∧ w'.cell? ⟨wr.heap.size, 1, none⟩ = some (.string name) ∧ w'.cell? ⟨wr.heap.size, 2, none⟩ = some (.string maker) ∧ w'.cell? ⟨wr.heap.size, 3, none⟩ = some (.int .i64 year) ∧ w'.cell? ⟨wr.heap.size, 4, none⟩ = some (.slice A3 words.length c3) ∧ w'.cell? ⟨b1, o1 + m * 5, none⟩ = some (.int .i64 pn)) (by kernel_rfl) (by (try dsimp only); first | go_keep | assumption) (fun hHeld => ?_)
            refine take_d (i := 0) (d := some 12) (v := ?_) rfl rfl (by kernel_rfl) (by kernel_rfl) (by kernel_rfl) (fun _ _ _ h => h) (Or.inl ⟨by rfl, ?_⟩) (by assumption) ?_
            rotate_left
            · (intro w hSw; (try dsimp only at hSw); go_simp; (try (with_reducible rfl)))
            simp only [Act.put, List.setIfInBounds_toArray, List.set_cons_zero, List.set_cons_succ]
            refine call_d (i := 1) (d := some 13) rfl rfl (by kernel_rfl) (fun K hK => ?_)
            go_simp
            (go_at_call 98; ((with_reducible refine (HV.out _ (Hew.out.below (hacc.mono hzB)) (Nat.le_trans hzB hacc.size)).mono ?_)); rintro e wq ⟨rfl, hbq⟩; have hacc' := hacc.trans (hbq.mono hacc.size); have hSq := six_at ((hbq.block _ hlw).trans Hnw.out) (Hp0.out _ hacc'); clear hacc; have hacc := hacc'; clear hacc')
            (try (go_wp2_with fail))
            refine hK.out _ _ (hSq) (fun hHeld => ?_)
            clear hK K
            (try simp only [Act.put, List.setIfInBounds_toArray, List.set_cons_zero, List.set_cons_succ])
            refine take_d (i := 2) (d := some 14) (v := ?_) rfl rfl (by kernel_rfl) (by kernel_rfl) (by kernel_rfl) (fun _ _ _ h => h) (Or.inl ⟨by rfl, ?_⟩) (by assumption) ?_
            rotate_left
            · (intro w hSw; (try dsimp only at hSw); go_simp; (try (with_reducible rfl)))
            simp only [Act.put, List.setIfInBounds_toArray, List.set_cons_zero, List.set_cons_succ]
            refine take_d (i := 3) (d := some 15) (v := ?_) rfl rfl (by kernel_rfl) (by kernel_rfl) (by kernel_rfl) (fun _ _ _ h => h) (Or.inl ⟨by rfl, ?_⟩) (by assumption) ?_
            rotate_left
            · (intro w hSw; (try dsimp only at hSw); go_simp; (try (with_reducible rfl)))
            simp only [Act.put, List.setIfInBounds_toArray, List.set_cons_zero, List.set_cons_succ]
            refine take_d (i := 4) (d := some 16) (v := ?_) rfl rfl (by kernel_rfl) (by kernel_rfl) (by kernel_rfl) (fun _ _ _ h => h) (Or.inl ⟨by rfl, ?_⟩) (by assumption) ?_
            rotate_left
            · (intro w hSw; (try dsimp only at hSw); go_simp; (try (with_reducible rfl)))
            simp only [Act.put, List.setIfInBounds_toArray, List.set_cons_zero, List.set_cons_succ]
            refine take_d (i := 5) (d := some 17) (v := ?_) rfl rfl (by kernel_rfl) (by kernel_rfl) (by kernel_rfl) (fun _ _ _ h => h) (Or.inl ⟨by rfl, ?_⟩) (by assumption) ?_
            rotate_left
            · (intro w hSw; (try dsimp only at hSw); go_simp; (try (with_reducible rfl)))
            simp only [Act.put, List.setIfInBounds_toArray, List.set_cons_zero, List.set_cons_succ]
            refine take_d (i := 6) (d := some 18) (v := ?_) rfl rfl (by kernel_rfl) (by kernel_rfl) (by kernel_rfl) (fun _ _ _ h => h) (Or.inl ⟨by rfl, ?_⟩) (by assumption) ?_
            rotate_left
            · (intro w hSw; (try dsimp only at hSw); go_simp; (try (with_reducible rfl)))
            simp only [Act.put, List.setIfInBounds_toArray, List.set_cons_zero, List.set_cons_succ]
            refine take_d (i := 7) (d := some 19) (v := ?_) rfl rfl (by kernel_rfl) (by kernel_rfl) (by kernel_rfl) (fun _ _ _ h => h) (Or.inl ⟨by rfl, ?_⟩) (by assumption) ?_
            rotate_left
            · (intro w hSw; (try dsimp only at hSw); go_simp; (try (with_reducible rfl)))
            simp only [Act.put, List.setIfInBounds_toArray, List.set_cons_zero, List.set_cons_succ]
            refine take_d (i := 8) (d := some 20) (v := ?_) rfl rfl (by kernel_rfl) (by kernel_rfl) (by kernel_rfl) (fun _ _ _ h => h) (Or.inl ⟨by rfl, ?_⟩) (by assumption) ?_
            rotate_left
            · (intro w hSw; (try dsimp only at hSw); go_simp; (try (with_reducible rfl)))
            simp only [Act.put, List.setIfInBounds_toArray, List.set_cons_zero, List.set_cons_succ]
            refine take_d (i := 9) (d := some 21) (v := ?_) rfl rfl (by kernel_rfl) (by kernel_rfl) (by kernel_rfl) (fun _ _ _ h => h) (Or.inl ⟨by rfl, ?_⟩) (by assumption) ?_
            rotate_left
            · (intro w hSw; (try dsimp only at hSw); go_simp; (try (with_reducible rfl)))
            simp only [Act.put, List.setIfInBounds_toArray, List.set_cons_zero, List.set_cons_succ]
            refine take_d (i := 10) (d := some 22) (v := ?_) rfl rfl (by kernel_rfl) (by kernel_rfl) (by kernel_rfl) (fun _ _ _ h => h) (Or.inl ⟨by rfl, ?_⟩) (by assumption) ?_
            rotate_left
            · (intro w hSw; (try dsimp only at hSw); go_simp; (try (with_reducible rfl)))
            simp only [Act.put, List.setIfInBounds_toArray, List.set_cons_zero, List.set_cons_succ]
            refine take_d (i := 11) (d := some 23) (v := ?_) rfl rfl (by kernel_rfl) (by kernel_rfl) (by kernel_rfl) (fun _ _ _ h => h) (Or.inl ⟨by rfl, ?_⟩) (by assumption) ?_
            rotate_left
            · (intro w hSw; (try dsimp only at hSw); go_simp; (try (with_reducible rfl)))
            simp only [Act.put, List.setIfInBounds_toArray, List.set_cons_zero, List.set_cons_succ]
            refine take_d (i := 12) (d := some 24) (v := ?_) rfl rfl (by kernel_rfl) (by kernel_rfl) (by kernel_rfl) (fun _ _ _ h => h) (Or.inl ⟨by rfl, ?_⟩) (by assumption) ?_
            rotate_left
            · (intro w hSw; (try dsimp only at hSw); go_simp; (try (with_reducible rfl)))
            simp only [Act.put, List.setIfInBounds_toArray, List.set_cons_zero, List.set_cons_succ]
            refine take_d (i := 13) (d := some 25) (v := ?_) rfl rfl (by kernel_rfl) (by kernel_rfl) (by kernel_rfl) (fun _ _ _ h => h) (Or.inl ⟨by rfl, ?_⟩) (by assumption) ?_
            rotate_left
            · (intro w hSw; (try dsimp only at hSw); go_simp; (try (with_reducible rfl)))
            simp only [Act.put, List.setIfInBounds_toArray, List.set_cons_zero, List.set_cons_succ]
            refine take_d (i := 14) (d := some 26) (v := ?_) rfl rfl (by kernel_rfl) (by kernel_rfl) (by kernel_rfl) (fun _ _ _ h => h) (Or.inl ⟨by rfl, ?_⟩) (by assumption) ?_
            rotate_left
            · (intro w hSw; (try dsimp only at hSw); go_simp; (try (with_reducible rfl)))
            simp only [Act.put, List.setIfInBounds_toArray, List.set_cons_zero, List.set_cons_succ]
            refine take_d (i := 15) (d := some 27) (v := ?_) rfl rfl (by kernel_rfl) (by kernel_rfl) (by kernel_rfl) (fun _ _ _ h => h) (Or.inl ⟨by rfl, ?_⟩) (by assumption) ?_
            rotate_left
            · (intro w hSw; (try dsimp only at hSw); go_simp; (try (with_reducible rfl)))
            simp only [Act.put, List.setIfInBounds_toArray, List.set_cons_zero, List.set_cons_succ]
            refine take_d (i := 16) (d := some 28) (v := ?_) rfl rfl (by kernel_rfl) (by kernel_rfl) (by kernel_rfl) (fun _ _ _ h => h) (Or.inl ⟨by rfl, ?_⟩) (by assumption) ?_
            rotate_left
            · (intro w hSw; (try dsimp only at hSw); go_simp; (try (with_reducible rfl)))
            simp only [Act.put, List.setIfInBounds_toArray, List.set_cons_zero, List.set_cons_succ]
            refine take_d (i := 17) (d := some 29) (v := ?_) rfl rfl (by kernel_rfl) (by kernel_rfl) (by kernel_rfl) (fun _ _ _ h => h) (Or.inl ⟨by rfl, ?_⟩) (by assumption) ?_
            rotate_left
            · (intro w hSw; (try dsimp only at hSw); go_simp; (try (with_reducible rfl)))
            simp only [Act.put, List.setIfInBounds_toArray, List.set_cons_zero, List.set_cons_succ]
            refine wpAnyH_done (by kernel_rfl) ?_ _
            refine NoPanic.normal ?_
            clear hm1
            go_wp2_with fail
            go_ret
            rw [hf.out]; exact ⟨rfl, Hbl.out.trans (hacc.mono Hbl.out.size)⟩
    · have hc : chk xs.length (placeOk xs) = true := by rw [show xs.length = k by omega]; exact Hall.out
      have hf := Lib.hid (show entsOk xs = decide (xs.length ≤ 50) by unfold entsOk; rw [hc]; rfl)
      have hlt' : (xs.length : Int) ≤ (k : Int) := by omega
      clear hc
      go_wp2_with fail
      go_ret
      rw [hf.out]; exact ⟨by simp; omega, hbl⟩
end Go.Proofs.YtmheijnckmlbnaaDoor
/- Entries, part 4: SameEntries on both sides. -/
namespace Go.Proofs.YtmheijnckmlbnaaDoor
open Go.RowKit Go.Joins

/-- where two entries part first -/
theorem ent_cases (x y : Ent) : x = y ∨
    (x ≠ y ∧ ((x.num != y.num) = true ∨ (x.num = y.num ∧ (x.name.toList != y.name.toList) = true ∧ (x.name.toList == y.name.toList) = false) ∨ (x.num = y.num ∧ x.name = y.name ∧ (x.maker.toList != y.maker.toList) = true ∧ (x.maker.toList == y.maker.toList) = false) ∨
      (x.num = y.num ∧ x.name = y.name ∧ x.maker = y.maker ∧ (x.year != y.year) = true) ∨ (x.num = y.num ∧ x.name = y.name ∧ x.maker = y.maker ∧ x.year = y.year ∧ decide (x.words = y.words) = false))) := by
  have hbn : ∀ a b : ByteArray, a ≠ b → (a.toList != b.toList) = true ∧ (a.toList == b.toList) = false := fun a b h =>
    ⟨bne_iff_ne.2 fun e => h (ba_inj e), beq_eq_false_iff_ne.2 fun e => h (ba_inj e)⟩
  by_cases h : x = y
  · exact .inl h
  · refine .inr ⟨h, ?_⟩
    by_cases h1 : x.num = y.num
    · by_cases h2 : x.name = y.name
      · by_cases h3 : x.maker = y.maker
        · by_cases h4 : x.year = y.year
          · refine .inr (.inr (.inr (.inr ⟨h1, h2, h3, h4, ?_⟩)))
            rw [decide_eq_false_iff_not]
            intro h5
            exact h (by obtain ⟨a, b, c, d, e⟩ := x; obtain ⟨a', b', c', d', e'⟩ := y; simp_all)
          · exact .inr (.inr (.inr (.inl ⟨h1, h2, h3, bne_iff_ne.2 h4⟩)))
        · exact .inr (.inr (.inl ⟨h1, h2, hbn _ _ h3⟩))
      · exact .inr (.inl ⟨h1, hbn _ _ h2⟩)
    · exact .inl (bne_iff_ne.2 h1)

theorem ents_bad {xs ys : List Ent} (k : Nat) (hx : k < xs.length) (hy : k < ys.length) (h : xs[k] ≠ ys[k]) : decide (xs = ys) = false := by
  rw [decide_eq_false_iff_not]
  intro e
  subst e
  exact h rfl
theorem ents_step {xs ys : List Ent} (k : Nat) (hx : k < xs.length) (hy : k < ys.length) (h0 : xs.take k = ys.take k) (h : xs[k] = ys[k]) : xs.take (k + 1) = ys.take (k + 1) := by
  rw [List.take_succ_eq_append_getElem hx, List.take_succ_eq_append_getElem hy, h0, h]

end Go.Proofs.YtmheijnckmlbnaaDoor
/- Entries, part 5: the reading of an argument; the law FnExactSameEntries. -/
namespace Go.Proofs.YtmheijnckmlbnaaDoor
open Go.ChangeShapes Go.WideShapes Go.ChangeAt Go.RowKit

section
variable {H : Type} {enc : TypeId × Value → H} {P : Program} {W : World}
theorem rd_strs_cells {T E : Nat} {fuel : Nat} {cs : List Value} {x : DataW H × List MemPlace} (hT : P.underlying T = some (.slice E)) (hE : P.underlying E = some .string) (hC : P.cellsOf E = 1)
    (hf : DataW.trod enc P W 0 (fun _ => true) true fuel T cs = some x) :
    ∃ (v : Value) (zs : List ByteArray), cs = [v] ∧ Rd W W.heap.size v zs.length 1 (Proofs.YtmheijnckmlbnaaDoor.strs zs) ∧ zs.length ≤ maxLen ∧ ∀ z ∈ zs, z.size ≤ maxLen := by
  rcases open_strings hT hE hC hf with ⟨rfl, hx⟩ | ⟨a, len, cap, zs, rfl, _, hl, hm, hz, hx, hcell, hwz⟩
  · exact ⟨_, [], rfl, ⟨rfl, none, 0, rfl, fun h => by simp at h⟩, by simp [maxLen], by simp⟩
  · have hz' : zs.length = cap := by simpa using hz
    have hlen : (zs.take len).length = len := by rw [List.length_take]; omega
    refine ⟨_, zs.take len, rfl, ?_, by rw [hlen]; omega, fun z hzz => hwz z (List.mem_of_mem_take hzz)⟩
    rw [hlen]
    refine ⟨by simp [Proofs.YtmheijnckmlbnaaDoor.strs]; omega, some a, cap, rfl, fun hn => ?_⟩
    have h0 := hcell 0 (by omega)
    obtain ⟨b, off, spot⟩ := a
    have hspot : spot = none := by simpa [Addr.add] using World.cell?_spot h0
    subst hspot
    have hc : ∀ j, j < zs.length → W.cell? ⟨b, off + j, none⟩ = some (.string (zs.getD j ByteArray.empty)) := fun j hj => by rw [← Go.WideShapes.add_plain]; exact hcell j hj
    refine ⟨b, off, rfl, World.block_lt_of_cell? W _ (hc 0 (by omega)), fun i u hu => ?_⟩
    have hi : i < len := by
      have := (List.getElem?_eq_some_iff.1 hu).1
      simp [Proofs.YtmheijnckmlbnaaDoor.strs] at this; omega
    rw [hc i (by omega), ← hu]
    simp [Proofs.YtmheijnckmlbnaaDoor.strs, hi, List.getD, (show i < zs.length by omega)]
end

set_option maxRecDepth 100000 in
theorem elem_entry {H : Type} {enc : TypeId × Value → H} {W : World} (n : Nat) (cs : List Value) (y : DataW H × List MemPlace) (h : DataW.trod enc Tryd.prog W 0 (fun _ => true) true n 90 cs = some y) :
    ∃ x : Ent × Value, cs = cellsE x ∧ RdW W W.heap.size x ∧ lenE x.1 := by
  obtain ⟨xs, m, _, _, hl, hlen, hf⟩ := DataW.trod_struct Tryd.underlying90 h
  have hC : Tryd.prog.cellsOf 90 = 5 := by kernel_rfl
  rw [hC] at hl
  match cs, hl, xs, hlen with
  | [a0, a1, a2, a3, a4], _, [y0, y1, y2, y3, y4], _ =>
    have c1 : Tryd.prog.cellsOf 2 = 1 := by kernel_rfl
    have c2 : Tryd.prog.cellsOf 9 = 1 := by kernel_rfl
    have c3 : Tryd.prog.cellsOf 57 = 1 := by kernel_rfl
    have h0 := hf 0 _ rfl
    change DataW.trod enc Tryd.prog W 0 (fun _ => true) true m 2 (([a0, a1, a2, a3, a4].drop 0).take (Tryd.prog.cellsOf 2)) = some y0 at h0
    rw [c1] at h0
    have h1 := hf 1 _ rfl
    change DataW.trod enc Tryd.prog W 0 (fun _ => true) true m 9 (([a0, a1, a2, a3, a4].drop 1).take (Tryd.prog.cellsOf 9)) = some y1 at h1
    rw [c2] at h1
    have h2 := hf 2 _ rfl
    change DataW.trod enc Tryd.prog W 0 (fun _ => true) true m 9 (([a0, a1, a2, a3, a4].drop 2).take (Tryd.prog.cellsOf 9)) = some y2 at h2
    rw [c2] at h2
    have h3 := hf 3 _ rfl
    change DataW.trod enc Tryd.prog W 0 (fun _ => true) true m 2 (([a0, a1, a2, a3, a4].drop 3).take (Tryd.prog.cellsOf 2)) = some y3 at h3
    rw [c1] at h3
    have h4 := hf 4 _ rfl
    change DataW.trod enc Tryd.prog W 0 (fun _ => true) true m 57 (([a0, a1, a2, a3, a4].drop 4).take (Tryd.prog.cellsOf 57)) = some y4 at h4
    rw [c3] at h4
    obtain ⟨num, q0, _, _⟩ := DataW.trod_int Tryd.underlying2 h0
    obtain ⟨name, q1, _, w1⟩ := DataW.trod_string Tryd.underlying9 h1
    obtain ⟨maker, q2, _, w2⟩ := DataW.trod_string Tryd.underlying9 h2
    obtain ⟨year, q3, _, _⟩ := DataW.trod_int Tryd.underlying2 h3
    obtain ⟨v, words, q4, hr, hl4, hw4⟩ := rd_strs_cells Tryd.underlying57 Tryd.underlying9 c2 h4
    simp at q0 q1 q2 q3 q4
    subst q0 q1 q2 q3 q4
    exact ⟨(⟨num, name, maker, year, words⟩, a4), rfl, hr, w1, w2, hl4, hw4⟩

set_option maxRecDepth 100000 in
theorem rd_entries {H : Type} {enc : TypeId × Value → H} {W : World} {base : Nat} {r : Reach} {v : Value} {d : DataW H} {p : List MemPlace} (ok : Value.okWide Tryd.prog W r base 45 v) (h : DataW.Trod enc Tryd.prog W 0 (fun _ => true) true 45 v d p) :
    ∃ xs : List Ent, RdE W W.heap.size v xs ∧ (xs.length ≤ maxLen ∧ ∀ x ∈ xs, lenE x) := by
  obtain ⟨ys, h1, h2, h3⟩ := rd_rows (P := Tryd.prog) cellsE (fun x => RdW W W.heap.size x ∧ lenE x.1) (sz := 5) Tryd.underlying45 (by kernel_rfl) (by omega) (fun _ => rfl) elem_entry ok h
  refine ⟨ys.map (·.1), ⟨ys, rfl, by simpa using h1, fun y hy => (h3 y hy).1⟩, by simpa using h2, fun x hx => ?_⟩
  obtain ⟨y, hy, rfl⟩ := List.mem_map.1 hx
  exact (h3 y hy).2

open Go.Joins
end Go.Proofs.YtmheijnckmlbnaaDoor
/- Entries, part 9: ValidEntries on the reference's side; the law. -/
namespace Go.Proofs.YtmheijnckmlbnaaDoor
open Go.RowKit Go.Joins

set_option maxRecDepth 100000 in
set_option maxHeartbeats 3200000 in
theorem l25Ok_any (B : Nat) (v : Value) (xs : List Ent) (w : World) (h : RdE w B v xs) (hl : xs.length ≤ 1048576) (hsm : ∀ x ∈ xs, smE x) :
    Calls Tryd.prog 68 #[v] w fun e w' => e = .returned (.bool (entsOk xs)) ∧ ∃ n, w' = w.drewN n := by
  have H := Lib.hid h
  have Hsm := Lib.hid hsm
  obtain ⟨A, c, rfl⟩ := h.slice
  clear h hsm
  go_enter Tryd.func68, Tryd.ntmps68
  go_wp2_with fail
  go_loopw [3] (fun i wr => ∃ k m0 : Nat, k ≤ xs.length ∧ chk k (placeOk xs) = true ∧ i = .int .i64 k ∧ wr = w.drewN m0) (fun i _ => xs.length - (intOf i).toNat)
  case atStart => exact ⟨0, 0, Nat.zero_le _, rfl, rfl, rfl⟩
  case round =>
    obtain ⟨k, m0, hk, hall, rfl, hwr⟩ := hrel
    have Hw := Lib.hid (fun n => (show wr.drewN n = w.drewN (m0 + n) by rw [hwr, World.drewN_drewN]))
    have Hw0 := Lib.hid hwr
    have Hall := Lib.hid hall; clear hall
    have Hr : Hid (RdE wr B (.slice A xs.length c) xs) := Lib.hid (by rw [hwr]; exact H.out.drewN m0)
    clear hwr
    by_cases hlt : k < xs.length
    · obtain ⟨b1, o1, A3, c3, hA, hE⟩ := Hr.out.at k hlt
      have HA := Lib.hid hA
      have hlt' : (k : Int) < (xs.length : Int) := by omega
      have Hbad := Lib.hid (fun h => ents_no (l := xs) k hlt h)
      have Hst := Lib.hid (fun h => chk_step (f := placeOk xs) (k := k) Hall.out h)
      have Hn := Lib.hid (fun h => place_no xs k hlt h)
      have hsx := Lib.hid (Hsm.out xs[k] (List.getElem_mem hlt))
      cases k with
      | zero =>
        have H0 := Lib.hid (fun h => place_0 xs hlt h)
        generalize xs[0] = x at *
        subst hA
        clear HA
        have HO := Lib.hid (fun n => l25One_any B b1 (o1 + 0 * 5) x A3 c3 (wr.drewN n) (hE.drewN n) hsx.out)
        rw [Nat.zero_mul, Nat.add_zero] at HO
        have e0 := hE.c0
        rw [Nat.zero_mul, Nat.add_zero] at e0
        clear hE
        generalize x.num = num at *
        cases g : entOk x with
        | false =>
          have hf := Lib.hid (Hbad.out (Hn.out g))
          rw [g] at HO
          clear Hbad Hst Hn g H0
          go_wp2_with fail
          go_quiet ((go_at_call 95; exact Calls.quiet_of (HO.out _)))
          go_wp2_with fail
          go_ret
          rw [hf.out]; exact ⟨rfl, _, Hw.out _⟩
        | true =>
          have hst := Lib.hid (Hst.out (H0.out g))
          rw [g] at HO
          clear Hbad Hst Hn g H0
          go_wp2_with fail
          go_quiet ((go_at_call 95; exact Calls.quiet_of (HO.out _)))
          go_wp2_with fail
          go_roundw
          case rel => exact ⟨1, _, by omega, hst.out, by go_num, Hw.out _⟩
          case measure => simp [intOf]; omega
      | succ m =>
        obtain ⟨b2, o2, A4, c4, hA', hE'⟩ := Hr.out.at m (by omega)
        rw [HA.out] at hA'
        obtain ⟨rfl, rfl⟩ : b1 = b2 ∧ o1 = o2 := by simpa using hA'
        have H0 := Lib.hid (fun h => place_s xs m hlt h)
        have hp0 := hE'.c0
        generalize xs[m + 1] = x at *
        generalize xs[m] = y at *
        generalize y.num = pn at *
        subst hA
        clear hA' HA hE'
        have HO := Lib.hid (fun n => l25One_any B b1 (o1 + (m + 1) * 5) x A3 c3 (wr.drewN n) (hE.drewN n) hsx.out)
        have e0 := hE.c0
        clear hE
        have hpos : (0 : Int) < ((m + 1 : Nat) : Int) := by omega
        cases g : entOk x with
        | false =>
          have hf := Lib.hid (Hbad.out (Hn.out g))
          rw [g] at HO
          clear Hbad Hst Hn g H0
          go_wp2_with fail
          go_quiet ((go_at_call 95; exact Calls.quiet_of (HO.out _)))
          go_wp2_with fail
          go_ret
          rw [hf.out]; exact ⟨rfl, _, Hw.out _⟩
        | true =>
          rw [g] at HO
          have h1 := H0.out g
          generalize x.num = num at *
          have hm2 : (m : Int) < (xs.length : Int) := by omega
          rcases Decidable.em (pn < num) with gl | gl
          · have hst := Lib.hid (Hst.out (h1.trans (decide_eq_true gl)))
            clear Hbad Hst Hn g H0 h1
            have hm1 : IntKind.i64.wrap (m : Int) = (m : Int) := IntWalk.i64_in _ (by omega)
            go_wp2_with fail
            go_quiet ((go_at_call 95; exact Calls.quiet_of (HO.out _)))
            clear hm1
            go_wp2_with fail
            go_roundw
            case rel => exact ⟨m + 1 + 1, _, by omega, hst.out, by go_num, Hw.out _⟩
            case measure => simp [intOf]; omega
          · have hf := Lib.hid (Hbad.out (h1.trans (decide_eq_false gl)))
            have gl' : num ≤ pn := by omega
            clear Hbad Hst Hn g H0 h1 gl
            have hm1 : IntKind.i64.wrap (m : Int) = (m : Int) := IntWalk.i64_in _ (by omega)
            go_wp2_with fail
            go_quiet ((go_at_call 95; exact Calls.quiet_of (HO.out _)))
            clear hm1
            go_wp2_with fail
            go_ret
            rw [hf.out]; exact ⟨rfl, _, Hw.out _⟩
    · have hc : chk xs.length (placeOk xs) = true := by rw [show xs.length = k by omega]; exact Hall.out
      have hf := Lib.hid (show entsOk xs = decide (xs.length ≤ 50) by unfold entsOk; rw [hc]; rfl)
      have hlt' : (xs.length : Int) ≤ (k : Int) := by omega
      clear hc
      go_wp2_with fail
      go_ret
      rw [hf.out]; exact ⟨by simp; omega, _, Hw0.out⟩

end Go.Proofs.YtmheijnckmlbnaaDoor
/- Similar entries, part 1: finding an entry, a word. -/
namespace Go.Proofs.YtmheijnckmlbnaaDoor
open Go.RowKit Go.Joins

def findN : List Ent → Int → Nat → Int
  | [], _, _ => -1
  | x :: l, m, k => if x.num = m then (k : Int) else findN l m (k + 1)
theorem findN_at (xs : List Ent) (m : Int) (k : Nat) (hk : k < xs.length) : findN (xs.drop k) m k = if xs[k].num = m then (k : Int) else findN (xs.drop (k + 1)) m (k + 1) := by
  rw [List.drop_eq_getElem_cons hk]; rfl
theorem findN_end (xs : List Ent) (m : Int) (k : Nat) (hk : xs.length ≤ k) : findN (xs.drop k) m k = -1 := by rw [List.drop_of_length_le hk]; rfl
theorem findN_bd (m : Int) : ∀ (xs : List Ent) (k : Nat), findN xs m k = -1 ∨ ∃ i, i < xs.length ∧ findN xs m k = ((k + i : Nat) : Int) := by
  intro xs
  induction xs with
  | nil => intro k; exact .inl rfl
  | cons x l ih =>
    intro k
    unfold findN
    split
    · exact .inr ⟨0, by simp, rfl⟩
    · rcases ih (k + 1) with h | ⟨i, h1, h2⟩
      · exact .inl h
      · exact .inr ⟨i + 1, by simp; omega, by rw [h2]; congr 1; omega⟩
def hasW : List ByteArray → ByteArray → Bool
  | [], _ => false
  | x :: l, s => if x = s then true else hasW l s
theorem hasW_at (ws : List ByteArray) (s : ByteArray) (k : Nat) (hk : k < ws.length) : hasW (ws.drop k) s = if ws[k] = s then true else hasW (ws.drop (k + 1)) s := by
  rw [List.drop_eq_getElem_cons hk]; rfl
theorem hasW_end (ws : List ByteArray) (s : ByteArray) (k : Nat) (hk : ws.length ≤ k) : hasW (ws.drop k) s = false := by rw [List.drop_of_length_le hk]; rfl

/-- the code of an asked number, and where it is -/
def askC (xs : List Ent) (m : Int) : Int := if entsOk xs = false then 1 else if findN xs m 0 < 0 then 3 else 0
def askI (xs : List Ent) (m : Int) : Int := if entsOk xs = false then 0 else if findN xs m 0 < 0 then 0 else findN xs m 0
set_option maxRecDepth 100000 in
set_option maxHeartbeats 800000 in
theorem l25Has_any (B : Nat) (v : Value) (ws : List ByteArray) (s : ByteArray) (w : World) (h : Rd w B v ws.length 1 (strs ws)) (hl : ws.length ≤ 1048576) :
    Calls Tryd.prog 78 #[v, .string s] w fun e w' => e = .returned (.bool (hasW ws s)) ∧ w = w' := by
  have H := Lib.hid h
  obtain ⟨_, A, c, rfl, _⟩ := h
  go_enter Tryd.func78, Tryd.ntmps78
  go_wp2_with fail
  go_loop [5] (fun i => ∃ k : Nat, k ≤ ws.length ∧ hasW ws s = hasW (ws.drop k) s ∧ i = .int .i64 (k : Int)) (fun i => ws.length - (intOf i).toNat)
  case atStart => exact ⟨0, Nat.zero_le _, rfl, rfl⟩
  case round =>
    obtain ⟨k, hk, heq, rfl⟩ := hrel
    have Heq := Lib.hid heq; clear heq
    by_cases hlt : k < ws.length
    · obtain ⟨_, b1, o1, hA, hx⟩ := rd_at H.out k hlt
      subst hA
      have hlt' : (k : Int) < (ws.length : Int) := by omega
      have Hst := Lib.hid (hasW_at ws s k hlt)
      generalize ws[k] = z at *
      by_cases hz : z = s
      · have hfin := Lib.hid (show hasW ws s = true by rw [Heq.out, Hst.out]; exact if_pos hz)
        have hq : (z.toList == s.toList) = true := by rw [hz]; simp
        clear hz
        go_wp2_with fail
        go_ret
        rw [hfin.out]; exact ⟨rfl, rfl⟩
      · have hfin := Lib.hid (show hasW ws s = hasW (ws.drop (k + 1)) s by rw [Heq.out, Hst.out]; exact if_neg hz)
        have hq : (z.toList == s.toList) = false := beq_eq_false_iff_ne.2 fun h => hz (ba_inj h)
        clear hz
        go_wp2_with fail
        go_round
        case rel => exact ⟨k + 1, by omega, hfin.out, by go_num⟩
        case measure => simp [intOf]; omega
    · have hfin := Lib.hid (show hasW ws s = false by rw [Heq.out, hasW_end ws s k (by omega)])
      have hlt' : (ws.length : Int) ≤ (k : Int) := by omega
      go_wp2_with fail
      go_ret
      rw [hfin.out]; exact ⟨rfl, rfl⟩

set_option maxRecDepth 100000 in
set_option maxHeartbeats 800000 in
theorem hasWord_any (B : Nat) (x : Ent) (A : Option Addr) (c : Nat) (s : ByteArray) (w : World) (h : Rd w B (.slice A x.words.length c) x.words.length 1 (strs x.words)) (hB : B ≤ w.heap.size) (hl : x.words.length ≤ 1048576) :
    Calls Tryd.prog 104 #[aggE x A c, .string s] w fun e w' => e = .returned (.bool (hasW x.words s)) ∧ Below w.heap.size w w' := by
  obtain ⟨num, name, maker, year, ws⟩ := x
  dsimp only at *
  have hba := Lib.hid ((Below.refl w.heap.size w).alloc (Nat.le_refl _) (.cells #[.int .i64 num, .string name, .string maker, .int .i64 year, .slice A ws.length c] 99))
  have H := Lib.hid (h.below (hba.out.mono hB))
  clear h
  go_enter Tryd.func104, Tryd.ntmps104
  go_wp2_with fail
  generalize w.alloc (.cells #[.int .i64 num, .string name, .string maker, .int .i64 year, .slice A ws.length c] 99) = w0 at *
  go_loop [10] (fun i => ∃ k : Nat, k ≤ ws.length ∧ hasW ws s = hasW (ws.drop k) s ∧ i = .int .i64 (k : Int)) (fun i => ws.length - (intOf i).toNat)
  case atStart => exact ⟨0, Nat.zero_le _, rfl, rfl⟩
  case round =>
    obtain ⟨k, hk, heq, rfl⟩ := hrel
    have Heq := Lib.hid heq; clear heq
    by_cases hlt : k < ws.length
    · obtain ⟨_, b1, o1, hA, hx⟩ := rd_at H.out k hlt
      subst hA
      have hlt' : (k : Int) < (ws.length : Int) := by omega
      have Hst := Lib.hid (hasW_at ws s k hlt)
      generalize ws[k] = z at *
      by_cases hz : z = s
      · have hfin := Lib.hid (show hasW ws s = true by rw [Heq.out, Hst.out]; exact if_pos hz)
        have hq : (z.toList == s.toList) = true := by rw [hz]; simp
        clear hz
        go_wp2_with fail
        go_ret
        rw [hfin.out]; exact ⟨rfl, hba.out⟩
      · have hfin := Lib.hid (show hasW ws s = hasW (ws.drop (k + 1)) s by rw [Heq.out, Hst.out]; exact if_neg hz)
        have hq : (z.toList == s.toList) = false := beq_eq_false_iff_ne.2 fun h => hz (ba_inj h)
        clear hz
        go_wp2_with fail
        go_round
        case rel => exact ⟨k + 1, by omega, hfin.out, by go_num⟩
        case measure => simp [intOf]; omega
    · have hfin := Lib.hid (show hasW ws s = false by rw [Heq.out, hasW_end ws s k (by omega)])
      have hlt' : (ws.length : Int) ≤ (k : Int) := by omega
      go_wp2_with fail
      go_ret
      rw [hfin.out]; exact ⟨rfl, hba.out⟩
end Go.Proofs.YtmheijnckmlbnaaDoor
/- Queries: what a part of a query asks; the program's closures. -/
namespace Go.Proofs.YtmheijnckmlbnaaDoor
open Go.RowKit Go.Joins

/-- what is behind a beginning -/
def behB (s p : ByteArray) : Bool := decide (p.size < s.size) && ((s.extract 0 p.size).toList == p.toList)
def behV (s p : ByteArray) : ByteArray := if behB s p = true then s.extract p.size s.size else ⟨#[]⟩
inductive Term where
  | name (n : ByteArray)
  | maker (n : ByteArray)
  | year (c : UInt8) (y : Int)
  | word (n : ByteArray)
deriving DecidableEq
def fitsT : Term → Ent → Bool
  | .name n, x => x.name.toList == n.toList
  | .maker n, x => x.maker.toList == n.toList
  | .year c y, x => if c = 61 then x.year == y else if c = 60 then decide (x.year < y) else decide (y < x.year)
  | .word n, x => hasW x.words n
def nameP : ByteArray := ⟨#[110, 97, 109, 101, 61]⟩
def makerP : ByteArray := ⟨#[109, 97, 107, 101, 114, 61]⟩
def yearP (c : UInt8) : ByteArray := ⟨#[121, 101, 97, 114, c]⟩
/-- the rest of a part that begins with 'year' and a sign -/
def yearL (s : ByteArray) : List UInt8 → Option Term
  | [] => if isNm s.data.toList = true then some (.word s) else none
  | c :: l => if behB s (yearP c) = true then (match readN (behV s (yearP c)) with
      | some y => if inB y 0 10000 = true then some (.year c y) else none
      | none => none) else yearL s l
def parseT (s : ByteArray) : Option Term :=
  if behB s nameP = true then (if isNm (behV s nameP).data.toList = true then some (.name (behV s nameP)) else none)
  else if behB s makerP = true then (if isNm (behV s makerP).data.toList = true then some (.maker (behV s makerP)) else none)
  else yearL s [61, 60, 62]

theorem one_at {w : World} {q : Nat} {v : Value} {t : TypeId} (h : w.heap[q]? = some (.cells #[v] t (0, 0))) : w.cell? ⟨q, 0, none⟩ = some v := by rw [cell_of_row w q 0 _ _ _ h]; rfl
theorem blk_lt {w : World} {q : Nat} {o : Obj} (h : w.heap[q]? = some o) : q < w.heap.size := (Array.getElem?_eq_some_iff.1 h).1

set_option maxRecDepth 100000 in
set_option maxHeartbeats 800000 in
theorem behind_any (s p : ByteArray) (w : World) (hs : s.size ≤ 1073741824) (hp : p.size ≤ 1073741824) : Calls Tryd.prog 99 #[.string s, .string p] w fun e w' => e = .returned (.tuple #[.string (behV s p), .bool (behB s p)]) ∧ w = w' := by
  by_cases hl : p.size < s.size
  · have hl' : ¬ ((s.size : Int) ≤ (p.size : Int)) := by omega
    have hl2 : (p.size : Int) ≤ (s.size : Int) := by omega
    cases hb : ((s.extract 0 p.size).toList == p.toList) with
    | true =>
      have Hf := Lib.hid (show behV s p = s.extract p.size s.size ∧ behB s p = true by unfold behV behB; rw [hb, decide_eq_true hl]; exact ⟨rfl, rfl⟩)
      have hb2 : ((s.extract 0 p.size).toList != p.toList) = false := by rw [bne, hb]; rfl
      go_enter Tryd.func99, Tryd.ntmps99
      go_wp2_with fail
      go_ret2
      rw [Hf.out.1, Hf.out.2]; exact ⟨rfl, rfl⟩
    | false =>
      have Hf := Lib.hid (show behV s p = ⟨#[]⟩ ∧ behB s p = false by unfold behV behB; rw [hb, decide_eq_true hl]; exact ⟨rfl, rfl⟩)
      have hb2 : ((s.extract 0 p.size).toList != p.toList) = true := by rw [bne, hb]; rfl
      go_enter Tryd.func99, Tryd.ntmps99
      go_wp2_with fail
      go_ret2
      rw [Hf.out.1, Hf.out.2]; exact ⟨rfl, rfl⟩
  · have hl' : (s.size : Int) ≤ (p.size : Int) := by omega
    have Hf := Lib.hid (show behV s p = ⟨#[]⟩ ∧ behB s p = false by unfold behV behB; rw [decide_eq_false hl]; exact ⟨rfl, rfl⟩)
    go_enter Tryd.func99, Tryd.ntmps99
    go_wp2_with fail
    go_ret2
    rw [Hf.out.1, Hf.out.2]; exact ⟨rfl, rfl⟩

def entO (x : Ent) (A : Option Addr) (c : Nat) : Obj := .cells #[.int .i64 x.num, .string x.name, .string x.maker, .int .i64 x.year, .slice A x.words.length c] 99
set_option maxRecDepth 100000 in
set_option maxHeartbeats 400000 in
theorem ask1_any (x : Ent) (A : Option Addr) (c : Nat) (n : ByteArray) (q : Nat) (w : World) (hq : w.heap[q]? = some (.cells #[.string n] 9 (0, 0))) :
    Calls Tryd.prog 100 #[aggE x A c, .pointer (some ⟨q, 0, none⟩)] w fun e w' => e = .returned (.bool (fitsT (.name n) x)) ∧ Below w.heap.size w w' := by
  have hlt := blk_lt hq
  obtain ⟨num, name, maker, year, ws⟩ := x
  have hba := (Below.refl w.heap.size w).alloc (Nat.le_refl _) (.cells #[.int .i64 num, .string name, .string maker, .int .i64 year, .slice A ws.length c] 99)
  have h1 := one_at ((hba.block q hlt).trans hq)
  have Hba := Lib.hid hba
  have Hf := Lib.hid (show fitsT (.name n) ⟨num, name, maker, year, ws⟩ = (name.toList == n.toList) from rfl)
  generalize fitsT (.name n) ⟨num, name, maker, year, ws⟩ = r at *
  clear hba
  cases he : (name.toList == n.toList) with
  | true =>
    have hr := Hf.out
    rw [he] at hr
    subst hr
    go_enter Tryd.func100, Tryd.ntmps100
    go_wp2_with fail
    go_ret
    exact ⟨rfl, Hba.out⟩
  | false =>
    have hr := Hf.out
    rw [he] at hr
    subst hr
    go_enter Tryd.func100, Tryd.ntmps100
    go_wp2_with fail
    go_ret
    exact ⟨rfl, Hba.out⟩
set_option maxRecDepth 100000 in
set_option maxHeartbeats 400000 in
theorem ask2_any (x : Ent) (A : Option Addr) (c : Nat) (n : ByteArray) (q : Nat) (w : World) (hq : w.heap[q]? = some (.cells #[.string n] 9 (0, 0))) :
    Calls Tryd.prog 101 #[aggE x A c, .pointer (some ⟨q, 0, none⟩)] w fun e w' => e = .returned (.bool (fitsT (.maker n) x)) ∧ Below w.heap.size w w' := by
  have hlt := blk_lt hq
  obtain ⟨num, name, maker, year, ws⟩ := x
  have hba := (Below.refl w.heap.size w).alloc (Nat.le_refl _) (.cells #[.int .i64 num, .string name, .string maker, .int .i64 year, .slice A ws.length c] 99)
  have h1 := one_at ((hba.block q hlt).trans hq)
  have Hba := Lib.hid hba
  have Hf := Lib.hid (show fitsT (.maker n) ⟨num, name, maker, year, ws⟩ = (maker.toList == n.toList) from rfl)
  generalize fitsT (.maker n) ⟨num, name, maker, year, ws⟩ = r at *
  clear hba
  cases he : (maker.toList == n.toList) with
  | true =>
    have hr := Hf.out
    rw [he] at hr
    subst hr
    go_enter Tryd.func101, Tryd.ntmps101
    go_wp2_with fail
    go_ret
    exact ⟨rfl, Hba.out⟩
  | false =>
    have hr := Hf.out
    rw [he] at hr
    subst hr
    go_enter Tryd.func101, Tryd.ntmps101
    go_wp2_with fail
    go_ret
    exact ⟨rfl, Hba.out⟩
set_option maxRecDepth 100000 in
set_option maxHeartbeats 800000 in
theorem ask3_any (x : Ent) (A : Option Addr) (cc : Nat) (c : UInt8) (y : Int) (q q2 : Nat) (w : World) (hc : c = 61 ∨ c = 60 ∨ c = 62) (hq : w.heap[q]? = some (.cells #[.string ⟨#[c]⟩] 9 (0, 0))) (hq2 : w.heap[q2]? = some (.cells #[.int .i64 y] 2 (0, 0))) :
    Calls Tryd.prog 102 #[aggE x A cc, .pointer (some ⟨q, 0, none⟩), .pointer (some ⟨q2, 0, none⟩)] w fun e w' => e = .returned (.bool (fitsT (.year c y) x)) ∧ Below w.heap.size w w' := by
  have hlt := blk_lt hq
  have hlt2 := blk_lt hq2
  obtain ⟨num, name, maker, year, ws⟩ := x
  have hba := (Below.refl w.heap.size w).alloc (Nat.le_refl _) (.cells #[.int .i64 num, .string name, .string maker, .int .i64 year, .slice A ws.length cc] 99)
  have h1 := one_at ((hba.block q hlt).trans hq)
  have h2 := one_at ((hba.block q2 hlt2).trans hq2)
  have Hba := Lib.hid hba
  clear hba hq hq2
  rcases hc with rfl | rfl | rfl
  · have Hf := Lib.hid (show fitsT (.year 61 y) ⟨num, name, maker, year, ws⟩ = (year == y) from rfl)
    generalize fitsT (.year 61 y) ⟨num, name, maker, year, ws⟩ = r at *
    cases he : (year == y) with
    | true =>
      have hr := Hf.out
      rw [he] at hr
      subst hr
      go_enter Tryd.func102, Tryd.ntmps102
      go_wp2_with fail
      go_ret
      exact ⟨rfl, Hba.out⟩
    | false =>
      have hr := Hf.out
      rw [he] at hr
      subst hr
      go_enter Tryd.func102, Tryd.ntmps102
      go_wp2_with fail
      go_ret
      exact ⟨rfl, Hba.out⟩
  · have Hf := Lib.hid (show fitsT (.year 60 y) ⟨num, name, maker, year, ws⟩ = decide (year < y) from rfl)
    generalize fitsT (.year 60 y) ⟨num, name, maker, year, ws⟩ = r at *
    by_cases he : year < y
    · have hr := Hf.out
      rw [decide_eq_true he] at hr
      subst hr
      go_enter Tryd.func102, Tryd.ntmps102
      go_wp2_with fail
      go_ret
      exact ⟨rfl, Hba.out⟩
    · have hr := Hf.out
      rw [decide_eq_false he] at hr
      subst hr
      go_enter Tryd.func102, Tryd.ntmps102
      go_wp2_with fail
      go_ret
      exact ⟨rfl, Hba.out⟩
  · have Hf := Lib.hid (show fitsT (.year 62 y) ⟨num, name, maker, year, ws⟩ = decide (y < year) from rfl)
    generalize fitsT (.year 62 y) ⟨num, name, maker, year, ws⟩ = r at *
    by_cases he : y < year
    · have hr := Hf.out
      rw [decide_eq_true he] at hr
      subst hr
      go_enter Tryd.func102, Tryd.ntmps102
      go_wp2_with fail
      go_ret
      exact ⟨rfl, Hba.out⟩
    · have hr := Hf.out
      rw [decide_eq_false he] at hr
      subst hr
      go_enter Tryd.func102, Tryd.ntmps102
      go_wp2_with fail
      go_ret
      exact ⟨rfl, Hba.out⟩
set_option maxRecDepth 100000 in
set_option maxHeartbeats 400000 in
theorem ask4_any (B : Nat) (x : Ent) (A : Option Addr) (c : Nat) (n : ByteArray) (q : Nat) (w : World) (hq : w.heap[q]? = some (.cells #[.string n] 9 (0, 0))) (h : Rd w B (.slice A x.words.length c) x.words.length 1 (strs x.words)) (hB : B ≤ w.heap.size) (hl : x.words.length ≤ 1048576) :
    Calls Tryd.prog 103 #[aggE x A c, .pointer (some ⟨q, 0, none⟩)] w fun e w' => e = .returned (.bool (fitsT (.word n) x)) ∧ Below w.heap.size w w' := by
  have hlt := blk_lt hq
  have HW := Lib.hid (fun wx hx hz => hasWord_any B x A c n wx hx hz hl)
  have Hf := Lib.hid (show fitsT (.word n) x = hasW x.words n from rfl)
  have H := Lib.hid h
  obtain ⟨num, name, maker, year, ws⟩ := x
  dsimp only at *
  have hba := (Below.refl w.heap.size w).alloc (Nat.le_refl _) (.cells #[.int .i64 num, .string name, .string maker, .int .i64 year, .slice A ws.length c] 99)
  have h1 := one_at ((hba.block q hlt).trans hq)
  have Hba := Lib.hid hba
  have H2 := Lib.hid (H.out.below (hba.mono hB))
  have hz2 := Nat.le_trans hB hba.size
  generalize fitsT (.word n) ⟨num, name, maker, year, ws⟩ = r at *
  have hr := Hf.out
  subst hr
  clear hba h hq H Hf
  go_enter Tryd.func103, Tryd.ntmps103
  go_wp2_with fail
  refine (HW.out _ H2.out hz2).mono ?_; rintro e w2 ⟨rfl, hb2⟩
  go_wp2_with fail
  go_ret
  exact ⟨rfl, Hba.out.trans (hb2.mono Hba.out.size)⟩
end Go.Proofs.YtmheijnckmlbnaaDoor
/- Queries: what a part asks, the program (queryPart). -/
namespace Go.Proofs.YtmheijnckmlbnaaDoor
open Go.RowKit Go.Joins

/-- the value v asks what the term says -/
def AskAt (w : World) (v : Value) : Term → Prop
  | .name n => ∃ q, v = .func (.func 100) #[] #[.pointer (some ⟨q, 0, none⟩)] ∧ w.heap[q]? = some (.cells #[.string n] 9 (0, 0))
  | .maker n => ∃ q, v = .func (.func 101) #[] #[.pointer (some ⟨q, 0, none⟩)] ∧ w.heap[q]? = some (.cells #[.string n] 9 (0, 0))
  | .year c y => ∃ q q2, (c = 61 ∨ c = 60 ∨ c = 62) ∧ v = .func (.func 102) #[] #[.pointer (some ⟨q, 0, none⟩), .pointer (some ⟨q2, 0, none⟩)] ∧ w.heap[q]? = some (.cells #[.string ⟨#[c]⟩] 9 (0, 0)) ∧ w.heap[q2]? = some (.cells #[.int .i64 y] 2 (0, 0))
  | .word n => ∃ q, v = .func (.func 103) #[] #[.pointer (some ⟨q, 0, none⟩)] ∧ w.heap[q]? = some (.cells #[.string n] 9 (0, 0))
def isFn (v : Value) : Prop := ∃ f c, v = .func f #[] c
def RetQ (w : World) (s : ByteArray) (e : Ending) (w' : World) : Prop := ∃ v, e = .returned (.tuple #[v, .bool (parseT s).isSome]) ∧ isFn v ∧ (∀ t, parseT s = some t → AskAt w' v t) ∧ Below w.heap.size w w'
theorem RetQ.no {w w' : World} {s : ByteArray} {f : Fn} {c : Array Value} (h : parseT s = none) (hb : Below w.heap.size w w') : RetQ w s (.returned (.tuple #[.func f #[] c, .bool false])) w' :=
  ⟨_, by rw [h]; rfl, ⟨f, c, rfl⟩, fun t ht => by (rw [h] at ht; cases ht), hb⟩
theorem RetQ.yes {w w' : World} {s : ByteArray} {f : Fn} {c : Array Value} {t : Term} (h : parseT s = some t) (ha : AskAt w' (.func f #[] c) t) (hb : Below w.heap.size w w') : RetQ w s (.returned (.tuple #[.func f #[] c, .bool true])) w' :=
  ⟨_, by rw [h]; rfl, ⟨f, c, rfl⟩, fun t' ht => by (rw [h] at ht; cases ht; exact ha), hb⟩
def sgn : List UInt8 := [61, 60, 62]
def sgnS : List ByteArray := [⟨#[61]⟩, ⟨#[60]⟩, ⟨#[62]⟩]
theorem sgn_at (s : ByteArray) (k : Nat) (hk : k < 3) : ∃ c : UInt8, (c = 61 ∨ c = 60 ∨ c = 62) ∧ sgnS[k]? = some ⟨#[c]⟩ ∧ yearL s (sgn.drop k) = if behB s (yearP c) = true then (match readN (behV s (yearP c)) with
      | some y => if inB y 0 10000 = true then some (.year c y) else none
      | none => none) else yearL s (sgn.drop (k + 1)) := by
  rcases (show k = 0 ∨ k = 1 ∨ k = 2 by omega) with rfl | rfl | rfl
  · exact ⟨61, .inl rfl, rfl, rfl⟩
  · exact ⟨60, .inr (.inl rfl), rfl, rfl⟩
  · exact ⟨62, .inr (.inr rfl), rfl, rfl⟩
theorem sgn_new (w : World) : ∀ (i : Nat) (z : ByteArray), sgnS[i]? = some z → (w.alloc (.cells #[.string ⟨#[61]⟩, .string ⟨#[60]⟩, .string ⟨#[62]⟩] 9)).cell? ⟨w.heap.size, i, none⟩ = some (.string z) := fun i z hz => by
  have := new_cells w #[.string ⟨#[61]⟩, .string ⟨#[60]⟩, .string ⟨#[62]⟩] 9 i (.string z) (by
    have h := congrArg (fun o => o.map Value.string) hz
    rw [Option.map_some] at h
    rw [← h]
    rcases i with _ | _ | _ | i <;> simp [sgnS])
  rwa [show (⟨w.heap.size, 0, none⟩ : Addr).add i = ⟨w.heap.size, i, none⟩ by unfold Addr.add; split <;> simp_all] at this
theorem behV_sz (s p : ByteArray) : (behV s p).size ≤ s.size := by
  unfold behV
  split
  · rw [ByteArray.size_extract]; omega
  · exact Nat.zero_le _

set_option maxRecDepth 100000 in
set_option maxHeartbeats 3200000 in
theorem queryPart_any (s : ByteArray) (w : World) (hs : s.size ≤ 1048576) (ht : Tab w) : Calls Tryd.prog 75 #[.string s] w (RetQ w s) := by
  have hmf : ∀ (fn : Fn) (first cap : Array Value) (w : World), (Instr.makeFunc fn first cap).run Tryd.prog w = .ok (.func fn first cap) w := fun _ _ _ _ => rfl
  have HP := Lib.hid (show parseT s = if behB s nameP = true then (if isNm (behV s nameP).data.toList = true then some (.name (behV s nameP)) else none)
    else if behB s makerP = true then (if isNm (behV s makerP).data.toList = true then some (.maker (behV s makerP)) else none) else yearL s sgn from rfl)
  have HB1 := Lib.hid (fun wx => behind_any s nameP wx (by omega) (by decide))
  have HB2 := Lib.hid (fun wx => behind_any s makerP wx (by omega) (by decide))
  have HB3 := Lib.hid (fun c wx => behind_any s (yearP c) wx (by omega) (by show 5 ≤ _; omega))
  have HN := Lib.hid (fun z wx hz => IsNameI_any z wx hz)
  have HR := Lib.hid (fun z wx hz hq => ReadDecimal_any z wx hz hq)
  have Ht := Lib.hid ht; clear ht
  have hv1 := behV_sz s nameP
  have hv2 := behV_sz s makerP
  have HV3 := Lib.hid (fun c => behV_sz s (yearP c))
  have hb0 := (Below.refl w.heap.size w).alloc (Nat.le_refl _) (.cells #[.string s] 9)
  have hc0 := one_at (heap_alloc_new w (.cells #[.string s] 9))
  have HQ0 := Lib.hid (heap_alloc_new w (.cells #[.string s] 9))
  have HB0 := Lib.hid hb0
  unfold RetN1 at HR
  cases h1 : behB s nameP with
  | true =>
    rw [h1, if_pos rfl] at HP
    rw [h1] at HB1
    generalize behV s nameP = n at *
    have HNn := Lib.hid (fun wx => HN.out n wx (by omega))
    clear h1
    cases hz : isNm n.data.toList with
    | true =>
      rw [hz, if_pos rfl] at HP
      rw [hz] at HNn
      clear hz
      go_enter Tryd.func75, Tryd.ntmps75
      go_wp2_with fail
      generalize w.alloc (.cells #[.string s] 9) = w1 at *
      refine (HB1.out _).mono ?_; rintro e w2 ⟨rfl, rfl⟩
      have hb1 := (Below.refl w1.heap.size w1).alloc (Nat.le_refl _) (.cells #[.string n] 9)
      have HQ1 := Lib.hid (heap_alloc_new w1 (.cells #[.string n] 9))
      have Hbf := Lib.hid (hb0.trans (hb1.mono hb0.size))
      have hc1 := one_at HQ1.out
      clear hb0 hb1
      go_wp2_with fail
      refine (HNn.out _).mono ?_; rintro e w2 ⟨rfl, rfl⟩
      go_wp2_with fail
      go_ret2
      exact RetQ.yes HP.out ⟨_, rfl, HQ1.out⟩ Hbf.out
    | false =>
      rw [hz, if_neg (by decide)] at HP
      rw [hz] at HNn
      clear hz
      go_enter Tryd.func75, Tryd.ntmps75
      go_wp2_with fail
      generalize w.alloc (.cells #[.string s] 9) = w1 at *
      refine (HB1.out _).mono ?_; rintro e w2 ⟨rfl, rfl⟩
      have hb1 := (Below.refl w1.heap.size w1).alloc (Nat.le_refl _) (.cells #[.string n] 9)
      have HQ1 := Lib.hid (heap_alloc_new w1 (.cells #[.string n] 9))
      have Hbf := Lib.hid (hb0.trans (hb1.mono hb0.size))
      have hc1 := one_at HQ1.out
      clear hb0 hb1
      go_wp2_with fail
      refine (HNn.out _).mono ?_; rintro e w2 ⟨rfl, rfl⟩
      go_wp2_with fail
      go_ret2
      exact RetQ.no HP.out Hbf.out
  | false =>
    rw [h1, if_neg (by decide)] at HP
    rw [h1] at HB1
    generalize behV s nameP = n0 at *
    clear h1 hv1
    cases h2 : behB s makerP with
    | true =>
      rw [h2, if_pos rfl] at HP
      rw [h2] at HB2
      generalize behV s makerP = n at *
      have HNn := Lib.hid (fun wx => HN.out n wx (by omega))
      clear h2
      cases hz : isNm n.data.toList with
      | true =>
        rw [hz, if_pos rfl] at HP
        rw [hz] at HNn
        clear hz
        go_enter Tryd.func75, Tryd.ntmps75
        go_wp2_with fail
        generalize w.alloc (.cells #[.string s] 9) = w1 at *
        refine (HB1.out _).mono ?_; rintro e w2 ⟨rfl, rfl⟩
        have hb1 := (Below.refl w1.heap.size w1).alloc (Nat.le_refl _) (.cells #[.string n0] 9)
        have HQ1 := Lib.hid ((hb1.block w.heap.size (blk_lt HQ0.out)).trans HQ0.out)
        have hb2 := hb0.trans (hb1.mono hb0.size)
        have hc2 := one_at HQ1.out
        clear hb0 hb1 hc0
        go_wp2_with fail
        generalize w1.alloc (.cells #[.string n0] 9) = w2 at *
        refine (HB2.out _).mono ?_; rintro e w3 ⟨rfl, rfl⟩
        have hb3 := (Below.refl w2.heap.size w2).alloc (Nat.le_refl _) (.cells #[.string n] 9)
        have HQ3 := Lib.hid (heap_alloc_new w2 (.cells #[.string n] 9))
        have Hbf := Lib.hid (hb2.trans (hb3.mono hb2.size))
        have hc3 := one_at HQ3.out
        clear hb3 hc2
        clear hb2
        go_wp2_with fail
        refine (HNn.out _).mono ?_; rintro e w3 ⟨rfl, rfl⟩
        go_wp2_with fail
        go_ret2
        exact RetQ.yes HP.out ⟨_, rfl, HQ3.out⟩ Hbf.out
      | false =>
        rw [hz, if_neg (by decide)] at HP
        rw [hz] at HNn
        clear hz
        go_enter Tryd.func75, Tryd.ntmps75
        go_wp2_with fail
        generalize w.alloc (.cells #[.string s] 9) = w1 at *
        refine (HB1.out _).mono ?_; rintro e w2 ⟨rfl, rfl⟩
        have hb1 := (Below.refl w1.heap.size w1).alloc (Nat.le_refl _) (.cells #[.string n0] 9)
        have HQ1 := Lib.hid ((hb1.block w.heap.size (blk_lt HQ0.out)).trans HQ0.out)
        have hb2 := hb0.trans (hb1.mono hb0.size)
        have hc2 := one_at HQ1.out
        clear hb0 hb1 hc0
        go_wp2_with fail
        generalize w1.alloc (.cells #[.string n0] 9) = w2 at *
        refine (HB2.out _).mono ?_; rintro e w3 ⟨rfl, rfl⟩
        have hb3 := (Below.refl w2.heap.size w2).alloc (Nat.le_refl _) (.cells #[.string n] 9)
        have HQ3 := Lib.hid (heap_alloc_new w2 (.cells #[.string n] 9))
        have Hbf := Lib.hid (hb2.trans (hb3.mono hb2.size))
        have hc3 := one_at HQ3.out
        clear hb3 hc2
        clear hb2
        go_wp2_with fail
        refine (HNn.out _).mono ?_; rintro e w3 ⟨rfl, rfl⟩
        go_wp2_with fail
        go_ret2
        exact RetQ.no HP.out Hbf.out
    | false =>
      rw [h2, if_neg (by decide)] at HP
      rw [h2] at HB2
      generalize behV s makerP = n at *
      clear h2 hv2
      go_enter Tryd.func75, Tryd.ntmps75
      go_wp2_with fail
      generalize w.alloc (.cells #[.string s] 9) = w1 at *
      refine (HB1.out _).mono ?_; rintro e w2 ⟨rfl, rfl⟩
      have hb1 := (Below.refl w1.heap.size w1).alloc (Nat.le_refl _) (.cells #[.string n0] 9)
      have HQ1 := Lib.hid ((hb1.block w.heap.size (blk_lt HQ0.out)).trans HQ0.out)
      have hb2 := hb0.trans (hb1.mono hb0.size)
      have hc2 := one_at HQ1.out
      clear hb0 hb1 hc0
      go_wp2_with fail
      generalize w1.alloc (.cells #[.string n0] 9) = w2 at *
      refine (HB2.out _).mono ?_; rintro e w3 ⟨rfl, rfl⟩
      have hb3 := (Below.refl w2.heap.size w2).alloc (Nat.le_refl _) (.cells #[.string n] 9)
      have HQ3 := Lib.hid (heap_alloc_new w2 (.cells #[.string n] 9))
      have Hbf := Lib.hid (hb2.trans (hb3.mono hb2.size))
      have hc3 := one_at HQ3.out
      clear hb3 hc2
      go_upto_region 7 with (fail)
      have hbx := (Below.refl w2.heap.size w2).alloc (Nat.le_refl _) (.cells #[.string n] 9)
      have HQ5 := Lib.hid ((hbx.block w.heap.size (blk_lt HQ1.out)).trans HQ1.out)
      clear hbx hb2 hc3 HB1 HB2 HQ0 HQ1 HQ3
      generalize w2.alloc (.cells #[.string n] 9) = w3 at *
      have hb4 := (Below.refl w3.heap.size w3).alloc (Nat.le_refl _) (.cells #[.string ⟨#[61]⟩, .string ⟨#[60]⟩, .string ⟨#[62]⟩] 9)
      have HS4 := Lib.hid (sgn_new w3)
      have Hb4 := Lib.hid (Hbf.out.trans (hb4.mono Hbf.out.size))
      have HQ6 := Lib.hid ((hb4.block w.heap.size (blk_lt HQ5.out)).trans HQ5.out)
      have hlt4 : w3.heap.size < (w3.alloc (.cells #[.string ⟨#[61]⟩, .string ⟨#[60]⟩, .string ⟨#[62]⟩] 9)).heap.size := by simp
      clear hb4 Hbf HQ5
      go_wp2_with fail
      generalize hq3 : w3.heap.size = q3 at *
      generalize w3.alloc (.cells #[.string ⟨#[61]⟩, .string ⟨#[60]⟩, .string ⟨#[62]⟩] 9) = w4 at *
      clear hq3
      go_loopw [34] (fun i wr => ∃ k : Nat, k ≤ 3 ∧ i = .int .i64 (k : Int) ∧ parseT s = yearL s (sgn.drop k) ∧ Below w4.heap.size w4 wr) (fun i _ => 3 - (intOf i).toNat)
      case atStart => exact ⟨0, by omega, rfl, HP.out, Below.refl _ _⟩
      case round =>
        obtain ⟨k, hk, rfl, hpp, hbl⟩ := hrel
        have HPP := Lib.hid hpp
        have HQr := Lib.hid ((hbl.block w.heap.size (blk_lt HQ6.out)).trans HQ6.out)
        have Hbl := Lib.hid (Hb4.out.trans (hbl.mono Hb4.out.size))
        clear hpp
        by_cases hlt : k < 3
        · have hlt' : (k : Int) < 3 := by omega
          obtain ⟨c, hc, hsg, hst⟩ := sgn_at s k hlt
          have hcc := (hbl.cell (p := ⟨q3, k, none⟩) hlt4).trans (HS4.out k _ hsg)
          have Hst := Lib.hid hst
          have Hc := Lib.hid hc
          have HB := Lib.hid (HB3.out c)
          have HRc := Lib.hid (fun wx hq => HR.out (behV s (yearP c)) wx (Nat.le_trans (HV3.out c) (by omega)) hq)
          have hba := (Below.refl wr.heap.size wr).alloc (Nat.le_refl _) (.cells #[.string ⟨#[c]⟩] 9)
          have HQs := Lib.hid (heap_alloc_new wr (.cells #[.string ⟨#[c]⟩] 9))
          have HQp := Lib.hid ((hba.block w.heap.size (blk_lt HQr.out)).trans HQr.out)
          have Hba := Lib.hid (Hbl.out.trans (hba.mono Hbl.out.size))
          have Hbr := Lib.hid (hbl.alloc hbl.size (.cells #[.string ⟨#[c]⟩] 9))
          have k1 := one_at HQs.out
          have k2 := one_at HQp.out
          have hsz := hba.size
          have hq : wr.heap.size < (wr.alloc (.cells #[.string ⟨#[c]⟩] 9)).heap.size := by simp
          clear hbl hc hsg hst hba
          cases hb : behB s (yearP c) with
          | false =>
            rw [hb, if_neg (by decide)] at Hst
            rw [hb] at HB
            have Hfin := Lib.hid (show parseT s = yearL s (sgn.drop (k + 1)) by rw [HPP.out, Hst.out])
            clear hb Hst
            go_wp2_with fail
            refine (HB.out _).mono ?_; rintro e w6 ⟨rfl, rfl⟩
            go_wp2_with fail
            go_roundw
            case rel => exact ⟨k + 1, by omega, by go_num, Hfin.out, Hbr.out⟩
            case measure => simp [intOf]; omega
          | true =>
            rw [hb, if_pos rfl] at Hst
            rw [hb] at HB
            clear hb Hbr
            go_wp2_with fail
            refine (HB.out _).mono ?_; rintro e w6 ⟨rfl, rfl⟩
            have HRd := Lib.hid (HRc.out _ (Ht.out.below Hba.out))
            generalize behV s (yearP c) = z at *
            clear HRc HB
            cases hr : readN z with
            | none =>
              rw [hr] at HRd Hst
              simp only [Option.getD_none, Option.isSome_none] at HRd
              have Hfin := Lib.hid (show parseT s = none by rw [HPP.out, Hst.out])
              clear hr Hst
              go_wp2_with fail
              refine HRd.out.mono ?_; rintro e w7 ⟨rfl, hb7⟩
              have Hb7 := Lib.hid (Hba.out.trans (hb7.mono Hba.out.size))
              have Hb8 := Lib.hid (Hb7.out.alloc Hb7.out.size (.cells #[.int .i64 0] 2))
              clear hb7 k1 k2 hcc
              go_wp2_with fail
              go_ret2
              exact RetQ.no Hfin.out Hb8.out
            | some y =>
              rw [hr] at HRd Hst
              simp only [Option.getD_some, Option.isSome_some] at HRd
              have HBy := Lib.hid (fun wx => between_any y 0 10000 wx)
              clear hr
              cases hi : inB y 0 10000 with
              | true =>
                have Hfin := Lib.hid (show parseT s = some (.year c y) by rw [HPP.out, Hst.out]; exact if_pos hi)
                rw [hi] at HBy
                clear hi Hst
                go_wp2_with fail
                refine HRd.out.mono ?_; rintro e w7 ⟨rfl, hb7⟩
                have Hb7 := Lib.hid (Hba.out.trans (hb7.mono Hba.out.size))
                have hb8 := (Below.refl w7.heap.size w7).alloc (Nat.le_refl _) (.cells #[.int .i64 y] 2)
                have Hb8 := Lib.hid (Hb7.out.trans (hb8.mono Hb7.out.size))
                have HQ7 := Lib.hid ((hb7.block wr.heap.size hq).trans HQs.out)
                have HQ8 := Lib.hid ((hb8.block wr.heap.size (blk_lt HQ7.out)).trans HQ7.out)
                have HQ9 := Lib.hid (heap_alloc_new w7 (.cells #[.int .i64 y] 2))
                have k3 := one_at HQ9.out
                clear hb7 hb8 k1 k2 hcc HRd
                go_wp2_with fail
                refine (HBy.out _).mono ?_; rintro e w9 ⟨rfl, rfl⟩
                go_wp2_with fail
                go_ret2
                exact RetQ.yes Hfin.out ⟨_, _, Hc.out, rfl, HQ8.out, HQ9.out⟩ Hb8.out
              | false =>
                have Hfin := Lib.hid (show parseT s = none by rw [HPP.out, Hst.out]; exact if_neg (by rw [hi]; decide))
                rw [hi] at HBy
                clear hi Hst
                go_wp2_with fail
                refine HRd.out.mono ?_; rintro e w7 ⟨rfl, hb7⟩
                have Hb7 := Lib.hid (Hba.out.trans (hb7.mono Hba.out.size))
                have hb8 := (Below.refl w7.heap.size w7).alloc (Nat.le_refl _) (.cells #[.int .i64 y] 2)
                have Hb8 := Lib.hid (Hb7.out.trans (hb8.mono Hb7.out.size))
                have k3 := one_at (heap_alloc_new w7 (.cells #[.int .i64 y] 2))
                clear hb7 hb8 k1 k2 hcc HRd
                go_wp2_with fail
                refine (HBy.out _).mono ?_; rintro e w9 ⟨rfl, rfl⟩
                go_wp2_with fail
                go_ret2
                exact RetQ.no Hfin.out Hb8.out
        · have hk3 : k = 3 := by omega
          subst hk3
          have Hfin := Lib.hid (show parseT s = if isNm s.data.toList = true then some (.word s) else none by rw [HPP.out]; rfl)
          have HNs := Lib.hid (fun wx => HN.out s wx hs)
          have k2 := one_at HQr.out
          cases hz : isNm s.data.toList with
          | true =>
            rw [hz, if_pos rfl] at Hfin
            rw [hz] at HNs
            clear hz
            go_wp2_with fail
            refine (HNs.out _).mono ?_; rintro e w6 ⟨rfl, rfl⟩
            go_wp2_with fail
            go_ret2
            exact RetQ.yes Hfin.out ⟨_, rfl, HQr.out⟩ Hbl.out
          | false =>
            rw [hz, if_neg (by decide)] at Hfin
            rw [hz] at HNs
            clear hz
            go_wp2_with fail
            refine (HNs.out _).mono ?_; rintro e w6 ⟨rfl, rfl⟩
            go_wp2_with fail
            go_ret2
            exact RetQ.no Hfin.out Hbl.out
end Go.Proofs.YtmheijnckmlbnaaDoor
/- Registers, part 1: the exact laws' helpers: szInt64S, szRegister, toInt64S, eqInt64S. -/
namespace Go.Proofs.YtmheijnckmlbnaaDoor
open Go.RowKit Go.Joins

def ints (l : List Int) : List Value := l.map (Value.int .i64)
theorem infoI : (Tryd.prog.info? 2).map (fun i => (i.zero, i.size, i.bytes)) = some (some (.int .i64 0), 1, 8) := by kernel_rfl
theorem ints_rd {w : World} {B n c : Nat} {A : Option Addr} {zs : List Int} (h : Rd w B (.slice A n c) zs.length 1 (ints zs)) (k : Nat) (hk : k < zs.length) :
    ∃ b off, A = some ⟨b, off, none⟩ ∧ w.cell? ⟨b, off + k, none⟩ = some (.int .i64 zs[k]) := by
  obtain ⟨_, A', c', hv, hc⟩ := h
  injection hv with e1 e2 e3
  subst e1
  obtain ⟨b, off, hA, _, hcc⟩ := hc (by omega)
  exact ⟨b, off, hA, hcc k _ (by simp [ints, hk])⟩

/-- what is left of the room -/
def leftI (left : Int) (n : Nat) : Int := if left - n < 0 then -1 else left - n
theorem leftI_bd (left : Int) (n : Nat) (h1 : left ≤ 1048576) : leftI left n ≤ 1048576 ∧ (0 ≤ leftI left n → (n : Int) ≤ left) ∧ (leftI left n < 0 → leftI left n = -1) := by
  unfold leftI
  split <;> omega

set_option maxHeartbeats 400000 in
theorem eqInt64S_same (B1 B2 : Nat) (v1 v2 : Value) (zs : List Int) (w : World) (h1 : Rd w B1 v1 zs.length 1 (ints zs)) (h2 : Rd w B2 v2 zs.length 1 (ints zs)) (hz : zs.length ≤ 4611686018427387904) :
    Calls Tryd.prog 32 #[v1, v2] w fun e w' => e = .returned (.bool true) ∧ ∃ n, w' = w.drewN n := by
  have h1' := h1
  have h2' := h2
  obtain ⟨_, A1, c1, rfl, _⟩ := h1'
  obtain ⟨_, A2, c2, rfl, _⟩ := h2'
  have H1 := Lib.hid h1; clear h1
  have H2 := Lib.hid h2; clear h2
  go_enter Tryd.func32, Tryd.ntmps32
  go_wp2_with fail
  go_loopw [5] (fun i wr => ∃ k m : Nat, k ≤ zs.length ∧ i = .int .i64 k ∧ wr = w.drewN m) (fun i _ => zs.length - (intOf i).toNat)
  case atStart => exact ⟨0, 0, Nat.zero_le _, rfl, rfl⟩
  case round =>
    obtain ⟨k, m, hk, rfl, rfl⟩ := hrel
    by_cases hlt : k < zs.length
    · obtain ⟨b1, o1, hA1, hx⟩ := ints_rd H1.out k hlt
      obtain ⟨b2, o2, hA2, hy⟩ := ints_rd H2.out k hlt
      subst hA1 hA2
      generalize zs[k] = z at *
      have hlt' : (k : Int) < (zs.length : Int) := by omega
      go_wp2_with fail
      go_quiet (fail)
      go_wp2_with fail
      go_roundw
      case rel => exact ⟨k + 1, _, by omega, by go_num, rfl⟩
      case measure => simp [intOf]; omega
    · have hlt' : (zs.length : Int) ≤ (k : Int) := by omega
      go_wp2_with fail
      go_ret
      exact ⟨rfl, _, rfl⟩

end Go.Proofs.YtmheijnckmlbnaaDoor
/- Similar entries, part 2: the words two entries share; the reference's side. -/
namespace Go.Proofs.YtmheijnckmlbnaaDoor
open Go.RowKit Go.Joins

/-- how many words of the one list the other has -/
def comN : List ByteArray → List ByteArray → Nat
  | [], _ => 0
  | x :: l, b => if hasW b x = true then 1 + comN l b else comN l b
theorem comN_at (ws b : List ByteArray) (k : Nat) (hk : k < ws.length) : comN (ws.drop k) b = if hasW b ws[k] = true then 1 + comN (ws.drop (k + 1)) b else comN (ws.drop (k + 1)) b := by
  rw [List.drop_eq_getElem_cons hk]; rfl
theorem comN_end (ws b : List ByteArray) (k : Nat) (hk : ws.length ≤ k) : comN (ws.drop k) b = 0 := by rw [List.drop_of_length_le hk]; rfl
theorem comN_le : ∀ (ws b : List ByteArray), comN ws b ≤ ws.length := by
  intro ws b
  induction ws with
  | nil => exact Nat.le_refl _
  | cons x l ih => unfold comN; split <;> simp <;> omega

end Go.Proofs.YtmheijnckmlbnaaDoor
/- Similar entries, part 3: the list; the reference's SimilarEntries. -/
namespace Go.Proofs.YtmheijnckmlbnaaDoor
open Go.RowKit Go.Joins

def simF : List Ent → Nat → Nat → List ByteArray → Nat → List Int → List Int
  | [], _, _, _, _, out => out
  | x :: l, k, i, b, m, out => if k = i ∨ comN x.words b < m then simF l (k + 1) i b m out else if m < comN x.words b then simF l (k + 1) i b (comN x.words b) [x.num] else simF l (k + 1) i b m (out ++ [x.num])
theorem simF_at (xs : List Ent) (k i : Nat) (b : List ByteArray) (m : Nat) (out : List Int) (hk : k < xs.length) : simF (xs.drop k) k i b m out =
    if k = i ∨ comN xs[k].words b < m then simF (xs.drop (k + 1)) (k + 1) i b m out else if m < comN xs[k].words b then simF (xs.drop (k + 1)) (k + 1) i b (comN xs[k].words b) [xs[k].num] else simF (xs.drop (k + 1)) (k + 1) i b m (out ++ [xs[k].num]) := by
  rw [List.drop_eq_getElem_cons hk]; rfl
theorem simF_end (xs : List Ent) (k i : Nat) (b : List ByteArray) (m : Nat) (out : List Int) (hk : xs.length ≤ k) : simF (xs.drop k) k i b m out = out := by rw [List.drop_of_length_le hk]; rfl
/-- the numbers of the most similar -/
def simL (xs : List Ent) (m : Int) : List Int := if askC xs m = 0 then simF xs 0 (askI xs m).toNat (xs.getD (askI xs m).toNat noEnt).words 1 [] else []
theorem simF_len (i : Nat) (b : List ByteArray) : ∀ (xs : List Ent) (k m : Nat) (out : List Int), (simF xs k i b m out).length ≤ out.length + xs.length := by
  intro xs
  induction xs with
  | nil => intro k m out; exact Nat.le_refl _
  | cons x l ih =>
    intro k m out
    unfold simF
    split
    · have := ih (k + 1) m out; simp; omega
    · split
      · have := ih (k + 1) (comN x.words b) [x.num]; simp at *; omega
      · have := ih (k + 1) m (out ++ [x.num]); simp at *; omega
theorem simL_len (xs : List Ent) (m : Int) : (simL xs m).length ≤ xs.length := by
  unfold simL
  split
  · have := simF_len (askI xs m).toNat (xs.getD (askI xs m).toNat noEnt).words xs 0 1 []; simpa using this
  · simp
theorem sim_cases (xs : List Ent) (m : Int) : (askC xs m ≠ 0 ∧ simL xs m = []) ∨ ∃ (i : Nat) (hi : i < xs.length), askC xs m = 0 ∧ askI xs m = i ∧ entsOk xs = true ∧ findN xs m 0 = i ∧ simL xs m = simF xs 0 i xs[i].words 1 [] := by
  by_cases h : askC xs m = 0
  · right
    have h' := h
    unfold askC at h
    split at h
    · cases h
    · split at h
      · cases h
      · rename_i ho hf
        have ho : entsOk xs = true := by simpa using ho
        rcases findN_bd m xs 0 with e | ⟨i, hi, e⟩
        · omega
        · rw [Nat.zero_add] at e
          have hI : askI xs m = (i : Int) := by
            unfold askI
            rw [if_neg (by simp [ho]), if_neg (by omega), e]
          refine ⟨i, hi, h', hI, ho, e, ?_⟩
          unfold simL
          rw [if_pos h', hI, Int.toNat_natCast, getE_at xs i hi]
  · exact .inl ⟨h, by unfold simL; rw [if_neg h]⟩

/-- a new list of numbers and a code -/
def RetN (code : Int) (zs : List Int) (w : World) (e : Ending) (w' : World) : Prop :=
  ∃ v, e = .returned (.tuple #[v, .int .i64 code]) ∧ w'.ownsRow w.heap.size 2 1 v zs.length (ints zs) ∧ Below w.heap.size w w'
theorem RetN_no {code c2 : Int} {zs : List Int} {w w' : World} (h : zs = []) (hc : c2 = code) (hb : Below w.heap.size w w') : RetN code zs w (.returned (.tuple #[.slice none 0 0, .int .i64 c2])) w' := by
  subst h hc
  exact ⟨_, rfl, World.ownsRow_nil _ _ _ _, hb⟩
theorem RetN_yes {code c2 : Int} {zs l : List Int} {v : Value} {w w' : World} (h : zs = l) (hc : c2 = code) (ho : w'.ownsRow w.heap.size 2 1 v l.length (ints l)) (hb : Below w.heap.size w w') : RetN code zs w (.returned (.tuple #[v, .int .i64 c2])) w' := by
  subst h hc
  exact ⟨_, rfl, ho, hb⟩
theorem ones_one (a : Int) : ∀ u ∈ (#[Value.int .i64 a] : Array Value).toList, u.oneCell' = true := by
  intro u hu
  simp at hu
  subst hu; rfl
theorem ints_one (l : List Int) (a : Int) : ints l ++ (#[Value.int .i64 a] : Array Value).toList = ints (l ++ [a]) := by simp [ints]

end Go.Proofs.YtmheijnckmlbnaaDoor
/- Similar entries, part 4: the program's SimilarEntries. -/
namespace Go.Proofs.YtmheijnckmlbnaaDoor
open Go.RowKit Go.Joins

end Go.Proofs.YtmheijnckmlbnaaDoor
