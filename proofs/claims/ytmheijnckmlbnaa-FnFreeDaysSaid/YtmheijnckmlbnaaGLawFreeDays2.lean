/- Merged texts: En7, Lib2, Lib3, En8, En5, En9, Si1, Reg1, Si2, Si3, Si4, Si5, Lo6, Lo7, Lo8, Lo9. -/
import Derived.Test.YtmheijnckmlbnaaGLawFreeDays1
import Derived.Deep.RegionHeld3
import Derived.Lib.SmallJoins
/- Entries, part 7: a valid entry, the reference's side. -/
namespace Go.Proofs.Ytmheijnckmlbnaa
open Go.RowKit Go.Joins

theorem flipC {P : Program} {f : FuncId} {args : Array Value} {w : World} {v : Value} (h : Calls P f args w fun e w' => e = .returned v ∧ w = w') : Calls P f args w fun e w' => e = .returned v ∧ w' = w :=
  h.mono fun _ _ ⟨a, b⟩ => ⟨a, b.symm⟩

set_option maxRecDepth 100000 in
set_option maxHeartbeats 3200000 in
theorem l25One_any (B b o : Nat) (x : Ent) (A : Option Addr) (c : Nat) (w : World) (h : EntAt w B b o x A c) (hsm : smE x) :
    Calls Try.prog 102 #[.pointer (some ⟨b, o, none⟩)] w fun e w' => e = .returned (.bool (entOk x)) ∧ ∃ n, w' = w.drewN n := by
  obtain ⟨num, name, maker, year, words⟩ := x
  obtain ⟨l1, l2, l3, l4⟩ := hsm
  have HE := Lib.hid h
  obtain ⟨hbB, e0, e1, e2, e3, e4, ew⟩ := h
  dsimp only at *
  have hsz := Lib.hid l4
  have H := Lib.hid ew
  have HB1 := Lib.hid (fun wx => l00In_any num 1 1000000 wx)
  have HB2 := Lib.hid (fun wx => IsNameS_any name wx l1)
  have HB3 := Lib.hid (fun wx => IsNameS_any maker wx l2)
  have HB4 := Lib.hid (fun wx => l00In_any year 1000 3000 wx)
  clear ew l4
  cases g1 : inB num 1 1000000 with
  | false =>
    have hfin := Lib.hid (entOk_1 (x := ⟨num, name, maker, year, words⟩) g1)
    rw [g1] at HB1
    clear g1
    go_enter Try.func102, Try.ntmps102
    go_wp2_with fail
    refine (HB1.out _).mono ?_; rintro e w1 ⟨rfl, rfl⟩
    go_wp2_with fail
    go_ret
    rw [hfin.out]; exact ⟨rfl, 0, rfl⟩
  | true =>
    rw [g1] at HB1
    cases g2 : isNm name.data.toList with
    | false =>
      have hfin := Lib.hid (entOk_2 (x := ⟨num, name, maker, year, words⟩) g2)
      rw [g2] at HB2
      clear g1 g2
      go_enter Try.func102, Try.ntmps102
      go_wp2_with fail
      refine (HB1.out _).mono ?_; rintro e w1 ⟨rfl, rfl⟩
      go_wp2_with fail
      refine (HB2.out _).mono ?_; rintro e w1 ⟨rfl, rfl⟩
      go_wp2_with fail
      go_ret
      rw [hfin.out]; exact ⟨rfl, 0, rfl⟩
    | true =>
      rw [g2] at HB2
      cases g3 : isNm maker.data.toList with
      | false =>
        have hfin := Lib.hid (entOk_3 (x := ⟨num, name, maker, year, words⟩) g3)
        rw [g3] at HB3
        clear g1 g2 g3
        go_enter Try.func102, Try.ntmps102
        go_wp2_with fail
        refine (HB1.out _).mono ?_; rintro e w1 ⟨rfl, rfl⟩
        go_wp2_with fail
        refine (HB2.out _).mono ?_; rintro e w1 ⟨rfl, rfl⟩
        go_wp2_with fail
        refine (HB3.out _).mono ?_; rintro e w1 ⟨rfl, rfl⟩
        go_wp2_with fail
        go_ret
        rw [hfin.out]; exact ⟨rfl, 0, rfl⟩
      | true =>
        rw [g3] at HB3
        cases g4 : inB year 1000 3000 with
        | false =>
          have hfin := Lib.hid (entOk_4 (x := ⟨num, name, maker, year, words⟩) g4)
          rw [g4] at HB4
          clear g1 g2 g3 g4
          go_enter Try.func102, Try.ntmps102
          go_wp2_with fail
          refine (HB1.out _).mono ?_; rintro e w1 ⟨rfl, rfl⟩
          go_wp2_with fail
          refine (HB2.out _).mono ?_; rintro e w1 ⟨rfl, rfl⟩
          go_wp2_with fail
          refine (HB3.out _).mono ?_; rintro e w1 ⟨rfl, rfl⟩
          go_wp2_with fail
          refine (HB4.out _).mono ?_; rintro e w1 ⟨rfl, rfl⟩
          go_wp2_with fail
          go_ret
          rw [hfin.out]; exact ⟨rfl, 0, rfl⟩
        | true =>
          rw [g4] at HB4
          by_cases g5 : 8 < words.length
          · have hfin := Lib.hid (entOk_5 (x := ⟨num, name, maker, year, words⟩) g5)
            have g5' : (8 : Int) < (words.length : Int) := by omega
            clear g1 g2 g3 g4
            go_enter Try.func102, Try.ntmps102
            go_wp2_with fail
            refine (HB1.out _).mono ?_; rintro e w1 ⟨rfl, rfl⟩
            go_wp2_with fail
            refine (HB2.out _).mono ?_; rintro e w1 ⟨rfl, rfl⟩
            go_wp2_with fail
            refine (HB3.out _).mono ?_; rintro e w1 ⟨rfl, rfl⟩
            go_wp2_with fail
            refine (HB4.out _).mono ?_; rintro e w1 ⟨rfl, rfl⟩
            go_wp2_with fail
            go_ret
            rw [hfin.out]; exact ⟨rfl, 0, rfl⟩
          · have hfin := Lib.hid (entOk_6 (x := ⟨num, name, maker, year, words⟩) g1 g2 g3 g4 (by show words.length ≤ 8; omega))
            (try dsimp only at hfin)
            have g5' : (words.length : Int) ≤ 8 := by omega
            clear g1 g2 g3 g4
            go_enter Try.func102, Try.ntmps102
            go_wp2_with fail
            refine (HB1.out _).mono ?_; rintro e w1 ⟨rfl, rfl⟩
            go_wp2_with fail
            refine (HB2.out _).mono ?_; rintro e w1 ⟨rfl, rfl⟩
            go_wp2_with fail
            refine (HB3.out _).mono ?_; rintro e w1 ⟨rfl, rfl⟩
            go_wp2_with fail
            refine (HB4.out _).mono ?_; rintro e w1 ⟨rfl, rfl⟩
            go_wp2_with fail
            go_loopw [3] (fun i wr => ∃ k m : Nat, k ≤ words.length ∧ chk k (wordOk words) = true ∧ i = .int .i64 k ∧ wr = w.drewN m) (fun i _ => words.length - (intOf i).toNat)
            case atStart => exact ⟨0, 0, Nat.zero_le _, rfl, rfl, rfl⟩
            case round =>
              obtain ⟨k, m0, hk, hall, rfl, hwr⟩ := hrel
              have Hw := Lib.hid (fun n => (show wr.drewN n = w.drewN (m0 + n) by rw [hwr, World.drewN_drewN]))
              have Hw0 := Lib.hid hwr
              have Hall := Lib.hid hall; clear hall
              have Hr : Hid (Rd wr B (.slice A words.length c) words.length 1 (strs words)) := Lib.hid (by rw [hwr]; exact H.out.drewN m0)
              obtain ⟨_, d0, d1, d2, d3, d4, _⟩ := (show EntAt wr B b o ⟨num, name, maker, year, words⟩ A c by rw [hwr]; exact HE.out.drewN m0)
              (try dsimp only at d0 d1 d2 d3 d4)
              clear hwr
              by_cases hlt : k < words.length
              · obtain ⟨_, b1, o1, hA, hx⟩ := rd_at Hr.out k hlt
                have HA := Lib.hid hA
                have hlt' : (k : Int) < (words.length : Int) := by omega
                have Hbad := Lib.hid (fun h => hfin.out.trans (chk_bad (f := wordOk words) k hlt h))
                have Hst := Lib.hid (fun h => chk_step (f := wordOk words) (k := k) Hall.out h)
                have Hn := Lib.hid (fun h => wordOk_nm words k hlt h)
                have HN := Lib.hid (fun wx => flipC (IsNameS_any words[k] wx (hsz.out _ (List.getElem_mem hlt))))
                cases k with
                | zero =>
                  have H0 := Lib.hid (fun h => wordOk_0 words hlt h)
                  generalize words[0] = z at *
                  subst hA
                  rw [Nat.add_zero] at hx
                  clear HA
                  cases g : isNm z.data.toList with
                  | false =>
                    have hf := Lib.hid (Hbad.out (Hn.out g))
                    rw [g] at HN
                    clear Hbad Hst Hn g H0
                    go_wp2_with fail
                    go_quiet ((go_at_call 22; exact Calls.quiet_of_same (HN.out _)))
                    go_wp2_with fail
                    go_ret
                    rw [hf.out]; exact ⟨rfl, _, Hw.out _⟩
                  | true =>
                    have hst := Lib.hid (Hst.out (H0.out g))
                    rw [g] at HN
                    clear Hbad Hst Hn g H0
                    go_wp2_with fail
                    go_quiet ((go_at_call 22; exact Calls.quiet_of_same (HN.out _)))
                    go_wp2_with fail
                    go_roundw
                    case rel => exact ⟨1, _, by omega, hst.out, by go_num, Hw.out _⟩
                    case measure => simp [intOf]; omega
                | succ m =>
                  obtain ⟨_, b1', o1', hA', hy⟩ := rd_at Hr.out m (by omega)
                  rw [HA.out] at hA'
                  obtain ⟨rfl, rfl⟩ : b1 = b1' ∧ o1 = o1' := by simpa using hA'
                  have H0 := Lib.hid (fun h => wordOk_s words m hlt h)
                  generalize words[m + 1] = z at *
                  generalize words[m] = y at *
                  subst hA
                  clear hA'
                  cases g : isNm z.data.toList with
                  | false =>
                    have hf := Lib.hid (Hbad.out (Hn.out g))
                    rw [g] at HN
                    clear Hbad Hst Hn g H0
                    go_wp2_with fail
                    go_quiet ((go_at_call 22; exact Calls.quiet_of_same (HN.out _)))
                    go_wp2_with fail
                    go_ret
                    rw [hf.out]; exact ⟨rfl, _, Hw.out _⟩
                  | true =>
                    rw [g] at HN
                    have h1 := H0.out g
                    have hpos : (0 : Int) < ((m + 1 : Nat) : Int) := by omega
                    cases gl : lessS y z with
                    | true =>
                      have hst := Lib.hid (Hst.out (h1.trans gl))
                      obtain ⟨t1, t2, t3, t4⟩ := less_yes gl
                      clear Hbad Hst Hn g H0 h1 gl
                      have hm1 : IntKind.i64.wrap (((m + 1 : Nat) : Int) - 1) = (m : Int) := by rw [IntWalk.i64_in _ (by omega)]; omega
                      have hm2 : ((m + 1 : Nat) : Int) - 1 = (m : Int) := by omega
                      go_wp2_with fail
                      go_quiet ((go_at_call 22; exact Calls.quiet_of_same (HN.out _)))
                      clear hm1 hm2
                      go_wp2_with fail
                      go_roundw
                      case rel => exact ⟨m + 1 + 1, _, by omega, hst.out, by go_num, Hw.out _⟩
                      case measure => simp [intOf]; omega
                    | false =>
                      have hf := Lib.hid (Hbad.out (h1.trans gl))
                      obtain ⟨t1, t2⟩ := less_no gl
                      clear Hbad Hst Hn g H0 h1 gl
                      have hm1 : IntKind.i64.wrap (((m + 1 : Nat) : Int) - 1) = (m : Int) := by rw [IntWalk.i64_in _ (by omega)]; omega
                      have hm2 : ((m + 1 : Nat) : Int) - 1 = (m : Int) := by omega
                      go_wp2_with fail
                      go_quiet ((go_at_call 22; exact Calls.quiet_of_same (HN.out _)))
                      clear hm1 hm2
                      go_wp2_with fail
                      go_ret
                      rw [hf.out]; exact ⟨rfl, _, Hw.out _⟩
              · have hf := Lib.hid (show entOk ⟨num, name, maker, year, words⟩ = true by rw [hfin.out, show words.length = k by omega]; exact Hall.out)
                have hlt' : (words.length : Int) ≤ (k : Int) := by omega
                go_wp2_with fail
                go_ret
                rw [hf.out]; exact ⟨rfl, _, Hw0.out⟩
end Go.Proofs.Ytmheijnckmlbnaa
/- Append of a row that is read to a row of the call's own. No program is named here. -/
namespace Go.Proofs.Ytmheijnckmlbnaa
open Go.RowKit

section
variable {P : Program}
theorem wpList_apr {w : World} {ops : Array Oper} {rest : List Oper} {o : Oper} {a : Act} {Q : Exit → Act → World → Prop} (t e : TypeId) (z : Value) (size bytes : Nat)
    (ht : P.underlying t = some (.slice e)) (hinfo : (P.info? e).map (fun i => (i.zero, i.size, i.bytes)) = some (some z, size, bytes)) (hzs : z.cells.size = size) (hsz : 0 < size)
    (s x : Operand) (hgd : o.guard = none) (ho : o.op = .call { callee := .builtin .append, args := #[s, x], argTypes := #[t, t] })
    (base : Nat) (v : Value) (n : Nat) (xs : List Value) (hs : a.eval s = v) (hown : w.ownsRow base e size v n xs)
    (b off m c : Nat) (cs : List Value) (hx : a.eval x = .slice (some ⟨b, off, none⟩) m c) (hl : cs.length = m * size) (hc : ∀ (i : Nat) (u : Value), cs[i]? = some u → w.cell? ⟨b, off + i, none⟩ = some u) (h1 : ∀ u ∈ cs, u.oneCell' = true)
    (h63 : n + m ≤ maxLen) (hbytes : (n + m) * bytes ≤ 140737488355328) (hbase : base ≤ w.heap.size)
    (h : ∀ v' w', w'.ownsRow base e size v' (n + m) (xs ++ cs) → w.grownBy w' v.ownBlock → wpList P ops Q rest (a.put o.dst v') w') :
    wpList P ops Q (o :: rest) a w := by
  obtain ⟨i, hi, hz, h2, h3⟩ := info_parts hinfo
  refine wpList_append_own _ hgd s x t ho base e i z size bytes ht hi hz h2 h3 hzs hsz v n xs hs hown ⟨b, off, none⟩ m c cs hx hl (fun j u hu => ?_) h1 h63 hbytes hbase ?_
  · have hadd : (⟨b, off, none⟩ : Addr).add j = ⟨b, off + j, none⟩ := by unfold Addr.add; split <;> simp_all
    rw [hadd]; exact hc j u hu
  · intro v' w' ho' hg' _
    exact h v' w' ho' hg'
end
end Go.Proofs.Ytmheijnckmlbnaa
/- A region that draws its order, step by step: an operation that is taken first, its slot given by number. No program is named here. -/
namespace Go.Proofs.Ytmheijnckmlbnaa
open Go.RowKit

section
variable {P : Program} {ops : Array Oper} {Q : Exit → Act → World → Prop} {md : Region.Mode} {S : World → Prop}
theorem take_d {i : Nat} {oi : Oper} {d : Option Nat} {v : Value} {fuel : Nat} {listed : Array Bool} {a : Act} {w : World} (hi : ops[i]? = some oi) (hd : oi.dst = d)
    (hs : Region.noSelect ops = true) (hf : Region.free md ops listed i = true) (hr : (Region.ready md ops listed).contains i = true)
    (hQ : ∀ c a w, Q (.panic c) (a.put d v) w → Q (.panic c) a w) (hy : YieldsIf P ops S oi v a) (hS : S w)
    (h : wpAnyH P md ops Q S fuel (listed.setIfInBounds i true) (a.put d v) w) : wpAnyH P md ops Q S (fuel + 1) listed a w := by
  subst hd
  exact wpAnyH_take hi hs hf hr hQ hy hS h
theorem call_d {i : Nat} {o : Oper} {d : Option Nat} {fuel : Nat} {listed : Array Bool} {a : Act} {w : World} (ho : ops[i]? = some o) (hd : o.dst = d) (hr : Region.ready md ops listed = [i])
    (h : ∀ K' : Act → World → Prop, Shut (∀ a w, S w → (S w → wpAnyH P md ops Q S fuel (listed.setIfInBounds i true) a w) → K' a w) → if Region.wanted o (yielded ops a.tmps) = true then Oper.wp P o a w K' Q else K' (a.put d undef) w) :
    wpAnyH P md ops Q S (fuel + 1) listed a w := by
  subst hd
  exact wpAnyH_ready hr (by simp) (AllReadyH.cons ho h AllReadyH.nil)
end
end Go.Proofs.Ytmheijnckmlbnaa
/- Entries, part 8 (regions' steps by heldsteps.py): ValidEntries on both sides. -/
namespace Go.Proofs.Ytmheijnckmlbnaa
open Go.RowKit Go.Joins

def noEnt : Ent := ⟨0, ⟨#[]⟩, ⟨#[]⟩, 0, []⟩
def placeOk (xs : List Ent) (i : Nat) : Bool := entOk (xs.getD i noEnt) && (decide (i = 0) || decide ((xs.getD (i - 1) noEnt).num < (xs.getD i noEnt).num))
def entsOk (xs : List Ent) : Bool := chk xs.length (placeOk xs) && decide (xs.length ≤ 50)
theorem getE_at (l : List Ent) (k : Nat) (hk : k < l.length) : l.getD k noEnt = l[k] := by simp [List.getD, hk]
theorem place_no (l : List Ent) (k : Nat) (hk : k < l.length) (h : entOk l[k] = false) : placeOk l k = false := by unfold placeOk; rw [getE_at l k hk, h]; rfl
theorem place_0 (l : List Ent) (hk : 0 < l.length) (h : entOk l[0] = true) : placeOk l 0 = true := by unfold placeOk; rw [getE_at l 0 hk, h]; rfl
theorem place_s (l : List Ent) (k : Nat) (hk : k + 1 < l.length) (h : entOk l[k + 1] = true) : placeOk l (k + 1) = decide (l[k].num < l[k + 1].num) := by
  unfold placeOk
  rw [getE_at l (k + 1) hk, h, show k + 1 - 1 = k by omega, getE_at l k (by omega)]
  simp
theorem ents_no {l : List Ent} (k : Nat) (hk : k < l.length) (h : placeOk l k = false) : entsOk l = false := by unfold entsOk; rw [chk_bad k hk h]; rfl
theorem five_at {w : World} {g : Nat} {a b c d e : Value} {t : TypeId} (h : w.heap[g]? = some (.cells #[a, b, c, d, e] t (0, 0))) :
    w.cell? ⟨g, 0, none⟩ = some a ∧ w.cell? ⟨g, 1, none⟩ = some b ∧ w.cell? ⟨g, 2, none⟩ = some c ∧ w.cell? ⟨g, 3, none⟩ = some d ∧ w.cell? ⟨g, 4, none⟩ = some e := by
  obtain ⟨h0, h1, h2, h3, h4, _⟩ := blk5 h
  exact ⟨h0, h1, h2, h3, h4⟩
theorem six_at {w : World} {g : Nat} {a b c d e v : Value} {q : Addr} {t : TypeId} (h : w.heap[g]? = some (.cells #[a, b, c, d, e] t (0, 0))) (hq : w.cell? q = some v) :
    w.cell? ⟨g, 0, none⟩ = some a ∧ w.cell? ⟨g, 1, none⟩ = some b ∧ w.cell? ⟨g, 2, none⟩ = some c ∧ w.cell? ⟨g, 3, none⟩ = some d ∧ w.cell? ⟨g, 4, none⟩ = some e ∧ w.cell? q = some v := by
  obtain ⟨h0, h1, h2, h3, h4, _⟩ := blk5 h
  exact ⟨h0, h1, h2, h3, h4, hq⟩

set_option maxRecDepth 100000 in
set_option maxHeartbeats 3200000 in
theorem ValidI_any (B : Nat) (v : Value) (xs : List Ent) (w : World) (h : RdE w B v xs) (hB : B ≤ w.heap.size) (hl : xs.length ≤ 1048576) (hsm : ∀ x ∈ xs, smE x) :
    Calls Try.prog 70 #[v] w fun e w' => e = .returned (.bool (entsOk xs)) ∧ Below w.heap.size w w' := by
  have H := Lib.hid h
  have Hsm := Lib.hid hsm
  obtain ⟨A, c, rfl⟩ := h.slice
  clear h hsm
  have hb0 := Below.refl w.heap.size w
  go_enter Try.func70, Try.ntmps70
  go_wp2_with fail
  go_loopw [7] (fun i wr => ∃ k : Nat, k ≤ xs.length ∧ chk k (placeOk xs) = true ∧ i = .int .i64 k ∧ Below w.heap.size w wr) (fun i _ => xs.length - (intOf i).toNat)
  case atStart => exact ⟨0, Nat.zero_le _, rfl, rfl, hb0⟩
  case round =>
    obtain ⟨k, hk, hall, rfl, hbl⟩ := hrel
    have Hall := Lib.hid hall; clear hall
    by_cases hlt : k < xs.length
    · obtain ⟨b1, o1, A3, c3, hA, hE⟩ := (H.out.below (hbl.mono hB)).at k hlt
      have HA := Lib.hid hA
      have hlt' : (k : Int) < (xs.length : Int) := by omega
      have Hbad := Lib.hid (fun h => ents_no (l := xs) k hlt h)
      have Hst := Lib.hid (fun h => chk_step (f := placeOk xs) (k := k) Hall.out h)
      have Hn := Lib.hid (fun h => place_no xs k hlt h)
      have hsx := Lib.hid (Hsm.out xs[k] (List.getElem_mem hlt))
      have hzB : B ≤ wr.heap.size := Nat.le_trans hB hbl.size
      have hz1 : b1 < wr.heap.size := Nat.lt_of_lt_of_le hE.lt hzB
      cases k with
      | zero =>
        have H0 := Lib.hid (fun h => place_0 xs hlt h)
        generalize xs[0] = x at *
        subst hA
        clear HA
        obtain ⟨num, name, maker, year, words⟩ := x
        have HV := Lib.hid (fun wx hx hz => validEntry_any B ⟨num, name, maker, year, words⟩ A3 c3 wx hx hz hsx.out)
        obtain ⟨hbB, e0, e1, e2, e3, e4, ew⟩ := hE
        dsimp only at e0 e1 e2 e3 e4 ew
        rw [Nat.zero_mul, Nat.add_zero] at e0 e1 e2 e3 e4
        have hba := (Below.refl wr.heap.size wr).alloc (Nat.le_refl _) (.cells #[.int .i64 num, .string name, .string maker, .int .i64 year, .slice A3 words.length c3] 92)
        have hnw := heap_alloc_new wr (.cells #[.int .i64 num, .string name, .string maker, .int .i64 year, .slice A3 words.length c3] 92)
        have hlw : wr.heap.size < (wr.alloc (.cells #[.int .i64 num, .string name, .string maker, .int .i64 year, .slice A3 words.length c3] 92)).heap.size := by simp
        have Hnw := Lib.hid hnw
        have Hba := Lib.hid hba
        have Hbl := Lib.hid hbl
        have Hew := Lib.hid ew
        clear hba hbl ew hnw
        cases g : entOk ⟨num, name, maker, year, words⟩ with
        | false =>
          have hf := Lib.hid (Hbad.out (Hn.out g))
          rw [g] at HV
          clear Hbad Hst Hn g H0
          go_wp2_with fail
          obtain ⟨f0, f1, f2, f3, f4, _⟩ := blk5 Hnw.out
          have hacc : Below wr.heap.size wr (wr.alloc (.cells #[.int .i64 num, .string name, .string maker, .int .i64 year, .slice A3 words.length c3] 92)).drew := Hba.out.drew
          generalize wr.alloc (.cells #[.int .i64 num, .string name, .string maker, .int .i64 year, .slice A3 words.length c3] 92) = wn at *
          refine wp_region_noPanic ?_
          refine wp_region_held_drew (S := fun w' => w'.cell? ⟨wr.heap.size, 0, none⟩ = some (.int .i64 num) ∧ w'.cell? ⟨wr.heap.size, 1, none⟩ = some (.string name) ∧ w'.cell? ⟨wr.heap.size, 2, none⟩ = some (.string maker) ∧ w'.cell? ⟨wr.heap.size, 3, none⟩ = some (.int .i64 year) ∧ w'.cell? ⟨wr.heap.size, 4, none⟩ = some (.slice A3 words.length c3)) (by kernel_rfl) (by (try dsimp only); first | go_keep | assumption) (fun hHeld => ?_)
          refine take_d (i := 0) (d := some 12) (v := ?_) rfl rfl (by kernel_rfl) (by kernel_rfl) (by kernel_rfl) (fun _ _ _ h => h) (Or.inl ⟨by rfl, ?_⟩) (by assumption) ?_
          rotate_left
          · (intro w hSw; (try dsimp only at hSw); go_simp; (try (with_reducible rfl)))
          simp only [Act.put, List.setIfInBounds_toArray, List.set_cons_zero, List.set_cons_succ]
          refine call_d (i := 1) (d := some 13) rfl rfl (by kernel_rfl) (fun K hK => ?_)
          go_simp
          (go_at_call 104; ((with_reducible refine (HV.out _ (Hew.out.below (hacc.mono hzB)) (Nat.le_trans hzB hacc.size)).mono ?_)); rintro e wq ⟨rfl, hbq⟩; have hSq := five_at ((hbq.block _ hlw).trans Hnw.out); have hacc' := hacc.trans (hbq.mono hacc.size); clear hacc; have hacc := hacc'; clear hacc')
          (try (go_wp2_with fail))
          refine hK.out _ _ (hSq) (fun hHeld => ?_)
          clear hK K
          (try simp only [Act.put, List.setIfInBounds_toArray, List.set_cons_zero, List.set_cons_succ])
          refine take_d (i := 2) (d := some 14) (v := ?_) rfl rfl (by kernel_rfl) (by kernel_rfl) (by kernel_rfl) (fun _ _ _ h => h) (Or.inl ⟨by rfl, ?_⟩) (by assumption) ?_
          rotate_left
          · (intro w hSw; (try dsimp only at hSw); go_simp; (try (with_reducible rfl)))
          simp only [Act.put, List.setIfInBounds_toArray, List.set_cons_zero, List.set_cons_succ]
          refine take_d (i := 3) (d := some 15) (v := ?_) rfl rfl (by kernel_rfl) (by kernel_rfl) (by kernel_rfl) (fun _ _ _ h => h) (Or.inl ⟨by rfl, ?_⟩) (by assumption) ?_
          rotate_left
          · (intro w hSw; (try dsimp only at hSw); go_simp; (try (with_reducible rfl)))
          simp only [Act.put, List.setIfInBounds_toArray, List.set_cons_zero, List.set_cons_succ]
          refine take_d (i := 4) (d := some 16) (v := undef) rfl rfl (by kernel_rfl) (by kernel_rfl) (by kernel_rfl) (fun _ _ _ h => h) (Or.inr ⟨by rfl, rfl⟩) (by assumption) ?_
          simp only [Act.put, List.setIfInBounds_toArray, List.set_cons_zero, List.set_cons_succ]
          refine take_d (i := 5) (d := some 17) (v := undef) rfl rfl (by kernel_rfl) (by kernel_rfl) (by kernel_rfl) (fun _ _ _ h => h) (Or.inr ⟨by rfl, rfl⟩) (by assumption) ?_
          simp only [Act.put, List.setIfInBounds_toArray, List.set_cons_zero, List.set_cons_succ]
          refine take_d (i := 6) (d := some 18) (v := undef) rfl rfl (by kernel_rfl) (by kernel_rfl) (by kernel_rfl) (fun _ _ _ h => h) (Or.inr ⟨by rfl, rfl⟩) (by assumption) ?_
          simp only [Act.put, List.setIfInBounds_toArray, List.set_cons_zero, List.set_cons_succ]
          refine take_d (i := 7) (d := some 19) (v := undef) rfl rfl (by kernel_rfl) (by kernel_rfl) (by kernel_rfl) (fun _ _ _ h => h) (Or.inr ⟨by rfl, rfl⟩) (by assumption) ?_
          simp only [Act.put, List.setIfInBounds_toArray, List.set_cons_zero, List.set_cons_succ]
          refine take_d (i := 8) (d := some 20) (v := undef) rfl rfl (by kernel_rfl) (by kernel_rfl) (by kernel_rfl) (fun _ _ _ h => h) (Or.inr ⟨by rfl, rfl⟩) (by assumption) ?_
          simp only [Act.put, List.setIfInBounds_toArray, List.set_cons_zero, List.set_cons_succ]
          refine take_d (i := 9) (d := some 21) (v := undef) rfl rfl (by kernel_rfl) (by kernel_rfl) (by kernel_rfl) (fun _ _ _ h => h) (Or.inr ⟨by rfl, rfl⟩) (by assumption) ?_
          simp only [Act.put, List.setIfInBounds_toArray, List.set_cons_zero, List.set_cons_succ]
          refine take_d (i := 10) (d := some 22) (v := undef) rfl rfl (by kernel_rfl) (by kernel_rfl) (by kernel_rfl) (fun _ _ _ h => h) (Or.inr ⟨by rfl, rfl⟩) (by assumption) ?_
          simp only [Act.put, List.setIfInBounds_toArray, List.set_cons_zero, List.set_cons_succ]
          refine take_d (i := 11) (d := some 23) (v := undef) rfl rfl (by kernel_rfl) (by kernel_rfl) (by kernel_rfl) (fun _ _ _ h => h) (Or.inr ⟨by rfl, rfl⟩) (by assumption) ?_
          simp only [Act.put, List.setIfInBounds_toArray, List.set_cons_zero, List.set_cons_succ]
          refine take_d (i := 12) (d := some 24) (v := undef) rfl rfl (by kernel_rfl) (by kernel_rfl) (by kernel_rfl) (fun _ _ _ h => h) (Or.inr ⟨by rfl, rfl⟩) (by assumption) ?_
          simp only [Act.put, List.setIfInBounds_toArray, List.set_cons_zero, List.set_cons_succ]
          refine take_d (i := 13) (d := some 25) (v := undef) rfl rfl (by kernel_rfl) (by kernel_rfl) (by kernel_rfl) (fun _ _ _ h => h) (Or.inr ⟨by rfl, rfl⟩) (by assumption) ?_
          simp only [Act.put, List.setIfInBounds_toArray, List.set_cons_zero, List.set_cons_succ]
          refine take_d (i := 14) (d := some 26) (v := undef) rfl rfl (by kernel_rfl) (by kernel_rfl) (by kernel_rfl) (fun _ _ _ h => h) (Or.inr ⟨by rfl, rfl⟩) (by assumption) ?_
          simp only [Act.put, List.setIfInBounds_toArray, List.set_cons_zero, List.set_cons_succ]
          refine take_d (i := 15) (d := some 27) (v := undef) rfl rfl (by kernel_rfl) (by kernel_rfl) (by kernel_rfl) (fun _ _ _ h => h) (Or.inr ⟨by rfl, rfl⟩) (by assumption) ?_
          simp only [Act.put, List.setIfInBounds_toArray, List.set_cons_zero, List.set_cons_succ]
          refine take_d (i := 16) (d := some 28) (v := undef) rfl rfl (by kernel_rfl) (by kernel_rfl) (by kernel_rfl) (fun _ _ _ h => h) (Or.inr ⟨by rfl, rfl⟩) (by assumption) ?_
          simp only [Act.put, List.setIfInBounds_toArray, List.set_cons_zero, List.set_cons_succ]
          refine take_d (i := 17) (d := some 29) (v := ?_) rfl rfl (by kernel_rfl) (by kernel_rfl) (by kernel_rfl) (fun _ _ _ h => h) (Or.inl ⟨by rfl, ?_⟩) (by assumption) ?_
          rotate_left
          · (intro w hSw; (try dsimp only at hSw); go_simp; (try (with_reducible rfl)))
          simp only [Act.put, List.setIfInBounds_toArray, List.set_cons_zero, List.set_cons_succ]
          refine wpAnyH_done (by kernel_rfl) ?_ _
          refine NoPanic.normal ?_
          go_wp2_with fail
          go_ret
          rw [hf.out]; exact ⟨rfl, Hbl.out.trans (hacc.mono Hbl.out.size)⟩
        | true =>
          have hst := Lib.hid (Hst.out (H0.out g))
          rw [g] at HV
          clear Hbad Hst Hn g H0
          go_wp2_with fail
          obtain ⟨f0, f1, f2, f3, f4, _⟩ := blk5 Hnw.out
          have hacc : Below wr.heap.size wr (wr.alloc (.cells #[.int .i64 num, .string name, .string maker, .int .i64 year, .slice A3 words.length c3] 92)).drew := Hba.out.drew
          generalize wr.alloc (.cells #[.int .i64 num, .string name, .string maker, .int .i64 year, .slice A3 words.length c3] 92) = wn at *
          refine wp_region_noPanic ?_
          refine wp_region_held_drew (S := fun w' => w'.cell? ⟨wr.heap.size, 0, none⟩ = some (.int .i64 num) ∧ w'.cell? ⟨wr.heap.size, 1, none⟩ = some (.string name) ∧ w'.cell? ⟨wr.heap.size, 2, none⟩ = some (.string maker) ∧ w'.cell? ⟨wr.heap.size, 3, none⟩ = some (.int .i64 year) ∧ w'.cell? ⟨wr.heap.size, 4, none⟩ = some (.slice A3 words.length c3)) (by kernel_rfl) (by (try dsimp only); first | go_keep | assumption) (fun hHeld => ?_)
          refine take_d (i := 0) (d := some 12) (v := ?_) rfl rfl (by kernel_rfl) (by kernel_rfl) (by kernel_rfl) (fun _ _ _ h => h) (Or.inl ⟨by rfl, ?_⟩) (by assumption) ?_
          rotate_left
          · (intro w hSw; (try dsimp only at hSw); go_simp; (try (with_reducible rfl)))
          simp only [Act.put, List.setIfInBounds_toArray, List.set_cons_zero, List.set_cons_succ]
          refine call_d (i := 1) (d := some 13) rfl rfl (by kernel_rfl) (fun K hK => ?_)
          go_simp
          (go_at_call 104; ((with_reducible refine (HV.out _ (Hew.out.below (hacc.mono hzB)) (Nat.le_trans hzB hacc.size)).mono ?_)); rintro e wq ⟨rfl, hbq⟩; have hSq := five_at ((hbq.block _ hlw).trans Hnw.out); have hacc' := hacc.trans (hbq.mono hacc.size); clear hacc; have hacc := hacc'; clear hacc')
          (try (go_wp2_with fail))
          refine hK.out _ _ (hSq) (fun hHeld => ?_)
          clear hK K
          (try simp only [Act.put, List.setIfInBounds_toArray, List.set_cons_zero, List.set_cons_succ])
          refine take_d (i := 2) (d := some 14) (v := ?_) rfl rfl (by kernel_rfl) (by kernel_rfl) (by kernel_rfl) (fun _ _ _ h => h) (Or.inl ⟨by rfl, ?_⟩) (by assumption) ?_
          rotate_left
          · (intro w hSw; (try dsimp only at hSw); go_simp; (try (with_reducible rfl)))
          simp only [Act.put, List.setIfInBounds_toArray, List.set_cons_zero, List.set_cons_succ]
          refine take_d (i := 3) (d := some 15) (v := ?_) rfl rfl (by kernel_rfl) (by kernel_rfl) (by kernel_rfl) (fun _ _ _ h => h) (Or.inl ⟨by rfl, ?_⟩) (by assumption) ?_
          rotate_left
          · (intro w hSw; (try dsimp only at hSw); go_simp; (try (with_reducible rfl)))
          simp only [Act.put, List.setIfInBounds_toArray, List.set_cons_zero, List.set_cons_succ]
          refine take_d (i := 4) (d := some 16) (v := ?_) rfl rfl (by kernel_rfl) (by kernel_rfl) (by kernel_rfl) (fun _ _ _ h => h) (Or.inl ⟨by rfl, ?_⟩) (by assumption) ?_
          rotate_left
          · (intro w hSw; (try dsimp only at hSw); go_simp; (try (with_reducible rfl)))
          simp only [Act.put, List.setIfInBounds_toArray, List.set_cons_zero, List.set_cons_succ]
          refine take_d (i := 5) (d := some 17) (v := ?_) rfl rfl (by kernel_rfl) (by kernel_rfl) (by kernel_rfl) (fun _ _ _ h => h) (Or.inl ⟨by rfl, ?_⟩) (by assumption) ?_
          rotate_left
          · (intro w hSw; (try dsimp only at hSw); go_simp; (try (with_reducible rfl)))
          simp only [Act.put, List.setIfInBounds_toArray, List.set_cons_zero, List.set_cons_succ]
          refine take_d (i := 6) (d := some 18) (v := ?_) rfl rfl (by kernel_rfl) (by kernel_rfl) (by kernel_rfl) (fun _ _ _ h => h) (Or.inl ⟨by rfl, ?_⟩) (by assumption) ?_
          rotate_left
          · (intro w hSw; (try dsimp only at hSw); go_simp; (try (with_reducible rfl)))
          simp only [Act.put, List.setIfInBounds_toArray, List.set_cons_zero, List.set_cons_succ]
          refine take_d (i := 7) (d := some 19) (v := undef) rfl rfl (by kernel_rfl) (by kernel_rfl) (by kernel_rfl) (fun _ _ _ h => h) (Or.inr ⟨by rfl, rfl⟩) (by assumption) ?_
          simp only [Act.put, List.setIfInBounds_toArray, List.set_cons_zero, List.set_cons_succ]
          refine take_d (i := 8) (d := some 20) (v := undef) rfl rfl (by kernel_rfl) (by kernel_rfl) (by kernel_rfl) (fun _ _ _ h => h) (Or.inr ⟨by rfl, rfl⟩) (by assumption) ?_
          simp only [Act.put, List.setIfInBounds_toArray, List.set_cons_zero, List.set_cons_succ]
          refine take_d (i := 9) (d := some 21) (v := undef) rfl rfl (by kernel_rfl) (by kernel_rfl) (by kernel_rfl) (fun _ _ _ h => h) (Or.inr ⟨by rfl, rfl⟩) (by assumption) ?_
          simp only [Act.put, List.setIfInBounds_toArray, List.set_cons_zero, List.set_cons_succ]
          refine take_d (i := 10) (d := some 22) (v := undef) rfl rfl (by kernel_rfl) (by kernel_rfl) (by kernel_rfl) (fun _ _ _ h => h) (Or.inr ⟨by rfl, rfl⟩) (by assumption) ?_
          simp only [Act.put, List.setIfInBounds_toArray, List.set_cons_zero, List.set_cons_succ]
          refine take_d (i := 11) (d := some 23) (v := undef) rfl rfl (by kernel_rfl) (by kernel_rfl) (by kernel_rfl) (fun _ _ _ h => h) (Or.inr ⟨by rfl, rfl⟩) (by assumption) ?_
          simp only [Act.put, List.setIfInBounds_toArray, List.set_cons_zero, List.set_cons_succ]
          refine take_d (i := 12) (d := some 24) (v := undef) rfl rfl (by kernel_rfl) (by kernel_rfl) (by kernel_rfl) (fun _ _ _ h => h) (Or.inr ⟨by rfl, rfl⟩) (by assumption) ?_
          simp only [Act.put, List.setIfInBounds_toArray, List.set_cons_zero, List.set_cons_succ]
          refine take_d (i := 13) (d := some 25) (v := undef) rfl rfl (by kernel_rfl) (by kernel_rfl) (by kernel_rfl) (fun _ _ _ h => h) (Or.inr ⟨by rfl, rfl⟩) (by assumption) ?_
          simp only [Act.put, List.setIfInBounds_toArray, List.set_cons_zero, List.set_cons_succ]
          refine take_d (i := 14) (d := some 26) (v := undef) rfl rfl (by kernel_rfl) (by kernel_rfl) (by kernel_rfl) (fun _ _ _ h => h) (Or.inr ⟨by rfl, rfl⟩) (by assumption) ?_
          simp only [Act.put, List.setIfInBounds_toArray, List.set_cons_zero, List.set_cons_succ]
          refine take_d (i := 15) (d := some 27) (v := undef) rfl rfl (by kernel_rfl) (by kernel_rfl) (by kernel_rfl) (fun _ _ _ h => h) (Or.inr ⟨by rfl, rfl⟩) (by assumption) ?_
          simp only [Act.put, List.setIfInBounds_toArray, List.set_cons_zero, List.set_cons_succ]
          refine take_d (i := 16) (d := some 28) (v := ?_) rfl rfl (by kernel_rfl) (by kernel_rfl) (by kernel_rfl) (fun _ _ _ h => h) (Or.inl ⟨by rfl, ?_⟩) (by assumption) ?_
          rotate_left
          · (intro w hSw; (try dsimp only at hSw); go_simp; (try (with_reducible rfl)))
          simp only [Act.put, List.setIfInBounds_toArray, List.set_cons_zero, List.set_cons_succ]
          refine take_d (i := 17) (d := some 29) (v := ?_) rfl rfl (by kernel_rfl) (by kernel_rfl) (by kernel_rfl) (fun _ _ _ h => h) (Or.inl ⟨by rfl, ?_⟩) (by assumption) ?_
          rotate_left
          · (intro w hSw; (try dsimp only at hSw); go_simp; (try (with_reducible rfl)))
          simp only [Act.put, List.setIfInBounds_toArray, List.set_cons_zero, List.set_cons_succ]
          refine wpAnyH_done (by kernel_rfl) ?_ _
          refine NoPanic.normal ?_
          go_wp2_with fail
          go_roundw
          case rel => exact ⟨1, by omega, hst.out, by go_num, Hbl.out.trans (hacc.mono Hbl.out.size)⟩
          case measure => simp [intOf]; omega
      | succ m =>
        obtain ⟨b2, o2, A4, c4, hA', hE'⟩ := (H.out.below (hbl.mono hB)).at m (by omega)
        rw [HA.out] at hA'
        obtain ⟨rfl, rfl⟩ : b1 = b2 ∧ o1 = o2 := by simpa using hA'
        have H0 := Lib.hid (fun h => place_s xs m hlt h)
        generalize xs[m + 1] = x at *
        have hp0 := hE'.c0
        generalize xs[m] = y at *
        generalize y.num = pn at *
        subst hA
        clear hA' HA hE'
        obtain ⟨num, name, maker, year, words⟩ := x
        have HV := Lib.hid (fun wx hx hz => validEntry_any B ⟨num, name, maker, year, words⟩ A3 c3 wx hx hz hsx.out)
        obtain ⟨hbB, e0, e1, e2, e3, e4, ew⟩ := hE
        dsimp only at e0 e1 e2 e3 e4 ew
        (try dsimp only at H0)
        have hba := (Below.refl wr.heap.size wr).alloc (Nat.le_refl _) (.cells #[.int .i64 num, .string name, .string maker, .int .i64 year, .slice A3 words.length c3] 92)
        have hnw := heap_alloc_new wr (.cells #[.int .i64 num, .string name, .string maker, .int .i64 year, .slice A3 words.length c3] 92)
        have hlw : wr.heap.size < (wr.alloc (.cells #[.int .i64 num, .string name, .string maker, .int .i64 year, .slice A3 words.length c3] 92)).heap.size := by simp
        have Hnw := Lib.hid hnw
        have Hba := Lib.hid hba
        have Hbl := Lib.hid hbl
        have Hew := Lib.hid ew
        have Hp0 := Lib.hid (fun wx (hb : Below wr.heap.size wr wx) => (hb.cell (p := ⟨b1, o1 + m * 5, none⟩) hz1).trans hp0)
        clear hba hbl ew hnw
        have hpos : (0 : Int) < ((m + 1 : Nat) : Int) := by omega
        cases g : entOk ⟨num, name, maker, year, words⟩ with
        | false =>
          have hf := Lib.hid (Hbad.out (Hn.out g))
          rw [g] at HV
          clear Hbad Hst Hn g H0
          go_wp2_with fail
          obtain ⟨f0, f1, f2, f3, f4, _⟩ := blk5 Hnw.out
          have hacc : Below wr.heap.size wr (wr.alloc (.cells #[.int .i64 num, .string name, .string maker, .int .i64 year, .slice A3 words.length c3] 92)).drew := Hba.out.drew
          generalize wr.alloc (.cells #[.int .i64 num, .string name, .string maker, .int .i64 year, .slice A3 words.length c3] 92) = wn at *
          refine wp_region_noPanic ?_
          refine wp_region_held_drew (S := fun w' => w'.cell? ⟨wr.heap.size, 0, none⟩ = some (.int .i64 num) ∧ w'.cell? ⟨wr.heap.size, 1, none⟩ = some (.string name) ∧ w'.cell? ⟨wr.heap.size, 2, none⟩ = some (.string maker) ∧ w'.cell? ⟨wr.heap.size, 3, none⟩ = some (.int .i64 year) ∧ w'.cell? ⟨wr.heap.size, 4, none⟩ = some (.slice A3 words.length c3)) (by kernel_rfl) (by (try dsimp only); first | go_keep | assumption) (fun hHeld => ?_)
          refine take_d (i := 0) (d := some 12) (v := ?_) rfl rfl (by kernel_rfl) (by kernel_rfl) (by kernel_rfl) (fun _ _ _ h => h) (Or.inl ⟨by rfl, ?_⟩) (by assumption) ?_
          rotate_left
          · (intro w hSw; (try dsimp only at hSw); go_simp; (try (with_reducible rfl)))
          simp only [Act.put, List.setIfInBounds_toArray, List.set_cons_zero, List.set_cons_succ]
          refine call_d (i := 1) (d := some 13) rfl rfl (by kernel_rfl) (fun K hK => ?_)
          go_simp
          (go_at_call 104; ((with_reducible refine (HV.out _ (Hew.out.below (hacc.mono hzB)) (Nat.le_trans hzB hacc.size)).mono ?_)); rintro e wq ⟨rfl, hbq⟩; have hSq := five_at ((hbq.block _ hlw).trans Hnw.out); have hacc' := hacc.trans (hbq.mono hacc.size); clear hacc; have hacc := hacc'; clear hacc')
          (try (go_wp2_with fail))
          refine hK.out _ _ (hSq) (fun hHeld => ?_)
          clear hK K
          (try simp only [Act.put, List.setIfInBounds_toArray, List.set_cons_zero, List.set_cons_succ])
          refine take_d (i := 2) (d := some 14) (v := ?_) rfl rfl (by kernel_rfl) (by kernel_rfl) (by kernel_rfl) (fun _ _ _ h => h) (Or.inl ⟨by rfl, ?_⟩) (by assumption) ?_
          rotate_left
          · (intro w hSw; (try dsimp only at hSw); go_simp; (try (with_reducible rfl)))
          simp only [Act.put, List.setIfInBounds_toArray, List.set_cons_zero, List.set_cons_succ]
          refine take_d (i := 3) (d := some 15) (v := ?_) rfl rfl (by kernel_rfl) (by kernel_rfl) (by kernel_rfl) (fun _ _ _ h => h) (Or.inl ⟨by rfl, ?_⟩) (by assumption) ?_
          rotate_left
          · (intro w hSw; (try dsimp only at hSw); go_simp; (try (with_reducible rfl)))
          simp only [Act.put, List.setIfInBounds_toArray, List.set_cons_zero, List.set_cons_succ]
          refine take_d (i := 4) (d := some 16) (v := undef) rfl rfl (by kernel_rfl) (by kernel_rfl) (by kernel_rfl) (fun _ _ _ h => h) (Or.inr ⟨by rfl, rfl⟩) (by assumption) ?_
          simp only [Act.put, List.setIfInBounds_toArray, List.set_cons_zero, List.set_cons_succ]
          refine take_d (i := 5) (d := some 17) (v := undef) rfl rfl (by kernel_rfl) (by kernel_rfl) (by kernel_rfl) (fun _ _ _ h => h) (Or.inr ⟨by rfl, rfl⟩) (by assumption) ?_
          simp only [Act.put, List.setIfInBounds_toArray, List.set_cons_zero, List.set_cons_succ]
          refine take_d (i := 6) (d := some 18) (v := undef) rfl rfl (by kernel_rfl) (by kernel_rfl) (by kernel_rfl) (fun _ _ _ h => h) (Or.inr ⟨by rfl, rfl⟩) (by assumption) ?_
          simp only [Act.put, List.setIfInBounds_toArray, List.set_cons_zero, List.set_cons_succ]
          refine take_d (i := 7) (d := some 19) (v := undef) rfl rfl (by kernel_rfl) (by kernel_rfl) (by kernel_rfl) (fun _ _ _ h => h) (Or.inr ⟨by rfl, rfl⟩) (by assumption) ?_
          simp only [Act.put, List.setIfInBounds_toArray, List.set_cons_zero, List.set_cons_succ]
          refine take_d (i := 8) (d := some 20) (v := undef) rfl rfl (by kernel_rfl) (by kernel_rfl) (by kernel_rfl) (fun _ _ _ h => h) (Or.inr ⟨by rfl, rfl⟩) (by assumption) ?_
          simp only [Act.put, List.setIfInBounds_toArray, List.set_cons_zero, List.set_cons_succ]
          refine take_d (i := 9) (d := some 21) (v := undef) rfl rfl (by kernel_rfl) (by kernel_rfl) (by kernel_rfl) (fun _ _ _ h => h) (Or.inr ⟨by rfl, rfl⟩) (by assumption) ?_
          simp only [Act.put, List.setIfInBounds_toArray, List.set_cons_zero, List.set_cons_succ]
          refine take_d (i := 10) (d := some 22) (v := undef) rfl rfl (by kernel_rfl) (by kernel_rfl) (by kernel_rfl) (fun _ _ _ h => h) (Or.inr ⟨by rfl, rfl⟩) (by assumption) ?_
          simp only [Act.put, List.setIfInBounds_toArray, List.set_cons_zero, List.set_cons_succ]
          refine take_d (i := 11) (d := some 23) (v := undef) rfl rfl (by kernel_rfl) (by kernel_rfl) (by kernel_rfl) (fun _ _ _ h => h) (Or.inr ⟨by rfl, rfl⟩) (by assumption) ?_
          simp only [Act.put, List.setIfInBounds_toArray, List.set_cons_zero, List.set_cons_succ]
          refine take_d (i := 12) (d := some 24) (v := undef) rfl rfl (by kernel_rfl) (by kernel_rfl) (by kernel_rfl) (fun _ _ _ h => h) (Or.inr ⟨by rfl, rfl⟩) (by assumption) ?_
          simp only [Act.put, List.setIfInBounds_toArray, List.set_cons_zero, List.set_cons_succ]
          refine take_d (i := 13) (d := some 25) (v := undef) rfl rfl (by kernel_rfl) (by kernel_rfl) (by kernel_rfl) (fun _ _ _ h => h) (Or.inr ⟨by rfl, rfl⟩) (by assumption) ?_
          simp only [Act.put, List.setIfInBounds_toArray, List.set_cons_zero, List.set_cons_succ]
          refine take_d (i := 14) (d := some 26) (v := undef) rfl rfl (by kernel_rfl) (by kernel_rfl) (by kernel_rfl) (fun _ _ _ h => h) (Or.inr ⟨by rfl, rfl⟩) (by assumption) ?_
          simp only [Act.put, List.setIfInBounds_toArray, List.set_cons_zero, List.set_cons_succ]
          refine take_d (i := 15) (d := some 27) (v := undef) rfl rfl (by kernel_rfl) (by kernel_rfl) (by kernel_rfl) (fun _ _ _ h => h) (Or.inr ⟨by rfl, rfl⟩) (by assumption) ?_
          simp only [Act.put, List.setIfInBounds_toArray, List.set_cons_zero, List.set_cons_succ]
          refine take_d (i := 16) (d := some 28) (v := undef) rfl rfl (by kernel_rfl) (by kernel_rfl) (by kernel_rfl) (fun _ _ _ h => h) (Or.inr ⟨by rfl, rfl⟩) (by assumption) ?_
          simp only [Act.put, List.setIfInBounds_toArray, List.set_cons_zero, List.set_cons_succ]
          refine take_d (i := 17) (d := some 29) (v := ?_) rfl rfl (by kernel_rfl) (by kernel_rfl) (by kernel_rfl) (fun _ _ _ h => h) (Or.inl ⟨by rfl, ?_⟩) (by assumption) ?_
          rotate_left
          · (intro w hSw; (try dsimp only at hSw); go_simp; (try (with_reducible rfl)))
          simp only [Act.put, List.setIfInBounds_toArray, List.set_cons_zero, List.set_cons_succ]
          refine wpAnyH_done (by kernel_rfl) ?_ _
          refine NoPanic.normal ?_
          go_wp2_with fail
          go_ret
          rw [hf.out]; exact ⟨rfl, Hbl.out.trans (hacc.mono Hbl.out.size)⟩
        | true =>
          rw [g] at HV
          have h1 := H0.out g
          rcases Decidable.em (pn < num) with gl | gl
          · have hst := Lib.hid (Hst.out (h1.trans (decide_eq_true gl)))
            clear Hbad Hst Hn g H0 h1
            go_wp2_with fail
            obtain ⟨f0, f1, f2, f3, f4, _⟩ := blk5 Hnw.out
            have hacc : Below wr.heap.size wr (wr.alloc (.cells #[.int .i64 num, .string name, .string maker, .int .i64 year, .slice A3 words.length c3] 92)).drew := Hba.out.drew
            have hp1 := Hp0.out _ Hba.out
            generalize wr.alloc (.cells #[.int .i64 num, .string name, .string maker, .int .i64 year, .slice A3 words.length c3] 92) = wn at *
            have hm2 : (m : Int) < (xs.length : Int) := by omega
            have hm1 : IntKind.i64.wrap (m : Int) = (m : Int) := IntWalk.i64_in _ (by omega)
            refine wp_region_noPanic ?_
            refine wp_region_held_drew (S := fun w' => w'.cell? ⟨wr.heap.size, 0, none⟩ = some (.int .i64 num) ∧ w'.cell? ⟨wr.heap.size, 1, none⟩ = some (.string name) ∧ w'.cell? ⟨wr.heap.size, 2, none⟩ = some (.string maker) ∧ w'.cell? ⟨wr.heap.size, 3, none⟩ = some (.int .i64 year) ∧ w'.cell? ⟨wr.heap.size, 4, none⟩ = some (.slice A3 words.length c3) ∧ w'.cell? ⟨b1, o1 + m * 5, none⟩ = some (.int .i64 pn)) (by kernel_rfl) (by (try dsimp only); first | go_keep | assumption) (fun hHeld => ?_)
            refine take_d (i := 0) (d := some 12) (v := ?_) rfl rfl (by kernel_rfl) (by kernel_rfl) (by kernel_rfl) (fun _ _ _ h => h) (Or.inl ⟨by rfl, ?_⟩) (by assumption) ?_
            rotate_left
            · (intro w hSw; (try dsimp only at hSw); go_simp; (try (with_reducible rfl)))
            simp only [Act.put, List.setIfInBounds_toArray, List.set_cons_zero, List.set_cons_succ]
            refine call_d (i := 1) (d := some 13) rfl rfl (by kernel_rfl) (fun K hK => ?_)
            go_simp
            (go_at_call 104; ((with_reducible refine (HV.out _ (Hew.out.below (hacc.mono hzB)) (Nat.le_trans hzB hacc.size)).mono ?_)); rintro e wq ⟨rfl, hbq⟩; have hacc' := hacc.trans (hbq.mono hacc.size); have hSq := six_at ((hbq.block _ hlw).trans Hnw.out) (Hp0.out _ hacc'); clear hacc; have hacc := hacc'; clear hacc')
            (try (go_wp2_with fail))
            refine hK.out _ _ (hSq) (fun hHeld => ?_)
            clear hK K
            (try simp only [Act.put, List.setIfInBounds_toArray, List.set_cons_zero, List.set_cons_succ])
            refine take_d (i := 2) (d := some 14) (v := ?_) rfl rfl (by kernel_rfl) (by kernel_rfl) (by kernel_rfl) (fun _ _ _ h => h) (Or.inl ⟨by rfl, ?_⟩) (by assumption) ?_
            rotate_left
            · (intro w hSw; (try dsimp only at hSw); go_simp; (try (with_reducible rfl)))
            simp only [Act.put, List.setIfInBounds_toArray, List.set_cons_zero, List.set_cons_succ]
            refine take_d (i := 3) (d := some 15) (v := ?_) rfl rfl (by kernel_rfl) (by kernel_rfl) (by kernel_rfl) (fun _ _ _ h => h) (Or.inl ⟨by rfl, ?_⟩) (by assumption) ?_
            rotate_left
            · (intro w hSw; (try dsimp only at hSw); go_simp; (try (with_reducible rfl)))
            simp only [Act.put, List.setIfInBounds_toArray, List.set_cons_zero, List.set_cons_succ]
            refine take_d (i := 4) (d := some 16) (v := ?_) rfl rfl (by kernel_rfl) (by kernel_rfl) (by kernel_rfl) (fun _ _ _ h => h) (Or.inl ⟨by rfl, ?_⟩) (by assumption) ?_
            rotate_left
            · (intro w hSw; (try dsimp only at hSw); go_simp; (try (with_reducible rfl)))
            simp only [Act.put, List.setIfInBounds_toArray, List.set_cons_zero, List.set_cons_succ]
            refine take_d (i := 5) (d := some 17) (v := ?_) rfl rfl (by kernel_rfl) (by kernel_rfl) (by kernel_rfl) (fun _ _ _ h => h) (Or.inl ⟨by rfl, ?_⟩) (by assumption) ?_
            rotate_left
            · (intro w hSw; (try dsimp only at hSw); go_simp; (try (with_reducible rfl)))
            simp only [Act.put, List.setIfInBounds_toArray, List.set_cons_zero, List.set_cons_succ]
            refine take_d (i := 6) (d := some 18) (v := ?_) rfl rfl (by kernel_rfl) (by kernel_rfl) (by kernel_rfl) (fun _ _ _ h => h) (Or.inl ⟨by rfl, ?_⟩) (by assumption) ?_
            rotate_left
            · (intro w hSw; (try dsimp only at hSw); go_simp; (try (with_reducible rfl)))
            simp only [Act.put, List.setIfInBounds_toArray, List.set_cons_zero, List.set_cons_succ]
            refine take_d (i := 7) (d := some 19) (v := ?_) rfl rfl (by kernel_rfl) (by kernel_rfl) (by kernel_rfl) (fun _ _ _ h => h) (Or.inl ⟨by rfl, ?_⟩) (by assumption) ?_
            rotate_left
            · (intro w hSw; (try dsimp only at hSw); go_simp; (try (with_reducible rfl)))
            simp only [Act.put, List.setIfInBounds_toArray, List.set_cons_zero, List.set_cons_succ]
            refine take_d (i := 8) (d := some 20) (v := ?_) rfl rfl (by kernel_rfl) (by kernel_rfl) (by kernel_rfl) (fun _ _ _ h => h) (Or.inl ⟨by rfl, ?_⟩) (by assumption) ?_
            rotate_left
            · (intro w hSw; (try dsimp only at hSw); go_simp; (try (with_reducible rfl)))
            simp only [Act.put, List.setIfInBounds_toArray, List.set_cons_zero, List.set_cons_succ]
            refine take_d (i := 9) (d := some 21) (v := ?_) rfl rfl (by kernel_rfl) (by kernel_rfl) (by kernel_rfl) (fun _ _ _ h => h) (Or.inl ⟨by rfl, ?_⟩) (by assumption) ?_
            rotate_left
            · (intro w hSw; (try dsimp only at hSw); go_simp; (try (with_reducible rfl)))
            simp only [Act.put, List.setIfInBounds_toArray, List.set_cons_zero, List.set_cons_succ]
            refine take_d (i := 10) (d := some 22) (v := ?_) rfl rfl (by kernel_rfl) (by kernel_rfl) (by kernel_rfl) (fun _ _ _ h => h) (Or.inl ⟨by rfl, ?_⟩) (by assumption) ?_
            rotate_left
            · (intro w hSw; (try dsimp only at hSw); go_simp; (try (with_reducible rfl)))
            simp only [Act.put, List.setIfInBounds_toArray, List.set_cons_zero, List.set_cons_succ]
            refine take_d (i := 11) (d := some 23) (v := ?_) rfl rfl (by kernel_rfl) (by kernel_rfl) (by kernel_rfl) (fun _ _ _ h => h) (Or.inl ⟨by rfl, ?_⟩) (by assumption) ?_
            rotate_left
            · (intro w hSw; (try dsimp only at hSw); go_simp; (try (with_reducible rfl)))
            simp only [Act.put, List.setIfInBounds_toArray, List.set_cons_zero, List.set_cons_succ]
            refine take_d (i := 12) (d := some 24) (v := ?_) rfl rfl (by kernel_rfl) (by kernel_rfl) (by kernel_rfl) (fun _ _ _ h => h) (Or.inl ⟨by rfl, ?_⟩) (by assumption) ?_
            rotate_left
            · (intro w hSw; (try dsimp only at hSw); go_simp; (try (with_reducible rfl)))
            simp only [Act.put, List.setIfInBounds_toArray, List.set_cons_zero, List.set_cons_succ]
            refine take_d (i := 13) (d := some 25) (v := ?_) rfl rfl (by kernel_rfl) (by kernel_rfl) (by kernel_rfl) (fun _ _ _ h => h) (Or.inl ⟨by rfl, ?_⟩) (by assumption) ?_
            rotate_left
            · (intro w hSw; (try dsimp only at hSw); go_simp; (try (with_reducible rfl)))
            simp only [Act.put, List.setIfInBounds_toArray, List.set_cons_zero, List.set_cons_succ]
            refine take_d (i := 14) (d := some 26) (v := ?_) rfl rfl (by kernel_rfl) (by kernel_rfl) (by kernel_rfl) (fun _ _ _ h => h) (Or.inl ⟨by rfl, ?_⟩) (by assumption) ?_
            rotate_left
            · (intro w hSw; (try dsimp only at hSw); go_simp; (try (with_reducible rfl)))
            simp only [Act.put, List.setIfInBounds_toArray, List.set_cons_zero, List.set_cons_succ]
            refine take_d (i := 15) (d := some 27) (v := ?_) rfl rfl (by kernel_rfl) (by kernel_rfl) (by kernel_rfl) (fun _ _ _ h => h) (Or.inl ⟨by rfl, ?_⟩) (by assumption) ?_
            rotate_left
            · (intro w hSw; (try dsimp only at hSw); go_simp; (try (with_reducible rfl)))
            simp only [Act.put, List.setIfInBounds_toArray, List.set_cons_zero, List.set_cons_succ]
            refine take_d (i := 16) (d := some 28) (v := ?_) rfl rfl (by kernel_rfl) (by kernel_rfl) (by kernel_rfl) (fun _ _ _ h => h) (Or.inl ⟨by rfl, ?_⟩) (by assumption) ?_
            rotate_left
            · (intro w hSw; (try dsimp only at hSw); go_simp; (try (with_reducible rfl)))
            simp only [Act.put, List.setIfInBounds_toArray, List.set_cons_zero, List.set_cons_succ]
            refine take_d (i := 17) (d := some 29) (v := ?_) rfl rfl (by kernel_rfl) (by kernel_rfl) (by kernel_rfl) (fun _ _ _ h => h) (Or.inl ⟨by rfl, ?_⟩) (by assumption) ?_
            rotate_left
            · (intro w hSw; (try dsimp only at hSw); go_simp; (try (with_reducible rfl)))
            simp only [Act.put, List.setIfInBounds_toArray, List.set_cons_zero, List.set_cons_succ]
            refine wpAnyH_done (by kernel_rfl) ?_ _
            refine NoPanic.normal ?_
            clear hm1
            go_wp2_with fail
            go_roundw
            case rel => exact ⟨m + 1 + 1, by omega, hst.out, by go_num, Hbl.out.trans (hacc.mono Hbl.out.size)⟩
            case measure => simp [intOf]; omega
          · have hf := Lib.hid (Hbad.out (h1.trans (decide_eq_false gl)))
            have gl' : num ≤ pn := by omega
            clear Hbad Hst Hn g H0 h1 gl
            go_wp2_with fail
            obtain ⟨f0, f1, f2, f3, f4, _⟩ := blk5 Hnw.out
            have hacc : Below wr.heap.size wr (wr.alloc (.cells #[.int .i64 num, .string name, .string maker, .int .i64 year, .slice A3 words.length c3] 92)).drew := Hba.out.drew
            have hp1 := Hp0.out _ Hba.out
            generalize wr.alloc (.cells #[.int .i64 num, .string name, .string maker, .int .i64 year, .slice A3 words.length c3] 92) = wn at *
            have hm2 : (m : Int) < (xs.length : Int) := by omega
            have hm1 : IntKind.i64.wrap (m : Int) = (m : Int) := IntWalk.i64_in _ (by omega)
            refine wp_region_noPanic ?_
            refine wp_region_held_drew (S := fun w' => w'.cell? ⟨wr.heap.size, 0, none⟩ = some (.int .i64 num) ∧ w'.cell? ⟨wr.heap.size, 1, none⟩ = some (.string name) ∧ w'.cell? ⟨wr.heap.size, 2, none⟩ = some (.string maker) ∧ w'.cell? ⟨wr.heap.size, 3, none⟩ = some (.int .i64 year) ∧ w'.cell? ⟨wr.heap.size, 4, none⟩ = some (.slice A3 words.length c3) ∧ w'.cell? ⟨b1, o1 + m * 5, none⟩ = some (.int .i64 pn)) (by kernel_rfl) (by (try dsimp only); first | go_keep | assumption) (fun hHeld => ?_)
            refine take_d (i := 0) (d := some 12) (v := ?_) rfl rfl (by kernel_rfl) (by kernel_rfl) (by kernel_rfl) (fun _ _ _ h => h) (Or.inl ⟨by rfl, ?_⟩) (by assumption) ?_
            rotate_left
            · (intro w hSw; (try dsimp only at hSw); go_simp; (try (with_reducible rfl)))
            simp only [Act.put, List.setIfInBounds_toArray, List.set_cons_zero, List.set_cons_succ]
            refine call_d (i := 1) (d := some 13) rfl rfl (by kernel_rfl) (fun K hK => ?_)
            go_simp
            (go_at_call 104; ((with_reducible refine (HV.out _ (Hew.out.below (hacc.mono hzB)) (Nat.le_trans hzB hacc.size)).mono ?_)); rintro e wq ⟨rfl, hbq⟩; have hacc' := hacc.trans (hbq.mono hacc.size); have hSq := six_at ((hbq.block _ hlw).trans Hnw.out) (Hp0.out _ hacc'); clear hacc; have hacc := hacc'; clear hacc')
            (try (go_wp2_with fail))
            refine hK.out _ _ (hSq) (fun hHeld => ?_)
            clear hK K
            (try simp only [Act.put, List.setIfInBounds_toArray, List.set_cons_zero, List.set_cons_succ])
            refine take_d (i := 2) (d := some 14) (v := ?_) rfl rfl (by kernel_rfl) (by kernel_rfl) (by kernel_rfl) (fun _ _ _ h => h) (Or.inl ⟨by rfl, ?_⟩) (by assumption) ?_
            rotate_left
            · (intro w hSw; (try dsimp only at hSw); go_simp; (try (with_reducible rfl)))
            simp only [Act.put, List.setIfInBounds_toArray, List.set_cons_zero, List.set_cons_succ]
            refine take_d (i := 3) (d := some 15) (v := ?_) rfl rfl (by kernel_rfl) (by kernel_rfl) (by kernel_rfl) (fun _ _ _ h => h) (Or.inl ⟨by rfl, ?_⟩) (by assumption) ?_
            rotate_left
            · (intro w hSw; (try dsimp only at hSw); go_simp; (try (with_reducible rfl)))
            simp only [Act.put, List.setIfInBounds_toArray, List.set_cons_zero, List.set_cons_succ]
            refine take_d (i := 4) (d := some 16) (v := ?_) rfl rfl (by kernel_rfl) (by kernel_rfl) (by kernel_rfl) (fun _ _ _ h => h) (Or.inl ⟨by rfl, ?_⟩) (by assumption) ?_
            rotate_left
            · (intro w hSw; (try dsimp only at hSw); go_simp; (try (with_reducible rfl)))
            simp only [Act.put, List.setIfInBounds_toArray, List.set_cons_zero, List.set_cons_succ]
            refine take_d (i := 5) (d := some 17) (v := ?_) rfl rfl (by kernel_rfl) (by kernel_rfl) (by kernel_rfl) (fun _ _ _ h => h) (Or.inl ⟨by rfl, ?_⟩) (by assumption) ?_
            rotate_left
            · (intro w hSw; (try dsimp only at hSw); go_simp; (try (with_reducible rfl)))
            simp only [Act.put, List.setIfInBounds_toArray, List.set_cons_zero, List.set_cons_succ]
            refine take_d (i := 6) (d := some 18) (v := ?_) rfl rfl (by kernel_rfl) (by kernel_rfl) (by kernel_rfl) (fun _ _ _ h => h) (Or.inl ⟨by rfl, ?_⟩) (by assumption) ?_
            rotate_left
            · (intro w hSw; (try dsimp only at hSw); go_simp; (try (with_reducible rfl)))
            simp only [Act.put, List.setIfInBounds_toArray, List.set_cons_zero, List.set_cons_succ]
            refine take_d (i := 7) (d := some 19) (v := ?_) rfl rfl (by kernel_rfl) (by kernel_rfl) (by kernel_rfl) (fun _ _ _ h => h) (Or.inl ⟨by rfl, ?_⟩) (by assumption) ?_
            rotate_left
            · (intro w hSw; (try dsimp only at hSw); go_simp; (try (with_reducible rfl)))
            simp only [Act.put, List.setIfInBounds_toArray, List.set_cons_zero, List.set_cons_succ]
            refine take_d (i := 8) (d := some 20) (v := ?_) rfl rfl (by kernel_rfl) (by kernel_rfl) (by kernel_rfl) (fun _ _ _ h => h) (Or.inl ⟨by rfl, ?_⟩) (by assumption) ?_
            rotate_left
            · (intro w hSw; (try dsimp only at hSw); go_simp; (try (with_reducible rfl)))
            simp only [Act.put, List.setIfInBounds_toArray, List.set_cons_zero, List.set_cons_succ]
            refine take_d (i := 9) (d := some 21) (v := ?_) rfl rfl (by kernel_rfl) (by kernel_rfl) (by kernel_rfl) (fun _ _ _ h => h) (Or.inl ⟨by rfl, ?_⟩) (by assumption) ?_
            rotate_left
            · (intro w hSw; (try dsimp only at hSw); go_simp; (try (with_reducible rfl)))
            simp only [Act.put, List.setIfInBounds_toArray, List.set_cons_zero, List.set_cons_succ]
            refine take_d (i := 10) (d := some 22) (v := ?_) rfl rfl (by kernel_rfl) (by kernel_rfl) (by kernel_rfl) (fun _ _ _ h => h) (Or.inl ⟨by rfl, ?_⟩) (by assumption) ?_
            rotate_left
            · (intro w hSw; (try dsimp only at hSw); go_simp; (try (with_reducible rfl)))
            simp only [Act.put, List.setIfInBounds_toArray, List.set_cons_zero, List.set_cons_succ]
            refine take_d (i := 11) (d := some 23) (v := ?_) rfl rfl (by kernel_rfl) (by kernel_rfl) (by kernel_rfl) (fun _ _ _ h => h) (Or.inl ⟨by rfl, ?_⟩) (by assumption) ?_
            rotate_left
            · (intro w hSw; (try dsimp only at hSw); go_simp; (try (with_reducible rfl)))
            simp only [Act.put, List.setIfInBounds_toArray, List.set_cons_zero, List.set_cons_succ]
            refine take_d (i := 12) (d := some 24) (v := ?_) rfl rfl (by kernel_rfl) (by kernel_rfl) (by kernel_rfl) (fun _ _ _ h => h) (Or.inl ⟨by rfl, ?_⟩) (by assumption) ?_
            rotate_left
            · (intro w hSw; (try dsimp only at hSw); go_simp; (try (with_reducible rfl)))
            simp only [Act.put, List.setIfInBounds_toArray, List.set_cons_zero, List.set_cons_succ]
            refine take_d (i := 13) (d := some 25) (v := ?_) rfl rfl (by kernel_rfl) (by kernel_rfl) (by kernel_rfl) (fun _ _ _ h => h) (Or.inl ⟨by rfl, ?_⟩) (by assumption) ?_
            rotate_left
            · (intro w hSw; (try dsimp only at hSw); go_simp; (try (with_reducible rfl)))
            simp only [Act.put, List.setIfInBounds_toArray, List.set_cons_zero, List.set_cons_succ]
            refine take_d (i := 14) (d := some 26) (v := ?_) rfl rfl (by kernel_rfl) (by kernel_rfl) (by kernel_rfl) (fun _ _ _ h => h) (Or.inl ⟨by rfl, ?_⟩) (by assumption) ?_
            rotate_left
            · (intro w hSw; (try dsimp only at hSw); go_simp; (try (with_reducible rfl)))
            simp only [Act.put, List.setIfInBounds_toArray, List.set_cons_zero, List.set_cons_succ]
            refine take_d (i := 15) (d := some 27) (v := ?_) rfl rfl (by kernel_rfl) (by kernel_rfl) (by kernel_rfl) (fun _ _ _ h => h) (Or.inl ⟨by rfl, ?_⟩) (by assumption) ?_
            rotate_left
            · (intro w hSw; (try dsimp only at hSw); go_simp; (try (with_reducible rfl)))
            simp only [Act.put, List.setIfInBounds_toArray, List.set_cons_zero, List.set_cons_succ]
            refine take_d (i := 16) (d := some 28) (v := ?_) rfl rfl (by kernel_rfl) (by kernel_rfl) (by kernel_rfl) (fun _ _ _ h => h) (Or.inl ⟨by rfl, ?_⟩) (by assumption) ?_
            rotate_left
            · (intro w hSw; (try dsimp only at hSw); go_simp; (try (with_reducible rfl)))
            simp only [Act.put, List.setIfInBounds_toArray, List.set_cons_zero, List.set_cons_succ]
            refine take_d (i := 17) (d := some 29) (v := ?_) rfl rfl (by kernel_rfl) (by kernel_rfl) (by kernel_rfl) (fun _ _ _ h => h) (Or.inl ⟨by rfl, ?_⟩) (by assumption) ?_
            rotate_left
            · (intro w hSw; (try dsimp only at hSw); go_simp; (try (with_reducible rfl)))
            simp only [Act.put, List.setIfInBounds_toArray, List.set_cons_zero, List.set_cons_succ]
            refine wpAnyH_done (by kernel_rfl) ?_ _
            refine NoPanic.normal ?_
            clear hm1
            go_wp2_with fail
            go_ret
            rw [hf.out]; exact ⟨rfl, Hbl.out.trans (hacc.mono Hbl.out.size)⟩
    · have hc : chk xs.length (placeOk xs) = true := by rw [show xs.length = k by omega]; exact Hall.out
      have hf := Lib.hid (show entsOk xs = decide (xs.length ≤ 50) by unfold entsOk; rw [hc]; rfl)
      have hlt' : (xs.length : Int) ≤ (k : Int) := by omega
      clear hc
      go_wp2_with fail
      go_ret
      rw [hf.out]; exact ⟨by simp; omega, hbl⟩
end Go.Proofs.Ytmheijnckmlbnaa
/- Entries, part 5: the reading of an argument; the law FnExactSameEntries. -/
namespace Go.Proofs.Ytmheijnckmlbnaa
open Go.ChangeShapes Go.WideShapes Go.ChangeAt Go.RowKit

section
variable {H : Type} {enc : TypeId × Value → H} {P : Program} {W : World}
theorem rd_strs_cells {T E : Nat} {fuel : Nat} {cs : List Value} {x : DataW H × List MemPlace} (hT : P.underlying T = some (.slice E)) (hE : P.underlying E = some .string) (hC : P.cellsOf E = 1)
    (hf : DataW.trod enc P W 0 (fun _ => true) true fuel T cs = some x) :
    ∃ (v : Value) (zs : List ByteArray), cs = [v] ∧ Rd W W.heap.size v zs.length 1 (Proofs.Ytmheijnckmlbnaa.strs zs) ∧ zs.length ≤ maxLen ∧ ∀ z ∈ zs, z.size ≤ maxLen := by
  rcases open_strings hT hE hC hf with ⟨rfl, hx⟩ | ⟨a, len, cap, zs, rfl, _, hl, hm, hz, hx, hcell, hwz⟩
  · exact ⟨_, [], rfl, ⟨rfl, none, 0, rfl, fun h => by simp at h⟩, by simp [maxLen], by simp⟩
  · have hz' : zs.length = cap := by simpa using hz
    have hlen : (zs.take len).length = len := by rw [List.length_take]; omega
    refine ⟨_, zs.take len, rfl, ?_, by rw [hlen]; omega, fun z hzz => hwz z (List.mem_of_mem_take hzz)⟩
    rw [hlen]
    refine ⟨by simp [Proofs.Ytmheijnckmlbnaa.strs]; omega, some a, cap, rfl, fun hn => ?_⟩
    have h0 := hcell 0 (by omega)
    obtain ⟨b, off, spot⟩ := a
    have hspot : spot = none := by simpa [Addr.add] using World.cell?_spot h0
    subst hspot
    have hc : ∀ j, j < zs.length → W.cell? ⟨b, off + j, none⟩ = some (.string (zs.getD j ByteArray.empty)) := fun j hj => by rw [← Go.WideShapes.add_plain]; exact hcell j hj
    refine ⟨b, off, rfl, World.block_lt_of_cell? W _ (hc 0 (by omega)), fun i u hu => ?_⟩
    have hi : i < len := by
      have := (List.getElem?_eq_some_iff.1 hu).1
      simp [Proofs.Ytmheijnckmlbnaa.strs] at this; omega
    rw [hc i (by omega), ← hu]
    simp [Proofs.Ytmheijnckmlbnaa.strs, hi, List.getD, (show i < zs.length by omega)]
end

set_option maxRecDepth 100000 in
theorem elem_entry {H : Type} {enc : TypeId × Value → H} {W : World} (n : Nat) (cs : List Value) (y : DataW H × List MemPlace) (h : DataW.trod enc Try.prog W 0 (fun _ => true) true n 90 cs = some y) :
    ∃ x : Ent × Value, cs = cellsE x ∧ RdW W W.heap.size x ∧ lenE x.1 := by
  obtain ⟨xs, m, _, _, hl, hlen, hf⟩ := DataW.trod_struct Try.underlying90 h
  have hC : Try.prog.cellsOf 90 = 5 := by kernel_rfl
  rw [hC] at hl
  match cs, hl, xs, hlen with
  | [a0, a1, a2, a3, a4], _, [y0, y1, y2, y3, y4], _ =>
    have c1 : Try.prog.cellsOf 2 = 1 := by kernel_rfl
    have c2 : Try.prog.cellsOf 9 = 1 := by kernel_rfl
    have c3 : Try.prog.cellsOf 84 = 1 := by kernel_rfl
    have h0 := hf 0 _ rfl
    change DataW.trod enc Try.prog W 0 (fun _ => true) true m 2 (([a0, a1, a2, a3, a4].drop 0).take (Try.prog.cellsOf 2)) = some y0 at h0
    rw [c1] at h0
    have h1 := hf 1 _ rfl
    change DataW.trod enc Try.prog W 0 (fun _ => true) true m 9 (([a0, a1, a2, a3, a4].drop 1).take (Try.prog.cellsOf 9)) = some y1 at h1
    rw [c2] at h1
    have h2 := hf 2 _ rfl
    change DataW.trod enc Try.prog W 0 (fun _ => true) true m 9 (([a0, a1, a2, a3, a4].drop 2).take (Try.prog.cellsOf 9)) = some y2 at h2
    rw [c2] at h2
    have h3 := hf 3 _ rfl
    change DataW.trod enc Try.prog W 0 (fun _ => true) true m 2 (([a0, a1, a2, a3, a4].drop 3).take (Try.prog.cellsOf 2)) = some y3 at h3
    rw [c1] at h3
    have h4 := hf 4 _ rfl
    change DataW.trod enc Try.prog W 0 (fun _ => true) true m 84 (([a0, a1, a2, a3, a4].drop 4).take (Try.prog.cellsOf 84)) = some y4 at h4
    rw [c3] at h4
    obtain ⟨num, q0, _, _⟩ := DataW.trod_int Try.underlying2 h0
    obtain ⟨name, q1, _, w1⟩ := DataW.trod_string Try.underlying9 h1
    obtain ⟨maker, q2, _, w2⟩ := DataW.trod_string Try.underlying9 h2
    obtain ⟨year, q3, _, _⟩ := DataW.trod_int Try.underlying2 h3
    obtain ⟨v, words, q4, hr, hl4, hw4⟩ := rd_strs_cells Try.underlying84 Try.underlying9 c2 h4
    simp at q0 q1 q2 q3 q4
    subst q0 q1 q2 q3 q4
    exact ⟨(⟨num, name, maker, year, words⟩, a4), rfl, hr, w1, w2, hl4, hw4⟩

set_option maxRecDepth 100000 in
theorem rd_entries {H : Type} {enc : TypeId × Value → H} {W : World} {base : Nat} {r : Reach} {v : Value} {d : DataW H} {p : List MemPlace} (ok : Value.okWide Try.prog W r base 45 v) (h : DataW.Trod enc Try.prog W 0 (fun _ => true) true 45 v d p) :
    ∃ xs : List Ent, RdE W W.heap.size v xs ∧ (xs.length ≤ maxLen ∧ ∀ x ∈ xs, lenE x) := by
  obtain ⟨ys, h1, h2, h3⟩ := rd_rows (P := Try.prog) cellsE (fun x => RdW W W.heap.size x ∧ lenE x.1) (sz := 5) Try.underlying45 (by kernel_rfl) (by omega) (fun _ => rfl) elem_entry ok h
  refine ⟨ys.map (·.1), ⟨ys, rfl, by simpa using h1, fun y hy => (h3 y hy).1⟩, by simpa using h2, fun x hx => ?_⟩
  obtain ⟨y, hy, rfl⟩ := List.mem_map.1 hx
  exact (h3 y hy).2

open Go.Joins
end Go.Proofs.Ytmheijnckmlbnaa
/- Entries, part 9: ValidEntries on the reference's side; the law. -/
namespace Go.Proofs.Ytmheijnckmlbnaa
open Go.RowKit Go.Joins

set_option maxRecDepth 100000 in
set_option maxHeartbeats 3200000 in
theorem l25Ok_any (B : Nat) (v : Value) (xs : List Ent) (w : World) (h : RdE w B v xs) (hl : xs.length ≤ 1048576) (hsm : ∀ x ∈ xs, smE x) :
    Calls Try.prog 67 #[v] w fun e w' => e = .returned (.bool (entsOk xs)) ∧ ∃ n, w' = w.drewN n := by
  have H := Lib.hid h
  have Hsm := Lib.hid hsm
  obtain ⟨A, c, rfl⟩ := h.slice
  clear h hsm
  go_enter Try.func67, Try.ntmps67
  go_wp2_with fail
  go_loopw [3] (fun i wr => ∃ k m0 : Nat, k ≤ xs.length ∧ chk k (placeOk xs) = true ∧ i = .int .i64 k ∧ wr = w.drewN m0) (fun i _ => xs.length - (intOf i).toNat)
  case atStart => exact ⟨0, 0, Nat.zero_le _, rfl, rfl, rfl⟩
  case round =>
    obtain ⟨k, m0, hk, hall, rfl, hwr⟩ := hrel
    have Hw := Lib.hid (fun n => (show wr.drewN n = w.drewN (m0 + n) by rw [hwr, World.drewN_drewN]))
    have Hw0 := Lib.hid hwr
    have Hall := Lib.hid hall; clear hall
    have Hr : Hid (RdE wr B (.slice A xs.length c) xs) := Lib.hid (by rw [hwr]; exact H.out.drewN m0)
    clear hwr
    by_cases hlt : k < xs.length
    · obtain ⟨b1, o1, A3, c3, hA, hE⟩ := Hr.out.at k hlt
      have HA := Lib.hid hA
      have hlt' : (k : Int) < (xs.length : Int) := by omega
      have Hbad := Lib.hid (fun h => ents_no (l := xs) k hlt h)
      have Hst := Lib.hid (fun h => chk_step (f := placeOk xs) (k := k) Hall.out h)
      have Hn := Lib.hid (fun h => place_no xs k hlt h)
      have hsx := Lib.hid (Hsm.out xs[k] (List.getElem_mem hlt))
      cases k with
      | zero =>
        have H0 := Lib.hid (fun h => place_0 xs hlt h)
        generalize xs[0] = x at *
        subst hA
        clear HA
        have HO := Lib.hid (fun n => l25One_any B b1 (o1 + 0 * 5) x A3 c3 (wr.drewN n) (hE.drewN n) hsx.out)
        rw [Nat.zero_mul, Nat.add_zero] at HO
        have e0 := hE.c0
        rw [Nat.zero_mul, Nat.add_zero] at e0
        clear hE
        generalize x.num = num at *
        cases g : entOk x with
        | false =>
          have hf := Lib.hid (Hbad.out (Hn.out g))
          rw [g] at HO
          clear Hbad Hst Hn g H0
          go_wp2_with fail
          go_quiet ((go_at_call 102; exact Calls.quiet_of (HO.out _)))
          go_wp2_with fail
          go_ret
          rw [hf.out]; exact ⟨rfl, _, Hw.out _⟩
        | true =>
          have hst := Lib.hid (Hst.out (H0.out g))
          rw [g] at HO
          clear Hbad Hst Hn g H0
          go_wp2_with fail
          go_quiet ((go_at_call 102; exact Calls.quiet_of (HO.out _)))
          go_wp2_with fail
          go_roundw
          case rel => exact ⟨1, _, by omega, hst.out, by go_num, Hw.out _⟩
          case measure => simp [intOf]; omega
      | succ m =>
        obtain ⟨b2, o2, A4, c4, hA', hE'⟩ := Hr.out.at m (by omega)
        rw [HA.out] at hA'
        obtain ⟨rfl, rfl⟩ : b1 = b2 ∧ o1 = o2 := by simpa using hA'
        have H0 := Lib.hid (fun h => place_s xs m hlt h)
        have hp0 := hE'.c0
        generalize xs[m + 1] = x at *
        generalize xs[m] = y at *
        generalize y.num = pn at *
        subst hA
        clear hA' HA hE'
        have HO := Lib.hid (fun n => l25One_any B b1 (o1 + (m + 1) * 5) x A3 c3 (wr.drewN n) (hE.drewN n) hsx.out)
        have e0 := hE.c0
        clear hE
        have hpos : (0 : Int) < ((m + 1 : Nat) : Int) := by omega
        cases g : entOk x with
        | false =>
          have hf := Lib.hid (Hbad.out (Hn.out g))
          rw [g] at HO
          clear Hbad Hst Hn g H0
          go_wp2_with fail
          go_quiet ((go_at_call 102; exact Calls.quiet_of (HO.out _)))
          go_wp2_with fail
          go_ret
          rw [hf.out]; exact ⟨rfl, _, Hw.out _⟩
        | true =>
          rw [g] at HO
          have h1 := H0.out g
          generalize x.num = num at *
          have hm2 : (m : Int) < (xs.length : Int) := by omega
          rcases Decidable.em (pn < num) with gl | gl
          · have hst := Lib.hid (Hst.out (h1.trans (decide_eq_true gl)))
            clear Hbad Hst Hn g H0 h1
            have hm1 : IntKind.i64.wrap (m : Int) = (m : Int) := IntWalk.i64_in _ (by omega)
            go_wp2_with fail
            go_quiet ((go_at_call 102; exact Calls.quiet_of (HO.out _)))
            clear hm1
            go_wp2_with fail
            go_roundw
            case rel => exact ⟨m + 1 + 1, _, by omega, hst.out, by go_num, Hw.out _⟩
            case measure => simp [intOf]; omega
          · have hf := Lib.hid (Hbad.out (h1.trans (decide_eq_false gl)))
            have gl' : num ≤ pn := by omega
            clear Hbad Hst Hn g H0 h1 gl
            have hm1 : IntKind.i64.wrap (m : Int) = (m : Int) := IntWalk.i64_in _ (by omega)
            go_wp2_with fail
            go_quiet ((go_at_call 102; exact Calls.quiet_of (HO.out _)))
            clear hm1
            go_wp2_with fail
            go_ret
            rw [hf.out]; exact ⟨rfl, _, Hw.out _⟩
    · have hc : chk xs.length (placeOk xs) = true := by rw [show xs.length = k by omega]; exact Hall.out
      have hf := Lib.hid (show entsOk xs = decide (xs.length ≤ 50) by unfold entsOk; rw [hc]; rfl)
      have hlt' : (xs.length : Int) ≤ (k : Int) := by omega
      clear hc
      go_wp2_with fail
      go_ret
      rw [hf.out]; exact ⟨by simp; omega, _, Hw0.out⟩

end Go.Proofs.Ytmheijnckmlbnaa
/- Similar entries, part 1: finding an entry, a word. -/
namespace Go.Proofs.Ytmheijnckmlbnaa
open Go.RowKit Go.Joins

def findN : List Ent → Int → Nat → Int
  | [], _, _ => -1
  | x :: l, m, k => if x.num = m then (k : Int) else findN l m (k + 1)
theorem findN_at (xs : List Ent) (m : Int) (k : Nat) (hk : k < xs.length) : findN (xs.drop k) m k = if xs[k].num = m then (k : Int) else findN (xs.drop (k + 1)) m (k + 1) := by
  rw [List.drop_eq_getElem_cons hk]; rfl
theorem findN_end (xs : List Ent) (m : Int) (k : Nat) (hk : xs.length ≤ k) : findN (xs.drop k) m k = -1 := by rw [List.drop_of_length_le hk]; rfl
theorem findN_bd (m : Int) : ∀ (xs : List Ent) (k : Nat), findN xs m k = -1 ∨ ∃ i, i < xs.length ∧ findN xs m k = ((k + i : Nat) : Int) := by
  intro xs
  induction xs with
  | nil => intro k; exact .inl rfl
  | cons x l ih =>
    intro k
    unfold findN
    split
    · exact .inr ⟨0, by simp, rfl⟩
    · rcases ih (k + 1) with h | ⟨i, h1, h2⟩
      · exact .inl h
      · exact .inr ⟨i + 1, by simp; omega, by rw [h2]; congr 1; omega⟩
def hasW : List ByteArray → ByteArray → Bool
  | [], _ => false
  | x :: l, s => if x = s then true else hasW l s
theorem hasW_at (ws : List ByteArray) (s : ByteArray) (k : Nat) (hk : k < ws.length) : hasW (ws.drop k) s = if ws[k] = s then true else hasW (ws.drop (k + 1)) s := by
  rw [List.drop_eq_getElem_cons hk]; rfl
theorem hasW_end (ws : List ByteArray) (s : ByteArray) (k : Nat) (hk : ws.length ≤ k) : hasW (ws.drop k) s = false := by rw [List.drop_of_length_le hk]; rfl

/-- the code of an asked number, and where it is -/
def askC (xs : List Ent) (m : Int) : Int := if entsOk xs = false then 1 else if findN xs m 0 < 0 then 3 else 0
def askI (xs : List Ent) (m : Int) : Int := if entsOk xs = false then 0 else if findN xs m 0 < 0 then 0 else findN xs m 0
end Go.Proofs.Ytmheijnckmlbnaa
/- Registers, part 1: the exact laws' helpers: szInt64S, szRegister, toInt64S, eqInt64S. -/
namespace Go.Proofs.Ytmheijnckmlbnaa
open Go.RowKit Go.Joins

def ints (l : List Int) : List Value := l.map (Value.int .i64)
theorem infoI : (Try.prog.info? 2).map (fun i => (i.zero, i.size, i.bytes)) = some (some (.int .i64 0), 1, 8) := by kernel_rfl
theorem ints_rd {w : World} {B n c : Nat} {A : Option Addr} {zs : List Int} (h : Rd w B (.slice A n c) zs.length 1 (ints zs)) (k : Nat) (hk : k < zs.length) :
    ∃ b off, A = some ⟨b, off, none⟩ ∧ w.cell? ⟨b, off + k, none⟩ = some (.int .i64 zs[k]) := by
  obtain ⟨_, A', c', hv, hc⟩ := h
  injection hv with e1 e2 e3
  subst e1
  obtain ⟨b, off, hA, _, hcc⟩ := hc (by omega)
  exact ⟨b, off, hA, hcc k _ (by simp [ints, hk])⟩

/-- what is left of the room -/
def leftI (left : Int) (n : Nat) : Int := if left - n < 0 then -1 else left - n
theorem leftI_bd (left : Int) (n : Nat) (h1 : left ≤ 1048576) : leftI left n ≤ 1048576 ∧ (0 ≤ leftI left n → (n : Int) ≤ left) ∧ (leftI left n < 0 → leftI left n = -1) := by
  unfold leftI
  split <;> omega

set_option maxHeartbeats 400000 in
theorem eqInt64S_same (B1 B2 : Nat) (v1 v2 : Value) (zs : List Int) (w : World) (h1 : Rd w B1 v1 zs.length 1 (ints zs)) (h2 : Rd w B2 v2 zs.length 1 (ints zs)) (hz : zs.length ≤ 4611686018427387904) :
    Calls Try.prog 27 #[v1, v2] w fun e w' => e = .returned (.bool true) ∧ ∃ n, w' = w.drewN n := by
  have h1' := h1
  have h2' := h2
  obtain ⟨_, A1, c1, rfl, _⟩ := h1'
  obtain ⟨_, A2, c2, rfl, _⟩ := h2'
  have H1 := Lib.hid h1; clear h1
  have H2 := Lib.hid h2; clear h2
  go_enter Try.func27, Try.ntmps27
  go_wp2_with fail
  go_loopw [5] (fun i wr => ∃ k m : Nat, k ≤ zs.length ∧ i = .int .i64 k ∧ wr = w.drewN m) (fun i _ => zs.length - (intOf i).toNat)
  case atStart => exact ⟨0, 0, Nat.zero_le _, rfl, rfl⟩
  case round =>
    obtain ⟨k, m, hk, rfl, rfl⟩ := hrel
    by_cases hlt : k < zs.length
    · obtain ⟨b1, o1, hA1, hx⟩ := ints_rd H1.out k hlt
      obtain ⟨b2, o2, hA2, hy⟩ := ints_rd H2.out k hlt
      subst hA1 hA2
      generalize zs[k] = z at *
      have hlt' : (k : Int) < (zs.length : Int) := by omega
      go_wp2_with fail
      go_quiet (fail)
      go_wp2_with fail
      go_roundw
      case rel => exact ⟨k + 1, _, by omega, by go_num, rfl⟩
      case measure => simp [intOf]; omega
    · have hlt' : (zs.length : Int) ≤ (k : Int) := by omega
      go_wp2_with fail
      go_ret
      exact ⟨rfl, _, rfl⟩

end Go.Proofs.Ytmheijnckmlbnaa
/- Similar entries, part 2: the words two entries share; the reference's side. -/
namespace Go.Proofs.Ytmheijnckmlbnaa
open Go.RowKit Go.Joins

/-- how many words of the one list the other has -/
def comN : List ByteArray → List ByteArray → Nat
  | [], _ => 0
  | x :: l, b => if hasW b x = true then 1 + comN l b else comN l b
theorem comN_at (ws b : List ByteArray) (k : Nat) (hk : k < ws.length) : comN (ws.drop k) b = if hasW b ws[k] = true then 1 + comN (ws.drop (k + 1)) b else comN (ws.drop (k + 1)) b := by
  rw [List.drop_eq_getElem_cons hk]; rfl
theorem comN_end (ws b : List ByteArray) (k : Nat) (hk : ws.length ≤ k) : comN (ws.drop k) b = 0 := by rw [List.drop_of_length_le hk]; rfl
theorem comN_le : ∀ (ws b : List ByteArray), comN ws b ≤ ws.length := by
  intro ws b
  induction ws with
  | nil => exact Nat.le_refl _
  | cons x l ih => unfold comN; split <;> simp <;> omega

end Go.Proofs.Ytmheijnckmlbnaa
/- Similar entries, part 3: the list; the reference's SimilarEntries. -/
namespace Go.Proofs.Ytmheijnckmlbnaa
open Go.RowKit Go.Joins

def simF : List Ent → Nat → Nat → List ByteArray → Nat → List Int → List Int
  | [], _, _, _, _, out => out
  | x :: l, k, i, b, m, out => if k = i ∨ comN x.words b < m then simF l (k + 1) i b m out else if m < comN x.words b then simF l (k + 1) i b (comN x.words b) [x.num] else simF l (k + 1) i b m (out ++ [x.num])
theorem simF_at (xs : List Ent) (k i : Nat) (b : List ByteArray) (m : Nat) (out : List Int) (hk : k < xs.length) : simF (xs.drop k) k i b m out =
    if k = i ∨ comN xs[k].words b < m then simF (xs.drop (k + 1)) (k + 1) i b m out else if m < comN xs[k].words b then simF (xs.drop (k + 1)) (k + 1) i b (comN xs[k].words b) [xs[k].num] else simF (xs.drop (k + 1)) (k + 1) i b m (out ++ [xs[k].num]) := by
  rw [List.drop_eq_getElem_cons hk]; rfl
theorem simF_end (xs : List Ent) (k i : Nat) (b : List ByteArray) (m : Nat) (out : List Int) (hk : xs.length ≤ k) : simF (xs.drop k) k i b m out = out := by rw [List.drop_of_length_le hk]; rfl
/-- the numbers of the most similar -/
def simL (xs : List Ent) (m : Int) : List Int := if askC xs m = 0 then simF xs 0 (askI xs m).toNat (xs.getD (askI xs m).toNat noEnt).words 1 [] else []
theorem simF_len (i : Nat) (b : List ByteArray) : ∀ (xs : List Ent) (k m : Nat) (out : List Int), (simF xs k i b m out).length ≤ out.length + xs.length := by
  intro xs
  induction xs with
  | nil => intro k m out; exact Nat.le_refl _
  | cons x l ih =>
    intro k m out
    unfold simF
    split
    · have := ih (k + 1) m out; simp; omega
    · split
      · have := ih (k + 1) (comN x.words b) [x.num]; simp at *; omega
      · have := ih (k + 1) m (out ++ [x.num]); simp at *; omega
theorem simL_len (xs : List Ent) (m : Int) : (simL xs m).length ≤ xs.length := by
  unfold simL
  split
  · have := simF_len (askI xs m).toNat (xs.getD (askI xs m).toNat noEnt).words xs 0 1 []; simpa using this
  · simp
theorem sim_cases (xs : List Ent) (m : Int) : (askC xs m ≠ 0 ∧ simL xs m = []) ∨ ∃ (i : Nat) (hi : i < xs.length), askC xs m = 0 ∧ askI xs m = i ∧ entsOk xs = true ∧ findN xs m 0 = i ∧ simL xs m = simF xs 0 i xs[i].words 1 [] := by
  by_cases h : askC xs m = 0
  · right
    have h' := h
    unfold askC at h
    split at h
    · cases h
    · split at h
      · cases h
      · rename_i ho hf
        have ho : entsOk xs = true := by simpa using ho
        rcases findN_bd m xs 0 with e | ⟨i, hi, e⟩
        · omega
        · rw [Nat.zero_add] at e
          have hI : askI xs m = (i : Int) := by
            unfold askI
            rw [if_neg (by simp [ho]), if_neg (by omega), e]
          refine ⟨i, hi, h', hI, ho, e, ?_⟩
          unfold simL
          rw [if_pos h', hI, Int.toNat_natCast, getE_at xs i hi]
  · exact .inl ⟨h, by unfold simL; rw [if_neg h]⟩

/-- a new list of numbers and a code -/
def RetN (code : Int) (zs : List Int) (w : World) (e : Ending) (w' : World) : Prop :=
  ∃ v, e = .returned (.tuple #[v, .int .i64 code]) ∧ w'.ownsRow w.heap.size 2 1 v zs.length (ints zs) ∧ Below w.heap.size w w'
theorem RetN_no {code c2 : Int} {zs : List Int} {w w' : World} (h : zs = []) (hc : c2 = code) (hb : Below w.heap.size w w') : RetN code zs w (.returned (.tuple #[.slice none 0 0, .int .i64 c2])) w' := by
  subst h hc
  exact ⟨_, rfl, World.ownsRow_nil _ _ _ _, hb⟩
theorem RetN_yes {code c2 : Int} {zs l : List Int} {v : Value} {w w' : World} (h : zs = l) (hc : c2 = code) (ho : w'.ownsRow w.heap.size 2 1 v l.length (ints l)) (hb : Below w.heap.size w w') : RetN code zs w (.returned (.tuple #[v, .int .i64 c2])) w' := by
  subst h hc
  exact ⟨_, rfl, ho, hb⟩
theorem ones_one (a : Int) : ∀ u ∈ (#[Value.int .i64 a] : Array Value).toList, u.oneCell' = true := by
  intro u hu
  simp at hu
  subst hu; rfl
theorem ints_one (l : List Int) (a : Int) : ints l ++ (#[Value.int .i64 a] : Array Value).toList = ints (l ++ [a]) := by simp [ints]

end Go.Proofs.Ytmheijnckmlbnaa
/- Similar entries, part 4: the program's SimilarEntries. -/
namespace Go.Proofs.Ytmheijnckmlbnaa
open Go.RowKit Go.Joins

end Go.Proofs.Ytmheijnckmlbnaa
/- Similar entries, part 5: the marks' helpers. -/
namespace Go.Proofs.Ytmheijnckmlbnaa
open Go.RowKit Go.Joins

/-- the digits in front of what is there already -/
def mkD : Nat → Nat → List UInt8 → List UInt8
  | 0, _, out => out
  | f + 1, k, out => if k = 0 then out else mkD f (k / 10) (UInt8.ofNat (48 + k % 10) :: out)
theorem mkD_zero (f : Nat) (out : List UInt8) : mkD f 0 out = out := by cases f <;> simp [mkD]
theorem mkD_step (f m : Nat) (out : List UInt8) (h : 0 < m) (hf : m ≤ f) : ∃ f', mkD f m out = mkD f' (m / 10) (UInt8.ofNat (48 + m % 10) :: out) ∧ m / 10 ≤ f' := by
  cases f with
  | zero => omega
  | succ f => exact ⟨f, by simp [mkD, show m ≠ 0 by omega], by omega⟩
/-- the text of a mark -/
def markT (k : Int) : ByteArray := if k ≤ 0 then ⟨#[109, 48]⟩ else ⟨(109 :: mkD k.toNat k.toNat []).toArray⟩
theorem digB (m : Nat) : IntKind.u8.wrap (48 + (m : Int) % 10) = ((UInt8.ofNat (48 + m % 10)).toNat : Int) := by
  rw [IntKind.wrap_u8]
  simp only [UInt8.toNat_ofNat']
  omega

set_option maxHeartbeats 400000 in
theorem markText_any (k : Int) (w : World) (hk : k ≤ 4611686018427387904) :
    Calls Try.prog 74 #[.int .i64 k] w fun e w' => e = .returned (.string (markT k)) ∧ Below w.heap.size w w' := by
  by_cases h : k ≤ 0
  · have e1 := Lib.hid (show markT k = ⟨#[109, 48]⟩ by simp [markT, h])
    have hb0 := Below.refl w.heap.size w
    go_enter Try.func74, Try.ntmps74
    go_wp2_with fail
    go_ret
    rw [e1.out]; exact ⟨rfl, hb0⟩
  · obtain ⟨n, rfl⟩ : ∃ n : Nat, k = n := ⟨k.toNat, by omega⟩
    have e1 := Lib.hid (show markT (n : Int) = ⟨(109 :: mkD n n []).toArray⟩ by simp only [markT, if_neg h, Int.toNat_natCast])
    have hn : 0 < n := by omega
    have hb : decide ((n : Int) ≤ 0) = false := by simp; omega
    clear h
    go_enter Try.func74, Try.ntmps74
    go_wp2_with fail
    go_loopw [0, 3] (fun a v wr => ∃ (f m : Nat) (out : List UInt8), a = .int .i64 m ∧ m ≤ f ∧ out.length + m ≤ n ∧ v = .string ⟨out.toArray⟩ ∧ mkD n n [] = mkD f m out ∧ Below w.heap.size w wr) (fun a _ _ => (intOf a).toNat)
    case atStart => exact ⟨n, n, [], rfl, Nat.le_refl _, by simp, rfl, rfl, Below.refl _ _⟩
    case round =>
      obtain ⟨f, m, out, rfl, hmf, hmn, rfl, heq, hbl⟩ := hrel
      have Heq := Lib.hid heq; clear heq
      have hl1 : 1 + out.length ≤ 4611686018427387905 := by omega
      by_cases hlt : 0 < m
      · have hd := digB m
        have Hst := Lib.hid (mkD_step f m out hlt hmf)
        have hcv := run_conv_one (P := Try.prog) (w := wr) 22 9 5 Try.underlying22 Try.underlying5 Try.underlying9 (UInt8.ofNat (48 + m % 10))
        have hb2 := hbl.alloc hbl.size (.cells #[.int .u8 ((UInt8.ofNat (48 + m % 10)).toNat : Int)] 5)
        generalize UInt8.ofNat (48 + m % 10) = d at *
        go_wp2_with fail
        go_roundw
        case rel =>
          obtain ⟨f', h1, h2⟩ := Hst.out
          exact ⟨f', m / 10, d :: out, by go_num, h2, by simp; omega, by rw [ba_app]; simp, by rw [Heq.out, h1], hb2⟩
        case measure => simp [intOf]; omega
      · have hm0 : (m : Int) ≤ 0 := by omega
        go_wp2_with fail
        go_ret
        have he := Heq.out
        rw [show m = 0 by omega, mkD_zero] at he
        rw [e1.out, he]
        exact ⟨by rw [ba_app]; simp, hbl⟩


/-- the marks from k on -/
def marks (k : Int) (n : Nat) : List ByteArray := (List.range n).map fun (i : Nat) => markT (k + (i : Int))
theorem marks_at (k : Int) (n i : Nat) (h : i < n) : (strs (marks k n))[i]? = some (.string (markT (k + (i : Int)))) := by simp [strs, marks, h]
theorem marks_len (k : Int) (n : Nat) : (marks k n).length = n := by simp [marks]

set_option maxHeartbeats 400000 in
theorem markStringS_any (base : Nat) (v1 : Value) (k0 : Int) (n : Nat) (xs : List Value) (w : World) (h1 : w.ownsRow base 9 1 v1 n xs) (hk0 : 0 ≤ k0) (hk : k0 + n ≤ 4611686018427387904) :
    Calls Try.prog 75 #[v1, .int .i64 k0] w fun e w' => e = .returned (.int .i64 (k0 + n)) ∧ w.grownBy w' v1.ownBlock ∧ w'.ownsRow base 9 1 v1 n (strs (marks k0 n)) := by
  have hl : xs.length = n := by simpa using h1.1
  have Hl := Lib.hid hl; clear hl
  rcases ownsRow_forms h1 with ⟨rfl, rfl⟩ | ⟨g, cap, rfl⟩
  · have hg0 : w.grownBy w (Value.slice none 0 0).ownBlock := ⟨rfl, rfl, rfl, Nat.le_refl _, fun _ _ _ => rfl⟩
    have Ho := Lib.hid (World.ownsRow_nil w base 9 1)
    clear h1
    go_enter Try.func75, Try.ntmps75
    go_wp2_with fail
    go_loop [1, 5] (fun a i => i = .int .i64 0 ∧ a = .int .i64 k0) (fun _ _ => 0)
    case atStart => exact ⟨rfl, rfl⟩
    case round =>
      obtain ⟨rfl, rfl⟩ := hrel
      go_wp2_with fail
      go_ret
      exact ⟨by simp, hg0, by simpa [marks, strs] using Ho.out⟩
  · have hg0 : w.grownBy w (some g) := ⟨rfl, rfl, rfl, Nat.le_refl _, fun _ _ _ => rfl⟩
    have Hsh := Lib.hid h1
    clear h1
    go_enter Try.func75, Try.ntmps75
    go_wp2_with fail
    go_loopw [1, 5] (fun a i wr => ∃ k : Nat, k ≤ n ∧ i = .int .i64 k ∧ a = .int .i64 (k0 + k) ∧ wr.ownsRow base 9 1 (.slice (some ⟨g, 0, none⟩) n cap) n (strs (marks k0 k) ++ xs.drop k) ∧ w.grownBy wr (some g)) (fun _ i _ => n - (intOf i).toNat)
    case atStart => exact ⟨0, Nat.zero_le _, rfl, by simp, by simpa [marks, strs] using Hsh.out, hg0⟩
    case round =>
      obtain ⟨k, hk, rfl, rfl, hown, hgr⟩ := hrel
      by_cases hlt : k < n
      · have hlt' : (k : Int) < (n : Int) := by omega
        have Hmk := Lib.hid (markText_any (k0 + k))
        have hlen : (strs (marks k0 k)).length = k := by simp [strs, marks]
        have hset : (strs (marks k0 k) ++ xs.drop k).set k (.string (markT (k0 + k))) = strs (marks k0 (k + 1)) ++ xs.drop (k + 1) := by
          rw [List.set_append_right _ _ (by omega), hlen, Nat.sub_self, List.drop_eq_getElem_cons (by rw [Hl.out]; exact hlt), List.set_cons_zero]
          simp [strs, marks, List.range_succ]
        have Hset := Lib.hid hset; clear hset hlen
        generalize markT (k0 + (k : Int)) = M at *
        have Hown := Lib.hid hown; clear hown
        go_wp2_with fail
        refine (Hmk.out _ (by omega)).mono ?_; rintro e wq ⟨rfl, hbq⟩
        have hown := own_below Hown.out hbq
        obtain ⟨u, hu⟩ : ∃ u, (strs (marks k0 k) ++ xs.drop k)[k]? = some u := ⟨_, List.getElem?_eq_getElem (by have := hown.1; omega)⟩
        have hc : wq.cell? ⟨g, k, none⟩ = some u := (hown.cellAt k (by omega)).trans hu
        have hf : wq.frozen? ⟨g, k, none⟩ = false := hown.frozenAt k
        obtain ⟨ho2, hg2⟩ := hown.stored k (.string M)
        rw [Hset.out] at ho2
        have hg3 := grown_trans (grown_trans hgr (grown_of_below hbq _)) hg2
        clear hu hown
        go_wp2_with fail
        go_roundw
        case rel => exact ⟨k + 1, by omega, by go_num, by go_num, ho2, hg3⟩
        case measure => simp [intOf]; omega
      · obtain rfl : k = n := by omega
        rw [List.drop_of_length_le (by rw [Hl.out]; exact Nat.le_refl _), List.append_nil] at hown
        go_wp2_with fail
        go_ret
        exact ⟨rfl, hgr, hown⟩

def marksI (k : Int) (n : Nat) : List Int := (List.range n).map fun (i : Nat) => k + (i : Int)
theorem marksI_len (k : Int) (n : Nat) : (marksI k n).length = n := by simp [marksI]
theorem marksI_at (k : Int) (n i : Nat) (h : i < n) : (marksI k n)[i]'(by rw [marksI_len]; exact h) = k + (i : Int) := by simp [marksI]
theorem marksI_succ (k : Int) (n : Nat) : marksI k (n + 1) = marksI k n ++ [k + (n : Int)] := by
  unfold marksI
  rw [List.range_succ, List.map_append]; rfl

set_option maxRecDepth 100000 in
set_option maxHeartbeats 800000 in
theorem heldInt64S_any (B : Nat) (v : Value) (k0 : Int) (n : Nat) (w : World) (h : Rd w B v n 1 (ints (marksI k0 n))) (hk0 : 0 ≤ k0) (hk : k0 + n ≤ 4611686018427387904) :
    Calls Try.prog 31 #[v, .int .i64 k0] w fun e w' => e = .returned (.int .i64 (k0 + n)) ∧ w = w' := by
  have h' : Rd w B v (marksI k0 n).length 1 (ints (marksI k0 n)) := by rw [marksI_len]; exact h
  have H := Lib.hid h'
  obtain ⟨_, A, c, rfl, _⟩ := h
  clear h'
  go_enter Try.func31, Try.ntmps31
  go_wp2_with fail
  go_loop [1, 5] (fun a i => ∃ k : Nat, k ≤ n ∧ i = .int .i64 (k : Int) ∧ a = .int .i64 (k0 + k)) (fun _ i => n - (intOf i).toNat)
  case atStart => exact ⟨0, Nat.zero_le _, rfl, by simp⟩
  case round =>
    obtain ⟨k, hkn, rfl, rfl⟩ := hrel
    by_cases hlt : k < n
    · obtain ⟨b1, o1, hA, hx⟩ := ints_rd (by rw [marksI_len] at H; rw [marksI_len]; exact H.out) k (by rw [marksI_len]; exact hlt)
      subst hA
      rw [marksI_at k0 n k hlt] at hx
      have hlt' : (k : Int) < (n : Int) := by omega
      go_wp2_with fail
      go_round
      case rel => exact ⟨k + 1, by omega, by go_num, by go_num⟩
      case measure => simp [intOf]; omega
    · have hlt' : (n : Int) ≤ (k : Int) := by omega
      go_wp2_with fail
      go_ret
      obtain rfl : k = n := by omega
      exact ⟨rfl, rfl⟩

set_option maxRecDepth 100000 in
set_option maxHeartbeats 800000 in
theorem markInt64S_any (base : Nat) (v : Value) (k0 : Int) (n : Nat) (xs : List Value) (w : World) (h : w.ownsRow base 2 1 v n xs) (hk0 : 0 ≤ k0) (hk : k0 + n ≤ 4611686018427387904) :
    Calls Try.prog 30 #[v, .int .i64 k0] w fun e w' => e = .returned (.int .i64 (k0 + n)) ∧ w.grownBy w' v.ownBlock ∧ w'.ownsRow base 2 1 v n (ints (marksI k0 n)) := by
  have hl : xs.length = n := by simpa using h.1
  have Hl := Lib.hid hl; clear hl
  rcases ownsRow_forms h with ⟨rfl, rfl⟩ | ⟨g, cap, rfl⟩
  · have hg0 : w.grownBy w (Value.slice none 0 0).ownBlock := ⟨rfl, rfl, rfl, Nat.le_refl _, fun _ _ _ => rfl⟩
    have Ho := Lib.hid (World.ownsRow_nil w base 2 1)
    clear h
    go_enter Try.func30, Try.ntmps30
    go_wp2_with fail
    go_loop [1, 5] (fun a i => i = .int .i64 0 ∧ a = .int .i64 k0) (fun _ _ => 0)
    case atStart => exact ⟨rfl, rfl⟩
    case round =>
      obtain ⟨rfl, rfl⟩ := hrel
      go_wp2_with fail
      go_ret
      exact ⟨by simp, hg0, by simpa [marksI, ints] using Ho.out⟩
  · have hg0 : w.grownBy w (some g) := ⟨rfl, rfl, rfl, Nat.le_refl _, fun _ _ _ => rfl⟩
    have Hsh := Lib.hid h
    clear h
    go_enter Try.func30, Try.ntmps30
    go_wp2_with fail
    go_loopw [1, 5] (fun a i wr => ∃ k : Nat, k ≤ n ∧ i = .int .i64 (k : Int) ∧ a = .int .i64 (k0 + k) ∧ wr.ownsRow base 2 1 (.slice (some ⟨g, 0, none⟩) n cap) n (ints (marksI k0 k) ++ xs.drop k) ∧ w.grownBy wr (some g)) (fun _ i _ => n - (intOf i).toNat)
    case atStart => exact ⟨0, Nat.zero_le _, rfl, by simp, by simpa [marksI, ints] using Hsh.out, hg0⟩
    case round =>
      obtain ⟨k, hkn, rfl, rfl, hown, hgr⟩ := hrel
      by_cases hlt : k < n
      · have hlt' : (k : Int) < (n : Int) := by omega
        have hset : (ints (marksI k0 k) ++ xs.drop k).set k (.int .i64 (k0 + k)) = ints (marksI k0 (k + 1)) ++ xs.drop (k + 1) := by
          have hlen : (ints (marksI k0 k)).length = k := by simp [ints, marksI_len]
          rw [List.set_append_right _ _ (by omega), hlen, Nat.sub_self, List.drop_eq_getElem_cons (by rw [Hl.out]; exact hlt), List.set_cons_zero]
          simp [ints, marksI_succ]
        have Hset := Lib.hid hset; clear hset
        obtain ⟨u, hu⟩ : ∃ u, (ints (marksI k0 k) ++ xs.drop k)[k]? = some u := ⟨_, List.getElem?_eq_getElem (by have := hown.1; omega)⟩
        have hc : wr.cell? ⟨g, k, none⟩ = some u := (hown.cellAt k (by omega)).trans hu
        have hf : wr.frozen? ⟨g, k, none⟩ = false := hown.frozenAt k
        obtain ⟨ho2, hg2⟩ := hown.stored k (.int .i64 (k0 + k))
        rw [Hset.out] at ho2
        have Ho2 := Lib.hid ho2
        have Hg2 := Lib.hid (grown_trans hgr hg2)
        clear hu hown hg2 ho2 hgr
        go_wp2_with fail
        go_roundw
        case rel => exact ⟨k + 1, by omega, by go_num, by go_num, Ho2.out, Hg2.out⟩
        case measure => simp [intOf]; omega
      · obtain rfl : k = n := by omega
        rw [List.drop_of_length_le (by rw [Hl.out]; exact Nat.le_refl _), List.append_nil] at hown
        have Hown := Lib.hid hown; clear hown
        go_wp2_with fail
        go_ret
        exact ⟨rfl, hgr, Hown.out⟩
end Go.Proofs.Ytmheijnckmlbnaa
/- Loans, part 6: markLoanS. -/
namespace Go.Proofs.Ytmheijnckmlbnaa
open Go.RowKit Go.Joins

def marksL (k : Int) (n : Nat) : List Ln := (List.range n).map fun (i : Nat) => ⟨markT (k + 4 * (i : Int)), markT (k + 4 * (i : Int) + 1), k + 4 * (i : Int) + 1 + 1, k + 4 * (i : Int) + 1 + 1 + 1⟩
theorem marksL_len (k : Int) (n : Nat) : (marksL k n).length = n := by simp [marksL]
theorem marksL_succ (k : Int) (n : Nat) : (marksL k (n + 1)).flatMap cellsL = (marksL k n).flatMap cellsL ++ [.string (markT (k + 4 * (n : Int))), .string (markT (k + 4 * (n : Int) + 1)), .int .i64 (k + 4 * (n : Int) + 1 + 1), .int .i64 (k + 4 * (n : Int) + 1 + 1 + 1)] := by
  unfold marksL
  rw [List.range_succ, List.map_append, List.flatMap_append]; rfl

end Go.Proofs.Ytmheijnckmlbnaa
/- Loans, part 7: heldLoanS. -/
namespace Go.Proofs.Ytmheijnckmlbnaa
open Go.RowKit Go.Joins

theorem marksL_at (k : Int) (n i : Nat) (h : i < n) : (marksL k n)[i]'(by rw [marksL_len]; exact h) = ⟨markT (k + 4 * (i : Int)), markT (k + 4 * (i : Int) + 1), k + 4 * (i : Int) + 1 + 1, k + 4 * (i : Int) + 1 + 1 + 1⟩ := by simp [marksL]

theorem four_kept {W w1 : World} {a b c d : Addr} {x y z t : Value} (hb : Below W.heap.size W w1) (h : W.cell? a = some x ∧ W.cell? b = some y ∧ W.cell? c = some z ∧ W.cell? d = some t) :
    w1.cell? a = some x ∧ w1.cell? b = some y ∧ w1.cell? c = some z ∧ w1.cell? d = some t :=
  have k {p : Addr} {v : Value} (h : W.cell? p = some v) : w1.cell? p = some v := (hb.cell (World.block_lt_of_cell? W _ h)).trans h
  ⟨k h.1, k h.2.1, k h.2.2.1, k h.2.2.2⟩

end Go.Proofs.Ytmheijnckmlbnaa
/- Loans, part 8: one loan's validity, clashes, the order: both sides. -/
namespace Go.Proofs.Ytmheijnckmlbnaa
open Go.RowKit Go.Joins

theorem isDay_any (n : Int) (w : World) : Calls Try.prog 51 #[.int .i64 n] w fun e w' => e = .returned (.bool (inB n 0 100000)) ∧ w = w' := by
  have HB := Lib.hid (fun wx => between_any n 0 100000 wx)
  generalize inB n 0 100000 = g at *
  go_enter Try.func51, Try.ntmps51
  go_wp2_with fail
  refine (HB.out _).mono ?_; rintro e w1 ⟨rfl, rfl⟩
  go_wp2_with fail
  go_ret
  exact ⟨rfl, rfl⟩
theorem l23Day_any (n : Int) (w : World) : Calls Try.prog 54 #[.int .i64 n] w fun e w' => e = .returned (.bool (inB n 0 100000)) ∧ w = w' := by
  have HB := Lib.hid (fun wx => l00In_any n 0 100000 wx)
  generalize inB n 0 100000 = g at *
  go_enter Try.func54, Try.ntmps54
  go_wp2_with fail
  refine (HB.out _).mono ?_; rintro e w1 ⟨rfl, rfl⟩
  go_wp2_with fail
  go_ret
  exact ⟨rfl, rfl⟩

def loanOk (x : Ln) : Bool := isNm x.what.data.toList && isNm x.who.data.toList && inB x.from_ 0 100000 && inB x.till 0 100000 && decide (x.from_ ≤ x.till)
theorem loan_cases (x : Ln) : (isNm x.what.data.toList = false ∧ loanOk x = false) ∨ (isNm x.what.data.toList = true ∧ isNm x.who.data.toList = false ∧ loanOk x = false) ∨
    (isNm x.what.data.toList = true ∧ isNm x.who.data.toList = true ∧ inB x.from_ 0 100000 = false ∧ loanOk x = false) ∨
    (isNm x.what.data.toList = true ∧ isNm x.who.data.toList = true ∧ inB x.from_ 0 100000 = true ∧ inB x.till 0 100000 = false ∧ loanOk x = false) ∨
    (isNm x.what.data.toList = true ∧ isNm x.who.data.toList = true ∧ inB x.from_ 0 100000 = true ∧ inB x.till 0 100000 = true ∧ loanOk x = decide (x.from_ ≤ x.till)) := by
  unfold loanOk
  cases h1 : isNm x.what.data.toList <;> cases h2 : isNm x.who.data.toList <;> cases h3 : inB x.from_ 0 100000 <;> cases h4 : inB x.till 0 100000 <;> simp

set_option maxRecDepth 100000 in
set_option maxHeartbeats 1600000 in
theorem validLoan_any (x : Ln) (w : World) (hsm : smL x) :
    Calls Try.prog 61 #[aggL x] w fun e w' => e = .returned (.bool (loanOk x)) ∧ Below w.heap.size w w' := by
  have hc := loan_cases x
  obtain ⟨a, b, f, t⟩ := x
  obtain ⟨l1, l2⟩ := hsm
  dsimp only at *
  have hb0 := Lib.hid ((Below.refl w.heap.size w).alloc (Nat.le_refl _) (.cells #[.string a, .string b, .int .i64 f, .int .i64 t] 40))
  have HB1 := Lib.hid (fun wx => IsNameI_any a wx l1)
  have HB2 := Lib.hid (fun wx => IsNameI_any b wx l2)
  have HB3 := Lib.hid (fun wx => isDay_any f wx)
  have HB4 := Lib.hid (fun wx => isDay_any t wx)
  rcases hc with ⟨g1, hf⟩ | ⟨g1, g2, hf⟩ | ⟨g1, g2, g3, hf⟩ | ⟨g1, g2, g3, g4, hf⟩ | ⟨g1, g2, g3, g4, hf⟩
  all_goals
    have Hf := Lib.hid hf; clear hf
    rw [g1] at HB1; clear g1
    (try (rw [g2] at HB2; clear g2))
    (try (rw [g3] at HB3; clear g3))
    (try (rw [g4] at HB4; clear g4))
    go_enter Try.func61, Try.ntmps61
    go_wp2_with fail
    refine (HB1.out _).mono ?_; rintro e w1 ⟨rfl, rfl⟩
    go_wp2_with fail
    (try ((with_reducible refine (HB2.out _).mono ?_); rintro e w1 ⟨rfl, rfl⟩; go_wp2_with fail))
    (try ((with_reducible refine (HB3.out _).mono ?_); rintro e w1 ⟨rfl, rfl⟩; go_wp2_with fail))
    (try ((with_reducible refine (HB4.out _).mono ?_); rintro e w1 ⟨rfl, rfl⟩; go_wp2_with fail))
    go_ret
    rw [Hf.out]; exact ⟨rfl, hb0.out⟩

set_option maxRecDepth 100000 in
set_option maxHeartbeats 1600000 in
theorem l23One_any (B bb o : Nat) (x : Ln) (w : World) (h : LnAt w B bb o x) (hsm : smL x) :
    Calls Try.prog 95 #[.pointer (some ⟨bb, o, none⟩)] w fun e w' => e = .returned (.bool (loanOk x)) ∧ ∃ n, w' = w.drewN n := by
  have hc := loan_cases x
  obtain ⟨a, b, f, t⟩ := x
  obtain ⟨l1, l2⟩ := hsm
  obtain ⟨_, e0, e1, e2, e3⟩ := h
  dsimp only at *
  have HB1 := Lib.hid (fun wx => flipC (IsNameS_any a wx l1))
  have HB2 := Lib.hid (fun wx => flipC (IsNameS_any b wx l2))
  have HB3 := Lib.hid (fun wx => flipC (l23Day_any f wx))
  have HB4 := Lib.hid (fun wx => flipC (l23Day_any t wx))
  rcases hc with ⟨g1, hf⟩ | ⟨g1, g2, hf⟩ | ⟨g1, g2, g3, hf⟩ | ⟨g1, g2, g3, g4, hf⟩ | ⟨g1, g2, g3, g4, hf⟩
  all_goals
    have Hf := Lib.hid hf; clear hf
    rw [g1] at HB1; clear g1
    (try (rw [g2] at HB2; clear g2))
    (try (rw [g3] at HB3; clear g3))
    (try (rw [g4] at HB4; clear g4))
    go_enter Try.func95, Try.ntmps95
    go_wp2_with fail
    go_quiet ((first | (go_at_call 22; (with_reducible exact Calls.quiet_of_same (HB1.out _))) | (go_at_call 22; (with_reducible exact Calls.quiet_of_same (HB2.out _))) | (go_at_call 54; (with_reducible exact Calls.quiet_of_same (HB3.out _))) | (go_at_call 54; (with_reducible exact Calls.quiet_of_same (HB4.out _)))))
    go_wp2_with fail
    go_ret
    rw [Hf.out]; exact ⟨rfl, _, rfl⟩
end Go.Proofs.Ytmheijnckmlbnaa
/- Loans, part 9: clashes and the order, both sides. -/
namespace Go.Proofs.Ytmheijnckmlbnaa
open Go.RowKit Go.Joins

def clash (x y : Ln) : Bool := decide (x.what = y.what) && decide (x.from_ ≤ y.till) && decide (y.from_ ≤ x.till)
def before (x y : Ln) : Bool := decide (x.from_ < y.from_) || (decide (x.from_ = y.from_) && lessS x.what y.what)
theorem clash_cases (x y : Ln) : ((x.what.toList == y.what.toList) = false ∧ clash x y = false) ∨ ((x.what.toList == y.what.toList) = true ∧ decide (x.from_ ≤ y.till) = false ∧ clash x y = false) ∨
    ((x.what.toList == y.what.toList) = true ∧ decide (x.from_ ≤ y.till) = true ∧ clash x y = decide (y.from_ ≤ x.till)) := by
  unfold clash
  by_cases h : x.what = y.what
  · rw [h]
    by_cases h1 : x.from_ ≤ y.till <;> simp [h1]
  · exact .inl ⟨beq_eq_false_iff_ne.2 fun e => h (ba_inj e), by simp [h]⟩
theorem before_cases (x y : Ln) : (decide (x.from_ < y.from_) = true ∧ before x y = true) ∨ (decide (x.from_ < y.from_) = false ∧ (x.from_ == y.from_) = false ∧ before x y = false) ∨
    (decide (x.from_ < y.from_) = false ∧ (x.from_ == y.from_) = true ∧ before x y = Op.bytesLess x.what.toList y.what.toList) := by
  unfold before
  change _ ∨ _ ∨ (_ ∧ _ ∧ _ = lessS x.what y.what)
  by_cases h : x.from_ < y.from_
  · simp [h]
  · by_cases h1 : x.from_ = y.from_
    · simp [h1]
    · simp [h, h1]

set_option maxRecDepth 100000 in
set_option maxHeartbeats 1600000 in
theorem clashes_any (x y : Ln) (w : World) :
    Calls Try.prog 62 #[aggL x, aggL y] w fun e w' => e = .returned (.bool (clash x y)) ∧ Below w.heap.size w w' := by
  have hc := clash_cases x y
  obtain ⟨a, b, f, t⟩ := x
  obtain ⟨c, d, g, u⟩ := y
  dsimp only at *
  have hb0 := Lib.hid (((Below.refl w.heap.size w).alloc (Nat.le_refl _) (.cells #[.string a, .string b, .int .i64 f, .int .i64 t] 40)).alloc (by simp) (.cells #[.string c, .string d, .int .i64 g, .int .i64 u] 40))
  rcases hc with ⟨g1, hf⟩ | ⟨g1, g2, hf⟩ | ⟨g1, g2, hf⟩
  all_goals
    have Hf := Lib.hid hf; clear hf
    go_enter Try.func62, Try.ntmps62
    go_wp2_with fail
    go_ret
    rw [Hf.out]; exact ⟨rfl, hb0.out⟩

set_option maxRecDepth 100000 in
set_option maxHeartbeats 1600000 in
theorem ahead_any (x y : Ln) (w : World) :
    Calls Try.prog 63 #[aggL x, aggL y] w fun e w' => e = .returned (.bool (before x y)) ∧ Below w.heap.size w w' := by
  have hc := before_cases x y
  obtain ⟨a, b, f, t⟩ := x
  obtain ⟨c, d, g, u⟩ := y
  dsimp only at *
  have hb0 := Lib.hid (((Below.refl w.heap.size w).alloc (Nat.le_refl _) (.cells #[.string a, .string b, .int .i64 f, .int .i64 t] 40)).alloc (by simp) (.cells #[.string c, .string d, .int .i64 g, .int .i64 u] 40))
  rcases hc with ⟨g1, hf⟩ | ⟨g1, g2, hf⟩ | ⟨g1, g2, hf⟩
  all_goals
    have Hf := Lib.hid hf; clear hf
    go_enter Try.func63, Try.ntmps63
    go_wp2_with fail
    go_ret
    rw [Hf.out]; exact ⟨rfl, hb0.out⟩

set_option maxRecDepth 100000 in
set_option maxHeartbeats 1600000 in
theorem l23Clash_any (B B2 b1 o1 b2 o2 : Nat) (x y : Ln) (w : World) (h : LnAt w B b1 o1 x) (h2 : LnAt w B2 b2 o2 y) :
    Calls Try.prog 97 #[.pointer (some ⟨b1, o1, none⟩), .pointer (some ⟨b2, o2, none⟩)] w fun e w' => e = .returned (.bool (clash x y)) ∧ ∃ n, w' = w.drewN n := by
  have hc := clash_cases x y
  obtain ⟨_, e0, e1, e2, e3⟩ := h
  obtain ⟨_, d0, d1, d2, d3⟩ := h2
  generalize clash x y = r at *
  obtain ⟨a, b, f, t⟩ := x
  obtain ⟨c, d, g, u⟩ := y
  dsimp only at *
  clear e1 d1
  rcases hc with ⟨g1, hf⟩ | ⟨g1, g2, hf⟩ | ⟨g1, g2, hf⟩
  all_goals
    have Hf := Lib.hid hf; clear hf
    go_enter Try.func97, Try.ntmps97
    go_wp2_with fail
    go_quiet (fail)
    go_wp2_with fail
    go_ret
    rw [Hf.out]; exact ⟨rfl, _, rfl⟩

set_option maxRecDepth 100000 in
set_option maxHeartbeats 1600000 in
theorem l23Before_any (B B2 b1 o1 b2 o2 : Nat) (x y : Ln) (w : World) (h : LnAt w B b1 o1 x) (h2 : LnAt w B2 b2 o2 y) :
    Calls Try.prog 96 #[.pointer (some ⟨b1, o1, none⟩), .pointer (some ⟨b2, o2, none⟩)] w fun e w' => e = .returned (.bool (before x y)) ∧ ∃ n, w' = w.drewN n := by
  have hc := before_cases x y
  obtain ⟨_, e0, e1, e2, e3⟩ := h
  obtain ⟨_, d0, d1, d2, d3⟩ := h2
  generalize before x y = r at *
  obtain ⟨a, b, f, t⟩ := x
  obtain ⟨c, d, g, u⟩ := y
  dsimp only at *
  clear e1 d1 e3 d3
  rcases hc with ⟨g1, hf⟩ | ⟨g1, g2, hf⟩ | ⟨g1, g2, hf⟩
  all_goals
    have Hf := Lib.hid hf; clear hf
    go_enter Try.func96, Try.ntmps96
    go_wp2_with fail
    go_quiet (fail)
    go_wp2_with fail
    go_ret
    rw [Hf.out]; exact ⟨rfl, _, rfl⟩
end Go.Proofs.Ytmheijnckmlbnaa
