/- Merged texts: Fe4, Fe5, Fe6, Lo1, Lo2, Lo3, Lo4, Lo5, Si5, Lo6, Lo7, Lo8, Lo9, Lo10. -/
import Derived.Test.YtmheijnckmlbnaaDoorGCardFindEntries3
import Derived.Lib.SmallJoins
import Derived.Test.YtmheijnckmlbnaaDoorGCardFindEntries2
/- Queries: the plain law of FindEntries; the row of what is asked. -/
namespace Go.Proofs.YtmheijnckmlbnaaDoor
open Go.RowKit Go.Joins

/-- rows of different types lie in different blocks -/
theorem apart_tyQ {w : World} {b1 b2 s1 s2 n1 n2 : Nat} {e1 e2 : TypeId} {v1 v2 : Value} {x1 x2 : List Value} (h1 : w.ownsRow b1 e1 s1 v1 n1 x1) (h2 : w.ownsRow b2 e2 s2 v2 n2 x2) (he : e1 ≠ e2) : v1.ownBlock = none ∨ v1.ownBlock ≠ v2.ownBlock := by
  rcases h1.2 with ⟨rfl, _⟩ | ⟨g1, cap1, cur1, rfl, _, hg1, _⟩
  · exact .inl rfl
  rcases h2.2 with ⟨rfl, _⟩ | ⟨g2, cap2, cur2, rfl, _, hg2, _⟩
  · exact .inr (by simp [Value.ownBlock])
  refine .inr fun h => ?_
  obtain rfl : g1 = g2 := by simpa [Value.ownBlock] using h
  rw [hg1] at hg2
  injection hg2 with h3
  injection h3 with _ h4
  exact he h4
def parseA : List ByteArray → Option (List Term)
  | [] => some []
  | x :: l => match parseT x, parseA l with
    | some t, some ts => some (t :: ts)
    | _, _ => none
theorem parseA_cons (x : ByteArray) (l : List ByteArray) : parseA (x :: l) = match parseT x, parseA l with
    | some t, some ts => some (t :: ts)
    | _, _ => none := rfl
theorem parseA_app : ∀ (l r : List ByteArray), parseA (l ++ r) = match parseA l, parseA r with
    | some a, some b => some (a ++ b)
    | _, _ => none := by
  intro l
  induction l with
  | nil => intro r; rw [List.nil_append, show parseA [] = some [] from rfl]; cases parseA r <;> rfl
  | cons x l ih =>
    intro r
    rw [List.cons_append, parseA_cons, parseA_cons, ih r]
    cases parseT x <;> cases parseA l <;> cases parseA r <;> rfl
theorem parseA_snoc {L : List ByteArray} {k : Nat} {ts : List Term} {t : Term} (hk : k < L.length) (h : parseA (L.take k) = some ts) (ht : parseT L[k] = some t) : parseA (L.take (k + 1)) = some (ts ++ [t]) := by
  rw [List.take_succ_eq_append_getElem hk, parseA_app, h, parseA_cons, ht]
  rfl
theorem parseA_bad {L : List ByteArray} {k : Nat} (hk : k < L.length) (ht : parseT L[k] = none) : parseA L = none := by
  rw [← List.take_append_drop k L, parseA_app, List.drop_eq_getElem_cons hk]
  cases parseA (L.take k) with
  | none => rfl
  | some a => rw [parseA_cons, ht]
theorem parseA_len : ∀ (l : List ByteArray) (ts : List Term), parseA l = some ts → ts.length = l.length := by
  intro l
  induction l with
  | nil => intro ts h; cases h; rfl
  | cons x l ih =>
    intro ts h
    rw [parseA_cons] at h
    cases h1 : parseT x with
    | none => rw [h1] at h; cases h
    | some t =>
      rw [h1] at h
      cases h2 : parseA l with
      | none => rw [h2] at h; cases h
      | some us => rw [h2] at h; cases h; rw [List.length_cons, List.length_cons, ih us h2]
def fitsA (ts : List Term) (x : Ent) : Bool := ts.all fun t => fitsT t x
def numsF (ts : List Term) (xs : List Ent) : List Int := (xs.filter (fitsA ts)).map (·.num)
def findC (xs : List Ent) (q : ByteArray) : Int := if entsOk xs = false then 1 else if parseA (wordsB q) = none then 7 else 0
def findR (xs : List Ent) (q : ByteArray) : List Int := if entsOk xs = false then [] else match parseA (wordsB q) with
  | some ts => numsF ts xs
  | none => []
theorem find_cases (xs : List Ent) (q : ByteArray) : (entsOk xs = false ∧ findC xs q = 1 ∧ findR xs q = []) ∨ (entsOk xs = true ∧ parseA (wordsB q) = none ∧ findC xs q = 7 ∧ findR xs q = []) ∨
    ∃ ts, entsOk xs = true ∧ parseA (wordsB q) = some ts ∧ findC xs q = 0 ∧ findR xs q = numsF ts xs := by
  unfold findC findR
  cases entsOk xs with
  | false => exact .inl ⟨rfl, rfl, rfl⟩
  | true =>
    cases h : parseA (wordsB q) with
    | none => exact .inr (.inl ⟨rfl, rfl, rfl, rfl⟩)
    | some ts => exact .inr (.inr ⟨ts, rfl, rfl, rfl, rfl⟩)
theorem numsF_len (ts : List Term) (xs : List Ent) : (numsF ts xs).length ≤ xs.length := by
  unfold numsF
  rw [List.length_map]
  exact List.length_filter_le _ _
theorem findR_len (xs : List Ent) (q : ByteArray) : (findR xs q).length ≤ xs.length := by
  rcases find_cases xs q with ⟨_, _, h⟩ | ⟨_, _, _, h⟩ | ⟨ts, _, _, _, h⟩
  · rw [h]; exact Nat.zero_le _
  · rw [h]; exact Nat.zero_le _
  · rw [h]; exact numsF_len ts xs
theorem numsF_at (ts : List Term) {xs : List Ent} {k : Nat} (hk : k < xs.length) : numsF ts (xs.take (k + 1)) = if fitsA ts xs[k] = true then numsF ts (xs.take k) ++ [xs[k].num] else numsF ts (xs.take k) := by
  unfold numsF
  rw [List.take_succ_eq_append_getElem hk, List.filter_append, List.filter_cons]
  split
  · simp
  · simp
theorem fitsA_at {ts : List Term} {x : Ent} {j : Nat} (hj : j < ts.length) : fitsA (ts.take (j + 1)) x = (fitsA (ts.take j) x && fitsT ts[j] x) := by
  unfold fitsA
  rw [List.take_succ_eq_append_getElem hj, List.all_append]
  simp

theorem AskAt.move {w w' : World} {v : Value} {t : Term} (h : AskAt w v t) (hm : ∀ (q : Nat) (cs : Array Value) (ty : TypeId), (ty = 9 ∨ ty = 2) → w.heap[q]? = some (.cells cs ty (0, 0)) → w'.heap[q]? = some (.cells cs ty (0, 0))) : AskAt w' v t := by
  cases t with
  | name n => obtain ⟨q, h1, h2⟩ := h; exact ⟨q, h1, hm q _ _ (.inl rfl) h2⟩
  | maker n => obtain ⟨q, h1, h2⟩ := h; exact ⟨q, h1, hm q _ _ (.inl rfl) h2⟩
  | year c y => obtain ⟨q, q2, hc, h1, h2, h3⟩ := h; exact ⟨q, q2, hc, h1, hm q _ _ (.inl rfl) h2, hm q2 _ _ (.inr rfl) h3⟩
  | word n => obtain ⟨q, h1, h2⟩ := h; exact ⟨q, h1, hm q _ _ (.inl rfl) h2⟩
theorem AskAt.below {w w' : World} {v : Value} {t : Term} (h : AskAt w v t) (hb : Below w.heap.size w w') : AskAt w' v t := h.move fun q _ _ _ hq => (hb.block q (blk_lt hq)).trans hq
theorem AskAt.grown {w w' : World} {base n : Nat} {v v0 : Value} {vs : List Value} {t : Term} (h : AskAt w v t) (hown : w.ownsRow base 103 1 v0 n vs) (hg : w.grownBy w' v0.ownBlock) : AskAt w' v t := h.move fun q cs ty hty hq =>
  (hg.block q (blk_lt hq) (fun e => by
    rcases hown.2 with ⟨rfl, _⟩ | ⟨g1, cap1, cur1, rfl, _, hg1, _⟩
    · simp [Value.ownBlock] at e
    · have e2 : q = g1 := by simpa [Value.ownBlock] using e
      subst e2
      rw [hg1] at hq
      injection hq with h3
      injection h3 with _ h4
      rcases hty with rfl | rfl
      · exact absurd h4 (by decide)
      · exact absurd h4 (by decide))).trans hq
/-- the values ask what the terms say, one by one -/
def AskL (w : World) (vs : List Value) (ts : List Term) : Prop := vs.length = ts.length ∧ ∀ i (h1 : i < vs.length) (h2 : i < ts.length), AskAt w vs[i] ts[i]
theorem AskL.nil (w : World) : AskL w [] [] := ⟨rfl, fun i h => absurd h (by simp)⟩
theorem AskL.below {w w' : World} {vs : List Value} {ts : List Term} (h : AskL w vs ts) (hb : Below w.heap.size w w') : AskL w' vs ts := ⟨h.1, fun i h1 h2 => (h.2 i h1 h2).below hb⟩
theorem AskL.snoc {w w1 w' : World} {base n : Nat} {v v0 : Value} {vs : List Value} {ts : List Term} {t : Term} (h : AskL w vs ts) (hb : Below w.heap.size w w1) (ha : AskAt w1 v t) (hown : w1.ownsRow base 103 1 v0 n vs) (hg : w1.grownBy w' v0.ownBlock) : AskL w' (vs ++ [v]) (ts ++ [t]) := by
  refine ⟨by rw [List.length_append, List.length_append, h.1]; rfl, fun i h1 h2 => ?_⟩
  have hl := h.1
  by_cases hi : i < vs.length
  · rw [List.getElem_append_left hi, List.getElem_append_left (by omega)]
    exact ((h.2 i hi (by omega)).below hb).grown hown hg
  · rw [List.length_append] at h1
    simp only [List.length_cons, List.length_nil] at h1
    have e : i = vs.length := by omega
    subst e
    rw [List.getElem_append_right (by omega), List.getElem_append_right (by omega)]
    simp only [hl, Nat.sub_self, List.getElem_cons_zero]
    exact ha.grown hown hg
theorem enterQ {f : FuncId} {fn : Func} {c : Code} (hf : Tryd.prog.funcs[f]? = some fn) (hn : (fn.name == "runtime.NumGoroutine") = false) (hb : fn.body = some c) (args : Array Value) (w : World) : Sem.run Tryd.prog (callFunc f args) w = .ok (.enter f args) w := by
  have h1 : fn.name ≠ "runtime.NumGoroutine" := by simpa using hn
  simp [callFunc, hf, h1, hb]
/-- a value that asks, called -/
theorem ask_any (B : Nat) (x : Ent) (A : Option Addr) (c : Nat) (v : Value) (t : Term) (w : World) (ha : AskAt w v t) (h : Rd w B (.slice A x.words.length c) x.words.length 1 (strs x.words)) (hB : B ≤ w.heap.size) (hl : x.words.length ≤ 1048576) :
    ∃ (f : FuncId) (cap : Array Value), v = .func (.func f) #[] cap ∧ (∀ args w, Sem.run Tryd.prog (callFunc f args) w = .ok (.enter f args) w) ∧ Calls Tryd.prog f (#[aggE x A c] ++ cap) w fun e w' => e = .returned (.bool (fitsT t x)) ∧ Below w.heap.size w w' := by
  cases t with
  | name n => obtain ⟨q, h1, h2⟩ := ha; exact ⟨_, _, h1, enterQ Tryd.func100 (by kernel_rfl) rfl, ask1_any x A c n q w h2⟩
  | maker n => obtain ⟨q, h1, h2⟩ := ha; exact ⟨_, _, h1, enterQ Tryd.func101 (by kernel_rfl) rfl, ask2_any x A c n q w h2⟩
  | year cc y => obtain ⟨q, q2, hc, h1, h2, h3⟩ := ha; exact ⟨_, _, h1, enterQ Tryd.func102 (by kernel_rfl) rfl, ask3_any x A c cc y q q2 w hc h2 h3⟩
  | word n => obtain ⟨q, h1, h2⟩ := ha; exact ⟨_, _, h1, enterQ Tryd.func103 (by kernel_rfl) rfl, ask4_any B x A c n q w h2 h hB hl⟩
end Go.Proofs.YtmheijnckmlbnaaDoor
/- Queries: the program's FindEntries. -/
namespace Go.Proofs.YtmheijnckmlbnaaDoor
open Go.RowKit Go.Joins

theorem infoF : (Tryd.prog.info? 103).map (fun i => (i.zero, i.size, i.bytes)) = some (some .nilFunc, 1, 8) := by kernel_rfl
theorem infoDQ : (Tryd.prog.info? 2).map (fun i => (i.zero, i.size, i.bytes)) = some (some (.int .i64 0), 1, 8) := by kernel_rfl
theorem rd_atV {w : World} {B n c : Nat} {A : Option Addr} {vs : List Value} (h : Rd w B (.slice A n c) vs.length 1 vs) (k : Nat) (hk : k < vs.length) :
    ∃ b off, A = some ⟨b, off, none⟩ ∧ b < B ∧ w.cell? ⟨b, off + k, none⟩ = some vs[k] := by
  obtain ⟨_, A', c', hv, hc⟩ := h
  injection hv with e1 e2 e3
  subst e1
  obtain ⟨b, off, hA, hb, hcc⟩ := hc (by omega)
  exact ⟨b, off, hA, hb, hcc k _ (by simp [hk])⟩
theorem all_at (ts : List Term) (x : Ent) : fitsA (ts.take ts.length) x = fitsA ts x := by rw [List.take_length]
theorem func_one (v : Value) (h : isFn v) : ∀ u ∈ (#[v] : Array Value).toList, u.oneCell' = true := by
  obtain ⟨f, c, rfl⟩ := h
  simp [Value.oneCell']
theorem words_le {s : ByteArray} : ∀ x ∈ wordsB s, x.size ≤ s.size := fun x hx => splitB_mem 32 s.size s (Nat.le_refl _) x ((List.mem_filter.1 hx).1)

set_option maxRecDepth 100000 in
set_option maxHeartbeats 6400000 in
theorem FindI_any (B : Nat) (v : Value) (xs : List Ent) (q : ByteArray) (w : World) (h : RdE w B v xs) (hB : B ≤ w.heap.size) (hl : xs.length ≤ 1048576) (hsm : ∀ x ∈ xs, smE x) (hq : q.size ≤ 1048576) (ht : Tab w) :
    Calls Tryd.prog 31 #[v, .string q] w (RetN (findC xs q) (findR xs q) w) := by
  have HV := Lib.hid (ValidI_any B v xs w h hB hl hsm)
  have HSp := Lib.hid (fun wx => SplitI_any q wx (by omega))
  have HQ := Lib.hid (fun s wx hs hq => queryPart_any s wx hs hq)
  have hwl := wordsB_len q
  have HW := Lib.hid (words_le (s := q))
  have hcs := find_cases xs q
  have H := Lib.hid h
  have Hsm := Lib.hid hsm
  have Ht := Lib.hid ht
  generalize findC xs q = C at *
  generalize findR xs q = R at *
  generalize wordsB q = L at *
  obtain ⟨A, c, rfl⟩ := h.slice
  unfold RetPs at HSp
  clear h hsm ht
  cases hok : entsOk xs with
  | false =>
    rcases hcs with ⟨_, hC, hR⟩ | ⟨g1, _⟩ | ⟨_, g1, _⟩
    · rw [hok] at HV
      have HR := Lib.hid hR
      have HC := Lib.hid hC.symm
      clear hok hC hR
      go_enter Tryd.func31, Tryd.ntmps31
      go_wp2_with fail
      refine HV.out.mono ?_; rintro e w1 ⟨rfl, hb1⟩
      go_wp2_with fail
      go_ret2
      exact RetN_no HR.out HC.out hb1
    · rw [hok] at g1; cases g1
    · rw [hok] at g1; cases g1
  | true =>
    have Hcs := Lib.hid (show (parseA L = none ∧ C = 7 ∧ R = []) ∨ ∃ ts, parseA L = some ts ∧ C = 0 ∧ R = numsF ts xs by
      rcases hcs with ⟨g1, _⟩ | ⟨_, h2⟩ | ⟨ts, _, h2⟩
      · rw [hok] at g1; cases g1
      · exact .inl h2
      · exact .inr ⟨ts, h2⟩)
    rw [hok] at HV
    clear hok hcs
    go_enter Tryd.func31, Tryd.ntmps31
    go_wp2_with fail
    refine HV.out.mono ?_; rintro e w1 ⟨rfl, hb1⟩
    have hb0 := Lib.hid (hb1.alloc hb1.size (.cells #[] 103))
    have ho0 := Lib.hid (World.ownsRow_made (base := w.heap.size) (e := 103) (size := 1) w1 #[] 0 hb1.size (by simp [maxLen]) rfl)
    clear hb1
    go_wp2_with fail
    generalize hz1 : w1.heap.size = z1 at *
    generalize w1.alloc (.cells #[] 103) = w2 at *
    refine (HSp.out _).mono ?_; rintro e w3 ⟨v3, rfl, ho3, hb3⟩
    have Ho3 := Lib.hid (ownsRow_le ho3 hb0.out.size)
    have Hb3 := Lib.hid (hb0.out.trans (hb3.mono hb0.out.size))
    have Hr3 := Lib.hid (own_below ho0.out hb3)
    obtain ⟨A3, c3, rfl⟩ := sl_ofW ho3
    clear ho3 hb3 hb0 ho0 HSp
    go_wp2_with fail
    go_loopw [6, 24] (fun o i wr => ∃ (k : Nat) (vs : List Value) (ts : List Term), k ≤ L.length ∧ i = .int .i64 (k : Int) ∧ parseA (L.take k) = some ts ∧ vs.length = k ∧ AskL wr vs ts ∧ wr.ownsRow w.heap.size 103 1 o k vs ∧ wr.ownsRow w.heap.size 9 1 (.slice A3 L.length c3) L.length (L.map Value.string) ∧ Below w.heap.size w wr) (fun _ i _ => L.length - (intOf i).toNat)
    case atStart => exact ⟨0, [], [], Nat.zero_le _, rfl, rfl, rfl, AskL.nil _, Hr3.out, Ho3.out, Hb3.out⟩
    case round =>
      obtain ⟨k, vs, ts, hk, rfl, hpa, hvl, hal, hown, hstr, hbl⟩ := hrel
      have Hpa := Lib.hid hpa
      have Hvl := Lib.hid hvl
      have Hal := Lib.hid hal
      have Hown := Lib.hid hown
      have Hstr := Lib.hid hstr
      have Hbl := Lib.hid hbl
      obtain ⟨A6, c6, rfl⟩ := sl_ofW hown
      clear hpa hvl hal hown hstr
      by_cases hlt : k < L.length
      · have hlt' : (k : Int) < (L.length : Int) := by omega
        obtain ⟨_, bb, oo, hA, hxc⟩ := rd_at (Rd.of_own Hstr.out) k hlt
        subst hA
        have HQk := Lib.hid (HQ.out L[k] wr (Nat.le_trans (HW.out _ (List.getElem_mem hlt)) hq) (Ht.out.below hbl))
        have Hbad := Lib.hid (fun h => parseA_bad (L := L) hlt h)
        have Hst := Lib.hid (fun t h => parseA_snoc (L := L) (t := t) hlt Hpa.out h)
        generalize L[k] = s at *
        unfold RetQ at HQk
        clear hbl
        go_wp2_with fail
        refine HQk.out.mono ?_; rintro e w5 ⟨v5, rfl, hf5, ha5, hb5⟩
        have Hb5 := Lib.hid (Hbl.out.trans (hb5.mono Hbl.out.size))
        have Hb5r := Lib.hid hb5
        have Ho5 := Lib.hid (own_below Hown.out hb5)
        have Hs5 := Lib.hid (own_below Hstr.out hb5)
        have Hon := Lib.hid (func_one v5 hf5)
        have Ha5 := Lib.hid ha5
        have hz5 := Hb5.out.size
        obtain ⟨f5, p5, rfl⟩ := hf5
        clear hb5 hxc ha5 HQk Hown Hstr
        cases hp : parseT s with
        | none =>
          have hpn := Hbad.out hp
          rcases Hcs.out with ⟨_, hC, hR⟩ | ⟨ts2, g2, _⟩
          · have HR := Lib.hid hR
            have HC := Lib.hid hC.symm
            clear hC hR hpn hp
            go_wp2_with fail
            go_ret2
            exact RetN_no HR.out HC.out Hb5.out
          · rw [hpn] at g2; cases g2
        | some t =>
          have Hp2 := Lib.hid (Hst.out t hp)
          have HA5 := Lib.hid (Ha5.out t hp)
          clear hp Hbad Hst Ha5
          go_wp2_with (at_builtin; refine wpList_apd 102 103 _ 1 8 Tryd.underlying102 infoF rfl (by omega) _ _ rfl rfl w.heap.size _ k _ rfl Ho5.out #[.func f5 #[] p5] 1 1 rfl rfl Hon.out (by simp [maxLen]; omega) (by omega) hz5 ?_; intro v7 w7 hown7 hg7; have Hb7 := Lib.hid (below_apd Hb5.out Ho5.out hg7 (Nat.le_refl _) hz5); have Ho7 := Lib.hid hown7; have Hs7 := Lib.hid (Hs5.out.kept hg7 (apart_tyQ Hs5.out Ho5.out (by decide))); have HA7 := Lib.hid (Hal.out.snoc Hb5r.out HA5.out Ho5.out hg7); clear hown7 hg7)
          go_roundw
          case rel => exact ⟨k + 1, vs ++ [.func f5 #[] p5], ts ++ [t], by omega, by go_num, Hp2.out, by rw [List.length_append, Hvl.out]; rfl, HA7.out, Ho7.out, Hs7.out, Hb7.out⟩
          case measure => simp [intOf]; omega
      · have hkl : k = L.length := by omega
        have hlt' : ¬ (k : Int) < (L.length : Int) := by omega
        have hpa2 := Hpa.out
        rw [hkl, List.take_length] at hpa2
        obtain ⟨hC, hR⟩ : C = 0 ∧ R = numsF ts xs := by
          rcases Hcs.out with ⟨g1, _⟩ | ⟨ts2, g2, g3⟩
          · rw [hpa2] at g1; cases g1
          · rw [hpa2] at g2; cases g2; exact g3
        have HC := Lib.hid hC.symm
        have HR := Lib.hid hR
        have hvk : vs.length = k := Hvl.out
        have htl : ts.length = k := by rw [← Hal.out.1]; exact Hvl.out
        have Hbs := Lib.hid (Rd.of_own Hown.out)
        have hb9 := (Below.refl wr.heap.size wr).alloc (Nat.le_refl _) (.cells #[] 2)
        have Ho9 := Lib.hid (World.ownsRow_made (base := wr.heap.size) (e := 2) (size := 1) wr #[] 0 (Nat.le_refl _) (by simp [maxLen]) rfl)
        have Hb9 := Lib.hid hb9
        have Hbl12 := Lib.hid hbl
        clear hpa2 hC hR Hcs Hpa Hown Hstr hbl Ho3 Hb3 Hr3 HV HQ HW hb9 hk hlt
        generalize hw12 : wr = w12 at *
        clear hw12
        go_wp2_with fail
        go_loopw [11, 43] (fun o i wr => ∃ k2 : Nat, k2 ≤ xs.length ∧ i = .int .i64 (k2 : Int) ∧ wr.ownsRow w12.heap.size 2 1 o (numsF ts (xs.take k2)).length (ints (numsF ts (xs.take k2))) ∧ Below w12.heap.size w12 wr) (fun _ i _ => xs.length - (intOf i).toNat)
        case atStart => exact ⟨0, Nat.zero_le _, rfl, Ho9.out, Hb9.out⟩
        case round =>
          obtain ⟨k2, hk2, rfl, hown, hbl⟩ := hrel
          have Hown := Lib.hid hown
          obtain ⟨A7, c7, rfl⟩ := sl_ofW hown
          have Hbl := Lib.hid hbl
          have hbw := Lib.hid (Hbl12.out.trans (hbl.mono Hbl12.out.size))
          clear hown
          by_cases hlt : k2 < xs.length
          · obtain ⟨b1, o1, A4, c4, hA, hE⟩ := (H.out.below (hbw.out.mono hB)).at k2 hlt
            subst hA
            have hlt' : (k2 : Int) < (xs.length : Int) := by omega
            have hsk := (Hsm.out xs[k2] (List.getElem_mem hlt)).2.2.1
            have Hst := Lib.hid (numsF_at ts hlt)
            have hnl : (numsF ts (xs.take k2)).length ≤ k2 := Nat.le_trans (numsF_len ts _) (by rw [List.length_take]; omega)
            generalize numsF ts (xs.take k2) = acc at *
            have hzw := hbl.size
            have hzB : B ≤ wr.heap.size := Nat.le_trans hB hbw.out.size
            have hbr := (Below.refl wr.heap.size wr).alloc (Nat.le_refl _) (.cells #[.int .i64 xs[k2].num, .string xs[k2].name, .string xs[k2].maker, .int .i64 xs[k2].year, .slice A4 xs[k2].words.length c4] 99)
            generalize xs[k2] = x at *
            obtain ⟨num, name, maker, year, s⟩ := x
            obtain ⟨hbB, e0, e1, e2, e3, e4, ew⟩ := hE
            dsimp only at e0 e1 e2 e3 e4 ew hsk Hst hbr
            have Hnw := Lib.hid (heap_alloc_new wr (.cells #[.int .i64 num, .string name, .string maker, .int .i64 year, .slice A4 s.length c4] 99))
            have Hown1 := Lib.hid (own_below Hown.out hbr)
            have Hal1 := Lib.hid ((Hal.out.below hbl).below hbr)
            have Hrd1 := Lib.hid ((Hbs.out.below hbl).below (hbr.mono hzw))
            have Hew1 := Lib.hid (ew.below (hbr.mono hzB))
            have Hbl1 := Lib.hid (Hbl.out.trans (hbr.mono hzw))
            have hlw : wr.heap.size < (wr.alloc (.cells #[.int .i64 num, .string name, .string maker, .int .i64 year, .slice A4 s.length c4] 99)).heap.size := by simp
            have hzz : w12.heap.size ≤ wr.heap.size := hzw
            clear ew hbl hbr
            go_wp2_with fail
            clear e0 e1 e2 e3 e4
            generalize hqx : wr.heap.size = qx at *
            generalize wr.alloc (.cells #[.int .i64 num, .string name, .string maker, .int .i64 year, .slice A4 s.length c4] 99) = wn at *
            clear hqx Hbl Hown hbw
            have hzBn : B ≤ wn.heap.size := by omega
            go_loopw [14, 49] (fun fv jx wy => ∃ j : Nat, j ≤ ts.length ∧ fv = .bool (fitsA (ts.take j) ⟨num, name, maker, year, s⟩) ∧ jx = .int .i64 (j : Int) ∧ Below wn.heap.size wn wy) (fun _ jx _ => ts.length - (intOf jx).toNat)
            case atStart => exact ⟨0, Nat.zero_le _, rfl, rfl, Below.refl _ _⟩
            case round =>
              obtain ⟨j, hj, rfl, rfl, hby⟩ := hrel
              obtain ⟨f0, f1, f2, f3, f4⟩ := five_at ((hby.block _ hlw).trans Hnw.out)
              have Hby := Lib.hid hby
              by_cases hlt2 : j < ts.length
              · have hjv : j < vs.length := by omega
                have hlt2' : (j : Int) < (k : Int) := by omega
                obtain ⟨bb, oo, hA3, hbz, hxc⟩ := rd_atV (by rw [hvk]; exact Hrd1.out.below (hby.mono (by omega))) j hjv
                subst hA3
                have Hst2 := Lib.hid (fitsA_at (x := ⟨num, name, maker, year, s⟩) hlt2)
                obtain ⟨f, cap, hv, hrun, hcall⟩ := ask_any B ⟨num, name, maker, year, s⟩ A4 c4 vs[j] ts[j] wr ((Hal1.out.below hby).2 j hjv hlt2) (Hew1.out.below (hby.mono hzBn)) (Nat.le_trans hzBn hby.size) hsk
                rw [hv] at hxc
                have HC2 := Lib.hid hcall
                generalize fitsT ts[j] ⟨num, name, maker, year, s⟩ = r at *
                generalize fitsA (ts.take j) ⟨num, name, maker, year, s⟩ = acc2 at *
                clear hv hcall hby
                cases acc2 with
                | true =>
                  go_wp2_with fail
                  refine HC2.out.mono ?_; rintro e w5 ⟨rfl, hb5⟩
                  have Hby5 := Lib.hid (Hby.out.trans (hb5.mono Hby.out.size))
                  clear hb5 hxc
                  go_wp2_with fail
                  go_roundw
                  case rel => exact ⟨j + 1, by omega, by rw [Hst2.out]; rfl, by go_num, Hby5.out⟩
                  case measure => simp [intOf]; omega
                | false =>
                  go_wp2_with fail
                  go_roundw
                  case rel => exact ⟨j + 1, by omega, by rw [Hst2.out]; rfl, by go_num, Hby.out⟩
                  case measure => simp [intOf]; omega
              · have hjt : j = ts.length := by omega
                have hlt2' : ¬ (j : Int) < (k : Int) := by omega
                have Hfa := Lib.hid (show fitsA (ts.take j) ⟨num, name, maker, year, s⟩ = fitsA ts ⟨num, name, maker, year, s⟩ by rw [hjt, List.take_length])
                rw [Hfa.out]
                have Ho5 := Lib.hid (own_below Hown1.out hby)
                have Hb5 := Lib.hid (Hbl1.out.trans (hby.mono (by omega)))
                have hz5 := Hb5.out.size
                clear hby Hfa hjt
                cases hf : fitsA ts ⟨num, name, maker, year, s⟩ with
                | true =>
                  rw [hf, if_pos rfl] at Hst
                  clear hf f1 f2 f3 f4
                  go_wp2_with (at_builtin; refine wpList_apd 47 2 _ 1 8 Tryd.underlying47 infoDQ rfl (by omega) _ _ rfl rfl w12.heap.size _ acc.length _ rfl Ho5.out #[.int .i64 num] 1 1 rfl rfl (by simp [Value.oneCell']) (by simp [maxLen]; omega) (by omega) hz5 ?_; intro v7 w7 hown7 hg7; have Hb7 := Lib.hid (below_apd Hb5.out Ho5.out hg7 (Nat.le_refl _) hz5); have Ho7 := Lib.hid hown7; clear hown7 hg7)
                  go_roundw
                  case rel => exact ⟨k2 + 1, by omega, by go_num, by rw [Hst.out, ← ints_one, List.length_append]; exact Ho7.out, Hb7.out⟩
                  case measure => simp [intOf]; omega
                | false =>
                  rw [hf, if_neg (by decide)] at Hst
                  clear hf f1 f2 f3 f4
                  go_wp2_with fail
                  go_roundw
                  case rel => exact ⟨k2 + 1, by omega, by go_num, by rw [Hst.out]; exact Ho5.out, Hb5.out⟩
                  case measure => simp [intOf]; omega
          · have hkx : k2 = xs.length := by omega
            subst hkx
            have hlt' : ¬ (xs.length : Int) < (xs.length : Int) := by omega
            have hown2 := Hown.out
            rw [List.take_length] at hown2
            have HO := Lib.hid (ownsRow_le hown2 Hbl12.out.size)
            clear hown2
            rw [List.take_length]
            go_wp2_with fail
            go_ret2
            exact RetN_yes HR.out HC.out HO.out hbw.out
end Go.Proofs.YtmheijnckmlbnaaDoor
/- Queries: the plain law of the reference's parse. -/
namespace Go.Proofs.YtmheijnckmlbnaaDoor
open Go.RowKit Go.Joins

def isSg (c : UInt8) : Bool := c == 61 || c == 60 || c == 62
def nameW : ByteArray := ⟨#[110, 97, 109, 101]⟩
def makerW : ByteArray := ⟨#[109, 97, 107, 101, 114]⟩
def yearW : ByteArray := ⟨#[121, 101, 97, 114]⟩
theorem isSg_or {c : UInt8} (h : isSg c = true) : c = 61 ∨ c = 60 ∨ c = 62 := by
  unfold isSg at h
  simp only [Bool.or_eq_true, beq_iff_eq] at h
  rcases h with (h | h) | h
  · exact .inl h
  · exact .inr (.inl h)
  · exact .inr (.inr h)
theorem sg_bad {s : ByteArray} {k : Nat} (hk : k < s.size) (h : isSg s[k] = true) : isNm s.data.toList = false := by
  refine isNm_bad _ k (by simpa using hk) ?_
  have e : s.data.toList[k]'(by simpa using hk) = s[k] := rfl
  rw [e]
  rcases isSg_or h with h | h | h <;> rw [h] <;> rfl
theorem ext_list (s : ByteArray) (k : Nat) : (s.extract 0 k).data.toList = s.data.toList.take k := by
  simp only [ByteArray.data_extract, Array.toList_extract, List.extract_eq_take_drop]
  simp
theorem ba_ext2 {a b : ByteArray} (h : a.data.toList = b.data.toList) : a = b := by
  refine ba_inj ?_
  rw [ByteArray.toList_eq, ByteArray.toList_eq]
  exact h
theorem app_list (a : ByteArray) (c : UInt8) : (a ++ ⟨#[c]⟩).data.toList = a.data.toList ++ [c] := by simp
/-- a beginning that ends with the first sign -/
theorem beh_sg {s f0 : ByteArray} {c0 : UInt8} {k : Nat} (hlt : k < s.size) (h : ∀ i (hi : i < s.size), i < k → isSg s[i] = false) (hs : isSg s[k] = true)
    (hf : ∀ b ∈ f0.data.toList, isSg b = false) (hc : isSg c0 = true) :
    behB s (f0 ++ ⟨#[c0]⟩) = decide (s.extract 0 k = f0 ∧ s[k] = c0 ∧ k + 1 < s.size) := by
  have hl : s.data.toList.length = s.size := by simp
  have hfl : f0.data.toList.length = f0.size := by simp
  have hp : (f0 ++ (⟨#[c0]⟩ : ByteArray)).size = f0.size + 1 := by rw [ByteArray.size_append]; rfl
  have hg : ∀ i (hi : i < s.size), s.data.toList[i]'(by omega) = s[i] := fun i hi => rfl
  unfold behB
  rw [hp, ByteArray.toList_eq, ByteArray.toList_eq, ext_list, app_list]
  by_cases hA : s.extract 0 k = f0 ∧ s[k] = c0 ∧ k + 1 < s.size
  · rw [decide_eq_true hA]
    obtain ⟨h1, h2, h3⟩ := hA
    have e1 : s.data.toList.take k = f0.data.toList := by rw [← h1, ext_list]
    have e2 : f0.size = k := by rw [← hfl, ← e1, List.length_take]; omega
    rw [e2, decide_eq_true h3, Bool.true_and, beq_iff_eq, List.take_succ_eq_append_getElem (by omega), e1, hg k hlt, h2]
  · rw [decide_eq_false hA, Bool.and_eq_false_iff]
    by_cases hz : f0.size + 1 < s.size
    · refine .inr ?_
      rw [beq_eq_false_iff_ne]
      intro e
      rw [List.take_succ_eq_append_getElem (by omega)] at e
      obtain ⟨e1, e2⟩ := List.append_inj' e rfl
      have e3 : s[f0.size]'(by omega) = c0 := (List.cons.inj e2).1
      have e4 : k = f0.size := by
        rcases Nat.lt_trichotomy k f0.size with hh | hh | hh
        · exfalso
          have h5 : s[k] ∈ f0.data.toList := by
            rw [← e1, List.mem_take_iff_getElem]
            exact ⟨k, by omega, rfl⟩
          have h6 := hf _ h5
          rw [hs] at h6; cases h6
        · exact hh
        · exfalso
          have h6 := h f0.size (by omega) hh
          rw [e3, hc] at h6; cases h6
      subst e4
      refine hA ⟨ba_ext2 ?_, e3, by omega⟩
      rw [ext_list]
      exact e1
    · exact .inl (decide_eq_false hz)
theorem beh_no {s f0 : ByteArray} {c0 : UInt8} (h : ∀ i (hi : i < s.size), isSg s[i] = false) (hc : isSg c0 = true) : behB s (f0 ++ ⟨#[c0]⟩) = false := by
  have hp : (f0 ++ (⟨#[c0]⟩ : ByteArray)).size = f0.size + 1 := by rw [ByteArray.size_append]; rfl
  unfold behB
  rw [hp, ByteArray.toList_eq, ByteArray.toList_eq, ext_list, app_list, Bool.and_eq_false_iff]
  by_cases hz : f0.size + 1 < s.size
  · refine .inr ?_
    rw [beq_eq_false_iff_ne]
    intro e
    rw [List.take_succ_eq_append_getElem (by simp; omega)] at e
    obtain ⟨e1, e2⟩ := List.append_inj' e rfl
    have e3 : s[f0.size]'(by omega) = c0 := (List.cons.inj e2).1
    have h6 := h f0.size (by omega)
    rw [e3, hc] at h6; cases h6
  · exact .inl (decide_eq_false hz)
theorem behV_of {s f0 : ByteArray} {c0 : UInt8} (h : behB s (f0 ++ ⟨#[c0]⟩) = true) : behV s (f0 ++ ⟨#[c0]⟩) = s.extract (f0.size + 1) s.size := by
  have hp : (f0 ++ (⟨#[c0]⟩ : ByteArray)).size = f0.size + 1 := by rw [ByteArray.size_append]; rfl
  unfold behV
  rw [if_pos h, hp]
theorem nameP_eq : nameP = nameW ++ ⟨#[61]⟩ := ba_ext2 rfl
theorem makerP_eq : makerP = makerW ++ ⟨#[61]⟩ := ba_ext2 rfl
theorem yearP_eq (c : UInt8) : yearP c = yearW ++ ⟨#[c]⟩ := ba_ext2 rfl
theorem parse_no {s : ByteArray} (h : ∀ i (hi : i < s.size), isSg s[i] = false) : parseT s = if isNm s.data.toList = true then some (.word s) else none := by
  unfold parseT
  rw [nameP_eq, beh_no h rfl, if_neg (by decide), makerP_eq, beh_no h rfl, if_neg (by decide)]
  unfold yearL
  rw [yearP_eq, beh_no h rfl, if_neg (by decide)]
  unfold yearL
  rw [yearP_eq, beh_no h rfl, if_neg (by decide)]
  unfold yearL
  rw [yearP_eq, beh_no h rfl, if_neg (by decide)]
  rfl
def yearS (c : UInt8) (t : ByteArray) : Option Term := match readN t with
  | some y => if inB y 0 10000 = true then some (.year c y) else none
  | none => none
theorem yearL_cons (s : ByteArray) (c : UInt8) (l : List UInt8) : yearL s (c :: l) = if behB s (yearP c) = true then yearS c (behV s (yearP c)) else yearL s l := rfl
theorem parse_sg {s : ByteArray} {k : Nat} (hlt : k < s.size) (h : ∀ i (hi : i < s.size), i < k → isSg s[i] = false) (hs : isSg s[k] = true) :
    (s.extract 0 k = nameW → parseT s = if s[k] = 61 ∧ isNm (s.extract (k + 1) s.size).data.toList = true then some (.name (s.extract (k + 1) s.size)) else none) ∧
    (s.extract 0 k = makerW → parseT s = if s[k] = 61 ∧ isNm (s.extract (k + 1) s.size).data.toList = true then some (.maker (s.extract (k + 1) s.size)) else none) ∧
    (s.extract 0 k = yearW → parseT s = yearS s[k] (s.extract (k + 1) s.size)) ∧
    (s.extract 0 k ≠ nameW → s.extract 0 k ≠ makerW → s.extract 0 k ≠ yearW → parseT s = none) := by
  have hN := beh_sg (f0 := nameW) (c0 := 61) hlt h hs (by decide) rfl
  have hM := beh_sg (f0 := makerW) (c0 := 61) hlt h hs (by decide) rfl
  have hY := fun c0 hc => beh_sg (f0 := yearW) (c0 := c0) hlt h hs (by decide) hc
  have hVN := behV_of (s := s) (f0 := nameW) (c0 := 61)
  have hVM := behV_of (s := s) (f0 := makerW) (c0 := 61)
  have hVY := fun c0 => behV_of (s := s) (f0 := yearW) (c0 := c0)
  have hbad := sg_bad hlt hs
  have hsz : (s.extract 0 k).size = k := by rw [ByteArray.size_extract]; omega
  have hw : yearL s [] = none := by unfold yearL; rw [hbad, if_neg (by decide)]
  have hor := isSg_or hs
  have hP : parseT s = if behB s nameP = true then (if isNm (behV s nameP).data.toList = true then some (.name (behV s nameP)) else none)
    else if behB s makerP = true then (if isNm (behV s makerP).data.toList = true then some (.maker (behV s makerP)) else none) else yearL s [61, 60, 62] := rfl
  rw [yearL_cons, yearL_cons, yearL_cons, hw, nameP_eq, makerP_eq, yearP_eq, yearP_eq, yearP_eq, hN, hM, hY 61 rfl, hY 60 rfl, hY 62 rfl] at hP
  rw [hN] at hVN
  rw [hM] at hVM
  have hVY2 : ∀ c0, isSg c0 = true → decide (s.extract 0 k = yearW ∧ s[k] = c0 ∧ k + 1 < s.size) = true → behV s (yearW ++ ⟨#[c0]⟩) = s.extract (yearW.size + 1) s.size := fun c0 hc => by
    have h9 := hVY c0
    rw [hY c0 hc] at h9
    exact h9
  clear hVY hY hN hM
  have hemp : ¬ k + 1 < s.size → s.extract (k + 1) s.size = ⟨#[]⟩ := fun hh => by
    refine ba_ext2 (List.eq_nil_of_length_eq_zero ?_)
    have : (s.extract (k + 1) s.size).data.toList.length = (s.extract (k + 1) s.size).size := by simp
    rw [this, ByteArray.size_extract]; omega
  refine ⟨fun e => ?_, fun e => ?_, fun e => ?_, fun e1 e2 e3 => ?_⟩
  · have hk4 : k = 4 := by rw [← hsz, e]; rfl
    have n1 : ¬ (s.extract 0 k = makerW) := by rw [e]; decide
    have n2 : ¬ (s.extract 0 k = yearW) := by rw [e]; decide
    rw [hP]
    by_cases hA : s[k] = 61 ∧ k + 1 < s.size
    · have hv := hVN (decide_eq_true ⟨e, hA.1, hA.2⟩)
      rw [show nameW.size + 1 = k + 1 by rw [hk4]; rfl] at hv
      rw [hv, decide_eq_true (⟨e, hA.1, hA.2⟩ : s.extract 0 k = nameW ∧ s[k] = 61 ∧ k + 1 < s.size)]
      simp only [n1, n2, false_and, decide_false, Bool.false_eq_true, if_false, if_true, hA.1, true_and]
    · have hr : ¬ (s[k] = 61 ∧ isNm (s.extract (k + 1) s.size).data.toList = true) := by
        rintro ⟨a1, a2⟩
        have : ¬ k + 1 < s.size := fun hh => hA ⟨a1, hh⟩
        rw [hemp this] at a2
        cases a2
      have hA2 : ¬ (s.extract 0 k = nameW ∧ s[k] = 61 ∧ k + 1 < s.size) := fun h => hA h.2
      rw [if_neg hr]
      simp only [n1, n2, hA2, false_and, decide_false, Bool.false_eq_true, if_false]
  · have hk4 : k = 5 := by rw [← hsz, e]; rfl
    have n1 : ¬ (s.extract 0 k = nameW) := by rw [e]; decide
    have n2 : ¬ (s.extract 0 k = yearW) := by rw [e]; decide
    rw [hP]
    by_cases hA : s[k] = 61 ∧ k + 1 < s.size
    · have hv := hVM (decide_eq_true ⟨e, hA.1, hA.2⟩)
      rw [show makerW.size + 1 = k + 1 by rw [hk4]; rfl] at hv
      rw [hv, decide_eq_true (⟨e, hA.1, hA.2⟩ : s.extract 0 k = makerW ∧ s[k] = 61 ∧ k + 1 < s.size)]
      simp only [n1, n2, false_and, decide_false, Bool.false_eq_true, if_false, if_true, hA.1, true_and]
    · have hr : ¬ (s[k] = 61 ∧ isNm (s.extract (k + 1) s.size).data.toList = true) := by
        rintro ⟨a1, a2⟩
        have : ¬ k + 1 < s.size := fun hh => hA ⟨a1, hh⟩
        rw [hemp this] at a2
        cases a2
      have hA2 : ¬ (s.extract 0 k = makerW ∧ s[k] = 61 ∧ k + 1 < s.size) := fun h => hA h.2
      rw [if_neg hr]
      simp only [n1, n2, hA2, false_and, decide_false, Bool.false_eq_true, if_false]
  · have hk4 : k = 4 := by rw [← hsz, e]; rfl
    have n1 : ¬ (s.extract 0 k = nameW) := by rw [e]; decide
    have n2 : ¬ (s.extract 0 k = makerW) := by rw [e]; decide
    rw [hP]
    by_cases hz : k + 1 < s.size
    · rcases hor with hc | hc | hc
      · have hv := hVY2 61 rfl (decide_eq_true ⟨e, hc, hz⟩)
        rw [show yearW.size + 1 = k + 1 by rw [hk4]; rfl] at hv
        rw [hv, hc, decide_eq_false (fun h => n1 h.1), decide_eq_false (fun h => n2 h.1), decide_eq_true ⟨e, rfl, hz⟩]
        rfl
      · have hv := hVY2 60 rfl (decide_eq_true ⟨e, hc, hz⟩)
        rw [show yearW.size + 1 = k + 1 by rw [hk4]; rfl] at hv
        rw [hv, hc, decide_eq_false (fun h => n1 h.1), decide_eq_false (fun h => n2 h.1), decide_eq_false (fun h => absurd h.2.1 (by decide)), decide_eq_true ⟨e, rfl, hz⟩]
        rfl
      · have hv := hVY2 62 rfl (decide_eq_true ⟨e, hc, hz⟩)
        rw [show yearW.size + 1 = k + 1 by rw [hk4]; rfl] at hv
        rw [hv, hc, decide_eq_false (fun h => n1 h.1), decide_eq_false (fun h => n2 h.1), decide_eq_false (fun h => absurd h.2.1 (by decide)), decide_eq_false (fun h => absurd h.2.1 (by decide)), decide_eq_true ⟨e, rfl, hz⟩]
        rfl
    · have hy : ∀ c, yearS c (s.extract (k + 1) s.size) = none := fun c => by rw [hemp hz]; rfl
      rw [hy, decide_eq_false (fun h => n1 h.1), decide_eq_false (fun h => n2 h.1), decide_eq_false (fun h => hz h.2.2), decide_eq_false (fun h => hz h.2.2), decide_eq_false (fun h => hz h.2.2)]
      rfl
  · rw [hP]
    simp only [e1, e2, e3, false_and, decide_false, Bool.false_eq_true, if_false]
end Go.Proofs.YtmheijnckmlbnaaDoor
/- Loans, part 1: how lists of loans lie; one loan's size and copy. -/
namespace Go.Proofs.YtmheijnckmlbnaaDoor
open Go.RowKit Go.Joins

structure Ln where
  what : ByteArray
  who : ByteArray
  from_ : Int
  till : Int
deriving DecidableEq
def cellsL (x : Ln) : List Value := [.string x.what, .string x.who, .int .i64 x.from_, .int .i64 x.till]
abbrev aggL (x : Ln) : Value := .agg #[.string x.what, .string x.who, .int .i64 x.from_, .int .i64 x.till]
/-- the reading of a list of loans -/
def RdL (w : World) (B : Nat) (v : Value) (xs : List Ln) : Prop := Rd w B v xs.length 4 (xs.flatMap cellsL)
theorem RdL.below {w w' : World} {B : Nat} {v : Value} {xs : List Ln} (h : RdL w B v xs) (hb : Below B w w') : RdL w' B v xs := Rd.below h hb
theorem RdL.more {w : World} {B B' : Nat} {v : Value} {xs : List Ln} (h : RdL w B v xs) (hB : B ≤ B') : RdL w B' v xs := Rd.more h hB
theorem RdL.next {w w' : World} {v : Value} {xs : List Ln} (h : RdL w w.heap.size v xs) (hb : Below w.heap.size w w') : RdL w' w'.heap.size v xs := (h.below hb).more hb.size
theorem RdL.drewN {w : World} {B : Nat} {v : Value} {xs : List Ln} (h : RdL w B v xs) (n : Nat) : RdL (w.drewN n) B v xs := h
theorem RdL.slice {w : World} {B : Nat} {v : Value} {xs : List Ln} (h : RdL w B v xs) : ∃ A c, v = .slice A xs.length c := by
  obtain ⟨_, A, c, h2, _⟩ := h
  exact ⟨A, c, h2⟩
/-- the four cells of a loan -/
structure LnAt (w : World) (B b o : Nat) (x : Ln) : Prop where
  lt : b < B
  c0 : w.cell? ⟨b, o, none⟩ = some (.string x.what)
  c1 : w.cell? ⟨b, o + 1, none⟩ = some (.string x.who)
  c2 : w.cell? ⟨b, o + 2, none⟩ = some (.int .i64 x.from_)
  c3 : w.cell? ⟨b, o + 3, none⟩ = some (.int .i64 x.till)
theorem LnAt.below {w w' : World} {B b o : Nat} {x : Ln} (h : LnAt w B b o x) (hb : Below B w w') : LnAt w' B b o x :=
  ⟨h.lt, (hb.cell (p := ⟨b, o, none⟩) h.lt).trans h.c0, (hb.cell (p := ⟨b, o + 1, none⟩) h.lt).trans h.c1, (hb.cell (p := ⟨b, o + 2, none⟩) h.lt).trans h.c2, (hb.cell (p := ⟨b, o + 3, none⟩) h.lt).trans h.c3⟩
theorem LnAt.drewN {w : World} {B b o : Nat} {x : Ln} (h : LnAt w B b o x) (n : Nat) : LnAt (w.drewN n) B b o x := ⟨h.1, h.2, h.3, h.4, h.5⟩
theorem RdL.at {w : World} {B n c : Nat} {A : Option Addr} {xs : List Ln} (h : RdL w B (.slice A n c) xs) (k : Nat) (hk : k < xs.length) :
    ∃ b off, A = some ⟨b, off, none⟩ ∧ LnAt w B b (off + k * 4) xs[k] := by
  obtain ⟨_, A0, c0, hv, hc⟩ := h
  injection hv with e1 e2 e3
  subst e1
  obtain ⟨b, off, hA, hb, hcc⟩ := hc (by omega)
  have hat : ∀ j u, j < 4 → (cellsL xs[k])[j]? = some u → w.cell? ⟨b, off + k * 4 + j, none⟩ = some u := fun j u hj hu => by
    have := hcc (k * 4 + j) u ((flat_at cellsL 4 (fun _ => rfl) xs k j hk hj).trans hu)
    rwa [← Nat.add_assoc] at this
  exact ⟨b, off, hA, ⟨hb, hat 0 _ (by omega) rfl, hat 1 _ (by omega) rfl, hat 2 _ (by omega) rfl, hat 3 _ (by omega) rfl⟩⟩
theorem infoL : (Tryd.prog.info? 26).map (fun i => (i.zero, i.size, i.bytes)) = some (some (.agg #[.string ⟨#[]⟩, .string ⟨#[]⟩, .int .i64 0, .int .i64 0]), 4, 48) := by kernel_rfl

def lenL (x : Ln) : Prop := x.what.size ≤ maxLen ∧ x.who.size ≤ maxLen
def smL (x : Ln) : Prop := x.what.size ≤ 1048576 ∧ x.who.size ≤ 1048576
def SzL (x : Ln) (left : Int) (w : World) (e : Ending) (w' : World) : Prop := ∃ r : Int, e = .returned (.int .i64 r) ∧ r ≤ left ∧ (0 ≤ r → smL x) ∧ Below w.heap.size w w'
end Go.Proofs.YtmheijnckmlbnaaDoor
/- Loans, part 2: sizes of lists, one loan's copy and equality. -/
namespace Go.Proofs.YtmheijnckmlbnaaDoor
open Go.RowKit Go.Joins

def SzLs (xs : List Ln) (left : Int) (w : World) (e : Ending) (w' : World) : Prop := ∃ r : Int, e = .returned (.int .i64 r) ∧ r ≤ left ∧ (0 ≤ r → xs.length ≤ 1048576 ∧ ∀ x ∈ xs, smL x) ∧ Below w.heap.size w w'
end Go.Proofs.YtmheijnckmlbnaaDoor
/- Loans, part 3: lists of loans copied and compared. -/
namespace Go.Proofs.YtmheijnckmlbnaaDoor
open Go.RowKit Go.Joins

theorem set4 (l r : List Value) (n : Nat) (hn : l.length = n) (hr : 4 ≤ r.length) (a b c d : Value) :
    ((((l ++ r).set n a).set (n + 1) b).set (n + 2) c).set (n + 3) d = (l ++ [a, b, c, d]) ++ r.drop 4 := by
  subst hn
  match r, hr with
  | x0 :: x1 :: x2 :: x3 :: r, _ =>
    rw [List.set_append_right _ _ (Nat.le_refl _), List.set_append_right _ _ (by omega), List.set_append_right _ _ (by omega), List.set_append_right _ _ (by omega)]
    simp

end Go.Proofs.YtmheijnckmlbnaaDoor
/- Loans, part 4: lists of loans compared. -/
namespace Go.Proofs.YtmheijnckmlbnaaDoor
open Go.RowKit Go.Joins

def EightC (w : World) (b1 o1 b2 o2 : Nat) (a b : ByteArray) (f t : Int) : Prop :=
  w.cell? ⟨b1, o1, none⟩ = some (.string a) ∧ w.cell? ⟨b1, o1 + 1, none⟩ = some (.string b) ∧ w.cell? ⟨b1, o1 + 2, none⟩ = some (.int .i64 f) ∧ w.cell? ⟨b1, o1 + 3, none⟩ = some (.int .i64 t) ∧ w.cell? ⟨b2, o2, none⟩ = some (.string a) ∧ w.cell? ⟨b2, o2 + 1, none⟩ = some (.string b) ∧ w.cell? ⟨b2, o2 + 2, none⟩ = some (.int .i64 f) ∧ w.cell? ⟨b2, o2 + 3, none⟩ = some (.int .i64 t)
theorem eight_cells {W w1 : World} {b1 o1 b2 o2 : Nat} {a b : ByteArray} {f t : Int} (hb : Below W.heap.size W w1) (h : EightC W b1 o1 b2 o2 a b f t) : EightC w1 b1 o1 b2 o2 a b f t :=
  have k {p : Addr} {v : Value} (h : W.cell? p = some v) : w1.cell? p = some v := (hb.cell (World.block_lt_of_cell? W _ h)).trans h
  ⟨k h.1, k h.2.1, k h.2.2.1, k h.2.2.2.1, k h.2.2.2.2.1, k h.2.2.2.2.2.1, k h.2.2.2.2.2.2.1, k h.2.2.2.2.2.2.2⟩

end Go.Proofs.YtmheijnckmlbnaaDoor
/- Loans, part 5: the reading of an argument. -/
namespace Go.Proofs.YtmheijnckmlbnaaDoor
open Go.ChangeShapes Go.WideShapes Go.ChangeAt Go.RowKit

end Go.Proofs.YtmheijnckmlbnaaDoor
/- Similar entries, part 5: the marks' helpers. -/
namespace Go.Proofs.YtmheijnckmlbnaaDoor
open Go.RowKit Go.Joins

/-- the digits in front of what is there already -/
def mkD : Nat → Nat → List UInt8 → List UInt8
  | 0, _, out => out
  | f + 1, k, out => if k = 0 then out else mkD f (k / 10) (UInt8.ofNat (48 + k % 10) :: out)
theorem mkD_zero (f : Nat) (out : List UInt8) : mkD f 0 out = out := by cases f <;> simp [mkD]
theorem mkD_step (f m : Nat) (out : List UInt8) (h : 0 < m) (hf : m ≤ f) : ∃ f', mkD f m out = mkD f' (m / 10) (UInt8.ofNat (48 + m % 10) :: out) ∧ m / 10 ≤ f' := by
  cases f with
  | zero => omega
  | succ f => exact ⟨f, by simp [mkD, show m ≠ 0 by omega], by omega⟩
/-- the text of a mark -/
def markT (k : Int) : ByteArray := if k ≤ 0 then ⟨#[109, 48]⟩ else ⟨(109 :: mkD k.toNat k.toNat []).toArray⟩
theorem digB (m : Nat) : IntKind.u8.wrap (48 + (m : Int) % 10) = ((UInt8.ofNat (48 + m % 10)).toNat : Int) := by
  rw [IntKind.wrap_u8]
  simp only [UInt8.toNat_ofNat']
  omega

set_option maxHeartbeats 400000 in
theorem markText_any (k : Int) (w : World) (hk : k ≤ 4611686018427387904) :
    Calls Tryd.prog 77 #[.int .i64 k] w fun e w' => e = .returned (.string (markT k)) ∧ Below w.heap.size w w' := by
  by_cases h : k ≤ 0
  · have e1 := Lib.hid (show markT k = ⟨#[109, 48]⟩ by simp [markT, h])
    have hb0 := Below.refl w.heap.size w
    go_enter Tryd.func77, Tryd.ntmps77
    go_wp2_with fail
    go_ret
    rw [e1.out]; exact ⟨rfl, hb0⟩
  · obtain ⟨n, rfl⟩ : ∃ n : Nat, k = n := ⟨k.toNat, by omega⟩
    have e1 := Lib.hid (show markT (n : Int) = ⟨(109 :: mkD n n []).toArray⟩ by simp only [markT, if_neg h, Int.toNat_natCast])
    have hn : 0 < n := by omega
    have hb : decide ((n : Int) ≤ 0) = false := by simp; omega
    clear h
    go_enter Tryd.func77, Tryd.ntmps77
    go_wp2_with fail
    go_loopw [0, 3] (fun a v wr => ∃ (f m : Nat) (out : List UInt8), a = .int .i64 m ∧ m ≤ f ∧ out.length + m ≤ n ∧ v = .string ⟨out.toArray⟩ ∧ mkD n n [] = mkD f m out ∧ Below w.heap.size w wr) (fun a _ _ => (intOf a).toNat)
    case atStart => exact ⟨n, n, [], rfl, Nat.le_refl _, by simp, rfl, rfl, Below.refl _ _⟩
    case round =>
      obtain ⟨f, m, out, rfl, hmf, hmn, rfl, heq, hbl⟩ := hrel
      have Heq := Lib.hid heq; clear heq
      have hl1 : 1 + out.length ≤ 4611686018427387905 := by omega
      by_cases hlt : 0 < m
      · have hd := digB m
        have Hst := Lib.hid (mkD_step f m out hlt hmf)
        have hcv := run_conv_one (P := Tryd.prog) (w := wr) 22 9 5 Tryd.underlying22 Tryd.underlying5 Tryd.underlying9 (UInt8.ofNat (48 + m % 10))
        have hb2 := hbl.alloc hbl.size (.cells #[.int .u8 ((UInt8.ofNat (48 + m % 10)).toNat : Int)] 5)
        generalize UInt8.ofNat (48 + m % 10) = d at *
        go_wp2_with fail
        go_roundw
        case rel =>
          obtain ⟨f', h1, h2⟩ := Hst.out
          exact ⟨f', m / 10, d :: out, by go_num, h2, by simp; omega, by rw [ba_app]; simp, by rw [Heq.out, h1], hb2⟩
        case measure => simp [intOf]; omega
      · have hm0 : (m : Int) ≤ 0 := by omega
        go_wp2_with fail
        go_ret
        have he := Heq.out
        rw [show m = 0 by omega, mkD_zero] at he
        rw [e1.out, he]
        exact ⟨by rw [ba_app]; simp, hbl⟩


/-- the marks from k on -/
def marks (k : Int) (n : Nat) : List ByteArray := (List.range n).map fun (i : Nat) => markT (k + (i : Int))
theorem marks_at (k : Int) (n i : Nat) (h : i < n) : (strs (marks k n))[i]? = some (.string (markT (k + (i : Int)))) := by simp [strs, marks, h]
theorem marks_len (k : Int) (n : Nat) : (marks k n).length = n := by simp [marks]

set_option maxHeartbeats 400000 in
theorem markStringS_any (base : Nat) (v1 : Value) (k0 : Int) (n : Nat) (xs : List Value) (w : World) (h1 : w.ownsRow base 9 1 v1 n xs) (hk0 : 0 ≤ k0) (hk : k0 + n ≤ 4611686018427387904) :
    Calls Tryd.prog 40 #[v1, .int .i64 k0] w fun e w' => e = .returned (.int .i64 (k0 + n)) ∧ w.grownBy w' v1.ownBlock ∧ w'.ownsRow base 9 1 v1 n (strs (marks k0 n)) := by
  have hl : xs.length = n := by simpa using h1.1
  have Hl := Lib.hid hl; clear hl
  rcases ownsRow_forms h1 with ⟨rfl, rfl⟩ | ⟨g, cap, rfl⟩
  · have hg0 : w.grownBy w (Value.slice none 0 0).ownBlock := ⟨rfl, rfl, rfl, Nat.le_refl _, fun _ _ _ => rfl⟩
    have Ho := Lib.hid (World.ownsRow_nil w base 9 1)
    clear h1
    go_enter Tryd.func40, Tryd.ntmps40
    go_wp2_with fail
    go_loop [1, 5] (fun a i => i = .int .i64 0 ∧ a = .int .i64 k0) (fun _ _ => 0)
    case atStart => exact ⟨rfl, rfl⟩
    case round =>
      obtain ⟨rfl, rfl⟩ := hrel
      go_wp2_with fail
      go_ret
      exact ⟨by simp, hg0, by simpa [marks, strs] using Ho.out⟩
  · have hg0 : w.grownBy w (some g) := ⟨rfl, rfl, rfl, Nat.le_refl _, fun _ _ _ => rfl⟩
    have Hsh := Lib.hid h1
    clear h1
    go_enter Tryd.func40, Tryd.ntmps40
    go_wp2_with fail
    go_loopw [1, 5] (fun a i wr => ∃ k : Nat, k ≤ n ∧ i = .int .i64 k ∧ a = .int .i64 (k0 + k) ∧ wr.ownsRow base 9 1 (.slice (some ⟨g, 0, none⟩) n cap) n (strs (marks k0 k) ++ xs.drop k) ∧ w.grownBy wr (some g)) (fun _ i _ => n - (intOf i).toNat)
    case atStart => exact ⟨0, Nat.zero_le _, rfl, by simp, by simpa [marks, strs] using Hsh.out, hg0⟩
    case round =>
      obtain ⟨k, hk, rfl, rfl, hown, hgr⟩ := hrel
      by_cases hlt : k < n
      · have hlt' : (k : Int) < (n : Int) := by omega
        have Hmk := Lib.hid (markText_any (k0 + k))
        have hlen : (strs (marks k0 k)).length = k := by simp [strs, marks]
        have hset : (strs (marks k0 k) ++ xs.drop k).set k (.string (markT (k0 + k))) = strs (marks k0 (k + 1)) ++ xs.drop (k + 1) := by
          rw [List.set_append_right _ _ (by omega), hlen, Nat.sub_self, List.drop_eq_getElem_cons (by rw [Hl.out]; exact hlt), List.set_cons_zero]
          simp [strs, marks, List.range_succ]
        have Hset := Lib.hid hset; clear hset hlen
        generalize markT (k0 + (k : Int)) = M at *
        have Hown := Lib.hid hown; clear hown
        go_wp2_with fail
        refine (Hmk.out _ (by omega)).mono ?_; rintro e wq ⟨rfl, hbq⟩
        have hown := own_below Hown.out hbq
        obtain ⟨u, hu⟩ : ∃ u, (strs (marks k0 k) ++ xs.drop k)[k]? = some u := ⟨_, List.getElem?_eq_getElem (by have := hown.1; omega)⟩
        have hc : wq.cell? ⟨g, k, none⟩ = some u := (hown.cellAt k (by omega)).trans hu
        have hf : wq.frozen? ⟨g, k, none⟩ = false := hown.frozenAt k
        obtain ⟨ho2, hg2⟩ := hown.stored k (.string M)
        rw [Hset.out] at ho2
        have hg3 := grown_trans (grown_trans hgr (grown_of_below hbq _)) hg2
        clear hu hown
        go_wp2_with fail
        go_roundw
        case rel => exact ⟨k + 1, by omega, by go_num, by go_num, ho2, hg3⟩
        case measure => simp [intOf]; omega
      · obtain rfl : k = n := by omega
        rw [List.drop_of_length_le (by rw [Hl.out]; exact Nat.le_refl _), List.append_nil] at hown
        go_wp2_with fail
        go_ret
        exact ⟨rfl, hgr, hown⟩

def marksI (k : Int) (n : Nat) : List Int := (List.range n).map fun (i : Nat) => k + (i : Int)
theorem marksI_len (k : Int) (n : Nat) : (marksI k n).length = n := by simp [marksI]
theorem marksI_at (k : Int) (n i : Nat) (h : i < n) : (marksI k n)[i]'(by rw [marksI_len]; exact h) = k + (i : Int) := by simp [marksI]
theorem marksI_succ (k : Int) (n : Nat) : marksI k (n + 1) = marksI k n ++ [k + (n : Int)] := by
  unfold marksI
  rw [List.range_succ, List.map_append]; rfl

set_option maxRecDepth 100000 in
set_option maxHeartbeats 800000 in
theorem heldInt64S_any (B : Nat) (v : Value) (k0 : Int) (n : Nat) (w : World) (h : Rd w B v n 1 (ints (marksI k0 n))) (hk0 : 0 ≤ k0) (hk : k0 + n ≤ 4611686018427387904) :
    Calls Tryd.prog 36 #[v, .int .i64 k0] w fun e w' => e = .returned (.int .i64 (k0 + n)) ∧ w = w' := by
  have h' : Rd w B v (marksI k0 n).length 1 (ints (marksI k0 n)) := by rw [marksI_len]; exact h
  have H := Lib.hid h'
  obtain ⟨_, A, c, rfl, _⟩ := h
  clear h'
  go_enter Tryd.func36, Tryd.ntmps36
  go_wp2_with fail
  go_loop [1, 5] (fun a i => ∃ k : Nat, k ≤ n ∧ i = .int .i64 (k : Int) ∧ a = .int .i64 (k0 + k)) (fun _ i => n - (intOf i).toNat)
  case atStart => exact ⟨0, Nat.zero_le _, rfl, by simp⟩
  case round =>
    obtain ⟨k, hkn, rfl, rfl⟩ := hrel
    by_cases hlt : k < n
    · obtain ⟨b1, o1, hA, hx⟩ := ints_rd (by rw [marksI_len] at H; rw [marksI_len]; exact H.out) k (by rw [marksI_len]; exact hlt)
      subst hA
      rw [marksI_at k0 n k hlt] at hx
      have hlt' : (k : Int) < (n : Int) := by omega
      go_wp2_with fail
      go_round
      case rel => exact ⟨k + 1, by omega, by go_num, by go_num⟩
      case measure => simp [intOf]; omega
    · have hlt' : (n : Int) ≤ (k : Int) := by omega
      go_wp2_with fail
      go_ret
      obtain rfl : k = n := by omega
      exact ⟨rfl, rfl⟩

set_option maxRecDepth 100000 in
set_option maxHeartbeats 800000 in
theorem markInt64S_any (base : Nat) (v : Value) (k0 : Int) (n : Nat) (xs : List Value) (w : World) (h : w.ownsRow base 2 1 v n xs) (hk0 : 0 ≤ k0) (hk : k0 + n ≤ 4611686018427387904) :
    Calls Tryd.prog 35 #[v, .int .i64 k0] w fun e w' => e = .returned (.int .i64 (k0 + n)) ∧ w.grownBy w' v.ownBlock ∧ w'.ownsRow base 2 1 v n (ints (marksI k0 n)) := by
  have hl : xs.length = n := by simpa using h.1
  have Hl := Lib.hid hl; clear hl
  rcases ownsRow_forms h with ⟨rfl, rfl⟩ | ⟨g, cap, rfl⟩
  · have hg0 : w.grownBy w (Value.slice none 0 0).ownBlock := ⟨rfl, rfl, rfl, Nat.le_refl _, fun _ _ _ => rfl⟩
    have Ho := Lib.hid (World.ownsRow_nil w base 2 1)
    clear h
    go_enter Tryd.func35, Tryd.ntmps35
    go_wp2_with fail
    go_loop [1, 5] (fun a i => i = .int .i64 0 ∧ a = .int .i64 k0) (fun _ _ => 0)
    case atStart => exact ⟨rfl, rfl⟩
    case round =>
      obtain ⟨rfl, rfl⟩ := hrel
      go_wp2_with fail
      go_ret
      exact ⟨by simp, hg0, by simpa [marksI, ints] using Ho.out⟩
  · have hg0 : w.grownBy w (some g) := ⟨rfl, rfl, rfl, Nat.le_refl _, fun _ _ _ => rfl⟩
    have Hsh := Lib.hid h
    clear h
    go_enter Tryd.func35, Tryd.ntmps35
    go_wp2_with fail
    go_loopw [1, 5] (fun a i wr => ∃ k : Nat, k ≤ n ∧ i = .int .i64 (k : Int) ∧ a = .int .i64 (k0 + k) ∧ wr.ownsRow base 2 1 (.slice (some ⟨g, 0, none⟩) n cap) n (ints (marksI k0 k) ++ xs.drop k) ∧ w.grownBy wr (some g)) (fun _ i _ => n - (intOf i).toNat)
    case atStart => exact ⟨0, Nat.zero_le _, rfl, by simp, by simpa [marksI, ints] using Hsh.out, hg0⟩
    case round =>
      obtain ⟨k, hkn, rfl, rfl, hown, hgr⟩ := hrel
      by_cases hlt : k < n
      · have hlt' : (k : Int) < (n : Int) := by omega
        have hset : (ints (marksI k0 k) ++ xs.drop k).set k (.int .i64 (k0 + k)) = ints (marksI k0 (k + 1)) ++ xs.drop (k + 1) := by
          have hlen : (ints (marksI k0 k)).length = k := by simp [ints, marksI_len]
          rw [List.set_append_right _ _ (by omega), hlen, Nat.sub_self, List.drop_eq_getElem_cons (by rw [Hl.out]; exact hlt), List.set_cons_zero]
          simp [ints, marksI_succ]
        have Hset := Lib.hid hset; clear hset
        obtain ⟨u, hu⟩ : ∃ u, (ints (marksI k0 k) ++ xs.drop k)[k]? = some u := ⟨_, List.getElem?_eq_getElem (by have := hown.1; omega)⟩
        have hc : wr.cell? ⟨g, k, none⟩ = some u := (hown.cellAt k (by omega)).trans hu
        have hf : wr.frozen? ⟨g, k, none⟩ = false := hown.frozenAt k
        obtain ⟨ho2, hg2⟩ := hown.stored k (.int .i64 (k0 + k))
        rw [Hset.out] at ho2
        have Ho2 := Lib.hid ho2
        have Hg2 := Lib.hid (grown_trans hgr hg2)
        clear hu hown hg2 ho2 hgr
        go_wp2_with fail
        go_roundw
        case rel => exact ⟨k + 1, by omega, by go_num, by go_num, Ho2.out, Hg2.out⟩
        case measure => simp [intOf]; omega
      · obtain rfl : k = n := by omega
        rw [List.drop_of_length_le (by rw [Hl.out]; exact Nat.le_refl _), List.append_nil] at hown
        have Hown := Lib.hid hown; clear hown
        go_wp2_with fail
        go_ret
        exact ⟨rfl, hgr, Hown.out⟩
end Go.Proofs.YtmheijnckmlbnaaDoor
/- Loans, part 6: markLoanS. -/
namespace Go.Proofs.YtmheijnckmlbnaaDoor
open Go.RowKit Go.Joins

def marksL (k : Int) (n : Nat) : List Ln := (List.range n).map fun (i : Nat) => ⟨markT (k + 4 * (i : Int)), markT (k + 4 * (i : Int) + 1), k + 4 * (i : Int) + 1 + 1, k + 4 * (i : Int) + 1 + 1 + 1⟩
theorem marksL_len (k : Int) (n : Nat) : (marksL k n).length = n := by simp [marksL]
theorem marksL_succ (k : Int) (n : Nat) : (marksL k (n + 1)).flatMap cellsL = (marksL k n).flatMap cellsL ++ [.string (markT (k + 4 * (n : Int))), .string (markT (k + 4 * (n : Int) + 1)), .int .i64 (k + 4 * (n : Int) + 1 + 1), .int .i64 (k + 4 * (n : Int) + 1 + 1 + 1)] := by
  unfold marksL
  rw [List.range_succ, List.map_append, List.flatMap_append]; rfl

end Go.Proofs.YtmheijnckmlbnaaDoor
/- Loans, part 7: heldLoanS. -/
namespace Go.Proofs.YtmheijnckmlbnaaDoor
open Go.RowKit Go.Joins

theorem marksL_at (k : Int) (n i : Nat) (h : i < n) : (marksL k n)[i]'(by rw [marksL_len]; exact h) = ⟨markT (k + 4 * (i : Int)), markT (k + 4 * (i : Int) + 1), k + 4 * (i : Int) + 1 + 1, k + 4 * (i : Int) + 1 + 1 + 1⟩ := by simp [marksL]

theorem four_kept {W w1 : World} {a b c d : Addr} {x y z t : Value} (hb : Below W.heap.size W w1) (h : W.cell? a = some x ∧ W.cell? b = some y ∧ W.cell? c = some z ∧ W.cell? d = some t) :
    w1.cell? a = some x ∧ w1.cell? b = some y ∧ w1.cell? c = some z ∧ w1.cell? d = some t :=
  have k {p : Addr} {v : Value} (h : W.cell? p = some v) : w1.cell? p = some v := (hb.cell (World.block_lt_of_cell? W _ h)).trans h
  ⟨k h.1, k h.2.1, k h.2.2.1, k h.2.2.2⟩

end Go.Proofs.YtmheijnckmlbnaaDoor
/- Loans, part 8: one loan's validity, clashes, the order: both sides. -/
namespace Go.Proofs.YtmheijnckmlbnaaDoor
open Go.RowKit Go.Joins

theorem isDay_any (n : Int) (w : World) : Calls Tryd.prog 85 #[.int .i64 n] w fun e w' => e = .returned (.bool (inB n 0 100000)) ∧ w = w' := by
  have HB := Lib.hid (fun wx => between_any n 0 100000 wx)
  generalize inB n 0 100000 = g at *
  go_enter Tryd.func85, Tryd.ntmps85
  go_wp2_with fail
  refine (HB.out _).mono ?_; rintro e w1 ⟨rfl, rfl⟩
  go_wp2_with fail
  go_ret
  exact ⟨rfl, rfl⟩
theorem l23Day_any (n : Int) (w : World) : Calls Tryd.prog 87 #[.int .i64 n] w fun e w' => e = .returned (.bool (inB n 0 100000)) ∧ w = w' := by
  have HB := Lib.hid (fun wx => l00In_any n 0 100000 wx)
  generalize inB n 0 100000 = g at *
  go_enter Tryd.func87, Tryd.ntmps87
  go_wp2_with fail
  refine (HB.out _).mono ?_; rintro e w1 ⟨rfl, rfl⟩
  go_wp2_with fail
  go_ret
  exact ⟨rfl, rfl⟩

def loanOk (x : Ln) : Bool := isNm x.what.data.toList && isNm x.who.data.toList && inB x.from_ 0 100000 && inB x.till 0 100000 && decide (x.from_ ≤ x.till)
theorem loan_cases (x : Ln) : (isNm x.what.data.toList = false ∧ loanOk x = false) ∨ (isNm x.what.data.toList = true ∧ isNm x.who.data.toList = false ∧ loanOk x = false) ∨
    (isNm x.what.data.toList = true ∧ isNm x.who.data.toList = true ∧ inB x.from_ 0 100000 = false ∧ loanOk x = false) ∨
    (isNm x.what.data.toList = true ∧ isNm x.who.data.toList = true ∧ inB x.from_ 0 100000 = true ∧ inB x.till 0 100000 = false ∧ loanOk x = false) ∨
    (isNm x.what.data.toList = true ∧ isNm x.who.data.toList = true ∧ inB x.from_ 0 100000 = true ∧ inB x.till 0 100000 = true ∧ loanOk x = decide (x.from_ ≤ x.till)) := by
  unfold loanOk
  cases h1 : isNm x.what.data.toList <;> cases h2 : isNm x.who.data.toList <;> cases h3 : inB x.from_ 0 100000 <;> cases h4 : inB x.till 0 100000 <;> simp

set_option maxRecDepth 100000 in
set_option maxHeartbeats 1600000 in
theorem validLoan_any (x : Ln) (w : World) (hsm : smL x) :
    Calls Tryd.prog 46 #[aggL x] w fun e w' => e = .returned (.bool (loanOk x)) ∧ Below w.heap.size w w' := by
  have hc := loan_cases x
  obtain ⟨a, b, f, t⟩ := x
  obtain ⟨l1, l2⟩ := hsm
  dsimp only at *
  have hb0 := Lib.hid ((Below.refl w.heap.size w).alloc (Nat.le_refl _) (.cells #[.string a, .string b, .int .i64 f, .int .i64 t] 26))
  have HB1 := Lib.hid (fun wx => IsNameI_any a wx l1)
  have HB2 := Lib.hid (fun wx => IsNameI_any b wx l2)
  have HB3 := Lib.hid (fun wx => isDay_any f wx)
  have HB4 := Lib.hid (fun wx => isDay_any t wx)
  rcases hc with ⟨g1, hf⟩ | ⟨g1, g2, hf⟩ | ⟨g1, g2, g3, hf⟩ | ⟨g1, g2, g3, g4, hf⟩ | ⟨g1, g2, g3, g4, hf⟩
  all_goals
    have Hf := Lib.hid hf; clear hf
    rw [g1] at HB1; clear g1
    (try (rw [g2] at HB2; clear g2))
    (try (rw [g3] at HB3; clear g3))
    (try (rw [g4] at HB4; clear g4))
    go_enter Tryd.func46, Tryd.ntmps46
    go_wp2_with fail
    refine (HB1.out _).mono ?_; rintro e w1 ⟨rfl, rfl⟩
    go_wp2_with fail
    (try ((with_reducible refine (HB2.out _).mono ?_); rintro e w1 ⟨rfl, rfl⟩; go_wp2_with fail))
    (try ((with_reducible refine (HB3.out _).mono ?_); rintro e w1 ⟨rfl, rfl⟩; go_wp2_with fail))
    (try ((with_reducible refine (HB4.out _).mono ?_); rintro e w1 ⟨rfl, rfl⟩; go_wp2_with fail))
    go_ret
    rw [Hf.out]; exact ⟨rfl, hb0.out⟩

set_option maxRecDepth 100000 in
set_option maxHeartbeats 1600000 in
theorem l23One_any (B bb o : Nat) (x : Ln) (w : World) (h : LnAt w B bb o x) (hsm : smL x) :
    Calls Tryd.prog 50 #[.pointer (some ⟨bb, o, none⟩)] w fun e w' => e = .returned (.bool (loanOk x)) ∧ ∃ n, w' = w.drewN n := by
  have hc := loan_cases x
  obtain ⟨a, b, f, t⟩ := x
  obtain ⟨l1, l2⟩ := hsm
  obtain ⟨_, e0, e1, e2, e3⟩ := h
  dsimp only at *
  have HB1 := Lib.hid (fun wx => flipC (IsNameS_any a wx l1))
  have HB2 := Lib.hid (fun wx => flipC (IsNameS_any b wx l2))
  have HB3 := Lib.hid (fun wx => flipC (l23Day_any f wx))
  have HB4 := Lib.hid (fun wx => flipC (l23Day_any t wx))
  rcases hc with ⟨g1, hf⟩ | ⟨g1, g2, hf⟩ | ⟨g1, g2, g3, hf⟩ | ⟨g1, g2, g3, g4, hf⟩ | ⟨g1, g2, g3, g4, hf⟩
  all_goals
    have Hf := Lib.hid hf; clear hf
    rw [g1] at HB1; clear g1
    (try (rw [g2] at HB2; clear g2))
    (try (rw [g3] at HB3; clear g3))
    (try (rw [g4] at HB4; clear g4))
    go_enter Tryd.func50, Tryd.ntmps50
    go_wp2_with fail
    go_quiet ((first | (go_at_call 86; (with_reducible exact Calls.quiet_of_same (HB1.out _))) | (go_at_call 86; (with_reducible exact Calls.quiet_of_same (HB2.out _))) | (go_at_call 87; (with_reducible exact Calls.quiet_of_same (HB3.out _))) | (go_at_call 87; (with_reducible exact Calls.quiet_of_same (HB4.out _)))))
    go_wp2_with fail
    go_ret
    rw [Hf.out]; exact ⟨rfl, _, rfl⟩
end Go.Proofs.YtmheijnckmlbnaaDoor
/- Loans, part 9: clashes and the order, both sides. -/
namespace Go.Proofs.YtmheijnckmlbnaaDoor
open Go.RowKit Go.Joins

def clash (x y : Ln) : Bool := decide (x.what = y.what) && decide (x.from_ ≤ y.till) && decide (y.from_ ≤ x.till)
def before (x y : Ln) : Bool := decide (x.from_ < y.from_) || (decide (x.from_ = y.from_) && lessS x.what y.what)
theorem clash_cases (x y : Ln) : ((x.what.toList == y.what.toList) = false ∧ clash x y = false) ∨ ((x.what.toList == y.what.toList) = true ∧ decide (x.from_ ≤ y.till) = false ∧ clash x y = false) ∨
    ((x.what.toList == y.what.toList) = true ∧ decide (x.from_ ≤ y.till) = true ∧ clash x y = decide (y.from_ ≤ x.till)) := by
  unfold clash
  by_cases h : x.what = y.what
  · rw [h]
    by_cases h1 : x.from_ ≤ y.till <;> simp [h1]
  · exact .inl ⟨beq_eq_false_iff_ne.2 fun e => h (ba_inj e), by simp [h]⟩
theorem before_cases (x y : Ln) : (decide (x.from_ < y.from_) = true ∧ before x y = true) ∨ (decide (x.from_ < y.from_) = false ∧ (x.from_ == y.from_) = false ∧ before x y = false) ∨
    (decide (x.from_ < y.from_) = false ∧ (x.from_ == y.from_) = true ∧ before x y = Op.bytesLess x.what.toList y.what.toList) := by
  unfold before
  change _ ∨ _ ∨ (_ ∧ _ ∧ _ = lessS x.what y.what)
  by_cases h : x.from_ < y.from_
  · simp [h]
  · by_cases h1 : x.from_ = y.from_
    · simp [h1]
    · simp [h, h1]

set_option maxRecDepth 100000 in
set_option maxHeartbeats 1600000 in
theorem clashes_any (x y : Ln) (w : World) :
    Calls Tryd.prog 47 #[aggL x, aggL y] w fun e w' => e = .returned (.bool (clash x y)) ∧ Below w.heap.size w w' := by
  have hc := clash_cases x y
  obtain ⟨a, b, f, t⟩ := x
  obtain ⟨c, d, g, u⟩ := y
  dsimp only at *
  have hb0 := Lib.hid (((Below.refl w.heap.size w).alloc (Nat.le_refl _) (.cells #[.string a, .string b, .int .i64 f, .int .i64 t] 26)).alloc (by simp) (.cells #[.string c, .string d, .int .i64 g, .int .i64 u] 26))
  rcases hc with ⟨g1, hf⟩ | ⟨g1, g2, hf⟩ | ⟨g1, g2, hf⟩
  all_goals
    have Hf := Lib.hid hf; clear hf
    go_enter Tryd.func47, Tryd.ntmps47
    go_wp2_with fail
    go_ret
    rw [Hf.out]; exact ⟨rfl, hb0.out⟩

set_option maxRecDepth 100000 in
set_option maxHeartbeats 1600000 in
theorem ahead_any (x y : Ln) (w : World) :
    Calls Tryd.prog 48 #[aggL x, aggL y] w fun e w' => e = .returned (.bool (before x y)) ∧ Below w.heap.size w w' := by
  have hc := before_cases x y
  obtain ⟨a, b, f, t⟩ := x
  obtain ⟨c, d, g, u⟩ := y
  dsimp only at *
  have hb0 := Lib.hid (((Below.refl w.heap.size w).alloc (Nat.le_refl _) (.cells #[.string a, .string b, .int .i64 f, .int .i64 t] 26)).alloc (by simp) (.cells #[.string c, .string d, .int .i64 g, .int .i64 u] 26))
  rcases hc with ⟨g1, hf⟩ | ⟨g1, g2, hf⟩ | ⟨g1, g2, hf⟩
  all_goals
    have Hf := Lib.hid hf; clear hf
    go_enter Tryd.func48, Tryd.ntmps48
    go_wp2_with fail
    go_ret
    rw [Hf.out]; exact ⟨rfl, hb0.out⟩

set_option maxRecDepth 100000 in
set_option maxHeartbeats 1600000 in
theorem l23Clash_any (B B2 b1 o1 b2 o2 : Nat) (x y : Ln) (w : World) (h : LnAt w B b1 o1 x) (h2 : LnAt w B2 b2 o2 y) :
    Calls Tryd.prog 51 #[.pointer (some ⟨b1, o1, none⟩), .pointer (some ⟨b2, o2, none⟩)] w fun e w' => e = .returned (.bool (clash x y)) ∧ ∃ n, w' = w.drewN n := by
  have hc := clash_cases x y
  obtain ⟨_, e0, e1, e2, e3⟩ := h
  obtain ⟨_, d0, d1, d2, d3⟩ := h2
  generalize clash x y = r at *
  obtain ⟨a, b, f, t⟩ := x
  obtain ⟨c, d, g, u⟩ := y
  dsimp only at *
  clear e1 d1
  rcases hc with ⟨g1, hf⟩ | ⟨g1, g2, hf⟩ | ⟨g1, g2, hf⟩
  all_goals
    have Hf := Lib.hid hf; clear hf
    go_enter Tryd.func51, Tryd.ntmps51
    go_wp2_with fail
    go_quiet (fail)
    go_wp2_with fail
    go_ret
    rw [Hf.out]; exact ⟨rfl, _, rfl⟩

set_option maxRecDepth 100000 in
set_option maxHeartbeats 1600000 in
theorem l23Before_any (B B2 b1 o1 b2 o2 : Nat) (x y : Ln) (w : World) (h : LnAt w B b1 o1 x) (h2 : LnAt w B2 b2 o2 y) :
    Calls Tryd.prog 52 #[.pointer (some ⟨b1, o1, none⟩), .pointer (some ⟨b2, o2, none⟩)] w fun e w' => e = .returned (.bool (before x y)) ∧ ∃ n, w' = w.drewN n := by
  have hc := before_cases x y
  obtain ⟨_, e0, e1, e2, e3⟩ := h
  obtain ⟨_, d0, d1, d2, d3⟩ := h2
  generalize before x y = r at *
  obtain ⟨a, b, f, t⟩ := x
  obtain ⟨c, d, g, u⟩ := y
  dsimp only at *
  clear e1 d1 e3 d3
  rcases hc with ⟨g1, hf⟩ | ⟨g1, g2, hf⟩ | ⟨g1, g2, hf⟩
  all_goals
    have Hf := Lib.hid hf; clear hf
    go_enter Tryd.func52, Tryd.ntmps52
    go_wp2_with fail
    go_quiet (fail)
    go_wp2_with fail
    go_ret
    rw [Hf.out]; exact ⟨rfl, _, rfl⟩
end Go.Proofs.YtmheijnckmlbnaaDoor
/- Loans, part 10: valid lists of loans, in plain words; the reference's side. -/
namespace Go.Proofs.YtmheijnckmlbnaaDoor
open Go.RowKit Go.Joins

def noLn : Ln := ⟨⟨#[]⟩, ⟨#[]⟩, 0, 0⟩
def atL (xs : List Ln) (k : Nat) : Ln := xs.getD k noLn
theorem atL_at (xs : List Ln) (k : Nat) (hk : k < xs.length) : atL xs k = xs[k] := by simp [atL, List.getD, hk]
def freeS (xs : List Ln) (i k : Nat) : Bool := !clash (atL xs k) (atL xs i)
def freeI (xs : List Ln) (i k : Nat) : Bool := !clash (atL xs i) (atL xs k)
def placeS (xs : List Ln) (i : Nat) : Bool := loanOk (atL xs i) && (decide (i = 0) || before (atL xs (i - 1)) (atL xs i)) && chk i (freeS xs i)
def placeI (xs : List Ln) (i : Nat) : Bool := loanOk (atL xs i) && (decide (i = 0) || !before (atL xs i) (atL xs (i - 1))) && chk i (freeI xs i)
def loansOk (xs : List Ln) : Bool := chk xs.length (placeS xs) && decide (xs.length ≤ 60)
def loansOkI (xs : List Ln) : Bool := chk xs.length (placeI xs) && decide (xs.length ≤ 60)
theorem RdL.atD {w : World} {B n c : Nat} {A : Option Addr} {xs : List Ln} (h : RdL w B (.slice A n c) xs) (k : Nat) (hk : k < xs.length) :
    ∃ b off, A = some ⟨b, off, none⟩ ∧ LnAt w B b (off + k * 4) (atL xs k) := by rw [atL_at xs k hk]; exact h.at k hk
theorem chk_succ (f : Nat → Bool) (n : Nat) : chk (n + 1) f = (chk n f && f n) := by
  unfold chk; rw [List.range_succ, List.all_append]; simp
theorem chk_get {f : Nat → Bool} {n k : Nat} (h : chk n f = true) (hk : k < n) : f k = true := by
  unfold chk at h
  exact List.all_eq_true.1 h k (List.mem_range.2 hk)
theorem clash_comm (x y : Ln) : clash x y = clash y x := by
  unfold clash
  rw [Bool.eq_iff_iff]
  simp only [Bool.and_eq_true, decide_eq_true_eq]
  constructor
  · rintro ⟨⟨h1, h2⟩, h3⟩; exact ⟨⟨h1.symm, h3⟩, h2⟩
  · rintro ⟨⟨h1, h2⟩, h3⟩; exact ⟨⟨h1.symm, h3⟩, h2⟩
theorem free_eq (xs : List Ln) (i : Nat) : freeI xs i = freeS xs i := by
  funext k; unfold freeI freeS; rw [clash_comm]
theorem loanOk_le {x : Ln} (h : loanOk x = true) : x.from_ ≤ x.till := by
  unfold loanOk at h
  simp only [Bool.and_eq_true, decide_eq_true_eq] at h
  exact h.2
theorem less_tri {a b : ByteArray} (h : a ≠ b) : lessS a b = !lessS b a := by
  have h1 := bl_tot a.toList b.toList
  have h2 : (b.toList == a.toList) = false := beq_eq_false_iff_ne.2 fun e => h (ba_inj e).symm
  rw [h2, Bool.or_false] at h1
  exact h1
theorem before_flip {x y : Ln} (hx : loanOk x = true) (hy : loanOk y = true) (hc : clash x y = false) : before x y = !before y x := by
  have h1 := loanOk_le hx
  have h2 := loanOk_le hy
  unfold before
  rcases Int.lt_trichotomy x.from_ y.from_ with h | h | h
  · have h3 : ¬ y.from_ < x.from_ := by omega
    have h4 : ¬ y.from_ = x.from_ := by omega
    simp [h, h3, h4]
  · have hw : x.what ≠ y.what := fun e => by
      unfold clash at hc
      rw [e] at hc
      simp at hc
      omega
    have := less_tri hw
    simp [h, this]
  · have h3 : ¬ x.from_ < y.from_ := by omega
    have h4 : ¬ x.from_ = y.from_ := by omega
    simp [h, h3, h4]
theorem place_eq (xs : List Ln) : ∀ n, chk n (placeI xs) = chk n (placeS xs)
  | 0 => rfl
  | n + 1 => by
    rw [chk_succ, chk_succ, place_eq xs n]
    cases hn : chk n (placeS xs) with
    | false => rfl
    | true =>
      simp only [Bool.true_and]
      unfold placeI placeS
      rw [free_eq]
      cases h1 : loanOk (atL xs n) with
      | false => rfl
      | true =>
        cases h2 : chk n (freeS xs n) with
        | false => simp
        | true =>
          rcases Nat.eq_zero_or_pos n with h0 | h0
          · subst h0; rfl
          · have h3 := chk_get hn (show n - 1 < n by omega)
            unfold placeS at h3
            simp only [Bool.and_eq_true] at h3
            have h4 : freeS xs n (n - 1) = true := chk_get h2 (by omega)
            unfold freeS at h4
            rw [before_flip h3.1.1 h1 (by simpa using h4)]
theorem loansOk_eq (xs : List Ln) : loansOkI xs = loansOk xs := by unfold loansOkI loansOk; rw [place_eq]
theorem loans_no {xs : List Ln} (k : Nat) (hk : k < xs.length) (h : placeS xs k = false) : loansOk xs = false := by unfold loansOk; rw [chk_bad k hk h]; rfl
theorem place_1 {xs : List Ln} {k : Nat} (hk : k < xs.length) (h : loanOk xs[k] = false) : placeS xs k = false := by unfold placeS; rw [atL_at xs k hk, h]; rfl
theorem place_2 {xs : List Ln} {k m : Nat} (hk : k < xs.length) (hm : m + 1 = k) (h : before (atL xs m) xs[k] = false) : placeS xs k = false := by
  unfold placeS; rw [atL_at xs k hk, show k - 1 = m by omega, h, decide_eq_false (by omega)]; simp
theorem place_3 {xs : List Ln} {k j : Nat} (hk : k < xs.length) (hj : j < k) (h : clash (atL xs j) xs[k] = true) : placeS xs k = false := by
  have : freeS xs k j = false := by unfold freeS; rw [atL_at xs k hk, h]; rfl
  unfold placeS; rw [chk_bad j hj this]; simp
theorem place_4 {xs : List Ln} {k : Nat} (hk : k < xs.length) (h1 : loanOk xs[k] = true) (h2 : k = 0 ∨ ∃ m, m + 1 = k ∧ before (atL xs m) xs[k] = true) (h : chk k (freeS xs k) = true) : placeS xs k = true := by
  unfold placeS
  rw [atL_at xs k hk, h1, h]
  rcases h2 with rfl | ⟨m, hm, h2⟩
  · rfl
  · rw [show k - 1 = m by omega, h2]; simp
theorem free_step {xs : List Ln} {k j : Nat} (hk : k < xs.length) (h : clash (atL xs j) xs[k] = false) : freeS xs k j = true := by
  unfold freeS; rw [atL_at xs k hk, h]; rfl

/-- what a round meets at place k -/
theorem round_cases (xs : List Ln) (k : Nat) (hk : k < xs.length) : (loanOk xs[k] = false ∧ loansOk xs = false) ∨ (loanOk xs[k] = true ∧ k = 0) ∨
    ∃ m, m + 1 = k ∧ loanOk xs[k] = true ∧ ((before (atL xs m) xs[k] = false ∧ loansOk xs = false) ∨ before (atL xs m) xs[k] = true) := by
  cases h : loanOk xs[k] with
  | false => exact .inl ⟨rfl, loans_no k hk (place_1 hk h)⟩
  | true =>
    rcases Nat.eq_zero_or_pos k with h0 | h0
    · exact .inr (.inl ⟨rfl, h0⟩)
    · refine .inr (.inr ⟨k - 1, by omega, rfl, ?_⟩)
      cases hb : before (atL xs (k - 1)) xs[k] with
      | false => exact .inl ⟨rfl, loans_no k hk (place_2 hk (by omega) hb)⟩
      | true => exact .inr rfl

set_option maxRecDepth 100000 in
set_option maxHeartbeats 6400000 in
theorem l23Ok_any (B : Nat) (v : Value) (xs : List Ln) (w : World) (h : RdL w B v xs) (hl : xs.length ≤ 1048576) (hsm : ∀ x ∈ xs, smL x) :
    Calls Tryd.prog 49 #[v] w fun e w' => e = .returned (.bool (loansOk xs)) ∧ ∃ n, w' = w.drewN n := by
  have H := Lib.hid h
  have Hsm := Lib.hid hsm
  obtain ⟨A, c, rfl⟩ := h.slice
  clear h hsm
  go_enter Tryd.func49, Tryd.ntmps49
  go_wp2_with fail
  go_loopw [3] (fun i wr => ∃ k m0 : Nat, k ≤ xs.length ∧ chk k (placeS xs) = true ∧ i = .int .i64 k ∧ wr = w.drewN m0) (fun i _ => xs.length - (intOf i).toNat)
  case atStart => exact ⟨0, 0, Nat.zero_le _, rfl, rfl, rfl⟩
  case round =>
    obtain ⟨k, m0, hk, hall, rfl, hwr⟩ := hrel
    have Hall := Lib.hid hall; clear hall
    have Hw := Lib.hid (fun n => (show wr.drewN n = w.drewN (m0 + n) by rw [hwr, World.drewN_drewN]))
    have Hw0 := Lib.hid hwr
    have Hr : Hid (RdL wr B (.slice A xs.length c) xs) := Lib.hid (by rw [hwr]; exact H.out.drewN m0)
    clear hwr
    obtain ⟨w1, rfl⟩ : ∃ x, x = wr := ⟨_, rfl⟩
    by_cases hlt : k < xs.length
    · obtain ⟨b1, o1, hA, hE⟩ := Hr.out.at k hlt
      have hlt' : (k : Int) < (xs.length : Int) := by omega
      have Hst := Lib.hid (fun h => chk_step (f := placeS xs) (k := k) Hall.out h)
      have hsx := Hsm.out xs[k] (List.getElem_mem hlt)
      have HE := Lib.hid hE
      have HO := Lib.hid (fun n => l23One_any B b1 (o1 + k * 4) xs[k] (w1.drewN n) (hE.drewN n) hsx)
      have HA := Lib.hid hA
      subst hA
      clear hE
      rcases round_cases xs k hlt with ⟨g, hf⟩ | ⟨g, h0⟩ | ⟨m, hm, g, ⟨gb, hf⟩ | gb⟩
      · have Hf := Lib.hid hf; clear hf
        rw [g] at HO
        clear g Hst
        go_wp2_with fail
        go_quiet ((go_at_call 50; exact Calls.quiet_of (HO.out _)))
        go_wp2_with fail
        go_ret
        rw [Hf.out]; exact ⟨rfl, _, Hw.out _⟩
      · have Hg := Lib.hid g
        have Hg2 := Lib.hid (show k = 0 ∨ ∃ m, m + 1 = k ∧ before (atL xs m) xs[k] = true from .inl h0)
        have hk0 : decide (0 < k) = false := decide_eq_false (by omega)
        rw [g] at HO
        clear g h0
        go_wp2_with fail
        go_quiet ((go_at_call 50; exact Calls.quiet_of (HO.out _)))
        go_wp2_with fail
        go_loopw [4] (fun j wy => ∃ j0 m2 : Nat, j0 ≤ k ∧ chk j0 (freeS xs k) = true ∧ j = .int .i64 j0 ∧ wy = w1.drewN m2) (fun j _ => k - (intOf j).toNat)
        case atStart => exact ⟨0, _, Nat.zero_le _, rfl, rfl, rfl⟩
        case round =>
          obtain ⟨j0, m2, hj, hall2, rfl, hwy⟩ := hrel
          have Hall2 := Lib.hid hall2; clear hall2
          have Hw2 := Lib.hid (fun n => (show wr.drewN n = w.drewN (m0 + (m2 + n)) by rw [hwy, World.drewN_drewN]; exact Hw.out _))
          have HwI := Lib.hid (fun n => (show wr.drewN n = w1.drewN (m2 + n) by rw [hwy, World.drewN_drewN]))
          have Hw20 := Lib.hid (hwy.trans (Hw.out m2))
          have Hr2 : Hid (RdL wr B (.slice (some ⟨b1, o1, none⟩) xs.length c) xs) := Lib.hid (by rw [hwy]; exact Hr.out.drewN m2)
          clear hwy
          by_cases hlt2 : j0 < k
          · obtain ⟨b2, o2, hA2, hE2⟩ := Hr2.out.atD j0 (by omega)
            obtain ⟨b3, o3, hA3, hE3⟩ := Hr2.out.at k hlt
            obtain ⟨rfl, rfl⟩ : b1 = b2 ∧ o1 = o2 := by simpa using hA2
            obtain ⟨rfl, rfl⟩ : b1 = b3 ∧ o1 = o3 := by simpa using hA3
            clear hA2 hA3
            have hlt2' : (j0 : Int) < (k : Int) := by omega
            have hlt3' : (j0 : Int) < (xs.length : Int) := by omega
            have HC := Lib.hid (fun n => l23Clash_any B B b1 (o1 + j0 * 4) b1 (o1 + k * 4) (atL xs j0) xs[k] (wr.drewN n) (hE2.drewN n) (hE3.drewN n))
            clear hE2 hE3
            cases gc : clash (atL xs j0) xs[k] with
            | true =>
              have Hf := Lib.hid (loans_no k hlt (place_3 hlt hlt2 gc))
              rw [gc] at HC
              clear gc
              go_wp2_with fail
              go_quiet ((go_at_call 51; exact Calls.quiet_of (HC.out _)))
              go_wp2_with fail
              go_ret
              rw [Hf.out]; exact ⟨rfl, _, Hw2.out _⟩
            | false =>
              have Hst2 := Lib.hid (chk_step Hall2.out (free_step hlt gc))
              rw [gc] at HC
              clear gc
              go_wp2_with fail
              go_quiet ((go_at_call 51; exact Calls.quiet_of (HC.out _)))
              go_wp2_with fail
              go_roundw
              case rel => exact ⟨j0 + 1, _, by omega, Hst2.out, by go_num, HwI.out _⟩
              case measure => simp [intOf]; omega
          · obtain rfl : j0 = k := by omega
            have Hst2 := Lib.hid (Hst.out (place_4 hlt Hg.out Hg2.out Hall2.out))
            go_wp2_with fail
            go_roundw
            case rel => exact ⟨j0 + 1, _, by omega, Hst2.out, by go_num, Hw20.out⟩
            case measure => simp [intOf]; omega
      · have Hf := Lib.hid hf; clear hf
        obtain ⟨b2, o2, hA2, hE2⟩ := Hr.out.atD m (by omega)
        obtain ⟨rfl, rfl⟩ : b1 = b2 ∧ o1 = o2 := by simpa using hA2
        clear hA2
        have HB := Lib.hid (fun n => l23Before_any B B b1 (o1 + m * 4) b1 (o1 + k * 4) (atL xs m) xs[k] (w1.drewN n) (hE2.drewN n) (HE.out.drewN n))
        rw [gb] at HB
        rw [g] at HO
        have hk0 : decide (0 < k) = true := decide_eq_true (by omega)
        have hm1 : IntKind.i64.wrap ((k : Int) - 1) = (m : Int) := by rw [IntWalk.i64_in _ (by omega)]; omega
        have hm2 : (m : Int) < (xs.length : Int) := by omega
        have Hm := Lib.hid hm
        clear g gb hE2 hm
        go_wp2_with fail
        go_quiet ((first | (go_at_call 50; exact Calls.quiet_of (HO.out _)) | (go_at_call 52; exact Calls.quiet_of (HB.out _))))
        clear hm1
        go_wp2_with fail
        go_ret
        rw [Hf.out]; exact ⟨rfl, _, Hw.out _⟩
      · have Hg := Lib.hid g
        have Hg2 := Lib.hid (show k = 0 ∨ ∃ m, m + 1 = k ∧ before (atL xs m) xs[k] = true from .inr ⟨m, hm, gb⟩)
        obtain ⟨b2, o2, hA2, hE2⟩ := Hr.out.atD m (by omega)
        obtain ⟨rfl, rfl⟩ : b1 = b2 ∧ o1 = o2 := by simpa using hA2
        clear hA2
        have HB := Lib.hid (fun n => l23Before_any B B b1 (o1 + m * 4) b1 (o1 + k * 4) (atL xs m) xs[k] (w1.drewN n) (hE2.drewN n) (HE.out.drewN n))
        rw [gb] at HB
        rw [g] at HO
        have hk0 : decide (0 < k) = true := decide_eq_true (by omega)
        have hm1 : IntKind.i64.wrap ((k : Int) - 1) = (m : Int) := by rw [IntWalk.i64_in _ (by omega)]; omega
        have hm2 : (m : Int) < (xs.length : Int) := by omega
        have Hm := Lib.hid hm
        clear g gb hE2 hm
        go_wp2_with fail
        go_quiet ((first | (go_at_call 50; exact Calls.quiet_of (HO.out _)) | (go_at_call 52; exact Calls.quiet_of (HB.out _))))
        clear hm1
        go_wp2_with fail
        go_loopw [4] (fun j wy => ∃ j0 m2 : Nat, j0 ≤ k ∧ chk j0 (freeS xs k) = true ∧ j = .int .i64 j0 ∧ wy = w1.drewN m2) (fun j _ => k - (intOf j).toNat)
        case atStart => exact ⟨0, _, Nat.zero_le _, rfl, rfl, rfl⟩
        case round =>
          obtain ⟨j0, m2, hj, hall2, rfl, hwy⟩ := hrel
          have Hall2 := Lib.hid hall2; clear hall2
          have Hw2 := Lib.hid (fun n => (show wr.drewN n = w.drewN (m0 + (m2 + n)) by rw [hwy, World.drewN_drewN]; exact Hw.out _))
          have HwI := Lib.hid (fun n => (show wr.drewN n = w1.drewN (m2 + n) by rw [hwy, World.drewN_drewN]))
          have Hw20 := Lib.hid (hwy.trans (Hw.out m2))
          have Hr2 : Hid (RdL wr B (.slice (some ⟨b1, o1, none⟩) xs.length c) xs) := Lib.hid (by rw [hwy]; exact Hr.out.drewN m2)
          clear hwy
          by_cases hlt2 : j0 < k
          · obtain ⟨b2, o2, hA2, hE2⟩ := Hr2.out.atD j0 (by omega)
            obtain ⟨b3, o3, hA3, hE3⟩ := Hr2.out.at k hlt
            obtain ⟨rfl, rfl⟩ : b1 = b2 ∧ o1 = o2 := by simpa using hA2
            obtain ⟨rfl, rfl⟩ : b1 = b3 ∧ o1 = o3 := by simpa using hA3
            clear hA2 hA3
            have hlt2' : (j0 : Int) < (k : Int) := by omega
            have hlt3' : (j0 : Int) < (xs.length : Int) := by omega
            have HC := Lib.hid (fun n => l23Clash_any B B b1 (o1 + j0 * 4) b1 (o1 + k * 4) (atL xs j0) xs[k] (wr.drewN n) (hE2.drewN n) (hE3.drewN n))
            clear hE2 hE3
            cases gc : clash (atL xs j0) xs[k] with
            | true =>
              have Hf := Lib.hid (loans_no k hlt (place_3 hlt hlt2 gc))
              rw [gc] at HC
              clear gc
              go_wp2_with fail
              go_quiet ((go_at_call 51; exact Calls.quiet_of (HC.out _)))
              go_wp2_with fail
              go_ret
              rw [Hf.out]; exact ⟨rfl, _, Hw2.out _⟩
            | false =>
              have Hst2 := Lib.hid (chk_step Hall2.out (free_step hlt gc))
              rw [gc] at HC
              clear gc
              go_wp2_with fail
              go_quiet ((go_at_call 51; exact Calls.quiet_of (HC.out _)))
              go_wp2_with fail
              go_roundw
              case rel => exact ⟨j0 + 1, _, by omega, Hst2.out, by go_num, HwI.out _⟩
              case measure => simp [intOf]; omega
          · obtain rfl : j0 = k := by omega
            have Hst2 := Lib.hid (Hst.out (place_4 hlt Hg.out Hg2.out Hall2.out))
            go_wp2_with fail
            go_roundw
            case rel => exact ⟨j0 + 1, _, by omega, Hst2.out, by go_num, Hw20.out⟩
            case measure => simp [intOf]; omega
    · have hc : chk xs.length (placeS xs) = true := by rw [show xs.length = k by omega]; exact Hall.out
      have hf := Lib.hid (show loansOk xs = decide (xs.length ≤ 60) by unfold loansOk; rw [hc]; rfl)
      have hlt' : (xs.length : Int) ≤ (k : Int) := by omega
      clear hc
      go_wp2_with fail
      go_ret
      rw [hf.out]; exact ⟨by simp; omega, _, Hw0.out⟩
end Go.Proofs.YtmheijnckmlbnaaDoor
