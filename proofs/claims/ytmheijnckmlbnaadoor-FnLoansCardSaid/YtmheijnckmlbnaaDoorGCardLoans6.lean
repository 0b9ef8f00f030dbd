/- Merged texts: Lt1, Lt2, Dl4, Dl6, Lq2, Lq0, Lq3, Dn1, Jr3, Rn1. -/
import Derived.Test.YtmheijnckmlbnaaDoorGCardLoans4
import Derived.Test.YtmheijnckmlbnaaDoorGCardLoans2
import Derived.Test.YtmheijnckmlbnaaDoorGCardLoans5
import Derived.Test.YtmheijnckmlbnaaDoorGCardLoans1
import Derived.Lib.AppendStr
/- Loans' texts: the program's and the reference's LoansText. -/
namespace Go.Proofs.YtmheijnckmlbnaaDoor
open Go.RowKit Go.Joins

/-- a string appended to a row of bytes, at a step of a region -/
theorem step_str {P : Program} {w : World} {ops : Array Oper} {o : Oper} {a : Act} {K : Act → World → Prop} {Q : Exit → Act → World → Prop} {E : Prop} (t u e : TypeId)
    (ht : P.underlying t = some (.slice e)) (hu : P.underlying u = some .string) (hinfo : (P.info? e).map (fun i => (i.zero, i.size, i.bytes)) = some (some (.int .u8 0), 1, 1))
    (sl x : Operand) (hgd : o.guard = none) (ho : o.op = .call { callee := .builtin .append, args := #[sl, x], argTypes := #[t, u] })
    (base : Nat) (v : Value) (n : Nat) (xs : List Value) (hs : a.eval sl = v) (hown : w.ownsRow base e 1 v n xs) (s : ByteArray) (hx : a.eval x = .string s)
    (h63 : n + s.size ≤ maxLen) (hbytes : n + s.size ≤ 140737488355328) (hbase : base ≤ w.heap.size)
    (h : ∀ v' w', w'.ownsRow base e 1 v' (n + s.size) (xs ++ Lib.strCells s) → w.grownBy w' v.ownBlock → K (a.put o.dst v') w') :
    if Region.wanted o (yielded ops a.tmps) = true then Oper.wp P o a w K Q else E := by
  have hw : Region.wanted o (yielded ops a.tmps) = true := by simp [Region.wanted, hgd]
  rw [if_pos hw]
  obtain ⟨i, hi, hz, h2, h3⟩ := info_parts hinfo
  obtain ⟨v', w', hr, k2, k3, k4⟩ := Lib.run_append_own_string (P := P) w base t u o.type e i ht hu hi hz h2 h3 v n xs hown s h63 hbytes hbase
  unfold Oper.wp execOp
  simp only [ho, resolve, invoke, builtin, Sem.run_bind, Sem.run_pure, Result.andThen_ok, List.map_toArray, List.map_cons, List.map_nil, hs, hx, hr]
  exact h v' w' k2 k3

def lineL (x : Ln) : ByteArray := decS x.from_ ++ ⟨#[46, 46]⟩ ++ decS x.till ++ ⟨#[32]⟩ ++ x.what ++ ⟨#[32]⟩ ++ x.who ++ ⟨#[10]⟩
def textL (xs : List Ln) : ByteArray := ⟨(xs.flatMap fun x => (lineL x).data.toList).toArray⟩
/-- the text of a list, empty where it is not valid -/
def txL (xs : List Ln) : ByteArray := if loansOk xs then textL xs else ⟨#[]⟩
theorem textL_step (xs : List Ln) (k : Nat) (hk : k < xs.length) : textL (xs.take (k + 1)) = textL (xs.take k) ++ lineL xs[k] := by
  unfold textL
  rw [List.take_succ_eq_append_getElem hk, List.flatMap_append]
  refine ba_inj ?_
  rw [ByteArray.toList_eq, ByteArray.toList_eq]
  simp
theorem lineL_size (x : Ln) (h : loanOk x = true) (hs : smL x) : (lineL x).size ≤ 2097300 := by
  have hb : 0 ≤ x.from_ ∧ x.from_ ≤ 100000 ∧ 0 ≤ x.till ∧ x.till ≤ 100000 := by
    unfold loanOk inB at h
    simp at h
    omega
  have h1 := decS_size x.from_ (by omega) (by omega)
  have h2 := decS_size x.till (by omega) (by omega)
  obtain ⟨s1, s2⟩ := hs
  unfold lineL
  simp only [ByteArray.size_append]
  show _ + 2 + _ + 1 + _ + 1 + _ + 1 ≤ _
  omega
theorem loan_days {x : Ln} (h : loanOk x = true) : 0 ≤ x.from_ ∧ x.from_ ≤ 100000 ∧ 0 ≤ x.till ∧ x.till ≤ 100000 := by
  unfold loanOk inB at h
  simp at h
  omega
theorem loans_at {xs : List Ln} (h : loansOk xs = true) (k : Nat) (hk : k < xs.length) : loanOk xs[k] = true := by
  unfold loansOk at h
  simp only [Bool.and_eq_true] at h
  have := chk_get h.1 hk
  unfold placeS at this
  rw [atL_at xs k hk] at this
  simp only [Bool.and_eq_true] at this
  exact this.1.1
theorem loans_60 {xs : List Ln} (h : loansOk xs = true) : xs.length ≤ 60 := by
  unfold loansOk at h
  simp only [Bool.and_eq_true, decide_eq_true_eq] at h
  exact h.2

set_option maxRecDepth 100000 in
set_option maxHeartbeats 1600000 in
theorem LoansTextI_any (B : Nat) (v : Value) (xs : List Ln) (w : World) (h : RdL w B v xs) (hB : B ≤ w.heap.size) (hl : xs.length ≤ 1048576) (hsm : ∀ x ∈ xs, smL x) (hcap : ∀ A n c, v = .slice A n c → n ≤ c ∧ c ≤ maxLen) (ht : Tab w) :
    Calls Tryd.prog 18 #[v] w fun e w' => e = .returned (.string (txL xs)) ∧ Below w.heap.size w w' := by
  have HV := Lib.hid (ValidLoansI_any B v xs w h hB hl hsm hcap)
  have H := Lib.hid h
  have Ht := Lib.hid ht
  have Hsm := Lib.hid hsm
  obtain ⟨A, c, rfl⟩ := h.slice
  clear h hsm hcap ht
  cases hok : loansOk xs with
  | false =>
    have e0 := Lib.hid (show txL xs = ⟨#[]⟩ by unfold txL; rw [hok]; rfl)
    rw [hok] at HV
    clear hok
    go_enter Tryd.func18, Tryd.ntmps18
    go_wp2_with fail
    refine HV.out.mono ?_; rintro e w1 ⟨rfl, hb1⟩
    go_wp2_with fail
    go_ret
    rw [e0.out]; exact ⟨rfl, hb1⟩
  | true =>
    have e0 := Lib.hid (show txL xs = textL xs by unfold txL; rw [hok]; rfl)
    have HG := Lib.hid (fun k hk => loans_at hok k hk)
    have h60 := loans_60 hok
    rw [hok] at HV
    clear hok
    go_enter Tryd.func18, Tryd.ntmps18
    go_wp2_with fail
    refine HV.out.mono ?_; rintro e w1 ⟨rfl, hb1⟩
    go_wp2_with fail
    go_loopw [3, 11] (fun o i wr => ∃ (k : Nat), k ≤ xs.length ∧ i = .int .i64 k ∧ o = .string (textL (xs.take k)) ∧ (textL (xs.take k)).size ≤ k * 2097300 ∧ Below w.heap.size w wr) (fun _ i _ => xs.length - (intOf i).toNat)
    case atStart => exact ⟨0, Nat.zero_le _, rfl, rfl, Nat.le_refl _, hb1⟩
    case round =>
      obtain ⟨k, hk, rfl, rfl, hsz, hbl⟩ := hrel
      by_cases hlt : k < xs.length
      · have HL := Lib.hid (H.out.below (hbl.mono hB))
        obtain ⟨b1, o1, hA, hE⟩ := HL.out.at k hlt
        subst hA
        have hlt' : (k : Int) < (xs.length : Int) := by omega
        have hsx := Hsm.out xs[k] (List.getElem_mem hlt)
        have hgx := HG.out k hlt
        have hls := lineL_size xs[k] hgx hsx
        have hst := textL_step xs k hlt
        have hz1 : b1 < wr.heap.size := Nat.lt_of_lt_of_le hE.lt (Nat.le_trans hB hbl.size)
        have hT0 : ∃ X, X = textL (xs.take (k + 1)) := ⟨_, rfl⟩
        obtain ⟨T', hT0⟩ := hT0
        rw [← hT0] at hst
        have HT' := Lib.hid hT0; clear hT0
        generalize textL (xs.take k) = T at *
        generalize xs[k] = x at *
        obtain ⟨d1, d2, d3, d4⟩ := loan_days hgx
        have s1 := decS_size x.from_ (by omega) (by omega)
        have s2 := decS_size x.till (by omega) (by omega)
        have HA := Lib.hid (fun wx hx => Decimal_any x.from_ wx (by omega) (by omega) hx)
        have HB := Lib.hid (fun wx hx => Decimal_any x.till wx (by omega) (by omega) hx)
        have HLx := Lib.hid (show lineL x = decS x.from_ ++ ⟨#[46, 46]⟩ ++ decS x.till ++ ⟨#[32]⟩ ++ x.what ++ ⟨#[32]⟩ ++ x.who ++ ⟨#[10]⟩ from rfl)
        generalize lineL x = L at *
        obtain ⟨a, b, f, t⟩ := x
        obtain ⟨hs1, hs2⟩ := hsx
        obtain ⟨hbB, e0, e1, e2, e3⟩ := hE
        dsimp only at e0 e1 e2 e3 HA HB HLx s1 s2 hs1 hs2 d1 d2 d3 d4
        clear hgx d1 d2 d3 d4
        generalize decS f = D at *
        generalize decS t = E at *
        have p1 : (D ++ ⟨#[46, 46]⟩ : ByteArray).size = D.size + 2 := ByteArray.size_append
        have p2 : (D ++ ⟨#[46, 46]⟩ ++ E : ByteArray).size = D.size + 2 + E.size := by rw [ByteArray.size_append, p1]
        have p3 : (D ++ ⟨#[46, 46]⟩ ++ E ++ ⟨#[32]⟩ : ByteArray).size = D.size + 2 + E.size + 1 := by rw [ByteArray.size_append, p2]; rfl
        have p4 : (D ++ ⟨#[46, 46]⟩ ++ E ++ ⟨#[32]⟩ ++ a : ByteArray).size = D.size + 2 + E.size + 1 + a.size := by rw [ByteArray.size_append, p3]
        have p5 : (D ++ ⟨#[46, 46]⟩ ++ E ++ ⟨#[32]⟩ ++ a ++ ⟨#[32]⟩ : ByteArray).size = D.size + 2 + E.size + 1 + a.size + 1 := by rw [ByteArray.size_append, p4]; rfl
        have p6 : (D ++ ⟨#[46, 46]⟩ ++ E ++ ⟨#[32]⟩ ++ a ++ ⟨#[32]⟩ ++ b : ByteArray).size = D.size + 2 + E.size + 1 + a.size + 1 + b.size := by rw [ByteArray.size_append, p5]
        have p7 : (D ++ ⟨#[46, 46]⟩ ++ E ++ ⟨#[32]⟩ ++ a ++ ⟨#[32]⟩ ++ b ++ ⟨#[10]⟩ : ByteArray).size = D.size + 2 + E.size + 1 + a.size + 1 + b.size + 1 := by rw [ByteArray.size_append, p6]; rfl
        have hT : T'.size ≤ (k + 1) * 2097300 := by rw [hst, ByteArray.size_append]; have := HLx.out; rw [this, p7]; omega
        have Hr := Lib.hid (show T ++ (D ++ ⟨#[46, 46]⟩ ++ E ++ ⟨#[32]⟩ ++ a ++ ⟨#[32]⟩ ++ b ++ ⟨#[10]⟩) = T' by rw [hst, HLx.out])
        have Hbl := Lib.hid (hbl.trans (((Below.refl wr.heap.size wr).alloc (Nat.le_refl _) (.cells #[.string a, .string b, .int .i64 f, .int .i64 t] 26)).mono hbl.size))
        have Hnw := Lib.hid (heap_alloc_new wr (.cells #[.string a, .string b, .int .i64 f, .int .i64 t] 26))
        clear hbl hls HL
        go_wp2_with fail
        obtain ⟨f0, f1, f2, f3⟩ := four_at Hnw.out
        generalize wr.alloc (.cells #[.string a, .string b, .int .i64 f, .int .i64 t] 26) = wn at *
        have hacc := Hbl.out.drew
        clear e0 e1 e2 e3
        refine wp_region_noPanic ?_
        refine wp_region_L [] (fun w' => w'.cell? ⟨wr.heap.size, 0, none⟩ = some (.string a) ∧ w'.cell? ⟨wr.heap.size, 1, none⟩ = some (.string b) ∧ w'.cell? ⟨wr.heap.size, 2, none⟩ = some (.int .i64 f) ∧ w'.cell? ⟨wr.heap.size, 3, none⟩ = some (.int .i64 t)) (by kernel_rfl) (⟨f0, f1, f2, f3⟩) (fun hHeld => ?_)
        refine take_F (i := 0) (d := some 15) (v := ?_) (by kernel_rfl) (by kernel_rfl) rfl rfl (by kernel_rfl) (by kernel_rfl) (by kernel_rfl) (fun _ _ _ h => h) (Or.inl ⟨by rfl, ?_⟩) (by assumption) ?_
        rotate_left
        · (intro w hSw; (try dsimp only at hSw); go_simp; (try rw [if_neg (by omega)]); (try (with_reducible rfl)))
        simp only [Act.put, List.setIfInBounds_toArray, List.set_cons_zero, List.set_cons_succ]
        refine take_F (i := 1) (d := some 16) (v := ?_) (by kernel_rfl) (by kernel_rfl) rfl rfl (by kernel_rfl) (by kernel_rfl) (by kernel_rfl) (fun _ _ _ h => h) (Or.inl ⟨by rfl, ?_⟩) (by assumption) ?_
        rotate_left
        · (intro w hSw; (try dsimp only at hSw); go_simp; (try rw [if_neg (by omega)]); (try (with_reducible rfl)))
        simp only [Act.put, List.setIfInBounds_toArray, List.set_cons_zero, List.set_cons_succ]
        refine take_L [2] (i := 2) (d := some 17) (v := ?_) (by kernel_rfl) (by kernel_rfl) (by kernel_rfl) (by kernel_rfl) rfl rfl (by kernel_rfl) (by kernel_rfl) (by kernel_rfl) (fun _ _ _ h => h) (Or.inl ⟨by rfl, ?_⟩) (by assumption) ?_
        rotate_left
        · (intro w hSw; (try dsimp only at hSw); go_simp; (try rw [if_neg (by omega)]); (try (with_reducible rfl)))
        simp only [Act.put, List.setIfInBounds_toArray, List.set_cons_zero, List.set_cons_succ]
        refine take_F (i := 5) (d := some 20) (v := ?_) (by kernel_rfl) (by kernel_rfl) rfl rfl (by kernel_rfl) (by kernel_rfl) (by kernel_rfl) (fun _ _ _ h => h) (Or.inl ⟨by rfl, ?_⟩) (by assumption) ?_
        rotate_left
        · (intro w hSw; (try dsimp only at hSw); go_simp; (try rw [if_neg (by omega)]); (try (with_reducible rfl)))
        simp only [Act.put, List.setIfInBounds_toArray, List.set_cons_zero, List.set_cons_succ]
        refine take_L [6] (i := 6) (d := some 21) (v := ?_) (by kernel_rfl) (by kernel_rfl) (by kernel_rfl) (by kernel_rfl) rfl rfl (by kernel_rfl) (by kernel_rfl) (by kernel_rfl) (fun _ _ _ h => h) (Or.inl ⟨by rfl, ?_⟩) (by assumption) ?_
        rotate_left
        · (intro w hSw; (try dsimp only at hSw); go_simp; (try rw [if_neg (by omega)]); (try (with_reducible rfl)))
        simp only [Act.put, List.setIfInBounds_toArray, List.set_cons_zero, List.set_cons_succ]
        refine take_F (i := 10) (d := some 25) (v := ?_) (by kernel_rfl) (by kernel_rfl) rfl rfl (by kernel_rfl) (by kernel_rfl) (by kernel_rfl) (fun _ _ _ h => h) (Or.inl ⟨by rfl, ?_⟩) (by assumption) ?_
        rotate_left
        · (intro w hSw; (try dsimp only at hSw); go_simp; (try rw [if_neg (by omega)]); (try (with_reducible rfl)))
        simp only [Act.put, List.setIfInBounds_toArray, List.set_cons_zero, List.set_cons_succ]
        refine take_L [11] (i := 11) (d := some 26) (v := ?_) (by kernel_rfl) (by kernel_rfl) (by kernel_rfl) (by kernel_rfl) rfl rfl (by kernel_rfl) (by kernel_rfl) (by kernel_rfl) (fun _ _ _ h => h) (Or.inl ⟨by rfl, ?_⟩) (by assumption) ?_
        rotate_left
        · (intro w hSw; (try dsimp only at hSw); go_simp; (try rw [if_neg (by omega)]); (try (with_reducible rfl)))
        simp only [Act.put, List.setIfInBounds_toArray, List.set_cons_zero, List.set_cons_succ]
        refine take_F (i := 14) (d := some 29) (v := ?_) (by kernel_rfl) (by kernel_rfl) rfl rfl (by kernel_rfl) (by kernel_rfl) (by kernel_rfl) (fun _ _ _ h => h) (Or.inl ⟨by rfl, ?_⟩) (by assumption) ?_
        rotate_left
        · (intro w hSw; (try dsimp only at hSw); go_simp; (try rw [if_neg (by omega)]); (try (with_reducible rfl)))
        simp only [Act.put, List.setIfInBounds_toArray, List.set_cons_zero, List.set_cons_succ]
        refine take_L [15] (i := 15) (d := some 30) (v := ?_) (by kernel_rfl) (by kernel_rfl) (by kernel_rfl) (by kernel_rfl) rfl rfl (by kernel_rfl) (by kernel_rfl) (by kernel_rfl) (fun _ _ _ h => h) (Or.inl ⟨by rfl, ?_⟩) (by assumption) ?_
        rotate_left
        · (intro w hSw; (try dsimp only at hSw); go_simp; (try rw [if_neg (by omega)]); (try (with_reducible rfl)))
        simp only [Act.put, List.setIfInBounds_toArray, List.set_cons_zero, List.set_cons_succ]
        refine call_L (i := 3) (d := (some 18)) rfl rfl (by kernel_rfl) (fun Kq hKq => ?_)
        go_simp
        go_at_call 56
        refine (HA.out _ (Ht.out.below hacc)).mono ?_; rintro e w5 ⟨rfl, hb5⟩
        have hS5 := four_kept hb5 ⟨f0, f1, f2, f3⟩
        have hacc5 := hacc.trans (hb5.mono hacc.size)
        clear hacc hb5
        (try go_wp2_with fail)
        refine hKq.out _ _ (hS5) (fun hHeld => ?_)
        clear hKq Kq
        (try simp only [Act.put, List.setIfInBounds_toArray, List.set_cons_zero, List.set_cons_succ])
        refine take_F (i := 4) (d := some 19) (v := ?_) (by kernel_rfl) (by kernel_rfl) rfl rfl (by kernel_rfl) (by kernel_rfl) (by kernel_rfl) (fun _ _ _ h => h) (Or.inl ⟨by rfl, ?_⟩) (by assumption) ?_
        rotate_left
        · (intro w hSw; (try dsimp only at hSw); go_simp; (try rw [if_neg (by omega)]); (try (with_reducible rfl)))
        simp only [Act.put, List.setIfInBounds_toArray, List.set_cons_zero, List.set_cons_succ]
        refine call_L (i := 7) (d := (some 22)) rfl rfl (by kernel_rfl) (fun Kq hKq => ?_)
        go_simp
        go_at_call 56
        refine (HB.out _ (Ht.out.below hacc5)).mono ?_; rintro e w6 ⟨rfl, hb6⟩
        have hS6 := four_kept hb6 hS5
        have hacc := hacc5.trans (hb6.mono hacc5.size)
        clear hacc5 hb6
        (try go_wp2_with fail)
        refine hKq.out _ _ (hS6) (fun hHeld => ?_)
        clear hKq Kq
        (try simp only [Act.put, List.setIfInBounds_toArray, List.set_cons_zero, List.set_cons_succ])
        refine take_F (i := 8) (d := some 23) (v := ?_) (by kernel_rfl) (by kernel_rfl) rfl rfl (by kernel_rfl) (by kernel_rfl) (by kernel_rfl) (fun _ _ _ h => h) (Or.inl ⟨by rfl, ?_⟩) (by assumption) ?_
        rotate_left
        · (intro w hSw; (try dsimp only at hSw); go_simp; (try rw [if_neg (by omega)]); (try (with_reducible rfl)))
        simp only [Act.put, List.setIfInBounds_toArray, List.set_cons_zero, List.set_cons_succ]
        refine take_F (i := 9) (d := some 24) (v := ?_) (by kernel_rfl) (by kernel_rfl) rfl rfl (by kernel_rfl) (by kernel_rfl) (by kernel_rfl) (fun _ _ _ h => h) (Or.inl ⟨by rfl, ?_⟩) (by assumption) ?_
        rotate_left
        · (intro w hSw; (try dsimp only at hSw); go_simp; (try rw [if_neg (by omega)]); (try (with_reducible rfl)))
        simp only [Act.put, List.setIfInBounds_toArray, List.set_cons_zero, List.set_cons_succ]
        refine take_F (i := 12) (d := some 27) (v := ?_) (by kernel_rfl) (by kernel_rfl) rfl rfl (by kernel_rfl) (by kernel_rfl) (by kernel_rfl) (fun _ _ _ h => h) (Or.inl ⟨by rfl, ?_⟩) (by assumption) ?_
        rotate_left
        · (intro w hSw; (try dsimp only at hSw); go_simp; (try rw [if_neg (by omega)]); (try (with_reducible rfl)))
        simp only [Act.put, List.setIfInBounds_toArray, List.set_cons_zero, List.set_cons_succ]
        refine take_F (i := 13) (d := some 28) (v := ?_) (by kernel_rfl) (by kernel_rfl) rfl rfl (by kernel_rfl) (by kernel_rfl) (by kernel_rfl) (fun _ _ _ h => h) (Or.inl ⟨by rfl, ?_⟩) (by assumption) ?_
        rotate_left
        · (intro w hSw; (try dsimp only at hSw); go_simp; (try rw [if_neg (by omega)]); (try (with_reducible rfl)))
        simp only [Act.put, List.setIfInBounds_toArray, List.set_cons_zero, List.set_cons_succ]
        refine take_F (i := 16) (d := some 31) (v := ?_) (by kernel_rfl) (by kernel_rfl) rfl rfl (by kernel_rfl) (by kernel_rfl) (by kernel_rfl) (fun _ _ _ h => h) (Or.inl ⟨by rfl, ?_⟩) (by assumption) ?_
        rotate_left
        · (intro w hSw; (try dsimp only at hSw); go_simp; (try rw [if_neg (by omega)]); (try (with_reducible rfl)))
        simp only [Act.put, List.setIfInBounds_toArray, List.set_cons_zero, List.set_cons_succ]
        refine take_F (i := 17) (d := some 32) (v := ?_) (by kernel_rfl) (by kernel_rfl) rfl rfl (by kernel_rfl) (by kernel_rfl) (by kernel_rfl) (fun _ _ _ h => h) (Or.inl ⟨by rfl, ?_⟩) (by assumption) ?_
        rotate_left
        · (intro w hSw; (try dsimp only at hSw); go_simp; (try rw [if_neg (by omega)]); (try (with_reducible rfl)))
        simp only [Act.put, List.setIfInBounds_toArray, List.set_cons_zero, List.set_cons_succ]
        refine take_F (i := 18) (d := some 33) (v := ?_) (by kernel_rfl) (by kernel_rfl) rfl rfl (by kernel_rfl) (by kernel_rfl) (by kernel_rfl) (fun _ _ _ h => h) (Or.inl ⟨by rfl, ?_⟩) (by assumption) ?_
        rotate_left
        · (intro w hSw; (try dsimp only at hSw); go_simp; (try rw [if_neg (by omega)]); (try (with_reducible rfl)))
        simp only [Act.put, List.setIfInBounds_toArray, List.set_cons_zero, List.set_cons_succ]
        refine take_F (i := 19) (d := some 3) (v := ?_) (by kernel_rfl) (by kernel_rfl) rfl rfl (by kernel_rfl) (by kernel_rfl) (by kernel_rfl) (fun _ _ _ h => h) (Or.inl ⟨by rfl, ?_⟩) (by assumption) ?_
        rotate_left
        · (intro w hSw; (try dsimp only at hSw); go_simp; (try rw [if_neg (by omega)]); (try (with_reducible rfl)))
        simp only [Act.put, List.setIfInBounds_toArray, List.set_cons_zero, List.set_cons_succ]
        refine done_L (by kernel_rfl) ?_ _
        refine NoPanic.normal ?_
        go_wp2_with fail
        go_roundw
        case rel => exact ⟨k + 1, by omega, by go_num, by rw [Hr.out, HT'.out], by rw [← HT'.out]; exact hT, hacc⟩
        case measure => simp [intOf]; omega
      · have hd : xs.take k = xs := List.take_of_length_le (by omega)
        rw [hd]
        clear hd
        have hlt' : (xs.length : Int) ≤ (k : Int) := by omega
        go_wp2_with fail
        go_ret
        rw [e0.out]; exact ⟨rfl, hbl⟩
end Go.Proofs.YtmheijnckmlbnaaDoor
/- Loans' texts, part 2: the reference's side. -/
namespace Go.Proofs.YtmheijnckmlbnaaDoor
open Go.RowKit Go.Joins

set_option maxRecDepth 100000 in
set_option maxHeartbeats 1600000 in
theorem l23Text_any (B : Nat) (v : Value) (xs : List Ln) (w : World) (h : RdL w B v xs) (hB : B ≤ w.heap.size) (h60 : xs.length ≤ 60) (hsm : ∀ x ∈ xs, smL x) (hg : ∀ k (hk : k < xs.length), loanOk xs[k] = true) :
    Calls Tryd.prog 61 #[v] w fun e w' => e = .returned (.string (textL xs)) ∧ Below w.heap.size w w' := by
  have H := Lib.hid h
  have Hsm := Lib.hid hsm
  have HG := Lib.hid hg
  obtain ⟨A, c, rfl⟩ := h.slice
  clear h hsm hg
  have hb0 := Lib.hid ((Below.refl w.heap.size w).alloc (Nat.le_refl _) (.cells #[] 5))
  have ho0 := Lib.hid (World.ownsRow_made (base := w.heap.size) (e := 5) (size := 1) w #[] 0 (Nat.le_refl _) (by simp [maxLen]) rfl)
  go_enter Tryd.func61, Tryd.ntmps61
  go_wp2_with fail
  go_loopw [3, 4] (fun o i wr => ∃ (k : Nat), k ≤ xs.length ∧ i = .int .i64 k ∧ wr.ownsRow w.heap.size 5 1 o (textL (xs.take k)).size ((textL (xs.take k)).data.toList.map byV) ∧ (textL (xs.take k)).size ≤ k * 2097300 ∧ Below w.heap.size w wr) (fun _ i _ => xs.length - (intOf i).toNat)
  case atStart => exact ⟨0, Nat.zero_le _, rfl, ho0.out, Nat.le_refl _, hb0.out⟩
  case round =>
    obtain ⟨k, hk, rfl, hown, hsz, hbl⟩ := hrel
    by_cases hlt : k < xs.length
    · have HL := Lib.hid (H.out.below (hbl.mono hB))
      obtain ⟨b1, o1, hA, hE⟩ := HL.out.at k hlt
      subst hA
      have hlt' : (k : Int) < (xs.length : Int) := by omega
      have hsx := Hsm.out xs[k] (List.getElem_mem hlt)
      have hgx := HG.out k hlt
      have hst := textL_step xs k hlt
      have hz1 : b1 < wr.heap.size := Nat.lt_of_lt_of_le hE.lt (Nat.le_trans hB hbl.size)
      have hT0 : ∃ X, X = textL (xs.take (k + 1)) := ⟨_, rfl⟩
      obtain ⟨T', hT0⟩ := hT0
      rw [← hT0] at hst
      have HT' := Lib.hid hT0; clear hT0
      generalize textL (xs.take k) = T at *
      generalize xs[k] = x at *
      obtain ⟨d1, d2, d3, d4⟩ := loan_days hgx
      have s1 := decS_size x.from_ (by omega) (by omega)
      have s2 := decS_size x.till (by omega) (by omega)
      have HLx := Lib.hid (show lineL x = decS x.from_ ++ ⟨#[46, 46]⟩ ++ decS x.till ++ ⟨#[32]⟩ ++ x.what ++ ⟨#[32]⟩ ++ x.who ++ ⟨#[10]⟩ from rfl)
      generalize lineL x = L at *
      obtain ⟨a, b, f, t⟩ := x
      obtain ⟨hs1, hs2⟩ := hsx
      dsimp only at d1 d2 d3 d4
      obtain ⟨f, rfl⟩ : ∃ f' : Nat, f = f' := ⟨f.toNat, by omega⟩
      obtain ⟨t, rfl⟩ : ∃ t' : Nat, t = t' := ⟨t.toNat, by omega⟩
      have HA := Lib.hid (fun wx => l01Dec_nonneg f wx (by omega))
      have HB := Lib.hid (fun wx => l01Dec_nonneg t wx (by omega))
      obtain ⟨hbB, e0, e1, e2, e3⟩ := hE
      dsimp only at e0 e1 e2 e3 HLx s1 s2 hs1 hs2
      clear hgx d1 d2 d3 d4
      generalize decS f = D at *
      generalize decS t = E at *
      have p1 : (D ++ ⟨#[46, 46]⟩ : ByteArray).size = D.size + 2 := ByteArray.size_append
      have p2 : (D ++ ⟨#[46, 46]⟩ ++ E : ByteArray).size = D.size + 2 + E.size := by rw [ByteArray.size_append, p1]
      have p3 : (D ++ ⟨#[46, 46]⟩ ++ E ++ ⟨#[32]⟩ : ByteArray).size = D.size + 2 + E.size + 1 := by rw [ByteArray.size_append, p2]; rfl
      have p4 : (D ++ ⟨#[46, 46]⟩ ++ E ++ ⟨#[32]⟩ ++ a : ByteArray).size = D.size + 2 + E.size + 1 + a.size := by rw [ByteArray.size_append, p3]
      have p5 : (D ++ ⟨#[46, 46]⟩ ++ E ++ ⟨#[32]⟩ ++ a ++ ⟨#[32]⟩ : ByteArray).size = D.size + 2 + E.size + 1 + a.size + 1 := by rw [ByteArray.size_append, p4]; rfl
      have p6 : (D ++ ⟨#[46, 46]⟩ ++ E ++ ⟨#[32]⟩ ++ a ++ ⟨#[32]⟩ ++ b : ByteArray).size = D.size + 2 + E.size + 1 + a.size + 1 + b.size := by rw [ByteArray.size_append, p5]
      have p7 : (D ++ ⟨#[46, 46]⟩ ++ E ++ ⟨#[32]⟩ ++ a ++ ⟨#[32]⟩ ++ b ++ ⟨#[10]⟩ : ByteArray).size = D.size + 2 + E.size + 1 + a.size + 1 + b.size + 1 := by rw [ByteArray.size_append, p6]; rfl
      have hT : T'.size ≤ (k + 1) * 2097300 := by rw [hst, ByteArray.size_append]; have := HLx.out; rw [this, p7]; omega
      have hTs : T.size + (D ++ ⟨#[46, 46]⟩ ++ E ++ ⟨#[32]⟩ ++ a ++ ⟨#[32]⟩ ++ b ++ ⟨#[10]⟩ : ByteArray).size ≤ 140737488355328 := by rw [p7]; omega
      have hTm : T.size + (D ++ ⟨#[46, 46]⟩ ++ E ++ ⟨#[32]⟩ ++ a ++ ⟨#[32]⟩ ++ b ++ ⟨#[10]⟩ : ByteArray).size ≤ maxLen := by rw [p7]; simp only [maxLen]; omega
      have Hfin := Lib.hid (show ∀ (o : Value) (wq : World), wq.ownsRow w.heap.size 5 1 o (T.size + (D ++ ⟨#[46, 46]⟩ ++ E ++ ⟨#[32]⟩ ++ a ++ ⟨#[32]⟩ ++ b ++ ⟨#[10]⟩ : ByteArray).size) (T.data.toList.map byV ++ Lib.strCells (D ++ ⟨#[46, 46]⟩ ++ E ++ ⟨#[32]⟩ ++ a ++ ⟨#[32]⟩ ++ b ++ ⟨#[10]⟩)) → wq.ownsRow w.heap.size 5 1 o T'.size (T'.data.toList.map byV) from fun o wq hq => by
        rw [hst, HLx.out, ByteArray.size_append]
        have e : (T ++ (D ++ ⟨#[46, 46]⟩ ++ E ++ ⟨#[32]⟩ ++ a ++ ⟨#[32]⟩ ++ b ++ ⟨#[10]⟩)).data.toList.map byV = T.data.toList.map byV ++ Lib.strCells (D ++ ⟨#[46, 46]⟩ ++ E ++ ⟨#[32]⟩ ++ a ++ ⟨#[32]⟩ ++ b ++ ⟨#[10]⟩) := by
          rw [ByteArray.data_append, Array.toList_append, List.map_append]; rfl
        rw [e]; exact hq)
      have hacc : Below w.heap.size w wr.drew := hbl.drew
      have Hown := Lib.hid hown
      have hac2 : Below wr.heap.size wr wr.drew := (Below.refl _ _).drew
      have hwz := hbl.size
      clear hbl HL hown hst
      go_wp2_with fail
      refine wp_region_noPanic ?_
      refine wp_region_L [27,26] (fun w' => w'.cell? ⟨b1, o1 + k * 4, none⟩ = some (.string a) ∧ w'.cell? ⟨b1, o1 + k * 4 + 1, none⟩ = some (.string b) ∧ w'.cell? ⟨b1, o1 + k * 4 + 2, none⟩ = some (.int .i64 f) ∧ w'.cell? ⟨b1, o1 + k * 4 + 3, none⟩ = some (.int .i64 t)) (by kernel_rfl) (⟨e0, e1, e2, e3⟩) (fun hHeld => ?_)
      refine take_F (i := 0) (d := some 16) (v := ?_) (by kernel_rfl) (by kernel_rfl) rfl rfl (by kernel_rfl) (by kernel_rfl) (by kernel_rfl) (fun _ _ _ h => h) (Or.inl ⟨by rfl, ?_⟩) (by assumption) ?_
      rotate_left
      · (intro w hSw; (try dsimp only at hSw); go_simp; (try rw [if_neg (by omega)]); (try (with_reducible rfl)))
      simp only [Act.put, List.setIfInBounds_toArray, List.set_cons_zero, List.set_cons_succ]
      refine take_F (i := 1) (d := some 17) (v := ?_) (by kernel_rfl) (by kernel_rfl) rfl rfl (by kernel_rfl) (by kernel_rfl) (by kernel_rfl) (fun _ _ _ h => h) (Or.inl ⟨by rfl, ?_⟩) (by assumption) ?_
      rotate_left
      · (intro w hSw; (try dsimp only at hSw); go_simp; (try rw [if_neg (by omega)]); (try (with_reducible rfl)))
      simp only [Act.put, List.setIfInBounds_toArray, List.set_cons_zero, List.set_cons_succ]
      refine take_F (i := 7) (d := some 23) (v := ?_) (by kernel_rfl) (by kernel_rfl) rfl rfl (by kernel_rfl) (by kernel_rfl) (by kernel_rfl) (fun _ _ _ h => h) (Or.inl ⟨by rfl, ?_⟩) (by assumption) ?_
      rotate_left
      · (intro w hSw; (try dsimp only at hSw); go_simp; (try rw [if_neg (by omega)]); (try (with_reducible rfl)))
      simp only [Act.put, List.setIfInBounds_toArray, List.set_cons_zero, List.set_cons_succ]
      refine take_F (i := 14) (d := some 30) (v := ?_) (by kernel_rfl) (by kernel_rfl) rfl rfl (by kernel_rfl) (by kernel_rfl) (by kernel_rfl) (fun _ _ _ h => h) (Or.inl ⟨by rfl, ?_⟩) (by assumption) ?_
      rotate_left
      · (intro w hSw; (try dsimp only at hSw); go_simp; (try rw [if_neg (by omega)]); (try (with_reducible rfl)))
      simp only [Act.put, List.setIfInBounds_toArray, List.set_cons_zero, List.set_cons_succ]
      refine take_F (i := 20) (d := some 36) (v := ?_) (by kernel_rfl) (by kernel_rfl) rfl rfl (by kernel_rfl) (by kernel_rfl) (by kernel_rfl) (fun _ _ _ h => h) (Or.inl ⟨by rfl, ?_⟩) (by assumption) ?_
      rotate_left
      · (intro w hSw; (try dsimp only at hSw); go_simp; (try rw [if_neg (by omega)]); (try (with_reducible rfl)))
      simp only [Act.put, List.setIfInBounds_toArray, List.set_cons_zero, List.set_cons_succ]
      refine take_F (i := 2) (d := some 18) (v := ?_) (by kernel_rfl) (by kernel_rfl) rfl rfl (by kernel_rfl) (by kernel_rfl) (by kernel_rfl) (fun _ _ _ h => h) (Or.inl ⟨by rfl, ?_⟩) (by assumption) ?_
      rotate_left
      · (intro w hSw; (try dsimp only at hSw); go_simp; (try rw [if_neg (by omega)]); (try (with_reducible rfl)))
      simp only [Act.put, List.setIfInBounds_toArray, List.set_cons_zero, List.set_cons_succ]
      refine take_F (i := 8) (d := some 24) (v := ?_) (by kernel_rfl) (by kernel_rfl) rfl rfl (by kernel_rfl) (by kernel_rfl) (by kernel_rfl) (fun _ _ _ h => h) (Or.inl ⟨by rfl, ?_⟩) (by assumption) ?_
      rotate_left
      · (intro w hSw; (try dsimp only at hSw); go_simp; (try rw [if_neg (by omega)]); (try (with_reducible rfl)))
      simp only [Act.put, List.setIfInBounds_toArray, List.set_cons_zero, List.set_cons_succ]
      refine take_F (i := 15) (d := some 31) (v := ?_) (by kernel_rfl) (by kernel_rfl) rfl rfl (by kernel_rfl) (by kernel_rfl) (by kernel_rfl) (fun _ _ _ h => h) (Or.inl ⟨by rfl, ?_⟩) (by assumption) ?_
      rotate_left
      · (intro w hSw; (try dsimp only at hSw); go_simp; (try rw [if_neg (by omega)]); (try (with_reducible rfl)))
      simp only [Act.put, List.setIfInBounds_toArray, List.set_cons_zero, List.set_cons_succ]
      refine take_F (i := 21) (d := some 37) (v := ?_) (by kernel_rfl) (by kernel_rfl) rfl rfl (by kernel_rfl) (by kernel_rfl) (by kernel_rfl) (fun _ _ _ h => h) (Or.inl ⟨by rfl, ?_⟩) (by assumption) ?_
      rotate_left
      · (intro w hSw; (try dsimp only at hSw); go_simp; (try rw [if_neg (by omega)]); (try (with_reducible rfl)))
      simp only [Act.put, List.setIfInBounds_toArray, List.set_cons_zero, List.set_cons_succ]
      refine take_F (i := 3) (d := some 19) (v := ?_) (by kernel_rfl) (by kernel_rfl) rfl rfl (by kernel_rfl) (by kernel_rfl) (by kernel_rfl) (fun _ _ _ h => h) (Or.inl ⟨by rfl, ?_⟩) (by assumption) ?_
      rotate_left
      · (intro w hSw; (try dsimp only at hSw); go_simp; (try rw [if_neg (by omega)]); (try (with_reducible rfl)))
      simp only [Act.put, List.setIfInBounds_toArray, List.set_cons_zero, List.set_cons_succ]
      refine take_F (i := 9) (d := some 25) (v := ?_) (by kernel_rfl) (by kernel_rfl) rfl rfl (by kernel_rfl) (by kernel_rfl) (by kernel_rfl) (fun _ _ _ h => h) (Or.inl ⟨by rfl, ?_⟩) (by assumption) ?_
      rotate_left
      · (intro w hSw; (try dsimp only at hSw); go_simp; (try rw [if_neg (by omega)]); (try (with_reducible rfl)))
      simp only [Act.put, List.setIfInBounds_toArray, List.set_cons_zero, List.set_cons_succ]
      refine take_F (i := 16) (d := some 32) (v := ?_) (by kernel_rfl) (by kernel_rfl) rfl rfl (by kernel_rfl) (by kernel_rfl) (by kernel_rfl) (fun _ _ _ h => h) (Or.inl ⟨by rfl, ?_⟩) (by assumption) ?_
      rotate_left
      · (intro w hSw; (try dsimp only at hSw); go_simp; (try rw [if_neg (by omega)]); (try (with_reducible rfl)))
      simp only [Act.put, List.setIfInBounds_toArray, List.set_cons_zero, List.set_cons_succ]
      refine take_F (i := 22) (d := some 38) (v := ?_) (by kernel_rfl) (by kernel_rfl) rfl rfl (by kernel_rfl) (by kernel_rfl) (by kernel_rfl) (fun _ _ _ h => h) (Or.inl ⟨by rfl, ?_⟩) (by assumption) ?_
      rotate_left
      · (intro w hSw; (try dsimp only at hSw); go_simp; (try rw [if_neg (by omega)]); (try (with_reducible rfl)))
      simp only [Act.put, List.setIfInBounds_toArray, List.set_cons_zero, List.set_cons_succ]
      refine take_L [25,24,19,18,13,12,6,5,4] (i := 4) (d := some 20) (v := ?_) (by kernel_rfl) (by kernel_rfl) (by kernel_rfl) (by kernel_rfl) rfl rfl (by kernel_rfl) (by kernel_rfl) (by kernel_rfl) (fun _ _ _ h => h) (Or.inl ⟨by rfl, ?_⟩) (by assumption) ?_
      rotate_left
      · (intro w hSw; (try dsimp only at hSw); go_simp; (try rw [if_neg (by omega)]); (try (with_reducible rfl)))
      simp only [Act.put, List.setIfInBounds_toArray, List.set_cons_zero, List.set_cons_succ]
      refine take_L [25,24,19,18,13,12,11,10] (i := 10) (d := some 26) (v := ?_) (by kernel_rfl) (by kernel_rfl) (by kernel_rfl) (by kernel_rfl) rfl rfl (by kernel_rfl) (by kernel_rfl) (by kernel_rfl) (fun _ _ _ h => h) (Or.inl ⟨by rfl, ?_⟩) (by assumption) ?_
      rotate_left
      · (intro w hSw; (try dsimp only at hSw); go_simp; (try rw [if_neg (by omega)]); (try (with_reducible rfl)))
      simp only [Act.put, List.setIfInBounds_toArray, List.set_cons_zero, List.set_cons_succ]
      refine take_L [25,24,19,18,17] (i := 17) (d := some 33) (v := ?_) (by kernel_rfl) (by kernel_rfl) (by kernel_rfl) (by kernel_rfl) rfl rfl (by kernel_rfl) (by kernel_rfl) (by kernel_rfl) (fun _ _ _ h => h) (Or.inl ⟨by rfl, ?_⟩) (by assumption) ?_
      rotate_left
      · (intro w hSw; (try dsimp only at hSw); go_simp; (try rw [if_neg (by omega)]); (try (with_reducible rfl)))
      simp only [Act.put, List.setIfInBounds_toArray, List.set_cons_zero, List.set_cons_succ]
      refine take_L [25,24,23] (i := 23) (d := some 39) (v := ?_) (by kernel_rfl) (by kernel_rfl) (by kernel_rfl) (by kernel_rfl) rfl rfl (by kernel_rfl) (by kernel_rfl) (by kernel_rfl) (fun _ _ _ h => h) (Or.inl ⟨by rfl, ?_⟩) (by assumption) ?_
      rotate_left
      · (intro w hSw; (try dsimp only at hSw); go_simp; (try rw [if_neg (by omega)]); (try (with_reducible rfl)))
      simp only [Act.put, List.setIfInBounds_toArray, List.set_cons_zero, List.set_cons_succ]
      refine call_L (i := 5) (d := (some 21)) rfl rfl (by kernel_rfl) (fun Kq hKq => ?_)
      go_simp
      go_at_call 79
      refine (HA.out _).mono ?_; rintro e w5 ⟨rfl, hb5⟩
      have hS5 := four_kept hb5 ⟨e0, e1, e2, e3⟩
      have hacc5 := hacc.trans (hb5.mono hacc.size)
      have hac5 := hac2.trans (hb5.mono hac2.size)
      clear hacc hac2 hb5
      (try go_wp2_with fail)
      refine hKq.out _ _ (hS5) (fun hHeld => ?_)
      clear hKq Kq
      (try simp only [Act.put, List.setIfInBounds_toArray, List.set_cons_zero, List.set_cons_succ])
      refine take_F (i := 6) (d := some 22) (v := ?_) (by kernel_rfl) (by kernel_rfl) rfl rfl (by kernel_rfl) (by kernel_rfl) (by kernel_rfl) (fun _ _ _ h => h) (Or.inl ⟨by rfl, ?_⟩) (by assumption) ?_
      rotate_left
      · (intro w hSw; (try dsimp only at hSw); go_simp; (try rw [if_neg (by omega)]); (try (with_reducible rfl)))
      simp only [Act.put, List.setIfInBounds_toArray, List.set_cons_zero, List.set_cons_succ]
      refine call_L (i := 11) (d := (some 27)) rfl rfl (by kernel_rfl) (fun Kq hKq => ?_)
      go_simp
      go_at_call 79
      refine (HB.out _).mono ?_; rintro e w6 ⟨rfl, hb6⟩
      have hS6 := four_kept hb6 hS5
      have hacc := hacc5.trans (hb6.mono hacc5.size)
      have hac2 := hac5.trans (hb6.mono hac5.size)
      clear hacc5 hac5 hb6
      (try go_wp2_with fail)
      refine hKq.out _ _ (hS6) (fun hHeld => ?_)
      clear hKq Kq
      (try simp only [Act.put, List.setIfInBounds_toArray, List.set_cons_zero, List.set_cons_succ])
      refine take_F (i := 12) (d := some 28) (v := ?_) (by kernel_rfl) (by kernel_rfl) rfl rfl (by kernel_rfl) (by kernel_rfl) (by kernel_rfl) (fun _ _ _ h => h) (Or.inl ⟨by rfl, ?_⟩) (by assumption) ?_
      rotate_left
      · (intro w hSw; (try dsimp only at hSw); go_simp; (try rw [if_neg (by omega)]); (try (with_reducible rfl)))
      simp only [Act.put, List.setIfInBounds_toArray, List.set_cons_zero, List.set_cons_succ]
      refine take_F (i := 13) (d := some 29) (v := ?_) (by kernel_rfl) (by kernel_rfl) rfl rfl (by kernel_rfl) (by kernel_rfl) (by kernel_rfl) (fun _ _ _ h => h) (Or.inl ⟨by rfl, ?_⟩) (by assumption) ?_
      rotate_left
      · (intro w hSw; (try dsimp only at hSw); go_simp; (try rw [if_neg (by omega)]); (try (with_reducible rfl)))
      simp only [Act.put, List.setIfInBounds_toArray, List.set_cons_zero, List.set_cons_succ]
      refine take_F (i := 18) (d := some 34) (v := ?_) (by kernel_rfl) (by kernel_rfl) rfl rfl (by kernel_rfl) (by kernel_rfl) (by kernel_rfl) (fun _ _ _ h => h) (Or.inl ⟨by rfl, ?_⟩) (by assumption) ?_
      rotate_left
      · (intro w hSw; (try dsimp only at hSw); go_simp; (try rw [if_neg (by omega)]); (try (with_reducible rfl)))
      simp only [Act.put, List.setIfInBounds_toArray, List.set_cons_zero, List.set_cons_succ]
      refine take_F (i := 19) (d := some 35) (v := ?_) (by kernel_rfl) (by kernel_rfl) rfl rfl (by kernel_rfl) (by kernel_rfl) (by kernel_rfl) (fun _ _ _ h => h) (Or.inl ⟨by rfl, ?_⟩) (by assumption) ?_
      rotate_left
      · (intro w hSw; (try dsimp only at hSw); go_simp; (try rw [if_neg (by omega)]); (try (with_reducible rfl)))
      simp only [Act.put, List.setIfInBounds_toArray, List.set_cons_zero, List.set_cons_succ]
      refine take_F (i := 24) (d := some 40) (v := ?_) (by kernel_rfl) (by kernel_rfl) rfl rfl (by kernel_rfl) (by kernel_rfl) (by kernel_rfl) (fun _ _ _ h => h) (Or.inl ⟨by rfl, ?_⟩) (by assumption) ?_
      rotate_left
      · (intro w hSw; (try dsimp only at hSw); go_simp; (try rw [if_neg (by omega)]); (try (with_reducible rfl)))
      simp only [Act.put, List.setIfInBounds_toArray, List.set_cons_zero, List.set_cons_succ]
      refine take_F (i := 25) (d := some 41) (v := ?_) (by kernel_rfl) (by kernel_rfl) rfl rfl (by kernel_rfl) (by kernel_rfl) (by kernel_rfl) (fun _ _ _ h => h) (Or.inl ⟨by rfl, ?_⟩) (by assumption) ?_
      rotate_left
      · (intro w hSw; (try dsimp only at hSw); go_simp; (try rw [if_neg (by omega)]); (try (with_reducible rfl)))
      simp only [Act.put, List.setIfInBounds_toArray, List.set_cons_zero, List.set_cons_succ]
      refine late_L (i := 26) (d := (some 42)) (by kernel_rfl) rfl rfl (by kernel_rfl) (fun Kq hKq => ?_)
      refine step_str 22 9 5 Tryd.underlying22 Tryd.underlying9 infoB' _ _ (by rfl) (by rfl) w.heap.size _ T.size _ (by rfl) (own_below Hown.out hac2) _ (by rfl) hTm hTs hacc.size ?_; intro v' w1 hown1 hg1
      refine hKq.out _ _ ?_
      clear hKq Kq
      simp only [Act.put, List.setIfInBounds_toArray]
      refine late_L (i := 27) (d := (some 3)) (by kernel_rfl) rfl rfl (by kernel_rfl) (fun Kq hKq => ?_)
      go_simp
      refine hKq.out _ _ ?_
      clear hKq Kq
      refine done_L (by kernel_rfl) ?_ _
      refine NoPanic.normal ?_
      have Hb1 := Lib.hid (below_apd hacc (own_below Hown.out hac2) hg1 (Nat.le_refl _) hacc.size)
      have Ho1 := Lib.hid (Hfin.out _ _ hown1)
      clear hacc hac2 hown1 hg1
      go_wp2_with fail
      go_roundw
      case rel => exact ⟨k + 1, by omega, by go_num, by rw [← HT'.out]; exact Ho1.out, by rw [← HT'.out]; exact hT, Hb1.out⟩
      case measure => simp [intOf]; omega
    · have hd : xs.take k = xs := List.take_of_length_le (by omega)
      rw [hd] at hown
      clear hd
      have hconv := run_conv_own (P := Tryd.prog) 22 9 5 Tryd.underlying22 Tryd.underlying5 Tryd.underlying9 _ _ _ _ hown
      have hlt' : (xs.length : Int) ≤ (k : Int) := by omega
      clear hown
      go_wp2_with fail
      go_ret
      exact ⟨by first | rfl | simp, hbl⟩

set_option maxRecDepth 100000 in
set_option maxHeartbeats 800000 in
theorem LoansTextS_any (B : Nat) (v : Value) (xs : List Ln) (w : World) (h : RdL w B v xs) (hB : B ≤ w.heap.size) (hl : xs.length ≤ 1048576) (hsm : ∀ x ∈ xs, smL x) :
    Calls Tryd.prog 24 #[v] w fun e w' => e = .returned (.string (txL xs)) ∧ Below w.heap.size w w' := by
  have HV := Lib.hid (l23Ok_any B v xs w h hl hsm)
  cases hok : loansOk xs with
  | false =>
    have e0 := Lib.hid (show txL xs = ⟨#[]⟩ by unfold txL; rw [hok]; rfl)
    rw [hok] at HV
    clear hok h hsm
    have hb0 := fun n => below_drewN (Below.refl w.heap.size w) n
    go_enter Tryd.func24, Tryd.ntmps24
    go_wp2_with fail
    refine HV.out.mono ?_; rintro e w1 ⟨rfl, m, rfl⟩
    go_wp2_with fail
    go_ret
    rw [e0.out]; exact ⟨rfl, hb0 m⟩
  | true =>
    have e0 := Lib.hid (show txL xs = textL xs by unfold txL; rw [hok]; rfl)
    have HT := Lib.hid (fun m => l23Text_any B v xs (w.drewN m) (h.drewN m) hB (loans_60 hok) hsm (fun k hk => loans_at hok k hk))
    rw [hok] at HV
    clear hok h hsm
    have hb0 := fun n => below_drewN (Below.refl w.heap.size w) n
    go_enter Tryd.func24, Tryd.ntmps24
    go_wp2_with fail
    refine HV.out.mono ?_; rintro e w1 ⟨rfl, m, rfl⟩
    go_wp2_with fail
    refine (HT.out m).mono ?_; rintro e w2 ⟨rfl, hb2⟩
    have hb := (hb0 m).trans hb2
    clear hb2
    go_wp2_with fail
    go_ret
    rw [e0.out]; exact ⟨rfl, hb⟩
end Go.Proofs.YtmheijnckmlbnaaDoor
/- Loans: the law's draws, from the code. -/
namespace Go.Proofs.YtmheijnckmlbnaaDoor
open Go.RowKit Go.Joins

set_option maxRecDepth 100000 in
set_option maxHeartbeats 800000 in
theorem drawLT_any (B : Nat) (cv : Value) (bs : List UInt8) (w : World) (h : Rd w B cv bs.length 1 (bs.map byV)) (hB : B ≤ w.heap.size) : Calls Tryd.prog 17 #[cv] w (OneR w) := by
  have HF := Lib.hid (l00From_any B cv bs w h hB)
  obtain ⟨_, A, c, rfl, _⟩ := h
  go_enter Tryd.func17, Tryd.ntmps17
  go_wp2_with fail
  refine HF.out.mono ?_; rintro e w1 ⟨rfl, hs1, hb1, hl1⟩
  have Hs1 := Lib.hid hs1
  have Hb1 := Lib.hid hb1
  clear hs1 hb1 HF
  go_wp2_with fail
  refine (l23Bent_any B _ 0 bs _ Hs1.out (by omega)).mono ?_; rintro e w2 ⟨v2, xs, rfl, hd2⟩
  obtain ⟨b0, c0, rfl⟩ := hd2.nn
  have HD2 := Lib.hid hd2
  clear hd2 Hs1
  go_wp2_with fail
  go_ret
  exact ⟨_, xs, rfl, NewLs.of HD2.out Hb1.out (Nat.le_refl _)⟩

theorem lineL_sz {x : Ln} (h : loanOk x = true) (hs : smX x) : (lineL x).size ≤ 80 := by
  have hd := loan_days h
  have h1 := decS_size x.from_ (by omega) (by omega)
  have h2 := decS_size x.till (by omega) (by omega)
  obtain ⟨s1, s2⟩ := hs
  unfold lineL
  simp only [ByteArray.size_append]
  show _ + 2 + _ + 1 + _ + 1 + _ + 1 ≤ _
  omega
theorem textL_sz : ∀ (xs : List Ln), (∀ x ∈ xs, loanOk x = true ∧ smX x) → (textL xs).size ≤ xs.length * 80 := by
  intro xs
  induction xs with
  | nil => intro _; exact Nat.le_refl _
  | cons x l ih =>
    intro h
    have h1 := ih fun y hy => h y (by simp [hy])
    obtain ⟨h2, h3⟩ := h x (by simp)
    have h4 := lineL_sz h2 h3
    have e : textL (x :: l) = lineL x ++ textL l := by
      unfold textL
      refine ba_inj ?_
      rw [ByteArray.toList_eq, ByteArray.toList_eq]
      simp
    rw [e, ByteArray.size_append, List.length_cons]
    omega
set_option maxRecDepth 100000 in
set_option maxHeartbeats 1600000 in
theorem drawRL_any (B : Nat) (cv : Value) (bs : List UInt8) (w : World) (h : Rd w B cv bs.length 1 (bs.map byV)) (hB : B ≤ w.heap.size) : Calls Tryd.prog 20 #[cv] w fun e w' => ∃ s : ByteArray, e = .returned (.string s) ∧ s.size ≤ 1048576 ∧ Below w.heap.size w w' := by
  have HF := Lib.hid (l00From_any B cv bs w h hB)
  obtain ⟨_, A, c, rfl, _⟩ := h
  go_enter Tryd.func20, Tryd.ntmps20
  go_wp2_with fail
  refine HF.out.mono ?_; rintro e w1 ⟨rfl, hs1, hb1, hl1⟩
  have Hs1 := Lib.hid hs1
  have Hb1 := Lib.hid hb1
  clear hs1 hb1 HF
  go_wp2_with fail
  refine (l23Draw_any B _ 0 bs _ Hs1.out (by omega)).mono ?_; rintro e w2 ⟨v2, xs, rfl, hd2, hok⟩
  obtain ⟨b0, c0, rfl⟩ := hd2.nn
  have HD2 := Lib.hid hd2
  have hP := OkP.of hok
  have hxl := hP.len
  have HT := Lib.hid (l23Text_any w2.heap.size _ xs w2 hd2.rd (Nat.le_refl _) hxl (fun x hx => (hd2.sm x hx).sm) (fun k hk => hP.one k hk))
  have hts := textL_sz xs (fun x hx => by
    obtain ⟨i, hi, rfl⟩ := List.mem_iff_getElem.1 hx
    exact ⟨hP.one i hi, hd2.sm _ (List.getElem_mem hi)⟩)
  generalize textL xs = t at *
  clear hd2 hok hP Hs1
  go_wp2_with fail
  refine HT.out.mono ?_; rintro e w3 ⟨rfl, hb3⟩
  have HD3 := Lib.hid (HD2.out.below hb3)
  clear hb3 HD2 HT
  go_wp2_with fail
  refine (one_any B _ _ bs 3 _ HD3.out.dr.src (by omega)).mono ?_; rintro e w4 ⟨y, rfl, hs4, hg4⟩
  have HD4 := Lib.hid (HD3.out.draw hs4 hg4)
  clear hs4 hg4 HD3
  cases y with
  | false =>
    go_wp2_with fail
    go_ret
    exact ⟨t, rfl, by omega, below_srcL Hb1.out HD4.out.dr.gr (Nat.le_refl _)⟩
  | true =>
    go_wp2_with fail
    refine (spoil_any B _ _ bs t _ HD4.out.dr.src (by omega) (by omega)).mono ?_; rintro e w5 ⟨z, rfl, hz, hs5, hg5⟩
    have HD5 := Lib.hid (HD4.out.draw hs5 hg5)
    clear hs5 hg5 HD4
    go_wp2_with fail
    go_ret
    exact ⟨z, rfl, by omega, below_srcL Hb1.out HD5.out.dr.gr (Nat.le_refl _)⟩
end Go.Proofs.YtmheijnckmlbnaaDoor
/- Loans: DrawAddLoan. -/
namespace Go.Proofs.YtmheijnckmlbnaaDoor
open Go.RowKit Go.Joins

def AddDr (w : World) (e : Ending) (w' : World) : Prop := ∃ (v : Value) (xs : List Ln) (x : Ln), e = .returned (.tuple #[v, aggL x]) ∧ NewLs w w' v xs ∧ smX x
theorem AddDr.hr {w w1 w5 : World} {B g k : Nat} {bs : List UInt8} {v : Value} {xs : List Ln} (h : DrM w1 w5 B g k bs v xs) (hr : w1.heap[w.heap.size]? = some (.cells #[.string ⟨#[]⟩, .string ⟨#[]⟩, .int .i64 0, .int .i64 0] 26 (0, 0))) (hg : g = w.heap.size + 1) : w5.heap[w.heap.size]? = some (.cells #[.string ⟨#[]⟩, .string ⟨#[]⟩, .int .i64 0, .int .i64 0] 26 (0, 0)) :=
  (h.dr.gr.block _ (Array.getElem?_eq_some_iff.1 hr).1 (fun e => by injection e; omega)).trans hr
theorem own_ne {w : World} {base q n sz : Nat} {e : TypeId} {v : Value} {cs : List Value} (h : w.ownsRow base e sz v n cs) (hq : q < base ∨ w.heap.size ≤ q) : v.ownBlock = none ∨ v.ownBlock ≠ some q := by
  cases hv : v.ownBlock with
  | none => exact .inl rfl
  | some x => exact .inr fun e => by have := h.lt x hv; injection e; omega
theorem grown_put4 {w : World} {g : Nat} (a b c d : Value) : w.grownBy (put4 w g a b c d) (some g) := by
  have g0 : w.grownBy w (some g) := ⟨rfl, rfl, rfl, Nat.le_refl _, fun _ _ _ => rfl⟩
  exact grown_setCell (grown_setCell (grown_setCell (grown_setCell g0 (p := ⟨g, 0, none⟩) (.inl rfl) a) (p := ⟨g, 1, none⟩) (.inl rfl) b) (p := ⟨g, 2, none⟩) (.inl rfl) c) (p := ⟨g, 3, none⟩) (.inl rfl) d
theorem AddDr.fin {w w1 w5 : World} {B g k : Nat} {bs : List UInt8} {v : Value} {xs : List Ln} (h : DrM w1 w5 B g k bs v xs) (hb : Below w.heap.size w w1) (hr : w1.heap[w.heap.size]? = some (.cells #[.string ⟨#[]⟩, .string ⟨#[]⟩, .int .i64 0, .int .i64 0] 26 (0, 0))) (hg : g = w.heap.size + 1) (a b c d : Value) :
    ((put4 w5 w.heap.size a b c d).cell? ⟨w.heap.size, 0, none⟩ = some a ∧ (put4 w5 w.heap.size a b c d).cell? ⟨w.heap.size, 1, none⟩ = some b ∧ (put4 w5 w.heap.size a b c d).cell? ⟨w.heap.size, 2, none⟩ = some c ∧ (put4 w5 w.heap.size a b c d).cell? ⟨w.heap.size, 3, none⟩ = some d) ∧
    NewLs w (put4 w5 w.heap.size a b c d) v xs := by
  have hr5 := AddDr.hr h hr hg
  have hlt1 := (Array.getElem?_eq_some_iff.1 hr).1
  have g4 := heap_setCell_same _ w.heap.size 3 _ _ d (heap_setCell_same _ w.heap.size 2 _ _ c (heap_setCell_same _ w.heap.size 1 _ _ b (heap_setCell_same w5 w.heap.size 0 _ _ a hr5)))
  have hg4 := grown_put4 (w := w5) (g := w.heap.size) a b c d
  refine ⟨(blk4 g4).1, ownsRow_le (h.dr.row.kept hg4 (own_ne h.dr.row (.inl hlt1))) hb.size, h.len, h.sm, h.nn, ?_⟩
  have h1 : Below w.heap.size w w5 := below_srcL hb h.dr.gr (by omega)
  exact h1.grown hg4 h1.size (fun x hx => by cases hx; exact Nat.le_refl _)
/-- the loan that is added: its own block is written anew -/
theorem put4q_DrM {W w : World} {B g k q : Nat} {bs : List UInt8} {v : Value} {xs : List Ln} (h : DrM W w B g k bs v xs) (hq : W.heap.size ≤ q) (hne : v.ownBlock = none ∨ v.ownBlock ≠ some q) {a b c d : Value} (hh : w.heap[q]? = some (.cells #[a, b, c, d] 26 (0, 0))) (a' b' c' d' : Value) :
    DrM W (put4 w q a' b' c' d') B g k bs v xs ∧ (put4 w q a' b' c' d').heap[q]? = some (.cells #[a', b', c', d'] 26 (0, 0)) := by
  have hg4 := grown_put4 (w := w) (g := q) a' b' c' d'
  have g4 := heap_setCell_same _ q 3 _ _ d' (heap_setCell_same _ q 2 _ _ c' (heap_setCell_same _ q 1 _ _ b' (heap_setCell_same w q 0 _ _ a' hh)))
  exact ⟨⟨⟨h.dr.lt, h.dr.src.grown hg4 (fun x hx => by cases hx; exact Nat.lt_of_lt_of_le h.dr.lt hq), h.dr.row.kept hg4 hne, grownBy_row h.dr.gr hg4 (fun x hx => by cases hx; exact hq)⟩, h.len, h.sm, h.nn⟩, g4⟩

set_option maxRecDepth 100000 in
set_option maxHeartbeats 3200000 in
theorem drawAL_any (B : Nat) (cv : Value) (bs : List UInt8) (w : World) (h : Rd w B cv bs.length 1 (bs.map byV)) (hB : B ≤ w.heap.size) : Calls Tryd.prog 7 #[cv] w (AddDr w) := by
  have hb0 := (Below.refl w.heap.size w).alloc (Nat.le_refl _) (.cells #[.string ⟨#[]⟩, .string ⟨#[]⟩, .int .i64 0, .int .i64 0] 26)
  have HF := Lib.hid (l00From_any B cv bs (w.alloc (.cells #[.string ⟨#[]⟩, .string ⟨#[]⟩, .int .i64 0, .int .i64 0] 26)) (h.below (hb0.mono hB)) (Nat.le_trans hB hb0.size))
  have Hr0 := Lib.hid (heap_alloc_new w (.cells #[.string ⟨#[]⟩, .string ⟨#[]⟩, .int .i64 0, .int .i64 0] 26))
  have Hb0 := Lib.hid hb0
  have hsz : (w.alloc (.cells #[.string ⟨#[]⟩, .string ⟨#[]⟩, .int .i64 0, .int .i64 0] 26)).heap.size = w.heap.size + 1 := Array.size_push _
  obtain ⟨_, A, c, rfl, _⟩ := h
  clear hb0
  go_enter Tryd.func7, Tryd.ntmps7
  go_wp2_with fail
  refine HF.out.mono ?_; rintro e w1 ⟨rfl, hs1, hb1, hl1⟩
  have Hs1 := Lib.hid hs1
  have Hr := Lib.hid ((hb1.block w.heap.size (by omega)).trans Hr0.out)
  have Hb1 := Lib.hid (Hb0.out.trans (hb1.mono (by omega)))
  generalize hgw0 : (w.alloc (.cells #[.string ⟨#[]⟩, .string ⟨#[]⟩, .int .i64 0, .int .i64 0] 26)).heap.size = g at *
  have hgw := hsz
  clear hs1 hb1 HF Hr0 Hb0 hsz hgw0
  subst hgw
  go_wp2_with fail
  refine (l23Bent_any B (w.heap.size + 1) 0 bs _ Hs1.out (by omega)).mono ?_; rintro e w2 ⟨v2, xs, rfl, hd2⟩
  obtain ⟨b0, c0, rfl⟩ := hd2.nn
  have HD2 := Lib.hid hd2
  clear hd2 Hs1
  go_wp2_with fail
  refine (l23New_any B (w.heap.size + 1) _ bs _ HD2.out.dr.src (by omega)).mono ?_; rintro e w3 ⟨⟨xa, xb, xf, xt⟩, rfl, hxa, hxb, hs3, hg3⟩
  dsimp only at hxa hxb
  have HM3 := Lib.hid (HD2.out.draw hs3 hg3)
  have hbw := (Below.refl w3.heap.size w3).alloc (Nat.le_refl _) (.cells #[.string xa, .string xb, .int .i64 xf, .int .i64 xt] 26)
  have HM4 := Lib.hid (HM3.out.below hbw)
  have HQ4 := Lib.hid (heap_alloc_new w3 (.cells #[.string xa, .string xb, .int .i64 xf, .int .i64 xt] 26))
  have hqb : b0 ≠ w3.heap.size := by have := (HM3.out.dr.row.lt b0 rfl).2; omega
  have hqW : w1.heap.size ≤ w3.heap.size := HM3.out.dr.gr.size
  have hqg : w.heap.size + 1 ≠ w3.heap.size := by have := HM3.out.dr.lt; omega
  have hqs : w3.heap.size < (w3.alloc (.cells #[.string xa, .string xb, .int .i64 xf, .int .i64 xt] 26)).heap.size := Nat.lt_of_lt_of_eq (Nat.lt_succ_self _) (Array.size_push _).symm
  clear hs3 hg3 HD2 hbw HM3
  go_upto_region 4 with (fail)
  generalize hq : w3.heap.size = q at *
  generalize w3.alloc (.cells #[.string xa, .string xb, .int .i64 xf, .int .i64 xt] 26) = w4 at *
  clear hq
  go_wp2_with fail
  refine (one_any B (w.heap.size + 1) _ bs 20 w4 HM4.out.dr.src (by omega)).mono ?_; rintro e w5 ⟨y, rfl, hs5, hg5⟩
  have HM5 := Lib.hid (HM4.out.draw hs5 hg5)
  have HQ5 := Lib.hid ((hg5.block q hqs (fun e => hqg (by injection e; omega))).trans HQ4.out)
  clear hs5 hg5 HM4 HQ4 hqs
  cases y with
  | false =>
    have HM := HM5
    have HQ := HQ5
    clear HM5 HQ5
    go_upto_region 6 with (fail)
    obtain ⟨⟨q0, q1, q2, q3⟩, _⟩ := blk4 HQ.out
    obtain ⟨⟨r0, r1, r2, r3⟩, s0, s1, s2, s3⟩ := blk4 (AddDr.hr HM.out Hr.out rfl)
    have HD := Lib.hid (AddDr.fin HM.out Hb1.out Hr.out rfl (.string xa) (.string xb) (.int .i64 xf) (.int .i64 xt))
    clear HM HQ Hb1 Hr
    refine wp_region_noPanic ?_
    refine wp_region_L [3] (fun w' => w'.cell? ⟨q, 0, none⟩ = some (.string xa) ∧ w'.cell? ⟨q, 1, none⟩ = some (.string xb) ∧ w'.cell? ⟨q, 2, none⟩ = some (.int .i64 xf) ∧ w'.cell? ⟨q, 3, none⟩ = some (.int .i64 xt)) (by kernel_rfl) (⟨q0, q1, q2, q3⟩) (fun hHeld => ?_)
    refine take_F (i := 0) (d := some 16) (v := ?_) (by kernel_rfl) (by kernel_rfl) rfl rfl (by kernel_rfl) (by kernel_rfl) (by kernel_rfl) (fun _ _ _ h => h) (Or.inl ⟨by rfl, ?_⟩) (by assumption) ?_
    rotate_left
    · (intro w hSw; (try dsimp only at hSw); go_simp; (try rw [if_neg (by omega)]); (try (with_reducible rfl)))
    simp only [Act.put, List.setIfInBounds_toArray, List.set_cons_zero, List.set_cons_succ]
    refine take_L [1] (i := 1) (d := some 17) (v := ?_) (by kernel_rfl) (by kernel_rfl) (by kernel_rfl) (by kernel_rfl) rfl rfl (by kernel_rfl) (by kernel_rfl) (by kernel_rfl) (fun _ _ _ h => h) (Or.inl ⟨by rfl, ?_⟩) (by assumption) ?_
    rotate_left
    · (intro w hSw; (try dsimp only at hSw); go_simp; (try rw [if_neg (by omega)]); (try (with_reducible rfl)))
    simp only [Act.put, List.setIfInBounds_toArray, List.set_cons_zero, List.set_cons_succ]
    refine take_F (i := 2) (d := some 2) (v := ?_) (by kernel_rfl) (by kernel_rfl) rfl rfl (by kernel_rfl) (by kernel_rfl) (by kernel_rfl) (fun _ _ _ h => h) (Or.inl ⟨by rfl, ?_⟩) (by assumption) ?_
    rotate_left
    · (intro w hSw; (try dsimp only at hSw); go_simp; (try rw [if_neg (by omega)]); (try (with_reducible rfl)))
    simp only [Act.put, List.setIfInBounds_toArray, List.set_cons_zero, List.set_cons_succ]
    refine late_L (i := 3) (d := none) (by kernel_rfl) rfl rfl (by kernel_rfl) (fun Kq hKq => ?_)
    go_simp
    refine hKq.out _ _ ?_
    clear hKq Kq
    refine done_L (by kernel_rfl) ?_ _
    refine NoPanic.normal ?_
    go_wp2_with fail
    obtain ⟨⟨k0, k1, k2, k3⟩, hfin⟩ := HD.out
    refine bodyPost_ret (v := .tuple #[.slice (some ⟨b0, 0, none⟩) xs.length c0, .agg #[.string xa, .string xb, .int .i64 xf, .int .i64 xt]]) (by simp [results, Tryd.results7, go_sem, k0, k1, k2, k3]) rfl ?_
    exact ⟨_, xs, ⟨xa, xb, xf, xt⟩, rfl, hfin.drewN 1, ⟨Nat.le_trans hxa (by omega), Nat.le_trans hxb (by omega)⟩⟩
  | true =>
    obtain ⟨⟨p0, p1, p2, p3⟩, f0, f1, f2, f3⟩ := blk4 HQ5.out
    obtain ⟨hM, hQ⟩ := put4q_DrM HM5.out hqW (.inr (fun e => hqb (by injection e))) HQ5.out (.string ⟨#[101, 110, 103, 105, 110, 101]⟩) (.string ⟨#[98, 111, 110, 110]⟩) (.int .i64 1) (.int .i64 2)
    unfold put4 at hM hQ
    have HM := Lib.hid hM
    have HQ := Lib.hid hQ
    clear hM hQ HM5 HQ5
    go_upto_region 6 with (fail)
    generalize (((w5.setCell ⟨q, 0, none⟩ (.string ⟨#[101, 110, 103, 105, 110, 101]⟩)).setCell ⟨q, 1, none⟩ (.string ⟨#[98, 111, 110, 110]⟩)).setCell ⟨q, 2, none⟩ (.int .i64 1)).setCell ⟨q, 3, none⟩ (.int .i64 2) = w6 at *
    clear f0 f1 f2 f3 p0 p1 p2 p3
    obtain ⟨⟨q0, q1, q2, q3⟩, _⟩ := blk4 HQ.out
    obtain ⟨⟨r0, r1, r2, r3⟩, s0, s1, s2, s3⟩ := blk4 (AddDr.hr HM.out Hr.out rfl)
    have HD := Lib.hid (AddDr.fin HM.out Hb1.out Hr.out rfl (.string ⟨#[101, 110, 103, 105, 110, 101]⟩) (.string ⟨#[98, 111, 110, 110]⟩) (.int .i64 1) (.int .i64 2))
    clear HM HQ Hb1 Hr
    refine wp_region_noPanic ?_
    refine wp_region_L [3] (fun w' => w'.cell? ⟨q, 0, none⟩ = some (.string ⟨#[101, 110, 103, 105, 110, 101]⟩) ∧ w'.cell? ⟨q, 1, none⟩ = some (.string ⟨#[98, 111, 110, 110]⟩) ∧ w'.cell? ⟨q, 2, none⟩ = some (.int .i64 1) ∧ w'.cell? ⟨q, 3, none⟩ = some (.int .i64 2)) (by kernel_rfl) (⟨q0, q1, q2, q3⟩) (fun hHeld => ?_)
    refine take_F (i := 0) (d := some 16) (v := ?_) (by kernel_rfl) (by kernel_rfl) rfl rfl (by kernel_rfl) (by kernel_rfl) (by kernel_rfl) (fun _ _ _ h => h) (Or.inl ⟨by rfl, ?_⟩) (by assumption) ?_
    rotate_left
    · (intro w hSw; (try dsimp only at hSw); go_simp; (try rw [if_neg (by omega)]); (try (with_reducible rfl)))
    simp only [Act.put, List.setIfInBounds_toArray, List.set_cons_zero, List.set_cons_succ]
    refine take_L [1] (i := 1) (d := some 17) (v := ?_) (by kernel_rfl) (by kernel_rfl) (by kernel_rfl) (by kernel_rfl) rfl rfl (by kernel_rfl) (by kernel_rfl) (by kernel_rfl) (fun _ _ _ h => h) (Or.inl ⟨by rfl, ?_⟩) (by assumption) ?_
    rotate_left
    · (intro w hSw; (try dsimp only at hSw); go_simp; (try rw [if_neg (by omega)]); (try (with_reducible rfl)))
    simp only [Act.put, List.setIfInBounds_toArray, List.set_cons_zero, List.set_cons_succ]
    refine take_F (i := 2) (d := some 2) (v := ?_) (by kernel_rfl) (by kernel_rfl) rfl rfl (by kernel_rfl) (by kernel_rfl) (by kernel_rfl) (fun _ _ _ h => h) (Or.inl ⟨by rfl, ?_⟩) (by assumption) ?_
    rotate_left
    · (intro w hSw; (try dsimp only at hSw); go_simp; (try rw [if_neg (by omega)]); (try (with_reducible rfl)))
    simp only [Act.put, List.setIfInBounds_toArray, List.set_cons_zero, List.set_cons_succ]
    refine late_L (i := 3) (d := none) (by kernel_rfl) rfl rfl (by kernel_rfl) (fun Kq hKq => ?_)
    go_simp
    refine hKq.out _ _ ?_
    clear hKq Kq
    refine done_L (by kernel_rfl) ?_ _
    refine NoPanic.normal ?_
    go_wp2_with fail
    obtain ⟨⟨k0, k1, k2, k3⟩, hfin⟩ := HD.out
    refine bodyPost_ret (v := .tuple #[.slice (some ⟨b0, 0, none⟩) xs.length c0, .agg #[.string ⟨#[101, 110, 103, 105, 110, 101]⟩, .string ⟨#[98, 111, 110, 110]⟩, .int .i64 1, .int .i64 2]]) (by simp [results, Tryd.results7, go_sem, k0, k1, k2, k3]) rfl ?_
    exact ⟨_, xs, ⟨⟨#[101, 110, 103, 105, 110, 101]⟩, ⟨#[98, 111, 110, 110]⟩, 1, 2⟩, rfl, hfin.drewN 1, ⟨(by decide : 6 ≤ 16), (by decide : 4 ≤ 16)⟩⟩
end Go.Proofs.YtmheijnckmlbnaaDoor
/- Loans: CancelLoan and BorrowerAt, both sides. -/
namespace Go.Proofs.YtmheijnckmlbnaaDoor
open Go.RowKit Go.Joins

def canR (xs : List Ln) (s : ByteArray) (d : Int) : List Ln := if askLc xs s d = 0 then xs.take (askLi xs s d).toNat ++ xs.drop ((askLi xs s d).toNat + 1) else []
def borS (xs : List Ln) (s : ByteArray) (d : Int) : ByteArray := if askLc xs s d = 0 then (atL xs (askLi xs s d).toNat).who else ⟨#[]⟩
theorem canR_len (xs : List Ln) (s : ByteArray) (d : Int) : (canR xs s d).length ≤ xs.length := by
  unfold canR; split
  · rw [List.length_append, List.length_take, List.length_drop]; omega
  · simp
theorem canR_mem {xs : List Ln} {s : ByteArray} {d : Int} : ∀ x ∈ canR xs s d, x ∈ xs := by
  unfold canR; split
  · intro x hx
    rcases List.mem_append.1 hx with hx | hx
    · exact List.mem_of_mem_take hx
    · exact List.mem_of_mem_drop hx
  · simp
theorem can_cases (xs : List Ln) (s : ByteArray) (d : Int) : (loansOk xs = false ∧ askLc xs s d = 1 ∧ askLi xs s d = 0 ∧ canR xs s d = [] ∧ borS xs s d = ⟨#[]⟩) ∨ (loansOk xs = true ∧ findL xs s d 0 = -1 ∧ askLc xs s d = 3 ∧ askLi xs s d = 0 ∧ canR xs s d = [] ∧ borS xs s d = ⟨#[]⟩) ∨
    ∃ (i : Nat) (hi : i < xs.length), loansOk xs = true ∧ findL xs s d 0 = (i : Int) ∧ askLc xs s d = 0 ∧ askLi xs s d = (i : Int) ∧ canR xs s d = xs.take i ++ xs.drop (i + 1) ∧ borS xs s d = xs[i].who := by
  rcases askL_cases xs s d with ⟨h1, h2, h3⟩ | ⟨h1, h2, h3, h4⟩ | ⟨i, hi, h1, h2, h3, h4⟩
  · exact .inl ⟨h1, h2, h3, by unfold canR; rw [h2]; rfl, by unfold borS; rw [h2]; rfl⟩
  · exact .inr (.inl ⟨h1, h2, h3, h4, by unfold canR; rw [h3]; rfl, by unfold borS; rw [h3]; rfl⟩)
  · refine .inr (.inr ⟨i, hi, h1, h2, h3, h4, ?_, ?_⟩)
    · unfold canR
      rw [if_pos h3, h4, Int.toNat_natCast]
    · unfold borS
      rw [if_pos h3, h4, Int.toNat_natCast, atL_at xs i hi]
theorem flat_take4 (xs : List Ln) (i : Nat) (h : i ≤ xs.length) : ((xs.take i).flatMap cellsL).length = i * 4 := by rw [flat_len cellsL 4 (fun _ => rfl), List.length_take]; omega
theorem flat_drop4 (xs : List Ln) (i : Nat) : ((xs.drop i).flatMap cellsL).length = (xs.length - i) * 4 := by rw [flat_len cellsL 4 (fun _ => rfl), List.length_drop]
theorem can_own {w : World} {base base' : Nat} {v : Value} {xs : List Ln} {i : Nat} (hi : i < xs.length) (h : w.ownsRow base' 26 4 v (i + (xs.length - (i + 1))) ([] ++ (xs.take i).flatMap cellsL ++ (xs.drop (i + 1)).flatMap cellsL)) (hb : base ≤ base') : OwnL w base v (xs.take i ++ xs.drop (i + 1)) := by
  refine OwnL.of h hb ?_ ?_
  · rw [List.length_append, List.length_take, List.length_drop]; omega
  · rw [List.nil_append, List.flatMap_append]
def canO (o c i : Nat) : Nat := if c = i + 1 then o else o + (i + 1) * 4
theorem canO_addr (b o c i : Nat) : (if c = i + 1 then some (⟨b, o, none⟩ : Addr) else some ⟨b, o + (i + 1) * 4, none⟩) = some ⟨b, canO o c i, none⟩ := by unfold canO; split <;> rfl
theorem can_rest {w : World} {B b o c : Nat} {xs : List Ln} {i : Nat} (h : RdL w B (.slice (some ⟨b, o, none⟩) xs.length c) xs) (hi : i < xs.length) (hc : xs.length ≤ c) :
    ∀ (j : Nat) (u : Value), ((xs.drop (i + 1)).flatMap cellsL)[j]? = some u → w.cell? ⟨b, canO o c i + j, none⟩ = some u := by
  intro j u hu
  unfold canO
  by_cases e : c = i + 1
  · have h1 := (List.getElem?_eq_some_iff.1 hu).1
    rw [flat_drop4] at h1
    have : xs.length - (i + 1) = 0 := by omega
    rw [this] at h1; omega
  · rw [if_neg e]; exact h.tail (i + 1) (by omega) j u hu
theorem own_sl_of {w : World} {base n size : Nat} {e : TypeId} {v : Value} {cs : List Value} (h : w.ownsRow base e size v n cs) : ∃ A c, v = .slice A n c := by
  obtain ⟨_, A, c, hv, _⟩ := Rd.of_own h
  exact ⟨A, c, hv⟩
theorem own_one {w w4 : World} {v : Value} {n : Nat} {cs : List Value} (_ho : w4.ownsRow w.heap.size 26 4 v n cs) (hg : (w.alloc (.cells #[] 26)).drew.grownBy w4 (some w.heap.size)) : Below w.heap.size w w4 :=
  ((Below.refl w.heap.size w).alloc (Nat.le_refl _) _).grown (grown_undrew hg) (by simp) (fun k e => by cases e; exact Nat.le_refl _)

theorem own_oneS {w w4 : World} {v : Value} {n : Nat} {cs : List Value} (_ho : w4.ownsRow w.heap.size 26 4 v n cs) (hg : (w.alloc (.cells #[] 26)).grownBy w4 (some w.heap.size)) : Below w.heap.size w w4 :=
  ((Below.refl w.heap.size w).alloc (Nat.le_refl _) _).grown hg (by simp) (fun k e => by cases e; exact Nat.le_refl _)

set_option maxRecDepth 100000 in
set_option maxHeartbeats 3200000 in
theorem CancelI_any (B b o c : Nat) (xs : List Ln) (s : ByteArray) (d : Int) (w : World) (h : RdL w B (.slice (some ⟨b, o, none⟩) xs.length c) xs) (hB : B ≤ w.heap.size) (hl : xs.length ≤ 1048576) (hsm : ∀ x ∈ xs, smL x) (hc : xs.length ≤ c) (hc2 : c ≤ maxLen) :
    Calls Tryd.prog 11 #[.slice (some ⟨b, o, none⟩) xs.length c, .string s, .int .i64 d] w (RetLn (askLc xs s d) (canR xs s d) w) := by
  have HV := Lib.hid (ValidLoansI_any B (.slice (some ⟨b, o, none⟩) xs.length c) xs w h hB hl hsm (fun A n c' e => by injection e with _ e2 e3; exact ⟨by omega, by omega⟩))
  have HA := Lib.hid (fun wx hx hz => loanAt_any B (.slice (some ⟨b, o, none⟩) xs.length c) xs s d wx hx hz hl)
  have hcs := can_cases xs s d
  generalize askLc xs s d = C at *
  generalize canR xs s d = R at *
  have H := Lib.hid h
  clear h hsm
  rcases hcs with ⟨g1, g2, _, g3, _⟩ | ⟨g1, g2, g3, _, g4, _⟩ | ⟨i, hi, g1, g2, g3, _, g4, _⟩
  · have Hf := Lib.hid (And.intro g2 g3)
    rw [g1] at HV
    clear g1 g2 g3
    go_enter Tryd.func11, Tryd.ntmps11
    go_wp2_with fail
    refine HV.out.mono ?_; rintro e w1 ⟨rfl, hb1⟩
    go_wp2_with fail
    go_ret2
    exact RetLn_no Hf.out hb1
  · have Hf := Lib.hid (And.intro g3 g4)
    rw [g1] at HV
    rw [g2] at HA
    clear g1 g2 g3 g4
    go_enter Tryd.func11, Tryd.ntmps11
    go_wp2_with fail
    refine HV.out.mono ?_; rintro e w1 ⟨rfl, hb1⟩
    go_wp2_with fail
    refine (HA.out _ (H.out.below (hb1.mono hB)) (Nat.le_trans hB hb1.size)).mono ?_; rintro e w2 ⟨rfl, hb2⟩
    go_wp2_with fail
    go_ret2
    exact RetLn_no Hf.out (hb1.trans (hb2.mono hb1.size))
  · have Hf := Lib.hid (And.intro g3 g4)
    rw [g1] at HV
    rw [g2] at HA
    have hi' : (i : Int) < (xs.length : Int) := by omega
    have hi0 : ¬ ((i : Int) < 0) := by omega
    have hiz : (0 : Int) ≤ (i : Int) := by omega
    have hic : (i : Int) ≤ (c : Int) := by omega
    have hi1 : (i : Int) + 1 ≤ (xs.length : Int) := by omega
    have hi1c : (i : Int) + 1 ≤ (c : Int) := by omega
    have Hcc := Lib.hid hc
    simp only [maxLen] at hc2
    clear g1 g2 g3 g4
    go_enter Tryd.func11, Tryd.ntmps11
    go_wp2_with fail
    refine HV.out.mono ?_; rintro e w1 ⟨rfl, hb1⟩
    go_wp2_with fail
    refine (HA.out _ (H.out.below (hb1.mono hB)) (Nat.le_trans hB hb1.size)).mono ?_; rintro e w2 ⟨rfl, hb2⟩
    have hbl := hb1.trans (hb2.mono hb1.size)
    have Hbl := Lib.hid hbl
    have HL2 := Lib.hid (H.out.below (hbl.mono hB))
    have ho0 := Lib.hid (World.ownsRow_made (base := w2.heap.size) (e := 26) (size := 4) w2 #[] 0 (Nat.le_refl _) (by simp [maxLen]) rfl)
    have hba := Lib.hid ((Below.refl w2.heap.size w2).alloc (Nat.le_refl _) (.cells #[] 26))
    have HL3 := Lib.hid (show RdL (w2.alloc (.cells #[] 26)).drew B (.slice (some ⟨b, o, none⟩) xs.length c) xs from RdL.drewN (RdL.below HL2.out (hba.out.mono (Nat.le_trans hB hbl.size))) 1)
    have Hz1 := Lib.hid (show w2.heap.size ≤ (w2.alloc (.cells #[] 26)).drew.heap.size by simp)
    have Hhead := Lib.hid (fun (j : Nat) (u : Value) (hu : ((xs.take i).flatMap cellsL)[j]? = some u) => HL3.out.head i j u hu)
    have Hl1 := Lib.hid (flat_take4 xs i (by omega))
    have Hl2 := Lib.hid (flat_drop4 xs (i + 1))
    have Hm1 := Lib.hid (show 0 + i ≤ maxLen by simp only [maxLen]; omega)
    have Hm2 := Lib.hid (show i + (xs.length - (i + 1)) ≤ maxLen by simp only [maxLen]; omega)
    have Hn1 := Lib.hid (show (0 + i) * 48 ≤ 140737488355328 by omega)
    have Hn2 := Lib.hid (show (i + (xs.length - (i + 1))) * 48 ≤ 140737488355328 by omega)
    have Hwr := Lib.hid (show IntKind.i64.wrap ((i : Int) + 1) = (i : Int) + 1 from IntWalk.i64_in _ (by omega))
    have HBw := Lib.hid (Nat.le_trans hB hbl.size)
    have Ho2 := Lib.hid (canO_addr b o c i)
    clear hb1 hb2 hbl hc
    have hwr := Hwr.out
    have hw1 : ((i : Int) + 1).toNat = i + 1 := by omega
    have hw0 : (0 : Int) ≤ (i : Int) + 1 := by omega
    go_wp2_with fail
    refine wp_region_noPanic ?_
    refine wp_region_L [] (fun _ => True) (by kernel_rfl) (trivial) (fun hHeld => ?_)
    refine take_F (i := 1) (d := some 19) (v := ?_) (by kernel_rfl) (by kernel_rfl) rfl rfl (by kernel_rfl) (by kernel_rfl) (by kernel_rfl) (fun _ _ _ h => h) (Or.inl ⟨by rfl, ?_⟩) (by assumption) ?_
    rotate_left
    · (intro w hSw; (try dsimp only at hSw); go_simp; (try rw [if_neg (by omega)]); (try (with_reducible rfl)))
    simp only [Act.put, List.setIfInBounds_toArray, List.set_cons_zero, List.set_cons_succ]
    refine take_F (i := 2) (d := some 20) (v := ?_) (by kernel_rfl) (by kernel_rfl) rfl rfl (by kernel_rfl) (by kernel_rfl) (by kernel_rfl) (fun _ _ _ h => h) (Or.inl ⟨by rfl, ?_⟩) (by assumption) ?_
    rotate_left
    · (intro w hSw; (try dsimp only at hSw); go_simp; (try rw [if_neg (by omega)]); (try (with_reducible rfl)))
    simp only [Act.put, List.setIfInBounds_toArray, List.set_cons_zero, List.set_cons_succ]
    refine take_F (i := 3) (d := some 21) (v := ?_) (by kernel_rfl) (by kernel_rfl) rfl rfl (by kernel_rfl) (by kernel_rfl) (by kernel_rfl) (fun _ _ _ h => h) (Or.inl ⟨by rfl, ?_⟩) (by assumption) ?_
    rotate_left
    · (intro w hSw; (try dsimp only at hSw); go_simp; (try rw [if_neg (by omega)]); (try (with_reducible rfl)))
    simp only [Act.put, List.setIfInBounds_toArray, List.set_cons_zero, List.set_cons_succ]
    refine take_F (i := 5) (d := some 23) (v := ?_) (by kernel_rfl) (by kernel_rfl) rfl rfl (by kernel_rfl) (by kernel_rfl) (by kernel_rfl) (fun _ _ _ h => h) (Or.inl ⟨by rfl, ?_⟩) (by assumption) ?_
    rotate_left
    · (intro w hSw; (try dsimp only at hSw); go_simp; (try rw [if_neg (by omega)]); (try (with_reducible rfl)))
    simp only [Act.put, List.setIfInBounds_toArray, List.set_cons_zero, List.set_cons_succ]
    refine take_F (i := 6) (d := some 24) (v := ?_) (by kernel_rfl) (by kernel_rfl) rfl rfl (by kernel_rfl) (by kernel_rfl) (by kernel_rfl) (fun _ _ _ h => h) (Or.inl ⟨by rfl, ?_⟩) (by assumption) ?_
    rotate_left
    · (intro w hSw; (try dsimp only at hSw); go_simp; (try rw [if_neg (by omega)]); (try (with_reducible rfl)))
    simp only [Act.put, List.setIfInBounds_toArray, List.set_cons_zero, List.set_cons_succ]
    refine take_F (i := 7) (d := some 25) (v := ?_) (by kernel_rfl) (by kernel_rfl) rfl rfl (by kernel_rfl) (by kernel_rfl) (by kernel_rfl) (fun _ _ _ h => h) (Or.inl ⟨by rfl, ?_⟩) (by assumption) ?_
    rotate_left
    · (intro w hSw; (try dsimp only at hSw); go_simp; (try rw [if_neg (by omega)]); (try (with_reducible rfl)))
    simp only [Act.put, List.setIfInBounds_toArray, List.set_cons_zero, List.set_cons_succ]
    refine take_F (i := 8) (d := some 26) (v := .slice (some ⟨b, canO o c i, none⟩) (xs.length - (i + 1)) (c - (i + 1))) (by kernel_rfl) (by kernel_rfl) rfl rfl (by kernel_rfl) (by kernel_rfl) (by kernel_rfl) (fun _ _ _ h => h) (Or.inl ⟨by rfl, ?_⟩) (by assumption) ?_
    · (intro w hSw; (try dsimp only at hSw); go_simp; rw [← Ho2.out])
    simp only [Act.put, List.setIfInBounds_toArray, List.set_cons_zero, List.set_cons_succ]
    clear hwr hw1 hw0
    refine call_L (i := 0) (d := (some 18)) rfl rfl (by kernel_rfl) (fun Kq hKq => ?_)
    go_simp
    refine hKq.out _ _ (trivial) (fun hHeld => ?_)
    clear hKq Kq
    (try simp only [Act.put, List.setIfInBounds_toArray, List.set_cons_zero, List.set_cons_succ])
    refine call_L (i := 4) (d := (some 22)) rfl rfl (by kernel_rfl) (fun Kq hKq => ?_)
    refine step_apr 24 26 _ 4 48 Tryd.underlying24 infoL rfl (by omega) _ _ (by rfl) (by rfl) w2.heap.size _ 0 [] (by rfl) ho0.out.drew b o i c ((xs.take i).flatMap cellsL) (by rfl) Hl1.out Hhead.out (cellsL_one _) Hm1.out Hn1.out Hz1.out ?_; intro v4 w4 hu4 hg4
    rw [Nat.zero_add] at hu4
    have hb4 := own_one hu4 hg4
    have Hu4 := Lib.hid hu4
    have Hb4 := Lib.hid hb4
    have hz4 := hb4.size
    have Hrest := Lib.hid (can_rest (RdL.below HL2.out (hb4.mono HBw.out)) hi Hcc.out)
    clear hu4 hg4 hb4
    refine hKq.out _ _ (trivial) (fun hHeld => ?_)
    clear hKq Kq
    simp only [Act.put, List.getElem_toArray, List.getElem_cons_succ, List.getElem_cons_zero, List.setIfInBounds_toArray, List.set_cons_succ, List.set_cons_zero]
    refine call_L (i := 9) (d := (some 27)) rfl rfl (by kernel_rfl) (fun Kq hKq => ?_)
    refine step_apr 24 26 _ 4 48 Tryd.underlying24 infoL rfl (by omega) _ _ (by rfl) (by rfl) w2.heap.size _ i _ (by rfl) Hu4.out b (canO o c i) (xs.length - (i + 1)) (c - (i + 1)) ((xs.drop (i + 1)).flatMap cellsL) (by rfl) Hl2.out Hrest.out (cellsL_one _) Hm2.out Hn2.out hz4 ?_; intro v5 w5 hu5 hg5
    have Hb5 := Lib.hid (below_apd Hb4.out Hu4.out hg5 (Nat.le_refl _) hz4)
    have Hu5 := Lib.hid hu5
    obtain ⟨A5, c5, rfl⟩ := own_sl_of hu5
    clear hu5 hg5
    refine hKq.out _ _ (trivial) (fun hHeld => ?_)
    clear hKq Kq
    simp only [Act.put, List.getElem_toArray, List.getElem_cons_succ, List.getElem_cons_zero, List.setIfInBounds_toArray, List.set_cons_succ, List.set_cons_zero]
    refine take_F (i := 10) (d := some 6) (v := ?_) (by kernel_rfl) (by kernel_rfl) rfl rfl (by kernel_rfl) (by kernel_rfl) (by kernel_rfl) (fun _ _ _ h => h) (Or.inl ⟨by rfl, ?_⟩) (by assumption) ?_
    rotate_left
    · (intro w hSw; (try dsimp only at hSw); go_simp; (try rw [if_neg (by omega)]); (try (with_reducible rfl)))
    simp only [Act.put, List.setIfInBounds_toArray, List.set_cons_zero, List.set_cons_succ]
    refine take_F (i := 11) (d := some 7) (v := ?_) (by kernel_rfl) (by kernel_rfl) rfl rfl (by kernel_rfl) (by kernel_rfl) (by kernel_rfl) (fun _ _ _ h => h) (Or.inl ⟨by rfl, ?_⟩) (by assumption) ?_
    rotate_left
    · (intro w hSw; (try dsimp only at hSw); go_simp; (try rw [if_neg (by omega)]); (try (with_reducible rfl)))
    simp only [Act.put, List.setIfInBounds_toArray, List.set_cons_zero, List.set_cons_succ]
    refine done_L (by kernel_rfl) ?_ _
    refine NoPanic.normal ?_
    go_wp2_with fail
    go_ret2
    have hfin := RetLn_yes Hf.out (can_own hi Hu5.out Hbl.out.size) (Hbl.out.trans (Hb5.out.mono Hbl.out.size))
    exact hfin

set_option maxRecDepth 100000 in
set_option maxHeartbeats 3200000 in
theorem CancelS_any (B b o c : Nat) (xs : List Ln) (s : ByteArray) (d : Int) (w : World) (h : RdL w B (.slice (some ⟨b, o, none⟩) xs.length c) xs) (hB : B ≤ w.heap.size) (hl : xs.length ≤ 1048576) (hsm : ∀ x ∈ xs, smL x) (hc : xs.length ≤ c) (_hc2 : c ≤ maxLen) :
    Calls Tryd.prog 12 #[.slice (some ⟨b, o, none⟩) xs.length c, .string s, .int .i64 d] w (RetLn (askLc xs s d) (canR xs s d) w) := by
  have HA := Lib.hid (l23Ask_any B (.slice (some ⟨b, o, none⟩) xs.length c) xs s d w h hl hsm)
  have hcs := can_cases xs s d
  generalize askLc xs s d = C at *
  generalize askLi xs s d = I at *
  generalize canR xs s d = R at *
  have H := Lib.hid h
  clear h hsm
  have hb00 := Lib.hid (Below.refl w.heap.size w)
  rcases hcs with ⟨g1, g2, g0, g3, _⟩ | ⟨g1, g2, g3, g0, g4, _⟩ | ⟨i, hi, g1, g2, g3, g0, g4, _⟩
  · have Hf := Lib.hid (And.intro g2 g3)
    rw [g2, g0] at HA
    clear g0 g1 g2 g3
    go_enter Tryd.func12, Tryd.ntmps12
    go_wp2_with fail
    refine HA.out.mono ?_; rintro e w1 ⟨rfl, n1, rfl⟩
    go_wp2_with fail
    go_ret2
    exact RetLn_no Hf.out (below_drewN hb00.out n1)
  · have Hf := Lib.hid (And.intro g3 g4)
    rw [g3, g0] at HA
    clear g0 g1 g2 g3 g4
    go_enter Tryd.func12, Tryd.ntmps12
    go_wp2_with fail
    refine HA.out.mono ?_; rintro e w1 ⟨rfl, n1, rfl⟩
    go_wp2_with fail
    go_ret2
    exact RetLn_no Hf.out (below_drewN hb00.out n1)
  · have Hf := Lib.hid (And.intro g3 g4)
    rw [g3, g0] at HA
    have hi' : (i : Int) < (xs.length : Int) := by omega
    have hic : (i : Int) ≤ (c : Int) := by omega
    have hi1 : (i : Int) + 1 ≤ (xs.length : Int) := by omega
    have hi1c : (i : Int) + 1 ≤ (c : Int) := by omega
    have Hcc := Lib.hid hc
    clear g0 g1 g2 g3 g4
    go_enter Tryd.func12, Tryd.ntmps12
    go_wp2_with fail
    refine HA.out.mono ?_; rintro e w1 ⟨rfl, n1, hw⟩
    have hbl : Below w.heap.size w w1 := by rw [hw]; exact below_drewN hb00.out n1
    clear hw
    generalize w1 = w2 at *
    have Hbl := Lib.hid hbl
    have HL2 := Lib.hid (H.out.below (hbl.mono hB))
    have ho0 := Lib.hid (World.ownsRow_made (base := w2.heap.size) (e := 26) (size := 4) w2 #[] 0 (Nat.le_refl _) (by simp [maxLen]) rfl)
    have hba := Lib.hid ((Below.refl w2.heap.size w2).alloc (Nat.le_refl _) (.cells #[] 26))
    have HL3 := Lib.hid (show RdL (w2.alloc (.cells #[] 26)) B (.slice (some ⟨b, o, none⟩) xs.length c) xs from RdL.below HL2.out (hba.out.mono (Nat.le_trans hB hbl.size)))
    have Hhead := Lib.hid (fun (j : Nat) (u : Value) (hu : ((xs.take i).flatMap cellsL)[j]? = some u) => HL3.out.head i j u hu)
    have Hl1 := Lib.hid (flat_take4 xs i (by omega))
    have Hl2 := Lib.hid (flat_drop4 xs (i + 1))
    have HBw := Lib.hid (Nat.le_trans hB hbl.size)
    have ho2 := canO_addr b o c i
    clear hbl hc hB
    go_wp2_with (first | (at_builtin; refine wpList_apr 24 26 _ 4 48 Tryd.underlying24 infoL rfl (by omega) _ _ rfl rfl w2.heap.size _ 0 _ rfl ho0.out b o i c ((xs.take i).flatMap cellsL) rfl Hl1.out Hhead.out (cellsL_one _) (by simp [maxLen]; omega) (by omega) hba.out.size ?_; intro v4 w4 hu4 hg4; rw [Nat.zero_add] at hu4; have hb4 := own_oneS hu4 hg4; have Hu4 := Lib.hid hu4; have Hb4 := Lib.hid hb4; have hz4 := hb4.size; have Hrest := Lib.hid (can_rest (RdL.below HL2.out (hb4.mono HBw.out)) hi Hcc.out); obtain ⟨A4, c4, rfl⟩ := own_sl_of hu4; clear hu4 hg4 hb4) | (at_builtin; refine wpList_apr 24 26 _ 4 48 Tryd.underlying24 infoL rfl (by omega) _ _ rfl rfl w2.heap.size _ i _ rfl Hu4.out b (canO o c i) (xs.length - (i + 1)) (c - (i + 1)) ((xs.drop (i + 1)).flatMap cellsL) rfl Hl2.out Hrest.out (cellsL_one _) (by simp [maxLen]; omega) (by omega) hz4 ?_; intro v5 w5 hu5 hg5; have Hb5 := Lib.hid (below_apd Hb4.out Hu4.out hg5 (Nat.le_refl _) hz4); have Hu5 := Lib.hid hu5; obtain ⟨A5, c5, rfl⟩ := own_sl_of hu5; clear hu5 hg5))
    go_ret2
    have hfin := RetLn_yes Hf.out (can_own hi Hu5.out Hbl.out.size) (Hbl.out.trans (Hb5.out.mono Hbl.out.size))
    exact hfin

def RetBw (w : World) (xs : List Ln) (s : ByteArray) (d : Int) (e : Ending) (w' : World) : Prop := e = .returned (.tuple #[.string (borS xs s d), .int .i64 (askLc xs s d)]) ∧ Below w.heap.size w w'
set_option maxRecDepth 100000 in
set_option maxHeartbeats 1600000 in
theorem BorrowI_any (B b o c : Nat) (xs : List Ln) (s : ByteArray) (d : Int) (w : World) (h : RdL w B (.slice (some ⟨b, o, none⟩) xs.length c) xs) (hB : B ≤ w.heap.size) (hl : xs.length ≤ 1048576) (hsm : ∀ x ∈ xs, smL x) (hc : xs.length ≤ c) (hc2 : c ≤ maxLen) :
    Calls Tryd.prog 13 #[.slice (some ⟨b, o, none⟩) xs.length c, .string s, .int .i64 d] w (RetBw w xs s d) := by
  have HV := Lib.hid (ValidLoansI_any B (.slice (some ⟨b, o, none⟩) xs.length c) xs w h hB hl hsm (fun A n c' e => by injection e with _ e2 e3; exact ⟨by omega, by omega⟩))
  have HA := Lib.hid (fun wx hx hz => loanAt_any B (.slice (some ⟨b, o, none⟩) xs.length c) xs s d wx hx hz hl)
  have hcs := can_cases xs s d
  unfold RetBw
  generalize askLc xs s d = C at *
  generalize borS xs s d = R at *
  have H := Lib.hid h
  clear h hsm hc2
  rcases hcs with ⟨g1, g2, _, _, g3⟩ | ⟨g1, g2, g3, _, _, g4⟩ | ⟨i, hi, g1, g2, g3, _, _, g4⟩
  · subst g2 g3
    rw [g1] at HV
    clear g1
    go_enter Tryd.func13, Tryd.ntmps13
    go_wp2_with fail
    refine HV.out.mono ?_; rintro e w1 ⟨rfl, hb1⟩
    go_wp2_with fail
    go_ret2
    exact ⟨rfl, hb1⟩
  · subst g3 g4
    rw [g1] at HV
    rw [g2] at HA
    clear g1 g2
    go_enter Tryd.func13, Tryd.ntmps13
    go_wp2_with fail
    refine HV.out.mono ?_; rintro e w1 ⟨rfl, hb1⟩
    go_wp2_with fail
    refine (HA.out _ (H.out.below (hb1.mono hB)) (Nat.le_trans hB hb1.size)).mono ?_; rintro e w2 ⟨rfl, hb2⟩
    go_wp2_with fail
    go_ret2
    exact ⟨rfl, hb1.trans (hb2.mono hb1.size)⟩
  · subst g3
    rw [g1] at HV
    rw [g2] at HA
    have hi' : (i : Int) < (xs.length : Int) := by omega
    have hi0 : ¬ ((i : Int) < 0) := by omega
    have Hg4 := Lib.hid g4
    clear g1 g2 g4
    go_enter Tryd.func13, Tryd.ntmps13
    go_wp2_with fail
    refine HV.out.mono ?_; rintro e w1 ⟨rfl, hb1⟩
    go_wp2_with fail
    refine (HA.out _ (H.out.below (hb1.mono hB)) (Nat.le_trans hB hb1.size)).mono ?_; rintro e w2 ⟨rfl, hb2⟩
    have hbl := hb1.trans (hb2.mono hb1.size)
    obtain ⟨b1, o1, hA1, hE⟩ := (H.out.below (hbl.mono hB)).at i hi
    injection hA1 with hA2
    injection hA2 with hA3 hA4
    subst hA3 hA4
    obtain ⟨_, _, p1, _, _⟩ := hE
    rw [← Hg4.out] at p1
    go_wp2_with fail
    go_ret2
    exact ⟨rfl, hbl⟩
set_option maxRecDepth 100000 in
set_option maxHeartbeats 1600000 in
theorem BorrowS_any (B b o c : Nat) (xs : List Ln) (s : ByteArray) (d : Int) (w : World) (h : RdL w B (.slice (some ⟨b, o, none⟩) xs.length c) xs) (_hB : B ≤ w.heap.size) (hl : xs.length ≤ 1048576) (hsm : ∀ x ∈ xs, smL x) :
    Calls Tryd.prog 14 #[.slice (some ⟨b, o, none⟩) xs.length c, .string s, .int .i64 d] w (RetBw w xs s d) := by
  have HA := Lib.hid (l23Ask_any B (.slice (some ⟨b, o, none⟩) xs.length c) xs s d w h hl hsm)
  have hcs := can_cases xs s d
  unfold RetBw
  generalize askLc xs s d = C at *
  generalize askLi xs s d = I at *
  generalize borS xs s d = R at *
  have H := Lib.hid h
  clear h hsm
  have hb00 := Lib.hid (Below.refl w.heap.size w)
  rcases hcs with ⟨g1, g2, g0, _, g3⟩ | ⟨g1, g2, g3, g0, _, g4⟩ | ⟨i, hi, g1, g2, g3, g0, _, g4⟩
  · subst g2 g3 g0
    clear g1
    go_enter Tryd.func14, Tryd.ntmps14
    go_wp2_with fail
    refine HA.out.mono ?_; rintro e w1 ⟨rfl, n1, rfl⟩
    go_wp2_with fail
    go_ret2
    exact ⟨rfl, below_drewN hb00.out n1⟩
  · subst g3 g4 g0
    clear g1 g2
    go_enter Tryd.func14, Tryd.ntmps14
    go_wp2_with fail
    refine HA.out.mono ?_; rintro e w1 ⟨rfl, n1, rfl⟩
    go_wp2_with fail
    go_ret2
    exact ⟨rfl, below_drewN hb00.out n1⟩
  · subst g3 g0
    have hi' : (i : Int) < (xs.length : Int) := by omega
    have Hg4 := Lib.hid g4
    clear g1 g2 g4
    go_enter Tryd.func14, Tryd.ntmps14
    go_wp2_with fail
    refine HA.out.mono ?_; rintro e w1 ⟨rfl, n1, rfl⟩
    obtain ⟨b1, o1, hA1, hE⟩ := H.out.at i hi
    injection hA1 with hA2
    injection hA2 with hA3 hA4
    subst hA3 hA4
    obtain ⟨_, _, p1, _, _⟩ := hE
    rw [← Hg4.out] at p1
    go_wp2_with fail
    go_ret2
    exact ⟨rfl, below_drewN hb00.out n1⟩
end Go.Proofs.YtmheijnckmlbnaaDoor
/- Loans: small contracts for the laws. -/
namespace Go.Proofs.YtmheijnckmlbnaaDoor
open Go.RowKit Go.Joins

set_option maxRecDepth 100000 in
set_option maxHeartbeats 1600000 in
/-- a day at which nothing is lent: the row may be empty -/
theorem BorrowN_any (B : Nat) (v : Value) (xs : List Ln) (s : ByteArray) (d : Int) (w : World) (h : RdL w B v xs) (hB : B ≤ w.heap.size) (hl : xs.length ≤ 1048576) (hsm : ∀ x ∈ xs, smL x) (hcap : ∀ A n c, v = .slice A n c → n ≤ c ∧ c ≤ maxLen) (hok : loansOk xs = true) (hn : askLc xs s d = 3) :
    Calls Tryd.prog 13 #[v, .string s, .int .i64 d] w fun e w' => e = .returned (.tuple #[.string ⟨#[]⟩, .int .i64 3]) ∧ Below w.heap.size w w' := by
  have HV := Lib.hid (ValidLoansI_any B v xs w h hB hl hsm hcap)
  have HA := Lib.hid (fun wx hx hz => loanAt_any B v xs s d wx hx hz hl)
  have H := Lib.hid h
  obtain ⟨A, c, rfl⟩ := h.slice
  rcases can_cases xs s d with ⟨g1, g2, _, _, g3⟩ | ⟨g1, g2, g3, _, _, g4⟩ | ⟨i, hi, g1, g2, g3, _, _, g4⟩
  · rw [hok] at g1; cases g1
  · rw [g1] at HV
    rw [g2] at HA
    clear g1 g2 h hsm hok hn g3 g4 hcap
    go_enter Tryd.func13, Tryd.ntmps13
    go_wp2_with fail
    refine HV.out.mono ?_; rintro e w1 ⟨rfl, hb1⟩
    go_wp2_with fail
    refine (HA.out _ (H.out.below (hb1.mono hB)) (Nat.le_trans hB hb1.size)).mono ?_; rintro e w2 ⟨rfl, hb2⟩
    go_wp2_with fail
    go_ret2
    exact ⟨rfl, hb1.trans (hb2.mono hb1.size)⟩
  · rw [hn] at g3; cases g3
set_option maxRecDepth 100000 in
set_option maxHeartbeats 400000 in
theorem ValidLoansS_any (B : Nat) (v : Value) (xs : List Ln) (w : World) (h : RdL w B v xs) (hl : xs.length ≤ 1048576) (hsm : ∀ x ∈ xs, smL x) : Calls Tryd.prog 27 #[v] w fun e w' => e = .returned (.bool (loansOk xs)) ∧ ∃ n, w' = w.drewN n := by
  have HV := Lib.hid (l23Ok_any B v xs w h hl hsm)
  obtain ⟨A, c, rfl⟩ := h.slice
  clear h
  go_enter Tryd.func27, Tryd.ntmps27
  go_wp2_with fail
  refine HV.out.mono ?_; rintro e w1 ⟨rfl, n1, rfl⟩
  go_wp2_with fail
  go_ret
  exact ⟨rfl, n1, rfl⟩
set_option maxRecDepth 100000 in
set_option maxHeartbeats 400000 in
theorem f6big_l (B n : Nat) (v : Value) (xs : List Value) (w : World) (h : Rd w B v n 1 xs) : Calls Tryd.prog 6 #[v] w fun e w' => e = .returned (.bool (decide (4096 < n))) ∧ w = w' := by
  obtain ⟨_, A, c, rfl, _⟩ := h
  by_cases hn : 4096 < n
  · have hn' : (4096 : Int) < (n : Int) := by omega
    rw [decide_eq_true hn]
    go_enter Tryd.func6, Tryd.ntmps6
    go_wp2_with fail
    go_ret
    exact ⟨rfl, rfl⟩
  · have hn' : ¬ (4096 : Int) < (n : Int) := by omega
    rw [decide_eq_false hn]
    go_enter Tryd.func6, Tryd.ntmps6
    go_wp2_with fail
    go_ret
    exact ⟨rfl, rfl⟩
theorem below_eqL {w w' : World} {n : Nat} (h : w' = w.drewN n) : Below w.heap.size w w' := by rw [h]; exact below_drewN (Below.refl _ _) n
theorem rdNL {w w' : World} {v : Value} {xs : List Ln} (h : RdL w w.heap.size v xs) (hb : Below w.heap.size w w') : RdL w' w'.heap.size v xs := h.next hb
theorem blkN {w w' : World} {q : Nat} {o : Obj} (h : w.heap[q]? = some o) (hb : Below w.heap.size w w') : w'.heap[q]? = some o := (hb.block q (Array.getElem?_eq_some_iff.1 h).1).trans h
theorem rdL_some {w : World} {B n c : Nat} {A : Option Addr} {xs : List Ln} (h : RdL w B (.slice A n c) xs) (hn : 0 < xs.length) : ∃ b o, A = some ⟨b, o, none⟩ := by
  obtain ⟨_, A', c', hv, h2⟩ := h
  injection hv with e1 _ _
  obtain ⟨b, o, hA, _⟩ := h2 (by omega)
  exact ⟨b, o, e1.trans hA⟩
end Go.Proofs.YtmheijnckmlbnaaDoor
/- Loans: the plain law of FnLoans. -/
namespace Go.Proofs.YtmheijnckmlbnaaDoor

theorem loan_days' {x : Ln} (h : loanOk x = true) : 0 ≤ x.from_ ∧ x.from_ ≤ x.till := by
  unfold loanOk inB at h
  simp only [Bool.and_eq_true, decide_eq_true_eq] at h
  omega
theorem hits_uniq {xs : List Ln} (h : OkP xs) {s : ByteArray} {d : Int} {i j : Nat} (hi : i < xs.length) (hj : j < xs.length) (h1 : hits xs[i] s d = true) (h2 : hits xs[j] s d = true) : i = j := by
  have key : ∀ i j (hi : i < xs.length) (hj : j < xs.length), hits xs[i] s d = true → hits xs[j] s d = true → ¬ i < j := fun i j hi hj h1 h2 hij => by
    have hc := (h.two i j hi hj hij).2
    unfold hits inB at h1 h2
    unfold clash at hc
    simp only [Bool.and_eq_true, decide_eq_true_eq] at h1 h2
    have : (decide (xs[i].what = xs[j].what) && decide (xs[i].from_ ≤ xs[j].till) && decide (xs[j].from_ ≤ xs[i].till)) = true := by
      simp only [Bool.and_eq_true, decide_eq_true_eq]
      exact ⟨⟨h1.1.trans h2.1.symm, by omega⟩, by omega⟩
    rw [hc] at this; cases this
  rcases Nat.lt_trichotomy i j with h3 | h3 | h3
  · exact absurd h3 (key i j hi hj h1 h2)
  · exact h3
  · exact absurd h3 (key j i hj hi h2 h1)
theorem find_hit : ∀ (l : List Ln) (s : ByteArray) (d : Int) (k : Nat), findL l s d k = -1 ∨ ∃ i, ∃ hi : i < l.length, findL l s d k = ((k + i : Nat) : Int) ∧ hits l[i] s d = true := by
  intro l
  induction l with
  | nil => intro s d k; exact .inl rfl
  | cons x l ih =>
    intro s d k
    unfold findL
    split
    · rename_i h; exact .inr ⟨0, by simp, by simp, h⟩
    · rcases ih s d (k + 1) with h | ⟨i, hi, h1, h2⟩
      · exact .inl h
      · exact .inr ⟨i + 1, by simp; omega, by rw [h1]; congr 1; omega, h2⟩
theorem find_none : ∀ (l : List Ln) (s : ByteArray) (d : Int) (k : Nat), (∀ x ∈ l, hits x s d = false) → findL l s d k = -1 := by
  intro l
  induction l with
  | nil => intro s d k _; rfl
  | cons x l ih =>
    intro s d k h
    unfold findL
    rw [if_neg (by rw [h x (by simp)]; simp)]
    exact ih s d (k + 1) (fun y hy => h y (by simp [hy]))
theorem find_some {xs : List Ln} {s : ByteArray} {d : Int} {i : Nat} (h : OkP xs) (hi : i < xs.length) (h1 : hits xs[i] s d = true) : findL xs s d 0 = (i : Int) := by
  rcases find_hit xs s d 0 with h2 | ⟨j, hj, h2, h3⟩
  · exfalso
    have key : ∀ (l : List Ln) (k : Nat), findL l s d k = -1 → ∀ x ∈ l, hits x s d = false := by
      intro l
      induction l with
      | nil => intro k _ x hx; cases hx
      | cons y l ih =>
        intro k hk x hx
        unfold findL at hk
        split at hk
        · omega
        · rename_i hy
          rcases List.mem_cons.1 hx with rfl | hx
          · simpa using hy
          · exact ih (k + 1) hk x hx
    rw [key xs 0 h2 xs[i] (List.getElem_mem hi)] at h1
    cases h1
  · rw [h2, Nat.zero_add, hits_uniq h hj hi h3 h1]
theorem ask_0 {xs : List Ln} {s : ByteArray} {d : Int} (h : askLc xs s d = 0) : ∃ i, ∃ hi : i < xs.length, OkP xs ∧ hits xs[i] s d = true ∧ canR xs s d = xs.take i ++ xs.drop (i + 1) ∧ borS xs s d = xs[i].who ∧ retR xs s d = xs.set i ⟨xs[i].what, xs[i].who, xs[i].from_, d⟩ := by
  rcases can_cases xs s d with ⟨_, h2, _⟩ | ⟨_, _, h2, _⟩ | ⟨i, hi, h1, h2, h3, h4, h5, h6⟩
  · rw [h] at h2; cases h2
  · rw [h] at h2; cases h2
  · refine ⟨i, hi, OkP.of h1, ?_, h5, h6, ?_⟩
    · rcases find_hit xs s d 0 with h7 | ⟨j, hj, h7, h8⟩
      · rw [h2] at h7; omega
      · rw [h2] at h7
        have : j = i := by omega
        subst this; exact h8
    · rcases ret_cases xs s d with ⟨_, g2, _⟩ | ⟨_, _, g2, _⟩ | ⟨j, hj, _, g2, _, _, g5⟩
      · rw [h] at g2; cases g2
      · rw [h] at g2; cases g2
      · rw [h2] at g2
        have : i = j := by omega
        subst this; exact g5
theorem ask_of {xs : List Ln} {s : ByteArray} {d : Int} {i : Nat} (h : OkP xs) (hi : i < xs.length) (h1 : hits xs[i] s d = true) : askLc xs s d = 0 ∧ canR xs s d = xs.take i ++ xs.drop (i + 1) ∧ borS xs s d = xs[i].who := by
  have hf := find_some h hi h1
  have hk := h.to
  rcases can_cases xs s d with ⟨g1, _⟩ | ⟨_, g2, _⟩ | ⟨j, hj, g1, g2, g3, g4, g5, g6⟩
  · rw [hk] at g1; cases g1
  · rw [hf] at g2; omega
  · rw [hf] at g2
    have : i = j := by omega
    subst this
    exact ⟨g3, g5, g6⟩
theorem ask_none {xs : List Ln} {s : ByteArray} {d : Int} (h : OkP xs) (h1 : ∀ x ∈ xs, hits x s d = false) : askLc xs s d = 3 := by
  have hf := find_none xs s d 0 h1
  unfold askLc
  rw [if_neg (by rw [h.to]; simp), hf]; rfl
theorem del_at {xs : List Ln} {i : Nat} (hi : i < xs.length) (j : Nat) (hj : j < (xs.take i ++ xs.drop (i + 1)).length) : ∃ m, ∃ hm : m < xs.length, (xs.take i ++ xs.drop (i + 1))[j] = xs[m] ∧ m ≠ i ∧ ((j < i ∧ m = j) ∨ (i ≤ j ∧ m = j + 1)) := by
  have hl : (xs.take i).length = i := by rw [List.length_take]; omega
  have hjl : j < i + (xs.length - (i + 1)) := by rw [List.length_append, hl, List.length_drop] at hj; exact hj
  by_cases h : j < i
  · refine ⟨j, by omega, ?_, by omega, .inl ⟨h, rfl⟩⟩
    rw [List.getElem_append_left (by omega), List.getElem_take]
  · refine ⟨j + 1, by omega, ?_, by omega, .inr ⟨by omega, rfl⟩⟩
    rw [List.getElem_append_right (by omega), List.getElem_drop]
    simp only [hl]
    congr 1; omega
/-- what is cancelled is free again, and the list stays valid -/
theorem cancel_law {xs : List Ln} {s : ByteArray} {d : Int} (h : askLc xs s d = 0) : loansOk (canR xs s d) = true ∧ askLc (canR xs s d) s d = 3 ∧ loansOk (retR xs s d) = true := by
  obtain ⟨i, hi, hP, hh, hc, _, hr⟩ := ask_0 h
  have hP2 : OkP (canR xs s d) := by
    rw [hc]
    refine ⟨by have := hP.len; rw [List.length_append, List.length_take, List.length_drop]; omega, fun j hj => ?_, fun j k hj hk hjk => ?_⟩
    · obtain ⟨m, hm, he, _⟩ := del_at hi j hj
      rw [he]; exact hP.one m hm
    · obtain ⟨m, hm, he, _, h1⟩ := del_at hi j hj
      obtain ⟨m2, hm2, he2, _, h2⟩ := del_at hi k hk
      rw [he, he2]
      exact hP.two m m2 hm hm2 (by omega)
  refine ⟨hP2.to, ?_, ?_⟩
  · refine ask_none hP2 fun x hx => ?_
    rw [hc] at hx
    obtain ⟨j, hj, rfl⟩ := List.mem_iff_getElem.1 hx
    obtain ⟨m, hm, he, hne, _⟩ := del_at hi j hj
    rw [he]
    cases hq : hits xs[m] s d with
    | false => rfl
    | true => exact absurd (hits_uniq hP hm hi hq hh) hne
  · rw [hr]
    unfold hits inB at hh
    simp only [Bool.and_eq_true, decide_eq_true_eq] at hh
    have hx := hP.one i hi
    have hd := loan_days' hx
    refine OkP.to ⟨by rw [List.length_set]; exact hP.len, fun j hj => ?_, fun j k hj hk hjk => ?_⟩
    · rw [List.length_set] at hj
      by_cases e : i = j
      · subst e
        rw [List.getElem_set_self]
        unfold loanOk inB at hx ⊢
        simp only [Bool.and_eq_true, decide_eq_true_eq] at hx ⊢
        exact ⟨⟨⟨⟨hx.1.1.1.1, hx.1.1.1.2⟩, hx.1.1.2⟩, by omega⟩, by omega⟩
      · rw [List.getElem_set_ne e]; exact hP.one j hj
    · rw [List.length_set] at hj hk
      obtain ⟨t1, t2⟩ := hP.two j k hj hk hjk
      by_cases e : i = j
      · subst e
        rw [List.getElem_set_self, List.getElem_set_ne (by omega)]
        refine ⟨by unfold before at t1 ⊢; exact t1, ?_⟩
        unfold clash at t2 ⊢
        simp only [Bool.and_eq_false_iff, decide_eq_false_iff_not] at t2 ⊢
        rcases t2 with (t2 | t2) | t2
        · exact .inl (.inl t2)
        · exact .inl (.inr t2)
        · exact .inr (by omega)
      · rw [List.getElem_set_ne e]
        by_cases e2 : i = k
        · subst e2
          rw [List.getElem_set_self]
          refine ⟨by unfold before at t1 ⊢; exact t1, ?_⟩
          unfold clash at t2 ⊢
          simp only [Bool.and_eq_false_iff, decide_eq_false_iff_not] at t2 ⊢
          rcases t2 with (t2 | t2) | t2
          · exact .inl (.inl t2)
          · exact .inl (.inr (by omega))
          · exact .inr t2
        · rw [List.getElem_set_ne e2]; exact ⟨t1, t2⟩
/-- what is lent has its borrower, and is undone -/
theorem add_law {xs : List Ln} {x : Ln} (h : addC xs x = 0) (d : Int) (h0 : x.from_ ≤ d) (h1 : d ≤ x.till) : askLc (addR xs x) x.what d = 0 ∧ borS (addR xs x) x.what d = x.who ∧ canR (addR xs x) x.what d = xs := by
  have hP := OkP.of (add_ok h)
  obtain ⟨k, hk, he, _⟩ := add_facts h
  have hl : (xs.take k).length = k := by rw [List.length_take]; omega
  have hki : k < (addR xs x).length := by rw [he, List.length_append, List.length_cons, hl]; omega
  have hx : (addR xs x)[k] = x := by
    simp only [he]
    rw [List.getElem_append_right (by omega)]
    simp [hl]
  have hh : hits (addR xs x)[k] x.what d = true := by
    rw [hx]
    unfold hits inB
    simp only [Bool.and_eq_true, decide_eq_true_eq]
    exact ⟨trivial, h0, h1⟩
  obtain ⟨a1, a2, a3⟩ := ask_of hP hki hh
  refine ⟨a1, by rw [a3, hx], ?_⟩
  rw [a2, he, List.take_append_of_le_length (by omega), List.take_of_length_le (by omega), List.drop_append, hl, List.drop_of_length_le (by omega), List.nil_append, show k + 1 - k = 1 by omega]
  simp
end Go.Proofs.YtmheijnckmlbnaaDoor
/- l01Dec of every number (the negative ones too). -/
namespace Go.Proofs.YtmheijnckmlbnaaDoor
open Go.RowKit Go.Joins

theorem decS_neg (n : Nat) (hn : 0 < n) : decS (-(n : Int)) = ⟨#[45]⟩ ++ ⟨(Lib.decDigits n).toArray⟩ := by
  unfold decS Lib.itoa
  rw [if_pos (by omega)]
  refine ba_inj ?_
  rw [ByteArray.toList_eq, ByteArray.toList_eq]
  simp
theorem nDig19 (u : Nat) (h : u ≤ 9223372036854775808) : Lib.nDigits u ≤ 19 := by
  have key : ∀ (k u : Nat), u < 10 ^ (k + 1) → Lib.nDigits u ≤ k + 1 := by
    intro k
    induction k with
    | zero => intro u hu; rw [Lib.nDigits_small (by simpa using hu)]; omega
    | succ k ih =>
      intro u hu
      by_cases h10 : u < 10
      · rw [Lib.nDigits_small h10]; omega
      · rw [Lib.nDigits_big h10]
        have := ih (u / 10) (by rw [Nat.pow_succ] at hu; omega)
        omega
  refine key 18 u ?_
  have : (10 : Nat) ^ (18 + 1) = 10000000000000000000 := by decide
  omega
theorem tdiv_neg10 (k : Nat) : Int.tdiv (-(k : Int)) 10 = -((k / 10 : Nat) : Int) := by
  rw [Int.neg_tdiv, Int.tdiv_eq_ediv_of_nonneg (by omega)]; omega
theorem tmod_neg10 (k : Nat) : Int.tmod (-(k : Int)) 10 = -((k % 10 : Nat) : Int) := by
  rw [Int.neg_tmod, Int.tmod_eq_emod_of_nonneg (by omega)]; omega

set_option maxRecDepth 100000 in
set_option maxHeartbeats 1600000 in
theorem l01Dec_neg (n : Nat) (w : World) (hn0 : 0 < n) (hn : n ≤ 9223372036854775808) :
    Calls Tryd.prog 79 #[.int .i64 (-(n : Int))] w fun e w' => e = .returned (.string (decS (-(n : Int)))) ∧ Below w.heap.size w w' := by
  have Hn := Lib.hid hn; clear hn
  have Hn0 := Lib.hid hn0; clear hn0
  obtain ⟨N, hN⟩ : ∃ N : Int, -(n : Int) = N := ⟨_, rfl⟩
  rw [hN]
  have HN := Lib.hid hN
  have hneg : N < 0 := by have := Hn0.out; omega
  clear hN
  go_enter Tryd.func79, Tryd.ntmps79
  go_wp2_with fail
  go_loopw [3, 4] (fun v i wr => ∃ (k : Nat) (acc : List UInt8) (g c : Nat), i = .int .i64 (-(k : Int)) ∧ v = .slice (some ⟨g, 0, none⟩) acc.length c ∧ wr.ownsRow w.heap.size 5 1 v acc.length (acc.map byV) ∧
      ddL n [] = ddL k acc ∧ Hid (k * 10 ^ acc.length ≤ 9223372036854775808) ∧ Hid (k ≤ n) ∧ Below w.heap.size w wr) (fun _ i _ => (intOf i).natAbs)
  case atStart => exact ⟨n, [], w.heap.size, 0, by rw [HN.out], rfl, World.ownsRow_made w #[] 0 (Nat.le_refl _) (by simp [maxLen]) rfl, rfl, Lib.hid (by have := Hn.out; simp; omega), Lib.hid (Nat.le_refl _), (Below.refl _ _).alloc (Nat.le_refl _) _⟩
  case round =>
    obtain ⟨k, acc, g, c, rfl, rfl, hown, hdd, hp, hkn, hbl⟩ := hrel
    have Hdd := Lib.hid hdd; clear hdd
    by_cases hlt : 0 < k
    · have hL : acc.length ≤ 18 := len19 k acc.length hlt hp.out
      have hd := digB' k
      have Hst := Lib.hid (ddL_step k acc hlt)
      have hk8 : k ≤ 9223372036854775808 := by have := hkn.out; have := Hn.out; omega
      generalize UInt8.ofNat (48 + k % 10) = d at *
      have hnew := World.ownsRow_lit (base := w.heap.size) (e := 5) (size := 1) wr #[.int .u8 (d.toNat : Int)] 1 hbl.size (by simp [maxLen]) rfl
      have hcells := (hown.alloc (.cells #[.int .u8 (d.toNat : Int)] 5)).cells (g := g) rfl
      have hcells' : ∀ j u, (acc.map byV)[j]? = some u → (wr.alloc (.cells #[.int .u8 (d.toNat : Int)] 5)).cell? ⟨g, j, none⟩ = some u := fun j u hu => by
        have := hcells j u hu
        rwa [show (⟨g, 0, none⟩ : Addr).add j = ⟨g, j, none⟩ by unfold Addr.add; split <;> simp_all] at this
      have Hc := Lib.hid hcells'; clear hcells hcells'
      have hq0 := tdiv_neg10 k
      have hr0 := tmod_neg10 k
      obtain ⟨K, hK⟩ : ∃ K : Int, -(k : Int) = K := ⟨_, rfl⟩
      have HK := Lib.hid hK
      rw [hK] at hq0 hr0
      have hne : (K != 0) = true := by rw [bne_iff_ne]; omega
      have hwq : IntKind.i64.wrap (-((k / 10 : Nat) : Int)) = -((k / 10 : Nat) : Int) := IntWalk.i64_in _ (by omega)
      have hwr : IntKind.i64.wrap (-((k % 10 : Nat) : Int)) = -((k % 10 : Nat) : Int) := IntWalk.i64_in _ (by omega)
      obtain ⟨q, hq⟩ : ∃ q : Int, -((k / 10 : Nat) : Int) = q := ⟨_, rfl⟩
      obtain ⟨r, hr⟩ : ∃ r : Int, -((k % 10 : Nat) : Int) = r := ⟨_, rfl⟩
      rw [hq] at hq0 hwq
      rw [hr] at hr0 hwr
      have Hq := Lib.hid hq
      have hr9 : -9 ≤ r ∧ r ≤ 0 := by omega
      obtain ⟨hr9, hr99⟩ := hr9
      rw [hK]
      rcases Int.lt_or_le r 0 with hrn | hrn
      · have hwd : IntKind.i64.wrap (-r) = -r := IntWalk.i64_in _ (by omega)
        have hd' : IntKind.u8.wrap (48 + -r) = (d.toNat : Int) := by rw [← hd, ← hr]; congr 1; omega
        clear hd hK hq hr
        go_wp2_with (at_builtin; refine wpList_app_own 22 5 _ 1 1 Tryd.underlying22 infoB' rfl (by omega) _ _ rfl rfl w.heap.size (.slice (some ⟨wr.heap.size, 0, none⟩) 1 1) 1 _ rfl hnew (by simp) g acc.length c (acc.map byV) rfl Hc.out (by simp) (by simp [byV, Value.oneCell']) (by simp [maxLen]; omega) (by omega) (by simp; have := hbl.size; omega) ?_; intro g' c' w1 hown1 hg1)
        have hb1 : Below w.heap.size w w1 := (hbl.alloc hbl.size _).grown hg1 (by simp; have := hbl.size; omega) (fun x hx => by injection hx with hx; rw [← hx]; exact hbl.size)
        clear Hc hnew
        go_wp2_with fail
        go_roundw
        case rel => exact ⟨k / 10, d :: acc, g', c', by rw [Hq.out], by simp [Nat.add_comm], by simpa [byV, Nat.add_comm] using hown1, by rw [Hdd.out, Hst.out], Lib.hid (pow_step _ _ _ hp.out), Lib.hid (by have := hkn.out; omega), hb1⟩
        case measure => simp [intOf]; have := HK.out; have := Hq.out; omega
      · have hr0' : r = 0 := by omega
        have hd' : IntKind.u8.wrap (48 + r) = (d.toNat : Int) := by rw [← hd]; congr 1; omega
        clear hd hK hq hr hr0'
        go_wp2_with (at_builtin; refine wpList_app_own 22 5 _ 1 1 Tryd.underlying22 infoB' rfl (by omega) _ _ rfl rfl w.heap.size (.slice (some ⟨wr.heap.size, 0, none⟩) 1 1) 1 _ rfl hnew (by simp) g acc.length c (acc.map byV) rfl Hc.out (by simp) (by simp [byV, Value.oneCell']) (by simp [maxLen]; omega) (by omega) (by simp; have := hbl.size; omega) ?_; intro g' c' w1 hown1 hg1)
        have hb1 : Below w.heap.size w w1 := (hbl.alloc hbl.size _).grown hg1 (by simp; have := hbl.size; omega) (fun x hx => by injection hx with hx; rw [← hx]; exact hbl.size)
        clear Hc hnew
        go_wp2_with fail
        go_roundw
        case rel => exact ⟨k / 10, d :: acc, g', c', by rw [Hq.out], by simp [Nat.add_comm], by simpa [byV, Nat.add_comm] using hown1, by rw [Hdd.out, Hst.out], Lib.hid (pow_step _ _ _ hp.out), Lib.hid (by have := hkn.out; omega), hb1⟩
        case measure => simp [intOf]; have := HK.out; have := Hq.out; omega
    · have hk0 : k = 0 := by omega
      subst hk0
      have hacc : Lib.decDigits n = acc := by
        have := Hdd.out
        simpa [ddL, show n ≠ 0 by have := Hn0.out; omega] using this
      have hl : ((acc.length : Int) == 0) = false := by
        have := decDigits_ne n
        rw [hacc] at this
        rw [beq_eq_false_iff_ne]; omega
      have he := Lib.hid (show decS N = ⟨#[45]⟩ ++ ⟨acc.toArray⟩ by rw [← HN.out, decS_neg n Hn0.out, hacc])
      have hconv := run_conv_own (P := Tryd.prog) 22 9 5 Tryd.underlying22 Tryd.underlying5 Tryd.underlying9 _ _ _ _ hown
      have hlen : acc.length ≤ 19 := by
        have h1 := congrArg List.length hacc
        rw [Lib.decDigits_length] at h1
        have := Hn.out
        have h2 : Lib.nDigits n ≤ 19 := nDig19 n (by omega)
        omega
      clear hacc
      go_wp2_with fail
      go_ret
      rw [he.out]; exact ⟨rfl, hbl⟩
theorem l01Dec_any (n : Int) (w : World) (h0 : -9223372036854775808 ≤ n) (h1 : n ≤ 9223372036854775807) :
    Calls Tryd.prog 79 #[.int .i64 n] w fun e w' => e = .returned (.string (decS n)) ∧ Below w.heap.size w w' := by
  rcases Int.lt_or_le n 0 with h | h
  · obtain ⟨m, rfl⟩ : ∃ m : Nat, n = -(m : Int) := ⟨n.natAbs, by omega⟩
    exact l01Dec_neg m w (by omega) (by omega)
  · obtain ⟨m, rfl⟩ : ∃ m : Nat, n = m := ⟨n.toNat, by omega⟩
    exact l01Dec_nonneg m w (by omega)
end Go.Proofs.YtmheijnckmlbnaaDoor
/- Journals, part 3: cut. -/
namespace Go.Proofs.YtmheijnckmlbnaaDoor
open Go.RowKit Go.Joins

/-- the first place of a byte in a text; its size if there is none -/
def fnd (c : UInt8) (s : ByteArray) : Nat := s.data.toList.findIdx (· == c)
theorem fnd_le (c : UInt8) (s : ByteArray) : fnd c s ≤ s.size := by
  have : fnd c s ≤ s.data.toList.length := List.findIdx_le_length
  simpa using this
theorem fnd_eq (c : UInt8) (s : ByteArray) (k : Nat) (hk : k ≤ fnd c s) (hlt : k < s.size) (h : s[k] = c) : fnd c s = k := by
  refine Nat.le_antisymm (Nat.le_of_not_lt fun hl => ?_) hk
  have := List.not_of_lt_findIdx (p := (· == c)) (xs := s.data.toList) (i := k) hl
  have h' : s.data.toList[k]'(by simpa using hlt) = c := by rw [← h]; rfl
  simp [h'] at this
theorem fnd_ne (c : UInt8) (s : ByteArray) (k : Nat) (hk : k ≤ fnd c s) (hlt : k < s.size) (h : s[k] ≠ c) : k + 1 ≤ fnd c s := by
  rcases Nat.lt_or_ge k (fnd c s) with hl | hg
  · exact hl
  · exfalso
    have he : fnd c s = k := Nat.le_antisymm hg hk
    have := List.findIdx_getElem (p := (· == c)) (xs := s.data.toList) (w := by show fnd c s < s.data.toList.length; rw [he]; simpa using hlt)
    have hh : s.data.toList[fnd c s]'(by rw [he]; simpa using hlt) = c := by simpa [fnd] using this
    simp only [he] at hh
    exact h (by rw [← hh]; rfl)
theorem ext_all (s : ByteArray) : s.extract 0 s.size = s := by
  apply ByteArray.ext; simp
theorem ext_none (s : ByteArray) : s.extract (s.size + 1) s.size = ⟨#[]⟩ := by
  apply ByteArray.ext; simp
theorem one_byte (s : ByteArray) (k : Nat) (hlt : k < s.size) : s.extract k (k + 1) = ⟨#[s[k]]⟩ := by
  apply ByteArray.ext
  have hl : k < s.data.size := hlt
  apply Array.ext
  · simp; omega
  · intro i h1 h2
    have hi : i = 0 := by simp at h2; omega
    subst hi
    simp; rfl

set_option maxRecDepth 100000 in
set_option maxHeartbeats 1000000 in
theorem cut_any (s : ByteArray) (c : UInt8) (w : World) (hs : s.size ≤ 1073741824) :
    Calls Tryd.prog 59 #[.string s, .string ⟨#[c]⟩] w fun e w' => e = .returned (.tuple #[.string (s.extract 0 (fnd c s)), .string (s.extract (fnd c s + 1) s.size), .bool (decide (fnd c s < s.size))]) ∧ ∃ n, w' = w.drewN n := by
  have h1 : (⟨#[c]⟩ : ByteArray).size = 1 := rfl
  go_enter Tryd.func59, Tryd.ntmps59
  go_wp2_with fail
  go_loop [7] (fun i => ∃ k : Nat, k ≤ fnd c s ∧ i = .int .i64 k) (fun i => s.size - (intOf i).toNat)
  case atStart => exact ⟨0, Nat.zero_le _, rfl⟩
  case round =>
    obtain ⟨k, hk, rfl⟩ := hrel
    have hfl := fnd_le c s
    by_cases hlt : k < s.size
    · have hsl := one_byte s k hlt
      by_cases he : s[k] = c
      · have hf := Lib.hid (fnd_eq c s k hk hlt he)
        rw [he] at hsl
        clear he
        go_wp2_with fail
        go_quiet (fail)
        go_wp2_with fail
        go_ret3
        rw [hf.out]; exact ⟨by simp [hlt], _, rfl⟩
      · have hf := Lib.hid (fnd_ne c s k hk hlt he)
        have hb : ((⟨#[s[k]]⟩ : ByteArray).toList == [c]) = false := by
          rw [beq_eq_false_iff_ne]; exact fun h => he (by rw [ByteArray.toList_eq] at h; simpa using h)
        generalize (⟨#[s[k]]⟩ : ByteArray) = o at *
        go_wp2_with fail
        go_round
        case rel => exact ⟨k + 1, hf.out, by go_num⟩
        case measure => simp [intOf]; omega
    · have hf := Lib.hid (show fnd c s = s.size by omega)
      have he1 := ext_all s
      have he2 := ext_none s
      go_wp2_with fail
      go_ret3
      rw [hf.out]; exact ⟨by rw [he1, he2]; simp, 0, rfl⟩
end Go.Proofs.YtmheijnckmlbnaaDoor
/- Numbers read from texts: the plain reading; ReadDecimal (program). -/
namespace Go.Proofs.YtmheijnckmlbnaaDoor
open Go.RowKit Go.Joins

def isDg (c : UInt8) : Bool := decide (48 ≤ c.toNat) && decide (c.toNat ≤ 57)
def numVN (l : List UInt8) : Nat := l.foldl (fun n c => 10 * n + (c.toNat - 48)) 0
theorem numVN_snoc (l : List UInt8) (c : UInt8) : numVN (l ++ [c]) = 10 * numVN l + (c.toNat - 48) := by simp [numVN]
theorem numVN_lt' : ∀ (l : List UInt8), (∀ c ∈ l, isDg c = true) → ∀ n : Nat, l.foldl (fun n c => 10 * n + (c.toNat - 48)) n < (n + 1) * 10 ^ l.length := by
  intro l
  induction l with
  | nil => intro _ n; simp
  | cons c l ih =>
    intro h n
    have h1 := ih (fun x hx => h x (List.mem_cons_of_mem _ hx)) (10 * n + (c.toNat - 48))
    have h2 := h c List.mem_cons_self
    unfold isDg at h2
    simp only [Bool.and_eq_true, decide_eq_true_eq] at h2
    rw [List.foldl_cons, List.length_cons, Nat.pow_succ]
    have h3 : (10 * n + (c.toNat - 48) + 1) * 10 ^ l.length ≤ (10 * (n + 1)) * 10 ^ l.length := Nat.mul_le_mul_right _ (by omega)
    have h4 : (10 * (n + 1)) * 10 ^ l.length = (n + 1) * (10 ^ l.length * 10) := by
      rw [Nat.mul_comm 10 (n + 1), Nat.mul_assoc, Nat.mul_comm 10]
    omega
theorem numVN_lt (l : List UInt8) (h : ∀ c ∈ l, isDg c = true) : numVN l < 10 ^ l.length := by
  have := numVN_lt' l h 0
  unfold numVN
  omega
/-- what stands behind a sign -/
def bodyN (s : ByteArray) : ByteArray := if s.data.toList.head? = some 45 then s.extract 1 s.size else s
def valN (s : ByteArray) : Int := if (bodyN s).size < s.size then -(numVN (bodyN s).data.toList : Int) else numVN (bodyN s).data.toList
def readN (s : ByteArray) : Option Int :=
  if (bodyN s).size = 0 ∨ 18 < (bodyN s).size then none
  else if (bodyN s).data.toList.all isDg = true then (if decS (valN s) = s then some (valN s) else none) else none
theorem isDigitN_any (c : UInt8) (w : World) : Calls Tryd.prog 91 #[.int .u8 (c.toNat : Int)] w fun e w' => e = .returned (.bool (isDg c)) ∧ w = w' := by
  unfold isDg
  by_cases h1 : 48 ≤ c.toNat
  · have h1' : (48 : Int) ≤ (c.toNat : Int) := by omega
    by_cases h2 : c.toNat ≤ 57
    · have h2' : (c.toNat : Int) ≤ 57 := by omega
      go_enter Tryd.func91, Tryd.ntmps91
      go_wp2_with fail
      go_ret
      exact ⟨by simp [h1, h2], rfl⟩
    · have h2' : ¬ (c.toNat : Int) ≤ 57 := by omega
      go_enter Tryd.func91, Tryd.ntmps91
      go_wp2_with fail
      go_ret
      exact ⟨by simp, rfl⟩
  · have h1' : ¬ (48 : Int) ≤ (c.toNat : Int) := by omega
    go_enter Tryd.func91, Tryd.ntmps91
    go_wp2_with fail
    go_ret
    exact ⟨by simp, rfl⟩
theorem l01DigitN_any (c : UInt8) (w : World) : Calls Tryd.prog 107 #[.int .u8 (c.toNat : Int)] w fun e w' => e = .returned (.bool (isDg c)) ∧ w = w' := by
  unfold isDg
  by_cases h1 : 48 ≤ c.toNat
  · have h1' : (48 : Int) ≤ (c.toNat : Int) := by omega
    by_cases h2 : c.toNat ≤ 57
    · have h2' : (c.toNat : Int) ≤ 57 := by omega
      go_enter Tryd.func107, Tryd.ntmps107
      go_wp2_with fail
      go_ret
      exact ⟨by simp [h1, h2], rfl⟩
    · have h2' : ¬ (c.toNat : Int) ≤ 57 := by omega
      go_enter Tryd.func107, Tryd.ntmps107
      go_wp2_with fail
      go_ret
      exact ⟨by simp, rfl⟩
  · have h1' : ¬ (48 : Int) ≤ (c.toNat : Int) := by omega
    go_enter Tryd.func107, Tryd.ntmps107
    go_wp2_with fail
    go_ret
    exact ⟨by simp, rfl⟩
end Go.Proofs.YtmheijnckmlbnaaDoor
