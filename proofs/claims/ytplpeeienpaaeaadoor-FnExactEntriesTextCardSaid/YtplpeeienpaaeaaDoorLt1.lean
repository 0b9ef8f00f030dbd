/- Loans' texts: the program's and the reference's LoansText. -/
import Derived.Test.YtplpeeienpaaeaaDoorLo11
import Derived.Test.YtplpeeienpaaeaaDoorLo5
import Derived.Test.YtplpeeienpaaeaaDoorJr2
import Derived.Test.YtplpeeienpaaeaaDoorLib7
import Derived.Lib.AppendStr
namespace Go.Proofs.YtplpeeienpaaeaaDoor
open Go.RowKit Go.Joins

/-- a string appended to a row of bytes, at a step of a region -/
theorem step_str {P : Program} {w : World} {ops : Array Oper} {o : Oper} {a : Act} {K : Act → World → Prop} {Q : Exit → Act → World → Prop} {E : Prop} (t u e : TypeId)
    (ht : P.underlying t = some (.slice e)) (hu : P.underlying u = some .string) (hinfo : (P.info? e).map (fun i => (i.zero, i.size, i.bytes)) = some (some (.int .u8 0), 1, 1))
    (sl x : Operand) (hgd : o.guard = none) (ho : o.op = .call { callee := .builtin .append, args := #[sl, x], argTypes := #[t, u] })
    (base : Nat) (v : Value) (n : Nat) (xs : List Value) (hs : a.eval sl = v) (hown : w.ownsRow base e 1 v n xs) (s : ByteArray) (hx : a.eval x = .string s)
    (h63 : n + s.size ≤ maxLen) (hbytes : n + s.size ≤ 140737488355328) (hbase : base ≤ w.heap.size)
    (h : ∀ v' w', w'.ownsRow base e 1 v' (n + s.size) (xs ++ Lib.strCells s) → w.grownBy w' v.ownBlock → K (a.put o.dst v') w') :
    if Region.wanted o (yielded ops a.tmps) = true then Oper.wp P o a w K Q else E := by
  have hw : Region.wanted o (yielded ops a.tmps) = true := by simp [Region.wanted, hgd]
  rw [if_pos hw]
  obtain ⟨i, hi, hz, h2, h3⟩ := info_parts hinfo
  obtain ⟨v', w', hr, k2, k3, k4⟩ := Lib.run_append_own_string (P := P) w base t u o.type e i ht hu hi hz h2 h3 v n xs hown s h63 hbytes hbase
  unfold Oper.wp execOp
  simp only [ho, resolve, invoke, builtin, Sem.run_bind, Sem.run_pure, Result.andThen_ok, List.map_toArray, List.map_cons, List.map_nil, hs, hx, hr]
  exact h v' w' k2 k3

def lineL (x : Ln) : ByteArray := decS x.from_ ++ ⟨#[46, 46]⟩ ++ decS x.till ++ ⟨#[32]⟩ ++ x.what ++ ⟨#[32]⟩ ++ x.who ++ ⟨#[10]⟩
def textL (xs : List Ln) : ByteArray := ⟨(xs.flatMap fun x => (lineL x).data.toList).toArray⟩
/-- the text of a list, empty where it is not valid -/
def txL (xs : List Ln) : ByteArray := if loansOk xs then textL xs else ⟨#[]⟩
theorem textL_step (xs : List Ln) (k : Nat) (hk : k < xs.length) : textL (xs.take (k + 1)) = textL (xs.take k) ++ lineL xs[k] := by
  unfold textL
  rw [List.take_succ_eq_append_getElem hk, List.flatMap_append]
  refine ba_inj ?_
  rw [ByteArray.toList_eq, ByteArray.toList_eq]
  simp
theorem lineL_size (x : Ln) (h : loanOk x = true) (hs : smL x) : (lineL x).size ≤ 2097300 := by
  have hb : 0 ≤ x.from_ ∧ x.from_ ≤ 100000 ∧ 0 ≤ x.till ∧ x.till ≤ 100000 := by
    unfold loanOk inB at h
    simp at h
    omega
  have h1 := decS_size x.from_ (by omega) (by omega)
  have h2 := decS_size x.till (by omega) (by omega)
  obtain ⟨s1, s2⟩ := hs
  unfold lineL
  simp only [ByteArray.size_append]
  show _ + 2 + _ + 1 + _ + 1 + _ + 1 ≤ _
  omega
theorem loan_days {x : Ln} (h : loanOk x = true) : 0 ≤ x.from_ ∧ x.from_ ≤ 100000 ∧ 0 ≤ x.till ∧ x.till ≤ 100000 := by
  unfold loanOk inB at h
  simp at h
  omega
theorem loans_at {xs : List Ln} (h : loansOk xs = true) (k : Nat) (hk : k < xs.length) : loanOk xs[k] = true := by
  unfold loansOk at h
  simp only [Bool.and_eq_true] at h
  have := chk_get h.1 hk
  unfold placeS at this
  rw [atL_at xs k hk] at this
  simp only [Bool.and_eq_true] at this
  exact this.1.1
theorem loans_60 {xs : List Ln} (h : loansOk xs = true) : xs.length ≤ 60 := by
  unfold loansOk at h
  simp only [Bool.and_eq_true, decide_eq_true_eq] at h
  exact h.2

set_option maxRecDepth 100000 in
set_option maxHeartbeats 1600000 in
theorem LoansTextI_any (B : Nat) (v : Value) (xs : List Ln) (w : World) (h : RdL w B v xs) (hB : B ≤ w.heap.size) (hl : xs.length ≤ 1048576) (hsm : ∀ x ∈ xs, smL x) (hcap : ∀ A n c, v = .slice A n c → n ≤ c ∧ c ≤ maxLen) (ht : Tab w) :
    Calls Tryd.prog 9 #[v] w fun e w' => e = .returned (.string (txL xs)) ∧ Below w.heap.size w w' := by
  have HV := Lib.hid (ValidLoansI_any B v xs w h hB hl hsm hcap)
  have H := Lib.hid h
  have Ht := Lib.hid ht
  have Hsm := Lib.hid hsm
  obtain ⟨A, c, rfl⟩ := h.slice
  clear h hsm hcap ht
  cases hok : loansOk xs with
  | false =>
    have e0 := Lib.hid (show txL xs = ⟨#[]⟩ by unfold txL; rw [hok]; rfl)
    rw [hok] at HV
    clear hok
    go_enter Tryd.func9, Tryd.ntmps9
    go_wp2_with fail
    refine HV.out.mono ?_; rintro e w1 ⟨rfl, hb1⟩
    go_wp2_with fail
    go_ret
    rw [e0.out]; exact ⟨rfl, hb1⟩
  | true =>
    have e0 := Lib.hid (show txL xs = textL xs by unfold txL; rw [hok]; rfl)
    have HG := Lib.hid (fun k hk => loans_at hok k hk)
    have h60 := loans_60 hok
    rw [hok] at HV
    clear hok
    go_enter Tryd.func9, Tryd.ntmps9
    go_wp2_with fail
    refine HV.out.mono ?_; rintro e w1 ⟨rfl, hb1⟩
    go_wp2_with fail
    go_loopw [3, 11] (fun o i wr => ∃ (k : Nat), k ≤ xs.length ∧ i = .int .i64 k ∧ o = .string (textL (xs.take k)) ∧ (textL (xs.take k)).size ≤ k * 2097300 ∧ Below w.heap.size w wr) (fun _ i _ => xs.length - (intOf i).toNat)
    case atStart => exact ⟨0, Nat.zero_le _, rfl, rfl, Nat.le_refl _, hb1⟩
    case round =>
      obtain ⟨k, hk, rfl, rfl, hsz, hbl⟩ := hrel
      by_cases hlt : k < xs.length
      · have HL := Lib.hid (H.out.below (hbl.mono hB))
        obtain ⟨b1, o1, hA, hE⟩ := HL.out.at k hlt
        subst hA
        have hlt' : (k : Int) < (xs.length : Int) := by omega
        have hsx := Hsm.out xs[k] (List.getElem_mem hlt)
        have hgx := HG.out k hlt
        have hls := lineL_size xs[k] hgx hsx
        have hst := textL_step xs k hlt
        have hz1 : b1 < wr.heap.size := Nat.lt_of_lt_of_le hE.lt (Nat.le_trans hB hbl.size)
        have hT0 : ∃ X, X = textL (xs.take (k + 1)) := ⟨_, rfl⟩
        obtain ⟨T', hT0⟩ := hT0
        rw [← hT0] at hst
        have HT' := Lib.hid hT0; clear hT0
        generalize textL (xs.take k) = T at *
        generalize xs[k] = x at *
        obtain ⟨d1, d2, d3, d4⟩ := loan_days hgx
        have s1 := decS_size x.from_ (by omega) (by omega)
        have s2 := decS_size x.till (by omega) (by omega)
        have HA := Lib.hid (fun wx hx => Decimal_any x.from_ wx (by omega) (by omega) hx)
        have HB := Lib.hid (fun wx hx => Decimal_any x.till wx (by omega) (by omega) hx)
        have HLx := Lib.hid (show lineL x = decS x.from_ ++ ⟨#[46, 46]⟩ ++ decS x.till ++ ⟨#[32]⟩ ++ x.what ++ ⟨#[32]⟩ ++ x.who ++ ⟨#[10]⟩ from rfl)
        generalize lineL x = L at *
        obtain ⟨a, b, f, t⟩ := x
        obtain ⟨hs1, hs2⟩ := hsx
        obtain ⟨hbB, e0, e1, e2, e3⟩ := hE
        dsimp only at e0 e1 e2 e3 HA HB HLx s1 s2 hs1 hs2 d1 d2 d3 d4
        clear hgx d1 d2 d3 d4
        generalize decS f = D at *
        generalize decS t = E at *
        have p1 : (D ++ ⟨#[46, 46]⟩ : ByteArray).size = D.size + 2 := ByteArray.size_append
        have p2 : (D ++ ⟨#[46, 46]⟩ ++ E : ByteArray).size = D.size + 2 + E.size := by rw [ByteArray.size_append, p1]
        have p3 : (D ++ ⟨#[46, 46]⟩ ++ E ++ ⟨#[32]⟩ : ByteArray).size = D.size + 2 + E.size + 1 := by rw [ByteArray.size_append, p2]; rfl
        have p4 : (D ++ ⟨#[46, 46]⟩ ++ E ++ ⟨#[32]⟩ ++ a : ByteArray).size = D.size + 2 + E.size + 1 + a.size := by rw [ByteArray.size_append, p3]
        have p5 : (D ++ ⟨#[46, 46]⟩ ++ E ++ ⟨#[32]⟩ ++ a ++ ⟨#[32]⟩ : ByteArray).size = D.size + 2 + E.size + 1 + a.size + 1 := by rw [ByteArray.size_append, p4]; rfl
        have p6 : (D ++ ⟨#[46, 46]⟩ ++ E ++ ⟨#[32]⟩ ++ a ++ ⟨#[32]⟩ ++ b : ByteArray).size = D.size + 2 + E.size + 1 + a.size + 1 + b.size := by rw [ByteArray.size_append, p5]
        have p7 : (D ++ ⟨#[46, 46]⟩ ++ E ++ ⟨#[32]⟩ ++ a ++ ⟨#[32]⟩ ++ b ++ ⟨#[10]⟩ : ByteArray).size = D.size + 2 + E.size + 1 + a.size + 1 + b.size + 1 := by rw [ByteArray.size_append, p6]; rfl
        have hT : T'.size ≤ (k + 1) * 2097300 := by rw [hst, ByteArray.size_append]; have := HLx.out; rw [this, p7]; omega
        have Hr := Lib.hid (show T ++ (D ++ ⟨#[46, 46]⟩ ++ E ++ ⟨#[32]⟩ ++ a ++ ⟨#[32]⟩ ++ b ++ ⟨#[10]⟩) = T' by rw [hst, HLx.out])
        have Hbl := Lib.hid (hbl.trans (((Below.refl wr.heap.size wr).alloc (Nat.le_refl _) (.cells #[.string a, .string b, .int .i64 f, .int .i64 t] 52)).mono hbl.size))
        have Hnw := Lib.hid (heap_alloc_new wr (.cells #[.string a, .string b, .int .i64 f, .int .i64 t] 52))
        clear hbl hls HL
        go_wp2_with fail
        obtain ⟨f0, f1, f2, f3⟩ := four_at Hnw.out
        generalize wr.alloc (.cells #[.string a, .string b, .int .i64 f, .int .i64 t] 52) = wn at *
        have hacc := Hbl.out.drew
        clear e0 e1 e2 e3
        refine wp_region_noPanic ?_
        refine wp_region_L [] (fun w' => w'.cell? ⟨wr.heap.size, 0, none⟩ = some (.string a) ∧ w'.cell? ⟨wr.heap.size, 1, none⟩ = some (.string b) ∧ w'.cell? ⟨wr.heap.size, 2, none⟩ = some (.int .i64 f) ∧ w'.cell? ⟨wr.heap.size, 3, none⟩ = some (.int .i64 t)) (by kernel_rfl) (⟨f0, f1, f2, f3⟩) (fun hHeld => ?_)
        refine take_F (i := 0) (d := some 15) (v := ?_) (by kernel_rfl) (by kernel_rfl) rfl rfl (by kernel_rfl) (by kernel_rfl) (by kernel_rfl) (fun _ _ _ h => h) (Or.inl ⟨by rfl, ?_⟩) (by assumption) ?_
        rotate_left
        · (intro w hSw; (try dsimp only at hSw); go_simp; (try rw [if_neg (by omega)]); (try (with_reducible rfl)))
        simp only [Act.put, List.setIfInBounds_toArray, List.set_cons_zero, List.set_cons_succ]
        refine take_F (i := 1) (d := some 16) (v := ?_) (by kernel_rfl) (by kernel_rfl) rfl rfl (by kernel_rfl) (by kernel_rfl) (by kernel_rfl) (fun _ _ _ h => h) (Or.inl ⟨by rfl, ?_⟩) (by assumption) ?_
        rotate_left
        · (intro w hSw; (try dsimp only at hSw); go_simp; (try rw [if_neg (by omega)]); (try (with_reducible rfl)))
        simp only [Act.put, List.setIfInBounds_toArray, List.set_cons_zero, List.set_cons_succ]
        refine take_L [2] (i := 2) (d := some 17) (v := ?_) (by kernel_rfl) (by kernel_rfl) (by kernel_rfl) (by kernel_rfl) rfl rfl (by kernel_rfl) (by kernel_rfl) (by kernel_rfl) (fun _ _ _ h => h) (Or.inl ⟨by rfl, ?_⟩) (by assumption) ?_
        rotate_left
        · (intro w hSw; (try dsimp only at hSw); go_simp; (try rw [if_neg (by omega)]); (try (with_reducible rfl)))
        simp only [Act.put, List.setIfInBounds_toArray, List.set_cons_zero, List.set_cons_succ]
        refine take_F (i := 5) (d := some 20) (v := ?_) (by kernel_rfl) (by kernel_rfl) rfl rfl (by kernel_rfl) (by kernel_rfl) (by kernel_rfl) (fun _ _ _ h => h) (Or.inl ⟨by rfl, ?_⟩) (by assumption) ?_
        rotate_left
        · (intro w hSw; (try dsimp only at hSw); go_simp; (try rw [if_neg (by omega)]); (try (with_reducible rfl)))
        simp only [Act.put, List.setIfInBounds_toArray, List.set_cons_zero, List.set_cons_succ]
        refine take_L [6] (i := 6) (d := some 21) (v := ?_) (by kernel_rfl) (by kernel_rfl) (by kernel_rfl) (by kernel_rfl) rfl rfl (by kernel_rfl) (by kernel_rfl) (by kernel_rfl) (fun _ _ _ h => h) (Or.inl ⟨by rfl, ?_⟩) (by assumption) ?_
        rotate_left
        · (intro w hSw; (try dsimp only at hSw); go_simp; (try rw [if_neg (by omega)]); (try (with_reducible rfl)))
        simp only [Act.put, List.setIfInBounds_toArray, List.set_cons_zero, List.set_cons_succ]
        refine take_F (i := 10) (d := some 25) (v := ?_) (by kernel_rfl) (by kernel_rfl) rfl rfl (by kernel_rfl) (by kernel_rfl) (by kernel_rfl) (fun _ _ _ h => h) (Or.inl ⟨by rfl, ?_⟩) (by assumption) ?_
        rotate_left
        · (intro w hSw; (try dsimp only at hSw); go_simp; (try rw [if_neg (by omega)]); (try (with_reducible rfl)))
        simp only [Act.put, List.setIfInBounds_toArray, List.set_cons_zero, List.set_cons_succ]
        refine take_L [11] (i := 11) (d := some 26) (v := ?_) (by kernel_rfl) (by kernel_rfl) (by kernel_rfl) (by kernel_rfl) rfl rfl (by kernel_rfl) (by kernel_rfl) (by kernel_rfl) (fun _ _ _ h => h) (Or.inl ⟨by rfl, ?_⟩) (by assumption) ?_
        rotate_left
        · (intro w hSw; (try dsimp only at hSw); go_simp; (try rw [if_neg (by omega)]); (try (with_reducible rfl)))
        simp only [Act.put, List.setIfInBounds_toArray, List.set_cons_zero, List.set_cons_succ]
        refine take_F (i := 14) (d := some 29) (v := ?_) (by kernel_rfl) (by kernel_rfl) rfl rfl (by kernel_rfl) (by kernel_rfl) (by kernel_rfl) (fun _ _ _ h => h) (Or.inl ⟨by rfl, ?_⟩) (by assumption) ?_
        rotate_left
        · (intro w hSw; (try dsimp only at hSw); go_simp; (try rw [if_neg (by omega)]); (try (with_reducible rfl)))
        simp only [Act.put, List.setIfInBounds_toArray, List.set_cons_zero, List.set_cons_succ]
        refine take_L [15] (i := 15) (d := some 30) (v := ?_) (by kernel_rfl) (by kernel_rfl) (by kernel_rfl) (by kernel_rfl) rfl rfl (by kernel_rfl) (by kernel_rfl) (by kernel_rfl) (fun _ _ _ h => h) (Or.inl ⟨by rfl, ?_⟩) (by assumption) ?_
        rotate_left
        · (intro w hSw; (try dsimp only at hSw); go_simp; (try rw [if_neg (by omega)]); (try (with_reducible rfl)))
        simp only [Act.put, List.setIfInBounds_toArray, List.set_cons_zero, List.set_cons_succ]
        refine call_L (i := 3) (d := (some 18)) rfl rfl (by kernel_rfl) (fun Kq hKq => ?_)
        go_simp
        go_at_call 30
        refine (HA.out _ (Ht.out.below hacc)).mono ?_; rintro e w5 ⟨rfl, hb5⟩
        have hS5 := four_kept hb5 ⟨f0, f1, f2, f3⟩
        have hacc5 := hacc.trans (hb5.mono hacc.size)
        clear hacc hb5
        (try go_wp2_with fail)
        refine hKq.out _ _ (hS5) (fun hHeld => ?_)
        clear hKq Kq
        (try simp only [Act.put, List.setIfInBounds_toArray, List.set_cons_zero, List.set_cons_succ])
        refine take_F (i := 4) (d := some 19) (v := ?_) (by kernel_rfl) (by kernel_rfl) rfl rfl (by kernel_rfl) (by kernel_rfl) (by kernel_rfl) (fun _ _ _ h => h) (Or.inl ⟨by rfl, ?_⟩) (by assumption) ?_
        rotate_left
        · (intro w hSw; (try dsimp only at hSw); go_simp; (try rw [if_neg (by omega)]); (try (with_reducible rfl)))
        simp only [Act.put, List.setIfInBounds_toArray, List.set_cons_zero, List.set_cons_succ]
        refine call_L (i := 7) (d := (some 22)) rfl rfl (by kernel_rfl) (fun Kq hKq => ?_)
        go_simp
        go_at_call 30
        refine (HB.out _ (Ht.out.below hacc5)).mono ?_; rintro e w6 ⟨rfl, hb6⟩
        have hS6 := four_kept hb6 hS5
        have hacc := hacc5.trans (hb6.mono hacc5.size)
        clear hacc5 hb6
        (try go_wp2_with fail)
        refine hKq.out _ _ (hS6) (fun hHeld => ?_)
        clear hKq Kq
        (try simp only [Act.put, List.setIfInBounds_toArray, List.set_cons_zero, List.set_cons_succ])
        refine take_F (i := 8) (d := some 23) (v := ?_) (by kernel_rfl) (by kernel_rfl) rfl rfl (by kernel_rfl) (by kernel_rfl) (by kernel_rfl) (fun _ _ _ h => h) (Or.inl ⟨by rfl, ?_⟩) (by assumption) ?_
        rotate_left
        · (intro w hSw; (try dsimp only at hSw); go_simp; (try rw [if_neg (by omega)]); (try (with_reducible rfl)))
        simp only [Act.put, List.setIfInBounds_toArray, List.set_cons_zero, List.set_cons_succ]
        refine take_F (i := 9) (d := some 24) (v := ?_) (by kernel_rfl) (by kernel_rfl) rfl rfl (by kernel_rfl) (by kernel_rfl) (by kernel_rfl) (fun _ _ _ h => h) (Or.inl ⟨by rfl, ?_⟩) (by assumption) ?_
        rotate_left
        · (intro w hSw; (try dsimp only at hSw); go_simp; (try rw [if_neg (by omega)]); (try (with_reducible rfl)))
        simp only [Act.put, List.setIfInBounds_toArray, List.set_cons_zero, List.set_cons_succ]
        refine take_F (i := 12) (d := some 27) (v := ?_) (by kernel_rfl) (by kernel_rfl) rfl rfl (by kernel_rfl) (by kernel_rfl) (by kernel_rfl) (fun _ _ _ h => h) (Or.inl ⟨by rfl, ?_⟩) (by assumption) ?_
        rotate_left
        · (intro w hSw; (try dsimp only at hSw); go_simp; (try rw [if_neg (by omega)]); (try (with_reducible rfl)))
        simp only [Act.put, List.setIfInBounds_toArray, List.set_cons_zero, List.set_cons_succ]
        refine take_F (i := 13) (d := some 28) (v := ?_) (by kernel_rfl) (by kernel_rfl) rfl rfl (by kernel_rfl) (by kernel_rfl) (by kernel_rfl) (fun _ _ _ h => h) (Or.inl ⟨by rfl, ?_⟩) (by assumption) ?_
        rotate_left
        · (intro w hSw; (try dsimp only at hSw); go_simp; (try rw [if_neg (by omega)]); (try (with_reducible rfl)))
        simp only [Act.put, List.setIfInBounds_toArray, List.set_cons_zero, List.set_cons_succ]
        refine take_F (i := 16) (d := some 31) (v := ?_) (by kernel_rfl) (by kernel_rfl) rfl rfl (by kernel_rfl) (by kernel_rfl) (by kernel_rfl) (fun _ _ _ h => h) (Or.inl ⟨by rfl, ?_⟩) (by assumption) ?_
        rotate_left
        · (intro w hSw; (try dsimp only at hSw); go_simp; (try rw [if_neg (by omega)]); (try (with_reducible rfl)))
        simp only [Act.put, List.setIfInBounds_toArray, List.set_cons_zero, List.set_cons_succ]
        refine take_F (i := 17) (d := some 32) (v := ?_) (by kernel_rfl) (by kernel_rfl) rfl rfl (by kernel_rfl) (by kernel_rfl) (by kernel_rfl) (fun _ _ _ h => h) (Or.inl ⟨by rfl, ?_⟩) (by assumption) ?_
        rotate_left
        · (intro w hSw; (try dsimp only at hSw); go_simp; (try rw [if_neg (by omega)]); (try (with_reducible rfl)))
        simp only [Act.put, List.setIfInBounds_toArray, List.set_cons_zero, List.set_cons_succ]
        refine take_F (i := 18) (d := some 33) (v := ?_) (by kernel_rfl) (by kernel_rfl) rfl rfl (by kernel_rfl) (by kernel_rfl) (by kernel_rfl) (fun _ _ _ h => h) (Or.inl ⟨by rfl, ?_⟩) (by assumption) ?_
        rotate_left
        · (intro w hSw; (try dsimp only at hSw); go_simp; (try rw [if_neg (by omega)]); (try (with_reducible rfl)))
        simp only [Act.put, List.setIfInBounds_toArray, List.set_cons_zero, List.set_cons_succ]
        refine take_F (i := 19) (d := some 3) (v := ?_) (by kernel_rfl) (by kernel_rfl) rfl rfl (by kernel_rfl) (by kernel_rfl) (by kernel_rfl) (fun _ _ _ h => h) (Or.inl ⟨by rfl, ?_⟩) (by assumption) ?_
        rotate_left
        · (intro w hSw; (try dsimp only at hSw); go_simp; (try rw [if_neg (by omega)]); (try (with_reducible rfl)))
        simp only [Act.put, List.setIfInBounds_toArray, List.set_cons_zero, List.set_cons_succ]
        refine done_L (by kernel_rfl) ?_ _
        refine NoPanic.normal ?_
        go_wp2_with fail
        go_roundw
        case rel => exact ⟨k + 1, by omega, by go_num, by rw [Hr.out, HT'.out], by rw [← HT'.out]; exact hT, hacc⟩
        case measure => simp [intOf]; omega
      · have hd : xs.take k = xs := List.take_of_length_le (by omega)
        rw [hd]
        clear hd
        have hlt' : (xs.length : Int) ≤ (k : Int) := by omega
        go_wp2_with fail
        go_ret
        rw [e0.out]; exact ⟨rfl, hbl⟩
end Go.Proofs.YtplpeeienpaaeaaDoor
