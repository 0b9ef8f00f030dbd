/- Merged texts: Dm15, Ab19, Ab20, Ab21, Ab27, Bd18. -/
import Derived.Test.YtemcdmjnokpldaaGLawBeads8
import Derived.Test.YtemcdmjnokpldaaGLawBeads7
import Derived.Test.YtemcdmjnokpldaaGLawBeads5
/- Drums: a text of points; lines of bytes. -/
namespace Go.Proofs.Ytemcdmjnokpldaa
open Go.RowKit Go.Joins

theorem infoBD : (Try.prog.info? 5).map (fun i => (i.zero, i.size, i.bytes)) = some (some (.int .u8 0), 1, 1) := by kernel_rfl
theorem wpList_strD {P : Program} {w : World} {ops : Array Oper} {rest : List Oper} {o : Oper} {a : Act} {Q : Exit → Act → World → Prop} (t u e : TypeId)
    (ht : P.underlying t = some (.slice e)) (hu : P.underlying u = some .string) (hinfo : (P.info? e).map (fun i => (i.zero, i.size, i.bytes)) = some (some (.int .u8 0), 1, 1))
    (sl x : Operand) (hgd : o.guard = none) (ho : o.op = .call { callee := .builtin .append, args := #[sl, x], argTypes := #[t, u] })
    (base : Nat) (v : Value) (n : Nat) (xs : List Value) (hs : a.eval sl = v) (hown : w.ownsRow base e 1 v n xs) (s : ByteArray) (hx : a.eval x = .string s)
    (h63 : n + s.size ≤ maxLen) (hbytes : n + s.size ≤ 140737488355328) (hbase : base ≤ w.heap.size)
    (h : ∀ v' w', w'.ownsRow base e 1 v' (n + s.size) (xs ++ Lib.strCells s) → w.grownBy w' v.ownBlock → wpList P ops Q rest (a.put o.dst v') w') :
    wpList P ops Q (o :: rest) a w := by
  obtain ⟨i, hi, hz, h2, h3⟩ := info_parts hinfo
  exact Lib.wpList_append_own_string w hgd sl x t u ho base e i ht hu hi hz h2 h3 v n xs hs hown s hx h63 hbytes hbase fun v' w' p q _ => h v' w' p q
theorem own_strD {w : World} {base : Nat} {e : TypeId} {o : Value} {T s R : ByteArray} (hR : T ++ s = R) (h : w.ownsRow base e 1 o (T.size + s.size) (T.data.toList.map byV ++ Lib.strCells s)) : w.ownsRow base e 1 o R.size (R.data.toList.map byV) := by
  subst hR
  rw [ByteArray.size_append]
  have e1 : (T ++ s).data.toList.map byV = T.data.toList.map byV ++ Lib.strCells s := by
    rw [ByteArray.data_append, Array.toList_append, List.map_append]; rfl
  rw [e1]; exact h

def dots (n : Nat) : ByteArray := ⟨(List.replicate n (46 : UInt8)).toArray⟩
theorem dots_size (n : Nat) : (dots n).size = n := by unfold dots; show (List.replicate n (46 : UInt8)).toArray.size = n; simp
theorem dots_succ (n : Nat) : dots n ++ ⟨#[46]⟩ = dots (n + 1) := by
  unfold dots
  apply ByteArray.ext
  rw [ByteArray.data_append]
  apply Array.toList_inj.mp
  rw [Array.toList_append, List.replicate_succ']
/-- a block of bytes that may bear a mark behind them -/
structure BkF (w : World) (g n : Nat) (h : Nat → UInt8) : Prop where
  ex : ∃ (cs : Array Value) (fr : Nat × Nat), w.heap[g]? = some (.cells cs 5 fr) ∧ n ≤ cs.size ∧ (∀ i, i < n → cs[i]? = some (byV (h i))) ∧ ∀ i, i < n → (decide (fr.1 ≤ i) && decide (i < fr.2)) = false
theorem BkF.cell {w : World} {g n : Nat} {h : Nat → UInt8} (k : BkF w g n h) (i : Nat) (hi : i < n) : w.cell? ⟨g, i, none⟩ = some (byV (h i)) := by
  obtain ⟨cs, fr, h1, h2, h3, h4⟩ := k.ex
  rw [cell_of_row w g i cs _ fr h1]; exact h3 i hi
theorem BkF.free {w : World} {g n : Nat} {h : Nat → UInt8} (k : BkF w g n h) (i : Nat) (hi : i < n) : w.frozen? ⟨g, i, none⟩ = false := by
  obtain ⟨cs, fr, h1, h2, h3, h4⟩ := k.ex
  unfold World.frozen?
  rw [h1]
  exact h4 i hi
theorem BkF.lt {w : World} {g n : Nat} {h : Nat → UInt8} (k : BkF w g n h) : g < w.heap.size := by
  obtain ⟨cs, fr, h1, _⟩ := k.ex
  exact blk_ltN h1
theorem BkF.below {w w' : World} {g n : Nat} {h : Nat → UInt8} (k : BkF w g n h) (hb : Below w.heap.size w w') : BkF w' g n h := by
  have hl := k.lt
  obtain ⟨cs, fr, h1, h2⟩ := k.ex
  exact ⟨cs, fr, (hb.block g hl).trans h1, h2⟩
theorem BkF.set {w : World} {g n : Nat} {h : Nat → UInt8} (k : BkF w g n h) (i : Nat) (hi : i < n) (c : UInt8) : BkF (w.setCell ⟨g, i, none⟩ (byV c)) g n (fun x => if x = i then c else h x) := by
  obtain ⟨cs, fr, h1, h2, h3, h4⟩ := k.ex
  refine ⟨cs.setIfInBounds i (byV c), fr, ?_, by simpa using h2, fun j hj => ?_, h4⟩
  · show (w.heap.modify g _)[g]? = _
    rw [Array.getElem?_modify]
    simp [h1]
  · rw [Array.getElem?_setIfInBounds]
    by_cases e : j = i
    · subst e
      simp
      omega
    · rw [if_neg (fun h => e h.symm), if_neg e]; exact h3 j hj
theorem BkF.text {w : World} {g n cap : Nat} {h : Nat → UInt8} (k : BkF w g n h) : (convert 22 9 (.slice (some ⟨g, 0, none⟩) n cap)).run Try.prog w = .ok (.string ⟨((List.range n).map h).toArray⟩) w := by
  have := run_convert_bytes_back (P := Try.prog) w 22 9 5 ⟨g, 0, none⟩ cap ((List.range n).map h) Try.underlying22 Try.underlying5 Try.underlying9 (fun j hj => by
    have hj' : j < n := by simpa using hj
    rw [show (⟨g, 0, none⟩ : Addr).add j = ⟨g, j, none⟩ by unfold Addr.add; split <;> simp_all]
    rw [k.cell j hj']
    simp [byV])
  simpa using this
end Go.Proofs.Ytemcdmjnokpldaa
/- Abaci: lines of a picture, impl. -/
namespace Go.Proofs.Ytemcdmjnokpldaa
open Go.RowKit Go.Joins

/-- the bytes of a line, from the last rod down to rod k -/
def lineL (f : Int × Int → UInt8) (rs : List (Int × Int)) (k : Nat) : List UInt8 := (rs.drop k).reverse.map f
def signC (b : Bool) : UInt8 := if b then 124 else 111
theorem lineL_step {f : Int × Int → UInt8} {rs : List (Int × Int)} {k : Nat} (hk : k < rs.length) : lineL f rs k = lineL f rs (k + 1) ++ [f rs[k]] := by
  unfold lineL
  rw [List.drop_eq_getElem_cons hk, List.reverse_cons, List.map_append]
  rfl
theorem lineL_len (f : Int × Int → UInt8) (rs : List (Int × Int)) (k : Nat) : (lineL f rs k).length = rs.length - k := by unfold lineL; simp
theorem lineL_end (f : Int × Int → UInt8) (rs : List (Int × Int)) : lineL f rs rs.length = [] := by unfold lineL; simp
theorem own_byte {w : World} {base n m : Nat} {v : Value} {l l2 : List UInt8} {c : UInt8} {z : Int} (hz : (c.toNat : Int) = z) (hl : l2 = l ++ [c]) (hm : m = n + 1) (h : w.ownsRow base 5 1 v (n + 1) (l.map byV ++ [.int .u8 z])) : w.ownsRow base 5 1 v m (l2.map byV) := by
  subst hl; subst hm; subst hz
  rw [List.map_append]
  exact h
theorem one_atA {w : World} {g : Nat} {a : Value} {t : TypeId} (h : w.heap[g]? = some (.cells #[a] t (0, 0))) : w.cell? ⟨g, 0, none⟩ = some a := by
  rw [cell_of_row w g 0 _ _ _ h]; rfl
/-- the function value f, called with a rod, answers p -/
structure AskR (W : World) (rs : List (Int × Int)) (fid : FuncId) (cap : Array Value) (p : Int × Int → Bool) : Prop where
  run : ∀ args w, Sem.run Try.prog (callFunc fid args) w = .ok (.enter fid args) w
  call : ∀ x ∈ rs, ∀ wr, Below W.heap.size W wr → Calls Try.prog fid (#[aggRd x] ++ cap) wr fun e w' => e = .returned (.bool (p x)) ∧ Below wr.heap.size wr w'
theorem enterA {f : FuncId} {fn : Func} {c : Code} (hf : Try.prog.funcs[f]? = some fn) (hn : (fn.name == "runtime.NumGoroutine") = false) (hb : fn.body = some c) (args : Array Value) (w : World) : Sem.run Try.prog (callFunc f args) w = .ok (.enter f args) w := by
  have h1 : fn.name ≠ "runtime.NumGoroutine" := by simpa using hn
  simp [callFunc, hf, h1, hb]
def bars (n : Nat) : List UInt8 := List.replicate n 61
theorem bars_succ (n : Nat) : bars (n + 1) = bars n ++ [61] := List.replicate_succ'
end Go.Proofs.Ytemcdmjnokpldaa
/- Abaci: AbacusPicture, impl. -/
namespace Go.Proofs.Ytemcdmjnokpldaa
open Go.RowKit Go.Joins

theorem infoStrA : (Try.prog.info? 9).map (fun i => (i.zero, i.size, i.bytes)) = some (some (.string ⟨#[]⟩), 1, 16) := by kernel_rfl
def picF (a : Ab) (y : Nat) (x : Int × Int) : UInt8 := if (y : Int) ≤ a.u then signC ((y : Int) == a.u - x.1) else if (y : Int) = a.u + 1 then 61 else signC ((y : Int) - a.u - 2 == x.2)
def picL (a : Ab) (y : Nat) : ByteArray := ⟨(lineL (picF a y) a.rods 0).toArray⟩
def picA (a : Ab) : List ByteArray := if okAb a then (List.range (a.u + a.l + 3).toNat).map (picL a) else []
abbrev strC (L : Nat → ByteArray) (n : Nat) : List Value := ((List.range n).map L).map Value.string
theorem strC_succ {w : World} {base n : Nat} {v : Value} {L : Nat → ByteArray} {s : ByteArray} (hs : s = L n) (h : w.ownsRow base 9 1 v (n + 1) (strC L n ++ [.string s])) : w.ownsRow base 9 1 v (n + 1) (strC L (n + 1)) := by
  have e : strC L (n + 1) = strC L n ++ [.string s] := by unfold strC; rw [hs, List.range_succ, List.map_append, List.map_append]; rfl
  rw [e]; exact h
/-- a picture and a code -/
def RetPi (W : World) (a : Ab) (e : Ending) (w' : World) : Prop := ∃ v, e = .returned (.tuple #[v, .int .i64 (vlC a)]) ∧ w'.ownsRow W.heap.size 9 1 v (picA a).length ((picA a).map Value.string) ∧ Below W.heap.size W w'
theorem picU {a : Ab} {y : Nat} (h : (y : Int) ≤ a.u) : picL a y = ⟨(lineL (fun x => signC ((y : Int) == a.u - x.1)) a.rods 0).toArray⟩ := by
  have : picF a y = fun x => signC ((y : Int) == a.u - x.1) := by funext x; unfold picF; rw [if_pos h]
  unfold picL; rw [this]
theorem picM {a : Ab} {y : Nat} (h : (y : Int) = a.u + 1) : picL a y = ⟨(bars a.rods.length).toArray⟩ := by
  have : picF a y = fun _ => 61 := by funext x; unfold picF; rw [if_neg (by omega), if_pos h]
  unfold picL lineL bars
  rw [this, List.drop_zero, List.map_const', List.length_reverse]
theorem picD {a : Ab} {y i : Nat} (h0 : 0 ≤ a.u) (h : (y : Int) = a.u + 2 + i) : picL a y = ⟨(lineL (fun x => signC ((i : Int) == x.2)) a.rods 0).toArray⟩ := by
  have : picF a y = fun x => signC ((i : Int) == x.2) := by
    funext x; unfold picF; rw [if_neg (by omega), if_neg (by omega), show (y : Int) - a.u - 2 = i by omega]
  unfold picL; rw [this]
end Go.Proofs.Ytemcdmjnokpldaa
/- Abaci: AbacusPicture, spec. -/
namespace Go.Proofs.Ytemcdmjnokpldaa
open Go.RowKit Go.Joins

theorem picF_cases (a : Ab) (y : Nat) (x : Int × Int) : ((y : Int) ≤ a.u ∧ picF a y x = signC ((y : Int) == a.u - x.1)) ∨ (a.u < (y : Int) ∧ (y : Int) = a.u + 1 ∧ picF a y x = 61) ∨ (a.u < (y : Int) ∧ (y : Int) ≠ a.u + 1 ∧ picF a y x = signC ((y : Int) - a.u - 2 == x.2)) := by
  unfold picF
  by_cases h : (y : Int) ≤ a.u
  · exact .inl ⟨h, if_pos h⟩
  · rw [if_neg h]
    by_cases h2 : (y : Int) = a.u + 1
    · exact .inr (.inl ⟨by omega, h2, if_pos h2⟩)
    · exact .inr (.inr ⟨by omega, h2, if_neg h2⟩)
end Go.Proofs.Ytemcdmjnokpldaa
/- The law FnAbaci: the walk. -/
namespace Go.Proofs.Ytemcdmjnokpldaa
open Go.RowKit Go.Joins
theorem rdNA {w w' : World} {v : Value} {n sz : Nat} {cs : List Value} (h : Rd w w.heap.size v n sz cs) (hb : Below w.heap.size w w') : Rd w' w'.heap.size v n sz cs := (h.below hb).more hb.size
/-- a block of four cells -/
structure Q4 (w : World) (q : Nat) (a b c d : Value) : Prop where
  lt : q < w.heap.size
  c : cell4 w q a b c d
theorem Q4.below {w w' : World} {q : Nat} {a b c d : Value} (h : Q4 w q a b c d) (hb : Below w.heap.size w w') : Q4 w' q a b c d :=
  ⟨Nat.lt_of_lt_of_le h.lt hb.size, (hb.cell (p := ⟨q, 0, none⟩) h.lt).trans h.c.1, (hb.cell (p := ⟨q, 1, none⟩) h.lt).trans h.c.2.1, (hb.cell (p := ⟨q, 2, none⟩) h.lt).trans h.c.2.2.1, (hb.cell (p := ⟨q, 3, none⟩) h.lt).trans h.c.2.2.2⟩
theorem mkQ4 (w : World) (u l n : Int) (v : Value) : Q4 (w.alloc (.cells #[.int .i64 u, .int .i64 l, .int .i64 n, v] 26)) w.heap.size (.int .i64 u) (.int .i64 l) (.int .i64 n) v :=
  ⟨by simp, four_at (heap_alloc_new w (.cells #[.int .i64 u, .int .i64 l, .int .i64 n, v] 26))⟩
theorem Q4.of {w : World} {q : Nat} {u l n : Int} {v : Value} {t : TypeId} (h : w.heap[q]? = some (.cells #[.int .i64 u, .int .i64 l, .int .i64 n, v] t (0, 0))) : Q4 w q (.int .i64 u) (.int .i64 l) (.int .i64 n) v := ⟨blk_ltN h, four_at h⟩
theorem sameAb_self (a : Ab) : sameAb a a = true := by unfold sameAb sameB; simp
theorem SameAbS_self (B : Nat) (u l w : Int) (v v' : Value) (rs : List (Int × Int)) (W : World) (hr : Rd W B v rs.length 2 (rodsC rs)) (hr' : Rd W B v' rs.length 2 (rodsC rs)) (hB : B ≤ W.heap.size) (hm : rs.length ≤ 1048576) : Calls Try.prog 20 #[aggAb u l w v, aggAb u l w v'] W fun e w'' => e = .returned (.bool true) ∧ Below W.heap.size W w'' := by
  have := SameAbS_any B u l w u l w v v' rs rs W hr hr' hB hm hm
  rwa [sameAb_self] at this
theorem plainA_len (a : Ab) (v : Int) : (plainA a v).1.rods.length ≤ a.rods.length := by
  unfold plainA
  split
  · show (plainRs a.u a.w a.rods.length v).length ≤ _
    rw [plainRs_len]; exact Nat.le_refl _
  · exact Nat.zero_le _
theorem setA_len (a : Ab) (v : Int) : (setA a v).1.rods.length ≤ a.rods.length := by
  unfold setA
  split
  · split
    · exact plainA_len a v
    · exact Nat.zero_le _
  · exact Nat.zero_le _
theorem plA_len (a : Ab) : (plA a).1.rods.length ≤ a.rods.length := by
  unfold plA
  split
  · exact plainA_len a _
  · exact Nat.zero_le _
theorem picA_len (a : Ab) : (picA a).length ≤ 100 := by
  unfold picA
  by_cases h : okAb a = true
  · rw [if_pos h, List.length_map, List.length_range]
    have := kind_bd (okAb_and h).1
    omega
  · rw [if_neg h]; simp
end Go.Proofs.Ytemcdmjnokpldaa
/- The law FnBeads: the walk. -/
namespace Go.Proofs.Ytemcdmjnokpldaa
open Go.RowKit Go.Joins
/-- a block of three cells -/
structure Q3 (w : World) (q : Nat) (a b c : Value) : Prop where
  lt : q < w.heap.size
  c : w.cell? ⟨q, 0, none⟩ = some a ∧ w.cell? ⟨q, 1, none⟩ = some b ∧ w.cell? ⟨q, 2, none⟩ = some c
theorem Q3.below {w w' : World} {q : Nat} {a b c : Value} (h : Q3 w q a b c) (hb : Below w.heap.size w w') : Q3 w' q a b c :=
  ⟨Nat.lt_of_lt_of_le h.lt hb.size, (hb.cell (p := ⟨q, 0, none⟩) h.lt).trans h.c.1, (hb.cell (p := ⟨q, 1, none⟩) h.lt).trans h.c.2.1, (hb.cell (p := ⟨q, 2, none⟩) h.lt).trans h.c.2.2⟩
theorem Q3.of {w : World} {q : Nat} {a b c : Value} {t : TypeId} (h : w.heap[q]? = some (.cells #[a, b, c] t (0, 0))) : Q3 w q a b c := ⟨blk_ltN h, (blk3 h).1⟩
theorem runM_len (a : Ab) : ∀ (ms : List Mv) (cur : List (Int × Int)), (runM a cur ms).1.length = cur.length
  | [], cur => rfl
  | m :: ms, cur => by
    unfold runM
    split
    · dsimp only
      rw [runM_len a ms]; unfold moveR; rw [List.length_set]
    · rfl
theorem rpA_len (a : Ab) (ms : List Mv) : (rpA a ms).1.rods.length ≤ a.rods.length := by
  unfold rpA
  split
  · show ((runM a a.rods ms).1).length ≤ _
    rw [runM_len]; exact Nat.le_refl _
  · exact Nat.zero_le _
theorem mvV_len (a : Ab) (m : Mv) : (mvV a m).1.rods.length ≤ a.rods.length := by
  unfold mvV
  split
  · exact mvA_len a m
  · exact Nat.zero_le _
theorem vl_bd {a : Ab} (h : isPl a = true) : 0 ≤ vlV a ∧ vlV a ≤ 1000000000000 := by
  have hok := (allPl_of h).1
  have e : vlV a = valR a.w a.rods := by unfold vlV; rw [hok]; rfl
  have hb := val_bd10 hok 0
  rw [List.drop_zero] at hb
  rw [e]
  exact ⟨hb.1, by omega⟩
set_option maxRecDepth 100000 in
set_option maxHeartbeats 25600000 in
theorem walkFnBeads {W : World} (v : Value) (bs : List UInt8) (h : Rd W W.heap.size v bs.length 1 (bs.map byV)) (_hl : bs.length ≤ maxLen) :
    Calls Try.prog 3 #[v] W fun e w' => e = .returned (.bool true) ∧ Below W.heap.size W w' := by
  have HB := Lib.hid (Below.refl W.heap.size W)
  have HC := Lib.hid h
  have HG := Lib.hid (f6big_D _ _ v _ W h)
  obtain ⟨_, A0, c0, rfl, _⟩ := h
  by_cases hbig : 4096 < bs.length
  · rw [decide_eq_true hbig] at HG
    clear hbig
    go_enter Try.func3, Try.ntmps3
    go_wp2_with fail
    refine HG.out.mono ?_; rintro e w1 ⟨rfl, rfl⟩
    go_wp2_with fail
    go_ret
    exact ⟨rfl, HB.out⟩
  rw [decide_eq_false hbig] at HG
  clear hbig
  go_enter Try.func3, Try.ntmps3
  go_wp2_with fail
  refine HG.out.mono ?_; rintro e w1 ⟨rfl, rfl⟩
  clear HG
  go_wp2_with fail
  refine (drawAO_any _ _ bs _ (HC.out.below HB.out) HB.out.size).mono ?_; rintro e wn ⟨⟨u3, l3, w3, rs3⟩, v3, x4, rfl, hl3, hr3, hb⟩
  have R30 := Lib.hid (hr3)
  have HB' := Lib.hid (HB.out.trans (hb.mono HB.out.size)); clear HB; have HB := HB'; clear HB'
  have R3 := R30; clear R30
  obtain ⟨_, A3, c3, rfl, _⟩ := hr3
  clear hb
  dsimp only at hl3
  have HAI := Lib.hid (fun wx hx => AddI_any wx.heap.size u3 l3 w3 x4 (.slice A3 rs3.length c3) rs3 wx hx (Nat.le_refl _) (by omega))
  have HAS := Lib.hid (fun wx hx => AddS_any wx.heap.size u3 l3 w3 x4 (.slice A3 rs3.length c3) rs3 wx hx (Nat.le_refl _) (by omega))
  have HZA := Lib.hid (fun h => addV_ok (a := ⟨u3, l3, w3, rs3⟩) (v := x4) h)
  obtain ⟨hl5, hl6⟩ := addV_len ⟨u3, l3, w3, rs3⟩ x4
  generalize addV ⟨u3, l3, w3, rs3⟩ x4 = S at *
  obtain ⟨⟨u5, l5, w5, rs5⟩, ms6, C7⟩ := S
  dsimp only at hl5 hl6 HZA hl3
  unfold RetAd at HAI HAS
  dsimp only at HAI HAS
  go_upto_region 4 with (fail)
  have hbw := (Below.refl wn.heap.size wn).alloc (Nat.le_refl _) (.cells #[.int .i64 u3, .int .i64 l3, .int .i64 w3, .slice A3 rs3.length c3] 26)
  have HQ30 := Lib.hid (mkQ4 wn u3 l3 w3 (.slice A3 rs3.length c3))
  have R3' := Lib.hid (rdNA R3.out hbw)
  clear R3; have R3 := R3'; clear R3'
  have HB' := Lib.hid (HB.out.trans (hbw.mono HB.out.size)); clear HB; have HB := HB'; clear HB'
  have HQ3 := HQ30; clear HQ30
  clear hbw
  generalize hq3 : wn.heap.size = q3 at *
  generalize wn.alloc (.cells #[.int .i64 u3, .int .i64 l3, .int .i64 w3, .slice A3 rs3.length c3] 26) = wq at *
  clear hq3
  obtain ⟨p0, p1, p2, p3⟩ := HQ3.out.c
  go_wp2_with fail
  refine (HAI.out _ R3.out).mono ?_; rintro e wn ⟨v5, v6, rfl, ho, hm, hb⟩
  have R50 := Lib.hid (Rd.of_own ho)
  have R60 := Lib.hid (Rd.of_own hm)
  have R3' := Lib.hid (rdNA R3.out hb)
  clear R3; have R3 := R3'; clear R3'
  have HQ3' := Lib.hid (HQ3.out.below hb); clear HQ3; have HQ3 := HQ3'; clear HQ3'
  have HB' := Lib.hid (HB.out.trans (hb.mono HB.out.size)); clear HB; have HB := HB'; clear HB'
  have R5 := R50; clear R50
  have R6 := R60; clear R60
  obtain ⟨A5, c5, rfl⟩ := own_sl ho
  obtain ⟨A6, c6, rfl⟩ := own_sl hm
  clear ho hm hb HAI
  clear p0 p1 p2 p3
  go_upto_region 5 with (fail)
  have hbw := (Below.refl wn.heap.size wn).alloc (Nat.le_refl _) (.cells #[.int .i64 u5, .int .i64 l5, .int .i64 w5, .slice A5 rs5.length c5] 26)
  have HQ50 := Lib.hid (mkQ4 wn u5 l5 w5 (.slice A5 rs5.length c5))
  have R3' := Lib.hid (rdNA R3.out hbw)
  have R5' := Lib.hid (rdNA R5.out hbw)
  have R6' := Lib.hid (rdNA R6.out hbw)
  clear R3; have R3 := R3'; clear R3'
  clear R5; have R5 := R5'; clear R5'
  clear R6; have R6 := R6'; clear R6'
  have HQ3' := Lib.hid (HQ3.out.below hbw); clear HQ3; have HQ3 := HQ3'; clear HQ3'
  have HB' := Lib.hid (HB.out.trans (hbw.mono HB.out.size)); clear HB; have HB := HB'; clear HB'
  have HQ5 := HQ50; clear HQ50
  clear hbw
  generalize hq5 : wn.heap.size = q5 at *
  generalize wn.alloc (.cells #[.int .i64 u5, .int .i64 l5, .int .i64 w5, .slice A5 rs5.length c5] 26) = wq at *
  clear hq5
  obtain ⟨p0, p1, p2, p3⟩ := HQ3.out.c
  go_wp2_with fail
  refine (HAS.out _ R3.out).mono ?_; rintro e wn ⟨v8, v9, rfl, ho, hm, hb⟩
  have R80 := Lib.hid (Rd.of_own ho)
  have R90 := Lib.hid (Rd.of_own hm)
  have R3' := Lib.hid (rdNA R3.out hb)
  have R5' := Lib.hid (rdNA R5.out hb)
  have R6' := Lib.hid (rdNA R6.out hb)
  clear R3; have R3 := R3'; clear R3'
  clear R5; have R5 := R5'; clear R5'
  clear R6; have R6 := R6'; clear R6'
  have HQ3' := Lib.hid (HQ3.out.below hb); clear HQ3; have HQ3 := HQ3'; clear HQ3'
  have HQ5' := Lib.hid (HQ5.out.below hb); clear HQ5; have HQ5 := HQ5'; clear HQ5'
  have HB' := Lib.hid (HB.out.trans (hb.mono HB.out.size)); clear HB; have HB := HB'; clear HB'
  have R8 := R80; clear R80
  have R9 := R90; clear R90
  obtain ⟨A8, c8, rfl⟩ := own_sl ho
  obtain ⟨A9, c9, rfl⟩ := own_sl hm
  clear ho hm hb HAS
  clear p0 p1 p2 p3
  go_upto_region 6 with (fail)
  have hbw := (Below.refl wn.heap.size wn).alloc (Nat.le_refl _) (.cells #[.int .i64 u5, .int .i64 l5, .int .i64 w5, .slice A8 rs5.length c8] 26)
  have HQ80 := Lib.hid (mkQ4 wn u5 l5 w5 (.slice A8 rs5.length c8))
  have R3' := Lib.hid (rdNA R3.out hbw)
  have R5' := Lib.hid (rdNA R5.out hbw)
  have R6' := Lib.hid (rdNA R6.out hbw)
  have R8' := Lib.hid (rdNA R8.out hbw)
  have R9' := Lib.hid (rdNA R9.out hbw)
  clear R3; have R3 := R3'; clear R3'
  clear R5; have R5 := R5'; clear R5'
  clear R6; have R6 := R6'; clear R6'
  clear R8; have R8 := R8'; clear R8'
  clear R9; have R9 := R9'; clear R9'
  have HQ3' := Lib.hid (HQ3.out.below hbw); clear HQ3; have HQ3 := HQ3'; clear HQ3'
  have HQ5' := Lib.hid (HQ5.out.below hbw); clear HQ5; have HQ5 := HQ5'; clear HQ5'
  have HB' := Lib.hid (HB.out.trans (hbw.mono HB.out.size)); clear HB; have HB := HB'; clear HB'
  have HQ8 := HQ80; clear HQ80
  clear hbw
  generalize hq8 : wn.heap.size = q8 at *
  generalize wn.alloc (.cells #[.int .i64 u5, .int .i64 l5, .int .i64 w5, .slice A8 rs5.length c8] 26) = wq at *
  clear hq8
  go_wp2_with fail
  refine (drawRB_any _ _ bs _ (HC.out.below HB.out) HB.out.size).mono ?_; rintro e wn ⟨⟨u11, l11, w11, rs11⟩, v11, v12, ms12, rfl, hl11, hl12, hr11, hr12, hb⟩
  have R110 := Lib.hid (hr11)
  have R120 := Lib.hid (hr12)
  have R3' := Lib.hid (rdNA R3.out hb)
  have R5' := Lib.hid (rdNA R5.out hb)
  have R6' := Lib.hid (rdNA R6.out hb)
  have R8' := Lib.hid (rdNA R8.out hb)
  have R9' := Lib.hid (rdNA R9.out hb)
  clear R3; have R3 := R3'; clear R3'
  clear R5; have R5 := R5'; clear R5'
  clear R6; have R6 := R6'; clear R6'
  clear R8; have R8 := R8'; clear R8'
  clear R9; have R9 := R9'; clear R9'
  have HQ3' := Lib.hid (HQ3.out.below hb); clear HQ3; have HQ3 := HQ3'; clear HQ3'
  have HQ5' := Lib.hid (HQ5.out.below hb); clear HQ5; have HQ5 := HQ5'; clear HQ5'
  have HQ8' := Lib.hid (HQ8.out.below hb); clear HQ8; have HQ8 := HQ8'; clear HQ8'
  have HB' := Lib.hid (HB.out.trans (hb.mono HB.out.size)); clear HB; have HB := HB'; clear HB'
  have R11 := R110; clear R110
  have R12 := R120; clear R120
  obtain ⟨_, A11, c11, rfl, _⟩ := hr11
  obtain ⟨_, A12, c12, rfl, _⟩ := hr12
  clear hb
  dsimp only at hl11
  have HRI := Lib.hid (fun wx hx hy => ReplayI_any wx.heap.size u11 l11 w11 (.slice A11 rs11.length c11) (.slice A12 ms12.length c12) rs11 ms12 wx hx hy (Nat.le_refl _) (by omega) (by omega))
  have HRS := Lib.hid (fun wx hx hy => ReplayS_any wx.heap.size u11 l11 w11 (.slice A11 rs11.length c11) (.slice A12 ms12.length c12) rs11 ms12 wx hx hy (Nat.le_refl _) (by omega) (by omega))
  have hl13 := rpA_len ⟨u11, l11, w11, rs11⟩ ms12
  generalize rpA ⟨u11, l11, w11, rs11⟩ ms12 = S2 at *
  obtain ⟨⟨u13, l13, w13, rs13⟩, N14, C15⟩ := S2
  dsimp only at hl13
  unfold RetRp at HRI HRS
  dsimp only at HRI HRS
  go_upto_region 7 with (fail)
  have hbw := (Below.refl wn.heap.size wn).alloc (Nat.le_refl _) (.cells #[.int .i64 u11, .int .i64 l11, .int .i64 w11, .slice A11 rs11.length c11] 26)
  have HQ110 := Lib.hid (mkQ4 wn u11 l11 w11 (.slice A11 rs11.length c11))
  have R3' := Lib.hid (rdNA R3.out hbw)
  have R5' := Lib.hid (rdNA R5.out hbw)
  have R6' := Lib.hid (rdNA R6.out hbw)
  have R8' := Lib.hid (rdNA R8.out hbw)
  have R9' := Lib.hid (rdNA R9.out hbw)
  have R11' := Lib.hid (rdNA R11.out hbw)
  have R12' := Lib.hid (rdNA R12.out hbw)
  clear R3; have R3 := R3'; clear R3'
  clear R5; have R5 := R5'; clear R5'
  clear R6; have R6 := R6'; clear R6'
  clear R8; have R8 := R8'; clear R8'
  clear R9; have R9 := R9'; clear R9'
  clear R11; have R11 := R11'; clear R11'
  clear R12; have R12 := R12'; clear R12'
  have HQ3' := Lib.hid (HQ3.out.below hbw); clear HQ3; have HQ3 := HQ3'; clear HQ3'
  have HQ5' := Lib.hid (HQ5.out.below hbw); clear HQ5; have HQ5 := HQ5'; clear HQ5'
  have HQ8' := Lib.hid (HQ8.out.below hbw); clear HQ8; have HQ8 := HQ8'; clear HQ8'
  have HB' := Lib.hid (HB.out.trans (hbw.mono HB.out.size)); clear HB; have HB := HB'; clear HB'
  have HQ11 := HQ110; clear HQ110
  clear hbw
  generalize hq11 : wn.heap.size = q11 at *
  generalize wn.alloc (.cells #[.int .i64 u11, .int .i64 l11, .int .i64 w11, .slice A11 rs11.length c11] 26) = wq at *
  clear hq11
  obtain ⟨p0, p1, p2, p3⟩ := HQ11.out.c
  go_wp2_with fail
  refine (HRI.out _ R11.out R12.out).mono ?_; rintro e wn ⟨v13, rfl, ho, hb⟩
  have R130 := Lib.hid (Rd.of_own ho)
  have R3' := Lib.hid (rdNA R3.out hb)
  have R5' := Lib.hid (rdNA R5.out hb)
  have R6' := Lib.hid (rdNA R6.out hb)
  have R8' := Lib.hid (rdNA R8.out hb)
  have R9' := Lib.hid (rdNA R9.out hb)
  have R11' := Lib.hid (rdNA R11.out hb)
  have R12' := Lib.hid (rdNA R12.out hb)
  clear R3; have R3 := R3'; clear R3'
  clear R5; have R5 := R5'; clear R5'
  clear R6; have R6 := R6'; clear R6'
  clear R8; have R8 := R8'; clear R8'
  clear R9; have R9 := R9'; clear R9'
  clear R11; have R11 := R11'; clear R11'
  clear R12; have R12 := R12'; clear R12'
  have HQ3' := Lib.hid (HQ3.out.below hb); clear HQ3; have HQ3 := HQ3'; clear HQ3'
  have HQ5' := Lib.hid (HQ5.out.below hb); clear HQ5; have HQ5 := HQ5'; clear HQ5'
  have HQ8' := Lib.hid (HQ8.out.below hb); clear HQ8; have HQ8 := HQ8'; clear HQ8'
  have HQ11' := Lib.hid (HQ11.out.below hb); clear HQ11; have HQ11 := HQ11'; clear HQ11'
  have HB' := Lib.hid (HB.out.trans (hb.mono HB.out.size)); clear HB; have HB := HB'; clear HB'
  have R13 := R130; clear R130
  obtain ⟨A13, c13, rfl⟩ := own_sl ho
  clear ho hb HRI
  clear p0 p1 p2 p3
  go_upto_region 8 with (fail)
  have hbw := (Below.refl wn.heap.size wn).alloc (Nat.le_refl _) (.cells #[.int .i64 u13, .int .i64 l13, .int .i64 w13, .slice A13 rs13.length c13] 26)
  have HQ130 := Lib.hid (mkQ4 wn u13 l13 w13 (.slice A13 rs13.length c13))
  have R3' := Lib.hid (rdNA R3.out hbw)
  have R5' := Lib.hid (rdNA R5.out hbw)
  have R6' := Lib.hid (rdNA R6.out hbw)
  have R8' := Lib.hid (rdNA R8.out hbw)
  have R9' := Lib.hid (rdNA R9.out hbw)
  have R11' := Lib.hid (rdNA R11.out hbw)
  have R12' := Lib.hid (rdNA R12.out hbw)
  have R13' := Lib.hid (rdNA R13.out hbw)
  clear R3; have R3 := R3'; clear R3'
  clear R5; have R5 := R5'; clear R5'
  clear R6; have R6 := R6'; clear R6'
  clear R8; have R8 := R8'; clear R8'
  clear R9; have R9 := R9'; clear R9'
  clear R11; have R11 := R11'; clear R11'
  clear R12; have R12 := R12'; clear R12'
  clear R13; have R13 := R13'; clear R13'
  have HQ3' := Lib.hid (HQ3.out.below hbw); clear HQ3; have HQ3 := HQ3'; clear HQ3'
  have HQ5' := Lib.hid (HQ5.out.below hbw); clear HQ5; have HQ5 := HQ5'; clear HQ5'
  have HQ8' := Lib.hid (HQ8.out.below hbw); clear HQ8; have HQ8 := HQ8'; clear HQ8'
  have HQ11' := Lib.hid (HQ11.out.below hbw); clear HQ11; have HQ11 := HQ11'; clear HQ11'
  have HB' := Lib.hid (HB.out.trans (hbw.mono HB.out.size)); clear HB; have HB := HB'; clear HB'
  have HQ13 := HQ130; clear HQ130
  clear hbw
  generalize hq13 : wn.heap.size = q13 at *
  generalize wn.alloc (.cells #[.int .i64 u13, .int .i64 l13, .int .i64 w13, .slice A13 rs13.length c13] 26) = wq at *
  clear hq13
  obtain ⟨p0, p1, p2, p3⟩ := HQ11.out.c
  go_wp2_with fail
  refine (HRS.out _ R11.out R12.out).mono ?_; rintro e wn ⟨v16, rfl, ho, hb⟩
  have R160 := Lib.hid (Rd.of_own ho)
  have R3' := Lib.hid (rdNA R3.out hb)
  have R5' := Lib.hid (rdNA R5.out hb)
  have R6' := Lib.hid (rdNA R6.out hb)
  have R8' := Lib.hid (rdNA R8.out hb)
  have R9' := Lib.hid (rdNA R9.out hb)
  have R11' := Lib.hid (rdNA R11.out hb)
  have R12' := Lib.hid (rdNA R12.out hb)
  have R13' := Lib.hid (rdNA R13.out hb)
  clear R3; have R3 := R3'; clear R3'
  clear R5; have R5 := R5'; clear R5'
  clear R6; have R6 := R6'; clear R6'
  clear R8; have R8 := R8'; clear R8'
  clear R9; have R9 := R9'; clear R9'
  clear R11; have R11 := R11'; clear R11'
  clear R12; have R12 := R12'; clear R12'
  clear R13; have R13 := R13'; clear R13'
  have HQ3' := Lib.hid (HQ3.out.below hb); clear HQ3; have HQ3 := HQ3'; clear HQ3'
  have HQ5' := Lib.hid (HQ5.out.below hb); clear HQ5; have HQ5 := HQ5'; clear HQ5'
  have HQ8' := Lib.hid (HQ8.out.below hb); clear HQ8; have HQ8 := HQ8'; clear HQ8'
  have HQ11' := Lib.hid (HQ11.out.below hb); clear HQ11; have HQ11 := HQ11'; clear HQ11'
  have HQ13' := Lib.hid (HQ13.out.below hb); clear HQ13; have HQ13 := HQ13'; clear HQ13'
  have HB' := Lib.hid (HB.out.trans (hb.mono HB.out.size)); clear HB; have HB := HB'; clear HB'
  have R16 := R160; clear R160
  obtain ⟨A16, c16, rfl⟩ := own_sl ho
  clear ho hb HRS
  clear p0 p1 p2 p3
  go_upto_region 9 with (fail)
  have hbw := (Below.refl wn.heap.size wn).alloc (Nat.le_refl _) (.cells #[.int .i64 u13, .int .i64 l13, .int .i64 w13, .slice A16 rs13.length c16] 26)
  have HQ160 := Lib.hid (mkQ4 wn u13 l13 w13 (.slice A16 rs13.length c16))
  have R3' := Lib.hid (rdNA R3.out hbw)
  have R5' := Lib.hid (rdNA R5.out hbw)
  have R6' := Lib.hid (rdNA R6.out hbw)
  have R8' := Lib.hid (rdNA R8.out hbw)
  have R9' := Lib.hid (rdNA R9.out hbw)
  have R11' := Lib.hid (rdNA R11.out hbw)
  have R12' := Lib.hid (rdNA R12.out hbw)
  have R13' := Lib.hid (rdNA R13.out hbw)
  have R16' := Lib.hid (rdNA R16.out hbw)
  clear R3; have R3 := R3'; clear R3'
  clear R5; have R5 := R5'; clear R5'
  clear R6; have R6 := R6'; clear R6'
  clear R8; have R8 := R8'; clear R8'
  clear R9; have R9 := R9'; clear R9'
  clear R11; have R11 := R11'; clear R11'
  clear R12; have R12 := R12'; clear R12'
  clear R13; have R13 := R13'; clear R13'
  clear R16; have R16 := R16'; clear R16'
  have HQ3' := Lib.hid (HQ3.out.below hbw); clear HQ3; have HQ3 := HQ3'; clear HQ3'
  have HQ5' := Lib.hid (HQ5.out.below hbw); clear HQ5; have HQ5 := HQ5'; clear HQ5'
  have HQ8' := Lib.hid (HQ8.out.below hbw); clear HQ8; have HQ8 := HQ8'; clear HQ8'
  have HQ11' := Lib.hid (HQ11.out.below hbw); clear HQ11; have HQ11 := HQ11'; clear HQ11'
  have HQ13' := Lib.hid (HQ13.out.below hbw); clear HQ13; have HQ13 := HQ13'; clear HQ13'
  have HB' := Lib.hid (HB.out.trans (hbw.mono HB.out.size)); clear HB; have HB := HB'; clear HB'
  have HQ16 := HQ160; clear HQ160
  clear hbw
  generalize hq16 : wn.heap.size = q16 at *
  generalize wn.alloc (.cells #[.int .i64 u13, .int .i64 l13, .int .i64 w13, .slice A16 rs13.length c16] 26) = wq at *
  clear hq16
  clear HQ11
  clear R11
  clear R12
  go_wp2_with fail
  refine (drawMB_any _ _ bs _ (HC.out.below HB.out) HB.out.size).mono ?_; rintro e wn ⟨⟨u19, l19, w19, rs19⟩, v19, ⟨ma, mb, mc⟩, rfl, hl19, hr19, hb⟩
  have R190 := Lib.hid (hr19)
  have R3' := Lib.hid (rdNA R3.out hb)
  have R5' := Lib.hid (rdNA R5.out hb)
  have R6' := Lib.hid (rdNA R6.out hb)
  have R8' := Lib.hid (rdNA R8.out hb)
  have R9' := Lib.hid (rdNA R9.out hb)
  have R13' := Lib.hid (rdNA R13.out hb)
  have R16' := Lib.hid (rdNA R16.out hb)
  clear R3; have R3 := R3'; clear R3'
  clear R5; have R5 := R5'; clear R5'
  clear R6; have R6 := R6'; clear R6'
  clear R8; have R8 := R8'; clear R8'
  clear R9; have R9 := R9'; clear R9'
  clear R13; have R13 := R13'; clear R13'
  clear R16; have R16 := R16'; clear R16'
  have HQ3' := Lib.hid (HQ3.out.below hb); clear HQ3; have HQ3 := HQ3'; clear HQ3'
  have HQ5' := Lib.hid (HQ5.out.below hb); clear HQ5; have HQ5 := HQ5'; clear HQ5'
  have HQ8' := Lib.hid (HQ8.out.below hb); clear HQ8; have HQ8 := HQ8'; clear HQ8'
  have HQ13' := Lib.hid (HQ13.out.below hb); clear HQ13; have HQ13 := HQ13'; clear HQ13'
  have HQ16' := Lib.hid (HQ16.out.below hb); clear HQ16; have HQ16 := HQ16'; clear HQ16'
  have HB' := Lib.hid (HB.out.trans (hb.mono HB.out.size)); clear HB; have HB := HB'; clear HB'
  have R19 := R190; clear R190
  obtain ⟨_, A19, c19, rfl, _⟩ := hr19
  clear hb
  dsimp only at hl19
  have HMVI := Lib.hid (fun wx hx => MoveI_any wx.heap.size u19 l19 w19 (.slice A19 rs19.length c19) rs19 (ma, mb, mc) wx hx (Nat.le_refl _) (by omega))
  have HMVS := Lib.hid (fun wx hx => MoveS_any wx.heap.size u19 l19 w19 (.slice A19 rs19.length c19) rs19 (ma, mb, mc) wx hx (Nat.le_refl _) (by omega))
  have hl21 := mvV_len ⟨u19, l19, w19, rs19⟩ (ma, mb, mc)
  generalize mvV ⟨u19, l19, w19, rs19⟩ (ma, mb, mc) = S3 at *
  obtain ⟨⟨u21, l21, w21, rs21⟩, C22⟩ := S3
  dsimp only at hl21
  unfold RetAb at HMVI HMVS
  dsimp only at HMVI HMVS
  go_upto_region 10 with (fail)
  obtain ⟨t1, t2, hbw0⟩ := two_blocks wn #[.int .i64 u19, .int .i64 l19, .int .i64 w19, .slice A19 rs19.length c19] #[.int .i64 ma, .int .i64 mb, .int .i64 mc] 26 37
  have hbw := hbw0; clear hbw0
  have HQ190 := Lib.hid (Q4.of t1)
  have HQ200 := Lib.hid (Q3.of t2)
  clear t1 t2
  have R3' := Lib.hid (rdNA R3.out hbw)
  have R5' := Lib.hid (rdNA R5.out hbw)
  have R6' := Lib.hid (rdNA R6.out hbw)
  have R8' := Lib.hid (rdNA R8.out hbw)
  have R9' := Lib.hid (rdNA R9.out hbw)
  have R13' := Lib.hid (rdNA R13.out hbw)
  have R16' := Lib.hid (rdNA R16.out hbw)
  have R19' := Lib.hid (rdNA R19.out hbw)
  clear R3; have R3 := R3'; clear R3'
  clear R5; have R5 := R5'; clear R5'
  clear R6; have R6 := R6'; clear R6'
  clear R8; have R8 := R8'; clear R8'
  clear R9; have R9 := R9'; clear R9'
  clear R13; have R13 := R13'; clear R13'
  clear R16; have R16 := R16'; clear R16'
  clear R19; have R19 := R19'; clear R19'
  have HQ3' := Lib.hid (HQ3.out.below hbw); clear HQ3; have HQ3 := HQ3'; clear HQ3'
  have HQ5' := Lib.hid (HQ5.out.below hbw); clear HQ5; have HQ5 := HQ5'; clear HQ5'
  have HQ8' := Lib.hid (HQ8.out.below hbw); clear HQ8; have HQ8 := HQ8'; clear HQ8'
  have HQ13' := Lib.hid (HQ13.out.below hbw); clear HQ13; have HQ13 := HQ13'; clear HQ13'
  have HQ16' := Lib.hid (HQ16.out.below hbw); clear HQ16; have HQ16 := HQ16'; clear HQ16'
  have HB' := Lib.hid (HB.out.trans (hbw.mono HB.out.size)); clear HB; have HB := HB'; clear HB'
  have HQ19 := HQ190; have HQ20 := HQ200; clear HQ190 HQ200 hbw
  generalize (wn.alloc (.cells #[.int .i64 u19, .int .i64 l19, .int .i64 w19, .slice A19 rs19.length c19] 26)).alloc (.cells #[.int .i64 ma, .int .i64 mb, .int .i64 mc] 37) = wm at *
  generalize wn.heap.size = q19 at *
  obtain ⟨p0, p1, p2, p3⟩ := HQ19.out.c
  obtain ⟨y0, y1, y2⟩ := HQ20.out.c
  go_wp2_with fail
  refine (HMVI.out _ R19.out).mono ?_; rintro e wn ⟨v21, rfl, ho, hb⟩
  have R210 := Lib.hid (Rd.of_own ho)
  have R3' := Lib.hid (rdNA R3.out hb)
  have R5' := Lib.hid (rdNA R5.out hb)
  have R6' := Lib.hid (rdNA R6.out hb)
  have R8' := Lib.hid (rdNA R8.out hb)
  have R9' := Lib.hid (rdNA R9.out hb)
  have R13' := Lib.hid (rdNA R13.out hb)
  have R16' := Lib.hid (rdNA R16.out hb)
  have R19' := Lib.hid (rdNA R19.out hb)
  clear R3; have R3 := R3'; clear R3'
  clear R5; have R5 := R5'; clear R5'
  clear R6; have R6 := R6'; clear R6'
  clear R8; have R8 := R8'; clear R8'
  clear R9; have R9 := R9'; clear R9'
  clear R13; have R13 := R13'; clear R13'
  clear R16; have R16 := R16'; clear R16'
  clear R19; have R19 := R19'; clear R19'
  have HQ3' := Lib.hid (HQ3.out.below hb); clear HQ3; have HQ3 := HQ3'; clear HQ3'
  have HQ5' := Lib.hid (HQ5.out.below hb); clear HQ5; have HQ5 := HQ5'; clear HQ5'
  have HQ8' := Lib.hid (HQ8.out.below hb); clear HQ8; have HQ8 := HQ8'; clear HQ8'
  have HQ13' := Lib.hid (HQ13.out.below hb); clear HQ13; have HQ13 := HQ13'; clear HQ13'
  have HQ16' := Lib.hid (HQ16.out.below hb); clear HQ16; have HQ16 := HQ16'; clear HQ16'
  have HQ19' := Lib.hid (HQ19.out.below hb); clear HQ19; have HQ19 := HQ19'; clear HQ19'
  have HQ20' := Lib.hid (HQ20.out.below hb); clear HQ20; have HQ20 := HQ20'; clear HQ20'
  have HB' := Lib.hid (HB.out.trans (hb.mono HB.out.size)); clear HB; have HB := HB'; clear HB'
  have R21 := R210; clear R210
  obtain ⟨A21, c21, rfl⟩ := own_sl ho
  clear ho hb HMVI y0 y1 y2
  clear p0 p1 p2 p3
  go_upto_region 11 with (fail)
  have hbw := (Below.refl wn.heap.size wn).alloc (Nat.le_refl _) (.cells #[.int .i64 u21, .int .i64 l21, .int .i64 w21, .slice A21 rs21.length c21] 26)
  have HQ210 := Lib.hid (mkQ4 wn u21 l21 w21 (.slice A21 rs21.length c21))
  have R3' := Lib.hid (rdNA R3.out hbw)
  have R5' := Lib.hid (rdNA R5.out hbw)
  have R6' := Lib.hid (rdNA R6.out hbw)
  have R8' := Lib.hid (rdNA R8.out hbw)
  have R9' := Lib.hid (rdNA R9.out hbw)
  have R13' := Lib.hid (rdNA R13.out hbw)
  have R16' := Lib.hid (rdNA R16.out hbw)
  have R19' := Lib.hid (rdNA R19.out hbw)
  have R21' := Lib.hid (rdNA R21.out hbw)
  clear R3; have R3 := R3'; clear R3'
  clear R5; have R5 := R5'; clear R5'
  clear R6; have R6 := R6'; clear R6'
  clear R8; have R8 := R8'; clear R8'
  clear R9; have R9 := R9'; clear R9'
  clear R13; have R13 := R13'; clear R13'
  clear R16; have R16 := R16'; clear R16'
  clear R19; have R19 := R19'; clear R19'
  clear R21; have R21 := R21'; clear R21'
  have HQ3' := Lib.hid (HQ3.out.below hbw); clear HQ3; have HQ3 := HQ3'; clear HQ3'
  have HQ5' := Lib.hid (HQ5.out.below hbw); clear HQ5; have HQ5 := HQ5'; clear HQ5'
  have HQ8' := Lib.hid (HQ8.out.below hbw); clear HQ8; have HQ8 := HQ8'; clear HQ8'
  have HQ13' := Lib.hid (HQ13.out.below hbw); clear HQ13; have HQ13 := HQ13'; clear HQ13'
  have HQ16' := Lib.hid (HQ16.out.below hbw); clear HQ16; have HQ16 := HQ16'; clear HQ16'
  have HQ19' := Lib.hid (HQ19.out.below hbw); clear HQ19; have HQ19 := HQ19'; clear HQ19'
  have HQ20' := Lib.hid (HQ20.out.below hbw); clear HQ20; have HQ20 := HQ20'; clear HQ20'
  have HB' := Lib.hid (HB.out.trans (hbw.mono HB.out.size)); clear HB; have HB := HB'; clear HB'
  have HQ21 := HQ210; clear HQ210
  clear hbw
  generalize hq21 : wn.heap.size = q21 at *
  generalize wn.alloc (.cells #[.int .i64 u21, .int .i64 l21, .int .i64 w21, .slice A21 rs21.length c21] 26) = wq at *
  clear hq21
  obtain ⟨p0, p1, p2, p3⟩ := HQ19.out.c
  obtain ⟨y0, y1, y2⟩ := HQ20.out.c
  go_wp2_with fail
  refine (HMVS.out _ R19.out).mono ?_; rintro e wn ⟨v23, rfl, ho, hb⟩
  have R230 := Lib.hid (Rd.of_own ho)
  have R3' := Lib.hid (rdNA R3.out hb)
  have R5' := Lib.hid (rdNA R5.out hb)
  have R6' := Lib.hid (rdNA R6.out hb)
  have R8' := Lib.hid (rdNA R8.out hb)
  have R9' := Lib.hid (rdNA R9.out hb)
  have R13' := Lib.hid (rdNA R13.out hb)
  have R16' := Lib.hid (rdNA R16.out hb)
  have R19' := Lib.hid (rdNA R19.out hb)
  have R21' := Lib.hid (rdNA R21.out hb)
  clear R3; have R3 := R3'; clear R3'
  clear R5; have R5 := R5'; clear R5'
  clear R6; have R6 := R6'; clear R6'
  clear R8; have R8 := R8'; clear R8'
  clear R9; have R9 := R9'; clear R9'
  clear R13; have R13 := R13'; clear R13'
  clear R16; have R16 := R16'; clear R16'
  clear R19; have R19 := R19'; clear R19'
  clear R21; have R21 := R21'; clear R21'
  have HQ3' := Lib.hid (HQ3.out.below hb); clear HQ3; have HQ3 := HQ3'; clear HQ3'
  have HQ5' := Lib.hid (HQ5.out.below hb); clear HQ5; have HQ5 := HQ5'; clear HQ5'
  have HQ8' := Lib.hid (HQ8.out.below hb); clear HQ8; have HQ8 := HQ8'; clear HQ8'
  have HQ13' := Lib.hid (HQ13.out.below hb); clear HQ13; have HQ13 := HQ13'; clear HQ13'
  have HQ16' := Lib.hid (HQ16.out.below hb); clear HQ16; have HQ16 := HQ16'; clear HQ16'
  have HQ19' := Lib.hid (HQ19.out.below hb); clear HQ19; have HQ19 := HQ19'; clear HQ19'
  have HQ20' := Lib.hid (HQ20.out.below hb); clear HQ20; have HQ20 := HQ20'; clear HQ20'
  have HQ21' := Lib.hid (HQ21.out.below hb); clear HQ21; have HQ21 := HQ21'; clear HQ21'
  have HB' := Lib.hid (HB.out.trans (hb.mono HB.out.size)); clear HB; have HB := HB'; clear HB'
  have R23 := R230; clear R230
  obtain ⟨A23, c23, rfl⟩ := own_sl ho
  clear ho hb HMVS y0 y1 y2
  clear p0 p1 p2 p3
  go_upto_region 12 with (fail)
  have hbw := (Below.refl wn.heap.size wn).alloc (Nat.le_refl _) (.cells #[.int .i64 u21, .int .i64 l21, .int .i64 w21, .slice A23 rs21.length c23] 26)
  have HQ230 := Lib.hid (mkQ4 wn u21 l21 w21 (.slice A23 rs21.length c23))
  have R3' := Lib.hid (rdNA R3.out hbw)
  have R5' := Lib.hid (rdNA R5.out hbw)
  have R6' := Lib.hid (rdNA R6.out hbw)
  have R8' := Lib.hid (rdNA R8.out hbw)
  have R9' := Lib.hid (rdNA R9.out hbw)
  have R13' := Lib.hid (rdNA R13.out hbw)
  have R16' := Lib.hid (rdNA R16.out hbw)
  have R19' := Lib.hid (rdNA R19.out hbw)
  have R21' := Lib.hid (rdNA R21.out hbw)
  have R23' := Lib.hid (rdNA R23.out hbw)
  clear R3; have R3 := R3'; clear R3'
  clear R5; have R5 := R5'; clear R5'
  clear R6; have R6 := R6'; clear R6'
  clear R8; have R8 := R8'; clear R8'
  clear R9; have R9 := R9'; clear R9'
  clear R13; have R13 := R13'; clear R13'
  clear R16; have R16 := R16'; clear R16'
  clear R19; have R19 := R19'; clear R19'
  clear R21; have R21 := R21'; clear R21'
  clear R23; have R23 := R23'; clear R23'
  have HQ3' := Lib.hid (HQ3.out.below hbw); clear HQ3; have HQ3 := HQ3'; clear HQ3'
  have HQ5' := Lib.hid (HQ5.out.below hbw); clear HQ5; have HQ5 := HQ5'; clear HQ5'
  have HQ8' := Lib.hid (HQ8.out.below hbw); clear HQ8; have HQ8 := HQ8'; clear HQ8'
  have HQ13' := Lib.hid (HQ13.out.below hbw); clear HQ13; have HQ13 := HQ13'; clear HQ13'
  have HQ16' := Lib.hid (HQ16.out.below hbw); clear HQ16; have HQ16 := HQ16'; clear HQ16'
  have HQ19' := Lib.hid (HQ19.out.below hbw); clear HQ19; have HQ19 := HQ19'; clear HQ19'
  have HQ20' := Lib.hid (HQ20.out.below hbw); clear HQ20; have HQ20 := HQ20'; clear HQ20'
  have HQ21' := Lib.hid (HQ21.out.below hbw); clear HQ21; have HQ21 := HQ21'; clear HQ21'
  have HB' := Lib.hid (HB.out.trans (hbw.mono HB.out.size)); clear HB; have HB := HB'; clear HB'
  have HQ23 := HQ230; clear HQ230
  clear hbw
  generalize hq23 : wn.heap.size = q23 at *
  generalize wn.alloc (.cells #[.int .i64 u21, .int .i64 l21, .int .i64 w21, .slice A23 rs21.length c23] 26) = wq at *
  clear hq23
  clear HQ19
  clear HQ20
  clear R19
  go_wp2_with fail
  refine (drawBB_any _ _ bs _ (HC.out.below HB.out) HB.out.size).mono ?_; rintro e wn ⟨⟨u25, l25, w25, rs25⟩, ⟨u26, l26, w26, rs26⟩, v25, v26, rfl, hl25, hl26, hr25, hr26, hb⟩
  have R250 := Lib.hid (hr25)
  have R260 := Lib.hid (hr26)
  have R3' := Lib.hid (rdNA R3.out hb)
  have R5' := Lib.hid (rdNA R5.out hb)
  have R6' := Lib.hid (rdNA R6.out hb)
  have R8' := Lib.hid (rdNA R8.out hb)
  have R9' := Lib.hid (rdNA R9.out hb)
  have R13' := Lib.hid (rdNA R13.out hb)
  have R16' := Lib.hid (rdNA R16.out hb)
  have R21' := Lib.hid (rdNA R21.out hb)
  have R23' := Lib.hid (rdNA R23.out hb)
  clear R3; have R3 := R3'; clear R3'
  clear R5; have R5 := R5'; clear R5'
  clear R6; have R6 := R6'; clear R6'
  clear R8; have R8 := R8'; clear R8'
  clear R9; have R9 := R9'; clear R9'
  clear R13; have R13 := R13'; clear R13'
  clear R16; have R16 := R16'; clear R16'
  clear R21; have R21 := R21'; clear R21'
  clear R23; have R23 := R23'; clear R23'
  have HQ3' := Lib.hid (HQ3.out.below hb); clear HQ3; have HQ3 := HQ3'; clear HQ3'
  have HQ5' := Lib.hid (HQ5.out.below hb); clear HQ5; have HQ5 := HQ5'; clear HQ5'
  have HQ8' := Lib.hid (HQ8.out.below hb); clear HQ8; have HQ8 := HQ8'; clear HQ8'
  have HQ13' := Lib.hid (HQ13.out.below hb); clear HQ13; have HQ13 := HQ13'; clear HQ13'
  have HQ16' := Lib.hid (HQ16.out.below hb); clear HQ16; have HQ16 := HQ16'; clear HQ16'
  have HQ21' := Lib.hid (HQ21.out.below hb); clear HQ21; have HQ21 := HQ21'; clear HQ21'
  have HQ23' := Lib.hid (HQ23.out.below hb); clear HQ23; have HQ23 := HQ23'; clear HQ23'
  have HB' := Lib.hid (HB.out.trans (hb.mono HB.out.size)); clear HB; have HB := HB'; clear HB'
  have R25 := R250; clear R250
  have R26 := R260; clear R260
  obtain ⟨_, A25, c25, rfl, _⟩ := hr25
  obtain ⟨_, A26, c26, rfl, _⟩ := hr26
  clear hb HC
  dsimp only at hl25 hl26
  have HEI := Lib.hid (fun wx hx hy => BetI_any wx.heap.size u25 l25 w25 u26 l26 w26 (.slice A25 rs25.length c25) (.slice A26 rs26.length c26) rs25 rs26 wx hx hy (Nat.le_refl _) (by omega) (by omega))
  have HES := Lib.hid (fun wx hx hy => BetS_any wx.heap.size u25 l25 w25 u26 l26 w26 (.slice A25 rs25.length c25) (.slice A26 rs26.length c26) rs25 rs26 wx hx hy (Nat.le_refl _) (by omega) (by omega))
  have HEJ := Lib.hid (fun wx hx hy => BetI_any wx.heap.size u26 l26 w26 u25 l25 w25 (.slice A26 rs26.length c26) (.slice A25 rs25.length c25) rs26 rs25 wx hx hy (Nat.le_refl _) (by omega) (by omega))
  have HSM := Lib.hid (fun B wx hx hy hz => SameAbS_any B u25 l25 w25 u26 l26 w26 (.slice A25 rs25.length c25) (.slice A26 rs26.length c26) rs25 rs26 wx hx hy hz (by omega) (by omega))
  have HLW := Lib.hid (fun h => bet_law (a := ⟨u25, l25, w25, rs25⟩) (b := ⟨u26, l26, w26, rs26⟩) h)
  generalize betV ⟨u25, l25, w25, rs25⟩ ⟨u26, l26, w26, rs26⟩ = V27 at *
  generalize betC ⟨u25, l25, w25, rs25⟩ ⟨u26, l26, w26, rs26⟩ = C28 at *
  generalize betV ⟨u26, l26, w26, rs26⟩ ⟨u25, l25, w25, rs25⟩ = V31 at *
  generalize betC ⟨u26, l26, w26, rs26⟩ ⟨u25, l25, w25, rs25⟩ = C32 at *
  generalize sameAb ⟨u25, l25, w25, rs25⟩ ⟨u26, l26, w26, rs26⟩ = SM at *
  go_upto_region 13 with (fail)
  obtain ⟨t1, t2, hbw0⟩ := two_blocks wn #[.int .i64 u25, .int .i64 l25, .int .i64 w25, .slice A25 rs25.length c25] #[.int .i64 u26, .int .i64 l26, .int .i64 w26, .slice A26 rs26.length c26] 26 26
  have hbw := hbw0; clear hbw0
  have HQ250 := Lib.hid (Q4.of t1)
  have HQ260 := Lib.hid (Q4.of t2)
  clear t1 t2
  have R3' := Lib.hid (rdNA R3.out hbw)
  have R5' := Lib.hid (rdNA R5.out hbw)
  have R6' := Lib.hid (rdNA R6.out hbw)
  have R8' := Lib.hid (rdNA R8.out hbw)
  have R9' := Lib.hid (rdNA R9.out hbw)
  have R13' := Lib.hid (rdNA R13.out hbw)
  have R16' := Lib.hid (rdNA R16.out hbw)
  have R21' := Lib.hid (rdNA R21.out hbw)
  have R23' := Lib.hid (rdNA R23.out hbw)
  have R25' := Lib.hid (rdNA R25.out hbw)
  have R26' := Lib.hid (rdNA R26.out hbw)
  clear R3; have R3 := R3'; clear R3'
  clear R5; have R5 := R5'; clear R5'
  clear R6; have R6 := R6'; clear R6'
  clear R8; have R8 := R8'; clear R8'
  clear R9; have R9 := R9'; clear R9'
  clear R13; have R13 := R13'; clear R13'
  clear R16; have R16 := R16'; clear R16'
  clear R21; have R21 := R21'; clear R21'
  clear R23; have R23 := R23'; clear R23'
  clear R25; have R25 := R25'; clear R25'
  clear R26; have R26 := R26'; clear R26'
  have HQ3' := Lib.hid (HQ3.out.below hbw); clear HQ3; have HQ3 := HQ3'; clear HQ3'
  have HQ5' := Lib.hid (HQ5.out.below hbw); clear HQ5; have HQ5 := HQ5'; clear HQ5'
  have HQ8' := Lib.hid (HQ8.out.below hbw); clear HQ8; have HQ8 := HQ8'; clear HQ8'
  have HQ13' := Lib.hid (HQ13.out.below hbw); clear HQ13; have HQ13 := HQ13'; clear HQ13'
  have HQ16' := Lib.hid (HQ16.out.below hbw); clear HQ16; have HQ16 := HQ16'; clear HQ16'
  have HQ21' := Lib.hid (HQ21.out.below hbw); clear HQ21; have HQ21 := HQ21'; clear HQ21'
  have HQ23' := Lib.hid (HQ23.out.below hbw); clear HQ23; have HQ23 := HQ23'; clear HQ23'
  have HB' := Lib.hid (HB.out.trans (hbw.mono HB.out.size)); clear HB; have HB := HB'; clear HB'
  have HQ25 := HQ250; have HQ26 := HQ260; clear HQ250 HQ260 hbw
  generalize (wn.alloc (.cells #[.int .i64 u25, .int .i64 l25, .int .i64 w25, .slice A25 rs25.length c25] 26)).alloc (.cells #[.int .i64 u26, .int .i64 l26, .int .i64 w26, .slice A26 rs26.length c26] 26) = wm at *
  generalize wn.heap.size = q25 at *
  obtain ⟨p0, p1, p2, p3⟩ := HQ25.out.c
  obtain ⟨y0, y1, y2, y3⟩ := HQ26.out.c
  go_wp2_with fail
  refine (HEI.out _ R25.out R26.out).mono ?_; rintro e wn ⟨rfl, hb⟩
  have R3' := Lib.hid (rdNA R3.out hb)
  have R5' := Lib.hid (rdNA R5.out hb)
  have R6' := Lib.hid (rdNA R6.out hb)
  have R8' := Lib.hid (rdNA R8.out hb)
  have R9' := Lib.hid (rdNA R9.out hb)
  have R13' := Lib.hid (rdNA R13.out hb)
  have R16' := Lib.hid (rdNA R16.out hb)
  have R21' := Lib.hid (rdNA R21.out hb)
  have R23' := Lib.hid (rdNA R23.out hb)
  have R25' := Lib.hid (rdNA R25.out hb)
  have R26' := Lib.hid (rdNA R26.out hb)
  clear R3; have R3 := R3'; clear R3'
  clear R5; have R5 := R5'; clear R5'
  clear R6; have R6 := R6'; clear R6'
  clear R8; have R8 := R8'; clear R8'
  clear R9; have R9 := R9'; clear R9'
  clear R13; have R13 := R13'; clear R13'
  clear R16; have R16 := R16'; clear R16'
  clear R21; have R21 := R21'; clear R21'
  clear R23; have R23 := R23'; clear R23'
  clear R25; have R25 := R25'; clear R25'
  clear R26; have R26 := R26'; clear R26'
  have HQ3' := Lib.hid (HQ3.out.below hb); clear HQ3; have HQ3 := HQ3'; clear HQ3'
  have HQ5' := Lib.hid (HQ5.out.below hb); clear HQ5; have HQ5 := HQ5'; clear HQ5'
  have HQ8' := Lib.hid (HQ8.out.below hb); clear HQ8; have HQ8 := HQ8'; clear HQ8'
  have HQ13' := Lib.hid (HQ13.out.below hb); clear HQ13; have HQ13 := HQ13'; clear HQ13'
  have HQ16' := Lib.hid (HQ16.out.below hb); clear HQ16; have HQ16 := HQ16'; clear HQ16'
  have HQ21' := Lib.hid (HQ21.out.below hb); clear HQ21; have HQ21 := HQ21'; clear HQ21'
  have HQ23' := Lib.hid (HQ23.out.below hb); clear HQ23; have HQ23 := HQ23'; clear HQ23'
  have HQ25' := Lib.hid (HQ25.out.below hb); clear HQ25; have HQ25 := HQ25'; clear HQ25'
  have HQ26' := Lib.hid (HQ26.out.below hb); clear HQ26; have HQ26 := HQ26'; clear HQ26'
  have HB' := Lib.hid (HB.out.trans (hb.mono HB.out.size)); clear HB; have HB := HB'; clear HB'
  clear hb HEI
  clear p0 p1 p2 p3 y0 y1 y2 y3
  obtain ⟨p0, p1, p2, p3⟩ := HQ25.out.c
  obtain ⟨y0, y1, y2, y3⟩ := HQ26.out.c
  go_wp2_with fail
  refine (HES.out _ R25.out R26.out).mono ?_; rintro e wn ⟨rfl, hb⟩
  have R3' := Lib.hid (rdNA R3.out hb)
  have R5' := Lib.hid (rdNA R5.out hb)
  have R6' := Lib.hid (rdNA R6.out hb)
  have R8' := Lib.hid (rdNA R8.out hb)
  have R9' := Lib.hid (rdNA R9.out hb)
  have R13' := Lib.hid (rdNA R13.out hb)
  have R16' := Lib.hid (rdNA R16.out hb)
  have R21' := Lib.hid (rdNA R21.out hb)
  have R23' := Lib.hid (rdNA R23.out hb)
  have R25' := Lib.hid (rdNA R25.out hb)
  have R26' := Lib.hid (rdNA R26.out hb)
  clear R3; have R3 := R3'; clear R3'
  clear R5; have R5 := R5'; clear R5'
  clear R6; have R6 := R6'; clear R6'
  clear R8; have R8 := R8'; clear R8'
  clear R9; have R9 := R9'; clear R9'
  clear R13; have R13 := R13'; clear R13'
  clear R16; have R16 := R16'; clear R16'
  clear R21; have R21 := R21'; clear R21'
  clear R23; have R23 := R23'; clear R23'
  clear R25; have R25 := R25'; clear R25'
  clear R26; have R26 := R26'; clear R26'
  have HQ3' := Lib.hid (HQ3.out.below hb); clear HQ3; have HQ3 := HQ3'; clear HQ3'
  have HQ5' := Lib.hid (HQ5.out.below hb); clear HQ5; have HQ5 := HQ5'; clear HQ5'
  have HQ8' := Lib.hid (HQ8.out.below hb); clear HQ8; have HQ8 := HQ8'; clear HQ8'
  have HQ13' := Lib.hid (HQ13.out.below hb); clear HQ13; have HQ13 := HQ13'; clear HQ13'
  have HQ16' := Lib.hid (HQ16.out.below hb); clear HQ16; have HQ16 := HQ16'; clear HQ16'
  have HQ21' := Lib.hid (HQ21.out.below hb); clear HQ21; have HQ21 := HQ21'; clear HQ21'
  have HQ23' := Lib.hid (HQ23.out.below hb); clear HQ23; have HQ23 := HQ23'; clear HQ23'
  have HQ25' := Lib.hid (HQ25.out.below hb); clear HQ25; have HQ25 := HQ25'; clear HQ25'
  have HQ26' := Lib.hid (HQ26.out.below hb); clear HQ26; have HQ26 := HQ26'; clear HQ26'
  have HB' := Lib.hid (HB.out.trans (hb.mono HB.out.size)); clear HB; have HB := HB'; clear HB'
  clear hb HES
  clear p0 p1 p2 p3 y0 y1 y2 y3
  obtain ⟨p0, p1, p2, p3⟩ := HQ5.out.c
  obtain ⟨y0, y1, y2, y3⟩ := HQ8.out.c
  go_wp2_with fail
  refine (SameAbS_self _ u5 l5 w5 (.slice A5 rs5.length c5) (.slice A8 rs5.length c8) rs5 _ R5.out R8.out (Nat.le_refl _) (by omega)).mono ?_; rintro e wn ⟨rfl, hb⟩
  have R3' := Lib.hid (rdNA R3.out hb)
  have R5' := Lib.hid (rdNA R5.out hb)
  have R6' := Lib.hid (rdNA R6.out hb)
  have R8' := Lib.hid (rdNA R8.out hb)
  have R9' := Lib.hid (rdNA R9.out hb)
  have R13' := Lib.hid (rdNA R13.out hb)
  have R16' := Lib.hid (rdNA R16.out hb)
  have R21' := Lib.hid (rdNA R21.out hb)
  have R23' := Lib.hid (rdNA R23.out hb)
  have R25' := Lib.hid (rdNA R25.out hb)
  have R26' := Lib.hid (rdNA R26.out hb)
  clear R3; have R3 := R3'; clear R3'
  clear R5; have R5 := R5'; clear R5'
  clear R6; have R6 := R6'; clear R6'
  clear R8; have R8 := R8'; clear R8'
  clear R9; have R9 := R9'; clear R9'
  clear R13; have R13 := R13'; clear R13'
  clear R16; have R16 := R16'; clear R16'
  clear R21; have R21 := R21'; clear R21'
  clear R23; have R23 := R23'; clear R23'
  clear R25; have R25 := R25'; clear R25'
  clear R26; have R26 := R26'; clear R26'
  have HQ3' := Lib.hid (HQ3.out.below hb); clear HQ3; have HQ3 := HQ3'; clear HQ3'
  have HQ5' := Lib.hid (HQ5.out.below hb); clear HQ5; have HQ5 := HQ5'; clear HQ5'
  have HQ8' := Lib.hid (HQ8.out.below hb); clear HQ8; have HQ8 := HQ8'; clear HQ8'
  have HQ13' := Lib.hid (HQ13.out.below hb); clear HQ13; have HQ13 := HQ13'; clear HQ13'
  have HQ16' := Lib.hid (HQ16.out.below hb); clear HQ16; have HQ16 := HQ16'; clear HQ16'
  have HQ21' := Lib.hid (HQ21.out.below hb); clear HQ21; have HQ21 := HQ21'; clear HQ21'
  have HQ23' := Lib.hid (HQ23.out.below hb); clear HQ23; have HQ23 := HQ23'; clear HQ23'
  have HQ25' := Lib.hid (HQ25.out.below hb); clear HQ25; have HQ25 := HQ25'; clear HQ25'
  have HQ26' := Lib.hid (HQ26.out.below hb); clear HQ26; have HQ26 := HQ26'; clear HQ26'
  have HB' := Lib.hid (HB.out.trans (hb.mono HB.out.size)); clear HB; have HB := HB'; clear HB'
  clear hb
  clear p0 p1 p2 p3 y0 y1 y2 y3
  go_wp2_with fail
  refine (f6beads_same _ _ _ _ ms6 _ R6.out R9.out (by omega)).mono ?_; rintro e wn ⟨rfl, nq, hwq⟩
  have R3' := Lib.hid (rdNA R3.out (below_eqA hwq))
  have R5' := Lib.hid (rdNA R5.out (below_eqA hwq))
  have R6' := Lib.hid (rdNA R6.out (below_eqA hwq))
  have R8' := Lib.hid (rdNA R8.out (below_eqA hwq))
  have R9' := Lib.hid (rdNA R9.out (below_eqA hwq))
  have R13' := Lib.hid (rdNA R13.out (below_eqA hwq))
  have R16' := Lib.hid (rdNA R16.out (below_eqA hwq))
  have R21' := Lib.hid (rdNA R21.out (below_eqA hwq))
  have R23' := Lib.hid (rdNA R23.out (below_eqA hwq))
  have R25' := Lib.hid (rdNA R25.out (below_eqA hwq))
  have R26' := Lib.hid (rdNA R26.out (below_eqA hwq))
  clear R3; have R3 := R3'; clear R3'
  clear R5; have R5 := R5'; clear R5'
  clear R6; have R6 := R6'; clear R6'
  clear R8; have R8 := R8'; clear R8'
  clear R9; have R9 := R9'; clear R9'
  clear R13; have R13 := R13'; clear R13'
  clear R16; have R16 := R16'; clear R16'
  clear R21; have R21 := R21'; clear R21'
  clear R23; have R23 := R23'; clear R23'
  clear R25; have R25 := R25'; clear R25'
  clear R26; have R26 := R26'; clear R26'
  have HQ3' := Lib.hid (HQ3.out.below (below_eqA hwq)); clear HQ3; have HQ3 := HQ3'; clear HQ3'
  have HQ5' := Lib.hid (HQ5.out.below (below_eqA hwq)); clear HQ5; have HQ5 := HQ5'; clear HQ5'
  have HQ8' := Lib.hid (HQ8.out.below (below_eqA hwq)); clear HQ8; have HQ8 := HQ8'; clear HQ8'
  have HQ13' := Lib.hid (HQ13.out.below (below_eqA hwq)); clear HQ13; have HQ13 := HQ13'; clear HQ13'
  have HQ16' := Lib.hid (HQ16.out.below (below_eqA hwq)); clear HQ16; have HQ16 := HQ16'; clear HQ16'
  have HQ21' := Lib.hid (HQ21.out.below (below_eqA hwq)); clear HQ21; have HQ21 := HQ21'; clear HQ21'
  have HQ23' := Lib.hid (HQ23.out.below (below_eqA hwq)); clear HQ23; have HQ23 := HQ23'; clear HQ23'
  have HQ25' := Lib.hid (HQ25.out.below (below_eqA hwq)); clear HQ25; have HQ25 := HQ25'; clear HQ25'
  have HQ26' := Lib.hid (HQ26.out.below (below_eqA hwq)); clear HQ26; have HQ26 := HQ26'; clear HQ26'
  have HB' := Lib.hid (HB.out.trans ((below_eqA hwq).mono HB.out.size)); clear HB; have HB := HB'; clear HB'
  clear hwq
  obtain ⟨p0, p1, p2, p3⟩ := HQ13.out.c
  obtain ⟨y0, y1, y2, y3⟩ := HQ16.out.c
  go_wp2_with fail
  refine (SameAbS_self _ u13 l13 w13 (.slice A13 rs13.length c13) (.slice A16 rs13.length c16) rs13 _ R13.out R16.out (Nat.le_refl _) (by omega)).mono ?_; rintro e wn ⟨rfl, hb⟩
  have R3' := Lib.hid (rdNA R3.out hb)
  have R5' := Lib.hid (rdNA R5.out hb)
  have R6' := Lib.hid (rdNA R6.out hb)
  have R8' := Lib.hid (rdNA R8.out hb)
  have R9' := Lib.hid (rdNA R9.out hb)
  have R13' := Lib.hid (rdNA R13.out hb)
  have R16' := Lib.hid (rdNA R16.out hb)
  have R21' := Lib.hid (rdNA R21.out hb)
  have R23' := Lib.hid (rdNA R23.out hb)
  have R25' := Lib.hid (rdNA R25.out hb)
  have R26' := Lib.hid (rdNA R26.out hb)
  clear R3; have R3 := R3'; clear R3'
  clear R5; have R5 := R5'; clear R5'
  clear R6; have R6 := R6'; clear R6'
  clear R8; have R8 := R8'; clear R8'
  clear R9; have R9 := R9'; clear R9'
  clear R13; have R13 := R13'; clear R13'
  clear R16; have R16 := R16'; clear R16'
  clear R21; have R21 := R21'; clear R21'
  clear R23; have R23 := R23'; clear R23'
  clear R25; have R25 := R25'; clear R25'
  clear R26; have R26 := R26'; clear R26'
  have HQ3' := Lib.hid (HQ3.out.below hb); clear HQ3; have HQ3 := HQ3'; clear HQ3'
  have HQ5' := Lib.hid (HQ5.out.below hb); clear HQ5; have HQ5 := HQ5'; clear HQ5'
  have HQ8' := Lib.hid (HQ8.out.below hb); clear HQ8; have HQ8 := HQ8'; clear HQ8'
  have HQ13' := Lib.hid (HQ13.out.below hb); clear HQ13; have HQ13 := HQ13'; clear HQ13'
  have HQ16' := Lib.hid (HQ16.out.below hb); clear HQ16; have HQ16 := HQ16'; clear HQ16'
  have HQ21' := Lib.hid (HQ21.out.below hb); clear HQ21; have HQ21 := HQ21'; clear HQ21'
  have HQ23' := Lib.hid (HQ23.out.below hb); clear HQ23; have HQ23 := HQ23'; clear HQ23'
  have HQ25' := Lib.hid (HQ25.out.below hb); clear HQ25; have HQ25 := HQ25'; clear HQ25'
  have HQ26' := Lib.hid (HQ26.out.below hb); clear HQ26; have HQ26 := HQ26'; clear HQ26'
  have HB' := Lib.hid (HB.out.trans (hb.mono HB.out.size)); clear HB; have HB := HB'; clear HB'
  clear hb
  clear p0 p1 p2 p3 y0 y1 y2 y3
  obtain ⟨p0, p1, p2, p3⟩ := HQ21.out.c
  obtain ⟨y0, y1, y2, y3⟩ := HQ23.out.c
  go_wp2_with fail
  refine (SameAbS_self _ u21 l21 w21 (.slice A21 rs21.length c21) (.slice A23 rs21.length c23) rs21 _ R21.out R23.out (Nat.le_refl _) (by omega)).mono ?_; rintro e wn ⟨rfl, hb⟩
  have R3' := Lib.hid (rdNA R3.out hb)
  have R5' := Lib.hid (rdNA R5.out hb)
  have R6' := Lib.hid (rdNA R6.out hb)
  have R8' := Lib.hid (rdNA R8.out hb)
  have R9' := Lib.hid (rdNA R9.out hb)
  have R13' := Lib.hid (rdNA R13.out hb)
  have R16' := Lib.hid (rdNA R16.out hb)
  have R21' := Lib.hid (rdNA R21.out hb)
  have R23' := Lib.hid (rdNA R23.out hb)
  have R25' := Lib.hid (rdNA R25.out hb)
  have R26' := Lib.hid (rdNA R26.out hb)
  clear R3; have R3 := R3'; clear R3'
  clear R5; have R5 := R5'; clear R5'
  clear R6; have R6 := R6'; clear R6'
  clear R8; have R8 := R8'; clear R8'
  clear R9; have R9 := R9'; clear R9'
  clear R13; have R13 := R13'; clear R13'
  clear R16; have R16 := R16'; clear R16'
  clear R21; have R21 := R21'; clear R21'
  clear R23; have R23 := R23'; clear R23'
  clear R25; have R25 := R25'; clear R25'
  clear R26; have R26 := R26'; clear R26'
  have HQ3' := Lib.hid (HQ3.out.below hb); clear HQ3; have HQ3 := HQ3'; clear HQ3'
  have HQ5' := Lib.hid (HQ5.out.below hb); clear HQ5; have HQ5 := HQ5'; clear HQ5'
  have HQ8' := Lib.hid (HQ8.out.below hb); clear HQ8; have HQ8 := HQ8'; clear HQ8'
  have HQ13' := Lib.hid (HQ13.out.below hb); clear HQ13; have HQ13 := HQ13'; clear HQ13'
  have HQ16' := Lib.hid (HQ16.out.below hb); clear HQ16; have HQ16 := HQ16'; clear HQ16'
  have HQ21' := Lib.hid (HQ21.out.below hb); clear HQ21; have HQ21 := HQ21'; clear HQ21'
  have HQ23' := Lib.hid (HQ23.out.below hb); clear HQ23; have HQ23 := HQ23'; clear HQ23'
  have HQ25' := Lib.hid (HQ25.out.below hb); clear HQ25; have HQ25 := HQ25'; clear HQ25'
  have HQ26' := Lib.hid (HQ26.out.below hb); clear HQ26; have HQ26 := HQ26'; clear HQ26'
  have HB' := Lib.hid (HB.out.trans (hb.mono HB.out.size)); clear HB; have HB := HB'; clear HB'
  clear hb
  clear p0 p1 p2 p3 y0 y1 y2 y3
  clear R8
  clear R9
  clear R13
  clear R16
  clear R21
  clear R23
  clear HQ8
  clear HQ13
  clear HQ16
  clear HQ21
  clear HQ23
  have HN3 := Lib.hid (fun wx hx => AbValueI_any wx.heap.size u3 l3 w3 (.slice A3 rs3.length c3) rs3 wx hx (Nat.le_refl _) (by omega))
  have HN5 := Lib.hid (fun wx hx => AbValueI_any wx.heap.size u5 l5 w5 (.slice A5 rs5.length c5) rs5 wx hx (Nat.le_refl _) (by omega))
  have HRA := Lib.hid (fun wx hx hy => ReplayI_any wx.heap.size u3 l3 w3 (.slice A3 rs3.length c3) (.slice A6 ms6.length c6) rs3 ms6 wx hx hy (Nat.le_refl _) (by omega) (by omega))
  have HJ5 := Lib.hid (fun wx hx => IsPlainI_any wx.heap.size u5 l5 w5 (.slice A5 rs5.length c5) rs5 wx hx (Nat.le_refl _) (by omega))
  by_cases hz : C28 = 0
  · subst hz
    obtain ⟨e1, e2, e3⟩ := HLW.out rfl
    subst e1
    subst e2
    subst e3
    clear HLW
    obtain ⟨p0, p1, p2, p3⟩ := HQ25.out.c
    obtain ⟨y0, y1, y2, y3⟩ := HQ26.out.c
    go_wp2_with fail
    refine (HEJ.out _ R26.out R25.out).mono ?_; rintro e wn ⟨rfl, hb⟩
    have R3' := Lib.hid (rdNA R3.out hb)
    have R5' := Lib.hid (rdNA R5.out hb)
    have R6' := Lib.hid (rdNA R6.out hb)
    have R25' := Lib.hid (rdNA R25.out hb)
    have R26' := Lib.hid (rdNA R26.out hb)
    clear R3; have R3 := R3'; clear R3'
    clear R5; have R5 := R5'; clear R5'
    clear R6; have R6 := R6'; clear R6'
    clear R25; have R25 := R25'; clear R25'
    clear R26; have R26 := R26'; clear R26'
    have HQ3' := Lib.hid (HQ3.out.below hb); clear HQ3; have HQ3 := HQ3'; clear HQ3'
    have HQ5' := Lib.hid (HQ5.out.below hb); clear HQ5; have HQ5 := HQ5'; clear HQ5'
    have HQ25' := Lib.hid (HQ25.out.below hb); clear HQ25; have HQ25 := HQ25'; clear HQ25'
    have HQ26' := Lib.hid (HQ26.out.below hb); clear HQ26; have HQ26 := HQ26'; clear HQ26'
    have HB' := Lib.hid (HB.out.trans (hb.mono HB.out.size)); clear HB; have HB := HB'; clear HB'
    clear hb HEJ
    clear p0 p1 p2 p3 y0 y1 y2 y3
    obtain ⟨p0, p1, p2, p3⟩ := HQ25.out.c
    obtain ⟨y0, y1, y2, y3⟩ := HQ26.out.c
    go_wp2_with fail
    refine (HSM.out _ _ R25.out R26.out (Nat.le_refl _)).mono ?_; rintro e wn ⟨rfl, hb⟩
    have R3' := Lib.hid (rdNA R3.out hb)
    have R5' := Lib.hid (rdNA R5.out hb)
    have R6' := Lib.hid (rdNA R6.out hb)
    have R25' := Lib.hid (rdNA R25.out hb)
    have R26' := Lib.hid (rdNA R26.out hb)
    clear R3; have R3 := R3'; clear R3'
    clear R5; have R5 := R5'; clear R5'
    clear R6; have R6 := R6'; clear R6'
    clear R25; have R25 := R25'; clear R25'
    clear R26; have R26 := R26'; clear R26'
    have HQ3' := Lib.hid (HQ3.out.below hb); clear HQ3; have HQ3 := HQ3'; clear HQ3'
    have HQ5' := Lib.hid (HQ5.out.below hb); clear HQ5; have HQ5 := HQ5'; clear HQ5'
    have HQ25' := Lib.hid (HQ25.out.below hb); clear HQ25; have HQ25 := HQ25'; clear HQ25'
    have HQ26' := Lib.hid (HQ26.out.below hb); clear HQ26; have HQ26 := HQ26'; clear HQ26'
    have HB' := Lib.hid (HB.out.trans (hb.mono HB.out.size)); clear HB; have HB := HB'; clear HB'
    clear hb HSM
    clear p0 p1 p2 p3 y0 y1 y2 y3
    clear R25
    clear R26
    clear HQ25
    clear HQ26
    by_cases hc : C7 = 0
    · subst hc
      obtain ⟨e1, e2, e3, e4, e5, e6, e7, e8⟩ := HZA.out rfl
      have hrp : rpA ⟨u3, l3, w3, rs3⟩ ms6 = (⟨u3, l3, w3, rs5⟩, (ms6.length : Int), 0) := by rw [rp_yes e5, e8]
      have hbx := vl_bd e4
      rw [e3] at hbx
      have hwv : IntKind.i64.wrap (vlV ⟨u3, l3, w3, rs3⟩ + x4) = vlV ⟨u3, l3, w3, rs3⟩ + x4 := IntWalk.i64_in _ (by omega)
      unfold RetRp at HRA
      rw [hrp] at HRA
      rw [e1] at HN3
      rw [e2, e3] at HN5
      rw [e4] at HJ5
      have h6 : u5 = u3 ∧ l5 = l3 ∧ w5 = w3 := by injection e6 with a1 a2 a3 a4; exact ⟨a1, a2, a3⟩
      obtain ⟨a1, a2, a3⟩ := h6
      subst a1 a2 a3
      generalize vlV ⟨_, _, _, rs3⟩ = V3 at *
      clear e1 e2 e3 e4 e5 e6 e7 e8 hrp hbx HZA
      dsimp only at HRA
      obtain ⟨p0, p1, p2, p3⟩ := HQ3.out.c
      go_wp2_with fail
      refine (HN3.out _ R3.out).mono ?_; rintro e wn ⟨rfl, hb⟩
      have R3' := Lib.hid (rdNA R3.out hb)
      have R5' := Lib.hid (rdNA R5.out hb)
      have R6' := Lib.hid (rdNA R6.out hb)
      clear R3; have R3 := R3'; clear R3'
      clear R5; have R5 := R5'; clear R5'
      clear R6; have R6 := R6'; clear R6'
      have HQ3' := Lib.hid (HQ3.out.below hb); clear HQ3; have HQ3 := HQ3'; clear HQ3'
      have HQ5' := Lib.hid (HQ5.out.below hb); clear HQ5; have HQ5 := HQ5'; clear HQ5'
      have HB' := Lib.hid (HB.out.trans (hb.mono HB.out.size)); clear HB; have HB := HB'; clear HB'
      clear hb HN3
      clear p0 p1 p2 p3
      obtain ⟨p0, p1, p2, p3⟩ := HQ5.out.c
      go_wp2_with fail
      refine (HN5.out _ R5.out).mono ?_; rintro e wn ⟨rfl, hb⟩
      have R3' := Lib.hid (rdNA R3.out hb)
      have R5' := Lib.hid (rdNA R5.out hb)
      have R6' := Lib.hid (rdNA R6.out hb)
      clear R3; have R3 := R3'; clear R3'
      clear R5; have R5 := R5'; clear R5'
      clear R6; have R6 := R6'; clear R6'
      have HQ3' := Lib.hid (HQ3.out.below hb); clear HQ3; have HQ3 := HQ3'; clear HQ3'
      have HQ5' := Lib.hid (HQ5.out.below hb); clear HQ5; have HQ5 := HQ5'; clear HQ5'
      have HB' := Lib.hid (HB.out.trans (hb.mono HB.out.size)); clear HB; have HB := HB'; clear HB'
      clear hb HN5
      clear p0 p1 p2 p3
      obtain ⟨p0, p1, p2, p3⟩ := HQ3.out.c
      go_wp2_with fail
      refine (HRA.out _ R3.out R6.out).mono ?_; rintro e wn ⟨v37, rfl, ho, hb⟩
      have R370 := Lib.hid (Rd.of_own ho)
      have R3' := Lib.hid (rdNA R3.out hb)
      have R5' := Lib.hid (rdNA R5.out hb)
      have R6' := Lib.hid (rdNA R6.out hb)
      clear R3; have R3 := R3'; clear R3'
      clear R5; have R5 := R5'; clear R5'
      clear R6; have R6 := R6'; clear R6'
      have HQ3' := Lib.hid (HQ3.out.below hb); clear HQ3; have HQ3 := HQ3'; clear HQ3'
      have HQ5' := Lib.hid (HQ5.out.below hb); clear HQ5; have HQ5 := HQ5'; clear HQ5'
      have HB' := Lib.hid (HB.out.trans (hb.mono HB.out.size)); clear HB; have HB := HB'; clear HB'
      have R37 := R370; clear R370
      obtain ⟨A37, c37, rfl⟩ := own_sl ho
      clear ho hb HRA
      clear p0 p1 p2 p3
      go_upto_region 26 with (fail)
      have hbw := (Below.refl wn.heap.size wn).alloc (Nat.le_refl _) (.cells #[.int .i64 u5, .int .i64 l5, .int .i64 w5, .slice A37 rs5.length c37] 26)
      have HQ370 := Lib.hid (mkQ4 wn u5 l5 w5 (.slice A37 rs5.length c37))
      have R3' := Lib.hid (rdNA R3.out hbw)
      have R5' := Lib.hid (rdNA R5.out hbw)
      have R6' := Lib.hid (rdNA R6.out hbw)
      have R37' := Lib.hid (rdNA R37.out hbw)
      clear R3; have R3 := R3'; clear R3'
      clear R5; have R5 := R5'; clear R5'
      clear R6; have R6 := R6'; clear R6'
      clear R37; have R37 := R37'; clear R37'
      have HQ3' := Lib.hid (HQ3.out.below hbw); clear HQ3; have HQ3 := HQ3'; clear HQ3'
      have HQ5' := Lib.hid (HQ5.out.below hbw); clear HQ5; have HQ5 := HQ5'; clear HQ5'
      have HB' := Lib.hid (HB.out.trans (hbw.mono HB.out.size)); clear HB; have HB := HB'; clear HB'
      have HQ37 := HQ370; clear HQ370
      clear hbw
      generalize hq37 : wn.heap.size = q37 at *
      generalize wn.alloc (.cells #[.int .i64 u5, .int .i64 l5, .int .i64 w5, .slice A37 rs5.length c37] 26) = wq at *
      clear hq37
      obtain ⟨p0, p1, p2, p3⟩ := HQ5.out.c
      go_wp2_with fail
      refine (HJ5.out _ R5.out).mono ?_; rintro e wn ⟨rfl, hb⟩
      have R3' := Lib.hid (rdNA R3.out hb)
      have R5' := Lib.hid (rdNA R5.out hb)
      have R6' := Lib.hid (rdNA R6.out hb)
      have R37' := Lib.hid (rdNA R37.out hb)
      clear R3; have R3 := R3'; clear R3'
      clear R5; have R5 := R5'; clear R5'
      clear R6; have R6 := R6'; clear R6'
      clear R37; have R37 := R37'; clear R37'
      have HQ3' := Lib.hid (HQ3.out.below hb); clear HQ3; have HQ3 := HQ3'; clear HQ3'
      have HQ5' := Lib.hid (HQ5.out.below hb); clear HQ5; have HQ5 := HQ5'; clear HQ5'
      have HQ37' := Lib.hid (HQ37.out.below hb); clear HQ37; have HQ37 := HQ37'; clear HQ37'
      have HB' := Lib.hid (HB.out.trans (hb.mono HB.out.size)); clear HB; have HB := HB'; clear HB'
      clear hb HJ5
      clear p0 p1 p2 p3
      obtain ⟨p0, p1, p2, p3⟩ := HQ37.out.c
      obtain ⟨y0, y1, y2, y3⟩ := HQ5.out.c
      go_wp2_with fail
      refine (SameAbS_self _ u5 l5 w5 (.slice A37 rs5.length c37) (.slice A5 rs5.length c5) rs5 _ R37.out R5.out (Nat.le_refl _) (by omega)).mono ?_; rintro e wn ⟨rfl, hb⟩
      have R3' := Lib.hid (rdNA R3.out hb)
      have R5' := Lib.hid (rdNA R5.out hb)
      have R6' := Lib.hid (rdNA R6.out hb)
      have R37' := Lib.hid (rdNA R37.out hb)
      clear R3; have R3 := R3'; clear R3'
      clear R5; have R5 := R5'; clear R5'
      clear R6; have R6 := R6'; clear R6'
      clear R37; have R37 := R37'; clear R37'
      have HQ3' := Lib.hid (HQ3.out.below hb); clear HQ3; have HQ3 := HQ3'; clear HQ3'
      have HQ5' := Lib.hid (HQ5.out.below hb); clear HQ5; have HQ5 := HQ5'; clear HQ5'
      have HQ37' := Lib.hid (HQ37.out.below hb); clear HQ37; have HQ37 := HQ37'; clear HQ37'
      have HB' := Lib.hid (HB.out.trans (hb.mono HB.out.size)); clear HB; have HB := HB'; clear HB'
      clear hb
      clear p0 p1 p2 p3 y0 y1 y2 y3
      go_wp2_with fail
      go_ret
      exact ⟨rfl, HB.out⟩
    · have hc' : (C7 == 0) = false := by rw [beq_eq_false_iff_ne]; exact hc
      have hc2 : (C7 != 0) = true := by rw [bne_iff_ne]; exact hc
      clear hc HZA
      go_wp2_with fail
      go_ret
      exact ⟨rfl, HB.out⟩
  · have hz' : (C28 == 0) = false := by rw [beq_eq_false_iff_ne]; exact hz
    clear hz HLW HEJ HSM
    clear R25
    clear R26
    clear HQ25
    clear HQ26
    by_cases hc : C7 = 0
    · subst hc
      obtain ⟨e1, e2, e3, e4, e5, e6, e7, e8⟩ := HZA.out rfl
      have hrp : rpA ⟨u3, l3, w3, rs3⟩ ms6 = (⟨u3, l3, w3, rs5⟩, (ms6.length : Int), 0) := by rw [rp_yes e5, e8]
      have hbx := vl_bd e4
      rw [e3] at hbx
      have hwv : IntKind.i64.wrap (vlV ⟨u3, l3, w3, rs3⟩ + x4) = vlV ⟨u3, l3, w3, rs3⟩ + x4 := IntWalk.i64_in _ (by omega)
      unfold RetRp at HRA
      rw [hrp] at HRA
      rw [e1] at HN3
      rw [e2, e3] at HN5
      rw [e4] at HJ5
      have h6 : u5 = u3 ∧ l5 = l3 ∧ w5 = w3 := by injection e6 with a1 a2 a3 a4; exact ⟨a1, a2, a3⟩
      obtain ⟨a1, a2, a3⟩ := h6
      subst a1 a2 a3
      generalize vlV ⟨_, _, _, rs3⟩ = V3 at *
      clear e1 e2 e3 e4 e5 e6 e7 e8 hrp hbx HZA
      dsimp only at HRA
      obtain ⟨p0, p1, p2, p3⟩ := HQ3.out.c
      go_wp2_with fail
      refine (HN3.out _ R3.out).mono ?_; rintro e wn ⟨rfl, hb⟩
      have R3' := Lib.hid (rdNA R3.out hb)
      have R5' := Lib.hid (rdNA R5.out hb)
      have R6' := Lib.hid (rdNA R6.out hb)
      clear R3; have R3 := R3'; clear R3'
      clear R5; have R5 := R5'; clear R5'
      clear R6; have R6 := R6'; clear R6'
      have HQ3' := Lib.hid (HQ3.out.below hb); clear HQ3; have HQ3 := HQ3'; clear HQ3'
      have HQ5' := Lib.hid (HQ5.out.below hb); clear HQ5; have HQ5 := HQ5'; clear HQ5'
      have HB' := Lib.hid (HB.out.trans (hb.mono HB.out.size)); clear HB; have HB := HB'; clear HB'
      clear hb HN3
      clear p0 p1 p2 p3
      obtain ⟨p0, p1, p2, p3⟩ := HQ5.out.c
      go_wp2_with fail
      refine (HN5.out _ R5.out).mono ?_; rintro e wn ⟨rfl, hb⟩
      have R3' := Lib.hid (rdNA R3.out hb)
      have R5' := Lib.hid (rdNA R5.out hb)
      have R6' := Lib.hid (rdNA R6.out hb)
      clear R3; have R3 := R3'; clear R3'
      clear R5; have R5 := R5'; clear R5'
      clear R6; have R6 := R6'; clear R6'
      have HQ3' := Lib.hid (HQ3.out.below hb); clear HQ3; have HQ3 := HQ3'; clear HQ3'
      have HQ5' := Lib.hid (HQ5.out.below hb); clear HQ5; have HQ5 := HQ5'; clear HQ5'
      have HB' := Lib.hid (HB.out.trans (hb.mono HB.out.size)); clear HB; have HB := HB'; clear HB'
      clear hb HN5
      clear p0 p1 p2 p3
      obtain ⟨p0, p1, p2, p3⟩ := HQ3.out.c
      go_wp2_with fail
      refine (HRA.out _ R3.out R6.out).mono ?_; rintro e wn ⟨v37, rfl, ho, hb⟩
      have R370 := Lib.hid (Rd.of_own ho)
      have R3' := Lib.hid (rdNA R3.out hb)
      have R5' := Lib.hid (rdNA R5.out hb)
      have R6' := Lib.hid (rdNA R6.out hb)
      clear R3; have R3 := R3'; clear R3'
      clear R5; have R5 := R5'; clear R5'
      clear R6; have R6 := R6'; clear R6'
      have HQ3' := Lib.hid (HQ3.out.below hb); clear HQ3; have HQ3 := HQ3'; clear HQ3'
      have HQ5' := Lib.hid (HQ5.out.below hb); clear HQ5; have HQ5 := HQ5'; clear HQ5'
      have HB' := Lib.hid (HB.out.trans (hb.mono HB.out.size)); clear HB; have HB := HB'; clear HB'
      have R37 := R370; clear R370
      obtain ⟨A37, c37, rfl⟩ := own_sl ho
      clear ho hb HRA
      clear p0 p1 p2 p3
      go_upto_region 26 with (fail)
      have hbw := (Below.refl wn.heap.size wn).alloc (Nat.le_refl _) (.cells #[.int .i64 u5, .int .i64 l5, .int .i64 w5, .slice A37 rs5.length c37] 26)
      have HQ370 := Lib.hid (mkQ4 wn u5 l5 w5 (.slice A37 rs5.length c37))
      have R3' := Lib.hid (rdNA R3.out hbw)
      have R5' := Lib.hid (rdNA R5.out hbw)
      have R6' := Lib.hid (rdNA R6.out hbw)
      have R37' := Lib.hid (rdNA R37.out hbw)
      clear R3; have R3 := R3'; clear R3'
      clear R5; have R5 := R5'; clear R5'
      clear R6; have R6 := R6'; clear R6'
      clear R37; have R37 := R37'; clear R37'
      have HQ3' := Lib.hid (HQ3.out.below hbw); clear HQ3; have HQ3 := HQ3'; clear HQ3'
      have HQ5' := Lib.hid (HQ5.out.below hbw); clear HQ5; have HQ5 := HQ5'; clear HQ5'
      have HB' := Lib.hid (HB.out.trans (hbw.mono HB.out.size)); clear HB; have HB := HB'; clear HB'
      have HQ37 := HQ370; clear HQ370
      clear hbw
      generalize hq37 : wn.heap.size = q37 at *
      generalize wn.alloc (.cells #[.int .i64 u5, .int .i64 l5, .int .i64 w5, .slice A37 rs5.length c37] 26) = wq at *
      clear hq37
      obtain ⟨p0, p1, p2, p3⟩ := HQ5.out.c
      go_wp2_with fail
      refine (HJ5.out _ R5.out).mono ?_; rintro e wn ⟨rfl, hb⟩
      have R3' := Lib.hid (rdNA R3.out hb)
      have R5' := Lib.hid (rdNA R5.out hb)
      have R6' := Lib.hid (rdNA R6.out hb)
      have R37' := Lib.hid (rdNA R37.out hb)
      clear R3; have R3 := R3'; clear R3'
      clear R5; have R5 := R5'; clear R5'
      clear R6; have R6 := R6'; clear R6'
      clear R37; have R37 := R37'; clear R37'
      have HQ3' := Lib.hid (HQ3.out.below hb); clear HQ3; have HQ3 := HQ3'; clear HQ3'
      have HQ5' := Lib.hid (HQ5.out.below hb); clear HQ5; have HQ5 := HQ5'; clear HQ5'
      have HQ37' := Lib.hid (HQ37.out.below hb); clear HQ37; have HQ37 := HQ37'; clear HQ37'
      have HB' := Lib.hid (HB.out.trans (hb.mono HB.out.size)); clear HB; have HB := HB'; clear HB'
      clear hb HJ5
      clear p0 p1 p2 p3
      obtain ⟨p0, p1, p2, p3⟩ := HQ37.out.c
      obtain ⟨y0, y1, y2, y3⟩ := HQ5.out.c
      go_wp2_with fail
      refine (SameAbS_self _ u5 l5 w5 (.slice A37 rs5.length c37) (.slice A5 rs5.length c5) rs5 _ R37.out R5.out (Nat.le_refl _) (by omega)).mono ?_; rintro e wn ⟨rfl, hb⟩
      have R3' := Lib.hid (rdNA R3.out hb)
      have R5' := Lib.hid (rdNA R5.out hb)
      have R6' := Lib.hid (rdNA R6.out hb)
      have R37' := Lib.hid (rdNA R37.out hb)
      clear R3; have R3 := R3'; clear R3'
      clear R5; have R5 := R5'; clear R5'
      clear R6; have R6 := R6'; clear R6'
      clear R37; have R37 := R37'; clear R37'
      have HQ3' := Lib.hid (HQ3.out.below hb); clear HQ3; have HQ3 := HQ3'; clear HQ3'
      have HQ5' := Lib.hid (HQ5.out.below hb); clear HQ5; have HQ5 := HQ5'; clear HQ5'
      have HQ37' := Lib.hid (HQ37.out.below hb); clear HQ37; have HQ37 := HQ37'; clear HQ37'
      have HB' := Lib.hid (HB.out.trans (hb.mono HB.out.size)); clear HB; have HB := HB'; clear HB'
      clear hb
      clear p0 p1 p2 p3 y0 y1 y2 y3
      go_wp2_with fail
      go_ret
      exact ⟨rfl, HB.out⟩
    · have hc' : (C7 == 0) = false := by rw [beq_eq_false_iff_ne]; exact hc
      have hc2 : (C7 != 0) = true := by rw [bne_iff_ne]; exact hc
      clear hc HZA
      go_wp2_with fail
      go_ret
      exact ⟨rfl, HB.out⟩
end Go.Proofs.Ytemcdmjnokpldaa
