/- Merged texts: Ab19, Ab20, Ab21. -/
import Derived.Test.YthemffbkkhaaoaaGLawAbaci6
/- Abaci: lines of a picture, impl. -/
namespace Go.Proofs.Ythemffbkkhaaoaa
open Go.RowKit Go.Joins

/-- the bytes of a line, from the last rod down to rod k -/
def lineL (f : Int × Int → UInt8) (rs : List (Int × Int)) (k : Nat) : List UInt8 := (rs.drop k).reverse.map f
def signC (b : Bool) : UInt8 := if b then 124 else 111
theorem lineL_step {f : Int × Int → UInt8} {rs : List (Int × Int)} {k : Nat} (hk : k < rs.length) : lineL f rs k = lineL f rs (k + 1) ++ [f rs[k]] := by
  unfold lineL
  rw [List.drop_eq_getElem_cons hk, List.reverse_cons, List.map_append]
  rfl
theorem lineL_len (f : Int × Int → UInt8) (rs : List (Int × Int)) (k : Nat) : (lineL f rs k).length = rs.length - k := by unfold lineL; simp
theorem lineL_end (f : Int × Int → UInt8) (rs : List (Int × Int)) : lineL f rs rs.length = [] := by unfold lineL; simp
theorem own_byte {w : World} {base n m : Nat} {v : Value} {l l2 : List UInt8} {c : UInt8} {z : Int} (hz : (c.toNat : Int) = z) (hl : l2 = l ++ [c]) (hm : m = n + 1) (h : w.ownsRow base 5 1 v (n + 1) (l.map byV ++ [.int .u8 z])) : w.ownsRow base 5 1 v m (l2.map byV) := by
  subst hl; subst hm; subst hz
  rw [List.map_append]
  exact h
theorem one_atA {w : World} {g : Nat} {a : Value} {t : TypeId} (h : w.heap[g]? = some (.cells #[a] t (0, 0))) : w.cell? ⟨g, 0, none⟩ = some a := by
  rw [cell_of_row w g 0 _ _ _ h]; rfl
/-- the function value f, called with a rod, answers p -/
structure AskR (W : World) (rs : List (Int × Int)) (fid : FuncId) (cap : Array Value) (p : Int × Int → Bool) : Prop where
  run : ∀ args w, Sem.run Try.prog (callFunc fid args) w = .ok (.enter fid args) w
  call : ∀ x ∈ rs, ∀ wr, Below W.heap.size W wr → Calls Try.prog fid (#[aggRd x] ++ cap) wr fun e w' => e = .returned (.bool (p x)) ∧ Below wr.heap.size wr w'
set_option maxRecDepth 100000 in
set_option maxHeartbeats 3200000 in
theorem beadLine_any (B : Nat) (u l w : Int) (v : Value) (rs : List (Int × Int)) (fid : FuncId) (cap : Array Value) (p : Int × Int → Bool) (W : World) (h : Rd W B v rs.length 2 (rodsC rs)) (hB : B ≤ W.heap.size) (h10 : rs.length ≤ 10) (hf : AskR W rs fid cap p) :
    Calls Try.prog 131 #[aggAb u l w v, .func (.func fid) #[] cap] W fun e w' => e = .returned (.string ⟨(lineL (fun x => signC (p x)) rs 0).toArray⟩) ∧ Below W.heap.size W w' := by
  have H := Lib.hid h
  obtain ⟨_, A, c, rfl, _⟩ := h
  have hb1 := (Below.refl W.heap.size W).alloc (Nat.le_refl _) (.cells #[.int .i64 u, .int .i64 l, .int .i64 w, .slice A rs.length c] 52)
  have HQ := Lib.hid (heap_alloc_new W (.cells #[.int .i64 u, .int .i64 l, .int .i64 w, .slice A rs.length c] 52))
  have hz1 := size_alloc1 W (.cells #[.int .i64 u, .int .i64 l, .int .i64 w, .slice A rs.length c] 52)
  have hrun := hf.run
  have HF := Lib.hid hf.call
  generalize hF : (fun x => signC (p x)) = F
  have HFx := Lib.hid (fun x => (show F x = signC (p x) by rw [← hF]))
  clear hF hf
  go_enter Try.func131, Try.ntmps131
  go_upto_region 1 with (fail)
  generalize W.alloc (.cells #[.int .i64 u, .int .i64 l, .int .i64 w, .slice A rs.length c] 52) = w1 at *
  have hbm := (Below.refl w1.heap.size w1).alloc (Nat.le_refl _) (.cells #[] 5)
  have HB0 := Lib.hid (hb1.trans (hbm.mono (by omega)))
  have ho0 := World.ownsRow_made (base := W.heap.size + 1) (e := 5) (size := 1) w1 #[] 0 (by omega) (by simp [maxLen]) rfl
  have HQ2 := Lib.hid ((hbm.block _ (by omega)).trans HQ.out)
  rw [hz1] at ho0
  have HO := Lib.hid ho0
  obtain ⟨c0, c1, c2, c3⟩ := four_at HQ2.out
  clear hbm ho0 hb1
  go_wp2_with fail
  generalize w1.alloc (.cells #[] 5) = w2 at *
  clear c0 c1 c2 c3 HQ
  go_loopw [5, 6] (fun o i wr => ∃ k : Nat, k ≤ rs.length ∧ i = .int .i64 ((k : Int) - 1) ∧ wr.ownsRow (W.heap.size + 1) 5 1 o (rs.length - k) ((lineL F rs k).map byV) ∧ Below W.heap.size W wr ∧ wr.heap[W.heap.size]? = some (.cells #[.int .i64 u, .int .i64 l, .int .i64 w, .slice A rs.length c] 52 (0, 0))) (fun _ i _ => (intOf i + 1).toNat)
  case atStart => exact ⟨rs.length, Nat.le_refl _, rfl, by rw [lineL_end, Nat.sub_self]; exact HO.out, HB0.out, HQ2.out⟩
  case round =>
    obtain ⟨k, hk, rfl, hown, hbl, hq⟩ := hrel
    have Hbl := Lib.hid hbl
    have Hq := Lib.hid hq
    have hqs := blk_ltN hq
    by_cases hk0 : k = 0
    · subst hk0
      have h1 : ¬ (0 : Int) ≤ ((0 : Nat) : Int) - 1 := by omega
      rw [Nat.sub_zero] at hown
      have hcv := run_conv_own 22 9 5 Try.underlying22 Try.underlying5 Try.underlying9 (W.heap.size + 1) _ _ _ hown
      obtain ⟨A5, c5, rfl⟩ := own_sl hown
      clear hown hq hbl
      go_wp2_with fail
      go_ret
      exact ⟨rfl, Hbl.out⟩
    · obtain ⟨j, rfl⟩ : ∃ j : Nat, k = j + 1 := ⟨k - 1, by omega⟩
      have hj : j < rs.length := by omega
      have e1 : ((j + 1 : Nat) : Int) - 1 = (j : Int) := by omega
      rw [e1]
      have h1 : (0 : Int) ≤ (j : Int) := by omega
      have hj2 : (j : Int) < (rs.length : Int) := by omega
      obtain ⟨c0, c1, c2, c3⟩ := four_at hq
      obtain ⟨b, off, hA, hbB, hcc⟩ := rods_at (H.out.below (hbl.mono hB)) (by omega)
      subst hA
      obtain ⟨r0, r1⟩ := hcc j hj
      have HC := Lib.hid (HF.out rs[j] (List.getElem_mem hj) wr hbl)
      have HS := Lib.hid (lineL_step (f := F) hj)
      have hll := lineL_len F rs (j + 1)
      have HX := Lib.hid (HFx.out rs[j])
      generalize rs[j] = x at *
      obtain ⟨x0, x1⟩ := x
      dsimp only at r0 r1
      have Hown := Lib.hid hown
      obtain ⟨A5, c5, rfl⟩ := own_sl hown
      clear hcc hown hq hbl e1 hk0 c0 c1 c2
      generalize p (x0, x1) = pb at *
      have hw3 : IntKind.i64.wrap ((j : Int) - 1) = (j : Int) - 1 := IntWalk.i64_in _ (by omega)
      go_wp2_with fail
      refine HC.out.mono ?_; rintro e w5 ⟨rfl, hb5⟩
      have Hb5 := Lib.hid (Hbl.out.trans (hb5.mono Hbl.out.size))
      have Ho5 := Lib.hid (own_below Hown.out hb5)
      have Hq5 := Lib.hid ((hb5.block _ hqs).trans Hq.out)
      have hz5 : W.heap.size + 1 ≤ w5.heap.size := by have := hb5.size; omega
      have hz6 := Hb5.out.size
      clear hb5 r0 r1 c3
      have hlen : rs.length - j = rs.length - (j + 1) + 1 := by omega
      cases pb with
      | true =>
        go_wp2_with (at_builtin; refine wpList_apd 22 5 _ 1 1 Try.underlying22 infoBD rfl (by omega) _ _ rfl rfl (W.heap.size + 1) _ (rs.length - (j + 1)) _ rfl Ho5.out #[.int .u8 124] 1 1 rfl rfl (by simp [Value.oneCell']) (by simp [maxLen]; omega) (by omega) hz5 ?_; intro v8 w8 hown8 hg8; have Hb8 := Lib.hid (below_apd Hb5.out Ho5.out hg8 (Nat.le_succ _) hz6); have Ho8 := Lib.hid (own_byte (c := 124) (l2 := lineL F rs j) rfl (by rw [HS.out, HX.out]; rfl) hlen hown8); have Hq8 := Lib.hid ((hg8.block _ (blk_ltN Hq5.out) (fun e => by have := (Ho5.out.lt _ e.symm).1; omega)).trans Hq5.out); clear hown8 hg8)
        go_roundw
        case rel => exact ⟨j, by omega, rfl, Ho8.out, Hb8.out, Hq8.out⟩
        case measure => first | (simp [intOf]; done) | (simp [intOf]; omega)
      | false =>
        go_wp2_with (at_builtin; refine wpList_apd 22 5 _ 1 1 Try.underlying22 infoBD rfl (by omega) _ _ rfl rfl (W.heap.size + 1) _ (rs.length - (j + 1)) _ rfl Ho5.out #[.int .u8 111] 1 1 rfl rfl (by simp [Value.oneCell']) (by simp [maxLen]; omega) (by omega) hz5 ?_; intro v8 w8 hown8 hg8; have Hb8 := Lib.hid (below_apd Hb5.out Ho5.out hg8 (Nat.le_succ _) hz6); have Ho8 := Lib.hid (own_byte (c := 111) (l2 := lineL F rs j) rfl (by rw [HS.out, HX.out]; rfl) hlen hown8); have Hq8 := Lib.hid ((hg8.block _ (blk_ltN Hq5.out) (fun e => by have := (Ho5.out.lt _ e.symm).1; omega)).trans Hq5.out); clear hown8 hg8)
        go_roundw
        case rel => exact ⟨j, by omega, rfl, Ho8.out, Hb8.out, Hq8.out⟩
        case measure => first | (simp [intOf]; done) | (simp [intOf]; omega)
/-- the program's two questions -/
theorem askU_any (u l w i : Int) (v : Value) (x : Int × Int) (qi qa : Nat) (W : World) (h0 : 0 ≤ u) (h4 : u ≤ 4) (h1 : 0 ≤ x.1) (h2 : x.1 ≤ 4) (hi : W.heap[qi]? = some (.cells #[.int .i64 i] 2 (0, 0))) (ha : AbAt W qa u l w v) :
    Calls Try.prog 132 (#[aggRd x] ++ #[.pointer (some ⟨qi, 0, none⟩), .pointer (some ⟨qa, 0, none⟩)]) W fun e w' => e = .returned (.bool (i == u - x.1)) ∧ Below W.heap.size W w' := by
  obtain ⟨x0, x1⟩ := x
  dsimp only at h1 h2
  have hbm := (Below.refl W.heap.size W).alloc (Nat.le_refl _) (.cells #[.int .i64 x0, .int .i64 x1] 143)
  obtain ⟨c0, c1, c2, c3⟩ := ha.below (World.block_lt_of_cell? W _ ha.c0) hbm
  have ci := one_atA ((hbm.block _ (blk_ltN hi)).trans hi)
  obtain ⟨p0, p1, _, _⟩ := blk2 (heap_alloc_new W (.cells #[.int .i64 x0, .int .i64 x1] 143))
  have hw : IntKind.i64.wrap (u - x0) = u - x0 := IntWalk.i64_in _ (by omega)
  have HB := Lib.hid hbm
  clear ha hi c1 c2 c3 hbm
  go_enter Try.func132, Try.ntmps132
  go_wp2_with fail
  go_ret
  exact ⟨rfl, HB.out⟩
theorem askL_any (i : Int) (x : Int × Int) (qi : Nat) (W : World) (hi : W.heap[qi]? = some (.cells #[.int .i64 i] 2 (0, 0))) :
    Calls Try.prog 133 (#[aggRd x] ++ #[.pointer (some ⟨qi, 0, none⟩)]) W fun e w' => e = .returned (.bool (i == x.2)) ∧ Below W.heap.size W w' := by
  obtain ⟨x0, x1⟩ := x
  have hbm := (Below.refl W.heap.size W).alloc (Nat.le_refl _) (.cells #[.int .i64 x0, .int .i64 x1] 143)
  have ci := one_atA ((hbm.block _ (blk_ltN hi)).trans hi)
  obtain ⟨p0, p1, _, _⟩ := blk2 (heap_alloc_new W (.cells #[.int .i64 x0, .int .i64 x1] 143))
  have HB := Lib.hid hbm
  clear hi hbm
  go_enter Try.func133, Try.ntmps133
  go_wp2_with fail
  go_ret
  exact ⟨rfl, HB.out⟩
theorem enterA {f : FuncId} {fn : Func} {c : Code} (hf : Try.prog.funcs[f]? = some fn) (hn : (fn.name == "runtime.NumGoroutine") = false) (hb : fn.body = some c) (args : Array Value) (w : World) : Sem.run Try.prog (callFunc f args) w = .ok (.enter f args) w := by
  have h1 : fn.name ≠ "runtime.NumGoroutine" := by simpa using hn
  simp [callFunc, hf, h1, hb]
def bars (n : Nat) : List UInt8 := List.replicate n 61
theorem bars_succ (n : Nat) : bars (n + 1) = bars n ++ [61] := List.replicate_succ'
set_option maxRecDepth 100000 in
set_option maxHeartbeats 800000 in
theorem repeatE_any (n : Nat) (hn : n ≤ 60) (w : World) : Calls Try.prog 121 #[.string ⟨#[61]⟩, .int .i64 (n : Int)] w fun e w' => e = .returned (.string ⟨(bars n).toArray⟩) ∧ Below w.heap.size w w' := by
  have hb0 := Lib.hid ((Below.refl w.heap.size w).alloc (Nat.le_refl _) (.cells #[] 5))
  have ho0 := Lib.hid (World.ownsRow_made (base := w.heap.size) (e := 5) (size := 1) w #[] 0 (Nat.le_refl _) (by simp [maxLen]) rfl)
  have hmx : (if (n : Int) < 0 then (0 : Int) else (n : Int)) = (n : Int) := if_neg (by omega)
  have hmx0 : ¬ (n : Int) < 0 := by omega
  go_enter Try.func121, Try.ntmps121
  go_wp2_with fail
  go_loopw [5, 9] (fun o i wr => ∃ k : Nat, k ≤ n ∧ i = .int .i64 (k : Int) ∧ wr.ownsRow w.heap.size 5 1 o k ((bars k).map byV) ∧ Below w.heap.size w wr) (fun _ i _ => n - (intOf i).toNat)
  case atStart => exact ⟨0, Nat.zero_le _, rfl, ho0.out, hb0.out⟩
  case round =>
    obtain ⟨k, hk, rfl, hown, hbl⟩ := hrel
    have Hown := Lib.hid hown
    have Hbl := Lib.hid hbl
    obtain ⟨A5, c5, rfl⟩ := own_sl hown
    have hbz := hbl.size
    clear hown hbl
    by_cases hlt : k < n
    · have hlt' : (k : Int) < (n : Int) := by omega
      have Hds := Lib.hid (bars_succ k)
      have r3 : k + (⟨#[61]⟩ : ByteArray).size ≤ maxLen := by show k + 1 ≤ _; simp [maxLen]; omega
      have r2 : k + (⟨#[61]⟩ : ByteArray).size ≤ 140737488355328 := by show k + 1 ≤ _; omega
      go_wp2_with (at_builtin; refine wpList_strD 22 9 5 Try.underlying22 Try.underlying9 infoBD _ _ rfl rfl w.heap.size _ k _ rfl Hown.out ⟨#[61]⟩ rfl r3 r2 hbz ?_; intro v8 w8 hown8 hg8; have Hb8 := Lib.hid (below_apd Hbl.out Hown.out hg8 (Nat.le_refl _) hbz); have Ho8 := Lib.hid (own_byte (c := 61) (z := 61) rfl Hds.out rfl hown8); clear hown8 hg8)
      go_roundw
      case rel => exact ⟨k + 1, by omega, by go_num, Ho8.out, Hb8.out⟩
      case measure => simp [intOf]; omega
    · have hkn : k = n := by omega
      subst hkn
      have hlt' : ¬ (k : Int) < (k : Int) := by omega
      have hcv := run_conv_own 22 9 5 Try.underlying22 Try.underlying5 Try.underlying9 w.heap.size _ _ _ Hown.out
      go_wp2_with fail
      go_ret
      exact ⟨rfl, Hbl.out⟩
end Go.Proofs.Ythemffbkkhaaoaa
/- Abaci: AbacusPicture, impl. -/
namespace Go.Proofs.Ythemffbkkhaaoaa
open Go.RowKit Go.Joins

theorem infoStrA : (Try.prog.info? 9).map (fun i => (i.zero, i.size, i.bytes)) = some (some (.string ⟨#[]⟩), 1, 16) := by kernel_rfl
def picF (a : Ab) (y : Nat) (x : Int × Int) : UInt8 := if (y : Int) ≤ a.u then signC ((y : Int) == a.u - x.1) else if (y : Int) = a.u + 1 then 61 else signC ((y : Int) - a.u - 2 == x.2)
def picL (a : Ab) (y : Nat) : ByteArray := ⟨(lineL (picF a y) a.rods 0).toArray⟩
def picA (a : Ab) : List ByteArray := if okAb a then (List.range (a.u + a.l + 3).toNat).map (picL a) else []
abbrev strC (L : Nat → ByteArray) (n : Nat) : List Value := ((List.range n).map L).map Value.string
theorem strC_succ {w : World} {base n : Nat} {v : Value} {L : Nat → ByteArray} {s : ByteArray} (hs : s = L n) (h : w.ownsRow base 9 1 v (n + 1) (strC L n ++ [.string s])) : w.ownsRow base 9 1 v (n + 1) (strC L (n + 1)) := by
  have e : strC L (n + 1) = strC L n ++ [.string s] := by unfold strC; rw [hs, List.range_succ, List.map_append, List.map_append]; rfl
  rw [e]; exact h
/-- a picture and a code -/
def RetPi (W : World) (a : Ab) (e : Ending) (w' : World) : Prop := ∃ v, e = .returned (.tuple #[v, .int .i64 (vlC a)]) ∧ w'.ownsRow W.heap.size 9 1 v (picA a).length ((picA a).map Value.string) ∧ Below W.heap.size W w'
theorem picU {a : Ab} {y : Nat} (h : (y : Int) ≤ a.u) : picL a y = ⟨(lineL (fun x => signC ((y : Int) == a.u - x.1)) a.rods 0).toArray⟩ := by
  have : picF a y = fun x => signC ((y : Int) == a.u - x.1) := by funext x; unfold picF; rw [if_pos h]
  unfold picL; rw [this]
theorem picM {a : Ab} {y : Nat} (h : (y : Int) = a.u + 1) : picL a y = ⟨(bars a.rods.length).toArray⟩ := by
  have : picF a y = fun _ => 61 := by funext x; unfold picF; rw [if_neg (by omega), if_pos h]
  unfold picL lineL bars
  rw [this, List.drop_zero, List.map_const', List.length_reverse]
theorem picD {a : Ab} {y i : Nat} (h0 : 0 ≤ a.u) (h : (y : Int) = a.u + 2 + i) : picL a y = ⟨(lineL (fun x => signC ((i : Int) == x.2)) a.rods 0).toArray⟩ := by
  have : picF a y = fun x => signC ((i : Int) == x.2) := by
    funext x; unfold picF; rw [if_neg (by omega), if_neg (by omega), show (y : Int) - a.u - 2 = i by omega]
  unfold picL; rw [this]
set_option maxRecDepth 100000 in
set_option maxHeartbeats 6400000 in
theorem PicI_any (B : Nat) (u l w : Int) (v : Value) (rs : List (Int × Int)) (W : World) (h : Rd W B v rs.length 2 (rodsC rs)) (hB : B ≤ W.heap.size) (hm : rs.length ≤ 1048576) : Calls Try.prog 42 #[aggAb u l w v] W (RetPi W ⟨u, l, w, rs⟩) := by
  have hmf : ∀ (fn : Fn) (first cap : Array Value) (w : World), (Instr.makeFunc fn first cap).run Try.prog w = .ok (.func fn first cap) w := fun _ _ _ _ => rfl
  have H := Lib.hid h
  obtain ⟨_, A, c, rfl, _⟩ := h
  have hb1 := (Below.refl W.heap.size W).alloc (Nat.le_refl _) (.cells #[.int .i64 u, .int .i64 l, .int .i64 w, .slice A rs.length c] 52)
  have HA := Lib.hid (AbAt.of (heap_alloc_new W (.cells #[.int .i64 u, .int .i64 l, .int .i64 w, .slice A rs.length c] 52)))
  have HV := Lib.hid (ValidAbI_any B u l w (.slice A rs.length c) rs _ (H.out.below (hb1.mono hB)) (Nat.le_trans hB hb1.size) hm)
  have HB := Lib.hid hb1
  have hlt1 : W.heap.size < (W.alloc (.cells #[.int .i64 u, .int .i64 l, .int .i64 w, .slice A rs.length c] 52)).heap.size := by simp
  obtain ⟨c0, c1, c2, c3⟩ := HA.out
  clear hb1
  cases hok : okAb ⟨u, l, w, rs⟩
  · rw [hok] at HV
    have HP := Lib.hid (show picA ⟨u, l, w, rs⟩ = [] by unfold picA; rw [hok]; rfl)
    have HE := Lib.hid (show vlC ⟨u, l, w, rs⟩ = 1 by unfold vlC; rw [hok]; rfl)
    clear hok
    go_enter Try.func42, Try.ntmps42
    go_wp2_with fail
    refine HV.out.mono ?_; rintro e w2 ⟨rfl, hb2⟩
    have HB2 := Lib.hid (HB.out.trans (hb2.mono HB.out.size))
    clear hb2
    go_wp2_with fail
    go_ret2
    exact ⟨_, by rw [HE.out]; rfl, by rw [HP.out]; exact World.ownsRow_nil _ _ _ _, HB2.out⟩
  rw [hok] at HV
  obtain ⟨hk1, _, hk3, hk4⟩ := okAb_and hok
  obtain ⟨u0, u4, l1, l12, w1', w10, _, _⟩ := kind_bd hk1
  dsimp only at hk3 hk4 u0 u4 l1 l12
  have HRb := Lib.hid (fun k (hk : k < rs.length) => rodOk_bd (ok_get hok hk))
  have HP := Lib.hid (show picA ⟨u, l, w, rs⟩ = (List.range (u + l + 3).toNat).map (picL ⟨u, l, w, rs⟩) by unfold picA; rw [hok]; rfl)
  have HE := Lib.hid (show vlC ⟨u, l, w, rs⟩ = 0 by unfold vlC; rw [hok]; rfl)
  have HPU := Lib.hid (fun y h => picU (a := ⟨u, l, w, rs⟩) (y := y) h)
  have HPM := Lib.hid (fun y h => picM (a := ⟨u, l, w, rs⟩) (y := y) h)
  have HPD := Lib.hid (fun y i h => picD (a := ⟨u, l, w, rs⟩) (y := y) (i := i) u0 h)
  have HBL := Lib.hid (fun fid cap p wx hx hB hf => beadLine_any B u l w (.slice A rs.length c) rs fid cap p wx hx hB (by omega) hf)
  have HRP := Lib.hid (fun wx => repeatE_any rs.length (by omega) wx)
  dsimp only at HRb HPU HPM HPD
  generalize picL ⟨u, l, w, rs⟩ = L at *
  clear hok hk1 hk3 w1' w10
  obtain ⟨un, hun⟩ : ∃ un : Nat, u = (un : Int) := ⟨u.toNat, by omega⟩
  obtain ⟨ln, hln⟩ : ∃ ln : Nat, l = (ln : Int) := ⟨l.toNat, by omega⟩
  subst hun hln
  go_enter Try.func42, Try.ntmps42
  go_wp2_with fail
  refine HV.out.mono ?_; rintro e w2 ⟨rfl, hb2⟩
  have HB2 := Lib.hid (HB.out.trans (hb2.mono HB.out.size))
  have HA2 := Lib.hid (HA.out.below hlt1 hb2)
  have hlt2 : W.heap.size < w2.heap.size := Nat.lt_of_lt_of_le hlt1 hb2.size
  clear hb2 c0 c1 c2 c3 hlt1 HB HA HV
  go_upto_region 3 with (fail)
  have hbm := (Below.refl w2.heap.size w2).alloc (Nat.le_refl _) (.cells #[] 9)
  have ho0 := Lib.hid (World.ownsRow_made (base := w2.heap.size) (e := 9) (size := 1) w2 #[] 0 (Nat.le_refl _) (by simp [maxLen]) rfl)
  obtain ⟨c0, c1, c2, c3⟩ := HA2.out.below hlt2 hbm
  have hb0 := Lib.hid hbm
  clear hbm
  have hwu : IntKind.i64.wrap ((un : Int) + 1) = (un : Int) + 1 := IntWalk.i64_in _ (by omega)
  go_wp2_with fail
  clear c0 c1 c2 c3
  go_loopw [4, 14] (fun o i wr => ∃ y : Nat, y ≤ un + 1 ∧ i = .int .i64 (y : Int) ∧ wr.ownsRow w2.heap.size 9 1 o y (strC L y) ∧ Below w2.heap.size w2 wr) (fun _ i _ => un + 1 - (intOf i).toNat)
  case atStart => exact ⟨0, Nat.zero_le _, rfl, ho0.out, hb0.out⟩
  case round =>
    obtain ⟨y, hy, rfl, hown, hbl⟩ := hrel
    have Hown := Lib.hid hown
    have Hbl := Lib.hid hbl
    obtain ⟨A5, c5, rfl⟩ := own_sl hown
    have hzr := hbl.size
    by_cases hlt : y < un + 1
    · have hlt' : (y : Int) < (un : Int) + 1 := by omega
      have hbm := (Below.refl wr.heap.size wr).alloc (Nat.le_refl _) (.cells #[.int .i64 (y : Int)] 2)
      have HI := Lib.hid (heap_alloc_new wr (.cells #[.int .i64 (y : Int)] 2))
      have Hb5 := Lib.hid (Hbl.out.trans (hbm.mono hzr))
      have Ho5 := Lib.hid (own_below Hown.out hbm)
      have HA5 := Lib.hid (HA2.out.below hlt2 Hb5.out)
      have hz5 := Hb5.out.size
      have hz6 : wr.heap.size < (wr.alloc (.cells #[.int .i64 (y : Int)] 2)).heap.size := by simp
      clear hown hbl hbm
      go_upto_region 7 with (fail)
      generalize wr.alloc (.cells #[.int .i64 (y : Int)] 2) = w5 at *
      generalize wr.heap.size = q5 at *
      have HC := Lib.hid (HBL.out 132 #[.pointer (some ⟨q5, 0, none⟩), .pointer (some ⟨W.heap.size, 0, none⟩)] (fun x => (y : Int) == (un : Int) - x.1) w5 (H.out.below ((HB2.out.trans (Hb5.out.mono HB2.out.size)).mono hB)) (by have := HB2.out.size; omega) ⟨enterA Try.func132 (by kernel_rfl) rfl, fun x hx wx hbx => by obtain ⟨k, hk, rfl⟩ := List.mem_iff_getElem.1 hx; have hb4 := HRb.out k hk; exact askU_any (un : Int) (ln : Int) w (y : Int) (.slice A rs.length c) rs[k] q5 W.heap.size wx u0 u4 (by omega) (by omega) ((hbx.block _ hz6).trans HI.out) (HA5.out.below (by omega) hbx)⟩)
      have HPy := Lib.hid (HPU.out y (by omega))
      rw [← HPy.out] at HC
      obtain ⟨c0, c1, c2, c3⟩ := HA5.out
      go_wp2_with fail
      refine HC.out.mono ?_; rintro e w6 ⟨rfl, hb6⟩
      have Hb6 := Lib.hid (Hb5.out.trans (hb6.mono hz5))
      have Ho6 := Lib.hid (own_below Ho5.out hb6)
      have hz7 := Hb6.out.size
      clear hb6 c0 c1 c2 c3 HC HPy
      generalize hLy : L (y) = s at *
      have HLy := Lib.hid hLy
      clear hLy
      go_wp2_with (at_builtin; refine wpList_apd 42 9 _ 1 16 Try.underlying42 infoStrA rfl (by omega) _ _ rfl rfl w2.heap.size _ (y) _ rfl Ho6.out #[.string s] 1 1 rfl rfl (by simp [Value.oneCell']) (by simp [maxLen]; omega) (by omega) hz7 ?_; intro v8 w8 hown8 hg8; have Hb8 := Lib.hid (below_apd Hb6.out Ho6.out hg8 (Nat.le_refl _) hz7); have Ho8 := Lib.hid (strC_succ HLy.out.symm hown8); clear hown8 hg8)
      go_roundw
      case rel => exact ⟨y + 1, by omega, by go_num, Ho8.out, Hb8.out⟩
      case measure => first | (simp [intOf]; done) | (simp [intOf]; omega)
    · have hyn : y = un + 1 := by omega
      subst hyn
      have hlt' : ¬ ((un + 1 : Nat) : Int) < (un : Int) + 1 := by omega
      obtain ⟨c0, c1, c2, c3⟩ := HA2.out.below hlt2 hbl
      have HPy := Lib.hid (HPM.out (un + 1) (by omega))
      have hwl : IntKind.i64.wrap ((ln : Int) + 1) = (ln : Int) + 1 := IntWalk.i64_in _ (by omega)
      have HRw := Lib.hid (HRP.out wr)
      rw [← HPy.out] at HRw
      clear hown hbl
      go_wp2_with fail
      refine HRw.out.mono ?_; rintro e w6 ⟨rfl, hb6⟩
      have Hb6 := Lib.hid (Hbl.out.trans (hb6.mono hzr))
      have Ho6 := Lib.hid (own_below Hown.out hb6)
      have HA6 := Lib.hid (HA2.out.below hlt2 Hb6.out)
      have hz7 := Hb6.out.size
      clear hb6 c0 c1 c2 c3 HPy HRw
      generalize hLy : L (un + 1) = s at *
      have HLy := Lib.hid hLy
      clear hLy
      go_upto_region 10 with (at_builtin; refine wpList_apd 42 9 _ 1 16 Try.underlying42 infoStrA rfl (by omega) _ _ rfl rfl w2.heap.size _ (un + 1) _ rfl Ho6.out #[.string s] 1 1 rfl rfl (by simp [Value.oneCell']) (by simp [maxLen]; omega) (by omega) hz7 ?_; intro v8 w8 hown8 hg8; have Hb8 := Lib.hid (below_apd Hb6.out Ho6.out hg8 (Nat.le_refl _) hz7); have Ho8 := Lib.hid (strC_succ HLy.out.symm hown8); obtain ⟨A8, c8, rfl⟩ := own_sl hown8; clear hown8 hg8)
      obtain ⟨c0, c1, c2, c3⟩ := HA2.out.below hlt2 Hb8.out
      clear Ho6 Hb6 HA6 Hown Hbl hzr HLy hz7 hb0 ho0
      go_wp2_with fail
      clear c0 c1 c2 c3
      go_loopw [4, 34] (fun o i wr => ∃ j : Nat, j ≤ ln + 1 ∧ i = .int .i64 (j : Int) ∧ wr.ownsRow w2.heap.size 9 1 o (un + 2 + j) (strC L (un + 2 + j)) ∧ Below w2.heap.size w2 wr) (fun _ i _ => ln + 1 - (intOf i).toNat)
      case atStart => exact ⟨0, Nat.zero_le _, rfl, Ho8.out, Hb8.out⟩
      case round =>
        obtain ⟨j, hj, rfl, hown, hbl⟩ := hrel
        have Hown := Lib.hid hown
        have Hbl := Lib.hid hbl
        obtain ⟨A5, c5, rfl⟩ := own_sl hown
        have hzr := hbl.size
        clear Ho8 Hb8
        by_cases hlt : j < ln + 1
        · have hlt' : (j : Int) < (ln : Int) + 1 := by omega
          have hbm := (Below.refl wr.heap.size wr).alloc (Nat.le_refl _) (.cells #[.int .i64 (j : Int)] 2)
          have HI := Lib.hid (heap_alloc_new wr (.cells #[.int .i64 (j : Int)] 2))
          have Hb5 := Lib.hid (Hbl.out.trans (hbm.mono hzr))
          have Ho5 := Lib.hid (own_below Hown.out hbm)
          have HA5 := Lib.hid (HA2.out.below hlt2 Hb5.out)
          have hz5 := Hb5.out.size
          have hz6 : wr.heap.size < (wr.alloc (.cells #[.int .i64 (j : Int)] 2)).heap.size := by simp
          clear hown hbl hbm
          go_upto_region 13 with (fail)
          generalize wr.alloc (.cells #[.int .i64 (j : Int)] 2) = w5 at *
          generalize wr.heap.size = q5 at *
          have HC := Lib.hid (HBL.out 133 #[.pointer (some ⟨q5, 0, none⟩)] (fun x => (j : Int) == x.2) w5 (H.out.below ((HB2.out.trans (Hb5.out.mono HB2.out.size)).mono hB)) (by have := HB2.out.size; omega) ⟨enterA Try.func133 (by kernel_rfl) rfl, fun x _ wx hbx => askL_any (j : Int) x q5 wx ((hbx.block _ hz6).trans HI.out)⟩)
          have HPy := Lib.hid (HPD.out (un + 2 + j) j (by omega))
          rw [← HPy.out] at HC
          obtain ⟨c0, c1, c2, c3⟩ := HA5.out
          go_wp2_with fail
          refine HC.out.mono ?_; rintro e w6 ⟨rfl, hb6⟩
          have Hb6 := Lib.hid (Hb5.out.trans (hb6.mono hz5))
          have Ho6 := Lib.hid (own_below Ho5.out hb6)
          have hz7 := Hb6.out.size
          clear hb6 c0 c1 c2 c3 HC HPy
          generalize hLy : L (un + 2 + j) = s at *
          have HLy := Lib.hid hLy
          clear hLy
          go_wp2_with (at_builtin; refine wpList_apd 42 9 _ 1 16 Try.underlying42 infoStrA rfl (by omega) _ _ rfl rfl w2.heap.size _ (un + 2 + j) _ rfl Ho6.out #[.string s] 1 1 rfl rfl (by simp [Value.oneCell']) (by simp [maxLen]; omega) (by omega) hz7 ?_; intro v8 w8 hown8 hg8; have Hb8 := Lib.hid (below_apd Hb6.out Ho6.out hg8 (Nat.le_refl _) hz7); have Ho8 := Lib.hid (strC_succ HLy.out.symm hown8); clear hown8 hg8)
          go_roundw
          case rel => exact ⟨j + 1, by omega, by go_num, Ho8.out, Hb8.out⟩
          case measure => first | (simp [intOf]; done) | (simp [intOf]; omega)
        · have hjn : j = ln + 1 := by omega
          subst hjn
          have hlt' : ¬ ((ln + 1 : Nat) : Int) < (ln : Int) + 1 := by omega
          have HZ := Lib.hid (show (picA ⟨(un : Int), (ln : Int), w, rs⟩).length = un + 2 + (ln + 1) by rw [HP.out, List.length_map, List.length_range]; omega)
          have HY := Lib.hid (show picA ⟨(un : Int), (ln : Int), w, rs⟩ = (List.range (un + 2 + (ln + 1))).map L by rw [HP.out, show ((un : Int) + (ln : Int) + 3).toNat = un + 2 + (ln + 1) by omega])
          have HF := Lib.hid (HB2.out.trans (Hbl.out.mono HB2.out.size))
          have hfl := HB2.out.size
          clear hown hbl
          go_wp2_with fail
          go_ret2
          exact ⟨_, by rw [HE.out]; rfl, by rw [HZ.out, HY.out]; exact ownsRow_le Hown.out hfl, HF.out⟩
end Go.Proofs.Ythemffbkkhaaoaa
/- Abaci: AbacusPicture, spec. -/
namespace Go.Proofs.Ythemffbkkhaaoaa
open Go.RowKit Go.Joins

theorem l03Sign_any (b : Bool) (w : World) : Calls Try.prog 134 #[.bool b] w fun e w' => e = .returned (.int .u8 ((signC (!b)).toNat : Int)) ∧ w' = w := by
  cases b with
  | true =>
    go_enter Try.func134, Try.ntmps134
    go_wp2_with fail
    go_ret
    exact ⟨rfl, rfl⟩
  | false =>
    go_enter Try.func134, Try.ntmps134
    go_wp2_with fail
    go_ret
    exact ⟨rfl, rfl⟩
theorem picF_cases (a : Ab) (y : Nat) (x : Int × Int) : ((y : Int) ≤ a.u ∧ picF a y x = signC ((y : Int) == a.u - x.1)) ∨ (a.u < (y : Int) ∧ (y : Int) = a.u + 1 ∧ picF a y x = 61) ∨ (a.u < (y : Int) ∧ (y : Int) ≠ a.u + 1 ∧ picF a y x = signC ((y : Int) - a.u - 2 == x.2)) := by
  unfold picF
  by_cases h : (y : Int) ≤ a.u
  · exact .inl ⟨h, if_pos h⟩
  · rw [if_neg h]
    by_cases h2 : (y : Int) = a.u + 1
    · exact .inr (.inl ⟨by omega, h2, if_pos h2⟩)
    · exact .inr (.inr ⟨by omega, h2, if_neg h2⟩)
set_option maxRecDepth 100000 in
set_option maxHeartbeats 6400000 in
theorem PicS_any (B : Nat) (u l w : Int) (v : Value) (rs : List (Int × Int)) (W : World) (h : Rd W B v rs.length 2 (rodsC rs)) (hB : B ≤ W.heap.size) (hm : rs.length ≤ 1048576) : Calls Try.prog 43 #[aggAb u l w v] W (RetPi W ⟨u, l, w, rs⟩) := by
  have H := Lib.hid h
  obtain ⟨_, A, c, rfl, _⟩ := h
  have hb1 := (Below.refl W.heap.size W).alloc (Nat.le_refl _) (.cells #[.int .i64 u, .int .i64 l, .int .i64 w, .slice A rs.length c] 52)
  have HA := Lib.hid (AbAt.of (heap_alloc_new W (.cells #[.int .i64 u, .int .i64 l, .int .i64 w, .slice A rs.length c] 52)))
  have HV := Lib.hid (l03Ok_any W.heap.size B u l w (.slice A rs.length c) rs _ HA.out (H.out.below (hb1.mono hB)) hm)
  have HB := Lib.hid hb1
  have hlt1 : W.heap.size < (W.alloc (.cells #[.int .i64 u, .int .i64 l, .int .i64 w, .slice A rs.length c] 52)).heap.size := by simp
  clear hb1
  cases hok : okAb ⟨u, l, w, rs⟩
  · rw [hok] at HV
    have HP := Lib.hid (show picA ⟨u, l, w, rs⟩ = [] by unfold picA; rw [hok]; rfl)
    have HE := Lib.hid (show vlC ⟨u, l, w, rs⟩ = 1 by unfold vlC; rw [hok]; rfl)
    clear hok
    go_enter Try.func43, Try.ntmps43
    go_wp2_with fail
    refine HV.out.mono ?_; rintro e w2 ⟨rfl, n2, hw2⟩
    have HB2 := Lib.hid (HB.out.trans ((below_eqA hw2).mono HB.out.size))
    clear hw2
    go_wp2_with fail
    go_ret2
    exact ⟨_, by rw [HE.out]; rfl, by rw [HP.out]; exact World.ownsRow_nil _ _ _ _, HB2.out⟩
  rw [hok] at HV
  obtain ⟨hk1, _, hk3, hk4⟩ := okAb_and hok
  obtain ⟨u0, u4, l1, l12, w1', w10, _, _⟩ := kind_bd hk1
  dsimp only at hk3 hk4 u0 u4 l1 l12
  have HRb := Lib.hid (fun k (hk : k < rs.length) => rodOk_bd (ok_get hok hk))
  have HP := Lib.hid (show picA ⟨u, l, w, rs⟩ = (List.range (u + l + 3).toNat).map (picL ⟨u, l, w, rs⟩) by unfold picA; rw [hok]; rfl)
  have HE := Lib.hid (show vlC ⟨u, l, w, rs⟩ = 0 by unfold vlC; rw [hok]; rfl)
  have HPL := Lib.hid (fun y => (show picL ⟨u, l, w, rs⟩ y = ⟨(lineL (picF ⟨u, l, w, rs⟩ y) rs 0).toArray⟩ from rfl))
  have HPC := Lib.hid (fun y x => picF_cases ⟨u, l, w, rs⟩ y x)
  dsimp only at HRb HPC
  generalize picL ⟨u, l, w, rs⟩ = L at *
  generalize picF ⟨u, l, w, rs⟩ = FF at *
  clear hok hk1 hk3 w1' w10
  obtain ⟨un, hun⟩ : ∃ un : Nat, u = (un : Int) := ⟨u.toNat, by omega⟩
  obtain ⟨ln, hln⟩ : ∃ ln : Nat, l = (ln : Int) := ⟨l.toNat, by omega⟩
  subst hun hln
  go_enter Try.func43, Try.ntmps43
  go_wp2_with fail
  refine HV.out.mono ?_; rintro e w2 ⟨rfl, n2, hw2⟩
  have HB2 := Lib.hid (HB.out.trans ((below_eqA hw2).mono HB.out.size))
  have HA2 := Lib.hid (HA.out.below hlt1 (below_eqA hw2))
  have hlt2 : W.heap.size < w2.heap.size := Nat.lt_of_lt_of_le hlt1 (below_eqA hw2).size
  clear hw2 hlt1 HB HA HV
  obtain ⟨c0, c1, c2, c3⟩ := HA2.out
  have hwu : IntKind.i64.wrap ((un : Int) + (ln : Int)) = (un : Int) + (ln : Int) := IntWalk.i64_in _ (by omega)
  have hwv : IntKind.i64.wrap ((un : Int) + (ln : Int) + 3) = (un : Int) + (ln : Int) + 3 := IntWalk.i64_in _ (by omega)
  go_upto_region 4 with (fail)
  have hbm := (Below.refl w2.heap.size w2).alloc (Nat.le_refl _) (.cells #[] 9)
  have ho0 := Lib.hid (World.ownsRow_made (base := w2.heap.size) (e := 9) (size := 1) w2 #[] 0 (Nat.le_refl _) (by simp [maxLen]) rfl)
  have hb0 := Lib.hid hbm
  clear hbm c0 c1 c2 c3
  go_wp2_with fail
  go_loopw [5, 6] (fun o i wr => ∃ y : Nat, y ≤ un + ln + 3 ∧ i = .int .i64 (y : Int) ∧ wr.ownsRow w2.heap.size 9 1 o y (strC L y) ∧ Below w2.heap.size w2 wr) (fun _ i _ => un + ln + 3 - (intOf i).toNat)
  case atStart => exact ⟨0, Nat.zero_le _, rfl, ho0.out, hb0.out⟩
  case round =>
    obtain ⟨y, hy, rfl, hown, hbl⟩ := hrel
    have Hown := Lib.hid hown
    have Hbl := Lib.hid hbl
    obtain ⟨A5, c5, rfl⟩ := own_sl hown
    have hzr := hbl.size
    by_cases hlt : y < un + ln + 3
    · have hlt' : (y : Int) < (un : Int) + (ln : Int) + 3 := by omega
      rename World => w0
      have hbm := (Below.refl w0.heap.size w0).alloc (Nat.le_refl _) (.cells #[] 5)
      have Ho0 := Lib.hid (World.ownsRow_made (base := w0.heap.size) (e := 5) (size := 1) w0 #[] 0 (Nat.le_refl _) (by simp [maxLen]) rfl)
      have Hb0 := Lib.hid hbm
      have HA5 := Lib.hid (HA2.out.below hlt2 hbl)
      obtain ⟨c0, c1, c2, c3⟩ := HA5.out.below (by omega) hbm
      have HBW := Lib.hid (HB2.out.trans (hbl.mono HB2.out.size))
      have hzw : W.heap.size < w0.heap.size := by omega
      have hLy := HPL.out y
      have HFc := Lib.hid (HPC.out y)
      have HSy := Lib.hid (fun j (hj : j < rs.length) => lineL_step (f := FF y) hj)
      have Hll := Lib.hid (fun j => lineL_len (FF y) rs j)
      generalize FF y = F at *
      clear hown hbl hbm
      go_wp2_with fail
      clear c0 c1 c2 c3
      go_loopw [7, 8] (fun o i wx => ∃ k : Nat, k ≤ rs.length ∧ i = .int .i64 ((k : Int) - 1) ∧ wx.ownsRow w0.heap.size 5 1 o (rs.length - k) ((lineL F rs k).map byV) ∧ Below w0.heap.size w0 wx) (fun _ i _ => (intOf i + 1).toNat)
      case atStart => exact ⟨rs.length, Nat.le_refl _, rfl, by rw [lineL_end, Nat.sub_self]; exact Ho0.out, Hb0.out⟩
      case round =>
        obtain ⟨k, hk, rfl, hown, hbl⟩ := hrel
        have Hbx := Lib.hid hbl
        by_cases hk0 : k = 0
        · subst hk0
          have h1 : ¬ (0 : Int) ≤ ((0 : Nat) : Int) - 1 := by omega
          rw [Nat.sub_zero] at hown
          have hcv := run_conv_own 22 9 5 Try.underlying22 Try.underlying5 Try.underlying9 w0.heap.size _ _ _ hown
          rw [← hLy] at hcv
          obtain ⟨A7, c7, rfl⟩ := own_sl hown
          have Hb6 := Lib.hid (Hbl.out.trans (hbl.mono hzr))
          have Ho6 := Lib.hid (own_below Hown.out hbl)
          have hz7 := Hb6.out.size
          clear hown hbl
          generalize hLs : L y = s at *
          have HLy := Lib.hid hLs
          clear hLs hLy
          go_wp2_with (at_builtin; refine wpList_apd 42 9 _ 1 16 Try.underlying42 infoStrA rfl (by omega) _ _ rfl rfl w2.heap.size _ y _ rfl Ho6.out #[.string s] 1 1 rfl rfl (by simp [Value.oneCell']) (by simp [maxLen]; omega) (by omega) hz7 ?_; intro v8 w8 hown8 hg8; have Hb8 := Lib.hid (below_apd Hb6.out Ho6.out hg8 (Nat.le_refl _) hz7); have Ho8 := Lib.hid (strC_succ HLy.out.symm hown8); clear hown8 hg8)
          go_roundw
          case rel => exact ⟨y + 1, by omega, by go_num, Ho8.out, Hb8.out⟩
          case measure => first | (simp [intOf]; done) | (simp [intOf]; omega)
        · obtain ⟨j, rfl⟩ : ∃ j : Nat, k = j + 1 := ⟨k - 1, by omega⟩
          have hj : j < rs.length := by omega
          have e1 : ((j + 1 : Nat) : Int) - 1 = (j : Int) := by omega
          rw [e1]
          have h1 : (0 : Int) ≤ (j : Int) := by omega
          have hj2 : (j : Int) < (rs.length : Int) := by omega
          obtain ⟨b, off, hA, hbB, hcc⟩ := rods_at (H.out.below ((HBW.out.trans (hbl.mono HBW.out.size)).mono hB)) (by omega)
          subst hA
          obtain ⟨r0, r1⟩ := hcc j hj
          have HS := Lib.hid (HSy.out j hj)
          have hll := Hll.out (j + 1)
          have HXc := HFc.out rs[j]
          have hxb := HRb.out j hj
          generalize hgx : F rs[j] = ch at *
          generalize rs[j] = x at *
          obtain ⟨x0, x1⟩ := x
          dsimp only at r0 r1 HXc hxb
          have Hown7 := Lib.hid hown
          obtain ⟨A7, c7, rfl⟩ := own_sl hown
          clear hcc hown e1 hk0 hgx
          have hbm := (Below.refl wr.heap.size wr).alloc (Nat.le_refl _) (.cells #[.int .i64 x0, .int .i64 x1] 143)
          have hz5 := hbl.size
          have Hb5 := Lib.hid (Hbx.out.trans (hbm.mono hz5))
          have Ho5 := Lib.hid (own_below Hown7.out hbm)
          have hlen : rs.length - j = rs.length - (j + 1) + 1 := by omega
          have hz6 := Hb5.out.size
          obtain ⟨p0, p1, _, _⟩ := blk2 (heap_alloc_new wr (.cells #[.int .i64 x0, .int .i64 x1] 143))
          have hw3 : IntKind.i64.wrap ((j : Int) - 1) = (j : Int) - 1 := IntWalk.i64_in _ (by omega)
          have hw4 : IntKind.i64.wrap ((un : Int) - x0) = (un : Int) - x0 := IntWalk.i64_in _ (by omega)
          have hw5 : IntKind.i64.wrap ((un : Int) + 1) = (un : Int) + 1 := IntWalk.i64_in _ (by omega)
          have hw6 : IntKind.i64.wrap ((y : Int) - (un : Int)) = (y : Int) - (un : Int) := IntWalk.i64_in _ (by omega)
          have hw7 : IntKind.i64.wrap ((y : Int) - (un : Int) - 2) = (y : Int) - (un : Int) - 2 := IntWalk.i64_in _ (by omega)
          have HAx := Lib.hid (HA5.out.below hzw Hb5.out)
          have HAw := Lib.hid (HA5.out.below hzw hbl)
          obtain ⟨c0, c1, c2, c3⟩ := HAw.out
          clear hbl hbm
          go_upto_region 14 with (fail)
          generalize wr.alloc (.cells #[.int .i64 x0, .int .i64 x1] 143) = w5 at *
          generalize wr.heap.size = q5 at *
          clear c0 c1 c2 c3 r0 r1
          obtain ⟨c0, c1, c2, c3⟩ := HAx.out
          rcases HXc with ⟨g1, g2⟩ | ⟨g0, g1, g2⟩ | ⟨g0, g1, g2⟩
          · have HG := Lib.hid g2
            have HSg := Lib.hid (fun wx => l03Sign_any ((y : Int) != (un : Int) - x0) wx)
            clear g2
            go_wp2_with fail
            refine (HSg.out _).mono ?_; rintro e w6 ⟨rfl, rfl⟩
            go_wp2_with (at_builtin; refine wpList_apd 22 5 _ 1 1 Try.underlying22 infoBD rfl (by omega) _ _ rfl rfl w0.heap.size _ (rs.length - (j + 1)) _ rfl Ho5.out #[.int .u8 (((signC (!((y : Int) != (un : Int) - x0))).toNat : Int))] 1 1 rfl rfl (by simp [Value.oneCell']) (by simp [maxLen]; omega) (by omega) hz6 ?_; intro v8 w8 hown8 hg8; have Hb8 := Lib.hid (below_apd Hb5.out Ho5.out hg8 (Nat.le_refl _) hz6); have Ho8 := Lib.hid (own_byte (c := signC (!((y : Int) != (un : Int) - x0))) (l2 := lineL F rs j) rfl (by rw [HS.out, HG.out, bne, Bool.not_not]) hlen hown8); clear hown8 hg8)
            go_roundw
            case rel => exact ⟨j, by omega, rfl, Ho8.out, Hb8.out⟩
            case measure => first | (simp [intOf]; done) | (simp [intOf]; omega)
          · have HG := Lib.hid g2
            have g1' : ¬ (y : Int) ≤ (un : Int) := by omega
            clear g2
            go_wp2_with (at_builtin; refine wpList_apd 22 5 _ 1 1 Try.underlying22 infoBD rfl (by omega) _ _ rfl rfl w0.heap.size _ (rs.length - (j + 1)) _ rfl Ho5.out #[.int .u8 (61)] 1 1 rfl rfl (by simp [Value.oneCell']) (by simp [maxLen]; omega) (by omega) hz6 ?_; intro v8 w8 hown8 hg8; have Hb8 := Lib.hid (below_apd Hb5.out Ho5.out hg8 (Nat.le_refl _) hz6); have Ho8 := Lib.hid (own_byte (c := 61) (l2 := lineL F rs j) rfl (by rw [HS.out, HG.out]) hlen hown8); clear hown8 hg8)
            go_roundw
            case rel => exact ⟨j, by omega, rfl, Ho8.out, Hb8.out⟩
            case measure => first | (simp [intOf]; done) | (simp [intOf]; omega)
          · have HG := Lib.hid g2
            have g1' : ¬ (y : Int) ≤ (un : Int) := by omega
            have g2' : ((y : Int) == (un : Int) + 1) = false := by rw [beq_eq_false_iff_ne]; exact g1
            have HSg := Lib.hid (fun wx => l03Sign_any ((y : Int) - (un : Int) - 2 != x1) wx)
            clear g2 g1
            go_wp2_with fail
            refine (HSg.out _).mono ?_; rintro e w6 ⟨rfl, rfl⟩
            go_wp2_with (at_builtin; refine wpList_apd 22 5 _ 1 1 Try.underlying22 infoBD rfl (by omega) _ _ rfl rfl w0.heap.size _ (rs.length - (j + 1)) _ rfl Ho5.out #[.int .u8 (((signC (!((y : Int) - (un : Int) - 2 != x1))).toNat : Int))] 1 1 rfl rfl (by simp [Value.oneCell']) (by simp [maxLen]; omega) (by omega) hz6 ?_; intro v8 w8 hown8 hg8; have Hb8 := Lib.hid (below_apd Hb5.out Ho5.out hg8 (Nat.le_refl _) hz6); have Ho8 := Lib.hid (own_byte (c := signC (!((y : Int) - (un : Int) - 2 != x1))) (l2 := lineL F rs j) rfl (by rw [HS.out, HG.out, bne, Bool.not_not]) hlen hown8); clear hown8 hg8)
            go_roundw
            case rel => exact ⟨j, by omega, rfl, Ho8.out, Hb8.out⟩
            case measure => first | (simp [intOf]; done) | (simp [intOf]; omega)
    · have hyn : y = un + ln + 3 := by omega
      subst hyn
      have hlt' : ¬ ((un + ln + 3 : Nat) : Int) < (un : Int) + (ln : Int) + 3 := by omega
      have HZ := Lib.hid (show (picA ⟨(un : Int), (ln : Int), w, rs⟩).length = un + ln + 3 by rw [HP.out, List.length_map, List.length_range]; omega)
      have HY := Lib.hid (show picA ⟨(un : Int), (ln : Int), w, rs⟩ = (List.range (un + ln + 3)).map L by rw [HP.out, show ((un : Int) + (ln : Int) + 3).toNat = un + ln + 3 by omega])
      have HF := Lib.hid (HB2.out.trans (Hbl.out.mono HB2.out.size))
      have hfl := HB2.out.size
      clear hown hbl
      go_wp2_with fail
      go_ret2
      exact ⟨_, by rw [HE.out]; rfl, by rw [HZ.out, HY.out]; exact ownsRow_le Hown.out hfl, HF.out⟩
end Go.Proofs.Ythemffbkkhaaoaa
