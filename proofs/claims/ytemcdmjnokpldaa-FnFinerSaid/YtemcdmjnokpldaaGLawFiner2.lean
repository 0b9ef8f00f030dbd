/- Merged texts: Ro1, U1, Fi2, Lib3, Lib7, Fi3, U2, Fi4, Fi5. -/
import Derived.Test.YtemcdmjnokpldaaGLawFiner1
import Derived.Deep.RegionHeld3
/- Rounding, part 1: rounded values and patterns of errors, in plain words. -/
namespace Go.Proofs.Ytemcdmjnokpldaa

/-- how many units a value has, rounded -/
def ru (v u : Int) : Int := (2 * v + u) / (2 * u)
theorem ru_bd {v u : Int} (hu : 0 < u) : 2 * (ru v u * u) ≤ 2 * v + u ∧ 2 * v - u < 2 * (ru v u * u) := by
  have h1 := Int.mul_ediv_add_emod (2 * v + u) (2 * u)
  have h2 := Int.emod_nonneg (2 * v + u) (show 2 * u ≠ 0 by omega)
  have h3 := Int.emod_lt_of_pos (2 * v + u) (show 0 < 2 * u by omega)
  have e : 2 * u * ((2 * v + u) / (2 * u)) = 2 * (ru v u * u) := by
    unfold ru
    rw [Int.mul_assoc, Int.mul_comm u]
  rw [e] at h1
  omega
theorem ru_le {v u M : Int} (hu : 1 ≤ u) (hM : 0 ≤ M) (hv : v ≤ M) : ru v u ≤ M := by
  refine Int.le_of_lt_add_one (Int.ediv_lt_of_lt_mul (by omega) ?_)
  have h1 : M ≤ M * u := by
    have := Int.mul_le_mul_of_nonneg_left hu hM
    rwa [Int.mul_one] at this
  have e : (M + 1) * (2 * u) = 2 * (M * u) + 2 * u := by rw [Int.add_mul, ← Int.mul_assoc, Int.mul_comm M 2, Int.mul_assoc, Int.one_mul]
  rw [e]; omega
theorem ru_ge {v u M : Int} (hu : 1 ≤ u) (hM : 0 ≤ M) (hv : -M ≤ v) : -M ≤ ru v u := by
  refine Int.le_ediv_of_mul_le (by omega) ?_
  have h1 : M ≤ M * u := by
    have := Int.mul_le_mul_of_nonneg_left hu hM
    rwa [Int.mul_one] at this
  have e : -M * (2 * u) = -(2 * (M * u)) := by rw [Int.neg_mul, ← Int.mul_assoc, Int.mul_comm M 2, Int.mul_assoc]
  rw [e]; omega
/-- Go's quotient and remainder, turned to a quotient that is rounded down -/
theorem fl_div {a b : Int} (hb : 0 < b) : (if a.tmod b < 0 then a.tdiv b - 1 else a.tdiv b) = a / b := by
  have h1 := Int.tmod_add_mul_tdiv a b
  have h2 : -b < a.tmod b := by
    have h4 := Int.natAbs_tmod a b
    have h5 := Nat.mod_lt a.natAbs (show 0 < b.natAbs by omega)
    omega
  have h3 : a.tmod b < b := Int.tmod_lt_of_pos a hb
  split
  · rename_i h
    exact ((Int.ediv_emod_unique (q := a.tdiv b - 1) (r := a.tmod b + b) hb).2 ⟨by rw [Int.mul_sub, Int.mul_one]; omega, by omega, by omega⟩).1.symm
  · exact ((Int.ediv_emod_unique (q := a.tdiv b) (r := a.tmod b) hb).2 ⟨by omega, by omega, by omega⟩).1.symm
/-- errors that make the error of a difference greatest, for the error 1 -/
def wp (n : Nat) (k : Nat) : Int := if (n - k) % 2 = 1 then -1 else 1
theorem wp_top : ∀ n, n < 9 → Dn n (wp n) 0 = ((2 ^ n : Nat) : Int) := by decide +kernel
theorem Dn_mul (f : Nat → Int) (s : Int) : ∀ m, Dn m (fun x => s * f x) = fun i => s * Dn m f i
  | 0 => rfl
  | m + 1 => by
    show D (Dn m (fun x => s * f x)) = _
    rw [Dn_mul f s m]
    funext i
    show s * Dn m f (i + 1) - s * Dn m f i = s * (Dn m f (i + 1) - Dn m f i)
    rw [Int.mul_sub]
end Go.Proofs.Ytemcdmjnokpldaa
/- Errors of tables, part 1: small tests, and values rounded to units. -/
namespace Go.Proofs.Ytemcdmjnokpldaa
open Go.RowKit Go.Joins

theorem isValue_c (x : Int) (w : World) : Calls Try.prog 148 #[.int .i64 x] w fun e w' => e = .returned (.bool (inB x (-1000000000000) 1000000000000)) ∧ w = w' := by
  have HB := Lib.hid (fun wx => between_any x (-1000000000000) 1000000000000 wx)
  go_enter Try.func148, Try.ntmps148
  go_wp2_with fail
  refine (HB.out _).mono ?_; rintro e w1 ⟨rfl, rfl⟩
  go_wp2_with fail
  go_ret
  exact ⟨rfl, rfl⟩
theorem l17Most_c (x : Int) (w : World) : Calls Try.prog 144 #[.int .i64 x] w fun e w' => e = .returned (.bool (inB x (-1000000000000) 1000000000000)) ∧ w = w' := by
  have HB := Lib.hid (fun wx => l00In_any x (-1000000000000) 1000000000000 wx)
  go_enter Try.func144, Try.ntmps144
  go_wp2_with fail
  refine (HB.out _).mono ?_; rintro e w1 ⟨rfl, rfl⟩
  go_wp2_with fail
  go_ret
  exact ⟨rfl, rfl⟩
theorem l00Max_c (a b : Int) (w : World) : Calls Try.prog 141 #[.int .i64 a, .int .i64 b] w fun e w' => e = .returned (.int .i64 (max a b)) ∧ w = w' := by
  by_cases h : b < a
  · have e : max a b = a := by omega
    rw [e]
    go_enter Try.func141, Try.ntmps141
    go_wp2_with fail
    go_ret
    exact ⟨rfl, rfl⟩
  · have e : max a b = b := by omega
    rw [e]
    go_enter Try.func141, Try.ntmps141
    go_wp2_with fail
    go_ret
    exact ⟨rfl, rfl⟩
theorem l00Min_c (a b : Int) (w : World) : Calls Try.prog 159 #[.int .i64 a, .int .i64 b] w fun e w' => e = .returned (.int .i64 (min a b)) ∧ w = w' := by
  by_cases h : a < b
  · have e : min a b = a := by omega
    rw [e]
    go_enter Try.func159, Try.ntmps159
    go_wp2_with fail
    go_ret
    exact ⟨rfl, rfl⟩
  · have e : min a b = b := by omega
    rw [e]
    go_enter Try.func159, Try.ntmps159
    go_wp2_with fail
    go_ret
    exact ⟨rfl, rfl⟩
theorem l03Size_c (x : Int) (w : World) (h1 : -4611686018427387904 ≤ x) (h2 : x ≤ 4611686018427387904) : Calls Try.prog 84 #[.int .i64 x] w fun e w' => e = .returned (.int .i64 (x.natAbs : Int)) ∧ w = w' := by
  have HM := Lib.hid (fun wx => l00Max_c x (-x) wx)
  have e : max x (-x) = (x.natAbs : Int) := by omega
  rw [e] at HM
  clear e
  go_enter Try.func84, Try.ntmps84
  go_wp2_with fail
  refine (HM.out _).mono ?_; rintro e w1 ⟨rfl, rfl⟩
  go_wp2_with fail
  go_ret
  exact ⟨rfl, rfl⟩

theorem td_bd {a b : Int} (_hb : 1 ≤ b) (h : -4611686018427387904 ≤ a ∧ a ≤ 4611686018427387904) : -4611686018427387904 ≤ a.tdiv b ∧ a.tdiv b ≤ 4611686018427387904 := by
  have h1 : (a.tdiv b).natAbs ≤ a.natAbs := by rw [Int.natAbs_tdiv]; exact Nat.div_le_self _ _
  omega
def okU (v u : Int) : Bool := inB v (-1000000000000) 1000000000000 && inB u 1 1000000
def rV (v u : Int) : Int := if okU v u then (if 1000000000000 < ru v u * u then 0 else ru v u * u) else 0
def rE (v u : Int) : Int := if okU v u then (if 1000000000000 < ru v u * u then 5 else 0) else 2
theorem inB_iff {n a b : Int} : inB n a b = true ↔ a ≤ n ∧ n ≤ b := by simp [inB]
theorem inB_not {n a b : Int} : inB n a b = false ↔ ¬ (a ≤ n ∧ n ≤ b) := by rw [← inB_iff]; simp
end Go.Proofs.Ytemcdmjnokpldaa
/- Finer tables, part 2: plain fractions and their sums. -/
namespace Go.Proofs.Ytemcdmjnokpldaa
open Go.RowKit Go.Joins

/-- a plain fraction -/
def okQ (N D : Int) : Bool := inB N (-1000000000000) 1000000000000 && (inB D 1 1000000000000 && (Nat.gcd N.natAbs D.natAbs == 1))
/-- a fraction as a value -/
abbrev aggQ (N D : Int) : Value := .agg #[.int .i64 N, .int .i64 D]
theorem box2' {w : World} {x y : Value} {t : TypeId} : ∃ wb g, wb = w.alloc (.cells #[x, y] t) ∧ g = w.heap.size ∧ wb.cell? ⟨g, 0, none⟩ = some x ∧ wb.cell? ⟨g, 1, none⟩ = some y ∧ Below w.heap.size w wb := by
  have h := blk2 (heap_alloc_new w (.cells #[x, y] t))
  exact ⟨_, _, rfl, rfl, h.1, h.2.1, (Below.refl w.heap.size w).alloc (Nat.le_refl _) _⟩
set_option maxRecDepth 100000 in
set_option maxHeartbeats 3200000 in
theorem isPlain_any (N D : Int) (w : World) : Calls Try.prog 99 #[aggQ N D] w fun e w' => e = .returned (.bool (okQ N D)) ∧ Below w.heap.size w w' := by
  have HV := Lib.hid (fun wx => flipQ (isValue_c N wx))
  have HB := Lib.hid (fun wx => flipQ (between_any D 1 1000000000000 wx))
  obtain ⟨p0, p1, _, _⟩ := blk2 (heap_alloc_new w (.cells #[.int .i64 N, .int .i64 D] 56))
  have hb0 := Lib.hid ((Below.refl w.heap.size w).alloc (Nat.le_refl _) (.cells #[.int .i64 N, .int .i64 D] 56))
  unfold okQ
  by_cases h1 : inB N (-1000000000000) 1000000000000 = true
  · by_cases h2 : inB D 1 1000000000000 = true
    · rw [h1] at HV
      rw [h2] at HB
      rw [h1, h2, Bool.true_and, Bool.true_and]
      rw [inB_iff] at h1 h2
      obtain ⟨d, rfl⟩ : ∃ d : Nat, D = (d : Int) := ⟨D.toNat, by omega⟩
      have HA := Lib.hid (fun wx => flipQ (absolute_any N wx (by omega) (by omega)))
      have HG := Lib.hid (fun wx => divisor_any N.natAbs d wx (by omega) (by omega))
      rw [Int.natAbs_natCast]
      generalize hg : Nat.gcd N.natAbs d = g at *
      clear hg h1 h2
      go_enter Try.func99, Try.ntmps99
      go_upto_region 1 with (fail)
      generalize hw1 : w.alloc (.cells #[.int .i64 N, .int .i64 (d : Int)] 56) = w1 at *
      clear hw1
      go_quiet ((first | (go_at_call 148; exact Calls.quiet_of_same (HV.out _)) | (go_at_call 67; exact Calls.quiet_of_same (HB.out _)) | (go_at_call 83; exact Calls.quiet_of_same (HA.out _)) | (go_at_call 149; exact Calls.quiet_of (HG.out _))))
      go_wp2_with fail
      go_ret
      exact ⟨by congr 2; cases g with | zero => rfl | succ n => cases n <;> simp <;> omega, below_drewN hb0.out _⟩
    · have h2 : inB D 1 1000000000000 = false := by simpa using h2
      rw [h1] at HV
      rw [h2] at HB
      rw [h2, Bool.false_and, Bool.and_false]
      clear h1 h2
      go_enter Try.func99, Try.ntmps99
      go_upto_region 1 with (fail)
      generalize hw1 : w.alloc (.cells #[.int .i64 N, .int .i64 D] 56) = w1 at *
      clear hw1
      go_quiet ((first | (go_at_call 148; exact Calls.quiet_of_same (HV.out _)) | (go_at_call 67; exact Calls.quiet_of_same (HB.out _))))
      go_wp2_with fail
      go_ret
      exact ⟨rfl, below_drewN hb0.out _⟩
  · have h1 : inB N (-1000000000000) 1000000000000 = false := by simpa using h1
    rw [h1] at HV
    rw [h1, Bool.false_and]
    clear h1
    go_enter Try.func99, Try.ntmps99
    go_upto_region 1 with (fail)
    generalize hw1 : w.alloc (.cells #[.int .i64 N, .int .i64 D] 56) = w1 at *
    clear hw1
    go_quiet ((first | (go_at_call 148; exact Calls.quiet_of_same (HV.out _))))
    go_wp2_with fail
    go_ret
    exact ⟨rfl, below_drewN hb0.out _⟩
set_option maxRecDepth 100000 in
set_option maxHeartbeats 3200000 in
theorem l19Ok_any (N D : Int) (w : World) : Calls Try.prog 96 #[aggQ N D] w fun e w' => e = .returned (.bool (okQ N D)) ∧ Below w.heap.size w w' := by
  have HV := Lib.hid (fun wx => flipQ (l17Most_c N wx))
  have HB := Lib.hid (fun wx => flipQ (l00In_any D 1 1000000000000 wx))
  obtain ⟨p0, p1, _, _⟩ := blk2 (heap_alloc_new w (.cells #[.int .i64 N, .int .i64 D] 56))
  have hb0 := Lib.hid ((Below.refl w.heap.size w).alloc (Nat.le_refl _) (.cells #[.int .i64 N, .int .i64 D] 56))
  unfold okQ
  by_cases h1 : inB N (-1000000000000) 1000000000000 = true
  · by_cases h2 : inB D 1 1000000000000 = true
    · rw [h1] at HV
      rw [h2] at HB
      rw [h1, h2, Bool.true_and, Bool.true_and]
      rw [inB_iff] at h1 h2
      obtain ⟨d, rfl⟩ : ∃ d : Nat, D = (d : Int) := ⟨D.toNat, by omega⟩
      have HA := Lib.hid (fun wx => flipQ (l03Size_c N wx (by omega) (by omega)))
      have HG := Lib.hid (fun wx => flipQ (l04Gcd_any N.natAbs d wx (by omega) (by omega)))
      rw [Int.natAbs_natCast]
      generalize hg : Nat.gcd N.natAbs d = g at *
      clear hg h1 h2
      go_enter Try.func96, Try.ntmps96
      go_upto_region 1 with (fail)
      generalize hw1 : w.alloc (.cells #[.int .i64 N, .int .i64 (d : Int)] 56) = w1 at *
      clear hw1
      go_quiet ((first | (go_at_call 144; exact Calls.quiet_of_same (HV.out _)) | (go_at_call 72; exact Calls.quiet_of_same (HB.out _)) | (go_at_call 84; exact Calls.quiet_of_same (HA.out _)) | (go_at_call 145; exact Calls.quiet_of_same (HG.out _))))
      go_wp2_with fail
      go_ret
      exact ⟨by congr 2; cases g with | zero => rfl | succ n => cases n <;> simp <;> omega, below_drewN hb0.out _⟩
    · have h2 : inB D 1 1000000000000 = false := by simpa using h2
      rw [h1] at HV
      rw [h2] at HB
      rw [h2, Bool.false_and, Bool.and_false]
      clear h1 h2
      go_enter Try.func96, Try.ntmps96
      go_upto_region 1 with (fail)
      generalize hw1 : w.alloc (.cells #[.int .i64 N, .int .i64 D] 56) = w1 at *
      clear hw1
      go_quiet ((first | (go_at_call 144; exact Calls.quiet_of_same (HV.out _)) | (go_at_call 72; exact Calls.quiet_of_same (HB.out _))))
      go_wp2_with fail
      go_ret
      exact ⟨rfl, below_drewN hb0.out _⟩
  · have h1 : inB N (-1000000000000) 1000000000000 = false := by simpa using h1
    rw [h1] at HV
    rw [h1, Bool.false_and]
    clear h1
    go_enter Try.func96, Try.ntmps96
    go_upto_region 1 with (fail)
    generalize hw1 : w.alloc (.cells #[.int .i64 N, .int .i64 D] 56) = w1 at *
    clear hw1
    go_quiet ((first | (go_at_call 144; exact Calls.quiet_of_same (HV.out _))))
    go_wp2_with fail
    go_ret
    exact ⟨rfl, below_drewN hb0.out _⟩
set_option maxRecDepth 100000 in
set_option maxHeartbeats 1600000 in
theorem l19Make_any (N : Int) (D : Nat) (w : World) (hN : -4611686018427387904 ≤ N ∧ N ≤ 4611686018427387904) (hD : D ≤ 4611686018427387904) (h0 : 0 < D) :
    Calls Try.prog 143 #[.int .i64 N, .int .i64 (D : Int)] w (RetQ (lowN N D) (lowD N D) w) := by
  have hg := low_g (N := N) h0
  have hgd : Nat.gcd N.natAbs D ≤ D := Nat.le_of_dvd h0 (Nat.gcd_dvd_right _ _)
  have hbd := low_bd N D
  have hle := low_le (N := N) h0
  have e1 : Int.tdiv N (Nat.gcd N.natAbs D : Int) = lowN N D := rfl
  have e2 : Int.tdiv (D : Int) (Nat.gcd N.natAbs D : Int) = (lowD N D : Int) := by rw [Int.tdiv_eq_ediv_of_nonneg (by omega)]; exact (Int.natCast_ediv _ _).symm
  have e3 : (D : Int) / (Nat.gcd N.natAbs D : Int) = (lowD N D : Int) := (Int.natCast_ediv _ _).symm
  have HA := Lib.hid (fun wx => l03Size_c N wx hN.1 hN.2)
  have HG := Lib.hid (fun wx => l04Gcd_any N.natAbs D wx (by omega) hD)
  generalize Nat.gcd N.natAbs D = g at *
  generalize lowN N D = x at *
  generalize lowD N D = y at *
  have hx1 : -4611686018427387904 ≤ x := by omega
  have hx2 : x ≤ 4611686018427387904 := by omega
  have hy2 : (y : Int) ≤ 4611686018427387904 := by omega
  have hg0 : (g : Int) ≠ 0 := by omega
  have hg1 : (0 : Int) < (g : Int) := by omega
  have hgn : g ≠ 0 := by omega
  have hwx : IntKind.i64.wrap x = x := IntWalk.i64_in _ (by omega)
  have hwy : IntKind.i64.wrap (y : Int) = (y : Int) := IntWalk.i64_in _ (by omega)
  obtain ⟨p0, p1, p2, p3⟩ := blk2 (heap_alloc_new w (.cells #[.int .i64 0, .int .i64 0] 56))
  have Hq := Lib.hid (fun (_ : Nat) => res2_post (w := w) (x := .int .i64 0) (y := .int .i64 0) (t := 56) (Below.refl _ _) (.int .i64 x) (.int .i64 (y : Int)))
  clear hbd hle
  go_enter Try.func143, Try.ntmps143
  go_wp2_with fail
  refine (HA.out _).mono ?_; rintro e w1 ⟨rfl, rfl⟩
  go_wp2_with fail
  refine (HG.out _).mono ?_; rintro e w1 ⟨rfl, rfl⟩
  go_wp2_with fail
  generalize hw1 : w.alloc (.cells #[.int .i64 0, .int .i64 0] 56) = w1 at *
  clear hw1
  go_region_law (fail)
  all_goals
    (try go_wp2_with fail)
    obtain ⟨q0, q1, hbe⟩ := Hq.out 1
    exact bodyPost_ret (v := .agg #[.int .i64 x, .int .i64 (y : Int)]) (by simp [results, Try.results143, go_sem, q0, q1]) rfl ⟨rfl, hbe.drew⟩
end Go.Proofs.Ytemcdmjnokpldaa
/- A region that draws its order, step by step: an operation that is taken first, its slot given by number. No program is named here. -/
namespace Go.Proofs.Ytemcdmjnokpldaa
open Go.RowKit

section
variable {P : Program} {ops : Array Oper} {Q : Exit → Act → World → Prop} {md : Region.Mode} {S : World → Prop}
theorem take_d {i : Nat} {oi : Oper} {d : Option Nat} {v : Value} {fuel : Nat} {listed : Array Bool} {a : Act} {w : World} (hi : ops[i]? = some oi) (hd : oi.dst = d)
    (hs : Region.noSelect ops = true) (hf : Region.free md ops listed i = true) (hr : (Region.ready md ops listed).contains i = true)
    (hQ : ∀ c a w, Q (.panic c) (a.put d v) w → Q (.panic c) a w) (hy : YieldsIf P ops S oi v a) (hS : S w)
    (h : wpAnyH P md ops Q S fuel (listed.setIfInBounds i true) (a.put d v) w) : wpAnyH P md ops Q S (fuel + 1) listed a w := by
  subst hd
  exact wpAnyH_take hi hs hf hr hQ hy hS h
theorem call_d {i : Nat} {o : Oper} {d : Option Nat} {fuel : Nat} {listed : Array Bool} {a : Act} {w : World} (ho : ops[i]? = some o) (hd : o.dst = d) (hr : Region.ready md ops listed = [i])
    (h : ∀ K' : Act → World → Prop, Shut (∀ a w, S w → (S w → wpAnyH P md ops Q S fuel (listed.setIfInBounds i true) a w) → K' a w) → if Region.wanted o (yielded ops a.tmps) = true then Oper.wp P o a w K' Q else K' (a.put d undef) w) :
    wpAnyH P md ops Q S (fuel + 1) listed a w := by
  subst hd
  exact wpAnyH_ready hr (by simp) (AllReadyH.cons ho h AllReadyH.nil)
end
end Go.Proofs.Ytemcdmjnokpldaa
/- A region that draws its order and whose last operations write where the region has loaded: the loads are taken first; S is not asked behind those last operations (Ls). No program is named here. -/
namespace Go.Proofs.Ytemcdmjnokpldaa
open Go.RowKit

section
variable {P : Program} {ops : Array Oper} {Q : Exit → Act → World → Prop} {md : Region.Mode} {S : World → Prop} {L : Nat} {Ls : List Nat}

/-- every operation that has come up has those ahead of it come up -/
def ClosedL (md : Region.Mode) (ops : Array Oper) (listed : Array Bool) : Prop :=
  ∀ (k : Nat) (o : Oper), ops[k]? = some o → listed.getD k true = true → ∀ e ∈ o.after, Region.binds md e = true → listed.getD e.on false = true
def closedB (md : Region.Mode) (ops : Array Oper) (listed : Array Bool) : Bool :=
  (List.range ops.size).all fun k => !listed.getD k true || ((ops[k]?).map (·.after.all fun e => !Region.binds md e || listed.getD e.on false)).getD true
theorem closedB_spec {listed : Array Bool} (h : closedB md ops listed = true) : ClosedL md ops listed := by
  intro k o ho hk e he hb
  unfold closedB at h
  rw [List.all_eq_true] at h
  have h1 := h k (List.mem_range.2 (Array.getElem?_eq_some_iff.1 ho).1)
  rw [ho, hk] at h1
  simp only [Bool.not_true, Bool.false_or, Option.map_some, Option.getD_some] at h1
  have h2 := Array.all_eq_true_iff_forall_mem.1 h1 e he
  rw [hb] at h2
  simpa using h2
theorem ClosedL.set {listed : Array Bool} {j : Nat} (h : ClosedL md ops listed) (hj : j ∈ Region.ready md ops listed) : ClosedL md ops (listed.setIfInBounds j true) := by
  intro k o ho hk e he hb
  by_cases hkj : j = k
  · subst hkj
    obtain ⟨_, o', ho', hall⟩ := mem_ready.1 hj
    rw [ho] at ho'
    cases ho'
    exact getD_set_true (hall e he hb)
  · rw [getD_set_ne true hkj] at hk
    exact getD_set_true (h k o ho hk e he hb)
/-- a chain of operations, each of which waits for the next -/
def waitsB (md : Region.Mode) (ops : Array Oper) : List Nat → Bool
  | x :: y :: rest => (((ops[x]?).map (·.after.any fun e => Region.binds md e && e.on == y)).getD false) && waitsB md ops (y :: rest)
  | _ => true
theorem waits_cons {x y : Nat} {rest : List Nat} (h : waitsB md ops (x :: y :: rest) = true) : (∃ o, ops[x]? = some o ∧ ∃ e ∈ o.after, Region.binds md e = true ∧ e.on = y) ∧ waitsB md ops (y :: rest) = true := by
  unfold waitsB at h
  rw [Bool.and_eq_true] at h
  refine ⟨?_, h.2⟩
  cases ho : ops[x]? with
  | none => rw [ho] at h; simp at h
  | some o =>
    rw [ho] at h
    simp only [Option.map_some, Option.getD_some] at h
    obtain ⟨e, he, hb⟩ := Array.any_eq_true'.1 h.1
    simp only [Bool.and_eq_true, beq_iff_eq] at hb
    exact ⟨o, rfl, e, he, hb.1, hb.2⟩
theorem getD_ft {l : Array Bool} {i : Nat} (h : l.getD i false = true) : l.getD i true = true := by
  rcases Nat.lt_or_ge i l.size with h' | h'
  · simp [h'] at h ⊢; exact h
  · simp [Array.getElem?_eq_none h'] at h
theorem listed_last {listed : Array Bool} (hc : ClosedL md ops listed) : ∀ (rest : List Nat) (y : Nat), listed.getD y false = true → waitsB md ops (y :: rest) = true → listed.getD ((y :: rest).getLast (by simp)) false = true
  | [], _, h, _ => h
  | z :: rest, y, h, hw => by
    obtain ⟨⟨o, ho, e, he, hb, hon⟩, hw2⟩ := waits_cons hw
    have h2 := hc y o ho (getD_ft h) e he hb
    rw [hon] at h2
    have h3 := listed_last hc rest z h2 hw2
    rw [List.getLast_cons (by simp)]
    exact h3
def lateB (md : Region.Mode) (ops : Array Oper) (L : Nat) (p : List Nat) (i : Nat) : Bool := !p.isEmpty && waitsB md ops (L :: p) && p.getLast? == some i
theorem late_not {listed : Array Bool} {p : List Nat} {i : Nat} (hc : ClosedL md ops listed) (h : lateB md ops L p i = true) (hi : listed.getD i true = false) : L ∉ Region.ready md ops listed := by
  intro hL
  unfold lateB at h
  simp only [Bool.and_eq_true, beq_iff_eq] at h
  obtain ⟨⟨h0, h1⟩, h2⟩ := h
  cases p with
  | nil => simp at h0
  | cons y rest =>
    obtain ⟨⟨o, ho, e, he, hb, hon⟩, hw⟩ := waits_cons h1
    obtain ⟨_, o', ho', hall⟩ := mem_ready.1 hL
    rw [ho] at ho'
    cases ho'
    have hy := hall e he hb
    rw [hon] at hy
    have hl := listed_last hc rest y hy hw
    rw [List.getLast?_eq_some_getLast (by simp)] at h2
    injection h2 with h2
    rw [h2] at hl
    rw [getD_ft hl] at hi
    cases hi

/-- what comes behind L in a list -/
def behind (L : Nat) : List Nat → List Nat
  | [] => []
  | x :: l => if x == L then l else behind L l
/-- every one of Ls waits for i, by the chain Ls ++ p -/
def lateAll (md : Region.Mode) (ops : Array Oper) (Ls p : List Nat) (i : Nat) : Bool := Ls.all fun L => lateB md ops L (behind L (Ls ++ p)) i
theorem lateAll_spec {p : List Nat} {i : Nat} (h : lateAll md ops Ls p i = true) (hL : L ∈ Ls) : lateB md ops L (behind L (Ls ++ p)) i = true := List.all_eq_true.1 h L hL
/-- none of the last ones has come up -/
def noneL (Ls : List Nat) (listed : Array Bool) : Bool := Ls.all fun L => !listed.getD L false
theorem noneL_set {listed : Array Bool} {j : Nat} (hj : j ∉ Ls) (h : noneL Ls listed = true) : noneL Ls (listed.setIfInBounds j true) = true := by
  unfold noneL at *
  rw [List.all_eq_true] at *
  intro L hL
  rw [getD_set_ne false (show j ≠ L from fun e => hj (e ▸ hL))]
  exact h L hL
theorem noneL_of {listed : Array Bool} {j : Nat} (h : noneL Ls (listed.setIfInBounds j true) = true) : noneL Ls listed = true := by
  unfold noneL at *
  rw [List.all_eq_true] at *
  intro L hL
  have h1 := h L hL
  cases hb : listed.getD L false with
  | false => rfl
  | true => rw [getD_set_true hb] at h1; exact h1
/-- whatever order is picked, and S holds as long as none of the last ones has come up -/
def wpAnyL (P : Program) (md : Region.Mode) (ops : Array Oper) (Q : Exit → Act → World → Prop) (S : World → Prop) (Ls : List Nat) : Nat → Array Bool → Act → World → Prop
  | 0, listed, a, w => Region.ready md ops listed = [] ∧ Q .normal a w
  | fuel + 1, listed, a, w =>
    (Region.ready md ops listed = [] → Q .normal a w) ∧
    ∀ i ∈ Region.ready md ops listed, wpOp P ops Q i (fun a' w' => (noneL Ls (listed.setIfInBounds i true) = true → S w') ∧ wpAnyL P md ops Q S Ls fuel (listed.setIfInBounds i true) a' w') a w
theorem wpAny_of_L : ∀ (fuel : Nat) (listed : Array Bool) (a : Act) (w : World), wpAnyL P md ops Q S Ls fuel listed a w → wpAny P md ops Q fuel listed a w
  | 0, _, _, _, h => h
  | fuel + 1, _, _, _, h => ⟨h.1, fun i hi => wpOp_mono (fun a' w' h' => wpAny_of_L fuel _ a' w' h'.2) (h.2 i hi)⟩

theorem wpAnyL_first {S0 : World → Prop} {i : Nat} {oi : Oper} {v : Value} (hi : ops[i]? = some oi) (hsel : ∀ (j : Nat) (o : Oper) cs b, ops[j]? = some o → o.op ≠ .select cs b)
    (hQ : ∀ c a w, Q (.panic c) (a.put oi.dst v) w → Q (.panic c) a w) (hiL : i ∉ Ls) (p : List Nat) (hor : (lateAll md ops Ls p i = true ∧ ∀ w, S w → S0 w) ∨ ∀ w, S0 w) :
    ∀ (fuel : Nat) (listed : Array Bool) (a : Act) (w : World), ClosedL md ops listed → (noneL Ls listed = true → S w) → ((∀ w, S0 w) ∨ noneL Ls listed = true) →
      (∀ j oj, ops[j]? = some oj → j ≠ i → listed.getD j true = false → (∀ e ∈ oj.after, Region.binds md e = true → e.on ≠ i) → oi.apart ops oj = true) →
      i ∈ Region.ready md ops listed → YieldsIf P ops S0 oi v a →
      wpAnyL P md ops Q S Ls fuel (listed.setIfInBounds i true) (a.put oi.dst v) w → wpAnyL P md ops Q S Ls (fuel + 1) listed a w := by
  have hS0 : ∀ (listed : Array Bool) (w : World), (noneL Ls listed = true → S w) → ((∀ w, S0 w) ∨ noneL Ls listed = true) → S0 w := fun listed w hS hn => by
    rcases hn with h | h
    · exact h w
    · rcases hor with h' | h'
      · exact h'.2 w (hS h)
      · exact h' w
  intro fuel
  induction fuel with
  | zero =>
    intro listed a w _ hS hn _ hr hy H
    refine ⟨fun h => (by rw [h] at hr; cases hr), fun j hj => ?_⟩
    by_cases hji : j = i
    · subst hji
      exact hy.wpOp hi (hS0 listed w hS hn) ⟨fun h => hS (noneL_of h), H⟩
    · have hm := ready_mono hj hji
      rw [H.1] at hm
      cases hm
  | succ fuel ih =>
    intro listed a w hc hS hn hfree hr hy H
    refine ⟨fun h => (by rw [h] at hr; cases hr), fun j hj => ?_⟩
    by_cases hji : j = i
    · subst hji
      exact hy.wpOp hi (hS0 listed w hS hn) ⟨fun h => hS (noneL_of h), H⟩
    · have hu := (mem_ready.1 hr).1
      have h1 := H.2 j (ready_mono hj hji)
      have hn' : (∀ w, S0 w) ∨ noneL Ls (listed.setIfInBounds j true) = true := by
        rcases hn with h | h
        · exact .inl h
        · rcases hor with h' | h'
          · exact .inr (noneL_set (fun e => late_not hc (lateAll_spec h'.1 e) hu hj) h)
          · exact .inl h'
      obtain ⟨hjun, oj, hoj, hall⟩ := mem_ready.1 hj
      have hnot : ∀ e ∈ oj.after, Region.binds md e = true → e.on ≠ i := fun e he hb heq => by
        have h2 := hall e he hb
        rw [heq] at h2
        rw [getD_ft h2] at hu
        cases hu
      have h2 := wpOp_putIf hoj (hfree j oj hoj hji hjun hnot) (fun cs b => hsel i oi cs b hi) (fun cs b => hsel j oj cs b hoj) hQ hy h1
      have hfree' : ∀ k ok, ops[k]? = some ok → k ≠ i → (listed.setIfInBounds j true).getD k true = false →
          (∀ e ∈ ok.after, Region.binds md e = true → e.on ≠ i) → oi.apart ops ok = true := fun k ok hk hki hun hno => by
        by_cases hjk : j = k
        · subst hjk
          exact hfree j ok hk hki hjun hno
        · rw [getD_set_ne true hjk] at hun
          exact hfree k ok hk hki hun hno
      refine wpOp_mono (fun a' w' h3 => ?_) h2
      have hS' : noneL Ls (listed.setIfInBounds j true) = true → S w' := fun h => h3.2.1 (by
        rw [Array.setIfInBounds_comm _ _ (Ne.symm hji)]
        exact noneL_set hiL h)
      refine ⟨hS', ih (listed.setIfInBounds j true) a' w' (hc.set hj) hS' hn' hfree' (ready_mono hr (Ne.symm hji)) h3.1 ?_⟩
      rw [Array.setIfInBounds_comm _ _ hji]
      exact h3.2.2

/-- a load: taken first, under S -/
theorem take_L {i : Nat} {oi : Oper} {d : Option Nat} {v : Value} {fuel : Nat} {listed : Array Bool} {a : Act} {w : World} (p : List Nat) (hL : lateAll md ops Ls p i = true) (hc : closedB md ops listed = true) (hn : noneL Ls listed = true) (hiL : Ls.contains i = false) (hi : ops[i]? = some oi) (hd : oi.dst = d)
    (hs : Region.noSelect ops = true) (hf : Region.free md ops listed i = true) (hr : (Region.ready md ops listed).contains i = true)
    (hQ : ∀ c a w, Q (.panic c) (a.put d v) w → Q (.panic c) a w) (hy : YieldsIf P ops S oi v a) (hS : S w)
    (h : wpAnyL P md ops Q S Ls fuel (listed.setIfInBounds i true) (a.put d v) w) : wpAnyL P md ops Q S Ls (fuel + 1) listed a w := by
  subst hd
  exact wpAnyL_first hi (Region.noSelect_spec hs) hQ (fun e => by simp [e] at hiL) p (.inl ⟨hL, fun _ h => h⟩) fuel listed a w (closedB_spec hc) (fun _ => hS) (.inr hn) (Region.free_spec hi hf) (by simpa using hr) hy h
/-- what yields in whatever world: taken first -/
theorem take_F {i : Nat} {oi : Oper} {d : Option Nat} {v : Value} {fuel : Nat} {listed : Array Bool} {a : Act} {w : World} (hc : closedB md ops listed = true) (hiL : Ls.contains i = false) (hi : ops[i]? = some oi) (hd : oi.dst = d)
    (hs : Region.noSelect ops = true) (hf : Region.free md ops listed i = true) (hr : (Region.ready md ops listed).contains i = true)
    (hQ : ∀ c a w, Q (.panic c) (a.put d v) w → Q (.panic c) a w) (hy : YieldsIf P ops (fun _ => True) oi v a) (hS : S w)
    (h : wpAnyL P md ops Q S Ls fuel (listed.setIfInBounds i true) (a.put d v) w) : wpAnyL P md ops Q S Ls (fuel + 1) listed a w := by
  subst hd
  exact wpAnyL_first (S0 := fun _ => True) hi (Region.noSelect_spec hs) hQ (fun e => by simp [e] at hiL) [] (.inr fun _ => trivial) fuel listed a w (closedB_spec hc) (fun _ => hS) (.inl fun _ => trivial) (Region.free_spec hi hf) (by simpa using hr) hy h
/-- the only operation that may come up; S is shown anew -/
theorem call_L {i : Nat} {o : Oper} {d : Option Nat} {fuel : Nat} {listed : Array Bool} {a : Act} {w : World} (ho : ops[i]? = some o) (hd : o.dst = d) (hr : Region.ready md ops listed = [i])
    (h : ∀ K' : Act → World → Prop, Shut (∀ a w, S w → (S w → wpAnyL P md ops Q S Ls fuel (listed.setIfInBounds i true) a w) → K' a w) → if Region.wanted o (yielded ops a.tmps) = true then Oper.wp P o a w K' Q else K' (a.put d undef) w) :
    wpAnyL P md ops Q S Ls (fuel + 1) listed a w := by
  subst hd
  refine ⟨fun h0 => absurd (h0.symm.trans hr) (by simp), fun j hj => ?_⟩
  rw [hr] at hj
  obtain rfl := List.mem_singleton.1 hj
  exact wpOp_step ho (fun K' hK => h K' (fun a w hS hW => hK a w ⟨fun _ => hS, hW hS⟩))
/-- two operations that may come up -/
theorem both_L {i j : Nat} {oi oj : Oper} {di dj : Option Nat} {fuel : Nat} {listed : Array Bool} {a : Act} {w : World} (hoi : ops[i]? = some oi) (hdi : oi.dst = di) (hoj : ops[j]? = some oj) (hdj : oj.dst = dj) (hr : Region.ready md ops listed = [i, j])
    (h1 : ∀ K' : Act → World → Prop, Shut (∀ a w, S w → (S w → wpAnyL P md ops Q S Ls fuel (listed.setIfInBounds i true) a w) → K' a w) → if Region.wanted oi (yielded ops a.tmps) = true then Oper.wp P oi a w K' Q else K' (a.put di undef) w)
    (h2 : ∀ K' : Act → World → Prop, Shut (∀ a w, S w → (S w → wpAnyL P md ops Q S Ls fuel (listed.setIfInBounds j true) a w) → K' a w) → if Region.wanted oj (yielded ops a.tmps) = true then Oper.wp P oj a w K' Q else K' (a.put dj undef) w) :
    wpAnyL P md ops Q S Ls (fuel + 1) listed a w := by
  subst hdi
  subst hdj
  refine ⟨fun h0 => absurd (h0.symm.trans hr) (by simp), fun k hk => ?_⟩
  rw [hr] at hk
  rcases List.mem_cons.1 hk with rfl | hk
  · exact wpOp_step hoi (fun K' hK => h1 K' (fun a w hS hW => hK a w ⟨fun _ => hS, hW hS⟩))
  · obtain rfl := List.mem_singleton.1 hk
    exact wpOp_step hoj (fun K' hK => h2 K' (fun a w hS hW => hK a w ⟨fun _ => hS, hW hS⟩))
/-- .. and S is not asked -/
theorem late_L {i : Nat} {o : Oper} {d : Option Nat} {fuel : Nat} {listed : Array Bool} {a : Act} {w : World} (hi : noneL Ls (listed.setIfInBounds i true) = false) (ho : ops[i]? = some o) (hd : o.dst = d) (hr : Region.ready md ops listed = [i])
    (h : ∀ K' : Act → World → Prop, Shut (∀ a w, wpAnyL P md ops Q S Ls fuel (listed.setIfInBounds i true) a w → K' a w) → if Region.wanted o (yielded ops a.tmps) = true then Oper.wp P o a w K' Q else K' (a.put d undef) w) :
    wpAnyL P md ops Q S Ls (fuel + 1) listed a w := by
  subst hd
  refine ⟨fun h0 => absurd (h0.symm.trans hr) (by simp), fun j hj => ?_⟩
  rw [hr] at hj
  obtain rfl := List.mem_singleton.1 hj
  exact wpOp_step ho (fun K' hK => h K' (fun a w hW => hK a w ⟨fun hne => absurd (hi.symm.trans hne) (by simp), hW⟩))
theorem done_L {listed : Array Bool} {a : Act} {w : World} (hr : Region.ready md ops listed = []) (h : Q .normal a w) : ∀ fuel, wpAnyL P md ops Q S Ls fuel listed a w
  | 0 => ⟨hr, h⟩
  | _ + 1 => ⟨fun _ => h, by rw [hr]; simp⟩
theorem wp_region_L {id : Nat} {a : Act} {w : World} (Ls : List Nat) (S : World → Prop) (hm : P.follows .mixedOrders = true) (hS : S w.drew)
    (h : S w.drew → wpAnyL P .any ops Q S Ls ops.size (Array.replicate ops.size false) a w.drew) : (Code.region id ops true).wp P Q a w :=
  wp_region_any hm (wpAny_of_L _ _ _ _ (h hS))
end
end Go.Proofs.Ytemcdmjnokpldaa
/- Finer tables, part 3: sums and differences of fractions. -/
namespace Go.Proofs.Ytemcdmjnokpldaa
open Go.RowKit Go.Joins

theorem blk_ltF {w : World} {g : Nat} {o : Obj} (h : w.heap[g]? = some o) : g < w.heap.size := (Array.getElem?_eq_some_iff.1 h).1
/-- block r holds a fraction of the call's own -/
structure FrB (W wr : World) (r : Nat) (x y : Value) : Prop where
  res : wr.heap[r]? = some (.cells #[x, y] 56 (0, 0))
  bel : Below W.heap.size W wr
  lr : W.heap.size ≤ r
section
variable {W wr wx : World} {r : Nat} {x y : Value}
theorem FrB.below (h : FrB W wr r x y) (hb : Below wr.heap.size wr wx) : FrB W wx r x y := ⟨(hb.block _ (blk_ltF h.res)).trans h.res, h.bel.trans (hb.mono h.bel.size), h.lr⟩
theorem FrB.drewN (h : FrB W wr r x y) (k : Nat) : FrB W (wr.drewN k) r x y := ⟨h.res, below_drewN h.bel k, h.lr⟩
theorem FrB.put (h : FrB W wr r x y) (a b : Value) : FrB W ((wr.setCell ⟨r, 0, none⟩ a).setCell ⟨r, 1, none⟩ b) r a b :=
  ⟨heap_setCell_same _ r 1 _ _ b (heap_setCell_same _ r 0 _ _ a h.res), (h.bel.setCell (p := ⟨r, 0, none⟩) h.lr a).setCell (p := ⟨r, 1, none⟩) h.lr b, h.lr⟩
theorem FrB.alloc (h : FrB W wr r x y) (o : Obj) : FrB W (wr.alloc o) r x y := h.below ((Below.refl _ _).alloc (Nat.le_refl _) o)
theorem FrB.new (hb : Below W.heap.size W wr) (x y : Value) : FrB W (wr.alloc (.cells #[x, y] 56)) wr.heap.size x y :=
  ⟨heap_alloc_new _ _, hb.alloc hb.size _, hb.size⟩
end
theorem two_blocksF (W : World) (x y : Array Value) (t s : TypeId) : ((W.alloc (.cells x t)).alloc (.cells y s)).heap[W.heap.size]? = some (.cells x t (0, 0)) ∧ ((W.alloc (.cells x t)).alloc (.cells y s)).heap[W.heap.size + 1]? = some (.cells y s (0, 0)) ∧ Below W.heap.size W ((W.alloc (.cells x t)).alloc (.cells y s)) := by
  have h1 := (Below.refl W.heap.size W).alloc (Nat.le_refl _) (.cells x t)
  have hz : (W.alloc (.cells x t)).heap.size = W.heap.size + 1 := by simp
  have h2 := (Below.refl (W.alloc (.cells x t)).heap.size (W.alloc (.cells x t))).alloc (Nat.le_refl _) (.cells y s)
  have h3 := heap_alloc_new (W.alloc (.cells x t)) (.cells y s)
  rw [hz] at h3
  exact ⟨(h2.block _ (by omega)).trans (heap_alloc_new W _), h3, h1.trans (h2.mono h1.size)⟩
theorem three_blocks (W : World) (a b c d x y : Value) (t : TypeId) :
    (((((W.alloc (.cells #[a, b] t)).alloc (.cells #[c, d] t)).alloc (.cells #[x, y] t)).cell? ⟨W.heap.size, 0, none⟩ = some a ∧ (((W.alloc (.cells #[a, b] t)).alloc (.cells #[c, d] t)).alloc (.cells #[x, y] t)).cell? ⟨W.heap.size, 1, none⟩ = some b)) ∧
    (((((W.alloc (.cells #[a, b] t)).alloc (.cells #[c, d] t)).alloc (.cells #[x, y] t)).cell? ⟨W.heap.size + 1, 0, none⟩ = some c ∧ (((W.alloc (.cells #[a, b] t)).alloc (.cells #[c, d] t)).alloc (.cells #[x, y] t)).cell? ⟨W.heap.size + 1, 1, none⟩ = some d)) ∧
    ((((W.alloc (.cells #[a, b] t)).alloc (.cells #[c, d] t)).alloc (.cells #[x, y] t)).heap[W.heap.size + 1 + 1]? = some (.cells #[x, y] t (0, 0))) ∧ Below W.heap.size W (((W.alloc (.cells #[a, b] t)).alloc (.cells #[c, d] t)).alloc (.cells #[x, y] t)) := by
  obtain ⟨h1, h2, h3⟩ := two_blocksF W #[a, b] #[c, d] t t
  have hz : ((W.alloc (.cells #[a, b] t)).alloc (.cells #[c, d] t)).heap.size = W.heap.size + 1 + 1 := by simp
  generalize (W.alloc (.cells #[a, b] t)).alloc (.cells #[c, d] t) = w2 at *
  have hb := (Below.refl w2.heap.size w2).alloc (Nat.le_refl _) (.cells #[x, y] t)
  have k1 := blk2 ((hb.block _ (by omega)).trans h1)
  have k2 := blk2 ((hb.block _ (by omega)).trans h2)
  have k3 := heap_alloc_new w2 (.cells #[x, y] t)
  rw [hz] at k3
  exact ⟨⟨k1.1, k1.2.1⟩, ⟨k2.1, k2.2.1⟩, k3, h3.trans (hb.mono (by omega))⟩
set_option maxRecDepth 100000 in
set_option maxHeartbeats 3200000 in
theorem sum_any (a c : Int) (M : Nat) (w : World) (hM : 0 < M) (hMb : M ≤ 2305843009213693952) (ha : a.natAbs ≤ 2305843009213693952) (hc : c.natAbs ≤ 2305843009213693952) :
    Calls Try.prog 100 #[aggQ (lowN a M) (lowD a M : Int), aggQ (lowN c M) (lowD c M : Int)] w (RetQ (lowN (a + c) M) (lowD (a + c) M) w) := by
  obtain ⟨p1, p2, pg, pl, q1, q2, m1, m2, b1, b2, b3, b4, he⟩ := addQ_low a c hM
  unfold addQ low at *
  dsimp only at *
  generalize lowN a M = n1 at *
  generalize lowD a M = d1 at *
  generalize lowN c M = n2 at *
  generalize lowD c M = d2 at *
  have e1 : Int.tdiv (d2 : Int) (Nat.gcd d1 d2 : Int) = ((d2 / Nat.gcd d1 d2 : Nat) : Int) := by rw [Int.tdiv_eq_ediv_of_nonneg (by omega)]; exact (Int.natCast_ediv _ _).symm
  have e2 : Int.tdiv (d1 : Int) (Nat.gcd d1 d2 : Int) = ((d1 / Nat.gcd d1 d2 : Nat) : Int) := by rw [Int.tdiv_eq_ediv_of_nonneg (by omega)]; exact (Int.natCast_ediv _ _).symm
  have e3 : (d2 : Int) / (Nat.gcd d1 d2 : Int) = ((d2 / Nat.gcd d1 d2 : Nat) : Int) := (Int.natCast_ediv _ _).symm
  have e4 : (d1 : Int) / (Nat.gcd d1 d2 : Int) = ((d1 / Nat.gcd d1 d2 : Nat) : Int) := (Int.natCast_ediv _ _).symm
  have HG := Lib.hid (fun wx => divisor_any d1 d2 wx (by omega) (by omega))
  generalize Nat.gcd d1 d2 = g at *
  generalize d2 / g = x2 at *
  generalize d1 / g = x1 at *
  have eL : (x1 : Int) * (d2 : Int) = ((x1 * d2 : Nat) : Int) := (Int.natCast_mul _ _).symm
  generalize hP1 : n1 * (x2 : Int) = P1 at *
  generalize hP2 : n2 * (x1 : Int) = P2 at *
  generalize hL : x1 * d2 = L at *
  obtain ⟨he1, he2⟩ := Prod.mk.inj he
  rw [← he1, ← he2]
  have hw1 : IntKind.i64.wrap (n1 * (x2 : Int)) = P1 := by rw [hP1]; exact IntWalk.i64_in _ (by omega)
  have hw2 : IntKind.i64.wrap (n2 * (x1 : Int)) = P2 := by rw [hP2]; exact IntWalk.i64_in _ (by omega)
  have hw3 : IntKind.i64.wrap (P1 + P2) = P1 + P2 := IntWalk.i64_in _ (by omega)
  have hw4 : IntKind.i64.wrap (L : Int) = (L : Int) := IntWalk.i64_in _ (by omega)
  have hw5 : IntKind.i64.wrap (x1 : Int) = (x1 : Int) := IntWalk.i64_in _ (by omega)
  have hw6 : IntKind.i64.wrap (x2 : Int) = (x2 : Int) := IntWalk.i64_in _ (by omega)
  have hg0 : (g : Int) ≠ 0 := by omega
  have hg1 : (0 : Int) < (g : Int) := by omega
  have hgn : g ≠ 0 := by omega
  have HL := Lib.hid (fun wx => lowest_any (P1 + P2) L wx (by omega) (by omega) pl)
  unfold RetQ at HL
  obtain ⟨⟨c0, c1⟩, ⟨c2, c3⟩, hr, hb⟩ := three_blocks w (.int .i64 n1) (.int .i64 (d1 : Int)) (.int .i64 n2) (.int .i64 (d2 : Int)) (.int .i64 0) (.int .i64 0) 56
  have HR := Lib.hid (show FrB w _ (w.heap.size + 1 + 1) _ _ from ⟨hr, hb, by omega⟩)
  clear he he1 he2 b1 b2 b3 b4 hP1 hP2 hL p1 p2 pg pl q1 q2 m1 m2 hMb ha hc hM hr hb
  go_enter Try.func100, Try.ntmps100
  go_upto_region 1 with (fail)
  generalize ((w.alloc (.cells #[.int .i64 n1, .int .i64 (d1 : Int)] 56)).alloc (.cells #[.int .i64 n2, .int .i64 (d2 : Int)] 56)).alloc (.cells #[.int .i64 0, .int .i64 0] 56) = w3 at *
  go_wp2_with fail
  refine (HG.out _).mono ?_; rintro e w2 ⟨rfl, k, rfl⟩
  have HR2 := Lib.hid (HR.out.drewN k)
  clear HR
  go_upto_region 2 with (fail)
  obtain ⟨w4, hw4⟩ : ∃ w4, w4 = w3.drewN k := ⟨_, rfl⟩
  rw [← hw4] at HR2
  have c0 : w4.cell? ⟨w.heap.size, 0, none⟩ = some (.int .i64 n1) := by rw [hw4]; exact c0
  have c1 : w4.cell? ⟨w.heap.size, 1, none⟩ = some (.int .i64 (d1 : Int)) := by rw [hw4]; exact c1
  have c2 : w4.cell? ⟨w.heap.size + 1, 0, none⟩ = some (.int .i64 n2) := by rw [hw4]; exact c2
  have c3 : w4.cell? ⟨w.heap.size + 1, 1, none⟩ = some (.int .i64 (d2 : Int)) := by rw [hw4]; exact c3
  rw [← hw4]
  clear hw4
  refine wp_region_noPanic ?_
  refine wp_region_L [23,22] (fun w' => w'.cell? ⟨w.heap.size, 0, none⟩ = some (.int .i64 n1) ∧ w'.cell? ⟨w.heap.size, 1, none⟩ = some (.int .i64 (d1 : Int)) ∧ w'.cell? ⟨w.heap.size + 1, 0, none⟩ = some (.int .i64 n2) ∧ w'.cell? ⟨w.heap.size + 1, 1, none⟩ = some (.int .i64 (d2 : Int))) (by kernel_rfl) (⟨c0, c1, c2, c3⟩) (fun hHeld => ?_)
  refine take_F (i := 0) (d := some 11) (v := ?_) (by kernel_rfl) (by kernel_rfl) rfl rfl (by kernel_rfl) (by kernel_rfl) (by kernel_rfl) (fun _ _ _ h => h) (Or.inl ⟨by rfl, ?_⟩) (by assumption) ?_
  rotate_left
  · (intro w hSw; (try dsimp only at hSw); go_simp; (try rw [if_neg (by omega)]); (try (with_reducible rfl)))
  simp only [Act.put, List.setIfInBounds_toArray, List.set_cons_zero, List.set_cons_succ]
  refine take_L [14,6,1] (i := 1) (d := some 12) (v := ?_) (by kernel_rfl) (by kernel_rfl) (by kernel_rfl) (by kernel_rfl) rfl rfl (by kernel_rfl) (by kernel_rfl) (by kernel_rfl) (fun _ _ _ h => h) (Or.inl ⟨by rfl, ?_⟩) (by assumption) ?_
  rotate_left
  · (intro w hSw; (try dsimp only at hSw); go_simp; (try rw [if_neg (by omega)]); (try (with_reducible rfl)))
  simp only [Act.put, List.setIfInBounds_toArray, List.set_cons_zero, List.set_cons_succ]
  refine take_F (i := 2) (d := some 13) (v := ?_) (by kernel_rfl) (by kernel_rfl) rfl rfl (by kernel_rfl) (by kernel_rfl) (by kernel_rfl) (fun _ _ _ h => h) (Or.inl ⟨by rfl, ?_⟩) (by assumption) ?_
  rotate_left
  · (intro w hSw; (try dsimp only at hSw); go_simp; (try rw [if_neg (by omega)]); (try (with_reducible rfl)))
  simp only [Act.put, List.setIfInBounds_toArray, List.set_cons_zero, List.set_cons_succ]
  refine take_L [14,6,5,3] (i := 3) (d := some 14) (v := ?_) (by kernel_rfl) (by kernel_rfl) (by kernel_rfl) (by kernel_rfl) rfl rfl (by kernel_rfl) (by kernel_rfl) (by kernel_rfl) (fun _ _ _ h => h) (Or.inl ⟨by rfl, ?_⟩) (by assumption) ?_
  rotate_left
  · (intro w hSw; (try dsimp only at hSw); go_simp; (try rw [if_neg (by omega)]); (try (with_reducible rfl)))
  simp only [Act.put, List.setIfInBounds_toArray, List.set_cons_zero, List.set_cons_succ]
  refine take_F (i := 4) (d := some 15) (v := ?_) (by kernel_rfl) (by kernel_rfl) rfl rfl (by kernel_rfl) (by kernel_rfl) (by kernel_rfl) (fun _ _ _ h => h) (Or.inl ⟨by rfl, ?_⟩) (by assumption) ?_
  rotate_left
  · (intro w hSw; (try dsimp only at hSw); go_simp; (try rw [if_neg (by omega)]); (try (with_reducible rfl)))
  simp only [Act.put, List.setIfInBounds_toArray, List.set_cons_zero, List.set_cons_succ]
  refine take_F (i := 5) (d := some 16) (v := ?_) (by kernel_rfl) (by kernel_rfl) rfl rfl (by kernel_rfl) (by kernel_rfl) (by kernel_rfl) (fun _ _ _ h => h) (Or.inl ⟨by rfl, ?_⟩) (by assumption) ?_
  rotate_left
  · (intro w hSw; (try dsimp only at hSw); go_simp; (try rw [if_neg (by omega)]); (try (with_reducible rfl)))
  simp only [Act.put, List.setIfInBounds_toArray, List.set_cons_zero, List.set_cons_succ]
  refine take_F (i := 6) (d := some 17) (v := ?_) (by kernel_rfl) (by kernel_rfl) rfl rfl (by kernel_rfl) (by kernel_rfl) (by kernel_rfl) (fun _ _ _ h => h) (Or.inl ⟨by rfl, ?_⟩) (by assumption) ?_
  rotate_left
  · (intro w hSw; (try dsimp only at hSw); go_simp; (try rw [if_neg (by omega)]); (try (with_reducible rfl)))
  simp only [Act.put, List.setIfInBounds_toArray, List.set_cons_zero, List.set_cons_succ]
  refine take_F (i := 7) (d := some 18) (v := ?_) (by kernel_rfl) (by kernel_rfl) rfl rfl (by kernel_rfl) (by kernel_rfl) (by kernel_rfl) (fun _ _ _ h => h) (Or.inl ⟨by rfl, ?_⟩) (by assumption) ?_
  rotate_left
  · (intro w hSw; (try dsimp only at hSw); go_simp; (try rw [if_neg (by omega)]); (try (with_reducible rfl)))
  simp only [Act.put, List.setIfInBounds_toArray, List.set_cons_zero, List.set_cons_succ]
  refine take_L [14,13,8] (i := 8) (d := some 19) (v := ?_) (by kernel_rfl) (by kernel_rfl) (by kernel_rfl) (by kernel_rfl) rfl rfl (by kernel_rfl) (by kernel_rfl) (by kernel_rfl) (fun _ _ _ h => h) (Or.inl ⟨by rfl, ?_⟩) (by assumption) ?_
  rotate_left
  · (intro w hSw; (try dsimp only at hSw); go_simp; (try rw [if_neg (by omega)]); (try (with_reducible rfl)))
  simp only [Act.put, List.setIfInBounds_toArray, List.set_cons_zero, List.set_cons_succ]
  refine take_F (i := 9) (d := some 20) (v := ?_) (by kernel_rfl) (by kernel_rfl) rfl rfl (by kernel_rfl) (by kernel_rfl) (by kernel_rfl) (fun _ _ _ h => h) (Or.inl ⟨by rfl, ?_⟩) (by assumption) ?_
  rotate_left
  · (intro w hSw; (try dsimp only at hSw); go_simp; (try rw [if_neg (by omega)]); (try (with_reducible rfl)))
  simp only [Act.put, List.setIfInBounds_toArray, List.set_cons_zero, List.set_cons_succ]
  refine take_L [14,13,12,10] (i := 10) (d := some 21) (v := ?_) (by kernel_rfl) (by kernel_rfl) (by kernel_rfl) (by kernel_rfl) rfl rfl (by kernel_rfl) (by kernel_rfl) (by kernel_rfl) (fun _ _ _ h => h) (Or.inl ⟨by rfl, ?_⟩) (by assumption) ?_
  rotate_left
  · (intro w hSw; (try dsimp only at hSw); go_simp; (try rw [if_neg (by omega)]); (try (with_reducible rfl)))
  simp only [Act.put, List.setIfInBounds_toArray, List.set_cons_zero, List.set_cons_succ]
  refine take_F (i := 11) (d := some 22) (v := ?_) (by kernel_rfl) (by kernel_rfl) rfl rfl (by kernel_rfl) (by kernel_rfl) (by kernel_rfl) (fun _ _ _ h => h) (Or.inl ⟨by rfl, ?_⟩) (by assumption) ?_
  rotate_left
  · (intro w hSw; (try dsimp only at hSw); go_simp; (try rw [if_neg (by omega)]); (try (with_reducible rfl)))
  simp only [Act.put, List.setIfInBounds_toArray, List.set_cons_zero, List.set_cons_succ]
  refine take_F (i := 12) (d := some 23) (v := ?_) (by kernel_rfl) (by kernel_rfl) rfl rfl (by kernel_rfl) (by kernel_rfl) (by kernel_rfl) (fun _ _ _ h => h) (Or.inl ⟨by rfl, ?_⟩) (by assumption) ?_
  rotate_left
  · (intro w hSw; (try dsimp only at hSw); go_simp; (try rw [if_neg (by omega)]); (try (with_reducible rfl)))
  simp only [Act.put, List.setIfInBounds_toArray, List.set_cons_zero, List.set_cons_succ]
  refine take_F (i := 13) (d := some 24) (v := ?_) (by kernel_rfl) (by kernel_rfl) rfl rfl (by kernel_rfl) (by kernel_rfl) (by kernel_rfl) (fun _ _ _ h => h) (Or.inl ⟨by rfl, ?_⟩) (by assumption) ?_
  rotate_left
  · (intro w hSw; (try dsimp only at hSw); go_simp; (try rw [if_neg (by omega)]); (try (with_reducible rfl)))
  simp only [Act.put, List.setIfInBounds_toArray, List.set_cons_zero, List.set_cons_succ]
  refine take_F (i := 14) (d := some 25) (v := ?_) (by kernel_rfl) (by kernel_rfl) rfl rfl (by kernel_rfl) (by kernel_rfl) (by kernel_rfl) (fun _ _ _ h => h) (Or.inl ⟨by rfl, ?_⟩) (by assumption) ?_
  rotate_left
  · (intro w hSw; (try dsimp only at hSw); go_simp; (try rw [if_neg (by omega)]); (try (with_reducible rfl)))
  simp only [Act.put, List.setIfInBounds_toArray, List.set_cons_zero, List.set_cons_succ]
  refine take_F (i := 15) (d := some 26) (v := ?_) (by kernel_rfl) (by kernel_rfl) rfl rfl (by kernel_rfl) (by kernel_rfl) (by kernel_rfl) (fun _ _ _ h => h) (Or.inl ⟨by rfl, ?_⟩) (by assumption) ?_
  rotate_left
  · (intro w hSw; (try dsimp only at hSw); go_simp; (try rw [if_neg (by omega)]); (try (with_reducible rfl)))
  simp only [Act.put, List.setIfInBounds_toArray, List.set_cons_zero, List.set_cons_succ]
  refine take_L [21,18,16] (i := 16) (d := some 27) (v := ?_) (by kernel_rfl) (by kernel_rfl) (by kernel_rfl) (by kernel_rfl) rfl rfl (by kernel_rfl) (by kernel_rfl) (by kernel_rfl) (fun _ _ _ h => h) (Or.inl ⟨by rfl, ?_⟩) (by assumption) ?_
  rotate_left
  · (intro w hSw; (try dsimp only at hSw); go_simp; (try rw [if_neg (by omega)]); (try (with_reducible rfl)))
  simp only [Act.put, List.setIfInBounds_toArray, List.set_cons_zero, List.set_cons_succ]
  refine take_F (i := 17) (d := some 28) (v := ?_) (by kernel_rfl) (by kernel_rfl) rfl rfl (by kernel_rfl) (by kernel_rfl) (by kernel_rfl) (fun _ _ _ h => h) (Or.inl ⟨by rfl, ?_⟩) (by assumption) ?_
  rotate_left
  · (intro w hSw; (try dsimp only at hSw); go_simp; (try rw [if_neg (by omega)]); (try (with_reducible rfl)))
  simp only [Act.put, List.setIfInBounds_toArray, List.set_cons_zero, List.set_cons_succ]
  refine take_F (i := 18) (d := some 29) (v := ?_) (by kernel_rfl) (by kernel_rfl) rfl rfl (by kernel_rfl) (by kernel_rfl) (by kernel_rfl) (fun _ _ _ h => h) (Or.inl ⟨by rfl, ?_⟩) (by assumption) ?_
  rotate_left
  · (intro w hSw; (try dsimp only at hSw); go_simp; (try rw [if_neg (by omega)]); (try (with_reducible rfl)))
  simp only [Act.put, List.setIfInBounds_toArray, List.set_cons_zero, List.set_cons_succ]
  refine take_F (i := 19) (d := some 30) (v := ?_) (by kernel_rfl) (by kernel_rfl) rfl rfl (by kernel_rfl) (by kernel_rfl) (by kernel_rfl) (fun _ _ _ h => h) (Or.inl ⟨by rfl, ?_⟩) (by assumption) ?_
  rotate_left
  · (intro w hSw; (try dsimp only at hSw); go_simp; (try rw [if_neg (by omega)]); (try (with_reducible rfl)))
  simp only [Act.put, List.setIfInBounds_toArray, List.set_cons_zero, List.set_cons_succ]
  refine take_L [21,20] (i := 20) (d := some 31) (v := ?_) (by kernel_rfl) (by kernel_rfl) (by kernel_rfl) (by kernel_rfl) rfl rfl (by kernel_rfl) (by kernel_rfl) (by kernel_rfl) (fun _ _ _ h => h) (Or.inl ⟨by rfl, ?_⟩) (by assumption) ?_
  rotate_left
  · (intro w hSw; (try dsimp only at hSw); go_simp; (try rw [if_neg (by omega)]); (try (with_reducible rfl)))
  simp only [Act.put, List.setIfInBounds_toArray, List.set_cons_zero, List.set_cons_succ]
  refine take_F (i := 21) (d := some 32) (v := ?_) (by kernel_rfl) (by kernel_rfl) rfl rfl (by kernel_rfl) (by kernel_rfl) (by kernel_rfl) (fun _ _ _ h => h) (Or.inl ⟨by rfl, ?_⟩) (by assumption) ?_
  rotate_left
  · (intro w hSw; (try dsimp only at hSw); go_simp; (try rw [if_neg (by omega)]); (try (with_reducible rfl)))
  simp only [Act.put, List.setIfInBounds_toArray, List.set_cons_zero, List.set_cons_succ]
  refine late_L (i := 22) (d := (some 33)) (by kernel_rfl) rfl rfl (by kernel_rfl) (fun Kq hKq => ?_)
  go_simp
  go_at_call 146
  refine (HL.out _).mono ?_; rintro e w5 ⟨rfl, hb5⟩
  have HR5 := Lib.hid (HR2.out.below (below_undrew hb5))
  obtain ⟨_, _, f0, f1⟩ := blk2 HR5.out.res
  (try go_wp2_with fail)
  refine hKq.out _ _ ?_
  clear hKq Kq
  refine late_L (i := 23) (d := none) (by kernel_rfl) rfl rfl (by kernel_rfl) (fun Kq hKq => ?_)
  go_simp
  refine hKq.out _ _ ?_
  clear hKq Kq
  refine done_L (by kernel_rfl) ?_ _
  refine NoPanic.normal ?_
  have HR6 := Lib.hid (HR5.out.put (.int .i64 (lowN (P1 + P2) L)) (.int .i64 (lowD (P1 + P2) L : Int)))
  go_wp2_with fail
  obtain ⟨k0, k1, _, _⟩ := blk2 HR6.out.res
  exact bodyPost_ret (v := aggQ (lowN (P1 + P2) L) (lowD (P1 + P2) L : Int)) (by simp [results, Try.results100, go_sem, k0, k1]) rfl ⟨rfl, HR6.out.bel⟩
/-- the whole from the parts -/
theorem low_part (a : Int) {M : Nat} (hM : 0 < M) : lowN a M * ((M / lowD a M : Nat) : Int) = a := by
  have h1 := low_eq (N := a) hM
  have hd := low_pos (N := a) hM
  obtain ⟨r, hr⟩ := low_dvd a M
  have e1 : M / lowD a M = r := Nat.div_eq_of_eq_mul_right hd hr
  rw [e1]
  refine Int.eq_of_mul_eq_mul_right (show (lowD a M : Int) ≠ 0 by omega) ?_
  rw [← h1]
  have h2 : (M : Int) = (lowD a M : Int) * (r : Int) := by rw [← Int.natCast_mul]; exact congrArg Nat.cast hr
  rw [h2]
  generalize lowN a M = x
  generalize lowD a M = y
  rw [Int.mul_assoc, Int.mul_comm (r : Int)]
set_option maxRecDepth 100000 in
set_option maxHeartbeats 3200000 in
theorem l19Minus_any (a c : Int) (M : Nat) (w : World) (hM : 0 < M) (hMb : M ≤ 2305843009213693952) (ha : a.natAbs ≤ 2305843009213693951) (hc : c.natAbs ≤ 2305843009213693951) :
    Calls Try.prog 101 #[aggQ (lowN a M) (lowD a M : Int), aggQ (lowN c M) (lowD c M : Int), .int .i64 (M : Int)] w (RetQ (lowN (a - c) M) (lowD (a - c) M) w) := by
  have HL := Lib.hid (fun wx => l19Make_any (a - c) M wx (by omega) (by omega) hM)
  unfold RetQ at HL
  have b1 := low_part a hM
  have b2 := low_part c hM
  have p1 := low_pos (N := a) hM
  have p2 := low_pos (N := c) hM
  have x1l := Nat.div_le_self M (lowD a M)
  have x2l := Nat.div_le_self M (lowD c M)
  generalize lowN a M = n1 at *
  generalize lowD a M = d1 at *
  generalize lowN c M = n2 at *
  generalize lowD c M = d2 at *
  have e1 : Int.tdiv (M : Int) (d1 : Int) = ((M / d1 : Nat) : Int) := by rw [Int.tdiv_eq_ediv_of_nonneg (by omega)]; exact (Int.natCast_ediv _ _).symm
  have e2 : Int.tdiv (M : Int) (d2 : Int) = ((M / d2 : Nat) : Int) := by rw [Int.tdiv_eq_ediv_of_nonneg (by omega)]; exact (Int.natCast_ediv _ _).symm
  have e3 : (M : Int) / (d1 : Int) = ((M / d1 : Nat) : Int) := (Int.natCast_ediv _ _).symm
  have e4 : (M : Int) / (d2 : Int) = ((M / d2 : Nat) : Int) := (Int.natCast_ediv _ _).symm
  generalize M / d1 = x1 at *
  generalize M / d2 = x2 at *
  have hw1 : IntKind.i64.wrap (n1 * (x1 : Int)) = a := by rw [b1]; exact IntWalk.i64_in _ (by omega)
  have hw2 : IntKind.i64.wrap (n2 * (x2 : Int)) = c := by rw [b2]; exact IntWalk.i64_in _ (by omega)
  have hw3 : IntKind.i64.wrap (a - c) = a - c := IntWalk.i64_in _ (by omega)
  have hw5 : IntKind.i64.wrap (x1 : Int) = (x1 : Int) := IntWalk.i64_in _ (by omega)
  have hw6 : IntKind.i64.wrap (x2 : Int) = (x2 : Int) := IntWalk.i64_in _ (by omega)
  have hg0 : (d1 : Int) ≠ 0 := by omega
  have hg1 : (0 : Int) < (d1 : Int) := by omega
  have hg2 : (d2 : Int) ≠ 0 := by omega
  have hg3 : (0 : Int) < (d2 : Int) := by omega
  have hgn : d1 ≠ 0 := by omega
  have hgm : d2 ≠ 0 := by omega
  obtain ⟨⟨c0, c1⟩, ⟨c2, c3⟩, hr, hb⟩ := three_blocks w (.int .i64 n1) (.int .i64 (d1 : Int)) (.int .i64 n2) (.int .i64 (d2 : Int)) (.int .i64 0) (.int .i64 0) 56
  have HR := Lib.hid (show FrB w _ (w.heap.size + 1 + 1) _ _ from ⟨hr, hb, by omega⟩)
  clear b1 b2 p1 p2 x1l x2l hr hb ha hc hM hMb
  go_enter Try.func101, Try.ntmps101
  go_upto_region 1 with (fail)
  generalize ((w.alloc (.cells #[.int .i64 n1, .int .i64 (d1 : Int)] 56)).alloc (.cells #[.int .i64 n2, .int .i64 (d2 : Int)] 56)).alloc (.cells #[.int .i64 0, .int .i64 0] 56) = w4 at *
  refine wp_region_noPanic ?_
  refine wp_region_L [17,16] (fun w' => w'.cell? ⟨w.heap.size, 0, none⟩ = some (.int .i64 n1) ∧ w'.cell? ⟨w.heap.size, 1, none⟩ = some (.int .i64 (d1 : Int)) ∧ w'.cell? ⟨w.heap.size + 1, 0, none⟩ = some (.int .i64 n2) ∧ w'.cell? ⟨w.heap.size + 1, 1, none⟩ = some (.int .i64 (d2 : Int))) (by kernel_rfl) (⟨c0, c1, c2, c3⟩) (fun hHeld => ?_)
  refine take_F (i := 0) (d := some 7) (v := ?_) (by kernel_rfl) (by kernel_rfl) rfl rfl (by kernel_rfl) (by kernel_rfl) (by kernel_rfl) (fun _ _ _ h => h) (Or.inl ⟨by rfl, ?_⟩) (by assumption) ?_
  rotate_left
  · (intro w hSw; (try dsimp only at hSw); go_simp; (try rw [if_neg (by omega)]); (try (with_reducible rfl)))
  simp only [Act.put, List.setIfInBounds_toArray, List.set_cons_zero, List.set_cons_succ]
  refine take_L [14,6,1] (i := 1) (d := some 8) (v := ?_) (by kernel_rfl) (by kernel_rfl) (by kernel_rfl) (by kernel_rfl) rfl rfl (by kernel_rfl) (by kernel_rfl) (by kernel_rfl) (fun _ _ _ h => h) (Or.inl ⟨by rfl, ?_⟩) (by assumption) ?_
  rotate_left
  · (intro w hSw; (try dsimp only at hSw); go_simp; (try rw [if_neg (by omega)]); (try (with_reducible rfl)))
  simp only [Act.put, List.setIfInBounds_toArray, List.set_cons_zero, List.set_cons_succ]
  refine take_F (i := 2) (d := some 9) (v := ?_) (by kernel_rfl) (by kernel_rfl) rfl rfl (by kernel_rfl) (by kernel_rfl) (by kernel_rfl) (fun _ _ _ h => h) (Or.inl ⟨by rfl, ?_⟩) (by assumption) ?_
  rotate_left
  · (intro w hSw; (try dsimp only at hSw); go_simp; (try rw [if_neg (by omega)]); (try (with_reducible rfl)))
  simp only [Act.put, List.setIfInBounds_toArray, List.set_cons_zero, List.set_cons_succ]
  refine take_F (i := 3) (d := some 10) (v := ?_) (by kernel_rfl) (by kernel_rfl) rfl rfl (by kernel_rfl) (by kernel_rfl) (by kernel_rfl) (fun _ _ _ h => h) (Or.inl ⟨by rfl, ?_⟩) (by assumption) ?_
  rotate_left
  · (intro w hSw; (try dsimp only at hSw); go_simp; (try rw [if_neg (by omega)]); (try (with_reducible rfl)))
  simp only [Act.put, List.setIfInBounds_toArray, List.set_cons_zero, List.set_cons_succ]
  refine take_L [14,6,5,4] (i := 4) (d := some 11) (v := ?_) (by kernel_rfl) (by kernel_rfl) (by kernel_rfl) (by kernel_rfl) rfl rfl (by kernel_rfl) (by kernel_rfl) (by kernel_rfl) (fun _ _ _ h => h) (Or.inl ⟨by rfl, ?_⟩) (by assumption) ?_
  rotate_left
  · (intro w hSw; (try dsimp only at hSw); go_simp; (try rw [if_neg (by omega)]); (try (with_reducible rfl)))
  simp only [Act.put, List.setIfInBounds_toArray, List.set_cons_zero, List.set_cons_succ]
  refine take_F (i := 5) (d := some 12) (v := ?_) (by kernel_rfl) (by kernel_rfl) rfl rfl (by kernel_rfl) (by kernel_rfl) (by kernel_rfl) (fun _ _ _ h => h) (Or.inl ⟨by rfl, ?_⟩) (by assumption) ?_
  rotate_left
  · (intro w hSw; (try dsimp only at hSw); go_simp; (try rw [if_neg (by omega)]); (try (with_reducible rfl)))
  simp only [Act.put, List.setIfInBounds_toArray, List.set_cons_zero, List.set_cons_succ]
  refine take_F (i := 6) (d := some 13) (v := ?_) (by kernel_rfl) (by kernel_rfl) rfl rfl (by kernel_rfl) (by kernel_rfl) (by kernel_rfl) (fun _ _ _ h => h) (Or.inl ⟨by rfl, ?_⟩) (by assumption) ?_
  rotate_left
  · (intro w hSw; (try dsimp only at hSw); go_simp; (try rw [if_neg (by omega)]); (try (with_reducible rfl)))
  simp only [Act.put, List.setIfInBounds_toArray, List.set_cons_zero, List.set_cons_succ]
  refine take_F (i := 7) (d := some 14) (v := ?_) (by kernel_rfl) (by kernel_rfl) rfl rfl (by kernel_rfl) (by kernel_rfl) (by kernel_rfl) (fun _ _ _ h => h) (Or.inl ⟨by rfl, ?_⟩) (by assumption) ?_
  rotate_left
  · (intro w hSw; (try dsimp only at hSw); go_simp; (try rw [if_neg (by omega)]); (try (with_reducible rfl)))
  simp only [Act.put, List.setIfInBounds_toArray, List.set_cons_zero, List.set_cons_succ]
  refine take_L [14,13,8] (i := 8) (d := some 15) (v := ?_) (by kernel_rfl) (by kernel_rfl) (by kernel_rfl) (by kernel_rfl) rfl rfl (by kernel_rfl) (by kernel_rfl) (by kernel_rfl) (fun _ _ _ h => h) (Or.inl ⟨by rfl, ?_⟩) (by assumption) ?_
  rotate_left
  · (intro w hSw; (try dsimp only at hSw); go_simp; (try rw [if_neg (by omega)]); (try (with_reducible rfl)))
  simp only [Act.put, List.setIfInBounds_toArray, List.set_cons_zero, List.set_cons_succ]
  refine take_F (i := 9) (d := some 16) (v := ?_) (by kernel_rfl) (by kernel_rfl) rfl rfl (by kernel_rfl) (by kernel_rfl) (by kernel_rfl) (fun _ _ _ h => h) (Or.inl ⟨by rfl, ?_⟩) (by assumption) ?_
  rotate_left
  · (intro w hSw; (try dsimp only at hSw); go_simp; (try rw [if_neg (by omega)]); (try (with_reducible rfl)))
  simp only [Act.put, List.setIfInBounds_toArray, List.set_cons_zero, List.set_cons_succ]
  refine take_F (i := 10) (d := some 17) (v := ?_) (by kernel_rfl) (by kernel_rfl) rfl rfl (by kernel_rfl) (by kernel_rfl) (by kernel_rfl) (fun _ _ _ h => h) (Or.inl ⟨by rfl, ?_⟩) (by assumption) ?_
  rotate_left
  · (intro w hSw; (try dsimp only at hSw); go_simp; (try rw [if_neg (by omega)]); (try (with_reducible rfl)))
  simp only [Act.put, List.setIfInBounds_toArray, List.set_cons_zero, List.set_cons_succ]
  refine take_L [14,13,12,11] (i := 11) (d := some 18) (v := ?_) (by kernel_rfl) (by kernel_rfl) (by kernel_rfl) (by kernel_rfl) rfl rfl (by kernel_rfl) (by kernel_rfl) (by kernel_rfl) (fun _ _ _ h => h) (Or.inl ⟨by rfl, ?_⟩) (by assumption) ?_
  rotate_left
  · (intro w hSw; (try dsimp only at hSw); go_simp; (try rw [if_neg (by omega)]); (try (with_reducible rfl)))
  simp only [Act.put, List.setIfInBounds_toArray, List.set_cons_zero, List.set_cons_succ]
  refine take_F (i := 12) (d := some 19) (v := ?_) (by kernel_rfl) (by kernel_rfl) rfl rfl (by kernel_rfl) (by kernel_rfl) (by kernel_rfl) (fun _ _ _ h => h) (Or.inl ⟨by rfl, ?_⟩) (by assumption) ?_
  rotate_left
  · (intro w hSw; (try dsimp only at hSw); go_simp; (try rw [if_neg (by omega)]); (try (with_reducible rfl)))
  simp only [Act.put, List.setIfInBounds_toArray, List.set_cons_zero, List.set_cons_succ]
  refine take_F (i := 13) (d := some 20) (v := ?_) (by kernel_rfl) (by kernel_rfl) rfl rfl (by kernel_rfl) (by kernel_rfl) (by kernel_rfl) (fun _ _ _ h => h) (Or.inl ⟨by rfl, ?_⟩) (by assumption) ?_
  rotate_left
  · (intro w hSw; (try dsimp only at hSw); go_simp; (try rw [if_neg (by omega)]); (try (with_reducible rfl)))
  simp only [Act.put, List.setIfInBounds_toArray, List.set_cons_zero, List.set_cons_succ]
  refine take_F (i := 14) (d := some 21) (v := ?_) (by kernel_rfl) (by kernel_rfl) rfl rfl (by kernel_rfl) (by kernel_rfl) (by kernel_rfl) (fun _ _ _ h => h) (Or.inl ⟨by rfl, ?_⟩) (by assumption) ?_
  rotate_left
  · (intro w hSw; (try dsimp only at hSw); go_simp; (try rw [if_neg (by omega)]); (try (with_reducible rfl)))
  simp only [Act.put, List.setIfInBounds_toArray, List.set_cons_zero, List.set_cons_succ]
  refine take_F (i := 15) (d := some 22) (v := ?_) (by kernel_rfl) (by kernel_rfl) rfl rfl (by kernel_rfl) (by kernel_rfl) (by kernel_rfl) (fun _ _ _ h => h) (Or.inl ⟨by rfl, ?_⟩) (by assumption) ?_
  rotate_left
  · (intro w hSw; (try dsimp only at hSw); go_simp; (try rw [if_neg (by omega)]); (try (with_reducible rfl)))
  simp only [Act.put, List.setIfInBounds_toArray, List.set_cons_zero, List.set_cons_succ]
  refine late_L (i := 16) (d := (some 23)) (by kernel_rfl) rfl rfl (by kernel_rfl) (fun Kq hKq => ?_)
  go_simp
  go_at_call 143
  refine (HL.out _).mono ?_; rintro e w5 ⟨rfl, hb5⟩
  have HR5 := Lib.hid (HR.out.below (below_undrew hb5))
  obtain ⟨_, _, f0, f1⟩ := blk2 HR5.out.res
  (try go_wp2_with fail)
  refine hKq.out _ _ ?_
  clear hKq Kq
  refine late_L (i := 17) (d := none) (by kernel_rfl) rfl rfl (by kernel_rfl) (fun Kq hKq => ?_)
  go_simp
  refine hKq.out _ _ ?_
  clear hKq Kq
  refine done_L (by kernel_rfl) ?_ _
  refine NoPanic.normal ?_
  have HR6 := Lib.hid (HR5.out.put (.int .i64 (lowN (a - c) M)) (.int .i64 (lowD (a - c) M : Int)))
  go_wp2_with fail
  obtain ⟨k0, k1, _, _⟩ := blk2 HR6.out.res
  exact bodyPost_ret (v := aggQ (lowN (a - c) M) (lowD (a - c) M : Int)) (by simp [results, Try.results101, go_sem, k0, k1]) rfl ⟨rfl, HR6.out.bel⟩
end Go.Proofs.Ytemcdmjnokpldaa
/- Errors of tables, part 2: lists that are checked. -/
namespace Go.Proofs.Ytemcdmjnokpldaa
open Go.RowKit Go.Joins

theorem ret_bool {a b : Bool} (h : a = b) : Ending.returned (.bool a) = .returned (.bool b) := by rw [h]
def allN (n : Nat) (f : Nat → Bool) : Bool := (List.range n).all f
theorem allN_bad {n : Nat} {f : Nat → Bool} (k : Nat) (hk : k < n) (h : f k = false) : allN n f = false := by
  unfold allN
  rw [List.all_eq_false]
  exact ⟨k, List.mem_range.2 hk, by simp [h]⟩
theorem allN_zero (f : Nat → Bool) : allN 0 f = true := rfl
theorem allN_step {f : Nat → Bool} {k : Nat} (h0 : allN k f = true) (h : f k = true) : allN (k + 1) f = true := by
  unfold allN at *
  rw [List.range_succ, List.all_append, h0]
  simp [h]
theorem allN_get {f : Nat → Bool} {n k : Nat} (h : allN n f = true) (hk : k < n) : f k = true := List.all_eq_true.1 h k (List.mem_range.2 hk)
theorem allN_congr {f g : Nat → Bool} {n : Nat} (h : ∀ i, i < n → f i = g i) : allN n f = allN n g := by
  induction n with
  | zero => rfl
  | succ n ih =>
    unfold allN at *
    rw [List.range_succ, List.all_append, List.all_append, ih (fun i hi => h i (by omega))]
    simp [h n (by omega)]
/-- the code of values and a unit -/
def rc (n : Nat) (f : Nat → Int) (u : Int) : Int := if allN n (fun i => inB (f i) (-1000000000000) 1000000000000) then (if inB u 1 1000000 then (if 200 < n then 5 else 0) else 2) else 2
theorem rc_bad {n : Nat} {f : Nat → Int} {u : Int} (h : allN n (fun i => inB (f i) (-1000000000000) 1000000000000) = false) : rc n f u = 2 := by unfold rc; rw [h]; rfl
theorem rc_unit {n : Nat} {f : Nat → Int} {u : Int} (h : inB u 1 1000000 = false) : rc n f u = 2 := by unfold rc; rw [h]; split <;> rfl
theorem rc_end {n : Nat} {f : Nat → Int} {u : Int} (h : allN n (fun i => inB (f i) (-1000000000000) 1000000000000) = true) (h2 : inB u 1 1000000 = true) : rc n f u = if 200 < n then 5 else 0 := by unfold rc; rw [h, h2]; rfl
theorem rc_ok {n : Nat} {f : Nat → Int} {u : Int} (h : rc n f u = 0) : (∀ i, i < n → -1000000000000 ≤ f i ∧ f i ≤ 1000000000000) ∧ (1 ≤ u ∧ u ≤ 1000000) ∧ n ≤ 200 := by
  unfold rc at h
  split at h
  · rename_i h1
    split at h
    · rename_i h2
      split at h
      · cases h
      · exact ⟨fun i hi => inB_iff.1 (allN_get h1 hi), inB_iff.1 h2, by omega⟩
    · cases h
  · cases h
theorem rc_cases (n : Nat) (f : Nat → Int) (u : Int) : rc n f u = 0 ∨ rc n f u = 2 ∨ rc n f u = 5 := by
  unfold rc
  split
  · split
    · split
      · exact .inr (.inr rfl)
      · exact .inl rfl
    · exact .inr (.inl rfl)
  · exact .inr (.inl rfl)
def slipB (n : Nat) (f : Nat → Int) : Bool := allN n (fun i => inB (f i) 0 1000000) && inB n 1 9
theorem slipB_bad {n : Nat} {f : Nat → Int} (h : allN n (fun i => inB (f i) 0 1000000) = false) : slipB n f = false := by unfold slipB; rw [h]; rfl
theorem slipB_end {n : Nat} {f : Nat → Int} (h : allN n (fun i => inB (f i) 0 1000000) = true) : slipB n f = inB n 1 9 := by unfold slipB; rw [h]; rfl
theorem slipB_ok {n : Nat} {f : Nat → Int} (h : slipB n f = true) : (∀ i, i < n → 0 ≤ f i ∧ f i ≤ 1000000) ∧ 1 ≤ n ∧ n ≤ 9 := by
  unfold slipB at h
  rw [Bool.and_eq_true] at h
  have := inB_iff.1 h.2
  exact ⟨fun i hi => inB_iff.1 (allN_get h.1 hi), by omega, by omega⟩
end Go.Proofs.Ytemcdmjnokpldaa
/- Finer tables, part 4: tests of values, and their first differences in the reference. -/
namespace Go.Proofs.Ytemcdmjnokpldaa
open Go.RowKit Go.Joins

/-- known values -/
def knownB (n : Nat) (f : Nat → Int) : Bool := allN n (fun i => inB (f i) (-100000) 100000) && inB n 1 6
theorem knownB_bad {n : Nat} {f : Nat → Int} (h : allN n (fun i => inB (f i) (-100000) 100000) = false) : knownB n f = false := by unfold knownB; rw [h]; rfl
theorem knownB_end {n : Nat} {f : Nat → Int} (h : allN n (fun i => inB (f i) (-100000) 100000) = true) : knownB n f = inB n 1 6 := by unfold knownB; rw [h]; rfl
theorem knownB_ok {n : Nat} {f : Nat → Int} (h : knownB n f = true) : Small 100000 n f ∧ 1 ≤ n ∧ n ≤ 6 := by
  unfold knownB at h
  rw [Bool.and_eq_true] at h
  have := inB_iff.1 h.2
  exact ⟨fun i hi => by have := inB_iff.1 (allN_get h.1 hi); omega, by omega, by omega⟩
theorem fine_c (x : Int) (w : World) : Calls Try.prog 91 #[.int .i64 x] w fun e w' => e = .returned (.bool (inB x 1 20)) ∧ w = w' := by
  have HB := Lib.hid (fun wx => between_any x 1 20 wx)
  go_enter Try.func91, Try.ntmps91
  go_wp2_with fail
  refine (HB.out _).mono ?_; rintro e w1 ⟨rfl, rfl⟩
  go_wp2_with fail
  go_ret
  exact ⟨rfl, rfl⟩
theorem knownI_c (B : Nat) (v : Value) (n : Nat) (f : Nat → Int) (w : World) (h : Rd w B v n 1 (tab n f)) (hn : n ≤ 1000) :
    Calls Try.prog 90 #[v] w fun e w' => e = .returned (.bool (knownB n f)) ∧ w = w' := by
  have H := Lib.hid h
  obtain ⟨A, c, rfl⟩ := rd_sl h
  have HU := Lib.hid (fun wx => between_any (n : Int) 1 6 wx)
  clear h
  go_enter Try.func90, Try.ntmps90
  go_wp2_with fail
  go_loop [7] (fun i => ∃ k : Nat, k ≤ n ∧ i = .int .i64 (k : Int) ∧ allN k (fun i => inB (f i) (-100000) 100000) = true) (fun i => n - (intOf i).toNat)
  case atStart => exact ⟨0, Nat.zero_le _, rfl, rfl⟩
  case round =>
    obtain ⟨k, hk, rfl, hall⟩ := hrel
    have Hall := Lib.hid hall
    clear hall
    by_cases hlt : k < n
    · obtain ⟨b1, o1, hA, _, hcc⟩ := rdF_all H.out (show 0 < n by omega)
      subst hA
      have q0 := hcc k hlt
      have hlt' : (k : Int) < (n : Int) := by omega
      have HB := Lib.hid (fun wx => between_any (f k) (-100000) 100000 wx)
      clear hcc
      cases hb : inB (f k) (-100000) 100000 with
      | false =>
        have Hr := Lib.hid (knownB_bad (allN_bad k hlt hb))
        rw [hb] at HB
        clear hb
        generalize f k = x at *
        go_wp2_with fail
        refine (HB.out _).mono ?_; rintro e w1 ⟨rfl, rfl⟩
        go_wp2_with fail
        go_ret
        exact ⟨ret_bool Hr.out.symm, rfl⟩
      | true =>
        have Hst := Lib.hid (allN_step Hall.out hb)
        rw [hb] at HB
        clear hb
        generalize f k = x at *
        go_wp2_with fail
        refine (HB.out _).mono ?_; rintro e w1 ⟨rfl, rfl⟩
        go_wp2_with fail
        go_round
        case rel => exact ⟨k + 1, by omega, by go_num, Hst.out⟩
        case measure => first | (simp [intOf]; done) | (simp [intOf]; omega)
    · obtain rfl : k = n := by omega
      have Hr := Lib.hid (knownB_end Hall.out)
      go_wp2_with fail
      refine (HU.out _).mono ?_; rintro e w1 ⟨rfl, rfl⟩
      go_wp2_with fail
      go_ret
      exact ⟨ret_bool Hr.out.symm, rfl⟩
theorem knownS_c (B : Nat) (v : Value) (n : Nat) (f : Nat → Int) (w : World) (h : Rd w B v n 1 (tab n f)) (hn : n ≤ 1000) :
    Calls Try.prog 103 #[v] w fun e w' => e = .returned (.bool (knownB n f)) ∧ w = w' := by
  have H := Lib.hid h
  obtain ⟨A, c, rfl⟩ := rd_sl h
  have HU := Lib.hid (fun wx => l00In_any (n : Int) 1 6 wx)
  clear h
  go_enter Try.func103, Try.ntmps103
  go_wp2_with fail
  go_loop [3] (fun i => ∃ k : Nat, k ≤ n ∧ i = .int .i64 (k : Int) ∧ allN k (fun i => inB (f i) (-100000) 100000) = true) (fun i => n - (intOf i).toNat)
  case atStart => exact ⟨0, Nat.zero_le _, rfl, rfl⟩
  case round =>
    obtain ⟨k, hk, rfl, hall⟩ := hrel
    have Hall := Lib.hid hall
    clear hall
    by_cases hlt : k < n
    · obtain ⟨b1, o1, hA, _, hcc⟩ := rdF_all H.out (show 0 < n by omega)
      subst hA
      have q0 := hcc k hlt
      have hlt' : (k : Int) < (n : Int) := by omega
      have HB := Lib.hid (fun wx => l00In_any (f k) (-100000) 100000 wx)
      clear hcc
      cases hb : inB (f k) (-100000) 100000 with
      | false =>
        have Hr := Lib.hid (knownB_bad (allN_bad k hlt hb))
        rw [hb] at HB
        clear hb
        generalize f k = x at *
        go_wp2_with fail
        refine (HB.out _).mono ?_; rintro e w1 ⟨rfl, rfl⟩
        go_wp2_with fail
        go_ret
        exact ⟨ret_bool Hr.out.symm, rfl⟩
      | true =>
        have Hst := Lib.hid (allN_step Hall.out hb)
        rw [hb] at HB
        clear hb
        generalize f k = x at *
        go_wp2_with fail
        refine (HB.out _).mono ?_; rintro e w1 ⟨rfl, rfl⟩
        go_wp2_with fail
        go_round
        case rel => exact ⟨k + 1, by omega, by go_num, Hst.out⟩
        case measure => first | (simp [intOf]; done) | (simp [intOf]; omega)
    · obtain rfl : k = n := by omega
      have Hr := Lib.hid (knownB_end Hall.out)
      go_wp2_with fail
      refine (HU.out _).mono ?_; rintro e w1 ⟨rfl, rfl⟩
      go_wp2_with fail
      go_ret
      exact ⟨ret_bool Hr.out.symm, rfl⟩
theorem l00OwnF_c (B : Nat) (v : Value) (n : Nat) (f : Nat → Int) (w : World) (h : Rd w B v n 1 (tab n f)) (hB : B ≤ w.heap.size) (hn : n ≤ 1000) (h0 : 0 < n) :
    Calls Try.prog 142 #[v] w (RetF w n f) := by
  have H := Lib.hid h
  obtain ⟨A, c, rfl⟩ := rd_sl h
  obtain ⟨b, o, hA, hb, _⟩ := rdF_all h h0
  subst hA
  clear h
  have hb0 := Lib.hid ((Below.refl w.heap.size w).alloc (Nat.le_refl _) (.cells #[] 2))
  have ho0 := Lib.hid (World.ownsRow_made (base := w.heap.size) (e := 2) (size := 1) w #[] 0 (Nat.le_refl _) (by simp [maxLen]) rfl)
  obtain ⟨b', o', hA', hb', hcc⟩ := rdF_all (H.out.below (hb0.out.mono hB)) h0
  obtain ⟨rfl, rfl⟩ : b = b' ∧ o = o' := by simpa using hA'
  have Hcc := Lib.hid (show ∀ (i : Nat) (u : Value), (tab n f)[i]? = some u → (w.alloc (.cells #[] 2)).cell? ⟨b, o + i, none⟩ = some u from fun i u hu => by
    have hi : i < n := by have := (List.getElem?_eq_some_iff.1 hu).1; rwa [tab_len] at this
    rw [tab_at f hi] at hu
    rw [← hu]; exact hcc i hi)
  clear hcc hA'
  go_enter Try.func142, Try.ntmps142
  go_wp2_with (at_builtin; refine wpList_apr 49 2 _ 1 8 Try.underlying49 infoD rfl (by omega) _ _ rfl rfl w.heap.size _ 0 _ rfl ho0.out b o n _ (tab n f) rfl (by rw [tab_len]; omega) Hcc.out (tab_one n f) (by simp [maxLen]; omega) (by omega) hb0.out.size ?_; intro v7 w7 hown7 hg7; have Hb7 := Lib.hid (below_apd hb0.out ho0.out hg7 (Nat.le_refl _) hb0.out.size); simp only [Nat.zero_add, List.nil_append] at hown7; obtain ⟨A7, c7, rfl⟩ := own_sl hown7; have Hown7 := Lib.hid hown7; clear hown7 hg7)
  go_ret
  exact ⟨_, rfl, Hown7.out, Hb7.out⟩

set_option maxRecDepth 100000 in
set_option maxHeartbeats 6400000 in
theorem l19Leads_any (B : Nat) (v : Value) (n : Nat) (f : Nat → Int) (w : World) (h : Rd w B v n 1 (tab n f)) (hB : B ≤ w.heap.size) (h1 : 1 ≤ n) (hn : n ≤ 6) (hS : Small 100000 n f) :
    Calls Try.prog 94 #[v] w (RetF w n (fun j => Dn j f 0)) := by
  have HO := Lib.hid (l00OwnF_c B v n f w h hB (by omega) h1)
  unfold RetF at HO
  have HS := Lib.hid (fun j => (Small.Dn hS j))
  have hM : 2 ^ 6 * 100000 ≤ 4611686018427387903 := by decide
  have HM := Lib.hid (fun j hj => pow_mul_le (j := j) hM hj)
  have Hmade := Lib.hid (fun w1 => World.ownsRow_made (base := w1.heap.size) (e := 2) (size := 1) w1 #[] 0 (Nat.le_refl _) (by simp [maxLen]) rfl)
  obtain ⟨A, c, rfl⟩ := rd_sl h
  clear h hS hM
  go_enter Try.func94, Try.ntmps94
  go_wp2_with fail
  refine (HO.out).mono ?_; rintro e w1 ⟨v1, rfl, ho1, hb1⟩
  have hb2 := hb1.alloc hb1.size (.cells #[] 2)
  have Ho2 := Lib.hid (ownsRow_le (Hmade.out w1) hb1.size)
  have Hrd2 := Lib.hid (fun (w' : World) (hg : (w1.alloc (.cells #[] 2)).grownBy w' ((Value.slice (some ⟨w1.heap.size, 0, none⟩) 0 0).ownBlock)) => rd_apart (Hmade.out w1) (Nat.le_refl _) (Nat.le_of_lt (by simp)) ((Rd.of_own ho1).below ((Below.refl _ _).alloc (Nat.le_refl _) _)) hg)
  have Hb2 := Lib.hid hb2
  obtain ⟨A1, c1, rfl⟩ := own_sl ho1
  clear ho1 hb1 hb2
  go_wp2_with fail
  go_loopw [3, 4] (fun b a wr => ∃ j : Nat, j ≤ n ∧ wr.ownsRow w.heap.size 2 1 a j (tab j (fun j => Dn j f 0)) ∧ (∀ w', wr.grownBy w' a.ownBlock → Rd w' w'.heap.size b (n - j) 1 (tab (n - j) (Dn j f))) ∧ Below w.heap.size w wr) (fun b _ _ => match b with | .slice _ m _ => m | _ => 0)
  case atStart => exact ⟨0, Nat.zero_le _, Ho2.out, Hrd2.out, Hb2.out⟩
  case round =>
    obtain ⟨j, hj, hown, hrd, hbl⟩ := hrel
    obtain ⟨A3, c3, rfl⟩ := own_sl hown
    have hrd0 := hrd wr ⟨rfl, rfl, rfl, Nat.le_refl _, fun _ _ _ => rfl⟩
    obtain ⟨A4, c4, rfl⟩ := rd_sl hrd0
    have Hown := Lib.hid hown
    have Hbl := Lib.hid hbl
    have Hrd := Lib.hid hrd
    clear hown hbl hrd
    obtain ⟨wo, rfl⟩ : ∃ x, x = wr := ⟨_, rfl⟩
    by_cases hlt : j < n
    · obtain ⟨b1, o1, hA, _, hcc⟩ := rdF_all hrd0 (by omega)
      subst hA
      have q0 := hcc 0 (by omega)
      rw [Nat.add_zero] at q0
      have Hsc := Lib.hid (tab_succ j (fun j => Dn j f 0))
      have hnj : n - j - 1 = n - (j + 1) := by omega
      have HSj := Lib.hid (HS.out j)
      have HMj := Lib.hid (HM.out j (by omega))
      have HD1 := Lib.hid (show Dn (j + 1) f = D (Dn j f) from rfl)
      generalize hm : n - j = m at *
      have hm6 : m ≤ 6 := by omega
      have hm0 : 0 < m := by omega
      have Hnj := Lib.hid hnj
      have hpos' : (0 : Int) < (m : Int) := by omega
      clear hcc hrd0 hnj
      (try dsimp only at Hsc)
      generalize hx : Dn j f 0 = x at *
      generalize hF : Dn j f = F at *
      have Hm := Lib.hid hm
      clear hx hF hm
      go_wp2_with (at_builtin; refine wpList_apd 49 2 _ 1 8 Try.underlying49 infoD rfl (by omega) _ _ rfl rfl w.heap.size _ j _ rfl Hown.out #[.int .i64 x] 1 1 rfl rfl (by simp [Value.oneCell']) (by simp [maxLen]; omega) (by omega) Hbl.out.size ?_; intro v7 w7 hown7 hg7; have Hb7 := Lib.hid (below_apd Hbl.out Hown.out hg7 (Nat.le_refl _) Hbl.out.size); obtain ⟨A7, c7, rfl⟩ := own_sl hown7; have Hown7 := Lib.hid hown7; have Hrd7 := Lib.hid (Hrd.out w7 hg7); clear hown7 hg7)
      have hbz := (Below.refl w7.heap.size w7).alloc (Nat.le_refl _) (.cells #[] 2)
      have Hbz := Lib.hid hbz
      have Hoz := Lib.hid (Hmade.out w7)
      clear hbz
      go_loopw [5, 6] (fun a i wr => ∃ k p : Nat, p + 1 = k ∧ k ≤ m ∧ i = .int .i64 (k : Int) ∧ wr.ownsRow w7.heap.size 2 1 a p (tab p (D F)) ∧ Below w7.heap.size w7 wr) (fun _ i _ => m + 1 - (intOf i).toNat)
      case atStart => exact ⟨1, 0, rfl, by omega, rfl, Hoz.out, Hbz.out⟩
      case round =>
        obtain ⟨k, p, hkp, hk, rfl, hown, hbl⟩ := hrel
        obtain ⟨A9, c9, rfl⟩ := own_sl hown
        have Hownn := Lib.hid hown
        have Hbln := Lib.hid hbl
        clear hown
        by_cases hlk : k < m
        · obtain ⟨b1', o1', hA, hb1, hcc⟩ := rdF_all (Hrd7.out.below hbl) hm0
          obtain ⟨rfl, rfl⟩ : b1 = b1' ∧ o1 = o1' := by simpa using hA
          have q1 := hcc k hlk
          have q0 := hcc p (by omega)
          have s1 := HSj.out k (by omega)
          have s0 := HSj.out p (by omega)
          have HMj' := HMj.out
          have HD := Lib.hid (show D F p = F k - F p by rw [← hkp]; rfl)
          have Hsc9 := Lib.hid (tab_succ p (D F))
          clear hcc hA
          generalize F k = x at *
          generalize F p = y at *
          generalize 2 ^ j * 100000 = MM at *
          have hlt' : (k : Int) < (m : Int) := by omega
          have hm1 : IntKind.i64.wrap ((k : Int) - 1) = (p : Int) := by rw [IntWalk.i64_in _ (by omega)]; omega
          have hm2 : (p : Int) < (m : Int) := by omega
          have hd : IntKind.i64.wrap (x - y) = x - y := IntWalk.i64_in _ (by omega)
          have Hkp := Lib.hid hkp
          have hm3 : p < 1000 := by omega
          have hkk : k < 6 := by omega
          clear hbl s1 s0 hkp hk HMj'
          go_wp2_with fail
          go_region_law ((first | (refine step_apd 49 2 _ 1 8 Try.underlying49 infoD rfl (by omega) _ _ (by rfl) (by rfl) w7.heap.size _ p _ (by rfl) Hownn.out #[.int .i64 (x - y)] 1 1 (by rfl) (by rfl) (by simp [Value.oneCell']) (by simp [maxLen]; omega) (by omega) Hbln.out.size ?_; intro v8 w8 hown8 hg8; have Hb8 := Lib.hid (below_apd Hbln.out Hownn.out hg8 (Nat.le_refl _) Hbln.out.size); obtain ⟨A8, c8, rfl⟩ := own_sl hown8; have Hown8 := Lib.hid hown8; clear hown8 hg8)))
          all_goals
            (try go_wp2_with fail)
            go_roundw
            case rel => exact ⟨k + 1, p + 1, by rw [Hkp.out], by omega, by go_num, by rw [Hsc9.out, HD.out]; exact Hown8.out, Hb8.out⟩
            case measure => first | (simp [intOf]; done) | (simp [intOf]; omega)
        · have hkm : p = m - 1 := by omega
          have hlt' : (m : Int) ≤ (k : Int) := by omega
          subst hkm
          have Hap := Lib.hid (fun w' hg => own_apart (w' := w') Hown7.out Hownn.out hg)
          have Ho8 := Lib.hid (own_below Hown7.out hbl)
          have Hb8 := Lib.hid (Hb7.out.trans (hbl.mono Hb7.out.size))
          clear hbl
          go_wp2_with fail
          go_roundw
          case rel => exact ⟨j + 1, by omega, by rw [Hsc.out]; exact Ho8.out, fun w' hg => by rw [← Hnj.out, HD1.out]; exact Rd.of_own (Hap.out w' hg), Hb8.out⟩
          case measure => first | (simp; done) | (simp; omega) | omega
    · obtain rfl : j = n := by omega
      have hz : j - j = 0 := by omega
      rw [hz] at *
      go_wp2_with fail
      go_ret
      exact ⟨_, rfl, Hown.out, Hbl.out⟩
end Go.Proofs.Ytemcdmjnokpldaa
/- Finer tables, part 5: values of a polynomial between its points. -/
namespace Go.Proofs.Ytemcdmjnokpldaa
open Go.RowKit Go.Joins

/-- leads, a place and a number of parts that are not too great -/
structure VB (L : Nat → Int) (x : Int) (q n : Nat) : Prop where
  n1 : 1 ≤ n
  n6 : n ≤ 6
  q1 : 1 ≤ q
  q20 : q ≤ 20
  x1 : -120 ≤ x
  x2 : x ≤ 120
  lds : Lds L n
theorem kq_le {k q : Nat} (hk : k ≤ 5) (hq : q ≤ 20) : (k : Int) * (q : Int) ≤ 100 ∧ 0 ≤ (k : Int) * (q : Int) := by
  have := Nat.mul_le_mul hk hq
  rw [← Int.natCast_mul]
  omega
section
variable {L : Nat → Int} {x : Int} {q n : Nat}
theorem VB.R (h : VB L x q n) : ∀ k, k < n - 1 → (x - (k : Int) * (q : Int)).natAbs ≤ 200 := by
  intro k hk
  have h6 := h.n6
  have h1 := kq_le (k := k) (q := q) (by omega) h.q20
  have h2 := kq_le (k := 4) (q := q) (by omega) h.q20
  have h3 : (k : Int) * (q : Int) ≤ 4 * (q : Int) := Int.mul_le_mul_of_nonneg_right (by omega) (by omega)
  have := h.x1
  have := h.x2
  have := h.q20
  omega
theorem VB.Q (h : VB L x q n) : q * (n - 1) ≤ 100 := Nat.le_trans (Nat.mul_le_mul h.q20 (show n - 1 ≤ 5 by have := h.n6; omega)) (by omega)
theorem pow200 {m : Nat} (h : m ≤ 5) : 200 ^ m ≤ 320000000000 := Nat.le_trans (Nat.pow_le_pow_right (by omega) h) (by decide)
theorem pow100 {m : Nat} (h : m ≤ 5) : 100 ^ m ≤ 10000000000 := Nat.le_trans (Nat.pow_le_pow_right (by omega) h) (by decide)
theorem pow2k {k : Nat} (h : k ≤ 5) : 2 ^ k ≤ 32 := Nat.le_trans (Nat.pow_le_pow_right (by omega) h) (by decide)
theorem VB.ab (h : VB L x q n) (k : Nat) (hk : k ≤ n - 1) : (abv x q k).natAbs ≤ 320000000000 := Nat.le_trans (abv_bd h.R k hk) (pow200 (by have := h.n6; omega))
theorem VB.be (h : VB L x q n) (k : Nat) (hk : k ≤ n - 1) : bel q k ≤ 10000000000 := Nat.le_trans (bel_bd h.Q k hk) (pow100 (by have := h.n6; omega))
theorem VB.belp (h : VB L x q n) (k : Nat) : 0 < bel q k := bel_pos h.q1 k
theorem VB.ld (h : VB L x q n) (k : Nat) (hk : k < n) : (L k).natAbs ≤ 3200000 := Nat.le_trans (h.lds k hk) (by have := pow2k (k := k) (by have := h.n6; omega); omega)
theorem VB.la (h : VB L x q n) (k : Nat) (hk : k < n) : (L k * abv x q k).natAbs ≤ 1024000000000000000 := by
  rw [Int.natAbs_mul]
  exact Nat.le_trans (Nat.mul_le_mul (h.ld k hk) (h.ab k (by omega))) (by omega)
theorem VB.tr (h : VB L x q n) (k : Nat) (hk : k < n) : (trm x q (n - 1) k).natAbs ≤ 320000000000 :=
  Nat.le_trans (trm_bd h.q1 (Nat.le_trans h.Q (by omega)) h.R k (by omega)) (pow200 (by have := h.n6; omega))
theorem VB.lt (h : VB L x q n) (k : Nat) (hk : k < n) : (L k * trm x q (n - 1) k).natAbs ≤ 1024000000000000000 := by
  rw [Int.natAbs_mul]
  exact Nat.le_trans (Nat.mul_le_mul (h.ld k hk) (h.tr k hk)) (by omega)
theorem VB.sq (h : VB L x q n) (k : Nat) (hk : k ≤ n) : (smQ L x q (n - 1) k).natAbs ≤ 2016000000000000000 := by
  have h1 := smQ_bd h.q1 (Nat.le_trans h.Q (by omega)) h.R h.lds (by have := h.n1; omega) k hk
  have h6 := h.n6
  have h2 : 2 ^ k ≤ 64 := Nat.le_trans (Nat.pow_le_pow_right (by omega) (show k ≤ 6 by omega)) (by decide)
  have h3 := pow200 (m := n - 1) (by omega)
  exact Nat.le_trans h1 (Nat.le_trans (Nat.mul_le_mul (show 2 ^ k - 1 ≤ 63 by omega) (Nat.mul_le_mul (Nat.le_refl 100000) h3)) (by omega))
end
/-- the value at x / q -/
def vaN (L : Nat → Int) (x : Int) (q n : Nat) : Int := lowN (smQ L x q (n - 1) n) (bel q (n - 1))
def vaD (L : Nat → Int) (x : Int) (q n : Nat) : Nat := lowD (smQ L x q (n - 1) n) (bel q (n - 1))
theorem FrB.pair (w : World) (x y a b : Value) : FrB w ((w.alloc (.cells #[x, y] 56)).alloc (.cells #[a, b] 56)) w.heap.size x y ∧ FrB w ((w.alloc (.cells #[x, y] 56)).alloc (.cells #[a, b] 56)) (w.heap.size + 1) a b := by
  obtain ⟨h1, h2, h3⟩ := two_blocksF w #[x, y] #[a, b] 56 56
  exact ⟨⟨h1, h3, by omega⟩, ⟨h2, h3, by omega⟩⟩

theorem FrB.othr {W wr : World} {r r2 : Nat} {x y : Value} (h : FrB W wr r x y) (hr : r2 ≠ r) (a b : Value) (hl : W.heap.size ≤ r2 := by omega) : FrB W ((wr.setCell ⟨r2, 0, none⟩ a).setCell ⟨r2, 1, none⟩ b) r x y :=
  ⟨((Below.heap_setCell _ _ _ _ (fun e => hr e.symm)).trans (Below.heap_setCell _ _ _ _ (fun e => hr e.symm))).trans h.res, (h.bel.setCell (p := ⟨r2, 0, none⟩) hl a).setCell (p := ⟨r2, 1, none⟩) hl b, h.lr⟩
set_option maxRecDepth 100000 in
set_option maxHeartbeats 6400000 in
theorem valueAt_any (B : Nat) (v : Value) (n : Nat) (L : Nat → Int) (x : Int) (q : Nat) (w : World) (h : Rd w B v n 1 (tab n L)) (hB : B ≤ w.heap.size) (hv : VB L x q n) :
    Calls Try.prog 97 #[v, .int .i64 x, .int .i64 (q : Int)] w (RetQ (vaN L x q n) (vaD L x q n) w) := by
  have H := Lib.hid h
  obtain ⟨A, c, rfl⟩ := rd_sl h
  obtain ⟨HA0, HB0⟩ := FrB.pair w (.int .i64 0) (.int .i64 0) (.int .i64 0) (.int .i64 1)
  have HA := Lib.hid HA0
  have HB := Lib.hid HB0
  have HV := Lib.hid hv
  have hn6 := hv.n6
  have hn1 := hv.n1
  have hq1 := hv.q1
  have hq20 := hv.q20
  have hx1 := hv.x1
  have hx2 := hv.x2
  have Hz := Lib.hid (low_zero (hv.belp (n - 1)))
  clear h HA0 HB0
  go_enter Try.func97, Try.ntmps97
  go_wp2_with fail
  go_loopw [8, 9, 15] (fun a b i wr => ∃ k : Nat, k ≤ n ∧ a = .int .i64 (abv x q (k - 1)) ∧ b = .int .i64 (bel q (k - 1) : Int) ∧ i = .int .i64 (k : Int) ∧ FrB w wr w.heap.size (.int .i64 0) (.int .i64 0) ∧ FrB w wr (w.heap.size + 1) (.int .i64 (lowN (smQ L x q (n - 1) k) (bel q (n - 1)))) (.int .i64 (lowD (smQ L x q (n - 1) k) (bel q (n - 1)) : Int))) (fun _ _ i _ => n - (intOf i).toNat)
  case atStart =>
    obtain ⟨z1, z2⟩ := Prod.mk.inj Hz.out
    exact ⟨0, by omega, rfl, rfl, rfl, HA.out, by show FrB _ _ _ (.int .i64 (lowN 0 _)) (.int .i64 (lowD 0 _ : Int)); rw [z1, z2]; exact HB.out⟩
  case round =>
    obtain ⟨k, hk, rfl, rfl, rfl, hr, ho⟩ := hrel
    have HR2 := Lib.hid hr
    have HO2 := Lib.hid ho
    clear HA HB hr ho
    by_cases hlt : k < n
    · have hlt' : (k : Int) < (n : Int) := by omega
      obtain ⟨b1, o1, hA, _, hcc⟩ := rdF_all (H.out.below (HR2.out.bel.mono hB)) (show 0 < n by omega)
      subst hA
      have q0 := hcc k hlt
      have HA8 := Lib.hid (show k + 1 - 1 = k by omega)
      have HA9 := HA8
      have g1 := hv.ab k (by omega)
      have g2 := hv.be k (by omega)
      have g2p := hv.belp k
      have g3 := hv.la k hlt
      have g4 := hv.lt k hlt
      have g5 := hv.sq k (by omega)
      have g6 := hv.be (n - 1) (Nat.le_refl _)
      have g7 := hv.belp (n - 1)
      have g8 := hv.ld k hlt
      have e0 := low_trm L x (n := n - 1) hv.q1 (show k ≤ n - 1 by omega)
      obtain ⟨e1, e2⟩ := Prod.mk.inj e0
      have HLw := Lib.hid (fun wx => lowest_any (L k * abv x q k) (bel q k) wx (by omega) (by omega) g2p)
      have HSu := Lib.hid (fun wx => sum_any (smQ L x q (n - 1) k) (L k * trm x q (n - 1) k) (bel q (n - 1)) wx g7 (by omega) (by omega) (by omega))
      have hsm : smQ L x q (n - 1) (k + 1) = smQ L x q (n - 1) k + L k * trm x q (n - 1) k := rfl
      rw [e1, e2] at HLw
      rw [← hsm] at HSu
      unfold RetQ at HLw HSu
      obtain ⟨N3, hN3⟩ : ∃ z, lowN (smQ L x q (n - 1) (k + 1)) (bel q (n - 1)) = z := ⟨_, rfl⟩
      obtain ⟨D3, hD3⟩ : ∃ z, lowD (smQ L x q (n - 1) (k + 1)) (bel q (n - 1)) = z := ⟨_, rfl⟩
      rw [hN3, hD3] at HSu
      have HN3 := Lib.hid hN3
      have HD3 := Lib.hid hD3
      clear hN3 hD3
      have hp : ∀ j, j + 1 = k → abv x q k = abv x q j * (x - (j : Int) * (q : Int)) ∧ bel q k = bel q j * (q * (j + 1)) := fun j hj => by subst hj; exact ⟨rfl, rfl⟩
      clear e0 e1 e2 hsm
      generalize lowN (smQ L x q (n - 1) k) (bel q (n - 1)) = N1 at *
      generalize lowD (smQ L x q (n - 1) k) (bel q (n - 1)) = D1 at *
      generalize lowN (L k * trm x q (n - 1) k) (bel q (n - 1)) = N2 at *
      generalize lowD (L k * trm x q (n - 1) k) (bel q (n - 1)) = D2 at *
      clear g4 g5 g6 g7 hcc
      cases k with
      | zero =>
        have hw3 : IntKind.i64.wrap (L 0 * 1) = L 0 := by rw [Int.mul_one]; exact IntWalk.i64_in _ (by omega)
        have hw4 : IntKind.i64.wrap (L 0) = L 0 := IntWalk.i64_in _ (by omega)
        have hL1 : L 0 * abv x q 0 = L 0 := Int.mul_one _
        rw [hL1] at HLw
        rw [show (bel q 0 : Int) = 1 from rfl] at HLw
        rw [Nat.add_zero] at q0
        clear hp g1 g2 g2p g3 hL1
        generalize L 0 = l at *
        rw [show abv x q (0 - 1) = 1 from rfl, show (bel q (0 - 1) : Int) = 1 from rfl]
        go_upto_region 8 with (fail)
        obtain ⟨z0, z1, _, _⟩ := blk2 HO2.out.res
        refine wp_region_noPanic ?_
        refine wp_region_L [7,6] (fun w' => w'.cell? ⟨w.heap.size + 1, 0, none⟩ = some (.int .i64 N1) ∧ w'.cell? ⟨w.heap.size + 1, 1, none⟩ = some (.int .i64 (D1 : Int))) (by kernel_rfl) (⟨z0, z1⟩) (fun hHeld => ?_)
        refine take_L [0] (i := 0) (d := some 35) (v := ?_) (by kernel_rfl) (by kernel_rfl) (by kernel_rfl) (by kernel_rfl) rfl rfl (by kernel_rfl) (by kernel_rfl) (by kernel_rfl) (fun _ _ _ h => h) (Or.inl ⟨by rfl, ?_⟩) (by assumption) ?_
        rotate_left
        · (intro w hSw; (try dsimp only at hSw); go_simp; (try rw [if_neg (by omega)]); (try (with_reducible rfl)))
        simp only [Act.put, List.setIfInBounds_toArray, List.set_cons_zero, List.set_cons_succ]
        refine take_F (i := 1) (d := some 36) (v := ?_) (by kernel_rfl) (by kernel_rfl) rfl rfl (by kernel_rfl) (by kernel_rfl) (by kernel_rfl) (fun _ _ _ h => h) (Or.inl ⟨by rfl, ?_⟩) (by assumption) ?_
        rotate_left
        · (intro w hSw; (try dsimp only at hSw); go_simp; (try rw [if_neg (by omega)]); (try (with_reducible rfl)))
        simp only [Act.put, List.setIfInBounds_toArray, List.set_cons_zero, List.set_cons_succ]
        refine take_F (i := 2) (d := some 37) (v := ?_) (by kernel_rfl) (by kernel_rfl) rfl rfl (by kernel_rfl) (by kernel_rfl) (by kernel_rfl) (fun _ _ _ h => h) (Or.inl ⟨by rfl, ?_⟩) (by assumption) ?_
        rotate_left
        · (intro w hSw; (try dsimp only at hSw); go_simp; (try rw [if_neg (by omega)]); (try (with_reducible rfl)))
        simp only [Act.put, List.setIfInBounds_toArray, List.set_cons_zero, List.set_cons_succ]
        refine take_F (i := 3) (d := some 38) (v := ?_) (by kernel_rfl) (by kernel_rfl) rfl rfl (by kernel_rfl) (by kernel_rfl) (by kernel_rfl) (fun _ _ _ h => h) (Or.inl ⟨by rfl, ?_⟩) (by assumption) ?_
        rotate_left
        · (intro w hSw; (try dsimp only at hSw); go_simp; (try rw [if_neg (by omega)]); (try (with_reducible rfl)))
        simp only [Act.put, List.setIfInBounds_toArray, List.set_cons_zero, List.set_cons_succ]
        refine take_F (i := 4) (d := some 39) (v := ?_) (by kernel_rfl) (by kernel_rfl) rfl rfl (by kernel_rfl) (by kernel_rfl) (by kernel_rfl) (fun _ _ _ h => h) (Or.inl ⟨by rfl, ?_⟩) (by assumption) ?_
        rotate_left
        · (intro w hSw; (try dsimp only at hSw); go_simp; (try rw [if_neg (by omega)]); (try (with_reducible rfl)))
        simp only [Act.put, List.setIfInBounds_toArray, List.set_cons_zero, List.set_cons_succ]
        refine call_L (i := 5) (d := (some 40)) rfl rfl (by kernel_rfl) (fun Kq hKq => ?_)
        go_simp
        go_at_call 146
        refine (HLw.out _).mono ?_; rintro e w5 ⟨rfl, hb5⟩
        have HO5 := Lib.hid (HO2.out.below (below_undrew hb5))
        have HR5 := Lib.hid (HR2.out.below (below_undrew hb5))
        obtain ⟨p0, p1, p2, p3⟩ := blk2 HO5.out.res
        (try go_wp2_with fail)
        refine hKq.out _ _ (⟨p0, p1⟩) (fun hHeld => ?_)
        clear hKq Kq
        (try simp only [Act.put, List.setIfInBounds_toArray, List.set_cons_zero, List.set_cons_succ])
        refine late_L (i := 6) (d := (some 41)) (by kernel_rfl) rfl rfl (by kernel_rfl) (fun Kq hKq => ?_)
        go_simp
        go_at_call 100
        refine (HSu.out _).mono ?_; rintro e w6 ⟨rfl, hb6⟩
        have HO6 := Lib.hid (HO5.out.below hb6)
        have HR6 := Lib.hid (HR5.out.below hb6)
        clear p0 p1 p2 p3 hb5 hb6 z0 z1
        obtain ⟨p0, p1, p2, p3⟩ := blk2 HO6.out.res
        (try go_wp2_with fail)
        refine hKq.out _ _ ?_
        clear hKq Kq
        refine late_L (i := 7) (d := none) (by kernel_rfl) rfl rfl (by kernel_rfl) (fun Kq hKq => ?_)
        go_simp
        refine hKq.out _ _ ?_
        clear hKq Kq
        refine done_L (by kernel_rfl) ?_ _
        refine NoPanic.normal ?_
        have HO7 := Lib.hid (HO6.out.put (.int .i64 N3) (.int .i64 (D3 : Int)))
        have HR7 := Lib.hid (HR6.out.othr (r2 := w.heap.size + 1) (by omega) (.int .i64 N3) (.int .i64 (D3 : Int)))
        clear p0 p1 p2 p3
        go_wp2_with fail
        go_roundw
        case rel => exact ⟨0 + 1, by omega, congrArg (Value.int .i64) (rfl), congrArg (Value.int .i64) (rfl), by go_num, HR7.out, by rw [HN3.out, HD3.out]; exact HO7.out⟩
        case measure => first | (simp [intOf]; done) | (simp [intOf]; omega)
      | succ j =>
        obtain ⟨r1, r2⟩ := hp j rfl
        obtain ⟨hP1, hP2⟩ := kq_le (k := j) (q := q) (by omega) hv.q20
        obtain ⟨P, hP⟩ : ∃ P, (j : Int) * (q : Int) = P := ⟨_, rfl⟩
        have hPw : IntKind.i64.wrap ((j : Int) * (q : Int)) = P := by rw [hP]; exact IntWalk.i64_in _ (by omega)
        rw [hP] at r1 hP1 hP2
        have hAw : IntKind.i64.wrap (abv x q j * (x - P)) = abv x q (j + 1) := by rw [← r1]; exact IntWalk.i64_in _ (by omega)
        have hE2 : q * (j + 1) ≤ 20 * 6 := Nat.mul_le_mul (by omega) (by omega)
        obtain ⟨E, hE⟩ : ∃ E, q * (j + 1) = E := ⟨_, rfl⟩
        rw [hE] at r2 hE2
        have hEi : (q : Int) * ((j : Int) + 1) = (E : Int) := by rw [← hE, Int.natCast_mul, Int.natCast_add]; rfl
        have hEw : IntKind.i64.wrap ((q : Int) * ((j : Int) + 1)) = (E : Int) := by rw [hEi]; exact IntWalk.i64_in _ (by omega)
        have hBw : IntKind.i64.wrap ((bel q j : Int) * (E : Int)) = (bel q (j + 1) : Int) := by rw [← Int.natCast_mul, ← r2]; exact IntWalk.i64_in _ (by omega)
        have hNw : IntKind.i64.wrap (L (j + 1) * abv x q (j + 1)) = L (j + 1) * abv x q (j + 1) := IntWalk.i64_in _ (by omega)
        have hj7 : j < 6 := by omega
        have Hj := Lib.hid (And.intro (show abv x q (j + 1 + 1 - 1) = abv x q (j + 1) from rfl) (show (bel q (j + 1 + 1 - 1) : Int) = (bel q (j + 1) : Int) from rfl))
        rw [show abv x q (j + 1 - 1) = abv x q j from rfl, show (bel q (j + 1 - 1) : Int) = (bel q j : Int) from rfl]
        clear hp r1 r2 hP hE hEi g1 g2 g2p g3 hk
        generalize abv x q (j + 1) = a1 at *
        generalize abv x q j = a0 at *
        generalize bel q (j + 1) = d1 at *
        generalize bel q j = d0 at *
        generalize hlz : L (j + 1) = l at *
        clear hlz
        go_upto_region 8 with (fail)
        obtain ⟨z0, z1, _, _⟩ := blk2 HO2.out.res
        refine wp_region_noPanic ?_
        refine wp_region_L [7,6] (fun w' => w'.cell? ⟨w.heap.size + 1, 0, none⟩ = some (.int .i64 N1) ∧ w'.cell? ⟨w.heap.size + 1, 1, none⟩ = some (.int .i64 (D1 : Int))) (by kernel_rfl) (⟨z0, z1⟩) (fun hHeld => ?_)
        refine take_L [0] (i := 0) (d := some 35) (v := ?_) (by kernel_rfl) (by kernel_rfl) (by kernel_rfl) (by kernel_rfl) rfl rfl (by kernel_rfl) (by kernel_rfl) (by kernel_rfl) (fun _ _ _ h => h) (Or.inl ⟨by rfl, ?_⟩) (by assumption) ?_
        rotate_left
        · (intro w hSw; (try dsimp only at hSw); go_simp; (try rw [if_neg (by omega)]); (try (with_reducible rfl)))
        simp only [Act.put, List.setIfInBounds_toArray, List.set_cons_zero, List.set_cons_succ]
        refine take_F (i := 1) (d := some 36) (v := ?_) (by kernel_rfl) (by kernel_rfl) rfl rfl (by kernel_rfl) (by kernel_rfl) (by kernel_rfl) (fun _ _ _ h => h) (Or.inl ⟨by rfl, ?_⟩) (by assumption) ?_
        rotate_left
        · (intro w hSw; (try dsimp only at hSw); go_simp; (try rw [if_neg (by omega)]); (try (with_reducible rfl)))
        simp only [Act.put, List.setIfInBounds_toArray, List.set_cons_zero, List.set_cons_succ]
        refine take_F (i := 2) (d := some 37) (v := ?_) (by kernel_rfl) (by kernel_rfl) rfl rfl (by kernel_rfl) (by kernel_rfl) (by kernel_rfl) (fun _ _ _ h => h) (Or.inl ⟨by rfl, ?_⟩) (by assumption) ?_
        rotate_left
        · (intro w hSw; (try dsimp only at hSw); go_simp; (try rw [if_neg (by omega)]); (try (with_reducible rfl)))
        simp only [Act.put, List.setIfInBounds_toArray, List.set_cons_zero, List.set_cons_succ]
        refine take_F (i := 3) (d := some 38) (v := ?_) (by kernel_rfl) (by kernel_rfl) rfl rfl (by kernel_rfl) (by kernel_rfl) (by kernel_rfl) (fun _ _ _ h => h) (Or.inl ⟨by rfl, ?_⟩) (by assumption) ?_
        rotate_left
        · (intro w hSw; (try dsimp only at hSw); go_simp; (try rw [if_neg (by omega)]); (try (with_reducible rfl)))
        simp only [Act.put, List.setIfInBounds_toArray, List.set_cons_zero, List.set_cons_succ]
        refine take_F (i := 4) (d := some 39) (v := ?_) (by kernel_rfl) (by kernel_rfl) rfl rfl (by kernel_rfl) (by kernel_rfl) (by kernel_rfl) (fun _ _ _ h => h) (Or.inl ⟨by rfl, ?_⟩) (by assumption) ?_
        rotate_left
        · (intro w hSw; (try dsimp only at hSw); go_simp; (try rw [if_neg (by omega)]); (try (with_reducible rfl)))
        simp only [Act.put, List.setIfInBounds_toArray, List.set_cons_zero, List.set_cons_succ]
        refine call_L (i := 5) (d := (some 40)) rfl rfl (by kernel_rfl) (fun Kq hKq => ?_)
        go_simp
        go_at_call 146
        refine (HLw.out _).mono ?_; rintro e w5 ⟨rfl, hb5⟩
        have HO5 := Lib.hid (HO2.out.below (below_undrew hb5))
        have HR5 := Lib.hid (HR2.out.below (below_undrew hb5))
        obtain ⟨p0, p1, p2, p3⟩ := blk2 HO5.out.res
        (try go_wp2_with fail)
        refine hKq.out _ _ (⟨p0, p1⟩) (fun hHeld => ?_)
        clear hKq Kq
        (try simp only [Act.put, List.setIfInBounds_toArray, List.set_cons_zero, List.set_cons_succ])
        refine late_L (i := 6) (d := (some 41)) (by kernel_rfl) rfl rfl (by kernel_rfl) (fun Kq hKq => ?_)
        go_simp
        go_at_call 100
        refine (HSu.out _).mono ?_; rintro e w6 ⟨rfl, hb6⟩
        have HO6 := Lib.hid (HO5.out.below hb6)
        have HR6 := Lib.hid (HR5.out.below hb6)
        clear p0 p1 p2 p3 hb5 hb6 z0 z1
        obtain ⟨p0, p1, p2, p3⟩ := blk2 HO6.out.res
        (try go_wp2_with fail)
        refine hKq.out _ _ ?_
        clear hKq Kq
        refine late_L (i := 7) (d := none) (by kernel_rfl) rfl rfl (by kernel_rfl) (fun Kq hKq => ?_)
        go_simp
        refine hKq.out _ _ ?_
        clear hKq Kq
        refine done_L (by kernel_rfl) ?_ _
        refine NoPanic.normal ?_
        have HO7 := Lib.hid (HO6.out.put (.int .i64 N3) (.int .i64 (D3 : Int)))
        have HR7 := Lib.hid (HR6.out.othr (r2 := w.heap.size + 1) (by omega) (.int .i64 N3) (.int .i64 (D3 : Int)))
        clear p0 p1 p2 p3
        go_wp2_with fail
        go_roundw
        case rel => exact ⟨(j + 1) + 1, by omega, congrArg (Value.int .i64) (Hj.out.1.symm), congrArg (Value.int .i64) (Hj.out.2.symm), by go_num, HR7.out, by rw [HN3.out, HD3.out]; exact HO7.out⟩
        case measure => first | (simp [intOf]; done) | (simp [intOf]; omega)
    · obtain rfl : k = n := by omega
      obtain ⟨p0, p1, p2, p3⟩ := blk2 HO2.out.res
      have HN := Lib.hid (show vaN L x q k = lowN (smQ L x q (k - 1) k) (bel q (k - 1)) from rfl)
      have HD := Lib.hid (show vaD L x q k = lowD (smQ L x q (k - 1) k) (bel q (k - 1)) from rfl)
      rw [HN.out, HD.out]
      generalize lowN (smQ L x q (k - 1) k) (bel q (k - 1)) = N1 at *
      generalize lowD (smQ L x q (k - 1) k) (bel q (k - 1)) = D1 at *
      obtain ⟨r0, r1, r2, r3⟩ := blk2 HR2.out.res
      have HF := Lib.hid (HR2.out.put (.int .i64 N1) (.int .i64 (D1 : Int)))
      go_wp2_with fail
      obtain ⟨k0, k1, _, _⟩ := blk2 HF.out.res
      exact bodyPost_ret (v := aggQ N1 (D1 : Int)) (by simp [results, Try.results97, go_sem, k0, k1]) rfl ⟨by rw [HN.out, HD.out], HF.out.bel⟩
set_option maxRecDepth 100000 in
set_option maxHeartbeats 6400000 in
theorem l19At_any (B : Nat) (v : Value) (n : Nat) (L : Nat → Int) (x : Int) (q : Nat) (w : World) (h : Rd w B v n 1 (tab n L)) (hB : B ≤ w.heap.size) (hv : VB L x q n) :
    Calls Try.prog 95 #[v, .int .i64 x, .int .i64 (q : Int)] w (RetQ (vaN L x q n) (vaD L x q n) w) := by
  have hb0 := (Below.refl w.heap.size w).alloc (Nat.le_refl _) (.cells #[.int .i64 0, .int .i64 0] 56)
  have H := Lib.hid (h.below (hb0.mono hB))
  obtain ⟨A, c, rfl⟩ := rd_sl h
  have HA := Lib.hid (show FrB w (w.alloc (.cells #[.int .i64 0, .int .i64 0] 56)) w.heap.size (.int .i64 0) (.int .i64 0) from FrB.new (Below.refl _ _) _ _)
  have hn6 := hv.n6
  have hn1 := hv.n1
  have hq1 := hv.q1
  have hq20 := hv.q20
  have hx1 := hv.x1
  have hx2 := hv.x2
  have hnw : IntKind.i64.wrap ((n : Int) - 1) = ((n - 1 : Nat) : Int) := by rw [IntWalk.i64_in _ (by omega)]; omega
  clear h hb0
  go_enter Try.func95, Try.ntmps95
  go_wp2_with fail
  go_loop [8, 9] (fun a i => ∃ k : Nat, k ≤ n - 1 ∧ a = .int .i64 (bel q k : Int) ∧ i = .int .i64 ((k + 1 : Nat) : Int)) (fun _ i => n - (intOf i).toNat)
  case atStart => exact ⟨0, by omega, rfl, rfl⟩
  case round =>
    obtain ⟨k, hk, rfl, rfl⟩ := hrel
    by_cases hlt : k < n - 1
    · have hlt' : (k : Int) + 1 ≤ ((n - 1 : Nat) : Int) := by omega
      have g2 := hv.be (k + 1) (by omega)
      have r2 : bel q (k + 1) = bel q k * (q * (k + 1)) := rfl
      have hE2 : q * (k + 1) ≤ 20 * 6 := Nat.mul_le_mul (by omega) (by omega)
      obtain ⟨E, hE⟩ : ∃ E, q * (k + 1) = E := ⟨_, rfl⟩
      rw [hE] at r2 hE2
      have hEi : ((k : Int) + 1) * (q : Int) = (E : Int) := by rw [Int.mul_comm, ← hE, Int.natCast_mul, Int.natCast_add]; rfl
      have hEw : IntKind.i64.wrap (((k : Int) + 1) * (q : Int)) = (E : Int) := by rw [hEi]; exact IntWalk.i64_in _ (by omega)
      have hBw : IntKind.i64.wrap ((bel q k : Int) * (E : Int)) = (bel q (k + 1) : Int) := by rw [← Int.natCast_mul, ← r2]; exact IntWalk.i64_in _ (by omega)
      have Hb1 := Lib.hid (show (bel q (k + 1) : Int) = bel q (k + 1) from rfl)
      clear r2 hE hEi g2
      obtain ⟨d1, hd1⟩ : ∃ d, bel q (k + 1) = d := ⟨_, rfl⟩
      rw [hd1] at hBw
      have Hd1 := Lib.hid hd1
      clear hd1
      generalize bel q k = d0 at *
      go_wp2_with fail
      go_round
      case rel => exact ⟨k + 1, by omega, by rw [Hd1.out], by go_num⟩
      case measure => first | (simp [intOf]; done) | (simp [intOf]; omega)
    · obtain rfl : k = n - 1 := by omega
      have hlt' : ((n - 1 : Nat) : Int) < ((n - 1 : Nat) : Int) + 1 := by omega
      have g6 := hv.be (n - 1) (Nat.le_refl _)
      have g7 := hv.belp (n - 1)
      have Hz := Lib.hid (trm_zero x q (n - 1))
      have HL := Lib.hid (fun wx => l19Make_any (smQ L x q (n - 1) n) (bel q (n - 1)) wx (by have := hv.sq n (Nat.le_refl _); omega) (by omega) g7)
      unfold RetQ at HL
      obtain ⟨M, hM⟩ : ∃ M, bel q (n - 1) = M := ⟨_, rfl⟩
      rw [hM] at HL Hz g6 g7 ⊢
      have HM := Lib.hid hM
      clear hM
      go_wp2_with fail
      go_loop [10, 11, 12] (fun a b i => ∃ (k : Nat) (z : Int), k ≤ n ∧ a = .int .i64 (smQ L x q (n - 1) k) ∧ b = .int .i64 z ∧ (k < n → z = trm x q (n - 1) k) ∧ i = .int .i64 (k : Int)) (fun _ _ i => n - (intOf i).toNat)
      case atStart => exact ⟨0, (M : Int), by omega, rfl, rfl, fun _ => Hz.out.symm, rfl⟩
      case round =>
        obtain ⟨k, z, hk, rfl, rfl, hz, rfl⟩ := hrel
        by_cases hlt : k < n
        · have hlt' : (k : Int) ≤ ((n - 1 : Nat) : Int) := by omega
          have hltn : (k : Int) < (n : Int) := by omega
          obtain ⟨b1, o1, hA, _, hcc⟩ := rdF_all H.out (show 0 < n by omega)
          subst hA
          have q0 := hcc k hlt
          have hz' := hz hlt
          subst hz'
          have g4 := hv.lt k hlt
          have g5 := hv.sq k (by omega)
          have g9 := hv.sq (k + 1) (by omega)
          have g10 := hv.tr k hlt
          have HS := Lib.hid (show smQ L x q (n - 1) (k + 1) = smQ L x q (n - 1) k + L k * trm x q (n - 1) k from rfl)
          rw [HS.out] at g9
          have Hst := Lib.hid (fun hk1 => trm_step x (n := n - 1) (k := k) hq1 hk1)
          obtain ⟨hP1, hP2⟩ := kq_le (k := k) (q := q) (by omega) hv.q20
          obtain ⟨P, hP⟩ : ∃ P, (k : Int) * (q : Int) = P := ⟨_, rfl⟩
          have hPw : IntKind.i64.wrap ((k : Int) * (q : Int)) = P := by rw [hP]; exact IntWalk.i64_in _ (by omega)
          rw [hP] at hP1 hP2
          have hE2 : q * (k + 1) ≤ 20 * 6 := Nat.mul_le_mul (by omega) (by omega)
          have hE1 : 0 < q * (k + 1) := Nat.mul_pos (by omega) (by omega)
          obtain ⟨E, hE⟩ : ∃ E, q * (k + 1) = E := ⟨_, rfl⟩
          rw [hE] at hE2 hE1
          have hEi : ((k : Int) + 1) * (q : Int) = (E : Int) := by rw [Int.mul_comm, ← hE, Int.natCast_mul, Int.natCast_add]; rfl
          have hEw : IntKind.i64.wrap (((k : Int) + 1) * (q : Int)) = (E : Int) := by rw [hEi]; exact IntWalk.i64_in _ (by omega)
          rw [hEi, hP] at Hst
          have hTw : IntKind.i64.wrap (L k * trm x q (n - 1) k) = L k * trm x q (n - 1) k := IntWalk.i64_in _ (by omega)
          have hSw : IntKind.i64.wrap (smQ L x q (n - 1) k + L k * trm x q (n - 1) k) = smQ L x q (n - 1) k + L k * trm x q (n - 1) k := IntWalk.i64_in _ (by omega)
          have htb : (Int.tdiv (trm x q (n - 1) k) (E : Int)).natAbs ≤ (trm x q (n - 1) k).natAbs := by rw [Int.natAbs_tdiv]; exact Nat.div_le_self _ _
          obtain ⟨u, hu⟩ : ∃ u, Int.tdiv (trm x q (n - 1) k) (E : Int) = u := ⟨_, rfl⟩
          have huw : IntKind.i64.wrap (Int.tdiv (trm x q (n - 1) k) (E : Int)) = u := by rw [hu]; exact IntWalk.i64_in _ (by omega)
          rw [hu] at Hst
          obtain ⟨zz, hzz⟩ : ∃ zz, IntKind.i64.wrap (u * (x - P)) = zz := ⟨_, rfl⟩
          have Hzz := Lib.hid (show k + 1 < n → zz = trm x q (n - 1) (k + 1) from fun h => by
            rw [← hzz, Hst.out (by omega)]
            have := hv.tr (k + 1) h
            exact IntWalk.i64_in _ (by omega))
          have hE0 : (E : Int) ≠ 0 := by omega
          have hEn : E ≠ 0 := by omega
          have hk6 : k < 6 := by omega
          generalize hT : trm x q (n - 1) k = T at *
          generalize hS1 : smQ L x q (n - 1) k = S1 at *
          generalize hl : L k = l at *
          clear hT hS1 hl hu Hst hE hEi hP g4 g5 g9 g10 hcc hz Hz htb
          go_wp2_with fail
          go_round
          case rel => exact ⟨k + 1, zz, by omega, by rw [HS.out], rfl, Hzz.out, by go_num⟩
          case measure => first | (simp [intOf]; done) | (simp [intOf]; omega)
        · obtain rfl : k = n := by omega
          have hlt' : ((k - 1 : Nat) : Int) < (k : Int) := by omega
          have HN := Lib.hid (show vaN L x q k = lowN (smQ L x q (k - 1) k) (bel q (k - 1)) from rfl)
          have HD := Lib.hid (show vaD L x q k = lowD (smQ L x q (k - 1) k) (bel q (k - 1)) from rfl)
          rw [HM.out] at HN HD
          have hS1b := hv.sq k (by omega)
          generalize smQ L x q (k - 1) k = S1 at *
          clear hz Hz
          go_wp2_with fail
          refine (HL.out _).mono ?_; rintro e w5 ⟨rfl, hb5⟩
          have HR5 := Lib.hid (HA.out.below hb5)
          obtain ⟨_, _, f0, f1⟩ := blk2 HR5.out.res
          have HF := Lib.hid (HR5.out.put (.int .i64 (lowN S1 M)) (.int .i64 (lowD S1 M : Int)))
          go_wp2_with fail
          obtain ⟨k0, k1, _, _⟩ := blk2 HF.out.res
          exact bodyPost_ret (v := aggQ (lowN S1 M) (lowD S1 M : Int)) (by simp [results, Try.results95, go_sem, k0, k1]) rfl ⟨by rw [HN.out, HD.out], HF.out.bel⟩
end Go.Proofs.Ytemcdmjnokpldaa
