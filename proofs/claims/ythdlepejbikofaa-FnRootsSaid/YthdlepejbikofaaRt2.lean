/- Roots, part 2: the walks of rootTurns and l12Root. -/
import Derived.Test.YthdlepejbikofaaRt1
import Derived.Test.YthdlepejbikofaaBase
import Derived.Lib.SmallJoins
namespace Go.Proofs.Ythdlepejbikofaa
open Go.RowKit Go.Joins

def nums (l : List Nat) : List Value := l.map fun (n : Nat) => .int .i64 (n : Int)
theorem infoN : (Try.prog.info? 2).map (fun i => (i.zero, i.size, i.bytes)) = some (some (.int .i64 0), 1, 8) := by kernel_rfl
theorem nums_at {w : World} {B n c : Nat} {A : Option Addr} {zs : List Nat} (h : Rd w B (.slice A n c) zs.length 1 (nums zs)) (k : Nat) (hk : k < zs.length) :
    ∃ b off, A = some ⟨b, off, none⟩ ∧ w.cell? ⟨b, off + k, none⟩ = some (.int .i64 (zs[k] : Int)) := by
  obtain ⟨_, A', c', hv, hc⟩ := h
  injection hv with e1 e2 e3
  subst e1
  obtain ⟨b, off, hA, _, hcc⟩ := hc (by omega)
  exact ⟨b, off, hA, hcc k _ (by simp [nums, hk])⟩

set_option maxRecDepth 100000 in
set_option maxHeartbeats 2000000 in
theorem rootTurns_any (b v : Nat) (hb : 2 ≤ b) (hb2 : b ≤ 16) (hv : v ≤ 1000000000000) (w : World) :
    Calls Try.prog 56 #[.int .i64 b, .int .i64 v] w fun e w' => ∃ t, e = .returned (.tuple #[.int .i64 (rootR b v).root, .int .i64 (rootR b v).rest, t]) ∧ w'.ownsRow w.heap.size 2 1 t (rootR b v).turns.length (nums (rootR b v).turns) ∧ Below w.heap.size w w' := by
  obtain ⟨B, hBd⟩ : ∃ B : Nat, B = b * b := ⟨_, rfl⟩
  have hBi : (b : Int) * (b : Int) = (B : Int) := by rw [hBd, Int.natCast_mul]
  have hB2 : 4 ≤ B := by rw [hBd]; exact Nat.mul_le_mul hb hb
  have hB3 : B ≤ 256 := by rw [hBd]; exact Nat.mul_le_mul hb2 hb2
  have HBd := Lib.hid hBd; clear hBd
  go_enter Try.func56, Try.ntmps56
  go_wp2_with fail
  go_loopw [7, 8] (fun pv vv wr => ∃ (ps : List Nat) (v' f : Nat), vv = .int .i64 v' ∧ wr.ownsRow w.heap.size 2 1 pv ps.length (nums ps) ∧ v' ≤ f ∧ ps ++ prs B f v' = prs B v v ∧ ps.length + v' ≤ v ∧ Below w.heap.size w wr) (fun _ vv _ => (intOf vv).toNat)
  case atStart => exact ⟨[], v, v, rfl, World.ownsRow_made w #[] 0 (Nat.le_refl _) (by simp [maxLen]) rfl, Nat.le_refl _, rfl, by simp, (Below.refl _ _).alloc (Nat.le_refl _) _⟩
  case round =>
    obtain ⟨ps, v', f, rfl, hown, hf, heq, hlen, hbl⟩ := hrel
    have Heq := Lib.hid heq; clear heq
    by_cases hv0 : 0 < v'
    · obtain ⟨f', hst, hf'⟩ := prs_step B f v' hv0 hf (by omega)
      have Hst := Lib.hid hst; clear hst
      have hdl := Nat.div_lt_self hv0 (by omega : 1 < B)
      have hmd : (v' : Int) % (B : Int) = ((v' % B : Nat) : Int) := by omega
      have hdv : (v' : Int) / (B : Int) = ((v' / B : Nat) : Int) := by omega
      have hml := Nat.mod_lt v' (by omega : 0 < B)
      generalize v' % B = md at *
      generalize v' / B = dv at *
      go_wp2_with (at_builtin; refine wpList_apd 53 2 _ 1 8 Try.underlying53 infoN rfl (by omega) _ _ rfl rfl w.heap.size u7 ps.length _ rfl hown #[.int .i64 (md : Int)] 1 1 rfl rfl (by simp [Value.oneCell']) (by simp [maxLen]; omega) (by omega) hbl.size ?_; intro vx w6 hown6 hg6)
      have hb6 := below_apd hbl hown hg6 (Nat.le_refl _) hbl.size
      have Ho6 := Lib.hid (show w6.ownsRow w.heap.size 2 1 vx (ps ++ [md]).length (nums (ps ++ [md])) by simpa [nums] using hown6)
      clear hown6 hg6
      go_wp2_with fail
      go_roundw
      case rel => exact ⟨ps ++ [md], dv, f', rfl, Ho6.out, hf', by rw [List.append_assoc, List.singleton_append, ← Hst.out]; exact Heq.out, by simp; omega, hb6⟩
      case measure => simp [intOf]; omega
    · have hps : ps = prs B v v := by have := Heq.out; rwa [show v' = 0 by omega, prs_nil, List.append_nil] at this
      have hvi : (v' : Int) ≤ 0 := by omega
      have hget := fun i (h : i < ps.length) => (show ps[i] = v / B ^ i % B by subst hps; exact prs_get B v v i h)
      have hend : v / B ^ ps.length = 0 := by rw [hps]; exact prs_end B (by omega) v v (Nat.le_refl _)
      have Hget := Lib.hid hget
      have Hend := Lib.hid hend
      have hR : rootR b v = runR b ⟨0, 0, []⟩ (ps.take ps.length).reverse := by rw [List.take_length, hps, HBd.out]; rfl
      have HR := Lib.hid hR
      clear hget hend hR hps Heq
      obtain ⟨w1, rfl⟩ : ∃ x, x = wr := ⟨_, rfl⟩
      have Rp := Lib.hid (Rd.of_own hown)
      obtain ⟨_, Ap, cp, rfl, _⟩ := Rp.out
      have hplen : ps.length ≤ 1000000000000 := by omega
      have Hbl := Lib.hid hbl
      have hw0 := hbl.size
      clear hown hbl
      go_wp2_with fail
      go_loopw [9, 10, 11, 12] (fun ro re tu i wx => ∃ (j nr ne : Nat) (ts : List Nat) (ii : Int), ro = .int .i64 nr ∧ re = .int .i64 ne ∧ i = .int .i64 ii ∧ ii = (j : Int) - 1 ∧ j ≤ ps.length ∧ wx.ownsRow w1.heap.size 2 1 tu ts.length (nums ts) ∧ runR b ⟨nr, ne, ts⟩ (ps.take j).reverse = rootR b v ∧ InvR b (v / B ^ j) ⟨nr, ne, ts⟩ ∧ Below w1.heap.size w1 wx) (fun _ _ _ i _ => (intOf i + 1).toNat)
      case atStart => exact ⟨ps.length, 0, 0, [], _, rfl, rfl, rfl, rfl, Nat.le_refl _, World.ownsRow_made w1 #[] 0 (Nat.le_refl _) (by simp [maxLen]) rfl, HR.out.symm, by rw [Hend.out]; exact ⟨rfl, Nat.le_refl _, by simp, Nat.le_refl _, rfl⟩, (Below.refl _ _).alloc (Nat.le_refl _) _⟩
      case round =>
        obtain ⟨j, ro, re, ts, ii, rfl, rfl, rfl, hii, hj, hown, hrun, hinv, hbx⟩ := hrel
        have Hrun := Lib.hid hrun
        have Hinv := Lib.hid hinv
        clear hrun hinv
        cases j with
        | zero =>
          have hneg : ii < 0 := by omega
          clear hii
          have hfin := Lib.hid (show rootR b v = ⟨ro, re, ts⟩ from Hrun.out.symm)
          have Hown := Lib.hid (ownsRow_le hown (base' := w.heap.size) hw0)
          have Hb := Lib.hid (Hbl.out.trans (hbx.mono hw0))
          clear hown hbx
          go_wp2_with fail
          go_ret3
          rw [hfin.out]; exact ⟨_, rfl, Hown.out, Hb.out⟩
        | succ k =>
          obtain rfl : ii = (k : Int) := by omega
          clear hii
          have hkl : k < ps.length := by omega
          obtain ⟨p1, o1, hA, hx⟩ := nums_at (Rp.out.below hbx) k hkl
          subst hA
          have hpk := Lib.hid (Hget.out k hkl)
          have hsplit : v / B ^ k = v / B ^ (k + 1) * (b * b) + v / B ^ k % B := by
            rw [Nat.pow_succ, ← Nat.div_div_eq_div_mul, ← HBd.out]
            exact (Nat.div_add_mod' _ _).symm
          have hPl : v / B ^ k ≤ v := Nat.div_le_self _ _
          have hsp2 : v / B ^ (k + 1) * (b * b) + ps[k] = v / B ^ k := by rw [hpk.out]; exact hsplit.symm
          have hmid := Lib.hid (Hinv.out.enter (p := ps[k]) hb)
          rw [hsp2] at hmid
          have hp2 : ps[k] < b * b := by rw [hpk.out, ← HBd.out]; exact Nat.mod_lt _ (by omega)
          have hleave := Lib.hid (fun st' hm hr => Hinv.out.leave (st' := st') hb hp2 hm hr)
          rw [hsp2] at hleave
          have hrv : (ps.take (k + 1)).reverse = ps[k] :: (ps.take k).reverse := by
            rw [List.take_succ_eq_append_getElem hkl, List.reverse_append]; rfl
          have hrun2 := Lib.hid (show runR b (subR (re * b * b + ps[k]) (entR b ⟨ro, re, ts⟩ ps[k])) (ps.take k).reverse = rootR b v by
            have := Hrun.out
            rw [hrv] at this
            exact this)
          clear hsplit hsp2 hpk hp2 hrv Hrun Hinv
          have m1 := hmid.out.1
          have m4 := hmid.out.2.2.2.1
          simp only [entR] at m1 m4
          have hsq : ro * b ≤ ro * b * (ro * b) := by
            rcases Nat.eq_zero_or_pos (ro * b) with h | h
            · rw [h]; exact Nat.le_refl _
            · exact Nat.le_mul_of_pos_right _ h
          obtain ⟨X1, hX1⟩ : ∃ X, X = re * b := ⟨_, rfl⟩
          obtain ⟨X2, hX2⟩ : ∃ X, X = X1 * b := ⟨_, rfl⟩
          obtain ⟨Y, hY⟩ : ∃ X, X = ro * b := ⟨_, rfl⟩
          have i1 : (re : Int) * (b : Int) = (X1 : Int) := by rw [hX1, Int.natCast_mul]
          have i2 : (X1 : Int) * (b : Int) = (X2 : Int) := by rw [hX2, Int.natCast_mul]
          have i3 : (ro : Int) * (b : Int) = (Y : Int) := by rw [hY, Int.natCast_mul]
          have i4 : 2 * (ro : Int) * (b : Int) = 2 * (Y : Int) := by rw [Int.mul_assoc, i3]
          have l1 : X1 ≤ X2 := by rw [hX2]; exact Nat.le_mul_of_pos_right _ (by omega)
          have l2 : ro ≤ Y := by rw [hY]; exact Nat.le_mul_of_pos_right _ (by omega)
          have l4 : re ≤ X1 := by rw [hX1]; exact Nat.le_mul_of_pos_right _ (by omega)
          rw [← hX1, ← hX2] at hrun2 m1
          have hent : entR b ⟨ro, re, ts⟩ ps[k] = ⟨Y, X2 + ps[k], ts⟩ := by rw [hX2, hX1, hY]; rfl
          rw [hent] at hrun2 hmid
          rw [← hY] at m1 hsq hleave hmid
          clear hent hX1 hX2 hY m4
          generalize ps[k] = p at *
          generalize hP : v / B ^ k = P at *
          have HP := Lib.hid hP; clear hP
          have l3 : X2 + p ≤ 1000000000000 := by omega
          have l5 : Y ≤ 1000000000000 := by omega
          clear m1 hsq
          have Hmid := Lib.hid hmid.out
          have Hrun2 := Lib.hid hrun2.out
          clear hmid hrun2
          go_wp2_with fail
          go_loopw [9, 10, 11, 13] (fun ro2 re2 tu od wy => ∃ (f3 nr ne : Nat) (ts2 : List Nat), ro2 = .int .i64 nr ∧ re2 = .int .i64 ne ∧ od = .int .i64 (2 * (nr : Int) + 1) ∧ ne ≤ f3 ∧ wy.ownsRow w1.heap.size 2 1 tu ts2.length (nums ts2) ∧ runR b (subR f3 ⟨nr, ne, ts2⟩) (ps.take k).reverse = rootR b v ∧ MidR P Y ts.length ⟨nr, ne, ts2⟩ ∧ Below w1.heap.size w1 wy) (fun _ x _ _ _ => (intOf x).toNat)
          case atStart => exact ⟨X2 + p, Y, X2 + p, ts, rfl, rfl, rfl, Nat.le_refl _, hown, Hrun2.out, Hmid.out, hbx⟩
          case round =>
            obtain ⟨f3, nr, ne, ts2, rfl, rfl, rfl, hf3, hown3, hrun3, hmid3, hby⟩ := hrel
            have Hrun3 := Lib.hid hrun3; clear hrun3
            have Hmid3 := Lib.hid hmid3
            have q1 : nr * nr + ne = P := hmid3.1
            have q4 : ts2.length ≤ nr := hmid3.2.2.2.1
            clear hmid3
            have q5 : nr ≤ nr * nr := by
              rcases Nat.eq_zero_or_pos nr with h | h
              · rw [h]; exact Nat.le_refl _
              · exact Nat.le_mul_of_pos_right _ h
            have q6 : nr ≤ 1000000000000 := by omega
            have q7 : ne ≤ 1000000000000 := by omega
            clear q1 q5
            by_cases hs : 2 * nr + 1 ≤ ne
            · obtain ⟨f4, hst, hf4⟩ := subR_step f3 ⟨nr, ne, ts2⟩ hs hf3
              have Hst := Lib.hid hst; clear hst
              have Hms := Lib.hid (Hmid3.out.step hs)
              have hsi : 2 * (nr : Int) + 1 ≤ (ne : Int) := by omega
              go_wp2_with (at_builtin; refine wpList_apd 53 2 _ 1 8 Try.underlying53 infoN rfl (by omega) _ _ rfl rfl w1.heap.size u11 ts2.length _ rfl hown3 #[.int .i64 (2 * (nr : Int) + 1)] 1 1 rfl rfl (by simp [Value.oneCell']) (by simp [maxLen]; omega) (by omega) hby.size ?_; intro vx w6 hown6 hg6)
              have hb6 := below_apd hby hown3 hg6 (Nat.le_refl _) hby.size
              have Ho6 := Lib.hid (show w6.ownsRow w1.heap.size 2 1 vx (ts2 ++ [2 * nr + 1]).length (nums (ts2 ++ [2 * nr + 1])) by simpa [nums] using hown6)
              clear hown6 hg6
              go_wp2_with fail
              go_roundw
              case rel => exact ⟨f4, nr + 1, ne - (2 * nr + 1), ts2 ++ [2 * nr + 1], by go_num, by first | go_num | (congr 1; omega), by first | go_num | (congr 1; omega), hf4, Ho6.out, by rw [← Hst.out]; exact Hrun3.out, Hms.out, hb6⟩
              case measure => simp [intOf]; omega
            · have hstop := subR_stop f3 ⟨nr, ne, ts2⟩ hs
              have Hrun4 := Lib.hid (show runR b ⟨nr, ne, ts2⟩ (ps.take k).reverse = rootR b v by rw [← hstop]; exact Hrun3.out)
              have Hinv4 := Lib.hid (hleave.out ⟨nr, ne, ts2⟩ Hmid3.out (by show ne ≤ 2 * nr; omega))
              have hsi : (ne : Int) < 2 * (nr : Int) + 1 := by omega
              clear hstop
              go_wp2_with fail
              go_roundw
              case rel => exact ⟨k, nr, ne, ts2, _, rfl, rfl, rfl, by omega, by omega, hown3, Hrun4.out, by rw [HP.out]; exact Hinv4.out, hby⟩
              case measure => simp [intOf]

set_option maxRecDepth 100000 in
set_option maxHeartbeats 2000000 in
theorem l12Root_any (b v : Nat) (hb : 2 ≤ b) (hb2 : b ≤ 16) (hv : v ≤ 1000000000000) (w : World) :
    Calls Try.prog 58 #[.int .i64 b, .int .i64 v] w fun e w' => ∃ t, e = .returned (.tuple #[t, .int .i64 (rootR b v).root, .int .i64 (rootR b v).rest]) ∧ w'.ownsRow w.heap.size 2 1 t (rootR b v).turns.length (nums (rootR b v).turns) ∧ Below w.heap.size w w' := by
  obtain ⟨B, hBd⟩ : ∃ B : Nat, B = b * b := ⟨_, rfl⟩
  have hBi : (b : Int) * (b : Int) = (B : Int) := by rw [hBd, Int.natCast_mul]
  have hB2 : 4 ≤ B := by rw [hBd]; exact Nat.mul_le_mul hb hb
  have hB3 : B ≤ 256 := by rw [hBd]; exact Nat.mul_le_mul hb2 hb2
  have HBd := Lib.hid hBd; clear hBd
  go_enter Try.func58, Try.ntmps58
  go_wp2_with fail
  go_loopw [7, 8] (fun pv vv wr => ∃ (ps : List Nat) (v' f : Nat), vv = .int .i64 v' ∧ wr.ownsRow w.heap.size 2 1 pv ps.length (nums ps) ∧ v' ≤ f ∧ ps ++ prs B f v' = prs B v v ∧ ps.length + v' ≤ v ∧ Below w.heap.size w wr) (fun _ vv _ => (intOf vv).toNat)
  case atStart => exact ⟨[], v, v, rfl, World.ownsRow_made w #[] 0 (Nat.le_refl _) (by simp [maxLen]) rfl, Nat.le_refl _, rfl, by simp, (Below.refl _ _).alloc (Nat.le_refl _) _⟩
  case round =>
    obtain ⟨ps, v', f, rfl, hown, hf, heq, hlen, hbl⟩ := hrel
    have Heq := Lib.hid heq; clear heq
    by_cases hv0 : 0 < v'
    · obtain ⟨f', hst, hf'⟩ := prs_step B f v' hv0 hf (by omega)
      have Hst := Lib.hid hst; clear hst
      have hdl := Nat.div_lt_self hv0 (by omega : 1 < B)
      have hmd : (v' : Int) % (B : Int) = ((v' % B : Nat) : Int) := by omega
      have hdv : (v' : Int) / (B : Int) = ((v' / B : Nat) : Int) := by omega
      have hml := Nat.mod_lt v' (by omega : 0 < B)
      generalize v' % B = md at *
      generalize v' / B = dv at *
      go_wp2_with (at_builtin; refine wpList_apd 53 2 _ 1 8 Try.underlying53 infoN rfl (by omega) _ _ rfl rfl w.heap.size u7 ps.length _ rfl hown #[.int .i64 (md : Int)] 1 1 rfl rfl (by simp [Value.oneCell']) (by simp [maxLen]; omega) (by omega) hbl.size ?_; intro vx w6 hown6 hg6)
      have hb6 := below_apd hbl hown hg6 (Nat.le_refl _) hbl.size
      have Ho6 := Lib.hid (show w6.ownsRow w.heap.size 2 1 vx (ps ++ [md]).length (nums (ps ++ [md])) by simpa [nums] using hown6)
      clear hown6 hg6
      go_wp2_with fail
      go_roundw
      case rel => exact ⟨ps ++ [md], dv, f', rfl, Ho6.out, hf', by rw [List.append_assoc, List.singleton_append, ← Hst.out]; exact Heq.out, by simp; omega, hb6⟩
      case measure => simp [intOf]; omega
    · have hps : ps = prs B v v := by have := Heq.out; rwa [show v' = 0 by omega, prs_nil, List.append_nil] at this
      have hvi : (v' : Int) ≤ 0 := by omega
      have hget := fun i (h : i < ps.length) => (show ps[i] = v / B ^ i % B by subst hps; exact prs_get B v v i h)
      have hend : v / B ^ ps.length = 0 := by rw [hps]; exact prs_end B (by omega) v v (Nat.le_refl _)
      have Hget := Lib.hid hget
      have Hend := Lib.hid hend
      have hR : rootR b v = runR b ⟨0, 0, []⟩ (ps.take ps.length).reverse := by rw [List.take_length, hps, HBd.out]; rfl
      have HR := Lib.hid hR
      clear hget hend hR hps Heq
      obtain ⟨w1, rfl⟩ : ∃ x, x = wr := ⟨_, rfl⟩
      have Rp := Lib.hid (Rd.of_own hown)
      obtain ⟨_, Ap, cp, rfl, _⟩ := Rp.out
      have hplen : ps.length ≤ 1000000000000 := by omega
      have Hbl := Lib.hid hbl
      have hw0 := hbl.size
      clear hown hbl
      go_wp2_with fail
      go_loopw [9, 10, 11, 12] (fun tu ro re i wx => ∃ (j nr ne : Nat) (ts : List Nat) (ii : Int), ro = .int .i64 nr ∧ re = .int .i64 ne ∧ i = .int .i64 ii ∧ ii = (j : Int) - 1 ∧ j ≤ ps.length ∧ wx.ownsRow w1.heap.size 2 1 tu ts.length (nums ts) ∧ runR b ⟨nr, ne, ts⟩ (ps.take j).reverse = rootR b v ∧ InvR b (v / B ^ j) ⟨nr, ne, ts⟩ ∧ Below w1.heap.size w1 wx) (fun _ _ _ i _ => (intOf i + 1).toNat)
      case atStart => exact ⟨ps.length, 0, 0, [], _, rfl, rfl, rfl, rfl, Nat.le_refl _, World.ownsRow_made w1 #[] 0 (Nat.le_refl _) (by simp [maxLen]) rfl, HR.out.symm, by rw [Hend.out]; exact ⟨rfl, Nat.le_refl _, by simp, Nat.le_refl _, rfl⟩, (Below.refl _ _).alloc (Nat.le_refl _) _⟩
      case round =>
        obtain ⟨j, ro, re, ts, ii, rfl, rfl, rfl, hii, hj, hown, hrun, hinv, hbx⟩ := hrel
        have Hrun := Lib.hid hrun
        have Hinv := Lib.hid hinv
        clear hrun hinv
        cases j with
        | zero =>
          have hneg : ii < 0 := by omega
          clear hii
          have hfin := Lib.hid (show rootR b v = ⟨ro, re, ts⟩ from Hrun.out.symm)
          have Hown := Lib.hid (ownsRow_le hown (base' := w.heap.size) hw0)
          have Hb := Lib.hid (Hbl.out.trans (hbx.mono hw0))
          clear hown hbx
          go_wp2_with fail
          go_ret3
          rw [hfin.out]; exact ⟨_, rfl, Hown.out, Hb.out⟩
        | succ k =>
          obtain rfl : ii = (k : Int) := by omega
          clear hii
          have hkl : k < ps.length := by omega
          obtain ⟨p1, o1, hA, hx⟩ := nums_at (Rp.out.below hbx) k hkl
          subst hA
          have hpk := Lib.hid (Hget.out k hkl)
          have hsplit : v / B ^ k = v / B ^ (k + 1) * (b * b) + v / B ^ k % B := by
            rw [Nat.pow_succ, ← Nat.div_div_eq_div_mul, ← HBd.out]
            exact (Nat.div_add_mod' _ _).symm
          have hPl : v / B ^ k ≤ v := Nat.div_le_self _ _
          have hsp2 : v / B ^ (k + 1) * (b * b) + ps[k] = v / B ^ k := by rw [hpk.out]; exact hsplit.symm
          have hmid := Lib.hid (Hinv.out.enter (p := ps[k]) hb)
          rw [hsp2] at hmid
          have hp2 : ps[k] < b * b := by rw [hpk.out, ← HBd.out]; exact Nat.mod_lt _ (by omega)
          have hleave := Lib.hid (fun st' hm hr => Hinv.out.leave (st' := st') hb hp2 hm hr)
          rw [hsp2] at hleave
          have hrv : (ps.take (k + 1)).reverse = ps[k] :: (ps.take k).reverse := by
            rw [List.take_succ_eq_append_getElem hkl, List.reverse_append]; rfl
          have hrun2 := Lib.hid (show runR b (subR (re * b * b + ps[k]) (entR b ⟨ro, re, ts⟩ ps[k])) (ps.take k).reverse = rootR b v by
            have := Hrun.out
            rw [hrv] at this
            exact this)
          clear hsplit hsp2 hpk hp2 hrv Hrun Hinv
          have m1 := hmid.out.1
          have m4 := hmid.out.2.2.2.1
          simp only [entR] at m1 m4
          have hsq : ro * b ≤ ro * b * (ro * b) := by
            rcases Nat.eq_zero_or_pos (ro * b) with h | h
            · rw [h]; exact Nat.le_refl _
            · exact Nat.le_mul_of_pos_right _ h
          obtain ⟨X1, hX1⟩ : ∃ X, X = re * b := ⟨_, rfl⟩
          obtain ⟨X2, hX2⟩ : ∃ X, X = X1 * b := ⟨_, rfl⟩
          obtain ⟨Y, hY⟩ : ∃ X, X = ro * b := ⟨_, rfl⟩
          have i1 : (re : Int) * (b : Int) = (X1 : Int) := by rw [hX1, Int.natCast_mul]
          have i2 : (X1 : Int) * (b : Int) = (X2 : Int) := by rw [hX2, Int.natCast_mul]
          have i3 : (ro : Int) * (b : Int) = (Y : Int) := by rw [hY, Int.natCast_mul]
          have i4 : 2 * (ro : Int) * (b : Int) = 2 * (Y : Int) := by rw [Int.mul_assoc, i3]
          have l1 : X1 ≤ X2 := by rw [hX2]; exact Nat.le_mul_of_pos_right _ (by omega)
          have l2 : ro ≤ Y := by rw [hY]; exact Nat.le_mul_of_pos_right _ (by omega)
          have l4 : re ≤ X1 := by rw [hX1]; exact Nat.le_mul_of_pos_right _ (by omega)
          rw [← hX1, ← hX2] at hrun2 m1
          have hent : entR b ⟨ro, re, ts⟩ ps[k] = ⟨Y, X2 + ps[k], ts⟩ := by rw [hX2, hX1, hY]; rfl
          rw [hent] at hrun2 hmid
          rw [← hY] at m1 hsq hleave hmid
          clear hent hX1 hX2 hY m4
          generalize ps[k] = p at *
          generalize hP : v / B ^ k = P at *
          have HP := Lib.hid hP; clear hP
          have l3 : X2 + p ≤ 1000000000000 := by omega
          have l5 : Y ≤ 1000000000000 := by omega
          clear m1 hsq
          have Hmid := Lib.hid hmid.out
          have Hrun2 := Lib.hid hrun2.out
          clear hmid hrun2
          go_wp2_with fail
          go_loopw [9, 10, 11, 13] (fun tu ro2 re2 od wy => ∃ (f3 nr ne : Nat) (ts2 : List Nat), ro2 = .int .i64 nr ∧ re2 = .int .i64 ne ∧ od = .int .i64 (2 * (nr : Int) + 1) ∧ ne ≤ f3 ∧ wy.ownsRow w1.heap.size 2 1 tu ts2.length (nums ts2) ∧ runR b (subR f3 ⟨nr, ne, ts2⟩) (ps.take k).reverse = rootR b v ∧ MidR P Y ts.length ⟨nr, ne, ts2⟩ ∧ Below w1.heap.size w1 wy) (fun _ _ x _ _ => (intOf x).toNat)
          case atStart => exact ⟨X2 + p, Y, X2 + p, ts, rfl, rfl, rfl, Nat.le_refl _, hown, Hrun2.out, Hmid.out, hbx⟩
          case round =>
            obtain ⟨f3, nr, ne, ts2, rfl, rfl, rfl, hf3, hown3, hrun3, hmid3, hby⟩ := hrel
            have Hrun3 := Lib.hid hrun3; clear hrun3
            have Hmid3 := Lib.hid hmid3
            have q1 : nr * nr + ne = P := hmid3.1
            have q4 : ts2.length ≤ nr := hmid3.2.2.2.1
            clear hmid3
            have q5 : nr ≤ nr * nr := by
              rcases Nat.eq_zero_or_pos nr with h | h
              · rw [h]; exact Nat.le_refl _
              · exact Nat.le_mul_of_pos_right _ h
            have q6 : nr ≤ 1000000000000 := by omega
            have q7 : ne ≤ 1000000000000 := by omega
            clear q1 q5
            by_cases hs : 2 * nr + 1 ≤ ne
            · obtain ⟨f4, hst, hf4⟩ := subR_step f3 ⟨nr, ne, ts2⟩ hs hf3
              have Hst := Lib.hid hst; clear hst
              have Hms := Lib.hid (Hmid3.out.step hs)
              have hsi : 2 * (nr : Int) + 1 ≤ (ne : Int) := by omega
              go_wp2_with (at_builtin; refine wpList_apd 53 2 _ 1 8 Try.underlying53 infoN rfl (by omega) _ _ rfl rfl w1.heap.size u9 ts2.length _ rfl hown3 #[.int .i64 (2 * (nr : Int) + 1)] 1 1 rfl rfl (by simp [Value.oneCell']) (by simp [maxLen]; omega) (by omega) hby.size ?_; intro vx w6 hown6 hg6)
              have hb6 := below_apd hby hown3 hg6 (Nat.le_refl _) hby.size
              have Ho6 := Lib.hid (show w6.ownsRow w1.heap.size 2 1 vx (ts2 ++ [2 * nr + 1]).length (nums (ts2 ++ [2 * nr + 1])) by simpa [nums] using hown6)
              clear hown6 hg6
              go_wp2_with fail
              go_roundw
              case rel => exact ⟨f4, nr + 1, ne - (2 * nr + 1), ts2 ++ [2 * nr + 1], by go_num, by first | go_num | (congr 1; omega), by first | go_num | (congr 1; omega), hf4, Ho6.out, by rw [← Hst.out]; exact Hrun3.out, Hms.out, hb6⟩
              case measure => simp [intOf]; omega
            · have hstop := subR_stop f3 ⟨nr, ne, ts2⟩ hs
              have Hrun4 := Lib.hid (show runR b ⟨nr, ne, ts2⟩ (ps.take k).reverse = rootR b v by rw [← hstop]; exact Hrun3.out)
              have Hinv4 := Lib.hid (hleave.out ⟨nr, ne, ts2⟩ Hmid3.out (by show ne ≤ 2 * nr; omega))
              have hsi : (ne : Int) < 2 * (nr : Int) + 1 := by omega
              clear hstop
              go_wp2_with fail
              go_roundw
              case rel => exact ⟨k, nr, ne, ts2, _, rfl, rfl, rfl, by omega, by omega, hown3, Hrun4.out, by rw [HP.out]; exact Hinv4.out, hby⟩
              case measure => simp [intOf]
end Go.Proofs.Ythdlepejbikofaa
