/- Differences, part 2: copies, differences of an order, leading differences, tests of entries. -/
import Derived.Test.YtdljlemgaefbpaaDf1
namespace Go.Proofs.Ytdljlemgaefbpaa
open Go.RowKit Go.Joins

set_option maxRecDepth 100000 in
set_option maxHeartbeats 1600000 in
theorem copyNumbers_any (B : Nat) (v : Value) (n : Nat) (f : Nat → Int) (w : World) (h : Rd w B v n 1 (tab n f)) (hB : B ≤ w.heap.size) (hn : n ≤ 1000) (h0 : 0 < n) :
    Calls Try.prog 87 #[v] w (RetF w n f) := by
  have H := Lib.hid h
  obtain ⟨A, c, rfl⟩ := rd_sl h
  obtain ⟨b, o, hA, hb, _⟩ := rdF_all h h0
  subst hA
  clear h
  have hb0 := Lib.hid ((Below.refl w.heap.size w).alloc (Nat.le_refl _) (.cells #[] 2))
  have ho0 := Lib.hid (World.ownsRow_made (base := w.heap.size) (e := 2) (size := 1) w #[] 0 (Nat.le_refl _) (by simp [maxLen]) rfl)
  obtain ⟨b', o', hA', hb', hcc⟩ := rdF_all (H.out.below (hb0.out.mono hB)) h0
  obtain ⟨rfl, rfl⟩ : b = b' ∧ o = o' := by simpa using hA'
  have Hcc := Lib.hid (show ∀ (i : Nat) (u : Value), (tab n f)[i]? = some u → (w.alloc (.cells #[] 2)).cell? ⟨b, o + i, none⟩ = some u from fun i u hu => by
    have hi : i < n := by have := (List.getElem?_eq_some_iff.1 hu).1; rwa [tab_len] at this
    rw [tab_at f hi] at hu
    rw [← hu]; exact hcc i hi)
  clear hcc hA'
  go_enter Try.func87, Try.ntmps87
  go_wp2_with (at_builtin; refine wpList_apr 24 2 _ 1 8 Try.underlying24 infoD rfl (by omega) _ _ rfl rfl w.heap.size _ 0 _ rfl ho0.out b o n _ (tab n f) rfl (by rw [tab_len]; omega) Hcc.out (tab_one n f) (by simp [maxLen]; omega) (by omega) hb0.out.size ?_; intro v7 w7 hown7 hg7; have Hb7 := Lib.hid (below_apd hb0.out ho0.out hg7 (Nat.le_refl _) hb0.out.size); simp only [Nat.zero_add, List.nil_append] at hown7; obtain ⟨A7, c7, rfl⟩ := own_sl hown7; have Hown7 := Lib.hid hown7; clear hown7 hg7)
  go_ret
  exact ⟨_, rfl, Hown7.out, Hb7.out⟩

theorem pow_mul_le {j k M X : Nat} (h : 2 ^ k * M ≤ X) (hj : j ≤ k) : 2 ^ j * M ≤ X :=
  Nat.le_trans (Nat.mul_le_mul_right M (Nat.pow_le_pow_right (by omega) hj)) h

theorem own_apart {w w2 w' : World} {b1 n1 n2 s1 s2 : Nat} {e1 e2 : TypeId} {v1 v2 : Value} {c1 c2 : List Value} (h1 : w.ownsRow b1 e1 s1 v1 n1 c1) (h2 : w2.ownsRow w.heap.size e2 s2 v2 n2 c2) (hg : w2.grownBy w' v1.ownBlock) : w'.ownsRow w.heap.size e2 s2 v2 n2 c2 := by
  refine h2.kept hg ?_
  cases h : v2.ownBlock with
  | none => exact .inl rfl
  | some g =>
    refine .inr fun e => ?_
    have k2 := (h2.lt g h).1
    have k1 := (h1.lt g (by rw [← e])).2
    omega
theorem rd_apart {w w2 : World} {B base n1 n2 s1 s2 : Nat} {e1 : TypeId} {v1 v2 : Value} {c1 c2 : List Value} (h1 : w.ownsRow base e1 s1 v1 n1 c1) (hB : B ≤ base) (hbs : base ≤ w.heap.size) (h2 : Rd w B v2 n2 s2 c2) (hg : w.grownBy w2 v1.ownBlock) : Rd w2 w2.heap.size v2 n2 s2 c2 :=
  have hb : Below B w w2 := (Below.refl B w).grown hg (Nat.le_trans hB hbs) (fun k hk => Nat.le_trans hB (h1.lt k hk).1)
  (h2.below hb).more (Nat.le_trans (Nat.le_trans hB hbs) hg.size)

set_option maxRecDepth 100000 in
set_option maxHeartbeats 1600000 in
theorem leading_any (B : Nat) (v : Value) (n M k : Nat) (f : Nat → Int) (w : World) (h : Rd w B v n 1 (tab n f)) (hB : B ≤ w.heap.size) (hn : n ≤ 1000) (hk : k ≤ n) (hS : Small M n f) (hM : 2 ^ k * M ≤ 4611686018427387903) :
    Calls Try.prog 142 #[v, .int .i64 (k : Int)] w (RetF w k (fun j => Dn j f 0)) := by
  have H := Lib.hid h
  have HS := Lib.hid (fun j => Small.Dn hS j)
  have HM := Lib.hid (fun j hj => pow_mul_le (j := j) hM hj)
  obtain ⟨A, c, rfl⟩ := rd_sl h
  clear h hS hM
  have hb0 := Lib.hid ((Below.refl w.heap.size w).alloc (Nat.le_refl _) (.cells #[] 2))
  have ho0 := Lib.hid (World.ownsRow_made (base := w.heap.size) (e := 2) (size := 1) w #[] 0 (Nat.le_refl _) (by simp [maxLen]) rfl)
  have hst := Lib.hid (fun (w' : World) (hg : (w.alloc (.cells #[] 2)).grownBy w' ((Value.slice (some ⟨w.heap.size, 0, none⟩) 0 0).ownBlock)) => rd_apart ho0.out hB hb0.out.size (H.out.below (hb0.out.mono hB)) hg)
  go_enter Try.func142, Try.ntmps142
  go_wp2_with fail
  go_loopw [5, 6, 10] (fun a b i wr => ∃ j : Nat, j ≤ k ∧ i = .int .i64 (j : Int) ∧ wr.ownsRow w.heap.size 2 1 a j (tab j (fun j => Dn j f 0)) ∧ (∀ w', wr.grownBy w' a.ownBlock → Rd w' w'.heap.size b (n - j) 1 (tab (n - j) (Dn j f))) ∧ Below w.heap.size w wr) (fun _ _ i _ => k - (intOf i).toNat)
  case atStart => exact ⟨0, Nat.zero_le _, rfl, ho0.out, hst.out, hb0.out⟩
  case round =>
    obtain ⟨j, hj, rfl, hown, hrd, hbl⟩ := hrel
    obtain ⟨A3, c3, rfl⟩ := own_sl hown
    have hrd0 := hrd wr ⟨rfl, rfl, rfl, Nat.le_refl _, fun _ _ _ => rfl⟩
    obtain ⟨A4, c4, rfl⟩ := rd_sl hrd0
    have Hown := Lib.hid hown
    have Hbl := Lib.hid hbl
    have Hrd := Lib.hid hrd
    clear hown hbl hrd
    by_cases hlt : j < k
    · have hlt' : (j : Int) < (k : Int) := by omega
      obtain ⟨b1, o1, hA, _, hcc⟩ := rdF_all hrd0 (by omega)
      subst hA
      have q0 := hcc 0 (by omega)
      rw [Nat.add_zero] at q0
      have Hsc := Lib.hid (tab_succ j (fun j => Dn j f 0))
      have HLB := Lib.hid (fun wx hx => lessBefore_any wx.heap.size (.slice (some ⟨b1, o1, none⟩) (n - j) c4) (n - j) (2 ^ j * M) (Dn j f) wx hx (Nat.le_refl _) (by omega) (HS.out j) (HM.out j hj))
      have hnj : n - j - 1 = n - (j + 1) := by omega
      rw [hnj] at HLB
      unfold RetF at HLB
      have hpos : 0 < n - j := by omega
      have hjn : j < 1000 := by omega
      generalize hm : n - j = m at *
      generalize hm2 : n - (j + 1) = m2 at *
      have Hm2 := Lib.hid hm2
      have hpos' : (0 : Int) < (m : Int) := by omega
      clear hm hm2 hnj hcc hrd0
      (try dsimp only at Hsc)
      generalize hx : Dn j f 0 = x at *
      clear hx
      go_wp2_with (at_builtin; refine wpList_apd 24 2 _ 1 8 Try.underlying24 infoD rfl (by omega) _ _ rfl rfl w.heap.size _ j _ rfl Hown.out #[.int .i64 x] 1 1 rfl rfl (by simp [Value.oneCell']) (by simp [maxLen]; omega) (by omega) Hbl.out.size ?_; intro v7 w7 hown7 hg7; have Hb7 := Lib.hid (below_apd Hbl.out Hown.out hg7 (Nat.le_refl _) Hbl.out.size); obtain ⟨A7, c7, rfl⟩ := own_sl hown7; have Hown7 := Lib.hid hown7; have Hrd7 := Lib.hid (Hrd.out w7 hg7); clear hown7 hg7)
      refine (HLB.out _ Hrd7.out).mono ?_; rintro e w8 ⟨v8, rfl, ho8, hb8⟩
      obtain ⟨A8, c8, rfl⟩ := own_sl ho8
      have Hap := Lib.hid (fun w' hg => own_apart (w' := w') Hown7.out ho8 hg)
      have Ho8 := Lib.hid (own_below Hown7.out hb8)
      have Hb8 := Lib.hid (Hb7.out.trans (hb8.mono Hb7.out.size))
      clear ho8 hb8
      go_wp2_with fail
      go_roundw
      case rel => exact ⟨j + 1, by omega, by go_num, by rw [Hsc.out]; exact Ho8.out, fun w' hg => by rw [Hm2.out]; exact Rd.of_own (Hap.out w' hg), Hb8.out⟩
      case measure => simp [intOf]; omega
    · have hjk : j = k := by omega
      have hlt' : (k : Int) ≤ (j : Int) := by omega
      have Hjk := Lib.hid hjk
      clear hjk hrd0
      go_wp2_with fail
      go_ret
      have e1 := Hjk.out
      subst e1
      exact ⟨_, rfl, Hown.out, Hbl.out⟩
end Go.Proofs.Ytdljlemgaefbpaa
