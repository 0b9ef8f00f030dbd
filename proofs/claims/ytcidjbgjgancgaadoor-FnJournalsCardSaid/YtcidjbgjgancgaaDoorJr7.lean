/- Journals, part 7: (*l26R).line, the walk. -/
import Derived.Test.YtcidjbgjgancgaaDoorJr6
namespace Go.Proofs.YtcidjbgjgancgaaDoor
open Go.RowKit Go.Joins

theorem infoSL : (Tryd.prog.info? 9).map (fun i => (i.zero, i.size, i.bytes)) = some (some (.string ⟨#[]⟩), 1, 16) := by kernel_rfl
theorem head_eq (s : ByteArray) (a p : Nat) (h : a ≤ s.size) (hp : p = a + fnd 10 (restOf s a)) : s.extract a p = headOf (restOf s a) := by
  have h1 := fnd_le 10 (restOf s a)
  have h2 := rest_size s a
  generalize hf : fnd 10 (restOf s a) = f at *
  rw [show headOf (restOf s a) = (s.extract a s.size).extract 0 f by rw [← hf]; rfl]
  rw [ByteArray.extract_extract]
  subst hp
  congr 1 <;> omega
theorem head_nl (s : ByteArray) (a p : Nat) (h : a ≤ p) (hp : p < s.size) (hc : s[p] = 10) : s.extract a (p + 1) = s.extract a p ++ ⟨#[10]⟩ := by
  have := one_byte s p hp
  rw [hc] at this
  rw [← this, ByteArray.extract_append_extract]
  congr 1 <;> omega
theorem rest_at (s : ByteArray) (a k : Nat) (h1 : a + k < s.size) (h2 : k < (restOf s a).size) : (restOf s a)[k] = s[a + k] := by
  have h3 : k < (s.extract a s.size).size := h2
  show (s.extract a s.size)[k] = s[a + k]
  exact ByteArray.getElem_extract (h := h3)
theorem note26 (s : ByteArray) (w : World) (hs : s.size ≤ 1073741824) :
    Calls Tryd.prog 33 #[.string s] w fun e w' => e = .returned (.bool (noteOk s.data.toList)) ∧ w' = w :=
  (l26Note_any s w hs).mono fun _ _ h => ⟨h.1, h.2.symm⟩

theorem lr_call {w w0 w5 : World} {B g n : Nat} {s : ByteArray} {nv v : Value} {sum : Int} {a : Nat} {xs : List Value} (h : Lr w0 g s nv sum a) (ho : w0.ownsRow B 9 1 v n xs) (hb0 : Below B w w0) (hB : B ≤ w0.heap.size) (hb : Below w0.drew.heap.size w0.drew w5) :
    Lr w5 g s nv sum a ∧ w5.ownsRow B 9 1 v n xs ∧ Below B w w5 := by
  have hb' : Below w0.heap.size w0 w5 := ⟨hb.os, hb.tape, hb.output, hb.size, hb.block⟩
  exact ⟨h.below hb', own_below ho hb', hb0.trans (hb'.mono hB)⟩

/-- what a line hands back -/
def Lined (w : World) (B g : Nat) (s : ByteArray) (st : JSt) (e : Ending) (w' : World) : Prop :=
  Below B w w' ∧ ((e = .returned (.bool false) ∧ readJ s = st ∧ LAt w' B g s st) ∨ (∃ st', e = .returned (.bool true) ∧ OnWay s st' ∧ st.at_ < st'.at_ ∧ LAt w' B g s st'))

set_option maxRecDepth 100000 in
set_option maxHeartbeats 4000000 in
theorem line_any (B g : Nat) (s : ByteArray) (st : JSt) (w : World) (hl : LAt w B g s st) (hway : OnWay s st) (hs : s.size ≤ 4000) (hB : B ≤ w.heap.size) :
    Calls Tryd.prog 47 #[.pointer (some ⟨g, 0, none⟩)] w (Lined w B g s st) := by
  obtain ⟨nv, hlr, hown, hBg⟩ := hl
  obtain ⟨_, A, c, rfl, _⟩ := Rd.of_own hown
  obtain ⟨a, sum, notes⟩ := st
  have hway' := hway
  obtain ⟨_, h1, h2, _, _⟩ := hway'
  simp only at hlr hown h1 h2
  have hn : notes.length ≤ 4000 := by omega
  have ha4 : a ≤ 4000 := by omega
  obtain ⟨hc0, hc1, hc2, hc3, hfz⟩ := hlr.cells
  have hf1 := hfz 1
  have hf2 := hfz 2
  have hf3 := hfz 3
  have Hlr := Lib.hid hlr; clear hlr
  have Hway := Lib.hid hway; clear hway hfz
  have hno1 := Lib.hid (fun h => Hway.out.no1 (st := ⟨a, sum, notes⟩) h)
  have hno2 := Lib.hid (fun h => Hway.out.no2 (st := ⟨a, sum, notes⟩) h)
  have hyes := Lib.hid (fun h h' => Hway.out.step (st := ⟨a, sum, notes⟩) h h')
  have Hrs := Lib.hid (rest_size s a)
  have Hat := Lib.hid (rest_at s a)
  have Hhd := Lib.hid (fun p hp => head_eq s a p h1 hp)
  simp only at hno1 hno2 hyes
  generalize restOf s a = r at *
  have Hls := Lib.hid (head_size r)
  go_enter Tryd.func47, Tryd.ntmps47
  go_wp2_with fail
  go_loop [3] (fun i => ∃ p k : Nat, p = a + k ∧ k ≤ fnd 10 r ∧ i = .int .i64 p) (fun i => s.size - (intOf i).toNat)
  case atStart => exact ⟨a, 0, rfl, Nat.zero_le _, rfl⟩
  case round =>
    obtain ⟨p, k, hp, hk, rfl⟩ := hrel
    have hap : a ≤ p := by omega
    by_cases hlt : p < s.size
    · have hkr : k < r.size := by have := Hrs.out; omega
      have hc := Hat.out k (by omega) hkr
      by_cases he : s[p] = 10
      · have hf := fnd_eq 10 r k hk hkr (by rw [hc]; subst hp; exact he)
        have hnl := Lib.hid (head_nl s a p hap hlt he)
        have hpe := Lib.hid (show p = a + fnd 10 r by omega)
        have hhd := Hhd.out p hpe.out
        have hx := Hls.out
        have hfr := Lib.hid (show fnd 10 r < r.size by omega)
        have hlz : (headOf r).size ≤ 4000 := by have := Hrs.out; omega
        have hlp := Lib.hid (show p = a + (headOf r).size by omega)
        rw [hhd] at hnl
        have hb10 : ((s[p].toNat : Int) != 10) = false := by rw [he]; rfl
        clear hc hf hx hp hk hkr he
        clear k
        generalize headOf r = l at *
        have hyes := Lib.hid (hyes.out hfr.out)
        go_wp2_with fail
        go_quiet (fail)
        go_wp2_with fail
        go_loop [5, 6] (fun b f => ∃ kb k : Nat, k ≤ l.size ∧ kb ≤ 2 ∧ Bl l k kb ∧ b = .int .i64 kb ∧ f = .int .i64 k) (fun _ f => l.size - (intOf f).toNat)
        case atStart => exact ⟨0, 0, Nat.zero_le _, by omega, .inl ⟨rfl, Nat.zero_le _⟩, rfl, rfl⟩
        case round =>
          obtain ⟨b, k, hk, hb2, hbl, rfl, rfl⟩ := hrel
          have Hbl := Lib.hid hbl; clear hbl
          by_cases hr : k < l.size ∧ b < 2
          · obtain ⟨hkl, hb⟩ := hr
            by_cases hc : l[k] = 32
            · have hst := Lib.hid (Hbl.out.yes hkl hb hc)
              have hcb : ((l[k].toNat : Int) == 32) = true := by rw [hc]; rfl
              clear hc
              go_wp2_with fail
              go_round
              case rel => exact ⟨b + 1, k + 1, by omega, by omega, hst.out, by go_num, by go_num⟩
              case measure => simp [intOf]; omega
            · have hst := Lib.hid (Hbl.out.no hkl hb hc)
              have hcb : ((l[k].toNat : Int) == 32) = false := by
                rw [beq_eq_false_iff_ne]; intro h; apply hc; apply UInt8.toNat_inj.1; have : l[k].toNat = 32 := by omega
                rw [this]; rfl
              clear hc
              go_wp2_with fail
              go_round
              case rel => exact ⟨b, k + 1, by omega, by omega, hst.out, rfl, by go_num⟩
              case measure => simp [intOf]; omega
          · by_cases hb : b = 2
            · subst hb
              obtain ⟨htwo, hnt⟩ := Hbl.out.both
              have hnz := note_size l
              have HL := Lib.hid (fun v => l26Line_any sum ((notes.length : Int) + 1) (noteOf l) v (by omega) (by omega) (by omega))
              have HI := Lib.hid (fun v => note26 (noteOf l) v (by omega))
              have hG : goodJ notes.length sum l = (noteOk (noteOf l).data.toList && decide (lineS ((notes.length : Int) + 1) (noteSum sum ((notes.length : Int) + 1) (noteOf l).data.toList) (noteOf l) = l ++ ⟨#[10]⟩)) := by
                unfold goodJ; rw [htwo, Bool.true_and]
              rw [hG] at hno2 hyes
              clear hG htwo hr Hbl Hhd
              have e1 : (l ++ ⟨#[10]⟩ : ByteArray).size = l.size + 1 := ByteArray.size_append
              generalize noteSum sum ((notes.length : Int) + 1) (noteOf l).data.toList = S at *
              generalize lineS ((notes.length : Int) + 1) S (noteOf l) = due at *
              generalize noteOf l = note at *
              generalize noteOk note.data.toList = ok at *
              rcases Nat.lt_or_ge k l.size with hq | hq
              all_goals
                go_wp2_with fail
                have hown0 := hown.drewN nq
                have hb0 := below_drewN (Below.refl B w) nq
                have hz0 : B ≤ (w.drewN nq).heap.size := hB
                have Hl0 := Lib.hid (show Lr (w.drewN nq) g s (.slice A notes.length c) sum a from Hlr.out)
                generalize w.drewN nq = w0 at *
                have hwn : IntKind.i64.wrap ((notes.length : Int) + 1) = (notes.length : Int) + 1 := IntWalk.i64_in _ (by omega)
                obtain ⟨hd0, hd1, hd2, hd3, _⟩ := Hl0.out.cells
                go_region_held3 (fun w' => w'.cell? ⟨g, 2, none⟩ = some (.int .i64 sum) ∧ w'.cell? ⟨g, 3, none⟩ = some (.slice A notes.length c))
                  (first | go_keep | assumption)
                  ((go_at_call 38; refine (HL.out _).mono ?_; rintro e w5 ⟨rfl, hb5⟩; obtain ⟨hl5, hown5, hbl5⟩ := lr_call Hl0.out hown0 hb0 hz0 hb5; have Hl5 := Lib.hid hl5; obtain ⟨k0, k1, k2, k3, kf⟩ := hl5.cells; clear hl5))
                clear hwn
                have hw1 : IntKind.i64.wrap ((p : Int) + 1) = (p : Int) + 1 := IntWalk.i64_in _ (by omega)
                have hw2 : (0 : Int) ≤ (p : Int) + 1 := by omega
                have hw3 : ((p : Int) + 1).toNat = p + 1 := by omega
                have hw4 : (p : Int) + 1 ≤ (s.size : Int) := by omega
                have hw5 : (a : Int) ≤ (p : Int) + 1 := by omega
                have hnl' := hnl.out
                clear hd0 hd1 hd2 hd3 hc0 hc1 hc2 hc3 hown hown0
                cases ok with
                | false =>
                  have hfin := Lib.hid (hno2.out rfl)
                  clear hno2 hyes
                  go_wp2_with fail
                  go_quiet ((go_at_call 33; exact Calls.quiet_of_same (HI.out _)))
                  clear hw1
                  go_wp2_with fail
                  go_ret
                  exact ⟨below_drewN hbl5 _, .inl ⟨rfl, hfin.out, ⟨_, Hl5.out, hown5.drewN _, hBg⟩⟩⟩
                | true =>
                  by_cases hdue : due = l ++ ⟨#[10]⟩
                  · have hway := Lib.hid (hyes.out (by simp [hdue]))
                    clear hyes hno2
                    subst hdue
                    go_wp2_with fail
                    go_quiet ((go_at_call 33; exact Calls.quiet_of_same (HI.out _)))
                    clear hw1
                    have hown6 := hown5.drewN nq
                    have hbl6 := below_drewN hbl5 nq
                    have hz6 : B ≤ (w5.drewN nq).heap.size := Nat.le_trans hB hbl5.size
                    have Hl6 := Lib.hid (show Lr (w5.drewN nq) g s (.slice A notes.length c) sum a from Hl5.out)
                    generalize w5.drewN nq = w6 at *
                    obtain ⟨hd0, hd1, hd2, hd3, hdf⟩ := Hl6.out.cells
                    have hf3 := hdf 3
                    clear hdf k0 k1 k2 k3 kf hown5 HL HI
                    go_wp2_with (at_builtin; refine wpList_apd 27 9 _ 1 16 Tryd.underlying27 infoSL rfl (by omega) _ _ rfl rfl B (.slice A notes.length c) notes.length _ rfl hown6 #[.string note] 1 1 rfl rfl (by simp [Value.oneCell']) (by simp [maxLen]; omega) (by omega) hz6 ?_; intro v' w7 hown7 hg7; obtain ⟨_, A7, c7, rfl, _⟩ := Rd.of_own hown7; have Hl7 := Lib.hid (Hl6.out.row hown6 hg7); have Hb7 := Lib.hid (below_apd hbl6 hown6 hg7 (Nat.le_refl _) hz6); obtain ⟨m0, m1, m2, m3, mf⟩ := Hl7.out.cells; have mf1 := mf 1; have mf2 := mf 2; have mf3 := mf 3; clear mf)
                    go_wp2_with fail
                    go_ret
                    have hfin := lat_set (B := B) (notes := notes ++ [note]) Hl7.out (by simpa [strs] using hown7) (by simp) hBg Hb7.out S ((p : Int) + 1) (a + (fnd 10 r + 1)) (by have := hpe.out; omega)
                    exact ⟨hfin.2, .inr ⟨_, rfl, hway.out, by show a < a + (_ + 1); omega, hfin.1⟩⟩
                  · have hfin := Lib.hid (hno2.out (by simp [hdue]))
                    have hq1 : (due.toList == (l ++ ⟨#[10]⟩ : ByteArray).toList) = false := by
                      rw [beq_eq_false_iff_ne]; exact fun h => hdue (ba_inj h)
                    have hq2 : (due.toList != (l ++ ⟨#[10]⟩ : ByteArray).toList) = true := by
                      simp only [bne, hq1]; rfl
                    clear hno2 hyes hdue
                    go_wp2_with fail
                    go_quiet ((go_at_call 33; exact Calls.quiet_of_same (HI.out _)))
                    clear hw1
                    go_wp2_with fail
                    go_ret
                    exact ⟨below_drewN hbl5 _, .inl ⟨rfl, hfin.out, ⟨_, Hl5.out, hown5.drewN _, hBg⟩⟩⟩
            · have h2f := Hbl.out.less (by omega) (by omega)
              have hfin := Lib.hid (hno2.out (by unfold goodJ; rw [h2f, Bool.false_and, Bool.false_and]))
              have hq : l.size ≤ k := by omega
              have hb' : (b : Int) < 2 := by omega
              have hnz : (l.extract k l.size).size ≤ 4000 := by simp; omega
              generalize hnt : l.extract k l.size = note at *
              have HL := Lib.hid (fun v => l26Line_any sum ((notes.length : Int) + 1) note v (by omega) (by omega) (by omega))
              have HI := Lib.hid (fun v => note26 note v (by omega))
              clear hr Hbl Hhd h2f hno2 hyes hb hb2
              generalize noteSum sum ((notes.length : Int) + 1) note.data.toList = S at *
              generalize lineS ((notes.length : Int) + 1) S note = due at *
              generalize noteOk note.data.toList = ok at *
              go_wp2_with fail
              have hown0 := hown.drewN nq
              have hb0 := below_drewN (Below.refl B w) nq
              have hz0 : B ≤ (w.drewN nq).heap.size := hB
              have Hl0 := Lib.hid (show Lr (w.drewN nq) g s (.slice A notes.length c) sum a from Hlr.out)
              generalize w.drewN nq = w0 at *
              have hwn : IntKind.i64.wrap ((notes.length : Int) + 1) = (notes.length : Int) + 1 := IntWalk.i64_in _ (by omega)
              obtain ⟨hd0, hd1, hd2, hd3, _⟩ := Hl0.out.cells
              go_region_held3 (fun w' => w'.cell? ⟨g, 2, none⟩ = some (.int .i64 sum) ∧ w'.cell? ⟨g, 3, none⟩ = some (.slice A notes.length c))
                (first | go_keep | assumption)
                ((go_at_call 38; refine (HL.out _).mono ?_; rintro e w5 ⟨rfl, hb5⟩; obtain ⟨hl5, hown5, hbl5⟩ := lr_call Hl0.out hown0 hb0 hz0 hb5; have Hl5 := Lib.hid hl5; obtain ⟨k0, k1, k2, k3, kf⟩ := hl5.cells; clear hl5))
              clear hwn
              clear hd0 hd1 hd2 hd3 hc0 hc1 hc2 hc3 hown hown0
              go_wp2_with fail
              go_quiet ((go_at_call 33; exact Calls.quiet_of_same (HI.out _)))
              go_wp2_with fail
              go_ret
              exact ⟨below_drewN hbl5 _, .inl ⟨rfl, hfin.out, ⟨_, Hl5.out, hown5.drewN _, hBg⟩⟩⟩
      · have hne := fnd_ne 10 r k hk hkr (by rw [hc]; subst hp; exact he)
        have hb10 : ((s[p].toNat : Int) != 10) = true := by
          rw [bne_iff_ne]; intro h; apply he; apply UInt8.toNat_inj.1; have : s[p].toNat = 10 := by omega
          rw [this]; rfl
        have Hp := Lib.hid hp
        clear hc hp he
        go_wp2_with fail
        go_round
        case rel => exact ⟨p + 1, k + 1, by have := Hp.out; omega, hne, by go_num⟩
        case measure => simp [intOf]; omega
    · have hfin := Lib.hid (hno1.out (by have := Hrs.out; omega))
      go_wp2_with fail
      go_ret
      exact ⟨Below.refl _ _, .inl ⟨rfl, hfin.out, ⟨_, Hlr.out, hown, hBg⟩⟩⟩
end Go.Proofs.YtcidjbgjgancgaaDoor
