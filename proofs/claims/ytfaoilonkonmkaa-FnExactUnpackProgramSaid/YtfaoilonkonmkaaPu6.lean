/- Programs of hand movements, unpacked, part 6: the reference's UnpackProgram. -/
import Derived.Test.YtfaoilonkonmkaaPu5
namespace Go.Proofs.Ytfaoilonkonmkaa
open Go.RowKit Go.Joins

theorem goOn6_bad (k : Nat) (acc : List (Int × Int)) (c : UInt8) (l : List UInt8) (h : (numV l).2 = 0) : goOn 6 (k + 1) acc (c :: l) = none := by
  refine goOn_bad 6 k acc c l ?_
  cases hn : numF 6 1 0 l with
  | none => rfl
  | some x =>
    have := numF_pos 6 1 0 l x.1 x.2 hn
    unfold numV at h
    rw [hn] at h
    simp only at h
    omega
theorem goOn6_step (k : Nat) (acc : List (Int × Int)) (c : UInt8) (l : List UInt8) (h : (numV l).2 ≠ 0) : goOn 6 (k + 1) acc (c :: l) = goOn 6 k (acc ++ [((c.toNat : Int), ((numV l).1 : Int))]) (l.drop (numV l).2) ∧ (numV l).2 ≤ l.length := by
  cases hn : numF 6 1 0 l with
  | none =>
    unfold numV at h
    rw [hn] at h
    exact absurd rfl h
  | some x =>
    have := numF_pos 6 1 0 l x.1 x.2 hn
    have e : numV l = x := by unfold numV; rw [hn]
    rw [e]
    exact ⟨goOn_step 6 k acc c l x.1 x.2 hn, this.2⟩
theorem ba_nil {s : ByteArray} (h : s.size = 0) : s = ⟨#[]⟩ := by
  obtain ⟨⟨l⟩⟩ := s
  have : l = [] := List.eq_nil_of_length_eq_zero h
  rw [this]
theorem ba_ne {s : ByteArray} (h : s.size ≠ 0) : s.toList.isEmpty = false := by
  cases hs : s.toList.isEmpty with
  | false => rfl
  | true =>
    have h1 : s.toList = [] := by simpa using hs
    have h2 := congrArg List.length h1
    rw [ByteArray.toList_eq] at h2
    simp at h2
    exact absurd h2 (by simpa using h)
theorem ba_cons {s : ByteArray} (h : 0 < s.size) : s.data.toList = s[0] :: (s.extract 1 s.size).data.toList := by
  rw [extr_list]
  exact List.drop_eq_getElem_cons (l := s.data.toList) (i := 0) (by simpa using h)

set_option maxRecDepth 100000 in
set_option maxHeartbeats 3200000 in
theorem UnpackS_any (s : ByteArray) (w : World) (hs : s.size ≤ 1048576) :
    Calls Try.prog 27 #[.string s] w (RetU (resS s.data.toList) w) := by
  have HB := Lib.hid (l27Body_any s w hs)
  have hb0 := Lib.hid (Below.refl w.heap.size w)
  cases hok : bodyOk s.data.toList with
  | false =>
    have hno : Hid (resS s.data.toList = none) := Lib.hid (by unfold resS; rw [hok]; rfl)
    have Hok := Lib.hid hok; clear hok
    go_enter Try.func27, Try.ntmps27
    go_wp2_with fail
    refine HB.out.mono ?_; rintro e w1 ⟨t, rfl, _, n, rfl⟩
    have hok := Hok.out
    go_wp2_with fail
    go_ret2
    exact RetU_no hno.out (below_drewN hb0.out n)
  | true =>
    have hres : Hid (resS s.data.toList = resT s.data.toList) := Lib.hid (by unfold resS; rw [if_pos hok])
    have Hok := Lib.hid hok; clear hok
    go_enter Try.func27, Try.ntmps27
    go_wp2_with fail
    refine HB.out.mono ?_; rintro e w1 ⟨t, rfl, ht, n, rfl⟩
    have Ht := Lib.hid (ht Hok.out); clear ht
    have hok := Hok.out
    by_cases h0 : t.size = 0
    · obtain rfl := ba_nil h0
      have hno : Hid (resS s.data.toList = none) := Lib.hid (by
        rw [hres.out]
        have := Ht.out
        unfold resT
        rw [← this])
      clear h0
      go_wp2_with fail
      go_ret2
      exact RetU_no hno.out (below_drewN hb0.out n)
    · have he := ba_ne h0
      have hp0 : 0 < t.size := by omega
      have hp1 : (0 : Int) < (t.size : Int) := by omega
      have hp2 : (1 : Int) ≤ (t.size : Int) := by omega
      have hc8 := t[0].toNat_lt
      obtain ⟨N, hN⟩ : ∃ N, N = t[0].toNat := ⟨_, rfl⟩
      have hN8 : N < 256 := by omega
      have hNi : (t[0].toNat : Int) = (N : Int) := by rw [hN]
      have hcons := ba_cons hp0
      have hRes : Hid (∀ q, goOn 6 N [] (t.extract 1 t.size).data.toList = q → resS s.data.toList = match q with
          | none => none
          | some x => if x.2 = [] ∧ okProg x.1 = true ∧ sealB (packP x.1) = s.data.toList then some x.1 else none) := Lib.hid (by
        rintro q rfl
        rw [hres.out, goOn_start]
        unfold resT
        rw [← Ht.out, hcons]
        simp only
        rw [← hN]
        cases parseF 6 N (t.extract 1 t.size).data.toList <;> rfl)
      have htb : t.size ≤ s.size := by
        have e1 := congrArg List.length Ht.out
        unfold bodyL at e1
        simp at e1
        rw [e1]; omega
      have ho0 := Lib.hid (World.ownsRow_made (base := w.heap.size) (e := 109) (size := 2) (w.drewN n) #[] 0 (Nat.le_refl _) (by simp [maxLen]) rfl)
      have hba := Lib.hid ((Below.refl w.heap.size (w.drewN n)).alloc (Nat.le_refl _) (.cells #[] 109))
      have hba2 := Lib.hid (below_undrewN hba.out)
      have hrs : (t.extract 1 t.size).size ≤ s.size := by simp; omega
      clear hN hc8 h0 hcons
      go_wp2_with fail
      generalize (w.drewN n).alloc (.cells #[] 109) = wz at *
      go_loopw [6, 7, 8] (fun v r i wr => ∃ (k : Nat) (acc : List (Int × Int)) (A' : Option Addr) (c' : Nat) (t2 : ByteArray), k ≤ N ∧ acc.length + k ≤ N ∧ t2.size ≤ s.size ∧ goOn 6 k acc t2.data.toList = goOn 6 N [] (t.extract 1 t.size).data.toList ∧ i = .int .i64 (k : Int) ∧ r = .string t2 ∧ v = .slice A' acc.length c' ∧ wr.ownsRow w.heap.size 109 2 (.slice A' acc.length c') acc.length (progs acc) ∧ Below w.heap.size w wr) (fun _ _ i _ => (intOf i).toNat)
      case atStart => exact ⟨N, [], _, _, t.extract 1 t.size, Nat.le_refl _, by simp, hrs, rfl, rfl, rfl, rfl, ho0.out, hba2.out⟩
      case round =>
        obtain ⟨k, acc, A', c', t2, hk, hal, htz, heq, rfl, rfl, rfl, hown, hbl⟩ := hrel
        have Heq := Lib.hid heq; clear heq
        have Hown := Lib.hid hown; clear hown
        cases k with
        | succ m =>
          have hpos : (0 : Int) < ((m + 1 : Nat) : Int) := by omega
          by_cases hz : t2.size = 0
          · obtain rfl := ba_nil hz
            have hfin : Hid (resS s.data.toList = none) := Lib.hid (hRes.out none (by rw [← Heq.out]; rfl))
            clear hz
            go_wp2_with fail
            go_ret2
            exact RetU_no hfin.out hbl
          · have he2 := ba_ne hz
            have hq0 : 0 < t2.size := by omega
            have hq1 : (0 : Int) < (t2.size : Int) := by omega
            have hq2 : (1 : Int) ≤ (t2.size : Int) := by omega
            have hc9 := t2[0].toNat_lt
            have hc9' : (t2[0].toNat : Int) < 256 := by omega
            have HN := Lib.hid (fun wx => l27Number_any (t2.extract 1 t2.size) wx)
            have hcons2 := ba_cons hq0
            have hbad := Lib.hid (goOn6_bad m acc t2[0] (t2.extract 1 t2.size).data.toList)
            have hstp := Lib.hid (goOn6_step m acc t2[0] (t2.extract 1 t2.size).data.toList)
            rw [hcons2] at Heq
            have hxl : (t2.extract 1 t2.size).data.toList.length + 1 = t2.size := by simp; omega
            have hdr : Hid (∀ q, (t2.extract (1 + q) t2.size).data.toList = (t2.extract 1 t2.size).data.toList.drop q) := Lib.hid fun q => by rw [extr_list, extr_list, List.drop_drop]
            generalize numV (t2.extract 1 t2.size).data.toList = nv at *
            obtain ⟨v, n9⟩ := nv
            dsimp only at *
            clear hz hc9 hcons2
            by_cases hn0 : n9 = 0
            · have hfin : Hid (resS s.data.toList = none) := Lib.hid (hRes.out none (by rw [← Heq.out, hbad.out hn0]))
              subst hn0
              go_wp2_with fail
              refine (HN.out _).mono ?_; rintro e w2 ⟨rfl, rfl⟩
              go_wp2_with fail
              go_ret2
              exact RetU_no hfin.out hbl
            · obtain ⟨hgo, hnl⟩ := hstp.out hn0
              have Hgo := Lib.hid hgo; clear hgo
              have hnq : ((n9 : Int) == 0) = false := by simpa using hn0
              have hnb : 1 + (n9 : Int) ≤ (t2.size : Int) := by omega
              have hnn : (1 + (n9 : Int)).toNat = 1 + n9 := by omega
              have Hones := Lib.hid (ones_two (t2[0].toNat : Int) (v : Int))
              have hsz3 : (t2.extract (1 + n9) t2.size).size ≤ s.size := by simp; omega
              clear hn0 hstp hbad
              go_wp2_with fail
              refine (HN.out _).mono ?_; rintro e w2 ⟨rfl, rfl⟩
              go_wp2_with (at_builtin; refine wpList_apd 38 109 _ 2 16 Try.underlying38 infoP rfl (by omega) _ _ rfl rfl w.heap.size (.slice A' acc.length c') acc.length _ rfl Hown.out #[.int .i64 (t2[0].toNat : Int), .int .i64 (v : Int)] 1 1 rfl rfl Hones.out (by simp [maxLen]; omega) (by omega) hbl.size ?_; intro v' w7 hown7 hg7; obtain ⟨_, A7, c7, rfl, _⟩ := Rd.of_own hown7)
              have Hb7 := Lib.hid (below_apd hbl Hown.out hg7 (Nat.le_refl _) hbl.size)
              rw [progs_snoc] at hown7
              have Hown7 := Lib.hid hown7
              clear hown7 hg7 hbl
              go_wp2_with fail
              go_roundw
              case rel => exact ⟨m, acc ++ [((t2[0].toNat : Int), (v : Int))], A7, c7, t2.extract (1 + n9) t2.size, by omega, by simp; omega, hsz3, by rw [hdr.out, ← Hgo.out]; exact Heq.out, by go_num, by first | rfl | simp, by simp, by simpa using Hown7.out, Hb7.out⟩
              case measure => simp [intOf]
        | zero =>
          have hres2 := Lib.hid (hRes.out (some (acc, t2.data.toList)) (by rw [← Heq.out, goOn_0]))
          have HV := Lib.hid (l11Ok_any _ _ acc wr (Rd.of_own Hown.out) (by omega))
          by_cases hz : t2.size = 0
          · obtain rfl := ba_nil hz
            clear hz
            cases hkk : okProg acc with
            | false =>
              have hfin : Hid (resS s.data.toList = none) := Lib.hid (by rw [hres2.out]; simp [hkk])
              rw [hkk] at HV
              clear hkk
              go_wp2_with fail
              refine HV.out.mono ?_; rintro e w2 ⟨rfl, q, rfl⟩
              go_wp2_with fail
              go_ret2
              exact RetU_no hfin.out (below_drewN hbl q)
            | true =>
              have HP := Lib.hid (fun q => l27Program_any _ _ acc (wr.drewN q) ((Rd.of_own Hown.out).drewN q) (Nat.le_refl _) hkk)
              rw [hkk] at HV
              by_cases hq : sealB (packP acc) = s.data.toList
              · have hfin : Hid (resS s.data.toList = some acc) := Lib.hid (by rw [hres2.out]; simp [hkk, hq])
                rw [hq] at HP
                clear hkk hq
                go_wp2_with fail
                refine HV.out.mono ?_; rintro e w2 ⟨rfl, q, rfl⟩
                go_wp2_with fail
                refine (HP.out _).mono ?_; rintro e w3 ⟨rfl, hb3⟩
                have Hb3 := Lib.hid ((below_drewN hbl q).trans (hb3.mono hbl.size))
                have Hown3 := Lib.hid (own_below (Hown.out.drewN q) hb3)
                clear hb3 hbl
                go_wp2_with fail
                go_ret2
                exact RetU_yes hfin.out Hown3.out Hb3.out
              · have hfin : Hid (resS s.data.toList = none) := Lib.hid (by rw [hres2.out]; simp [hq])
                generalize hQ : (⟨(sealB (packP acc)).toArray⟩ : ByteArray) = Q at *
                have hQn : Q ≠ s := fun h => hq (by rw [← h, ← hQ])
                have hq1 : (Q.toList == s.toList) = false := beq_eq_false_iff_ne.2 fun h => hQn (ba_inj h)
                have hq2 : (Q.toList != s.toList) = true := bne_iff_ne.2 fun h => hQn (ba_inj h)
                clear hkk hq hQ hQn
                go_wp2_with fail
                refine HV.out.mono ?_; rintro e w2 ⟨rfl, q, rfl⟩
                go_wp2_with fail
                refine (HP.out _).mono ?_; rintro e w3 ⟨rfl, hb3⟩
                have Hb3 := Lib.hid ((below_drewN hbl q).trans (hb3.mono hbl.size))
                go_wp2_with fail
                go_ret2
                exact RetU_no hfin.out Hb3.out
          · have he2 := ba_ne hz
            have hne2 : t2.data.toList ≠ [] := fun h => hz (by have := congrArg List.length h; simpa using this)
            have hfin : Hid (resS s.data.toList = none) := Lib.hid (by rw [hres2.out]; simp [hne2])
            clear hz hne2
            go_wp2_with fail
            go_ret2
            exact RetU_no hfin.out hbl
end Go.Proofs.Ytfaoilonkonmkaa
