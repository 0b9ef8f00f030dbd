/- Programs of hand movements, part 5: PackProgram on both sides. -/
import Derived.Test.YtfaoilonkonmkaaPg4
namespace Go.Proofs.Ytfaoilonkonmkaa
open Go.RowKit Go.Joins

set_option maxRecDepth 100000 in
set_option maxHeartbeats 3200000 in
theorem l27Program_any (B : Nat) (v : Value) (zs : List (Int × Int)) (wb : World) (h : Rd wb B v zs.length 2 (progs zs)) (hB0 : B ≤ wb.heap.size) (hok : okProg zs = true) :
    Calls Try.prog 83 #[v] wb fun e w' => e = .returned (.string ⟨(sealB (packP zs)).toArray⟩) ∧ Below wb.heap.size wb w' := by
  have hlen := (okProg_all hok).2
  have HOK := Lib.hid hok; clear hok
  have H := Lib.hid h
  obtain ⟨_, A, c, rfl, _⟩ := h
  obtain ⟨base, hbase⟩ : ∃ b, b = wb.heap.size := ⟨_, rfl⟩
  have hwb : base ≤ wb.heap.size := by omega
  have hB : B ≤ base := by omega
  have hwl : IntKind.u8.wrap (zs.length : Int) = (zs.length : Int) := wrap8 (by omega) (by omega)
  have hbs : (#[Value.int .u8 80, Value.int .u8 (zs.length : Int)] : Array Value).toList = bys [80, byt (zs.length : Int)] := by
    show [_, _] = [byV 80, byV _]
    rw [byV_byt (by omega) (by omega)]; rfl
  have ho1 := World.ownsRow_lit (base := base) (e := 5) (size := 1) wb #[.int .u8 80, .int .u8 (zs.length : Int)] 2 hwb (by simp [maxLen]) rfl
  rw [hbs] at ho1
  have Ho1 := Lib.hid ho1
  have Hb1 := Lib.hid ((Below.refl base wb).alloc hwb (.cells #[.int .u8 80, .int .u8 (zs.length : Int)] 5))
  rw [← hbase]
  have Hbase := Lib.hid hbase
  clear ho1 hbs hbase
  go_enter Try.func83, Try.ntmps83
  go_wp2_with fail
  clear hwl
  have hgl := Lib.hid (packP_len HOK.out)
  have hall := Lib.hid (okProg_all HOK.out).1
  go_loopw [3, 4] (fun v i wr => ∃ (k : Nat) (acc : List UInt8) (A' : Option Addr) (c' : Nat), k ≤ zs.length ∧ acc ++ encs (zs.drop k) = packP zs ∧ i = .int .i64 k ∧ v = .slice A' acc.length c' ∧ wr.ownsRow base 5 1 (.slice A' acc.length c') acc.length (bys acc) ∧ Below base wb wr) (fun _ i _ => zs.length - (intOf i).toNat)
  case atStart => exact ⟨0, [80, byt (zs.length : Int)], _, _, Nat.zero_le _, rfl, rfl, rfl, Ho1.out, Hb1.out⟩
  case round =>
    obtain ⟨k, acc, A', c', hk, heq, rfl, rfl, hown, hbl⟩ := hrel
    have hal : acc.length ≤ 842 := by
      have := congrArg List.length heq
      rw [List.length_append] at this
      have := hgl.out
      omega
    have Heq := Lib.hid heq; clear heq
    have hzb : base ≤ wr.heap.size := Nat.le_trans hwb hbl.size
    by_cases hlt : k < zs.length
    · obtain ⟨b1, o1, hA, hbB, hx, hx'⟩ := progs_rd (H.out.below (hbl.mono hB)) k hlt
      subst hA
      have hlt' : (k : Int) < (zs.length : Int) := by omega
      have hoi := hall.out zs[k] (List.getElem_mem hlt)
      have Hst := Lib.hid (encs_at zs k hlt)
      obtain ⟨p1, p2, p3, p4⟩ := okIns_bd hoi
      generalize zs[k].1 = op at *
      generalize zs[k].2 = a at *
      obtain ⟨n, rfl⟩ := Int.eq_ofNat_of_zero_le p3
      rw [Int.toNat_natCast] at Hst
      generalize hR : encs (zs.drop (k + 1)) = R at *
      have HR := Lib.hid hR; clear hR hoi
      have hgo := Lib.hid (show (acc ++ [byt op]) ++ (encA n ++ R) = packP zs by
        have := Heq.out
        rw [Hst.out] at this
        rw [List.append_assoc]; exact this)
      clear Hst Heq
      have hbz : b1 < base := by omega
      have hbz1 : b1 < wr.heap.size := by omega
      have hwop : IntKind.u8.wrap op = op := wrap8 (by omega) (by omega)
      go_wp2_with (at_builtin; refine wpList_apd 76 5 _ 1 1 Try.underlying76 infoB rfl (by omega) _ _ rfl rfl base (.slice A' acc.length c') acc.length _ rfl hown #[.int .u8 (op)] 1 1 rfl rfl (by simp [Value.oneCell']) (by simp [maxLen]; omega) (by omega) hzb ?_; intro v' w7 hown7 hg7; obtain ⟨_, A7, c7, rfl, _⟩ := Rd.of_own hown7; have hx7 := ((below_apd hbl hown hg7 (Nat.le_refl _) hzb).cell (p := ⟨b1, o1 + k * 2 + 1, none⟩) hbz).trans ((hbl.cell (p := ⟨b1, o1 + k * 2 + 1, none⟩) hbz).symm.trans hx'))
      have hb7 := below_apd hbl hown hg7 (Nat.le_refl _) hzb
      clear hwop
      rw [bys_one acc op (by omega) (by omega)] at hown7
      have hl7 : (acc ++ [byt op]).length = acc.length + 1 := by simp
      have Hown7 := Lib.hid (show w7.ownsRow base 5 1 (.slice A7 (acc ++ [byt op]).length c7) (acc ++ [byt op]).length (bys (acc ++ [byt op])) by rw [hl7]; exact hown7)
      have Hb7 := Lib.hid hb7
      clear hg7 hx'
      clear hown7 hb7 hl7 hown hbl hx
      obtain ⟨w8, hw8⟩ : ∃ x, x = w7 := ⟨_, rfl⟩
      subst hw8
      go_loopw [3, 5] (fun v a wy => ∃ (m : Nat) (acc2 : List UInt8) (A2 : Option Addr) (c2 : Nat), m ≤ 1000000000000 ∧ acc2 ++ (encA m ++ R) = packP zs ∧ a = .int .i64 m ∧ v = .slice A2 acc2.length c2 ∧ wy.ownsRow base 5 1 (.slice A2 acc2.length c2) acc2.length (bys acc2) ∧ Below base wb wy) (fun _ a _ => (intOf a).toNat)
      case atStart => exact ⟨n, acc ++ [byt op], A7, c7, by omega, hgo.out, rfl, by simp, Hown7.out, Hb7.out⟩
      case round =>
        obtain ⟨m, acc2, A2, c2, hm, heq2, rfl, rfl, hown2, hbl2⟩ := hrel
        have hal2 : acc2.length ≤ 842 := by
          have := congrArg List.length heq2
          rw [List.length_append] at this
          have := hgl.out
          omega
        have Heq2 := Lib.hid heq2; clear heq2
        have hz2 : base ≤ wr.heap.size := Nat.le_trans hwb hbl2.size
        by_cases hm8 : 128 ≤ m
        · have hge := Lib.hid (encA_ge hm8)
          have hm8' : (128 : Int) ≤ (m : Int) := by omega
          have hm9 : (127 : Int) < (m : Int) := by omega
          have hwa : IntKind.u8.wrap ((m : Int) % 128) = (m : Int) % 128 := wrap8 (by omega) (by omega)
          have hwc : IntKind.u8.wrap ((m : Int) % 128 + 128) = (m : Int) % 128 + 128 := wrap8 (by omega) (by omega)
          have hwd : IntKind.u8.wrap (128 + (m : Int) % 128) = 128 + (m : Int) % 128 := wrap8 (by omega) (by omega)
          go_wp2_with (at_builtin; refine wpList_apd 76 5 _ 1 1 Try.underlying76 infoB rfl (by omega) _ _ rfl rfl base (.slice A2 acc2.length c2) acc2.length _ rfl hown2 #[.int .u8 (128 + (m : Int) % 128)] 1 1 rfl rfl (by simp [Value.oneCell']) (by simp [maxLen]; omega) (by omega) hz2 ?_; intro v' w7 hown7 hg7; obtain ⟨_, A7, c7, rfl, _⟩ := Rd.of_own hown7)
          clear hwa hwc hwd
          have Hb9 := Lib.hid (below_apd hbl2 hown2 hg7 (Nat.le_refl _) hz2)
          rw [bys_one acc2 (128 + (m : Int) % 128) (by omega) (by omega)] at hown7
          have Hown9 := Lib.hid hown7
          clear hown7 hg7 hown2 hbl2
          go_wp2_with fail
          go_roundw
          case rel => exact ⟨m / 128, acc2 ++ [byt (128 + (m : Int) % 128)], A7, c7, by omega, by rw [List.append_assoc]; have := Heq2.out; rw [hge.out, Int.add_comm ((m : Int) % 128) 128] at this; exact this, by go_num, by simp, by simpa using Hown9.out, Hb9.out⟩
          case measure => simp [intOf]; omega
        · have hlt8 := Lib.hid (encA_lt (n := m) (by omega))
          have hm8' : (m : Int) < 128 := by omega
          have hm9 : (m : Int) ≤ 127 := by omega
          have hwa : IntKind.u8.wrap (m : Int) = (m : Int) := wrap8 (by omega) (by omega)
          go_wp2_with (at_builtin; refine wpList_apd 76 5 _ 1 1 Try.underlying76 infoB rfl (by omega) _ _ rfl rfl base (.slice A2 acc2.length c2) acc2.length _ rfl hown2 #[.int .u8 ((m : Int))] 1 1 rfl rfl (by simp [Value.oneCell']) (by simp [maxLen]; omega) (by omega) hz2 ?_; intro v' w7 hown7 hg7; obtain ⟨_, A7, c7, rfl, _⟩ := Rd.of_own hown7)
          clear hwa
          have Hb9 := Lib.hid (below_apd hbl2 hown2 hg7 (Nat.le_refl _) hz2)
          rw [bys_one acc2 (m : Int) (by omega) (by omega)] at hown7
          have Hown9 := Lib.hid hown7
          clear hown7 hg7 hown2 hbl2
          go_wp2_with fail
          go_roundw
          case rel => exact ⟨k + 1, acc2 ++ [byt (m : Int)], A7, c7, by omega, by rw [List.append_assoc, HR.out]; have := Heq2.out; rw [hlt8.out] at this; exact this, by go_num, by simp, by simpa using Hown9.out, Hb9.out⟩
          case measure => simp [intOf]; omega
    · have hfin := Lib.hid (show acc = packP zs by
        have := Heq.out
        rwa [encs_end zs k (by omega), List.append_nil] at this)
      have hlt' : (zs.length : Int) ≤ (k : Int) := by omega
      have HE := Lib.hid (l27Ended_any base acc A' c' wr hown hzb (by omega))
      clear hown
      go_wp2_with fail
      refine HE.out.mono ?_; rintro e w9 ⟨rfl, hb9⟩
      have Hb9 := Lib.hid (hbl.trans hb9)
      clear hb9 hbl
      go_wp2_with fail
      go_ret
      rw [← hfin.out]; exact ⟨rfl, Hb9.out⟩

theorem PackPS_any (B : Nat) (v : Value) (zs : List (Int × Int)) (w : World) (h : Rd w B v zs.length 2 (progs zs)) (hB : B ≤ w.heap.size) (hl : zs.length ≤ 1048576) :
    Calls Try.prog 23 #[v] w fun e w' => e = .returned (.tuple #[.string (packPT zs), .int .i64 (packPE zs)]) ∧ Below w.heap.size w w' := by
  have HV := Lib.hid (l11Ok_any B v zs w h hl)
  have H := Lib.hid h
  obtain ⟨_, A, c, rfl, _⟩ := h
  cases hok : okProg zs with
  | false =>
    have hf1 := Lib.hid (show packPT zs = ⟨#[]⟩ by unfold packPT; rw [hok]; rfl)
    have hf2 := Lib.hid (show packPE zs = 1 by unfold packPE; rw [hok]; rfl)
    rw [hok] at HV
    have hb0 := Lib.hid (Below.refl w.heap.size w)
    clear hok
    go_enter Try.func23, Try.ntmps23
    go_wp2_with fail
    refine HV.out.mono ?_; rintro e w1 ⟨rfl, n, rfl⟩
    go_wp2_with fail
    go_ret2
    rw [hf1.out, hf2.out]; exact ⟨rfl, below_drewN hb0.out _⟩
  | true =>
    have hf1 := Lib.hid (show packPT zs = ⟨(sealB (packP zs)).toArray⟩ by unfold packPT; rw [if_pos hok])
    have hf2 := Lib.hid (show packPE zs = 0 by unfold packPE; rw [if_pos hok])
    have HP := Lib.hid (fun n => l27Program_any B _ zs (w.drewN n) (H.out.drewN n) hB hok)
    rw [hok] at HV
    clear hok
    go_enter Try.func23, Try.ntmps23
    go_wp2_with fail
    refine HV.out.mono ?_; rintro e w1 ⟨rfl, n, rfl⟩
    go_wp2_with fail
    refine (HP.out _).mono ?_; rintro e w1 ⟨rfl, hb1⟩
    go_wp2_with fail
    go_ret2
    rw [hf1.out, hf2.out]; exact ⟨rfl, below_undrewN hb1⟩

set_option maxRecDepth 100000 in
set_option maxHeartbeats 3200000 in
theorem PackPI_any (B : Nat) (v : Value) (zs : List (Int × Int)) (w : World) (h : Rd w B v zs.length 2 (progs zs)) (hB' : B ≤ w.heap.size) (hl : zs.length ≤ 1048576) :
    Calls Try.prog 25 #[v] w fun e w' => e = .returned (.tuple #[.string (packPT zs), .int .i64 (packPE zs)]) ∧ Below w.heap.size w w' := by
  have HV := Lib.hid (ValidProgram_any B v zs w h hB' hl)
  have H0 := Lib.hid h
  obtain ⟨_, A, c, rfl, _⟩ := h
  rcases Bool.eq_false_or_eq_true (okProg zs) with hok | hok
  rotate_left
  · have hf1 := Lib.hid (show packPT zs = ⟨#[]⟩ by unfold packPT; rw [hok]; rfl)
    have hf2 := Lib.hid (show packPE zs = 1 by unfold packPE; rw [hok]; rfl)
    rw [hok] at HV
    clear hok
    go_enter Try.func25, Try.ntmps25
    go_wp2_with fail
    refine HV.out.mono ?_; rintro e w1 ⟨rfl, hb1⟩
    go_wp2_with fail
    go_ret2
    rw [hf1.out, hf2.out]; exact ⟨rfl, hb1⟩
  have hf1 := Lib.hid (show packPT zs = ⟨(sealB (packP zs)).toArray⟩ by unfold packPT; rw [if_pos hok])
  have hf2 := Lib.hid (show packPE zs = 0 by unfold packPE; rw [if_pos hok])
  have hlen := (okProg_all hok).2
  have HOK := Lib.hid hok
  rw [hok] at HV
  clear hok
  have hwl : IntKind.u8.wrap (zs.length : Int) = (zs.length : Int) := wrap8 (by omega) (by omega)
  go_enter Try.func25, Try.ntmps25
  go_wp2_with fail
  refine HV.out.mono ?_; rintro e wb ⟨rfl, hbb⟩
  have hb0 := Lib.hid hbb
  have H := Lib.hid (H0.out.below (hbb.mono hB'))
  have hwz := hbb.size
  clear hbb
  obtain ⟨base, hbase⟩ : ∃ b, b = wb.heap.size := ⟨_, rfl⟩
  have hwb : base ≤ wb.heap.size := by omega
  have hB : B ≤ base := by omega
  have hbs : (#[Value.int .u8 80, Value.int .u8 (zs.length : Int)] : Array Value).toList = bys [80, byt (zs.length : Int)] := by
    show [_, _] = [byV 80, byV _]
    rw [byV_byt (by omega) (by omega)]; rfl
  have ho1 := World.ownsRow_lit (base := base) (e := 5) (size := 1) wb #[.int .u8 80, .int .u8 (zs.length : Int)] 2 hwb (by simp [maxLen]) rfl
  rw [hbs] at ho1
  have Ho1 := Lib.hid ho1
  have Hb1 := Lib.hid ((Below.refl base wb).alloc hwb (.cells #[.int .u8 80, .int .u8 (zs.length : Int)] 5))
  have hwz : w.heap.size ≤ base := by omega
  have Hbase := Lib.hid hbase
  clear ho1 hbs hbase
  go_wp2_with fail
  clear hwl
  have hgl := Lib.hid (packP_len HOK.out)
  have hall := Lib.hid (okProg_all HOK.out).1
  go_loopw [4, 17] (fun v i wr => ∃ (k : Nat) (acc : List UInt8) (A' : Option Addr) (c' : Nat), k ≤ zs.length ∧ acc ++ encs (zs.drop k) = packP zs ∧ i = .int .i64 k ∧ v = .slice A' acc.length c' ∧ wr.ownsRow base 5 1 (.slice A' acc.length c') acc.length (bys acc) ∧ Below base wb wr) (fun _ i _ => zs.length - (intOf i).toNat)
  case atStart => exact ⟨0, [80, byt (zs.length : Int)], _, _, Nat.zero_le _, rfl, rfl, rfl, Ho1.out, Hb1.out⟩
  case round =>
    obtain ⟨k, acc, A', c', hk, heq, rfl, rfl, hown, hbl⟩ := hrel
    have hal : acc.length ≤ 842 := by
      have := congrArg List.length heq
      rw [List.length_append] at this
      have := hgl.out
      omega
    have Heq := Lib.hid heq; clear heq
    have hzb : base ≤ wr.heap.size := Nat.le_trans hwb hbl.size
    by_cases hlt : k < zs.length
    · obtain ⟨b1, o1, hA, hbB, hx, hx'⟩ := progs_rd (H.out.below (hbl.mono hB)) k hlt
      subst hA
      have hlt' : (k : Int) < (zs.length : Int) := by omega
      have hoi := hall.out zs[k] (List.getElem_mem hlt)
      have Hst := Lib.hid (encs_at zs k hlt)
      obtain ⟨p1, p2, p3, p4⟩ := okIns_bd hoi
      generalize zs[k].1 = op at *
      generalize zs[k].2 = a at *
      obtain ⟨n, rfl⟩ := Int.eq_ofNat_of_zero_le p3
      rw [Int.toNat_natCast] at Hst
      generalize hR : encs (zs.drop (k + 1)) = R at *
      have HR := Lib.hid hR; clear hR hoi
      have hgo := Lib.hid (show (acc ++ [byt op]) ++ (encA n ++ R) = packP zs by
        have := Heq.out
        rw [Hst.out] at this
        rw [List.append_assoc]; exact this)
      clear Hst Heq
      have hbz : b1 < base := by omega
      have hbz1 : b1 < wr.heap.size := by omega
      have hwop : IntKind.u8.wrap op = op := wrap8 (by omega) (by omega)
      have hba := hbl.alloc hzb (.cells #[.int .i64 op, .int .i64 (n : Int)] 109)
      have hnw := Lib.hid (heap_alloc_new wr (.cells #[.int .i64 op, .int .i64 (n : Int)] 109))
      have hzc := Nat.le_trans hwb hba.size
      have Hsz := Lib.hid (show (wr.alloc (.cells #[.int .i64 op, .int .i64 (n : Int)] 109)).heap.size = wr.heap.size + 1 by simp)
      have hown0 := hown.alloc (.cells #[.int .i64 op, .int .i64 (n : Int)] 109)
      have hne : some wr.heap.size ≠ (Value.slice A' acc.length c').ownBlock := fun e => by
        have := (hown.lt _ e.symm).2
        omega
      go_wp2_with (at_builtin; refine wpList_apd 76 5 _ 1 1 Try.underlying76 infoB rfl (by omega) _ _ rfl rfl base (.slice A' acc.length c') acc.length _ rfl hown0 #[.int .u8 (op)] 1 1 (by rw [Hsz.out]; rfl) rfl (by simp [Value.oneCell']) (by simp [maxLen]; omega) (by omega) hzc ?_; intro v' w7 hown7 hg7; obtain ⟨_, A7, c7, rfl, _⟩ := Rd.of_own hown7; obtain ⟨q0, q1⟩ := blkp ((hg7.block wr.heap.size (by simp) hne).trans hnw.out))
      have hb7 := below_apd hba hown0 hg7 (Nat.le_refl _) hzc
      clear hwop
      rw [bys_one acc op (by omega) (by omega)] at hown7
      have hl7 : (acc ++ [byt op]).length = acc.length + 1 := by simp
      have Hown7 := Lib.hid (show w7.ownsRow base 5 1 (.slice A7 (acc ++ [byt op]).length c7) (acc ++ [byt op]).length (bys (acc ++ [byt op])) by rw [hl7]; exact hown7)
      have Hb7 := Lib.hid hb7
      clear hba hnw hzc hown0 hne hg7
      clear hown7 hb7 hl7 hown hbl hx
      obtain ⟨w8, hw8⟩ : ∃ x, x = w7 := ⟨_, rfl⟩
      subst hw8
      go_loopw [4, 7] (fun v a wy => ∃ (m : Nat) (acc2 : List UInt8) (A2 : Option Addr) (c2 : Nat), m ≤ 1000000000000 ∧ acc2 ++ (encA m ++ R) = packP zs ∧ a = .int .i64 m ∧ v = .slice A2 acc2.length c2 ∧ wy.ownsRow base 5 1 (.slice A2 acc2.length c2) acc2.length (bys acc2) ∧ Below base wb wy) (fun _ a _ => (intOf a).toNat)
      case atStart => exact ⟨n, acc ++ [byt op], A7, c7, by omega, hgo.out, rfl, by simp, Hown7.out, Hb7.out⟩
      case round =>
        obtain ⟨m, acc2, A2, c2, hm, heq2, rfl, rfl, hown2, hbl2⟩ := hrel
        have hal2 : acc2.length ≤ 842 := by
          have := congrArg List.length heq2
          rw [List.length_append] at this
          have := hgl.out
          omega
        have Heq2 := Lib.hid heq2; clear heq2
        have hz2 : base ≤ wr.heap.size := Nat.le_trans hwb hbl2.size
        by_cases hm8 : 128 ≤ m
        · have hge := Lib.hid (encA_ge hm8)
          have hm8' : (128 : Int) ≤ (m : Int) := by omega
          have hm9 : (127 : Int) < (m : Int) := by omega
          have hwa : IntKind.u8.wrap ((m : Int) % 128) = (m : Int) % 128 := wrap8 (by omega) (by omega)
          have hwc : IntKind.u8.wrap ((m : Int) % 128 + 128) = (m : Int) % 128 + 128 := wrap8 (by omega) (by omega)
          have hwd : IntKind.u8.wrap (128 + (m : Int) % 128) = 128 + (m : Int) % 128 := wrap8 (by omega) (by omega)
          go_wp2_with (at_builtin; refine wpList_apd 76 5 _ 1 1 Try.underlying76 infoB rfl (by omega) _ _ rfl rfl base (.slice A2 acc2.length c2) acc2.length _ rfl hown2 #[.int .u8 ((m : Int) % 128 + 128)] 1 1 rfl rfl (by simp [Value.oneCell']) (by simp [maxLen]; omega) (by omega) hz2 ?_; intro v' w7 hown7 hg7; obtain ⟨_, A7, c7, rfl, _⟩ := Rd.of_own hown7)
          clear hwa hwc hwd
          have Hb9 := Lib.hid (below_apd hbl2 hown2 hg7 (Nat.le_refl _) hz2)
          rw [bys_one acc2 ((m : Int) % 128 + 128) (by omega) (by omega)] at hown7
          have Hown9 := Lib.hid hown7
          clear hown7 hg7 hown2 hbl2
          go_wp2_with fail
          go_roundw
          case rel => exact ⟨m / 128, acc2 ++ [byt ((m : Int) % 128 + 128)], A7, c7, by omega, by rw [List.append_assoc]; have := Heq2.out; rw [hge.out] at this; exact this, by go_num, by simp, by simpa using Hown9.out, Hb9.out⟩
          case measure => simp [intOf]; omega
        · have hlt8 := Lib.hid (encA_lt (n := m) (by omega))
          have hm8' : (m : Int) < 128 := by omega
          have hm9 : (m : Int) ≤ 127 := by omega
          have hwa : IntKind.u8.wrap (m : Int) = (m : Int) := wrap8 (by omega) (by omega)
          go_wp2_with (at_builtin; refine wpList_apd 76 5 _ 1 1 Try.underlying76 infoB rfl (by omega) _ _ rfl rfl base (.slice A2 acc2.length c2) acc2.length _ rfl hown2 #[.int .u8 ((m : Int))] 1 1 rfl rfl (by simp [Value.oneCell']) (by simp [maxLen]; omega) (by omega) hz2 ?_; intro v' w7 hown7 hg7; obtain ⟨_, A7, c7, rfl, _⟩ := Rd.of_own hown7)
          clear hwa
          have Hb9 := Lib.hid (below_apd hbl2 hown2 hg7 (Nat.le_refl _) hz2)
          rw [bys_one acc2 (m : Int) (by omega) (by omega)] at hown7
          have Hown9 := Lib.hid hown7
          clear hown7 hg7 hown2 hbl2
          go_wp2_with fail
          go_roundw
          case rel => exact ⟨k + 1, acc2 ++ [byt (m : Int)], A7, c7, by omega, by rw [List.append_assoc, HR.out]; have := Heq2.out; rw [hlt8.out] at this; exact this, by go_num, by simp, by simpa using Hown9.out, Hb9.out⟩
          case measure => simp [intOf]; omega
    · have hfin := Lib.hid (show acc = packP zs by
        have := Heq.out
        rwa [encs_end zs k (by omega), List.append_nil] at this)
      have hlt' : (zs.length : Int) ≤ (k : Int) := by omega
      have HE := Lib.hid (sealed_any base acc A' c' wr hown hzb (by omega))
      clear hown
      go_wp2_with fail
      refine HE.out.mono ?_; rintro e w9 ⟨rfl, hb9⟩
      have Hb9 := Lib.hid (hbl.trans hb9)
      clear hb9 hbl
      go_wp2_with fail
      go_ret2
      rw [hf1.out, hf2.out, ← hfin.out]; exact ⟨rfl, hb0.out.trans (Hb9.out.mono hwz)⟩
end Go.Proofs.Ytfaoilonkonmkaa
