/- ReadHex on both sides. -/
import Derived.Test.YthdlepejbikofaaHex
namespace Go.Proofs.Ythdlepejbikofaa
open Go.RowKit

/-- what a hexadecimal digit means -/
def hexV (c : UInt8) : Int := if 48 ≤ (c.toNat : Int) ∧ (c.toNat : Int) ≤ 57 then (c.toNat : Int) - 48 else if 97 ≤ (c.toNat : Int) ∧ (c.toNat : Int) ≤ 102 then (c.toNat : Int) - 87 else -1
theorem hexV_bd (c : UInt8) : -1 ≤ hexV c ∧ hexV c < 16 := by
  unfold hexV
  split
  · omega
  · split <;> omega
theorem hexV_D : ∀ n : Fin 16, hexV (hexD n.val) = (n.val : Int) := by decide
theorem hexD_V : ∀ n : Fin 256, hexV (UInt8.ofNat n.val) = -1 ∨ hexD (hexV (UInt8.ofNat n.val)).toNat = UInt8.ofNat n.val := by decide +kernel
theorem hexD_V' (c : UInt8) : hexV c = -1 ∨ hexD (hexV c).toNat = c := by
  have := hexD_V ⟨c.toNat, by have := c.toNat_lt; omega⟩
  simpa using this

set_option maxHeartbeats 400000 in
theorem l02Digit_any (c : UInt8) (w : World) :
    Calls Try.prog 48 #[.int .u8 (c.toNat : Int)] w fun e w' => e = .returned (.int .i64 (hexV c)) ∧ w = w' := by
  have hc : (c.toNat : Int) < 256 := by have := c.toNat_lt; omega
  have hc0 : 0 ≤ (c.toNat : Int) := by omega
  have hv : hexV c = if 48 ≤ (c.toNat : Int) ∧ (c.toNat : Int) ≤ 57 then (c.toNat : Int) - 48 else if 97 ≤ (c.toNat : Int) ∧ (c.toNat : Int) ≤ 102 then (c.toNat : Int) - 87 else -1 := rfl
  generalize hexV c = r at *
  generalize (c.toNat : Int) = n at *
  have Hv := Lib.hid hv; clear hv
  by_cases h1 : 48 ≤ n ∧ n ≤ 57
  · obtain ⟨h1a, h1b⟩ := h1
    go_enter Try.func48, Try.ntmps48
    go_wp2
    go_ret
    rw [Hv.out, if_pos ⟨h1a, h1b⟩]
    exact ⟨rfl, rfl⟩
  · by_cases h2 : 97 ≤ n ∧ n ≤ 102
    · obtain ⟨h2a, h2b⟩ := h2
      have hx : 57 < n := by omega
      go_enter Try.func48, Try.ntmps48
      go_wp2
      go_ret
      rw [Hv.out, if_neg (by omega), if_pos ⟨h2a, h2b⟩]
      exact ⟨ret_int (by omega), rfl⟩
    · have Hv2 := Lib.hid (show r = -1 by rw [Hv.out, if_neg h1, if_neg h2])
      have c1 : n < 48 ∨ (57 < n ∧ n < 97) ∨ 102 < n := by omega
      clear h1 h2 Hv
      rcases c1 with c1 | ⟨c1, c2⟩ | c1
      all_goals
        go_enter Try.func48, Try.ntmps48
        go_wp2
        go_ret
        rw [Hv2.out]
        exact ⟨rfl, rfl⟩

set_option maxHeartbeats 400000 in
theorem hexDigit_any (c : UInt8) (w : World) :
    Calls Try.prog 49 #[.int .u8 (c.toNat : Int)] w fun e w' => e = .returned (.int .i64 (hexV c)) ∧ w' = w := by
  have hD := hexD_V' c
  have HD := Lib.hid hD; clear hD
  have hbd := hexV_bd c
  obtain ⟨hb1, hb2⟩ := hbd
  go_enter Try.func49, Try.ntmps49
  go_wp2_with fail
  go_loop [4] (fun i => ∃ k : Nat, k ≤ 16 ∧ i = .int .i64 k ∧ ∀ j, j < k → hexD j ≠ c) (fun i => 16 - (intOf i).toNat)
  case atStart => exact ⟨0, by omega, rfl, fun j hj => by omega⟩
  case round =>
    obtain ⟨k, hk, rfl, hno⟩ := hrel
    have Hno := Lib.hid hno; clear hno
    by_cases hlt : k < 16
    · have hix := hexN64 k hlt w
      by_cases he : hexD k = c
      · have hb : (((hexD k).toNat : Int) == (c.toNat : Int)) = true := by rw [he]; simp
        have hfin := Lib.hid (show hexV c = (k : Int) by rw [← he]; exact hexV_D ⟨k, hlt⟩)
        have He := Lib.hid he; clear he
        go_wp2_with fail
        go_ret
        rw [hfin.out]; exact ⟨rfl, rfl⟩
      · have hb : (((hexD k).toNat : Int) == (c.toNat : Int)) = false := by
          rw [beq_eq_false_iff_ne]
          intro h
          exact he (UInt8.toNat_inj.1 (by omega))
        have He := Lib.hid he; clear he
        go_wp2_with fail
        go_round
        case rel =>
          refine ⟨k + 1, by omega, by go_num, fun j hj => ?_⟩
          by_cases hjk : j = k
          · subst hjk; exact He.out
          · exact Hno.out j (by omega)
        case measure => simp [intOf]; omega
    · have hfin := Lib.hid (show hexV c = -1 by
        rcases HD.out with h | h
        · exact h
        · by_cases h0 : hexV c = -1
          · exact h0
          · exact absurd h (Hno.out _ (by omega)))
      go_wp2_with fail
      go_ret
      rw [hfin.out]; exact ⟨rfl, rfl⟩

/-- the bytes of hexadecimal digits -/
def readH : List UInt8 → Option (List UInt8)
  | [] => some []
  | [_] => none
  | a :: b :: l => if hexV a < 0 ∨ hexV b < 0 then none else (readH l).map (UInt8.ofNat (16 * hexV a + hexV b).toNat :: ·)
def readS (l : List UInt8) : ByteArray := ⟨((readH l).getD []).toArray⟩
def readB (l : List UInt8) : Bool := (readH l).isSome
theorem readH_odd : ∀ (l : List UInt8), l.length % 2 = 1 → readH l = none
  | [], h => by simp at h
  | [_], _ => rfl
  | a :: b :: l, h => by
    have := readH_odd l (by simp at h; omega)
    simp [readH, this]
theorem drop_two (s : ByteArray) (k : Nat) (h : k + 1 < s.size) : s.data.toList.drop k = s[k] :: s[k + 1] :: s.data.toList.drop (k + 2) := by
  rw [List.drop_eq_getElem_cons (by simpa using (by omega : k < s.size)), List.drop_eq_getElem_cons (by simpa using h)]
  rfl

theorem readH_step (s : ByteArray) (k : Nat) (acc : List UInt8) (h : k + 1 < s.size) (hr : readH s.data.toList = (readH (s.data.toList.drop k)).map (acc ++ ·)) (ha : 0 ≤ hexV s[k]) (hb : 0 ≤ hexV s[k + 1]) :
    readH s.data.toList = (readH (s.data.toList.drop (k + 2))).map ((acc ++ [UInt8.ofNat (16 * hexV s[k] + hexV s[k + 1]).toNat]) ++ ·) := by
  rw [hr, drop_two s k h]
  simp only [readH]
  rw [if_neg (by omega), Option.map_map]
  congr 1
  funext x
  simp
theorem readH_bad (s : ByteArray) (k : Nat) (acc : List UInt8) (h : k + 1 < s.size) (hr : readH s.data.toList = (readH (s.data.toList.drop k)).map (acc ++ ·)) (ha : hexV s[k] < 0 ∨ hexV s[k + 1] < 0) :
    readH s.data.toList = none := by
  rw [hr, drop_two s k h]
  simp only [readH]
  rw [if_pos ha]
  rfl
theorem readH_end (s : ByteArray) (k : Nat) (acc : List UInt8) (h : s.size ≤ k) (hr : readH s.data.toList = (readH (s.data.toList.drop k)).map (acc ++ ·)) : readH s.data.toList = some acc := by
  rw [hr, List.drop_eq_nil_of_le (by simpa using h)]
  simp [readH]
theorem read_none {l : List UInt8} (h : readH l = none) : readS l = ByteArray.empty ∧ readB l = false := by
  unfold readS readB; rw [h]; exact ⟨rfl, rfl⟩
theorem read_some {l acc : List UInt8} (h : readH l = some acc) : readS l = ⟨acc.toArray⟩ ∧ readB l = true := by
  unfold readS readB; rw [h]; exact ⟨rfl, rfl⟩
/-- a byte made of two digits -/
theorem byte_of (a b : Int) (ha : 0 ≤ a) (ha' : a < 16) (hb : 0 ≤ b) (hb' : b < 16) : IntKind.u8.wrap (16 * a + b) = ((UInt8.ofNat (16 * a + b).toNat).toNat : Int) := by
  rw [IntKind.wrap_u8]
  simp only [UInt8.toNat_ofNat']
  omega

set_option maxHeartbeats 800000 in
theorem ReadHexS_any (s : ByteArray) (w : World) (hs : s.size ≤ 1048576) :
    Calls Try.prog 27 #[.string s] w fun e w' => e = .returned (.tuple #[.string (readS s.data.toList), .bool (readB s.data.toList)]) ∧ Below w.heap.size w w' := by
  rcases Nat.mod_two_eq_zero_or_one s.size with hev | hod
  · have hb : (((s.size : Int) % 2) == 1) = false := by rw [beq_eq_false_iff_ne]; omega
    have Hev := Lib.hid hev; clear hev
    go_enter Try.func27, Try.ntmps27
    go_wp2_with fail
    go_loopw [4, 5] (fun v i wr => ∃ (k : Nat) (acc : List UInt8), 2 * k ≤ s.size ∧ i = .int .i64 ((2 * k : Nat) : Int) ∧ wr.ownsRow w.heap.size 5 1 v k (acc.map byV) ∧
        readH s.data.toList = (readH (s.data.toList.drop (2 * k))).map (acc ++ ·) ∧ Below w.heap.size w wr) (fun _ i _ => s.size - (intOf i).toNat)
    case atStart => exact ⟨0, [], by omega, rfl, World.ownsRow_made w #[] 0 (Nat.le_refl _) (by simp [maxLen]) rfl, by simp, (Below.refl _ _).alloc (Nat.le_refl _) _⟩
    case round =>
      obtain ⟨k, acc, hk, rfl, hown, hrd, hbl⟩ := hrel
      have Hrd := Lib.hid hrd; clear hrd
      have hkb : k ≤ 524288 := by omega
      generalize hm : 2 * k = m at *
      have Hm := Lib.hid hm; clear hm
      by_cases hlt : m < s.size
      · have hlt1 : m + 1 < s.size := by have := Hev.out; have := Hm.out; omega
        have hlt1' : (m : Int) + 1 < (s.size : Int) := by omega
        have bd1 := hexV_bd s[m]
        have bd2 := hexV_bd s[m + 1]
        have hlen : acc.length = k := by simpa using hown.1
        have Hlen := Lib.hid hlen; clear hlen
        by_cases ha : 0 ≤ hexV s[m] ∧ 0 ≤ hexV s[m + 1]
        · obtain ⟨ha1, ha2⟩ := ha
          obtain ⟨_, bd1'⟩ := bd1
          obtain ⟨_, bd2'⟩ := bd2
          have hw := byte_of _ _ ha1 bd1' ha2 bd2'
          have Hst := Lib.hid (readH_step s m acc hlt1 Hrd.out ha1 ha2)
          go_wp2_with fail
          refine (l02Digit_any s[m] _).mono ?_; rintro e w1 ⟨rfl, rfl⟩
          go_wp2_with fail
          refine (l02Digit_any s[m + 1] _).mono ?_; rintro e w1 ⟨rfl, rfl⟩
          go_wp2_with (at_builtin; refine wpList_apd 39 5 _ 1 1 Try.underlying39 infoB rfl (by omega) _ _ rfl rfl w.heap.size u4 k _ rfl hown #[_] 1 1 rfl rfl (by simp [Value.oneCell']) (by simp [maxLen]; omega) (by omega) hbl.size ?_; intro v' w1 hown1 hg1)
          have hb1 := below_apd hbl hown hg1 (Nat.le_refl _) hbl.size
          go_wp2_with fail
          go_roundw
          case rel => exact ⟨k + 1, acc ++ [UInt8.ofNat (16 * hexV s[m] + hexV s[m + 1]).toNat], by have := Hm.out; have := Hev.out; omega, by have := Hm.out; exact (by omega : (m : Int) + 2 = ((2 * (k + 1) : Nat) : Int)) ▸ rfl, by simpa [byV] using hown1, by rw [show 2 * (k + 1) = m + 2 by have := Hm.out; omega]; exact Hst.out, hb1⟩
          case measure => simp [intOf]; omega
        · have Hbad := Lib.hid (read_none (readH_bad s m acc hlt1 Hrd.out (by omega)))
          by_cases ha1 : 0 ≤ hexV s[m]
          · have ha2 : hexV s[m + 1] < 0 := by omega
            clear ha bd1 bd2
            go_wp2_with fail
            refine (l02Digit_any s[m] _).mono ?_; rintro e w1 ⟨rfl, rfl⟩
            go_wp2_with fail
            refine (l02Digit_any s[m + 1] _).mono ?_; rintro e w1 ⟨rfl, rfl⟩
            go_wp2_with fail
            go_ret2
            rw [Hbad.out.1, Hbad.out.2]
            exact ⟨rfl, hbl⟩
          · have ha2 : hexV s[m] < 0 := by omega
            clear ha bd1 bd2
            go_wp2_with fail
            refine (l02Digit_any s[m] _).mono ?_; rintro e w1 ⟨rfl, rfl⟩
            go_wp2_with fail
            refine (l02Digit_any s[m + 1] _).mono ?_; rintro e w1 ⟨rfl, rfl⟩
            go_wp2_with fail
            go_ret2
            rw [Hbad.out.1, Hbad.out.2]
            exact ⟨rfl, hbl⟩
      · have Hend := Lib.hid (readH_end s m acc (by omega) Hrd.out)
        have e1 := Lib.hid (read_some Hend.out)
        have hconv := run_conv_own (P := Try.prog) 39 9 5 Try.underlying39 Try.underlying5 Try.underlying9 _ _ _ _ hown
        go_wp2_with fail
        go_ret2
        rw [e1.out.1, e1.out.2]
        exact ⟨rfl, hbl⟩
  · have e1 := Lib.hid (read_none (readH_odd s.data.toList (by simpa using hod)))
    have hb : (((s.size : Int) % 2) == 1) = true := by rw [beq_iff_eq]; omega
    clear hod
    have hb0 := Below.refl w.heap.size w
    go_enter Try.func27, Try.ntmps27
    go_wp2_with fail
    go_ret2
    rw [e1.out.1, e1.out.2]
    exact ⟨rfl, hb0⟩

set_option maxHeartbeats 800000 in
theorem ReadHexI_any (s : ByteArray) (w : World) (hs : s.size ≤ 1048576) :
    Calls Try.prog 28 #[.string s] w fun e w' => e = .returned (.tuple #[.string (readS s.data.toList), .bool (readB s.data.toList)]) ∧ Below w.heap.size w w' := by
  rcases Nat.mod_two_eq_zero_or_one s.size with hev | hod
  · have hb : (((s.size : Int) % 2) != 0) = false := by simp; omega
    have Hev := Lib.hid hev; clear hev
    go_enter Try.func28, Try.ntmps28
    go_wp2_with fail
    go_loopw [4, 5] (fun v i wr => ∃ (k : Nat) (acc : List UInt8), 2 * k ≤ s.size ∧ i = .int .i64 ((2 * k : Nat) : Int) ∧ wr.ownsRow w.heap.size 5 1 v k (acc.map byV) ∧
        readH s.data.toList = (readH (s.data.toList.drop (2 * k))).map (acc ++ ·) ∧ Below w.heap.size w wr) (fun _ i _ => s.size - (intOf i).toNat)
    case atStart => exact ⟨0, [], by omega, rfl, World.ownsRow_made w #[] 0 (Nat.le_refl _) (by simp [maxLen]) rfl, by simp, (Below.refl _ _).alloc (Nat.le_refl _) _⟩
    case round =>
      obtain ⟨k, acc, hk, rfl, hown, hrd, hbl⟩ := hrel
      have Hrd := Lib.hid hrd; clear hrd
      have hkb : k ≤ 524288 := by omega
      generalize hm : 2 * k = m at *
      have Hm := Lib.hid hm; clear hm
      by_cases hlt : m < s.size
      · have hlt1 : m + 1 < s.size := by have := Hev.out; have := Hm.out; omega
        have hlt1' : (m : Int) + 1 < (s.size : Int) := by omega
        have bd1 := hexV_bd s[m]
        have bd2 := hexV_bd s[m + 1]
        have hlen : acc.length = k := by simpa using hown.1
        have Hlen := Lib.hid hlen; clear hlen
        by_cases ha : 0 ≤ hexV s[m] ∧ 0 ≤ hexV s[m + 1]
        · obtain ⟨ha1, ha2⟩ := ha
          obtain ⟨_, bd1'⟩ := bd1
          obtain ⟨_, bd2'⟩ := bd2
          have hw := byte_of _ _ ha1 bd1' ha2 bd2'
          have Hst := Lib.hid (readH_step s m acc hlt1 Hrd.out ha1 ha2)
          have hwr : IntKind.i64.wrap ((m : Int) + 1) = (m : Int) + 1 := IntWalk.i64_in _ (by omega)
          have hwr1 : 0 ≤ (m : Int) + 1 := by omega
          have hwr2 : ((m : Int) + 1).toNat = m + 1 := by omega
          go_wp2_with fail
          go_quiet ((go_at_call 49; exact Calls.quiet_of_same (hexDigit_any _ _)))
          clear hwr
          have hown := hown.drewN nq
          have hbl := below_drewN hbl nq
          generalize wr.drewN nq = wq at *
          go_wp2_with (at_builtin; refine wpList_apd 39 5 _ 1 1 Try.underlying39 infoB rfl (by omega) _ _ rfl rfl w.heap.size u4 k _ rfl hown #[_] 1 1 rfl rfl (by simp [Value.oneCell']) (by simp [maxLen]; omega) (by omega) hbl.size ?_; intro v' w1 hown1 hg1)
          have hb1 := below_apd hbl hown hg1 (Nat.le_refl _) hbl.size
          go_wp2_with fail
          go_roundw
          case rel => exact ⟨k + 1, acc ++ [UInt8.ofNat (16 * hexV s[m] + hexV s[m + 1]).toNat], by have := Hm.out; have := Hev.out; omega, by have := Hm.out; exact (by omega : (m : Int) + 2 = ((2 * (k + 1) : Nat) : Int)) ▸ rfl, by simpa [byV] using hown1, by rw [show 2 * (k + 1) = m + 2 by have := Hm.out; omega]; exact Hst.out, hb1⟩
          case measure => simp [intOf]; omega
        · have Hbad := Lib.hid (read_none (readH_bad s m acc hlt1 Hrd.out (by omega)))
          by_cases ha1 : 0 ≤ hexV s[m]
          · have ha2 : hexV s[m + 1] < 0 := by omega
            clear ha bd1 bd2
            have hwr : IntKind.i64.wrap ((m : Int) + 1) = (m : Int) + 1 := IntWalk.i64_in _ (by omega)
            have hwr1 : 0 ≤ (m : Int) + 1 := by omega
            have hwr2 : ((m : Int) + 1).toNat = m + 1 := by omega
            go_wp2_with fail
            go_quiet ((go_at_call 49; exact Calls.quiet_of_same (hexDigit_any _ _)))
            clear hwr
            have hown := hown.drewN nq
            have hbl := below_drewN hbl nq
            generalize wr.drewN nq = wq at *
            go_wp2_with fail
            go_ret2
            rw [Hbad.out.1, Hbad.out.2]
            exact ⟨rfl, hbl⟩
          · have ha2 : hexV s[m] < 0 := by omega
            clear ha bd1 bd2
            have hwr : IntKind.i64.wrap ((m : Int) + 1) = (m : Int) + 1 := IntWalk.i64_in _ (by omega)
            have hwr1 : 0 ≤ (m : Int) + 1 := by omega
            have hwr2 : ((m : Int) + 1).toNat = m + 1 := by omega
            go_wp2_with fail
            go_quiet ((go_at_call 49; exact Calls.quiet_of_same (hexDigit_any _ _)))
            clear hwr
            have hown := hown.drewN nq
            have hbl := below_drewN hbl nq
            generalize wr.drewN nq = wq at *
            go_wp2_with fail
            go_ret2
            rw [Hbad.out.1, Hbad.out.2]
            exact ⟨rfl, hbl⟩
      · have Hend := Lib.hid (readH_end s m acc (by omega) Hrd.out)
        have e1 := Lib.hid (read_some Hend.out)
        have hconv := run_conv_own (P := Try.prog) 39 9 5 Try.underlying39 Try.underlying5 Try.underlying9 _ _ _ _ hown
        go_wp2_with fail
        go_ret2
        rw [e1.out.1, e1.out.2]
        exact ⟨rfl, hbl⟩
  · have e1 := Lib.hid (read_none (readH_odd s.data.toList (by simpa using hod)))
    have hb : (((s.size : Int) % 2) != 0) = true := by rw [bne_iff_ne]; omega
    clear hod
    have hb0 := Below.refl w.heap.size w
    go_enter Try.func28, Try.ntmps28
    go_wp2_with fail
    go_ret2
    rw [e1.out.1, e1.out.2]
    exact ⟨rfl, hb0⟩

set_option maxHeartbeats 400000 in
theorem walkFnExactReadHex (s : ByteArray) (_ws : s.size ≤ maxLen) (w : World) :
    Calls Try.prog 9 #[.string s] w fun e w' => e = .returned (.bool true) ∧ Below w.heap.size w w' := by
  by_cases h : s.size ≤ 1048576
  · go_enter Try.func9, Try.ntmps9
    go_wp2_with fail
    refine (ReadHexS_any s _ h).mono ?_; rintro e w1 ⟨rfl, hb1⟩
    go_wp2_with fail
    refine (ReadHexI_any s _ h).mono ?_; rintro e w2 ⟨rfl, hb2⟩
    have hb := hb1.trans (hb2.mono hb1.size)
    clear hb1 hb2
    generalize readS s.data.toList = n at *
    generalize readB s.data.toList = q at *
    go_wp2_with fail
    go_ret
    exact ⟨rfl, hb⟩
  · have h' : 1048576 < s.size := by omega
    have hb0 := Below.refl w.heap.size w
    go_enter Try.func9, Try.ntmps9
    go_wp2_with fail
    go_ret
    exact ⟨rfl, hb0⟩

end Go.Proofs.Ythdlepejbikofaa
