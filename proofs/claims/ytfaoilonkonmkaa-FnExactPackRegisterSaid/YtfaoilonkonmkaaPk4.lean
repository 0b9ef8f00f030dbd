/- Packed registers, part 4: PackRegister on both sides. -/
import Derived.Test.YtfaoilonkonmkaaPk3
import Derived.Test.YtfaoilonkonmkaaLib2
namespace Go.Proofs.Ytfaoilonkonmkaa
open Go.RowKit Go.Joins

def packT (b : Int) (zs : List Int) : ByteArray := if okReg b zs = true then ⟨(sealB (82 :: bytesR b zs)).toArray⟩ else ⟨#[]⟩
def packE (b : Int) (zs : List Int) : Int := if okReg b zs = true then 0 else 1
theorem bys_ones (l : List UInt8) : ∀ u ∈ bys l, u.oneCell' = true := by
  intro u hu
  obtain ⟨x, _, rfl⟩ := List.mem_map.1 hu
  rfl
theorem bytesR_len (b : Int) (zs : List Int) (h : zs.length ≤ 16) : (bytesR b zs).length ≤ 18 := by
  have : ∀ n (l : List Int), l.length ≤ n → (nibs l).length ≤ n := by
    intro n
    induction n using Nat.strongRecOn with
    | _ n ih =>
      intro l hl
      match l, hl with
      | [], _ => simp [nibs]
      | [d], h => simpa [nibs] using h
      | d :: e :: l, h =>
        simp only [List.length_cons] at h
        have := ih (n - 2) (by omega) l (by omega)
        simp only [nibs, List.length_cons]; omega
  have := this 16 zs h
  simp only [bytesR, List.length_cons]; omega

set_option maxRecDepth 100000 in
set_option maxHeartbeats 1600000 in
theorem PackS_any (B : Nat) (b : Int) (v : Value) (zs : List Int) (w : World) (h : Rd w B v zs.length 1 (ints zs)) (hB : B ≤ w.heap.size) (hl : zs.length ≤ 1048576) :
    Calls Try.prog 20 #[.agg #[.int .i64 b, v]] w fun e w' => e = .returned (.tuple #[.string (packT b zs), .int .i64 (packE b zs)]) ∧ Below w.heap.size w w' := by
  have h' := h
  obtain ⟨_, A, c, rfl, _⟩ := h'
  have hba := (Below.refl w.heap.size w).alloc (Nat.le_refl _) (.cells #[.int .i64 b, .slice A zs.length c] 28)
  have Hba := Lib.hid hba
  have H := Lib.hid (h.below (hba.mono hB))
  have hnew := heap_alloc_new w (.cells #[.int .i64 b, .slice A zs.length c] 28)
  have hz0 : w.heap.size < (w.alloc (.cells #[.int .i64 b, .slice A zs.length c] 28)).heap.size := by simp
  obtain ⟨r0, r1, _, _⟩ := blk2 hnew
  have HO := Lib.hid (l02Ok_any B w.heap.size b _ zs _ r0 r1 H.out hl)
  clear hba h hnew
  generalize hw0 : w.alloc (.cells #[.int .i64 b, .slice A zs.length c] 28) = w0 at *
  have Hw0 := Lib.hid hw0; clear hw0
  cases hok : okReg b zs with
  | false =>
    have hf1 := Lib.hid (show packT b zs = ⟨#[]⟩ by unfold packT; rw [hok]; rfl)
    have hf2 := Lib.hid (show packE b zs = 1 by unfold packE; rw [hok]; rfl)
    rw [hok] at HO
    clear hok
    go_enter Try.func20, Try.ntmps20
    go_wp2_with fail
    rw [Hw0.out]
    refine HO.out.mono ?_; rintro e w1 ⟨rfl, n, rfl⟩
    go_wp2_with fail
    go_ret2
    rw [hf1.out, hf2.out]; exact ⟨rfl, below_drewN Hba.out _⟩
  | true =>
    have hln := bytesR_len b zs (okReg_parts hok).2.2.2.2.1
    have hf1 := Lib.hid (show packT b zs = ⟨(sealB (82 :: bytesR b zs)).toArray⟩ by unfold packT; rw [if_pos hok])
    have hf2 := Lib.hid (show packE b zs = 0 by unfold packE; rw [if_pos hok])
    have HOK := Lib.hid hok
    rw [hok] at HO
    clear hok
    go_enter Try.func20, Try.ntmps20
    go_wp2_with fail
    rw [Hw0.out]
    refine HO.out.mono ?_; rintro e w1 ⟨rfl, n, rfl⟩
    have ho1 := World.ownsRow_lit (base := w0.heap.size) (e := 5) (size := 1) (w0.drewN n) #[.int .u8 82] 1 (Nat.le_refl _) (by simp [maxLen]) rfl
    have ha1 := (Below.refl w0.heap.size (w0.drewN n)).alloc (Nat.le_refl _) (.cells #[.int .u8 82] 5)
    have hab := Lib.hid (below_undrewN ha1)
    obtain ⟨s0, s1⟩ := two_below hab.out hz0 ⟨r0, r1⟩
    have HD := Lib.hid (l27Digits_any B w0.heap.size w.heap.size [82] _ _ b _ zs _ ho1 ha1.size (by decide) s0 s1 hz0 (H.out.below (hab.out.mono (Nat.le_trans hB (Nat.le_of_lt hz0)))) (Nat.le_trans hB (Nat.le_of_lt hz0)) HOK.out)
    clear ho1 ha1 s0 s1
    go_wp2_with fail
    refine HD.out.mono ?_; rintro e w2 ⟨A2, c2, rfl, ho2, hb2⟩
    have hab2 := Lib.hid (hab.out.trans hb2)
    have HE := Lib.hid (l27Ended_any w0.heap.size _ A2 c2 w2 ho2 hab2.out.size (by simp; omega))
    clear ho2 hb2
    go_wp2_with fail
    refine HE.out.mono ?_; rintro e w3 ⟨rfl, hb3⟩
    go_wp2_with fail
    go_ret2
    rw [hf1.out, hf2.out]; exact ⟨rfl, Hba.out.trans ((hab2.out.trans hb3).mono (Nat.le_of_lt hz0))⟩

set_option maxRecDepth 100000 in
set_option maxHeartbeats 1600000 in
theorem PackI_any (B : Nat) (b : Int) (v : Value) (zs : List Int) (w : World) (h : Rd w B v zs.length 1 (ints zs)) (hB : B ≤ w.heap.size) (hl : zs.length ≤ 1048576) :
    Calls Try.prog 21 #[.agg #[.int .i64 b, v]] w fun e w' => e = .returned (.tuple #[.string (packT b zs), .int .i64 (packE b zs)]) ∧ Below w.heap.size w w' := by
  have h' := h
  obtain ⟨_, A, c, rfl, _⟩ := h'
  have hba := (Below.refl w.heap.size w).alloc (Nat.le_refl _) (.cells #[.int .i64 b, .slice A zs.length c] 28)
  have Hba := Lib.hid hba
  have H := Lib.hid (h.below (hba.mono hB))
  have hnew := heap_alloc_new w (.cells #[.int .i64 b, .slice A zs.length c] 28)
  have hz0 : w.heap.size < (w.alloc (.cells #[.int .i64 b, .slice A zs.length c] 28)).heap.size := by simp
  obtain ⟨r0, r1, _, _⟩ := blk2 hnew
  have HO := Lib.hid (ValidRegister_any B b _ zs _ H.out (Nat.le_trans hB (Nat.le_of_lt hz0)) hl)
  clear hba h hnew
  generalize hw0 : w.alloc (.cells #[.int .i64 b, .slice A zs.length c] 28) = w0 at *
  have Hw0 := Lib.hid hw0; clear hw0
  cases hok : okReg b zs with
  | false =>
    have hf1 := Lib.hid (show packT b zs = ⟨#[]⟩ by unfold packT; rw [hok]; rfl)
    have hf2 := Lib.hid (show packE b zs = 1 by unfold packE; rw [hok]; rfl)
    rw [hok] at HO
    clear hok
    go_enter Try.func21, Try.ntmps21
    go_wp2_with fail
    rw [Hw0.out]
    refine HO.out.mono ?_; rintro e w1 ⟨rfl, hb1⟩
    go_wp2_with fail
    go_ret2
    rw [hf1.out, hf2.out]; exact ⟨rfl, Hba.out.trans (hb1.mono (Nat.le_of_lt hz0))⟩
  | true =>
    have hln := bytesR_len b zs (okReg_parts hok).2.2.2.2.1
    have hf1 := Lib.hid (show packT b zs = ⟨(sealB (82 :: bytesR b zs)).toArray⟩ by unfold packT; rw [if_pos hok])
    have hf2 := Lib.hid (show packE b zs = 0 by unfold packE; rw [if_pos hok])
    have HOK := Lib.hid hok
    rw [hok] at HO
    clear hok
    go_enter Try.func21, Try.ntmps21
    go_wp2_with fail
    rw [Hw0.out]
    refine HO.out.mono ?_; rintro e w1 ⟨rfl, hb1⟩
    have ho1 := World.ownsRow_lit (base := w1.heap.size) (e := 5) (size := 1) w1 #[.int .u8 82] 1 (Nat.le_refl _) (by simp [maxLen]) rfl
    have ha1 := (Below.refl w1.heap.size w1).alloc (Nat.le_refl _) (.cells #[.int .u8 82] 5)
    have hab := Lib.hid (hb1.trans (ha1.mono hb1.size))
    have hzz := Nat.lt_of_lt_of_le hz0 hb1.size
    obtain ⟨s0, s1⟩ := two_below hb1 hz0 ⟨r0, r1⟩
    have HD := Lib.hid (bytes_any B b _ zs _ (H.out.below (hab.out.mono (Nat.le_trans hB (Nat.le_of_lt hz0)))) (Nat.le_trans hB (Nat.le_trans (Nat.le_of_lt hz0) hab.out.size)) HOK.out)
    have Ho1 := Lib.hid ho1
    have hzq := ha1.size
    clear ho1
    go_wp2_with fail
    refine HD.out.mono ?_; rintro e w2 ⟨A2, c2, rfl, ho2, hb2⟩
    have ho1' := own_below Ho1.out hb2
    have hab2 := ha1.trans (hb2.mono ha1.size)
    have Ho2 := Lib.hid ho2
    have hr2 := Rd.of_own ho2
    obtain ⟨_, A3, c3, hA3, hcc⟩ := hr2
    injection hA3 with e1 e2 e3
    subst e1 e3
    obtain ⟨b2, o2, rfl, _, hcell⟩ := hcc (by simp [bytesR])
    have Hcell := Lib.hid hcell
    have hb1' := Lib.hid hb1
    clear ho2 hb2 hcc hcell ha1 hb1
    go_wp2_with (at_builtin; refine wpList_apr 76 5 _ 1 1 Try.underlying76 infoB rfl (by omega) _ _ rfl rfl w1.heap.size (.slice (some ⟨w1.heap.size, 0, none⟩) 1 1) 1 _ rfl ho1' b2 o2 (bytesR b zs).length c2 (bys (bytesR b zs)) rfl (by simp [bys]) Hcell.out (bys_ones _) (by simp [maxLen]; omega) (by omega) hab2.size ?_; intro v' w7 hown7 hg7; obtain ⟨_, A7, c7, rfl, _⟩ := Rd.of_own hown7)
    have hlen : 1 + (bytesR b zs).length = ((82 : UInt8) :: bytesR b zs).length := by simp; omega
    rw [hlen] at hown7 ⊢
    have hown7' : w7.ownsRow w1.heap.size 5 1 (.slice A7 ((82 : UInt8) :: bytesR b zs).length c7) ((82 : UInt8) :: bytesR b zs).length (bys (82 :: bytesR b zs)) := hown7
    have Hb7 := Lib.hid (below_apd hab2 ho1' hg7 (Nat.le_refl _) hab2.size)
    have HE := Lib.hid (sealed_any w1.heap.size _ A7 c7 w7 hown7' Hb7.out.size (by simp; omega))
    clear hown7 hown7' hg7 ho1' hlen
    go_wp2_with fail
    refine HE.out.mono ?_; rintro e w3 ⟨rfl, hb3⟩
    go_wp2_with fail
    go_ret2
    rw [hf1.out, hf2.out]; exact ⟨rfl, Hba.out.trans ((hb1'.out.trans ((Hb7.out.trans hb3).mono hb1'.out.size)).mono (Nat.le_of_lt hz0))⟩
end Go.Proofs.Ytfaoilonkonmkaa
