/- The law FnMended: the walk. -/
import Derived.Test.YtdljlemgaefbpaaM9
namespace Go.Proofs.Ytdljlemgaefbpaa
open Go.RowKit Go.Joins

/-- a page in a block of its own -/
def PgIn (w : World) (g : Nat) (s : ByteArray) (a b : Int) (A : Option Addr) (n c : Nat) (f : Nat → Int) : Prop :=
  w.cell? ⟨g, 0, none⟩ = some (.string s) ∧ w.cell? ⟨g, 1, none⟩ = some (.int .i64 a) ∧ w.cell? ⟨g, 2, none⟩ = some (.int .i64 b) ∧ w.cell? ⟨g, 3, none⟩ = some (.slice A n c) ∧ g < w.heap.size ∧ Rd w w.heap.size (.slice A n c) n 1 (tab n f)
theorem PgIn.below {w w' : World} {g n c : Nat} {s : ByteArray} {a b : Int} {A : Option Addr} {f : Nat → Int} (h : PgIn w g s a b A n c f) (hb : Below w.heap.size w w') : PgIn w' g s a b A n c f :=
  ⟨(hb.cell (p := ⟨g, 0, none⟩) h.2.2.2.2.1).trans h.1, (hb.cell (p := ⟨g, 1, none⟩) h.2.2.2.2.1).trans h.2.1, (hb.cell (p := ⟨g, 2, none⟩) h.2.2.2.2.1).trans h.2.2.1, (hb.cell (p := ⟨g, 3, none⟩) h.2.2.2.2.1).trans h.2.2.2.1, Nat.lt_of_lt_of_le h.2.2.2.2.1 hb.size, rdN h.2.2.2.2.2 hb⟩
theorem PgIn.new {w : World} {n c : Nat} {s : ByteArray} {a b : Int} {A : Option Addr} {f : Nat → Int} (h : Rd w w.heap.size (.slice A n c) n 1 (tab n f)) : PgIn (w.alloc (.cells #[.string s, .int .i64 a, .int .i64 b, .slice A n c] 49)) w.heap.size s a b A n c f := by
  obtain ⟨f0, f1, f2, f3, _⟩ := blk4 (heap_alloc_new w (.cells #[.string s, .int .i64 a, .int .i64 b, .slice A n c] 49))
  exact ⟨f0, f1, f2, f3, by simp, rdN h ((Below.refl _ _).alloc (Nat.le_refl _) _)⟩
theorem pg_same {code : Int} {s s1 s2 : ByteArray} {a a1 a2 b b1 b2 : Int} {m k1 k2 : Nat} {g g1 g2 : Nat → Int}
    (h1 : code = 0 → s1 = s ∧ a1 = a ∧ b1 = b ∧ k1 = m ∧ g1 = g) (h2 : code ≠ 0 → s1 = ⟨#[]⟩ ∧ a1 = 0 ∧ b1 = 0 ∧ k1 = 0)
    (h3 : code = 0 → s2 = s ∧ a2 = a ∧ b2 = b ∧ k2 = m ∧ g2 = g) (h4 : code ≠ 0 → s2 = ⟨#[]⟩ ∧ a2 = 0 ∧ b2 = 0 ∧ k2 = 0) : s2 = s1 ∧ a2 = a1 ∧ b2 = b1 ∧ k2 = k1 ∧ tab k2 g2 = tab k1 g1 := by
  by_cases e : code = 0
  · obtain ⟨x1, x2, x3, x4, x5⟩ := h1 e
    obtain ⟨y1, y2, y3, y4, y5⟩ := h3 e
    rw [x1, x2, x3, x4, x5, y1, y2, y3, y4, y5]
    exact ⟨rfl, rfl, rfl, rfl, rfl⟩
  · obtain ⟨x1, x2, x3, x4⟩ := h2 e
    obtain ⟨y1, y2, y3, y4⟩ := h4 e
    rw [x1, x2, x3, x4, y1, y2, y3, y4]
    exact ⟨rfl, rfl, rfl, rfl, rfl⟩
theorem odd_same {code : Int} {l l1 l2 : List Int} (h1 : code = 0 → l1 = l) (h2 : code ≠ 0 → l1 = []) (h3 : code = 0 → l2 = l) (h4 : code ≠ 0 → l2 = []) : l2 = l1 := by
  by_cases e : code = 0
  · rw [h1 e, h3 e]
  · rw [h2 e, h4 e]
theorem nm_rd {w : World} {B n c : Nat} {A : Option Addr} {l : List Int} (h : Rd w B (.slice A n c) n 1 (nmV l)) : l.length = n := by
  have := h.1
  unfold nmV at this
  rw [List.length_map, Nat.mul_one] at this
  exact this
theorem Rd.tl {w : World} {B g n c c2 : Nat} {x : Int} {l : List Int} (h : Rd w B (.slice (some ⟨g, 0, none⟩) (n + 1) c) (n + 1) 1 (nmV (x :: l))) : Rd w B (.slice (some ⟨g, 1, none⟩) n c2) n 1 (nmV l) := by
  obtain ⟨h1, A, c', hv, hc⟩ := h
  injection hv with hA _ _
  subst hA
  obtain ⟨b, off, hb, hlt, hcc⟩ := hc (by omega)
  injection hb with hb
  injection hb with e1 e2
  subst e1
  subst e2
  refine ⟨by unfold nmV at *; simp at h1 ⊢; omega, _, _, rfl, fun _ => ⟨g, 1, rfl, hlt, fun i u hu => ?_⟩⟩
  have := hcc (i + 1) u (by unfold nmV at *; simpa using hu)
  rw [Nat.zero_add, Nat.add_comm] at this
  exact this
theorem mC_odd {s : List UInt8} {a b : Int} {m k o : Nat} {f : Nat → Int} (hg : gC s a b m f (o : Int) = 0) (hk : o + k < m) : mC s a b m f ((o + k : Nat) : Int) (o : Int) = if isV (due f o (o + k)) then 0 else 5 := by
  unfold mC
  rw [if_pos hg, if_pos (inB_iff.2 (by omega)), Int.toNat_natCast, Int.toNat_natCast]
theorem gC_put {s : List UInt8} {a b : Int} {m r : Nat} {f : Nat → Int} {o y : Int} (hg : gC s a b m f o = 0) (hy : isV y = true) : gC s a b m (put f r y) o = 0 := by
  obtain ⟨h1, h2, h3⟩ := gC_ok hg
  have h4 : pgOk s a b m (put f r y) = true := by
    unfold pgOk at h1 ⊢
    simp only [Bool.and_eq_true] at h1 ⊢
    refine ⟨h1.1, List.all_eq_true.2 fun i hi => ?_⟩
    have := List.all_eq_true.1 h1.2 i hi
    show isV (if i = r then y else f i) = true
    split
    · exact hy
    · exact this
  unfold gC
  rw [h4, inB_iff.2 h2, if_pos rfl, if_pos rfl, if_neg (by omega)]
theorem mC_len {s : List UInt8} {a b : Int} {m : Nat} {f : Nat → Int} {row o : Int} (h : mC s a b m f row o = 0) : m ≤ 60 ∧ (∀ i, i < m → ((i : Int) = row ↔ i = row.toNat)) := by
  unfold mC at h
  split at h
  · rename_i h1
    split at h
    · rename_i h2
      have h3 := (pgOk_out (gC_ok h1).1).2.1
      have h4 := inB_iff.1 h2
      exact ⟨h3, fun i _ => by omega⟩
    · cases h
  · rename_i h1
    exact absurd h h1

set_option maxRecDepth 100000 in
set_option maxHeartbeats 6400000 in
theorem walkFnMended {W : World} (v1 : Value) (bs : List UInt8) (h1 : Rd W W.heap.size v1 bs.length 1 (bs.map byV)) (_m1 : bs.length ≤ maxLen) :
    Calls Try.prog 6 #[v1] W fun e w' => e = .returned (.bool true) ∧ Below W.heap.size W w' := by
  have HL := Lib.hid (f6big_c _ _ _ _ W h1)
  have HA := Lib.hid (DrawMendRow_c W.heap.size v1 bs W h1 (Nat.le_refl _))
  have HA2 := Lib.hid (fun wx hx hz => DrawOddRows_c W.heap.size v1 bs wx hx hz)
  have H1 := Lib.hid h1
  unfold RetDP3 at HA
  unfold RetDP2 at HA2
  have hb0 := Lib.hid (Below.refl W.heap.size W)
  obtain ⟨A1, c1, rfl⟩ := rd_sl h1
  clear h1
  by_cases hlong : decide (4096 < bs.length) = true
  · rw [hlong] at HL
    go_enter Try.func6, Try.ntmps6
    go_wp2_with fail
    refine (HL.out).mono ?_; rintro e w1 ⟨rfl, rfl⟩
    go_wp2_with fail
    go_ret
    exact ⟨rfl, hb0.out⟩
  · have hlong' : decide (4096 < bs.length) = false := by simpa using hlong
    rw [hlong'] at HL
    clear hlong hlong'
    go_enter Try.func6, Try.ntmps6
    go_wp2_with fail
    refine (HL.out).mono ?_; rintro e w1 ⟨rfl, rfl⟩
    go_wp2_with fail
    refine (HA.out).mono ?_; rintro e w1 ⟨s, a, b, v, n, f, row, o, rfl, hss, hn61, ho1, hb1⟩
    obtain ⟨A, c, rfl⟩ := own_sl ho1
    have P3 := Lib.hid (PgIn.new (s := s) (a := a) (b := b) (Rd.of_own ho1))
    have Hb1 := Lib.hid (hb1.alloc hb1.size (.cells #[.string s, .int .i64 a, .int .i64 b, .slice A n c] 49))
    clear ho1 hb1 HA
    go_upto_region 4 with (fail)
    generalize w1.heap.size = g3 at *
    generalize w1.alloc (.cells #[.string s, .int .i64 a, .int .i64 b, .slice A n c] 49) = w2 at *
    obtain ⟨p0, p1, p2, p3, _, r3⟩ := P3.out
    have HM1 := Lib.hid (MendRowI_c w2.heap.size s a b A n c f row o w2 (by omega) r3 (Nat.le_refl _) (by omega))
    unfold RetPg at HM1
    clear r3
    go_wp2_with fail
    refine (HM1.out).mono ?_; rintro e w3 ⟨s6, a6, b6, v6, k6, f6, rfl, hx1, hx2, ho3, hb3⟩
    obtain ⟨A6, c6, rfl⟩ := own_sl ho3
    have P6 := Lib.hid (PgIn.new (s := s6) (a := a6) (b := b6) (Rd.of_own ho3))
    have hal := Lib.hid ((Below.refl w3.heap.size w3).alloc (Nat.le_refl _) (.cells #[.string s6, .int .i64 a6, .int .i64 b6, .slice A6 k6 c6] 49))
    have P3 := Lib.hid ((P3.out.below hb3).below hal.out)
    have Hb3 := Lib.hid ((Hb1.out.trans (hb3.mono Hb1.out.size)).trans (hal.out.mono (Nat.le_trans Hb1.out.size hb3.size)))
    have Hx1 := Lib.hid hx1
    have Hx2 := Lib.hid hx2
    clear ho3 hb3 HM1 Hb1 hal hx1 hx2 p0 p1 p2 p3
    go_upto_region 5 with (fail)
    generalize w3.heap.size = g6 at *
    generalize w3.alloc (.cells #[.string s6, .int .i64 a6, .int .i64 b6, .slice A6 k6 c6] 49) = w4 at *
    obtain ⟨p0, p1, p2, p3, _, r3⟩ := P3.out
    have HM1 := Lib.hid (MendRowS_c w4.heap.size s a b A n c f row o w4 (by omega) r3 (Nat.le_refl _) (by omega))
    unfold RetPg at HM1
    clear r3
    go_wp2_with fail
    refine (HM1.out).mono ?_; rintro e w5 ⟨s8, a8, b8, v8, k8, f8, rfl, hx3, hx4, ho5, hb5⟩
    obtain ⟨rfl, rfl, rfl, rfl, hft⟩ := pg_same Hx1.out Hx2.out hx3 hx4
    rw [hft] at ho5
    obtain ⟨A8, c8, rfl⟩ := own_sl ho5
    have P8 := Lib.hid (PgIn.new (s := s8) (a := a8) (b := b8) (Rd.of_own ho5))
    have hal := Lib.hid ((Below.refl w5.heap.size w5).alloc (Nat.le_refl _) (.cells #[.string s8, .int .i64 a8, .int .i64 b8, .slice A8 k8 c8] 49))
    have P3 := Lib.hid ((P3.out.below hb5).below hal.out)
    have P6 := Lib.hid ((P6.out.below hb5).below hal.out)
    have Hb5 := Lib.hid ((Hb3.out.trans (hb5.mono Hb3.out.size)).trans (hal.out.mono (Nat.le_trans Hb3.out.size hb5.size)))
    have hk61 : k8 ≤ 61 := by
      by_cases e : mC s.data.toList a b n f row o = 0
      · have := (Hx1.out e).2.2.2.1; omega
      · have := (Hx2.out e).2.2.2; omega
    clear ho5 hb5 HM1 Hb3 hal hx3 hx4 p0 p1 p2 p3 hft
    go_upto_region 6 with (fail)
    generalize w5.heap.size = g8 at *
    generalize w5.alloc (.cells #[.string s8, .int .i64 a8, .int .i64 b8, .slice A8 k8 c8] 49) = w6 at *
    have HAx := Lib.hid (HA2.out w6 (H1.out.below Hb5.out) Hb5.out.size)
    clear HA2
    have Hcode := Lib.hid (fun h => mC_len (s := s.data.toList) (a := a) (b := b) (m := n) (f := f) (row := row) (o := o) h)
    generalize hcm : mC s.data.toList a b n f row o = cm at *
    clear hcm
    go_wp2_with fail
    refine (HAx.out).mono ?_; rintro e w7 ⟨s2, a2, b2, v2, n2, f2, o2, rfl, hss2, hn2, ho7, hb7⟩
    obtain ⟨A2, c2, rfl⟩ := own_sl ho7
    have P10 := Lib.hid (PgIn.new (s := s2) (a := a2) (b := b2) (Rd.of_own ho7))
    have hal := Lib.hid ((Below.refl w7.heap.size w7).alloc (Nat.le_refl _) (.cells #[.string s2, .int .i64 a2, .int .i64 b2, .slice A2 n2 c2] 49))
    have P3 := Lib.hid ((P3.out.below hb7).below hal.out)
    have P6 := Lib.hid ((P6.out.below hb7).below hal.out)
    have P8 := Lib.hid ((P8.out.below hb7).below hal.out)
    have Hb7 := Lib.hid ((Hb5.out.trans (hb7.mono Hb5.out.size)).trans (hal.out.mono (Nat.le_trans Hb5.out.size hb7.size)))
    clear ho7 hb7 HAx Hb5 hal
    go_upto_region 7 with (fail)
    generalize w7.heap.size = g10 at *
    generalize w7.alloc (.cells #[.string s2, .int .i64 a2, .int .i64 b2, .slice A2 n2 c2] 49) = w8 at *
    obtain ⟨p0, p1, p2, p3, _, r10⟩ := P10.out
    have HO1 := Lib.hid (OddRowsI_c w8.heap.size s2 a2 b2 A2 n2 c2 f2 o2 w8 (by omega) r10 (Nat.le_refl _) (by omega))
    unfold RetOdd at HO1
    clear r10
    go_wp2_with fail
    refine (HO1.out).mono ?_; rintro e w9 ⟨v12, l12, rfl, hl1, hl2, ho9, hb9⟩
    obtain ⟨A12, c12, rfl⟩ := own_sl ho9
    have R12 := Lib.hid (Rd.of_own ho9)
    have P3 := Lib.hid (P3.out.below hb9)
    have P6 := Lib.hid (P6.out.below hb9)
    have P8 := Lib.hid (P8.out.below hb9)
    have P10 := Lib.hid (P10.out.below hb9)
    have Hb9 := Lib.hid (Hb7.out.trans (hb9.mono Hb7.out.size))
    have Hl1 := Lib.hid hl1
    have Hl2 := Lib.hid hl2
    clear ho9 hb9 HO1 Hb7 hl1 hl2 p0 p1 p2 p3
    obtain ⟨p0, p1, p2, p3, _, r10⟩ := P10.out
    have HO1 := Lib.hid (OddRowsS_c w9.heap.size s2 a2 b2 A2 n2 c2 f2 o2 w9 (by omega) r10 (Nat.le_refl _) (by omega))
    unfold RetOdd at HO1
    clear r10
    go_wp2_with fail
    refine (HO1.out).mono ?_; rintro e wA ⟨v14, l14, rfl, hl3, hl4, hoA, hbA⟩
    obtain rfl := odd_same Hl1.out Hl2.out hl3 hl4
    have R12 := Lib.hid (rdN R12.out hbA)
    have P3 := Lib.hid (P3.out.below hbA)
    have P6 := Lib.hid (P6.out.below hbA)
    have P8 := Lib.hid (P8.out.below hbA)
    have P10 := Lib.hid (P10.out.below hbA)
    have HbA := Lib.hid (Hb9.out.trans (hbA.mono Hb9.out.size))
    have HoA := Lib.hid hoA
    have R14 := Lib.hid (Rd.of_own hoA)
    have hl61 : l14.length ≤ 61 := by
      by_cases e : gC s2.data.toList a2 b2 n2 f2 o2 = 0
      · rw [hl3 e]
        have := oL_len o2.toNat f2 (n2 - o2.toNat)
        omega
      · rw [hl4 e]; exact Nat.zero_le _
    clear hoA hbA HO1 Hb9 hl3 hl4 p0 p1 p2 p3 Hl2
    obtain ⟨A14, c14, rfl⟩ := rd_sl R14.out
    obtain ⟨q0, q1, q2, q3, _, r6⟩ := P6.out
    obtain ⟨t0, t1, t2, t3, _, r8⟩ := P8.out
    have HS := Lib.hid (SamePage_c s8 a8 b8 _ _ k8 f6 wA r6 r8 (by omega))
    clear r6 r8
    go_wp2_with fail
    refine (HS.out).mono ?_; rintro e wB ⟨rfl, hbB⟩
    have R12 := Lib.hid (rdN R12.out hbB)
    have R14 := Lib.hid (rdN R14.out hbB)
    have P3 := Lib.hid (P3.out.below hbB)
    have P6 := Lib.hid (P6.out.below hbB)
    have P10 := Lib.hid (P10.out.below hbB)
    have HbB := Lib.hid (HbA.out.trans (hbB.mono HbA.out.size))
    have HF := Lib.hid (f6ints_same _ _ _ _ l14.length _ _ wB (by rw [← nmV_tab]; exact R12.out) (by rw [← nmV_tab]; exact R14.out) (by omega) (fun _ _ => rfl))
    clear hbB HS HbA P8 q0 q1 q2 q3 t0 t1 t2 t3
    go_wp2_with fail
    refine (HF.out).mono ?_; rintro e wC ⟨rfl, dC, hdC⟩
    have hbC : Below wB.heap.size wB wC := by rw [hdC]; exact below_drewN (Below.refl _ _) dC
    have R14 := Lib.hid (rdN R14.out hbC)
    have P3 := Lib.hid (P3.out.below hbC)
    have P6 := Lib.hid (P6.out.below hbC)
    have P10 := Lib.hid (P10.out.below hbC)
    have HbC := Lib.hid (HbB.out.trans (hbC.mono HbB.out.size))
    clear hbC hdC HbB HF R12
    by_cases hg : gC s2.data.toList a2 b2 n2 f2 o2 = 0
    · cases l14 with
      | nil =>
        rw [show ([] : List Int).length = 0 from rfl] at *
        rw [hg]
        by_cases hcz : cm = 0
        · obtain ⟨rfl, rfl, rfl, rfl, hf6⟩ := Hx1.out hcz
          subst hcz
          obtain ⟨hn60, hrow⟩ := Hcode.out rfl
          have Hrow := Lib.hid hrow
          have Hf6 := Lib.hid hf6
          clear hf6 hrow
          go_wp2_with fail
          go_loopw [21] (fun i wr => ∃ k : Nat, k ≤ k8 ∧ i = .int .i64 (k : Int) ∧ Below wC.heap.size wC wr) (fun i _ => k8 - (intOf i).toNat)
          case atStart => exact ⟨0, Nat.zero_le _, rfl, Below.refl _ _⟩
          case round =>
            obtain ⟨k, hk, rfl, hbr⟩ := hrel
            have Q3 := Lib.hid (P3.out.below hbr)
            have Q6 := Lib.hid (P6.out.below hbr)
            obtain ⟨_, _, _, u3, _, ru3⟩ := Q3.out
            obtain ⟨_, _, _, u6, _, ru6⟩ := Q6.out
            have Hbr := Lib.hid hbr
            clear hbr
            by_cases hlt : k < k8
            · obtain ⟨b1, o1, hA, _, hcc⟩ := rdF_all ru3 (by omega)
              obtain ⟨b2, o2, hA', _, hcc'⟩ := rdF_all ru6 (by omega)
              subst hA
              subst hA'
              have x3 := hcc k hlt
              have x6 := hcc' k hlt
              have hlt' : (k : Int) < (k8 : Int) := by omega
              have hr := Hrow.out k hlt
              clear hcc hcc' ru3 ru6
              by_cases hkr : (k : Int) = row
              · have d1 : ((k : Int) != row) = false := by simp [hkr]
                clear hr hkr
                go_wp2_with fail
                go_quiet (fail)
                go_wp2_with fail
                go_roundw
                case rel => exact ⟨k + 1, by omega, by go_num, below_drewN Hbr.out _⟩
                case measure => first | (simp [intOf]; done) | (simp [intOf]; omega)
              · have d1 : ((k : Int) != row) = true := by simp [hkr]
                have hne : ¬ k = row.toNat := fun e => hkr (hr.2 e)
                have e6 : f6 k = f k := by
                  rw [Hf6.out]
                  show (if k = row.toNat then _ else f k) = f k
                  rw [if_neg hne]
                rw [e6] at x6
                clear hr hkr hne e6
                generalize f k = z at *
                go_wp2_with fail
                go_quiet (fail)
                go_wp2_with fail
                go_roundw
                case rel => exact ⟨k + 1, by omega, by go_num, below_drewN Hbr.out _⟩
                case measure => first | (simp [intOf]; done) | (simp [intOf]; omega)
            · have hge : (k8 : Int) ≤ (k : Int) := by omega
              have Hbz := Lib.hid (HbC.out.trans (Hbr.out.mono HbC.out.size))
              clear ru3 ru6
              go_wp2_with fail
              go_ret
              exact ⟨rfl, Hbz.out⟩
        · have hcz' : (cm != 0) = true := by simp [hcz]
          go_wp2_with fail
          go_ret
          exact ⟨rfl, HbC.out⟩
      | cons x rest =>
        obtain ⟨hpg, ⟨ho1, ho8⟩, hmo⟩ := gC_ok hg
        obtain ⟨ok, rfl⟩ : ∃ ok : Nat, o2 = (ok : Int) := ⟨o2.toNat, by omega⟩
        have hlx := Hl1.out hg
        rw [Int.toNat_natCast] at hlx
        obtain ⟨j, hj, rfl, hrest⟩ := mended hlx.symm
        have Hg := Lib.hid hg
        have Hmc := Lib.hid (mC_odd (s := s2.data.toList) (a := a2) (b := b2) (m := n2) (k := j) (o := ok) (f := f2) hg (by omega))
        have Hrest := Lib.hid hrest
        obtain ⟨g14, rfl⟩ : ∃ g14, A14 = some ⟨g14, 0, none⟩ := by
          obtain ⟨g, cap, hv, _, _⟩ := own_posC HoA.out (show 0 < (((ok + j : Nat) : Int) :: rest).length by simp)
          injection hv with h1 h2 h3
          exact ⟨g, h1⟩
        have hcap : (((ok + j : Nat) : Int) :: rest).length ≤ c14 := by
          obtain ⟨g, cap, hv, hle, _⟩ := own_posC HoA.out (show 0 < (((ok + j : Nat) : Int) :: rest).length by simp)
          injection hv with h1 h2 h3
          rw [h3]; exact hle
        have x14 : wC.cell? ⟨g14, 0, none⟩ = some (.int .i64 ((ok + j : Nat) : Int)) := by
          have := R14.out
          rw [nmV_tab] at this
          obtain ⟨b1, o1, hA, _, hcc⟩ := rdF_all this (by simp)
          injection hA with hA
          injection hA with e1 e2
          subst e1
          subst e2
          exact hcc 0 (by simp)
        rw [hg]
        rw [List.length_cons] at *
        obtain ⟨p0, p1, p2, p3, _, r10⟩ := P10.out
        have HM1 := Lib.hid (fun wx hx hz => MendRowI_c wC.heap.size s2 a2 b2 A2 n2 c2 f2 ((ok + j : Nat) : Int) (ok : Int) wx (by omega) (r10.below hx) hz (by omega))
        have HM1 := Lib.hid (HM1.out wC (Below.refl _ _) (Nat.le_refl _))
        unfold RetPg at HM1
        rw [Hmc.out] at HM1
        rw [Int.toNat_natCast, Int.toNat_natCast] at HM1
        have hlen1 : (0 : Int) < (rest.length : Int) + 1 := by omega
        have HoddB := Lib.hid (fun wx A5 c5 hx => OddRowsI_c wx.heap.size s2 a2 b2 A5 n2 c5 (put f2 (ok + j) (due f2 ok (ok + j))) (ok : Int) wx (by omega) hx (Nat.le_refl _) (by omega))
        unfold RetOdd at HoddB
        have HgP := Lib.hid (fun h => gC_put (s := s2.data.toList) (a := a2) (b := b2) (m := n2) (r := ok + j) (f := f2) (o := (ok : Int)) (y := due f2 ok (ok + j)) hg h)
        clear r10 hlx hrest hpg hg Hmc Hg Hl1
        cases hiv : isV (due f2 ok (ok + j)) with
        | false =>
          rw [hiv] at HM1
          simp only [Bool.false_eq_true, if_false] at HM1
          clear hiv
          go_wp2_with fail
          refine (HM1.out).mono ?_; rintro e wD ⟨s17, a17, b17, v17, k17, f17, rfl, hz1, hz2, hoD, hbD⟩
          obtain ⟨A17, c17, rfl⟩ := own_sl hoD
          have P17 := Lib.hid (PgIn.new (s := s17) (a := a17) (b := b17) (Rd.of_own hoD))
          have hal := Lib.hid ((Below.refl wD.heap.size wD).alloc (Nat.le_refl _) (.cells #[.string s17, .int .i64 a17, .int .i64 b17, .slice A17 k17 c17] 49))
          have P3 := Lib.hid ((P3.out.below hbD).below hal.out)
          have P6 := Lib.hid ((P6.out.below hbD).below hal.out)
          have R14 := Lib.hid (rdN (rdN R14.out hbD) hal.out)
          have HbE := Lib.hid ((HbC.out.trans (hbD.mono HbC.out.size)).trans (hal.out.mono (Nat.le_trans HbC.out.size hbD.size)))
          have Hz1 := Lib.hid hz1
          clear hoD hbD HM1 hal hz1 hz2 p0 p1 p2 p3 x14
          go_upto_region 14 with (fail)
          generalize wD.heap.size = g17 at *
          generalize wD.alloc (.cells #[.string s17, .int .i64 a17, .int .i64 b17, .slice A17 k17 c17] 49) = wE at *
          by_cases hcz : cm = 0
          · obtain ⟨rfl, rfl, rfl, rfl, hf6⟩ := Hx1.out hcz
            subst hcz
            obtain ⟨hn60, hrow⟩ := Hcode.out rfl
            have Hrow := Lib.hid hrow
            have Hf6 := Lib.hid hf6
            clear hf6 hrow
            go_wp2_with fail
            go_loopw [21] (fun i wr => ∃ k : Nat, k ≤ k8 ∧ i = .int .i64 (k : Int) ∧ Below wE.heap.size wE wr) (fun i _ => k8 - (intOf i).toNat)
            case atStart => exact ⟨0, Nat.zero_le _, rfl, Below.refl _ _⟩
            case round =>
              obtain ⟨k, hk, rfl, hbr⟩ := hrel
              have Q3 := Lib.hid (P3.out.below hbr)
              have Q6 := Lib.hid (P6.out.below hbr)
              obtain ⟨_, _, _, u3, _, ru3⟩ := Q3.out
              obtain ⟨_, _, _, u6, _, ru6⟩ := Q6.out
              have Hbr := Lib.hid hbr
              clear hbr
              by_cases hlt : k < k8
              · obtain ⟨b1, o1, hA, _, hcc⟩ := rdF_all ru3 (by omega)
                obtain ⟨b2, o2, hA', _, hcc'⟩ := rdF_all ru6 (by omega)
                subst hA
                subst hA'
                have x3 := hcc k hlt
                have x6 := hcc' k hlt
                have hlt' : (k : Int) < (k8 : Int) := by omega
                have hr := Hrow.out k hlt
                clear hcc hcc' ru3 ru6
                by_cases hkr : (k : Int) = row
                · have d1 : ((k : Int) != row) = false := by simp [hkr]
                  clear hr hkr
                  go_wp2_with fail
                  go_quiet (fail)
                  go_wp2_with fail
                  go_roundw
                  case rel => exact ⟨k + 1, by omega, by go_num, below_drewN Hbr.out _⟩
                  case measure => first | (simp [intOf]; done) | (simp [intOf]; omega)
                · have d1 : ((k : Int) != row) = true := by simp [hkr]
                  have hne : ¬ k = row.toNat := fun e => hkr (hr.2 e)
                  have e6 : f6 k = f k := by
                    rw [Hf6.out]
                    show (if k = row.toNat then _ else f k) = f k
                    rw [if_neg hne]
                  rw [e6] at x6
                  clear hr hkr hne e6
                  generalize f k = z at *
                  go_wp2_with fail
                  go_quiet (fail)
                  go_wp2_with fail
                  go_roundw
                  case rel => exact ⟨k + 1, by omega, by go_num, below_drewN Hbr.out _⟩
                  case measure => first | (simp [intOf]; done) | (simp [intOf]; omega)
              · have hge : (k8 : Int) ≤ (k : Int) := by omega
                have Hbz := Lib.hid (HbE.out.trans (Hbr.out.mono HbE.out.size))
                clear ru3 ru6
                go_wp2_with fail
                go_ret
                exact ⟨rfl, Hbz.out⟩
          · have hcz' : (cm != 0) = true := by simp [hcz]
            go_wp2_with fail
            go_ret
            exact ⟨rfl, HbE.out⟩
        | true =>
          rw [hiv] at HM1
          simp only [if_true] at HM1
          have Hrest := Lib.hid (Hrest.out hiv)
          have HgP := Lib.hid (HgP.out hiv)
          clear hiv
          go_wp2_with fail
          refine (HM1.out).mono ?_; rintro e wD ⟨s17, a17, b17, v17, k17, f17, rfl, hz1, hz2, hoD, hbD⟩
          obtain ⟨A17, c17, rfl⟩ := own_sl hoD
          have P17 := Lib.hid (PgIn.new (s := s17) (a := a17) (b := b17) (Rd.of_own hoD))
          have hal := Lib.hid ((Below.refl wD.heap.size wD).alloc (Nat.le_refl _) (.cells #[.string s17, .int .i64 a17, .int .i64 b17, .slice A17 k17 c17] 49))
          have P3 := Lib.hid ((P3.out.below hbD).below hal.out)
          have P6 := Lib.hid ((P6.out.below hbD).below hal.out)
          have R14 := Lib.hid (rdN (rdN R14.out hbD) hal.out)
          have HbE := Lib.hid ((HbC.out.trans (hbD.mono HbC.out.size)).trans (hal.out.mono (Nat.le_trans HbC.out.size hbD.size)))
          have Hz1 := Lib.hid hz1
          clear hoD hbD HM1 hal hz1 hz2 p0 p1 p2 p3 x14
          go_upto_region 14 with (fail)
          generalize wD.heap.size = g17 at *
          generalize wD.alloc (.cells #[.string s17, .int .i64 a17, .int .i64 b17, .slice A17 k17 c17] 49) = wE at *
          obtain ⟨rfl, rfl, rfl, rfl, rfl⟩ := Hz1.out (by trivial)
          obtain ⟨p0, p1, p2, p3, _, r17⟩ := P17.out
          have HB := Lib.hid (HoddB.out wE A17 c17 r17)
          rw [HgP.out, Int.toNat_natCast] at HB
          have Hrl := Hrest.out
          rw [Hrl] at HB
          have Hrl := Lib.hid Hrl
          clear r17 HoddB HgP Hrest
          go_wp2_with fail
          refine (HB.out).mono ?_; rintro e wF ⟨v19, l19, rfl, hm1, _, hoF, hbF⟩
          have hm1 := hm1 (by trivial)
          subst hm1
          obtain ⟨A19, c19, rfl⟩ := own_sl hoF
          have R19 := Lib.hid (Rd.of_own hoF)
          have P3 := Lib.hid (P3.out.below hbF)
          have P6 := Lib.hid (P6.out.below hbF)
          have R14 := Lib.hid (rdN R14.out hbF)
          have HbF := Lib.hid (HbE.out.trans (hbF.mono HbE.out.size))
          clear hoF hbF HB HbE p0 p1 p2 p3
          have hc1 : (1 : Int) ≤ (c14 : Int) := by omega
          have hcr : ((l19.length : Int) + 1) ≤ (c14 : Int) := by omega
          have hl60 : l19.length ≤ 61 := by omega
          by_cases hc : c14 = 1
          · subst hc
            obtain rfl : l19 = [] := List.eq_nil_of_length_eq_zero (by omega)
            have HF := Lib.hid (f6ints_same _ _ _ _ 0 (at0 []) (at0 []) wF R19.out (show Rd wF wF.heap.size (.slice (some ⟨g14, 0, none⟩) 0 0) 0 1 (nmV []) from ⟨rfl, _, _, rfl, fun h => by omega⟩) (by omega) (fun _ _ => rfl))
            go_wp2_with fail
            refine (HF.out).mono ?_; rintro e wH ⟨rfl, dH, hdH⟩
            have hbH : Below wF.heap.size wF wH := by rw [hdH]; exact below_drewN (Below.refl _ _) dH
            have P3 := Lib.hid (P3.out.below hbH)
            have P6 := Lib.hid (P6.out.below hbH)
            have HbH := Lib.hid (HbF.out.trans (hbH.mono HbF.out.size))
            clear hbH hdH HF HbF R19 R14
            by_cases hcz : cm = 0
            · obtain ⟨rfl, rfl, rfl, rfl, hf6⟩ := Hx1.out hcz
              subst hcz
              obtain ⟨hn60, hrow⟩ := Hcode.out rfl
              have Hrow := Lib.hid hrow
              have Hf6 := Lib.hid hf6
              clear hf6 hrow
              go_wp2_with fail
              go_loopw [21] (fun i wr => ∃ k : Nat, k ≤ k8 ∧ i = .int .i64 (k : Int) ∧ Below wH.heap.size wH wr) (fun i _ => k8 - (intOf i).toNat)
              case atStart => exact ⟨0, Nat.zero_le _, rfl, Below.refl _ _⟩
              case round =>
                obtain ⟨k, hk, rfl, hbr⟩ := hrel
                have Q3 := Lib.hid (P3.out.below hbr)
                have Q6 := Lib.hid (P6.out.below hbr)
                obtain ⟨_, _, _, u3, _, ru3⟩ := Q3.out
                obtain ⟨_, _, _, u6, _, ru6⟩ := Q6.out
                have Hbr := Lib.hid hbr
                clear hbr
                by_cases hlt : k < k8
                · obtain ⟨b1, o1, hA, _, hcc⟩ := rdF_all ru3 (by omega)
                  obtain ⟨b2, o2, hA', _, hcc'⟩ := rdF_all ru6 (by omega)
                  subst hA
                  subst hA'
                  have x3 := hcc k hlt
                  have x6 := hcc' k hlt
                  have hlt' : (k : Int) < (k8 : Int) := by omega
                  have hr := Hrow.out k hlt
                  clear hcc hcc' ru3 ru6
                  by_cases hkr : (k : Int) = row
                  · have d1 : ((k : Int) != row) = false := by simp [hkr]
                    clear hr hkr
                    go_wp2_with fail
                    go_quiet (fail)
                    go_wp2_with fail
                    go_roundw
                    case rel => exact ⟨k + 1, by omega, by go_num, below_drewN Hbr.out _⟩
                    case measure => first | (simp [intOf]; done) | (simp [intOf]; omega)
                  · have d1 : ((k : Int) != row) = true := by simp [hkr]
                    have hne : ¬ k = row.toNat := fun e => hkr (hr.2 e)
                    have e6 : f6 k = f k := by
                      rw [Hf6.out]
                      show (if k = row.toNat then _ else f k) = f k
                      rw [if_neg hne]
                    rw [e6] at x6
                    clear hr hkr hne e6
                    generalize f k = z at *
                    go_wp2_with fail
                    go_quiet (fail)
                    go_wp2_with fail
                    go_roundw
                    case rel => exact ⟨k + 1, by omega, by go_num, below_drewN Hbr.out _⟩
                    case measure => first | (simp [intOf]; done) | (simp [intOf]; omega)
                · have hge : (k8 : Int) ≤ (k : Int) := by omega
                  have Hbz := Lib.hid (HbH.out.trans (Hbr.out.mono HbH.out.size))
                  clear ru3 ru6
                  go_wp2_with fail
                  go_ret
                  exact ⟨rfl, Hbz.out⟩
            · have hcz' : (cm != 0) = true := by simp [hcz]
              go_wp2_with fail
              go_ret
              exact ⟨rfl, HbH.out⟩
          · have hc' : (1 : Int) < (c14 : Int) := by omega
            have HF := Lib.hid (f6ints_same _ _ _ _ l19.length (at0 l19) (at0 l19) wF (by rw [← nmV_tab]; exact R19.out) (by rw [← nmV_tab]; exact Rd.tl (c2 := c14 - 1) R14.out) (by omega) (fun _ _ => rfl))
            go_wp2_with fail
            refine (HF.out).mono ?_; rintro e wH ⟨rfl, dH, hdH⟩
            have hbH : Below wF.heap.size wF wH := by rw [hdH]; exact below_drewN (Below.refl _ _) dH
            have P3 := Lib.hid (P3.out.below hbH)
            have P6 := Lib.hid (P6.out.below hbH)
            have HbH := Lib.hid (HbF.out.trans (hbH.mono HbF.out.size))
            clear hbH hdH HF HbF R19 R14
            by_cases hcz : cm = 0
            · obtain ⟨rfl, rfl, rfl, rfl, hf6⟩ := Hx1.out hcz
              subst hcz
              obtain ⟨hn60, hrow⟩ := Hcode.out rfl
              have Hrow := Lib.hid hrow
              have Hf6 := Lib.hid hf6
              clear hf6 hrow
              go_wp2_with fail
              go_loopw [21] (fun i wr => ∃ k : Nat, k ≤ k8 ∧ i = .int .i64 (k : Int) ∧ Below wH.heap.size wH wr) (fun i _ => k8 - (intOf i).toNat)
              case atStart => exact ⟨0, Nat.zero_le _, rfl, Below.refl _ _⟩
              case round =>
                obtain ⟨k, hk, rfl, hbr⟩ := hrel
                have Q3 := Lib.hid (P3.out.below hbr)
                have Q6 := Lib.hid (P6.out.below hbr)
                obtain ⟨_, _, _, u3, _, ru3⟩ := Q3.out
                obtain ⟨_, _, _, u6, _, ru6⟩ := Q6.out
                have Hbr := Lib.hid hbr
                clear hbr
                by_cases hlt : k < k8
                · obtain ⟨b1, o1, hA, _, hcc⟩ := rdF_all ru3 (by omega)
                  obtain ⟨b2, o2, hA', _, hcc'⟩ := rdF_all ru6 (by omega)
                  subst hA
                  subst hA'
                  have x3 := hcc k hlt
                  have x6 := hcc' k hlt
                  have hlt' : (k : Int) < (k8 : Int) := by omega
                  have hr := Hrow.out k hlt
                  clear hcc hcc' ru3 ru6
                  by_cases hkr : (k : Int) = row
                  · have d1 : ((k : Int) != row) = false := by simp [hkr]
                    clear hr hkr
                    go_wp2_with fail
                    go_quiet (fail)
                    go_wp2_with fail
                    go_roundw
                    case rel => exact ⟨k + 1, by omega, by go_num, below_drewN Hbr.out _⟩
                    case measure => first | (simp [intOf]; done) | (simp [intOf]; omega)
                  · have d1 : ((k : Int) != row) = true := by simp [hkr]
                    have hne : ¬ k = row.toNat := fun e => hkr (hr.2 e)
                    have e6 : f6 k = f k := by
                      rw [Hf6.out]
                      show (if k = row.toNat then _ else f k) = f k
                      rw [if_neg hne]
                    rw [e6] at x6
                    clear hr hkr hne e6
                    generalize f k = z at *
                    go_wp2_with fail
                    go_quiet (fail)
                    go_wp2_with fail
                    go_roundw
                    case rel => exact ⟨k + 1, by omega, by go_num, below_drewN Hbr.out _⟩
                    case measure => first | (simp [intOf]; done) | (simp [intOf]; omega)
                · have hge : (k8 : Int) ≤ (k : Int) := by omega
                  have Hbz := Lib.hid (HbH.out.trans (Hbr.out.mono HbH.out.size))
                  clear ru3 ru6
                  go_wp2_with fail
                  go_ret
                  exact ⟨rfl, Hbz.out⟩
            · have hcz' : (cm != 0) = true := by simp [hcz]
              go_wp2_with fail
              go_ret
              exact ⟨rfl, HbH.out⟩
    · have hgb : (gC s2.data.toList a2 b2 n2 f2 o2 == 0) = false := by simp [hg]
      by_cases hcz : cm = 0
      · obtain ⟨rfl, rfl, rfl, rfl, hf6⟩ := Hx1.out hcz
        subst hcz
        obtain ⟨hn60, hrow⟩ := Hcode.out rfl
        have Hrow := Lib.hid hrow
        have Hf6 := Lib.hid hf6
        clear hf6 hrow
        go_wp2_with fail
        go_loopw [21] (fun i wr => ∃ k : Nat, k ≤ k8 ∧ i = .int .i64 (k : Int) ∧ Below wC.heap.size wC wr) (fun i _ => k8 - (intOf i).toNat)
        case atStart => exact ⟨0, Nat.zero_le _, rfl, Below.refl _ _⟩
        case round =>
          obtain ⟨k, hk, rfl, hbr⟩ := hrel
          have Q3 := Lib.hid (P3.out.below hbr)
          have Q6 := Lib.hid (P6.out.below hbr)
          obtain ⟨_, _, _, u3, _, ru3⟩ := Q3.out
          obtain ⟨_, _, _, u6, _, ru6⟩ := Q6.out
          have Hbr := Lib.hid hbr
          clear hbr
          by_cases hlt : k < k8
          · obtain ⟨b1, o1, hA, _, hcc⟩ := rdF_all ru3 (by omega)
            obtain ⟨b2, o2, hA', _, hcc'⟩ := rdF_all ru6 (by omega)
            subst hA
            subst hA'
            have x3 := hcc k hlt
            have x6 := hcc' k hlt
            have hlt' : (k : Int) < (k8 : Int) := by omega
            have hr := Hrow.out k hlt
            clear hcc hcc' ru3 ru6
            by_cases hkr : (k : Int) = row
            · have d1 : ((k : Int) != row) = false := by simp [hkr]
              clear hr hkr
              go_wp2_with fail
              go_quiet (fail)
              go_wp2_with fail
              go_roundw
              case rel => exact ⟨k + 1, by omega, by go_num, below_drewN Hbr.out _⟩
              case measure => first | (simp [intOf]; done) | (simp [intOf]; omega)
            · have d1 : ((k : Int) != row) = true := by simp [hkr]
              have hne : ¬ k = row.toNat := fun e => hkr (hr.2 e)
              have e6 : f6 k = f k := by
                rw [Hf6.out]
                show (if k = row.toNat then _ else f k) = f k
                rw [if_neg hne]
              rw [e6] at x6
              clear hr hkr hne e6
              generalize f k = z at *
              go_wp2_with fail
              go_quiet (fail)
              go_wp2_with fail
              go_roundw
              case rel => exact ⟨k + 1, by omega, by go_num, below_drewN Hbr.out _⟩
              case measure => first | (simp [intOf]; done) | (simp [intOf]; omega)
          · have hge : (k8 : Int) ≤ (k : Int) := by omega
            have Hbz := Lib.hid (HbC.out.trans (Hbr.out.mono HbC.out.size))
            clear ru3 ru6
            go_wp2_with fail
            go_ret
            exact ⟨rfl, Hbz.out⟩
      · have hcz' : (cm != 0) = true := by simp [hcz]
        go_wp2_with fail
        go_ret
        exact ⟨rfl, HbC.out⟩
end Go.Proofs.Ytdljlemgaefbpaa
