/- Differences, part 1: rows of numbers as functions, lessBefore, copyNumbers. -/
import Derived.Test.YtdljlemgaefbpaaLib
import Derived.Test.YtdljlemgaefbpaaLib2
import Derived.Test.YtdljlemgaefbpaaBase
import Derived.Lib.SmallJoins
import Derived.Deep.RegionLaw
namespace Go.Proofs.Ytdljlemgaefbpaa
open Go.RowKit Go.Joins

theorem infoD : (Try.prog.info? 2).map (fun i => (i.zero, i.size, i.bytes)) = some (some (.int .i64 0), 1, 8) := by kernel_rfl
/-- the first n values of f -/
def tab (n : Nat) (f : Nat → Int) : List Value := (List.range n).map fun i => .int .i64 (f i)
theorem tab_len (n : Nat) (f : Nat → Int) : (tab n f).length = n := by simp [tab]
theorem tab_succ (n : Nat) (f : Nat → Int) : tab (n + 1) f = tab n f ++ [.int .i64 (f n)] := by simp [tab, List.range_succ]
theorem tab_at {n i : Nat} (f : Nat → Int) (h : i < n) : (tab n f)[i]? = some (.int .i64 (f i)) := by simp [tab, h]
theorem tab_one (n : Nat) (f : Nat → Int) : ∀ u ∈ tab n f, u.oneCell' = true := by
  intro u hu
  obtain ⟨i, _, rfl⟩ := List.mem_map.1 hu
  rfl
theorem tab_congr {n : Nat} {f g : Nat → Int} (h : ∀ i, i < n → f i = g i) : tab n f = tab n g := by
  unfold tab
  exact List.map_congr_left fun i hi => by rw [h i (List.mem_range.1 hi)]
def D (f : Nat → Int) : Nat → Int := fun i => f (i + 1) - f i
def Dn : Nat → (Nat → Int) → Nat → Int
  | 0, f => f
  | k + 1, f => D (Dn k f)
def Small (M n : Nat) (f : Nat → Int) : Prop := ∀ i, i < n → -(M : Int) ≤ f i ∧ f i ≤ M
theorem Small.D {M n : Nat} {f : Nat → Int} (h : Small M n f) : Small (2 * M) (n - 1) (D f) := by
  intro i hi
  have h1 := h i (by omega)
  have h2 := h (i + 1) (by omega)
  show _ ≤ f (i + 1) - f i ∧ f (i + 1) - f i ≤ _
  omega
theorem Small.Dn {M n : Nat} {f : Nat → Int} (h : Small M n f) : ∀ k, Small (2 ^ k * M) (n - k) (Dn k f)
  | 0 => by rw [Nat.pow_zero, Nat.one_mul]; exact h
  | k + 1 => by
    have := (Small.Dn h k).D
    rw [Nat.pow_succ, show n - (k + 1) = n - k - 1 by omega, show 2 ^ k * 2 * M = 2 * (2 ^ k * M) by rw [Nat.mul_comm (2 ^ k) 2, Nat.mul_assoc]]
    exact this
theorem Small.more {M M' n : Nat} {f : Nat → Int} (h : Small M n f) (hM : M ≤ M') : Small M' n f := fun i hi => by have := h i hi; omega
theorem rdF_all {w : World} {B n n' c : Nat} {A : Option Addr} {f : Nat → Int} (h : Rd w B (.slice A n' c) n 1 (tab n f)) (hn : 0 < n) : ∃ b off, A = some ⟨b, off, none⟩ ∧ b < B ∧ ∀ j, j < n → w.cell? ⟨b, off + j, none⟩ = some (.int .i64 (f j)) := by
  obtain ⟨_, A', c', hv, hc⟩ := h
  injection hv with e1 e2 e3
  subst e1
  obtain ⟨b, off, hA, hb, hcc⟩ := hc (by omega)
  exact ⟨b, off, hA, hb, fun j hj => hcc j _ (tab_at f hj)⟩
theorem own_sl {w : World} {base n size : Nat} {e : TypeId} {v : Value} {cs : List Value} (h : w.ownsRow base e size v n cs) : ∃ A c, v = .slice A n c := by
  obtain ⟨_, A, c, h, _⟩ := Rd.of_own h
  exact ⟨A, c, h⟩
theorem rd_sl {w : World} {B n sz : Nat} {v : Value} {cs : List Value} (h : Rd w B v n sz cs) : ∃ A c, v = .slice A n c := by
  obtain ⟨_, A, c, h, _⟩ := h
  exact ⟨A, c, h⟩
/-- a row of numbers of the call's own is handed back -/
def RetF (w : World) (n : Nat) (f : Nat → Int) (e : Ending) (w' : World) : Prop :=
  ∃ v, e = .returned v ∧ w'.ownsRow w.heap.size 2 1 v n (tab n f) ∧ Below w.heap.size w w'

set_option maxRecDepth 100000 in
set_option maxHeartbeats 1600000 in
theorem lessBefore_any (B : Nat) (v : Value) (n M : Nat) (f : Nat → Int) (w : World) (h : Rd w B v n 1 (tab n f)) (hB : B ≤ w.heap.size) (hn : n ≤ 1000) (hS : Small M n f) (hM : M ≤ 4611686018427387903) :
    Calls Try.prog 174 #[v] w (RetF w (n - 1) (D f)) := by
  have H := Lib.hid h
  have HS := Lib.hid hS
  obtain ⟨A, c, rfl⟩ := rd_sl h
  clear h
  clear hS
  have hb0 := Lib.hid ((Below.refl w.heap.size w).alloc (Nat.le_refl _) (.cells #[] 2))
  have ho0 := Lib.hid (World.ownsRow_made (base := w.heap.size) (e := 2) (size := 1) w #[] 0 (Nat.le_refl _) (by simp [maxLen]) rfl)
  go_enter Try.func174, Try.ntmps174
  go_wp2_with fail
  go_loopw [3, 4] (fun a i wr => ∃ k m : Nat, m + 1 = k ∧ (m = 0 ∨ k ≤ n) ∧ i = .int .i64 (k : Int) ∧ wr.ownsRow w.heap.size 2 1 a m (tab m (D f)) ∧ Below w.heap.size w wr) (fun _ i _ => n + 1 - (intOf i).toNat)
  case atStart => exact ⟨1, 0, rfl, .inl rfl, rfl, ho0.out, hb0.out⟩
  case round =>
    obtain ⟨k, m, hkm, hk, rfl, hown, hbl⟩ := hrel
    obtain ⟨A3, c3, rfl⟩ := own_sl hown
    have Hown := Lib.hid hown
    have Hbl := Lib.hid hbl
    clear hown
    by_cases hlt : k < n
    · obtain ⟨b1, o1, hA, hb1, hcc⟩ := rdF_all (H.out.below (hbl.mono hB)) (by omega)
      subst hA
      have q1 := hcc k hlt
      have q0 := hcc m (by omega)
      have s1 := HS.out k hlt
      have s0 := HS.out m (by omega)
      have HD := Lib.hid (show D f m = f k - f m by rw [← hkm]; rfl)
      have Hsc := Lib.hid (tab_succ m (D f))
      clear hcc
      generalize f k = x at *
      generalize f m = y at *
      have hlt' : (k : Int) < (n : Int) := by omega
      have hm1 : IntKind.i64.wrap ((k : Int) - 1) = (m : Int) := by rw [IntWalk.i64_in _ (by omega)]; omega
      have hm2 : (m : Int) < (n : Int) := by omega
      have hd : IntKind.i64.wrap (x - y) = x - y := IntWalk.i64_in _ (by omega)
      have Hkm := Lib.hid hkm
      have hm3 : m < 1000 := by omega
      clear hbl s1 s0 hkm hk
      go_wp2_with fail
      go_region_law ((first | (refine step_apd 24 2 _ 1 8 Try.underlying24 infoD rfl (by omega) _ _ (by rfl) (by rfl) w.heap.size _ m _ (by rfl) Hown.out #[.int .i64 (x - y)] 1 1 (by rfl) (by rfl) (by simp [Value.oneCell']) (by simp [maxLen]; omega) (by omega) Hbl.out.size ?_; intro v8 w8 hown8 hg8; have Hb8 := Lib.hid (below_apd Hbl.out Hown.out hg8 (Nat.le_refl _) Hbl.out.size); obtain ⟨A8, c8, rfl⟩ := own_sl hown8; have Hown8 := Lib.hid hown8; clear hown8 hg8)))
      all_goals
       (try go_wp2_with fail)
       go_roundw
       case rel => exact ⟨k + 1, m + 1, by rw [Hkm.out], .inr (by omega), by go_num, by rw [Hsc.out, HD.out]; exact Hown8.out, Hb8.out⟩
       case measure => simp [intOf]; omega
    · have hkn : m = n - 1 := by omega
      have hlt' : (n : Int) ≤ (k : Int) := by omega
      subst hkn
      go_wp2_with fail
      go_ret
      exact ⟨_, rfl, Hown.out, Hbl.out⟩
end Go.Proofs.Ytdljlemgaefbpaa
