/- Errors of tables, part 3: rounded tables. -/
import Derived.Test.YtdljlemgaefbpaaU2
import Derived.Test.YtdljlemgaefbpaaDd1
namespace Go.Proofs.Ytdljlemgaefbpaa
open Go.RowKit Go.Joins

set_option maxRecDepth 100000 in
set_option maxHeartbeats 1600000 in
theorem f6ints_same (B1 B2 : Nat) (v1 v2 : Value) (n : Nat) (f g : Nat → Int) (w : World) (h : Rd w B1 v1 n 1 (tab n f)) (h' : Rd w B2 v2 n 1 (tab n g)) (hn : n ≤ 1000) (he : ∀ i, i < n → f i = g i) :
    Calls Try.prog 31 #[v1, v2] w fun e w' => e = .returned (.bool true) ∧ ∃ k, w' = w.drewN k := by
  have H := Lib.hid h
  have H' := Lib.hid h'
  have HE := Lib.hid he
  obtain ⟨A, c, rfl⟩ := rd_sl h
  obtain ⟨A', c', rfl⟩ := rd_sl h'
  clear h h' he
  go_enter Try.func31, Try.ntmps31
  go_wp2_with fail
  go_loopw [5] (fun i wr => ∃ (k d : Nat), k ≤ n ∧ i = .int .i64 (k : Int) ∧ wr = w.drewN d) (fun i _ => n - (intOf i).toNat)
  case atStart => exact ⟨0, 0, Nat.zero_le _, rfl, rfl⟩
  case round =>
    obtain ⟨k, d, hk, rfl, rfl⟩ := hrel
    by_cases hlt : k < n
    · obtain ⟨b1, o1, hA, _, hcc⟩ := rdF_all H.out (by omega)
      obtain ⟨b2, o2, hA', _, hcc'⟩ := rdF_all H'.out (by omega)
      subst hA hA'
      have q0 := hcc k hlt
      have q1 := hcc' k hlt
      rw [← HE.out k hlt] at q1
      have hlt' : (k : Int) < (n : Int) := by omega
      generalize f k = x at *
      clear hcc hcc'
      go_wp2_with fail
      go_quiet (fail)
      go_wp2_with fail
      go_roundw
      case rel => exact ⟨k + 1, d + _, by omega, by go_num, rfl⟩
      case measure => first | (simp [intOf]; done) | (simp [intOf]; omega)
    · have hlt' : (n : Int) ≤ (k : Int) := by omega
      go_wp2_with fail
      go_ret
      exact ⟨rfl, d, rfl⟩
theorem f6big_c (B n : Nat) (v : Value) (xs : List Value) (w : World) (h : Rd w B v n 1 xs) : Calls Try.prog 18 #[v] w fun e w' => e = .returned (.bool (decide (4096 < n))) ∧ w = w' := by
  obtain ⟨A, c, rfl⟩ := rd_sl h
  clear h
  by_cases hc : 4096 < n
  · have h1 : (4096 : Int) < (n : Int) := by omega
    go_enter Try.func18, Try.ntmps18
    go_wp2_with fail
    go_ret
    exact ⟨ret_bool (by simp [hc]), rfl⟩
  · have h1 : ¬ (4096 : Int) < (n : Int) := by omega
    go_enter Try.func18, Try.ntmps18
    go_wp2_with fail
    go_ret
    exact ⟨ret_bool (by simp [hc]), rfl⟩
/-- a table, or none and a code -/
def RetTab (w : World) (code : Int) (n : Nat) (f : Nat → Int) (e : Ending) (w' : World) : Prop :=
  ∃ v m, e = .returned (.tuple #[v, .int .i64 code]) ∧ (code = 0 → m = n) ∧ (code ≠ 0 → m = 0) ∧ w'.ownsRow w.heap.size 2 1 v m (tab m f) ∧ Below w.heap.size w w'
theorem RetTab.no {w w' : World} {code : Int} {n : Nat} {f : Nat → Int} (h : code ≠ 0) (hb : Below w.heap.size w w') : RetTab w code n f (.returned (.tuple #[.slice none 0 0, .int .i64 code])) w' :=
  ⟨_, 0, rfl, fun e => absurd e h, fun _ => rfl, World.ownsRow_nil _ _ _ _, hb⟩
theorem RetTab.yes {w w' : World} {n : Nat} {f : Nat → Int} {v : Value} (h : w'.ownsRow w.heap.size 2 1 v n (tab n f)) (hb : Below w.heap.size w w') : RetTab w 0 n f (.returned (.tuple #[v, .int .i64 0])) w' :=
  ⟨_, n, rfl, fun _ => rfl, fun e => absurd rfl e, h, hb⟩
/-- .. with the code by its equation -/
theorem RetTab.no' {w w' : World} {code c : Int} {n : Nat} {f : Nat → Int} (he : code = c) (h : c ≠ 0) (hb : Below w.heap.size w w') : RetTab w code n f (.returned (.tuple #[.slice none 0 0, .int .i64 c])) w' := by
  subst he; exact RetTab.no h hb
theorem RetTab.yes' {w w' : World} {code : Int} {n : Nat} {f : Nat → Int} {v : Value} (he : code = 0) (h : w'.ownsRow w.heap.size 2 1 v n (tab n f)) (hb : Below w.heap.size w w') : RetTab w code n f (.returned (.tuple #[v, .int .i64 0])) w' := by
  subst he; exact RetTab.yes h hb

set_option maxRecDepth 100000 in
set_option maxHeartbeats 1600000 in
theorem RoundTableI_c (B : Nat) (v : Value) (n : Nat) (f : Nat → Int) (u : Int) (w : World) (h : Rd w B v n 1 (tab n f)) (hB : B ≤ w.heap.size) (hn : n ≤ 1000) :
    Calls Try.prog 36 #[v, .int .i64 u] w (RetTab w (rc n f u) n (fun i => ru (f i) u)) := by
  have HC := Lib.hid (rcI_c B v n f u w h hn)
  have H := Lib.hid h
  have Hb := Lib.hid (Below.refl w.heap.size w)
  have hb0 := Lib.hid ((Below.refl w.heap.size w).alloc (Nat.le_refl _) (.cells #[] 2))
  have ho0 := Lib.hid (World.ownsRow_made (base := w.heap.size) (e := 2) (size := 1) w #[] 0 (Nat.le_refl _) (by simp [maxLen]) rfl)
  obtain ⟨A, c, rfl⟩ := rd_sl h
  clear h
  rcases rc_cases n f u with hc | hc | hc
  · have hok := rc_ok hc
    have Hv := Lib.hid hok.1
    have hu := hok.2.1
    have hn2 := hok.2.2
    have Hc := Lib.hid hc
    rw [hc] at HC
    clear hok hc
    go_enter Try.func36, Try.ntmps36
    go_wp2_with fail
    refine (HC.out).mono ?_; rintro e w1 ⟨rfl, rfl⟩
    go_wp2_with fail
    go_loopw [7, 21] (fun a i wr => ∃ k : Nat, k ≤ n ∧ i = .int .i64 (k : Int) ∧ wr.ownsRow w.heap.size 2 1 a k (tab k (fun i => ru (f i) u)) ∧ Below w.heap.size w wr) (fun _ i _ => n - (intOf i).toNat)
    case atStart => exact ⟨0, Nat.zero_le _, rfl, ho0.out, hb0.out⟩
    case round =>
      obtain ⟨k, hk, rfl, hown, hbl⟩ := hrel
      obtain ⟨A3, c3, rfl⟩ := own_sl hown
      have Hown := Lib.hid hown
      have Hbl := Lib.hid hbl
      clear hown hbl
      by_cases hlt : k < n
      · obtain ⟨b1, o1, hA, _, hcc⟩ := rdF_all (H.out.below (Hbl.out.mono hB)) (show 0 < n by omega)
        subst hA
        have q0 := hcc k hlt
        have hlt' : (k : Int) < (n : Int) := by omega
        have HR := Lib.hid (fun wx => units_c (f k) u wx (Hv.out k hlt) hu)
        have Hsn := Lib.hid (tab_succ k (fun i => ru (f i) u))
        clear hcc
        generalize f k = x at *
        generalize ru x u = y at *
        go_wp2_with fail
        refine (HR.out _).mono ?_; rintro e w1 ⟨rfl, rfl⟩
        go_wp2_with (at_builtin; refine wpList_apd 24 2 _ 1 8 Try.underlying24 infoD rfl (by omega) _ _ rfl rfl w.heap.size _ k _ rfl Hown.out #[.int .i64 (y)] 1 1 rfl rfl (by simp [Value.oneCell']) (by simp [maxLen]; omega) (by omega) Hbl.out.size ?_; intro v5 w5 hown5 hg5; have Hb5 := Lib.hid (below_apd Hbl.out Hown.out hg5 (Nat.le_refl _) Hbl.out.size); obtain ⟨A5, c5, rfl⟩ := own_sl hown5; have Hown5 := Lib.hid hown5; clear hown5 hg5)
        go_roundw
        case rel => exact ⟨k + 1, by omega, by go_num, by rw [Hsn.out]; exact Hown5.out, Hb5.out⟩
        case measure => first | (simp [intOf]; done) | (simp [intOf]; omega)
      · obtain rfl : k = n := by omega
        have Hrd := Lib.hid (Rd.of_own Hown.out)
        go_wp2_with fail
        go_loop [34] (fun i => ∃ j : Nat, j ≤ k ∧ i = .int .i64 (j : Int)) (fun i => k - (intOf i).toNat)
        case atStart => exact ⟨0, Nat.zero_le _, rfl⟩
        case round =>
          obtain ⟨j, hj, rfl⟩ := hrel
          by_cases hlj : j < k
          · obtain ⟨b1, o1, hA, _, hcc⟩ := rdF_all Hrd.out (show 0 < k by omega)
            subst hA
            have q0 := hcc j hlj
            have hlt' : (j : Int) < (k : Int) := by omega
            have hy : ru (f j) u ≤ 1000000000000 := ru_le hu.1 (by omega) (Hv.out j hlj).2
            clear hcc
            generalize ru (f j) u = y at *
            go_wp2_with fail
            go_round
            case rel => exact ⟨j + 1, by omega, by go_num⟩
            case measure => first | (simp [intOf]; done) | (simp [intOf]; omega)
          · have hge : (k : Int) ≤ (j : Int) := by omega
            go_wp2_with fail
            go_ret2
            exact RetTab.yes' Hc.out Hown.out Hbl.out
  · have Hc := Lib.hid hc
    rw [hc] at HC
    clear hc
    go_enter Try.func36, Try.ntmps36
    go_wp2_with fail
    refine (HC.out).mono ?_; rintro e w1 ⟨rfl, rfl⟩
    go_wp2_with fail
    go_ret2
    exact RetTab.no' Hc.out (by decide) Hb.out
  · have Hc := Lib.hid hc
    rw [hc] at HC
    clear hc
    go_enter Try.func36, Try.ntmps36
    go_wp2_with fail
    refine (HC.out).mono ?_; rintro e w1 ⟨rfl, rfl⟩
    go_wp2_with fail
    go_ret2
    exact RetTab.no' Hc.out (by decide) Hb.out
set_option maxRecDepth 100000 in
set_option maxHeartbeats 1600000 in
theorem RoundTableS_c (B : Nat) (v : Value) (n : Nat) (f : Nat → Int) (u : Int) (w : World) (h : Rd w B v n 1 (tab n f)) (hB : B ≤ w.heap.size) (hn : n ≤ 1000) :
    Calls Try.prog 37 #[v, .int .i64 u] w (RetTab w (rc n f u) n (fun i => ru (f i) u)) := by
  have HC := Lib.hid (rcS_c B v n f u w h hn)
  have H := Lib.hid h
  have Hb := Lib.hid (Below.refl w.heap.size w)
  have hb0 := Lib.hid ((Below.refl w.heap.size w).alloc (Nat.le_refl _) (.cells #[] 2))
  have ho0 := Lib.hid (World.ownsRow_made (base := w.heap.size) (e := 2) (size := 1) w #[] 0 (Nat.le_refl _) (by simp [maxLen]) rfl)
  obtain ⟨A, c, rfl⟩ := rd_sl h
  clear h
  rcases rc_cases n f u with hc | hc | hc
  · have hok := rc_ok hc
    have Hv := Lib.hid hok.1
    have hu := hok.2.1
    have hn2 := hok.2.2
    have Hc := Lib.hid hc
    rw [hc] at HC
    clear hok hc
    go_enter Try.func37, Try.ntmps37
    go_wp2_with fail
    refine (HC.out).mono ?_; rintro e w1 ⟨rfl, rfl⟩
    go_wp2_with fail
    go_loopw [7, 8] (fun a i wr => ∃ k : Nat, k ≤ n ∧ i = .int .i64 (k : Int) ∧ wr.ownsRow w.heap.size 2 1 a k (tab k (fun i => ru (f i) u)) ∧ Below w.heap.size w wr) (fun _ i _ => n - (intOf i).toNat)
    case atStart => exact ⟨0, Nat.zero_le _, rfl, ho0.out, hb0.out⟩
    case round =>
      obtain ⟨k, hk, rfl, hown, hbl⟩ := hrel
      obtain ⟨A3, c3, rfl⟩ := own_sl hown
      have Hown := Lib.hid hown
      have Hbl := Lib.hid hbl
      clear hown hbl
      by_cases hlt : k < n
      · obtain ⟨b1, o1, hA, _, hcc⟩ := rdF_all (H.out.below (Hbl.out.mono hB)) (show 0 < n by omega)
        subst hA
        have q0 := hcc k hlt
        have hlt' : (k : Int) < (n : Int) := by omega
        have HR := Lib.hid (fun wx => l17Round_c (f k) u wx (Hv.out k hlt) hu)
        have Hsn := Lib.hid (tab_succ k (fun i => ru (f i) u))
        clear hcc
        generalize f k = x at *
        generalize ru x u = y at *
        go_wp2_with fail
        refine (HR.out _).mono ?_; rintro e w1 ⟨rfl, rfl⟩
        go_wp2_with (at_builtin; refine wpList_apd 24 2 _ 1 8 Try.underlying24 infoD rfl (by omega) _ _ rfl rfl w.heap.size _ k _ rfl Hown.out #[.int .i64 (y)] 1 1 rfl rfl (by simp [Value.oneCell']) (by simp [maxLen]; omega) (by omega) Hbl.out.size ?_; intro v5 w5 hown5 hg5; have Hb5 := Lib.hid (below_apd Hbl.out Hown.out hg5 (Nat.le_refl _) Hbl.out.size); obtain ⟨A5, c5, rfl⟩ := own_sl hown5; have Hown5 := Lib.hid hown5; clear hown5 hg5)
        go_roundw
        case rel => exact ⟨k + 1, by omega, by go_num, by rw [Hsn.out]; exact Hown5.out, Hb5.out⟩
        case measure => first | (simp [intOf]; done) | (simp [intOf]; omega)
      · obtain rfl : k = n := by omega
        go_wp2_with fail
        go_ret2
        exact RetTab.yes' Hc.out Hown.out Hbl.out
  · have Hc := Lib.hid hc
    rw [hc] at HC
    clear hc
    go_enter Try.func37, Try.ntmps37
    go_wp2_with fail
    refine (HC.out).mono ?_; rintro e w1 ⟨rfl, rfl⟩
    go_wp2_with fail
    go_ret2
    exact RetTab.no' Hc.out (by decide) Hb.out
  · have Hc := Lib.hid hc
    rw [hc] at HC
    clear hc
    go_enter Try.func37, Try.ntmps37
    go_wp2_with fail
    refine (HC.out).mono ?_; rintro e w1 ⟨rfl, rfl⟩
    go_wp2_with fail
    go_ret2
    exact RetTab.no' Hc.out (by decide) Hb.out
/-- the greatest error of the first k values -/
def wmx (f : Nat → Int) (u : Int) : Nat → Int
  | 0 => 0
  | k + 1 => max (wmx f u k) (((f k - ru (f k) u * u).natAbs : Nat) : Int)
theorem wmx_bd {f : Nat → Int} {u : Int} {n : Nat} (hu : 1 ≤ u ∧ u ≤ 1000000) : ∀ k, 0 ≤ wmx f u k ∧ wmx f u k ≤ 1000000 ∧ 2 * wmx f u k ≤ u
  | 0 => by show (0 : Int) ≤ 0 ∧ (0 : Int) ≤ 1000000 ∧ 2 * (0 : Int) ≤ u; omega
  | k + 1 => by
    have h1 := wmx_bd (f := f) (n := n) hu k
    have h2 := ru_bd (v := f k) (u := u) (by omega)
    have e : wmx f u (k + 1) = max (wmx f u k) (((f k - ru (f k) u * u).natAbs : Nat) : Int) := rfl
    omega
set_option maxRecDepth 100000 in
set_option maxHeartbeats 1600000 in
theorem WorstErrorI_c (B : Nat) (v : Value) (n : Nat) (f : Nat → Int) (u : Int) (w : World) (h : Rd w B v n 1 (tab n f)) (hn : n ≤ 1000) :
    Calls Try.prog 38 #[v, .int .i64 u] w fun e w' => e = .returned (.tuple #[.int .i64 (if rc n f u = 0 then wmx f u n else 0), .int .i64 (rc n f u)]) ∧ w = w' := by
  have HC := Lib.hid (rcI_c B v n f u w h hn)
  have H := Lib.hid h
  obtain ⟨A, c, rfl⟩ := rd_sl h
  clear h
  rcases rc_cases n f u with hc | hc | hc
  · have hok := rc_ok hc
    have Hv := Lib.hid hok.1
    have hu := hok.2.1
    have hn2 := hok.2.2
    rw [hc] at HC
    rw [hc, if_pos rfl]
    clear hok hc
    go_enter Try.func38, Try.ntmps38
    go_wp2_with fail
    refine (HC.out).mono ?_; rintro e w1 ⟨rfl, rfl⟩
    go_wp2_with fail
    go_loop [7, 18] (fun a i => ∃ k : Nat, k ≤ n ∧ i = .int .i64 (k : Int) ∧ a = .int .i64 (wmx f u k)) (fun _ i => n - (intOf i).toNat)
    case atStart => exact ⟨0, Nat.zero_le _, rfl, rfl⟩
    case round =>
      obtain ⟨k, hk, rfl, rfl⟩ := hrel
      by_cases hlt : k < n
      · obtain ⟨b1, o1, hA, _, hcc⟩ := rdF_all H.out (show 0 < n by omega)
        subst hA
        have q0 := hcc k hlt
        have hlt' : (k : Int) < (n : Int) := by omega
        have HR := Lib.hid (fun wx => units_c (f k) u wx (Hv.out k hlt) hu)
        have hrb := ru_bd (v := f k) (u := u) (by omega)
        have hfb := Hv.out k hlt
        have Hs := Lib.hid (show wmx f u (k + 1) = max (wmx f u k) (((f k - ru (f k) u * u).natAbs : Nat) : Int) from rfl)
        clear hcc
        generalize wmx f u k = m at *
        generalize f k = x at *
        generalize ru x u = y at *
        obtain ⟨P, hP⟩ : ∃ P, y * u = P := ⟨_, rfl⟩
        rw [hP] at hrb Hs
        have hPw : IntKind.i64.wrap (y * u) = P := by rw [hP]; exact IntWalk.i64_in _ (by omega)
        have HA := Lib.hid (fun wx => absolute_any (x - P) wx (by omega) (by omega))
        clear hP
        go_wp2_with fail
        refine (HR.out _).mono ?_; rintro e w1 ⟨rfl, rfl⟩
        go_wp2_with fail
        refine (HA.out _).mono ?_; rintro e w1 ⟨rfl, rfl⟩
        go_wp2_with fail
        generalize ((x - P).natAbs : Int) = z at *
        go_wp2_with fail
        go_round
        case rel => exact ⟨k + 1, by omega, by go_num, by rw [Hs.out]; congr 1; split <;> omega⟩
        case measure => first | (simp [intOf]; done) | (simp [intOf]; omega)
      · obtain rfl : k = n := by omega
        go_wp2_with fail
        go_ret2
        exact ⟨rfl, rfl⟩
  · rw [hc] at HC
    rw [hc, if_neg (by decide)]
    clear hc
    go_enter Try.func38, Try.ntmps38
    go_wp2_with fail
    refine (HC.out).mono ?_; rintro e w1 ⟨rfl, rfl⟩
    go_wp2_with fail
    go_ret2
    exact ⟨rfl, rfl⟩
  · rw [hc] at HC
    rw [hc, if_neg (by decide)]
    clear hc
    go_enter Try.func38, Try.ntmps38
    go_wp2_with fail
    refine (HC.out).mono ?_; rintro e w1 ⟨rfl, rfl⟩
    go_wp2_with fail
    go_ret2
    exact ⟨rfl, rfl⟩
set_option maxRecDepth 100000 in
set_option maxHeartbeats 1600000 in
theorem WorstErrorS_c (B : Nat) (v : Value) (n : Nat) (f : Nat → Int) (u : Int) (w : World) (h : Rd w B v n 1 (tab n f)) (hn : n ≤ 1000) :
    Calls Try.prog 39 #[v, .int .i64 u] w fun e w' => e = .returned (.tuple #[.int .i64 (if rc n f u = 0 then wmx f u n else 0), .int .i64 (rc n f u)]) ∧ ∃ d, w' = w.drewN d := by
  have HC := Lib.hid (rcS_c B v n f u w h hn)
  have H := Lib.hid h
  obtain ⟨A, c, rfl⟩ := rd_sl h
  clear h
  rcases rc_cases n f u with hc | hc | hc
  · have hok := rc_ok hc
    have Hv := Lib.hid hok.1
    have hu := hok.2.1
    have hn2 := hok.2.2
    rw [hc] at HC
    rw [hc, if_pos rfl]
    clear hok hc
    go_enter Try.func39, Try.ntmps39
    go_wp2_with fail
    refine (HC.out).mono ?_; rintro e w1 ⟨rfl, rfl⟩
    go_wp2_with fail
    go_loopw [7, 8] (fun a i wr => ∃ k d : Nat, k ≤ n ∧ i = .int .i64 (k : Int) ∧ a = .int .i64 (wmx f u k) ∧ wr = w.drewN d) (fun _ i _ => n - (intOf i).toNat)
    case atStart => exact ⟨0, 0, Nat.zero_le _, rfl, rfl, rfl⟩
    case round =>
      obtain ⟨k, d, hk, rfl, rfl, hwr⟩ := hrel
      have Hw := Lib.hid hwr
      by_cases hlt : k < n
      · have hrd := H.out
        obtain ⟨b1, o1, hA, _, hcc⟩ := rdF_all (hrd.drewN d) (show 0 < n by omega)
        rw [← hwr] at hcc
        subst hA
        have q0 := hcc k hlt
        have hlt' : (k : Int) < (n : Int) := by omega
        have HR := Lib.hid (fun wx => l17Round_c (f k) u wx (Hv.out k hlt) hu)
        have hrb := ru_bd (v := f k) (u := u) (by omega)
        have hfb := Hv.out k hlt
        have Hs := Lib.hid (show wmx f u (k + 1) = max (wmx f u k) (((f k - ru (f k) u * u).natAbs : Nat) : Int) from rfl)
        clear hcc hrd hwr
        generalize wmx f u k = m at *
        generalize f k = x at *
        generalize ru x u = y at *
        obtain ⟨P, hP⟩ : ∃ P, y * u = P := ⟨_, rfl⟩
        rw [hP] at hrb Hs
        have hPw : IntKind.i64.wrap (u * y) = P := by rw [Int.mul_comm, hP]; exact IntWalk.i64_in _ (by omega)
        have hPx : IntKind.i64.wrap (P - x) = P - x := IntWalk.i64_in _ (by omega)
        have HA := Lib.hid (fun wx => l03Size_c (P - x) wx (by omega) (by omega))
        rw [show ((P - x).natAbs : Int) = ((x - P).natAbs : Int) by omega] at HA
        generalize ((x - P).natAbs : Int) = z at *
        have HX := Lib.hid (fun wx => l00Max_c m z wx)
        clear hP
        go_wp2_with fail
        go_quiet ((first | (go_at_call 114; exact Calls.quiet_of_same (flipQ (HR.out _))) | (go_at_call 120; exact Calls.quiet_of_same (flipQ (HA.out _))) | (go_at_call 119; exact Calls.quiet_of_same (flipQ (HX.out _)))))
        go_wp2_with fail
        go_roundw
        case rel => exact ⟨k + 1, d + nq, by omega, by go_num, by rw [Hs.out], by rw [Hw.out]; exact World.drewN_drewN _ _ _⟩
        case measure => first | (simp [intOf]; done) | (simp [intOf]; omega)
      · obtain rfl : k = n := by omega
        clear hwr
        go_wp2_with fail
        go_ret2
        exact ⟨rfl, d, Hw.out⟩
  · rw [hc] at HC
    rw [hc, if_neg (by decide)]
    clear hc
    go_enter Try.func39, Try.ntmps39
    go_wp2_with fail
    refine (HC.out).mono ?_; rintro e w1 ⟨rfl, rfl⟩
    go_wp2_with fail
    go_ret2
    exact ⟨rfl, 0, rfl⟩
  · rw [hc] at HC
    rw [hc, if_neg (by decide)]
    clear hc
    go_enter Try.func39, Try.ntmps39
    go_wp2_with fail
    refine (HC.out).mono ?_; rintro e w1 ⟨rfl, rfl⟩
    go_wp2_with fail
    go_ret2
    exact ⟨rfl, 0, rfl⟩
end Go.Proofs.Ytdljlemgaefbpaa
