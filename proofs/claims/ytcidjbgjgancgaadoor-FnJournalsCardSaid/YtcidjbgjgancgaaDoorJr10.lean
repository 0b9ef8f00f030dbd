/- Journals, part 10: AppendNote. -/
import Derived.Test.YtcidjbgjgancgaaDoorJr9
namespace Go.Proofs.YtcidjbgjgancgaaDoor
open Go.RowKit Go.Joins

def nextL (s note : ByteArray) : ByteArray := lineS (((readJ s).notes.length : Int) + 1) (noteSum (readJ s).sum (((readJ s).notes.length : Int) + 1) note.data.toList) note
def appR (s note : ByteArray) : ByteArray × Int :=
  if codeJ s = 0 then if noteOk note.data.toList = true then if 4000 < s.size + (nextL s note).size then (⟨#[]⟩, 5) else (s ++ nextL s note, 0) else (⟨#[]⟩, 7) else (⟨#[]⟩, codeJ s)
def RetApp (w : World) (s note : ByteArray) (e : Ending) (w' : World) : Prop :=
  e = .returned (.tuple #[.string (appR s note).1, .int .i64 (appR s note).2]) ∧ Below w.heap.size w w'
theorem nextL_size (s note : ByteArray) (hs : s.size ≤ 4000) : (nextL s note).size ≤ note.size + 43 := by
  have hw := readJ_way s
  have h1 := hw.2.1
  have h2 := hw.2.2.1
  have hb := noteSum_bd (readJ s).sum (((readJ s).notes.length : Int) + 1) note.data.toList
  exact lineS_size _ _ _ (by omega) (by omega) hb.1 (by omega)

set_option maxHeartbeats 800000 in
theorem AppI (s note : ByteArray) (w : World) (hs : s.size ≤ 1048576) (hn : note.size ≤ 1048576) (ht : Tab w) :
    Calls Tryd.prog 20 #[.string s, .string note] w (RetApp w s note) := by
  have HW := Lib.hid (wholeI_any s w hs ht)
  have Ht := Lib.hid ht; clear ht
  by_cases h : codeJ s = 0
  · have H := Lib.hid h
    have HI := Lib.hid (fun v => isNote_any note v (by omega))
    have hR : appR s note = if noteOk note.data.toList = true then if 4000 < s.size + (nextL s note).size then (⟨#[]⟩, 5) else (s ++ nextL s note, 0) else (⟨#[]⟩, 7) := if_pos h
    cases hok : noteOk note.data.toList with
    | false =>
      have Hr := Lib.hid (show appR s note = (⟨#[]⟩, 7) by rw [hR, hok]; rfl)
      rw [hok] at HI
      clear hR hok h
      go_enter Tryd.func20, Tryd.ntmps20
      go_wp2_with fail
      refine HW.out.mono ?_; rintro e w1 ⟨p, rfl, hp, hb⟩
      obtain ⟨g, rfl, _, _⟩ := hp H.out
      rw [H.out]
      clear hp
      go_wp2_with fail
      refine (HI.out _).mono ?_; rintro e w2 ⟨rfl, rfl⟩
      go_wp2_with fail
      go_ret2
      unfold RetApp; rw [Hr.out]; exact ⟨rfl, hb⟩
    | true =>
      have hs4 : s.size ≤ 4000 := by
        unfold codeJ at h; split at h
        · omega
        · omega
      have hw := readJ_way s
      have h1 := hw.2.1
      have h2 := hw.2.2.1
      have hz := nextL_size s note hs4
      have hR2 : appR s note = if 4000 < s.size + (nextL s note).size then (⟨#[]⟩, 5) else (s ++ nextL s note, 0) := by rw [hR, hok]; rfl
      have HX := Lib.hid (fun g A c v hj hv => next_j g (readJ s).notes.length c A (readJ s).sum (readJ s).at_ note v hj (by omega) hn hv)
      have hnl : nextL s note = lineS (((readJ s).notes.length : Int) + 1) (noteSum (readJ s).sum (((readJ s).notes.length : Int) + 1) note.data.toList) note := rfl
      rw [← hnl] at HX
      have hbd := noteSum_bd (readJ s).sum (((readJ s).notes.length : Int) + 1) note.data.toList
      generalize noteSum (readJ s).sum (((readJ s).notes.length : Int) + 1) note.data.toList = S at *
      have HR2 := Lib.hid hR2
      rw [hok] at HI
      clear hR hR2 hok h hw hnl
      generalize nextL s note = L at *
      by_cases hsz : 4000 < s.size + L.size
      · have Hr := Lib.hid (show appR s note = (⟨#[]⟩, 5) by rw [HR2.out, if_pos hsz])
        go_enter Tryd.func20, Tryd.ntmps20
        go_wp2_with fail
        refine HW.out.mono ?_; rintro e w1 ⟨p, rfl, hp, hb⟩
        obtain ⟨g, rfl, ⟨nv, hj, ho, _⟩, _⟩ := hp H.out
        obtain ⟨_, A, c, rfl, _⟩ := Rd.of_own ho
        rw [H.out]
        have Hj := Lib.hid hj
        clear hp hj ho
        go_wp2_with fail
        refine (HI.out _).mono ?_; rintro e w2 ⟨rfl, rfl⟩
        go_wp2_with fail
        refine (HX.out g A c _ Hj.out (Ht.out.below hb)).mono ?_; rintro e w2 ⟨rfl, hb2⟩
        have hb3 := hb.trans (hb2.mono hb.size)
        go_wp2_with fail
        go_ret2
        unfold RetApp; rw [Hr.out]; exact ⟨rfl, hb3⟩
      · have Hr := Lib.hid (show appR s note = (s ++ L, 0) by rw [HR2.out, if_neg hsz])
        have e1 : (s ++ L : ByteArray).size = s.size + L.size := ByteArray.size_append
        go_enter Tryd.func20, Tryd.ntmps20
        go_wp2_with fail
        refine HW.out.mono ?_; rintro e w1 ⟨p, rfl, hp, hb⟩
        obtain ⟨g, rfl, ⟨nv, hj, ho, _⟩, _⟩ := hp H.out
        obtain ⟨_, A, c, rfl, _⟩ := Rd.of_own ho
        rw [H.out]
        have Hj := Lib.hid hj
        clear hp hj ho
        go_wp2_with fail
        refine (HI.out _).mono ?_; rintro e w2 ⟨rfl, rfl⟩
        go_wp2_with fail
        refine (HX.out g A c _ Hj.out (Ht.out.below hb)).mono ?_; rintro e w2 ⟨rfl, hb2⟩
        have hb3 := hb.trans (hb2.mono hb.size)
        go_wp2_with fail
        go_ret2
        unfold RetApp; rw [Hr.out]; exact ⟨rfl, hb3⟩
  · have Hr := Lib.hid (show appR s note = (⟨#[]⟩, codeJ s) from if_neg h)
    have hb1 : (codeJ s != 0) = true := by simp [h]
    go_enter Tryd.func20, Tryd.ntmps20
    go_wp2_with fail
    refine HW.out.mono ?_; rintro e w1 ⟨p, rfl, _, hb⟩
    go_wp2_with fail
    go_ret2
    unfold RetApp; rw [Hr.out]; exact ⟨rfl, hb⟩

set_option maxHeartbeats 1600000 in
theorem AppS (s note : ByteArray) (w : World) (hs : s.size ≤ 1048576) (hn : note.size ≤ 1048576) :
    Calls Tryd.prog 19 #[.string s, .string note] w (RetApp w s note) := by
  have HW := Lib.hid (wholeS_any s w hs)
  by_cases h : codeJ s = 0
  · have H := Lib.hid h
    have HI := Lib.hid (fun v => l26Note_any note v (by omega))
    have hR : appR s note = if noteOk note.data.toList = true then if 4000 < s.size + (nextL s note).size then (⟨#[]⟩, 5) else (s ++ nextL s note, 0) else (⟨#[]⟩, 7) := if_pos h
    cases hok : noteOk note.data.toList with
    | false =>
      have Hr := Lib.hid (show appR s note = (⟨#[]⟩, 7) by rw [hR, hok]; rfl)
      rw [hok] at HI
      clear hR hok h
      go_enter Tryd.func19, Tryd.ntmps19
      go_wp2_with fail
      refine HW.out.mono ?_; rintro e w1 ⟨p, rfl, hp, hb⟩
      obtain ⟨g, rfl, _, _⟩ := hp H.out
      rw [H.out]
      clear hp
      go_wp2_with fail
      refine (HI.out _).mono ?_; rintro e w2 ⟨rfl, rfl⟩
      go_wp2_with fail
      go_ret2
      unfold RetApp; rw [Hr.out]; exact ⟨rfl, hb⟩
    | true =>
      have hs4 : s.size ≤ 4000 := by
        unfold codeJ at h; split at h
        · omega
        · omega
      have hw := readJ_way s
      have h1 := hw.2.1
      have h2 := hw.2.2.1
      have hz := nextL_size s note hs4
      have hR2 : appR s note = if 4000 < s.size + (nextL s note).size then (⟨#[]⟩, 5) else (s ++ nextL s note, 0) := by rw [hR, hok]; rfl
      have HX := Lib.hid (fun v => l26Line_any (readJ s).sum (((readJ s).notes.length : Int) + 1) note v (by omega) (by omega) hn)
      have hnl : nextL s note = lineS (((readJ s).notes.length : Int) + 1) (noteSum (readJ s).sum (((readJ s).notes.length : Int) + 1) note.data.toList) note := rfl
      rw [← hnl] at HX
      generalize noteSum (readJ s).sum (((readJ s).notes.length : Int) + 1) note.data.toList = S at *
      have HR2 := Lib.hid hR2
      rw [hok] at HI
      clear hR hR2 hok h hw hnl
      generalize nextL s note = L at *
      have e1 : (s ++ L : ByteArray).size = s.size + L.size := ByteArray.size_append
      by_cases hsz : 4000 < s.size + L.size
      · have Hr := Lib.hid (show appR s note = (⟨#[]⟩, 5) by rw [HR2.out, if_pos hsz])
        go_enter Tryd.func19, Tryd.ntmps19
        go_wp2_with fail
        refine HW.out.mono ?_; rintro e w1 ⟨p, rfl, hp, hb⟩
        obtain ⟨g, rfl, ⟨nv, hl, ho, _⟩, _⟩ := hp H.out
        obtain ⟨_, A, c, rfl, _⟩ := Rd.of_own ho
        rw [H.out]
        obtain ⟨hc0, hc1, hc2, hc3, _⟩ := hl.cells
        have Hl := Lib.hid hl
        have Ho := Lib.hid ho
        clear hp hl ho
        go_wp2_with fail
        refine (HI.out _).mono ?_; rintro e w2 ⟨rfl, rfl⟩
        go_wp2_with fail
        have hwn : IntKind.i64.wrap (((readJ s).notes.length : Int) + 1) = ((readJ s).notes.length : Int) + 1 := IntWalk.i64_in _ (by omega)
        go_region_held3 (fun w' => w'.cell? ⟨g, 2, none⟩ = some (.int .i64 (readJ s).sum) ∧ w'.cell? ⟨g, 3, none⟩ = some (.slice A (readJ s).notes.length c))
          (first | go_keep | assumption)
          ((go_at_call 38; refine (HX.out _).mono ?_; rintro e w5 ⟨rfl, hb5⟩; obtain ⟨hl5, _, hb3⟩ := lr_call Hl.out Ho.out hb hb.size hb5; obtain ⟨k0, k1, k2, k3, kf⟩ := hl5.cells; clear hl5))
        clear hwn
        go_wp2_with fail
        go_ret2
        unfold RetApp; rw [Hr.out]; exact ⟨rfl, hb3⟩
      · have Hr := Lib.hid (show appR s note = (s ++ L, 0) by rw [HR2.out, if_neg hsz])
        go_enter Tryd.func19, Tryd.ntmps19
        go_wp2_with fail
        refine HW.out.mono ?_; rintro e w1 ⟨p, rfl, hp, hb⟩
        obtain ⟨g, rfl, ⟨nv, hl, ho, _⟩, _⟩ := hp H.out
        obtain ⟨_, A, c, rfl, _⟩ := Rd.of_own ho
        rw [H.out]
        obtain ⟨hc0, hc1, hc2, hc3, _⟩ := hl.cells
        have Hl := Lib.hid hl
        have Ho := Lib.hid ho
        clear hp hl ho
        go_wp2_with fail
        refine (HI.out _).mono ?_; rintro e w2 ⟨rfl, rfl⟩
        go_wp2_with fail
        have hwn : IntKind.i64.wrap (((readJ s).notes.length : Int) + 1) = ((readJ s).notes.length : Int) + 1 := IntWalk.i64_in _ (by omega)
        go_region_held3 (fun w' => w'.cell? ⟨g, 2, none⟩ = some (.int .i64 (readJ s).sum) ∧ w'.cell? ⟨g, 3, none⟩ = some (.slice A (readJ s).notes.length c))
          (first | go_keep | assumption)
          ((go_at_call 38; refine (HX.out _).mono ?_; rintro e w5 ⟨rfl, hb5⟩; obtain ⟨hl5, _, hb3⟩ := lr_call Hl.out Ho.out hb hb.size hb5; obtain ⟨k0, k1, k2, k3, kf⟩ := hl5.cells; clear hl5))
        clear hwn
        go_wp2_with fail
        go_ret2
        unfold RetApp; rw [Hr.out]; exact ⟨rfl, hb3⟩
  · have Hr := Lib.hid (show appR s note = (⟨#[]⟩, codeJ s) from if_neg h)
    have hb1 : (codeJ s != 0) = true := by simp [h]
    have hb2 : (codeJ s == 0) = false := by simp [h]
    go_enter Tryd.func19, Tryd.ntmps19
    go_wp2_with fail
    refine HW.out.mono ?_; rintro e w1 ⟨p, rfl, _, hb⟩
    go_wp2_with fail
    go_ret2
    unfold RetApp; rw [Hr.out]; exact ⟨rfl, hb⟩

set_option maxHeartbeats 400000 in
theorem walkFnExactAppendNote (s : ByteArray) (_ws : s.size ≤ maxLen) (n : ByteArray) (_wn : n.size ≤ maxLen) (w : World) (ht : Tab w) :
    Calls Tryd.prog 6 #[.string s, .string n] w fun e w' => e = .returned (.bool true) ∧ Below w.heap.size w w' := by
  have hb0 := Below.refl w.heap.size w
  by_cases h : s.size ≤ 1048576
  · by_cases h2 : n.size ≤ 1048576
    · have HS := Lib.hid (fun w => AppS s n w h h2)
      have HI := Lib.hid (fun w ht => AppI s n w h h2 ht)
      have Ht := Lib.hid ht; clear ht
      unfold RetApp at HS HI
      generalize (appR s n).1 = x at *
      generalize (appR s n).2 = y at *
      go_enter Tryd.func6, Tryd.ntmps6
      go_wp2_with fail
      refine (HS.out _).mono ?_; rintro e w1 ⟨rfl, hb1⟩
      go_wp2_with fail
      refine (HI.out _ (Ht.out.below hb1)).mono ?_; rintro e w2 ⟨rfl, hb2⟩
      have hb := hb1.trans (hb2.mono hb1.size)
      clear hb1 hb2
      go_wp2_with fail
      go_ret
      exact ⟨rfl, hb⟩
    · clear ht
      go_enter Tryd.func6, Tryd.ntmps6
      go_wp2_with fail
      go_ret
      exact ⟨rfl, hb0⟩
  · clear ht
    go_enter Tryd.func6, Tryd.ntmps6
    go_wp2_with fail
    go_ret
    exact ⟨rfl, hb0⟩
end Go.Proofs.YtcidjbgjgancgaaDoor
