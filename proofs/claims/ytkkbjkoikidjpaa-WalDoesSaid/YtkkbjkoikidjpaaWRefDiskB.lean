/-
  The contracts of the document's answer for disks, more: what writes.
-/
import Derived.Test.YtkkbjkoikidjpaaWRefDisk
import Derived.Deep.RegionWith
namespace Go.Proofs.Ytkkbjkoikidjpaa
open Go.RowKit

theorem fB_append (f : DFile) (s : ByteArray) (h : f.2 ≤ f.1.size) : fB (f.1 ++ s, f.2) = fB f ++ s := by
  unfold fB
  simp only [ByteArray.size_append]
  rw [ByteArray.extract_append]
  have e1 : f.2 - f.1.size = 0 := by omega
  have e2 : f.1.size + s.size - f.1.size = s.size := by omega
  rw [e1, e2, ByteArray.extract_zero_size]
  congr 1
  rw [ByteArray.ext_iff, ByteArray.data_extract, ByteArray.data_extract]
  refine Array.ext (by simp) fun i h1 h2 => by simp
theorem fA_append (f : DFile) (s : ByteArray) (h : f.2 ≤ f.1.size) : fA (f.1 ++ s, f.2) = fA f := by
  unfold fA
  simp only
  rw [ByteArray.extract_append, Nat.sub_eq_zero_of_le h]
  simp
theorem fA_cut (s : ByteArray) (n : Nat) : fA (s.extract 0 n, n) = s.extract 0 n := by
  unfold fA; simp only; rw [ByteArray.extract_extract]; simp
theorem fB_cut (s : ByteArray) (n : Nat) : fB (s.extract 0 n, n) = ByteArray.empty := by
  unfold fB; simp only; rw [ByteArray.extract_eq_empty_iff, ByteArray.size_extract]; omega

set_option maxRecDepth 100000 in
set_option maxHeartbeats 1000000 in
theorem r_append {w : World} {D LA LB : Nat} {l : List DFile} {room : Nat} (h : RefAt w D LA LB l room) (f : Int) (s : ByteArray) :
    Calls Try.prog 46 #[.pointer (some ⟨D, 0, none⟩), .int .i64 f, .string s] w fun e w' =>
      e = .returned (.int .i64 (dAppend l room f s).1) ∧ RefAt w' D LA LB (dAppend l room f s).2 room ∧ Keeps [LA, LB] w w' := by
  have h0 := h.c0
  have h1 := h.few
  have h2 := h.small
  cases hb : hasB l.length f with
  | false =>
    have R : Hid (dAppend l room f s = (1, l)) := by simp [Hid, dAppend, hb]
    go_enter Try.func46, Try.ntmps46
    go_wp2_with (go_at_call 50; refine (r_has h _).mono ?_; rintro e w' ⟨rfl, rfl⟩)
    go_ret
    rw [R.out]
    exact ⟨rfl, h, Keeps.refl _ _⟩
  | true =>
    obtain ⟨k, rfl, hk⟩ := hasB_spec hb
    by_cases hroom : s.size ≤ room - fileSum l
    · have h3 := h.fits
      have h4 := fileSum_mem_le l k hk
      have hs := h.sure k hk
      have hz : (fB l[k]).size + s.size ≤ 16777216 := by rw [size_fB]; omega
      have hzz : ¬ 9223372036854775807 < (fB l[k]).size + s.size := by omega
      have R : Hid (dAppend l room k s = (0, l.set k (l[k].1 ++ s, l[k].2))) := by simp [Hid, dAppend, hb, fileAt_eq hk, hroom]
      clear h3 h4 hs
      go_enter Try.func46, Try.ntmps46
      go_wp2_with (first | (go_at_call 50; refine (r_has h _).mono ?_; rintro e w' ⟨rfl, rfl⟩) | (go_at_call 58; refine (r_free h).mono ?_; rintro e w' ⟨rfl, hkp⟩; have h' := h.keep hkp (by simp) (by simp) (by simp); have hs' := h'.cb k hk; have h0' := h'.c1; have hz' := h'.fzb k))
      go_still_tail 15, (by kernel_rfl)
      change wpList _ _ _ _ _ (World.drew _)
      go_wp2
      go_ret
      rw [R.out]
      have hs := h.sure k hk
      refine ⟨rfl, h'.put (by simp; omega) ?_ ?_ ?_ ?_, ((hkp.sub (by simp)).setCell (.inl (by simp)) _).drew⟩
      · rw [fileSum_set l k _ hk]; have := h.fits; have := fileSum_mem_le l k hk; simp; omega
      · rw [heap_drew, heap_setCell_other h.ne2]
      · rw [heap_drew, heap_setCell_other h.ne3, h'.ha, fA_append _ _ hs]
        congr 3
        exact (set_same (rStrs_at fA l k hk)).symm
      · rw [heap_drew, heap_setCell_same h'.hb, fB_append _ _ hs]; simp
    · have R : Hid (dAppend l room k s = (9, l)) := by simp [Hid, dAppend, hb, hroom]
      go_enter Try.func46, Try.ntmps46
      go_wp2_with (first | (go_at_call 50; refine (r_has h _).mono ?_; rintro e w' ⟨rfl, rfl⟩) | (go_at_call 58; refine (r_free h).mono ?_; rintro e w' ⟨rfl, hkp⟩))
      go_ret
      rw [R.out]
      exact ⟨rfl, h.keep hkp (by simp) (by simp) (by simp), hkp.sub (by simp)⟩

set_option maxRecDepth 100000 in
set_option maxHeartbeats 1000000 in
theorem r_cut {w : World} {D LA LB : Nat} {l : List DFile} {room : Nat} (h : RefAt w D LA LB l room) (f n : Int) :
    Calls Try.prog 45 #[.pointer (some ⟨D, 0, none⟩), .int .i64 f, .int .i64 n] w fun e w' =>
      e = .returned (.int .i64 (dCut l f n).1) ∧ RefAt w' D LA LB (dCut l f n).2 room ∧ Keeps [LA, LB] w w' := by
  have h0 := h.c0
  have h1 := h.few
  have h2 := h.small
  have h5 := h.c1
  cases hb : hasB l.length f with
  | false =>
    have R : Hid (dCut l f n = (1, l)) := by simp [Hid, dCut, hb]
    go_enter Try.func45, Try.ntmps45
    go_wp2_with (go_at_call 50; refine (r_has h _).mono ?_; rintro e w' ⟨rfl, rfl⟩)
    go_ret
    rw [R.out]
    exact ⟨rfl, h, Keeps.refl _ _⟩
  | true =>
    obtain ⟨k, rfl, hk⟩ := hasB_spec hb
    have hrd : dRead l k = l[k].1 := by simp [dRead, hb, fileAt_eq hk]
    by_cases hn0 : 0 ≤ n
    · by_cases hn1 : n ≤ l[k].1.size
      · obtain ⟨m, rfl⟩ := Int.eq_ofNat_of_zero_le hn0
        have hm : m ≤ l[k].1.size := by omega
        have hb2 := h.sz k hk
        have hd : decide ((m : Int) < 0) = false := by simp
        have R : Hid (dCut l k m = (0, l.set k (l[k].1.extract 0 m, m))) := by simp [Hid, dCut, hb, fileAt_eq hk, hm]
        have HR := Lib.hid hrd
        have ha := h.ca k hk
        have hbb := h.cb k hk
        have hza := h.fza k
        have hzb := h.fzb k
        have hne := h.ne3
        have hne1 := h.ne1
        have hne2 := h.ne2
        clear hrd hn0 hn1
        go_enter Try.func45, Try.ntmps45
        go_wp2_with (first | (go_at_call 50; refine (r_has h _).mono ?_; rintro e w' ⟨rfl, rfl⟩) | (go_at_call 28; refine (r_read h _).mono ?_; rw [HR.out]; rintro e w' ⟨rfl, n1, rfl⟩))
        go_cut [] (fun wx => ∃ n, wx = (w.setCell ⟨LA, k, none⟩ (.string (l[k].1.extract 0 m))).drewN n)
        case first =>
          go_region_with (go_at_call 28; refine (r_read (h.keep (S := []) (by repeat (first | exact Keeps.refl _ _ | apply Keeps.drew | apply Keeps.drewN)) (by simp) (by simp) (by simp)) _).mono ?_; rw [HR.out]; rintro e w' ⟨rfl, n1, rfl⟩)
          all_goals go_wp2
          all_goals go_meet
          case rel => exact ⟨_, rfl⟩
          case rel => exact ⟨_, rfl⟩
        case rest =>
          obtain ⟨n2, rfl⟩ := hcut
          go_wp2
          go_ret
          rw [R.out]
          refine ⟨rfl, h.put (by simp [ByteArray.size_extract]; omega) ?_ ?_ ?_ ?_, ?_⟩
          · rw [fileSum_set l k _ hk]; have := h.fits; have := fileSum_mem_le l k hk; simp [ByteArray.size_extract]; omega
          · rw [heap_setCell_other hne2, heap_drewN, heap_setCell_other hne1]
          · rw [heap_setCell_other hne, heap_drewN, heap_setCell_same h.ha, fA_cut]; simp
          · rw [heap_setCell_same (by rw [heap_drewN, heap_setCell_other (Ne.symm hne)]; exact h.hb), fB_cut]; simp; rfl
          · exact (((Keeps.refl _ _).setCell (.inl (by simp)) _).drewN _).setCell (.inl (by simp)) _
      · have hd : decide (n < 0) = false := by simpa using hn0
        have hd2 : l[k].1.size < n := by omega
        have R : Hid (dCut l k n = (1, l)) := by simp [Hid, dCut, hb, fileAt_eq hk, hn1]
        have HR := Lib.hid hrd
        clear hrd hn1
        go_enter Try.func45, Try.ntmps45
        go_wp2_with (first | (go_at_call 50; refine (r_has h _).mono ?_; rintro e w' ⟨rfl, rfl⟩) | (go_at_call 28; refine (r_read h _).mono ?_; rw [HR.out]; rintro e w' ⟨rfl, n1, rfl⟩))
        go_ret
        rw [R.out]
        exact ⟨rfl, h.keep ((Keeps.refl [] _).drewN _) (by simp) (by simp) (by simp), (Keeps.refl _ _).drewN _⟩
    · have hd : decide (n < 0) = true := by simpa using hn0
      have R : Hid (dCut l k n = (1, l)) := by simp [Hid, dCut, hb, hn0]
      clear hrd
      go_enter Try.func45, Try.ntmps45
      go_wp2_with (go_at_call 50; refine (r_has h _).mono ?_; rintro e w' ⟨rfl, rfl⟩)
      go_ret
      rw [R.out]
      exact ⟨rfl, h, Keeps.refl _ _⟩

theorem cut_all (l : List DFile) (f : Int) : dCut l f (dRead l f).size = dSync l f := by
  unfold dCut dSync dRead
  cases hasB l.length f <;> simp

set_option maxRecDepth 100000 in
set_option maxHeartbeats 1000000 in
theorem r_sync {w : World} {D LA LB : Nat} {l : List DFile} {room : Nat} (h : RefAt w D LA LB l room) (f : Int) :
    Calls Try.prog 47 #[.pointer (some ⟨D, 0, none⟩), .int .i64 f] w fun e w' =>
      e = .returned (.int .i64 (dSync l f).1) ∧ RefAt w' D LA LB (dSync l f).2 room ∧ Keeps [LA, LB] w w' := by
  have R := Lib.hid (cut_all l f)
  go_enter Try.func47, Try.ntmps47
  go_wp2_with fail
  refine (r_read h f).mono ?_
  rintro e w' ⟨rfl, n, rfl⟩
  go_wp2_with fail
  refine (r_cut (h.keep ((Keeps.refl [] _).drewN n) (by simp) (by simp) (by simp)) f _).mono ?_
  rw [R.out]
  rintro e w' ⟨rfl, h1, k1⟩
  go_wp2_with fail
  go_ret
  exact ⟨rfl, h1, ((Keeps.refl _ _).drewN n).trans k1⟩

theorem fA_full (f : DFile) (h : f.2 = f.1.size) : fA f = f.1 := by unfold fA; rw [h, ByteArray.extract_zero_size]
theorem fB_full (f : DFile) (h : f.2 = f.1.size) : fB f = ByteArray.empty := by unfold fB; rw [h, ByteArray.extract_same]
theorem fB_part (f : DFile) (h : f.2 < f.1.size) : ¬ (fB f).toList = [] := by
  intro e
  have h1 : (fB f).size = 0 := by
    have : (fB f).toList.length = 0 := by rw [e]; rfl
    simpa [ByteArray.toList_eq] using this
  rw [size_fB] at h1
  omega
theorem isEmpty_of {l : List UInt8} (h : ¬ l = []) : l.isEmpty = false := by simpa using h

set_option maxRecDepth 100000 in
set_option maxHeartbeats 1000000 in
theorem r_swap_no {w : World} {D LA LB : Nat} {l : List DFile} {room : Nat} (h : RefAt w D LA LB l room) (a b : Int) (hb : (hasB l.length a && hasB l.length b) = false) :
    Calls Try.prog 48 #[.pointer (some ⟨D, 0, none⟩), .int .i64 a, .int .i64 b] w fun e w' => e = .returned (.int .i64 1) ∧ w = w' := by
  cases h1 : hasB l.length a with
  | false =>
    clear hb
    go_enter Try.func48, Try.ntmps48
    go_wp2_with (go_at_call 50; refine (r_has h _).mono ?_; rintro e w' ⟨rfl, rfl⟩)
    go_ret
    exact ⟨rfl, rfl⟩
  | true =>
    have h2 : hasB l.length b = false := by simpa [h1] using hb
    clear hb
    go_enter Try.func48, Try.ntmps48
    go_wp2_with (go_at_call 50; refine (r_has h _).mono ?_; rintro e w' ⟨rfl, rfl⟩)
    go_ret
    exact ⟨rfl, rfl⟩

set_option maxRecDepth 100000 in
set_option maxHeartbeats 1000000 in
theorem r_swap_state {w : World} {D LA LB : Nat} {l : List DFile} {room : Nat} (h : RefAt w D LA LB l room) (a b : Nat) (ha : a < l.length) (hb : b < l.length) (s1 : l[a].2 < l[a].1.size ∨ l[b].2 < l[b].1.size) :
    Calls Try.prog 48 #[.pointer (some ⟨D, 0, none⟩), .int .i64 a, .int .i64 b] w fun e w' => e = .returned (.int .i64 8) ∧ w = w' := by
  have h0 := h.c1
  have hf := h.few
  have ca := h.cb a ha
  have cb := h.cb b hb
  have ba := hasB_of_lt ha
  have bb := hasB_of_lt hb
  by_cases s0 : l[a].2 < l[a].1.size
  · have n1 := fB_part _ s0
    have n2 := isEmpty_of n1
    clear s1
    go_enter Try.func48, Try.ntmps48
    go_wp2_with (go_at_call 50; refine (r_has h _).mono ?_; rintro e w' ⟨rfl, rfl⟩)
    go_ret
    exact ⟨rfl, rfl⟩
  · have s2 := s1.resolve_left s0
    have s3 := h.sure a ha
    rw [fB_full _ (by omega)] at ca
    have n1 := fB_part _ s2
    have n2 := isEmpty_of n1
    clear s1 s0 s2 s3
    go_enter Try.func48, Try.ntmps48
    go_wp2_with (go_at_call 50; refine (r_has h _).mono ?_; rintro e w' ⟨rfl, rfl⟩)
    go_ret
    exact ⟨rfl, rfl⟩

theorem RefAt.swap {w : World} {D LA LB : Nat} {l : List DFile} {room : Nat} (h : RefAt w D LA LB l room) {a b : Nat} (ha : a < l.length) (hb : b < l.length) (s1 : l[a].2 = l[a].1.size) (s2 : l[b].2 = l[b].1.size) :
    RefAt ((w.setCell ⟨LA, a, none⟩ (.string (fA l[b]))).setCell ⟨LA, b, none⟩ (.string (fA l[a]))) D LA LB (swapped l a b) room := by
  have e : ∀ g, rStrs g (swapped l a b) = ((rStrs g l).set a (.string (g l[b]))).set b (.string (g l[a])) := fun g => by
    rw [rStrs_set, rStrs_set]; simp [swapped, fileAt_eq ha, fileAt_eq hb]
  refine ⟨?_, ?_, ?_, h.ne1, h.ne2, h.ne3, by rw [length_swapped]; exact h.few, by rw [fileSum_swapped l a b ha hb]; exact h.fits, h.small, ?_⟩
  · rw [heap_setCell_other h.ne1, heap_setCell_other h.ne1, length_swapped]; exact h.hd
  · rw [heap_setCell_same (heap_setCell_same h.ha _), e]; simp
  · rw [heap_setCell_other (Ne.symm h.ne3), heap_setCell_other (Ne.symm h.ne3), h.hb, e, fB_full _ s1, fB_full _ s2]
    have g1 : (rStrs fB l).set a (.string ByteArray.empty) = rStrs fB l := by
      have := rStrs_at fB l a ha
      rw [fB_full _ s1] at this
      exact set_same this
    have g2 : (rStrs fB l).set b (.string ByteArray.empty) = rStrs fB l := by
      have := rStrs_at fB l b hb
      rw [fB_full _ s2] at this
      exact set_same this
    rw [g1, g2]
  · intro i hi
    rw [length_swapped] at hi
    simp only [swapped, fileAt_eq ha, fileAt_eq hb, List.getElem_set]
    split
    · exact h.sure a ha
    · split
      · exact h.sure b hb
      · exact h.sure i hi

set_option maxRecDepth 100000 in
set_option maxHeartbeats 1000000 in
theorem r_swap_yes {w : World} {D LA LB : Nat} {l : List DFile} {room : Nat} (h : RefAt w D LA LB l room) (a b : Nat) (ha : a < l.length) (hb : b < l.length) (s1 : l[a].2 = l[a].1.size) (s2 : l[b].2 = l[b].1.size) :
    Calls Try.prog 48 #[.pointer (some ⟨D, 0, none⟩), .int .i64 a, .int .i64 b] w fun e w' =>
      e = .returned (.int .i64 0) ∧ RefAt w' D LA LB (swapped l a b) room ∧ Keeps [LA, LB] w w' := by
  have h0 := h.c0
  have h1 := h.c1
  have hf := h.few
  have ca := h.cb a ha
  have cb := h.cb b hb
  rw [fB_full _ s1] at ca
  rw [fB_full _ s2] at cb
  have xa := h.ca a ha
  have xb := h.ca b hb
  have za := h.fza a
  have zb := h.fza b
  have ba := hasB_of_lt ha
  have bb := hasB_of_lt hb
  have ne1 := h.ne1
  have ne3 := h.ne3
  have S1 := Lib.hid s1
  have S2 := Lib.hid s2
  clear s1 s2
  go_enter Try.func48, Try.ntmps48
  go_wp2_with (go_at_call 50; refine (r_has h _).mono ?_; rintro e w' ⟨rfl, rfl⟩)
  go_still_tail 13, (by kernel_rfl)
  change wpList _ _ _ _ _ w.drew
  by_cases hab : a = b
  · subst hab
    go_wp2
    go_ret
    exact ⟨rfl, (h.swap ha hb S1.out S2.out).keep (S := []) (by repeat (first | exact Keeps.refl _ _ | apply Keeps.drew)) (by simp) (by simp) (by simp), (((Keeps.refl _ _).setCell (.inl (by simp)) _).setCell (.inl (by simp)) _).drew⟩
  · go_wp2
    go_ret
    exact ⟨rfl, (h.swap ha hb S1.out S2.out).keep (S := []) (by repeat (first | exact Keeps.refl _ _ | apply Keeps.drew)) (by simp) (by simp) (by simp), (((Keeps.refl _ _).setCell (.inl (by simp)) _).setCell (.inl (by simp)) _).drew⟩

theorem r_swap {w : World} {D LA LB : Nat} {l : List DFile} {room : Nat} (h : RefAt w D LA LB l room) (a b : Int) :
    Calls Try.prog 48 #[.pointer (some ⟨D, 0, none⟩), .int .i64 a, .int .i64 b] w fun e w' =>
      e = .returned (.int .i64 (dSwap l a b).1) ∧ RefAt w' D LA LB (dSwap l a b).2 room ∧ Keeps [LA, LB] w w' := by
  cases hb : (hasB l.length a && hasB l.length b) with
  | false =>
    refine (r_swap_no h a b hb).mono ?_
    rintro e w' ⟨rfl, rfl⟩
    simp only [dSwap, hb]
    exact ⟨rfl, h, Keeps.refl _ _⟩
  | true =>
    have hb' := hb
    simp only [Bool.and_eq_true] at hb'
    obtain ⟨m, rfl, hm⟩ := hasB_spec hb'.1
    obtain ⟨n, rfl, hn⟩ := hasB_spec hb'.2
    have f1 := h.sure m hm
    have f2 := h.sure n hn
    by_cases hs : l[m].2 < l[m].1.size ∨ l[n].2 < l[n].1.size
    · refine (r_swap_state h m n hm hn hs).mono ?_
      rintro e w' ⟨rfl, rfl⟩
      have e1 : dSwap l m n = (8, l) := by simp [dSwap, hb, fileAt_eq hm, fileAt_eq hn, hs]
      rw [e1]
      exact ⟨rfl, h, Keeps.refl _ _⟩
    · refine (r_swap_yes h m n hm hn (by omega) (by omega)).mono ?_
      rintro e w' ⟨rfl, hd, hk⟩
      have e1 : dSwap l m n = (0, swapped l m n) := by simp [dSwap, hb, fileAt_eq hm, fileAt_eq hn]; omega
      rw [e1]
      exact ⟨rfl, hd, hk⟩
end Go.Proofs.Ytkkbjkoikidjpaa
