/-
  A disk of two files: the plain law. Nothing here speaks of the program.
-/
import Derived.Test.YtkkbjkoikidjpaaWalRewrite
import Derived.Test.YtkkbjkoikidjpaaWalPlain
namespace Go.Proofs.Ytkkbjkoikidjpaa
open Go.RowKit

theorem ba_none (s : ByteArray) : s.extract 0 0 = ⟨#[]⟩ := by apply ba_ext; simp
theorem two_sum (a b : DFile) : fileSum [a, b] = a.1.size + b.1.size := by simp [fileSum]
theorem two_read0 (a b : DFile) : dRead [a, b] 0 = a.1 := rfl
theorem two_read1 (a b : DFile) : dRead [a, b] 1 = b.1 := rfl
theorem two_sync0 (a b : DFile) : dSync [a, b] 0 = (0, [(a.1, a.1.size), b]) := rfl
theorem two_sync1 (a b : DFile) : dSync [a, b] 1 = (0, [a, (b.1, b.1.size)]) := rfl
theorem two_cut0 (a b : DFile) (n : Nat) (h : n ≤ a.1.size) : dCut [a, b] 0 n = (0, [(a.1.extract 0 n, n), b]) := by
  have h1 : hasB [a, b].length 0 = true := rfl
  have h2 : fileAt [a, b] 0 = a := rfl
  unfold dCut
  rw [h1, h2]
  have h3 : decide ((0 : Int) ≤ n) = true := by simp
  have h4 : decide ((n : Int) ≤ (a.1.size : Int)) = true := by simp; exact h
  rw [h3, h4]
  rfl
theorem two_cut1 (a b : DFile) : dCut [a, b] 1 0 = (0, [a, (⟨#[]⟩, 0)]) := by
  have h1 : hasB [a, b].length 1 = true := rfl
  have h2 : fileAt [a, b] 1 = b := rfl
  unfold dCut
  rw [h1, h2]
  have h4 : decide ((0 : Int) ≤ (b.1.size : Int)) = true := by simp
  rw [h4]
  show (0, [a, (b.1.extract 0 0, 0)]) = _
  rw [ba_none]
theorem two_append0 (a b : DFile) (room : Nat) (s : ByteArray) : dAppend [a, b] room 0 s = if s.size ≤ room - (a.1.size + b.1.size) then (0, [(a.1 ++ s, a.2), b]) else (9, [a, b]) := by
  have h1 : hasB [a, b].length 0 = true := rfl
  unfold dAppend
  rw [h1, two_sum]
  rfl
theorem two_append1 (a b : DFile) (room : Nat) (s : ByteArray) : dAppend [a, b] room 1 s = if s.size ≤ room - (a.1.size + b.1.size) then (0, [a, (b.1 ++ s, b.2)]) else (9, [a, b]) := by
  have h1 : hasB [a, b].length 1 = true := rfl
  unfold dAppend
  rw [h1, two_sum]
  rfl
theorem two_swap (a b : DFile) (ha : a.1.size ≤ a.2) (hb : b.1.size ≤ b.2) : dSwap [a, b] 0 1 = (0, [b, a]) := by
  have h1 : (hasB [a, b].length 0 && hasB [a, b].length 1) = true := rfl
  have h2 : fileAt [a, b] 0 = a := rfl
  have h3 : fileAt [a, b] 1 = b := rfl
  unfold dSwap
  rw [h1, h2, h3]
  have h4 : decide (a.2 < a.1.size) = false := by simp; omega
  have h5 : decide (b.2 < b.1.size) = false := by simp; omega
  rw [h4, h5]
  rfl
theorem two_crash (a b : DFile) (keep : List Int) : dCrash [a, b] keep = [crashF keep 0 a, crashF keep 1 b] := rfl

theorem framesSize_read_le (s : ByteArray) : framesSize (wRead s) ≤ s.size := by
  induction h : s.size using Nat.strongRecOn generalizing s with
  | _ n ih =>
    by_cases h0 : (wFirst s).size = 0
    · rw [wRead_no h0]; exact Nat.zero_le _
    · obtain ⟨h1, h2, _⟩ := wFirst_spec s h0
      have h3 : (s.extract (wFrame (wFirst s)).size s.size).size = s.size - (wFrame (wFirst s)).size := by rw [ByteArray.size_extract]; omega
      have h4 := ih (s.size - (wFrame (wFirst s)).size) (by omega) (s.extract (wFrame (wFirst s)).size s.size) h3
      rw [wRead_yes h0]
      generalize wRead (s.extract (wFrame (wFirst s)).size s.size) = q at *
      rw [framesSize]
      omega
/-- A log that is opened of a disk of two files. -/
theorem two_open (a b : DFile) : lOpen [a, b] = (wRead a.1, [(a.1.extract 0 (framesSize (wRead a.1)), framesSize (wRead a.1)), (⟨#[]⟩, 0)]) := by
  unfold lOpen
  rw [two_sync1]
  dsimp only
  rw [two_cut1]
  dsimp only
  rw [two_read0, two_cut0 _ _ _ (framesSize_read_le a.1)]

theorem framesSize_app (l m : List ByteArray) : framesSize (l ++ m) = framesSize l + framesSize m := by
  induction l with
  | nil => simp [framesSize]
  | cons x l ih => simp [framesSize, ih]; omega
theorem framesSize_take_le (l : List ByteArray) {i j : Nat} (h : i ≤ j) : framesSize (l.take i) ≤ framesSize (l.take j) := by
  have e : l.take j = l.take i ++ (l.drop i).take (j - i) := by
    rw [show j = i + (j - i) from by omega, List.take_add]
    simp
  rw [e, framesSize_app]
  omega

/-- What a log of a disk of two files is, between the calls: its records' frames are file 0; those that are sure, are sure there; file 1 is empty. -/
structure LogOk (l : List ByteArray) (sure : Nat) (a b : DFile) : Prop where
  recs : ∀ x ∈ l, RecOk x
  file : a.1 = catF l
  le : sure ≤ l.length
  part : framesSize (l.take sure) ≤ a.2
  part2 : a.2 ≤ a.1.size
  none : b = (⟨#[]⟩, 0)

/-- A crash of such a log, and its opening: a beginning of its records, at least those that were sure. -/
theorem LogOk.crash {l : List ByteArray} {sure : Nat} {a b : DFile} (h : LogOk l sure a b) (keep : List Int) :
    ∃ k, sure ≤ k ∧ k ≤ l.length ∧ framesSize (l.take k) ≤ crashN keep 0 a ∧ (lOpen (dCrash [a, b] keep)).1 = l.take k ∧ ∃ a' b', (lOpen (dCrash [a, b] keep)).2 = [a', b'] ∧ LogOk (l.take k) k a' b' := by
  obtain ⟨hr, hf, hle, hp, hp2, hn⟩ := h
  obtain ⟨N, hN⟩ : ∃ N, N = crashN keep 0 a := ⟨_, rfl⟩
  have h1 : a.2 ≤ N := by rw [hN]; unfold crashN; omega
  have h2 : N ≤ a.1.size := by rw [hN]; exact crashN_le keep 0 a hp2
  have e0 : crashF keep 0 a = (a.1.extract 0 N, N) := by rw [hN]; rfl
  rw [two_crash, two_open, e0]
  dsimp only
  obtain ⟨k, hk, hrd, hfs, hlast⟩ := wRead_cut l hr N (by rw [← hf]; exact h2)
  rw [hf, hrd]
  have hks : sure ≤ k := by
    apply Decidable.byContradiction
    intro hc
    have h3 := hlast (by omega)
    have h4 := framesSize_take_le l (show k + 1 ≤ sure by omega)
    omega
  have hsz : framesSize (l.take k) ≤ (catF l).size := by rw [catF_size]; have := framesSize_take_le l (show k ≤ l.length from hk); rwa [List.take_length] at this
  have hcut : ((catF l).extract 0 N).extract 0 (framesSize (l.take k)) = catF (l.take k) := by
    have e1 : catF l = catF (l.take k) ++ catF (l.drop k) := by rw [← catF_append, List.take_append_drop]
    have e2 : ((catF l).extract 0 N).extract 0 (framesSize (l.take k)) = (catF l).extract 0 (framesSize (l.take k)) := by
      apply ba_ext
      simp only [ByteArray.data_extract, Array.extract_extract, Nat.zero_add]
      rw [show min (framesSize (l.take k)) N = framesSize (l.take k) from by omega]
    rw [e2, e1, ByteArray.extract_append_eq_left (catF_size _).symm]
  refine ⟨k, hks, hk, by rw [← hN]; exact hfs, rfl, _, _, rfl, ⟨fun x hx => hr x (List.mem_of_mem_take hx), hcut, by simp; omega, ?_, ?_, rfl⟩⟩
  · rw [List.take_take, Nat.min_self]; exact Nat.le_refl _
  · show framesSize (l.take k) ≤ (((catF l).extract 0 N).extract 0 (framesSize (l.take k))).size
    rw [hcut, catF_size]; exact Nat.le_refl _
end Go.Proofs.Ytkkbjkoikidjpaa
