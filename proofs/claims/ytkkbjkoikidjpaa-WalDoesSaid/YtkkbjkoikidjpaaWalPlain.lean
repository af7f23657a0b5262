/-
  The records that frames tell: the plain law. Nothing here speaks of the program.
-/
import Derived.Test.YtkkbjkoikidjpaaWalFrames
namespace Go.Proofs.Ytkkbjkoikidjpaa
open Go.RowKit

/-- A record that can stand in a log. -/
def RecOk (x : ByteArray) : Prop := 1 ≤ x.size ∧ x.size ≤ 4096
theorem recOk_iff (x : ByteArray) : RecOk x ↔ ¬ (wFrame x).size = 0 := by
  by_cases h : 1 ≤ x.size ∧ x.size ≤ 4096
  · exact ⟨fun _ => by rw [wFrame_size h]; omega, fun _ => h⟩
  · exact ⟨fun k => absurd k h, fun k => absurd (by rw [wFrame, if_neg h]; rfl) k⟩

theorem rHas_app {a b : ByteArray} {n : Nat} (h : n = a.size) : rHas n (a ++ b, 0) = true := by rw [rHas_iff]; exact ⟨rfl, by simp; omega⟩
theorem rGo_app {a b : ByteArray} {n : Nat} (h : n = a.size) : rGo n (a ++ b, 0) = (b, 0) := by
  simp only [rGo, rHas_app h, if_true]
  rw [ByteArray.extract_append_eq_right h (by simp)]
theorem rGet_app {a b : ByteArray} {n : Nat} (h : n = a.size) : rGet n (a ++ b, 0) = a := by
  simp only [rGet, rHas_app h, if_true]
  rw [ByteArray.extract_append_eq_left h]

theorem rLen_app (s b : ByteArray) (h : s.size ≤ 4096) : rLen (blobB s ++ b, 0) = s.size := by
  unfold rLen
  rw [blobB, ByteArray.append_assoc, rGet_app (by rw [strOfNums_size]; rfl)]
  simp only [at0, strOfNums_data, List.map_cons, List.map_nil, List.getD_cons_zero, List.getD_cons_succ, UInt8.toNat_ofNat']
  omega
theorem rBad_app (s b : ByteArray) (most : Int) (h : s.size ≤ 4096) (hm : s.size ≤ most) : rBad most (blobB s ++ b, 0) = 0 := by
  have e1 : rHas 2 (blobB s ++ b, 0) = true := by rw [blobB, ByteArray.append_assoc]; exact rHas_app (by rw [strOfNums_size]; rfl)
  have e2 : rGo 2 (blobB s ++ b, 0) = (s ++ b, 0) := by rw [blobB, ByteArray.append_assoc]; exact rGo_app (by rw [strOfNums_size]; rfl)
  unfold rBad
  rw [e1, e2, rLen_app s b h]
  simp
  omega
theorem rBlob_app (s b : ByteArray) (most : Int) (h : s.size ≤ 4096) (hm : s.size ≤ most) : rBlob most (blobB s ++ b, 0) = s ∧ rBlobGo most (blobB s ++ b, 0) = (b, 0) := by
  have e2 : rGo 2 (blobB s ++ b, 0) = (s ++ b, 0) := by rw [blobB, ByteArray.append_assoc]; exact rGo_app (by rw [strOfNums_size]; rfl)
  unfold rBlob rBlobGo
  rw [rBad_app s b most h hm, rLen_app s b h, e2, if_pos rfl, if_pos rfl]
  exact ⟨rGet_app rfl, rGo_app rfl⟩


theorem wFrame_ok {x : ByteArray} (h : RecOk x) : wFrame x = blobB x ++ (sTag walW x).extract 0 8 := if_pos h
/-- A frame tells its record, whatever stands behind it. -/
theorem wFirst_app {x : ByteArray} (h : RecOk x) (b : ByteArray) : wFirst (wFrame x ++ b) = x := by
  have e : rBlob 4096 (wFrame x ++ b, 0) = x := by
    rw [wFrame_ok h, ByteArray.append_assoc]
    exact (rBlob_app x _ 4096 h.2 (by have := h.2; omega)).1
  unfold wFirst
  rw [e]
  have hs := wFrame_size h
  rw [if_pos ⟨by omega, by rw [ByteArray.size_append]; omega, ByteArray.extract_append_eq_left rfl⟩]

theorem at0_left {a b : ByteArray} {i : Nat} (h : i < a.size) : at0 (a ++ b) i = at0 a i := by
  unfold at0
  have h2 : i < a.data.toList.length := by simpa using h
  simp only [ByteArray.data_append, Array.toList_append, List.getD_eq_getElem?_getD]
  rw [List.getElem?_append_left h2]
theorem at0_part {s : ByteArray} {n i : Nat} (h : i < n) : at0 (s.extract 0 n) i = at0 s i := by
  unfold at0
  simp only [ByteArray.data_extract, Array.toList_extract, List.getD_eq_getElem?_getD, List.extract_eq_take_drop]
  simp [h]
/-- A frame's first two bytes are its record's length. -/
theorem frame_len {x : ByteArray} (h : RecOk x) (b : ByteArray) : at0 (wFrame x ++ b) 0 * 256 + at0 (wFrame x ++ b) 1 = x.size := by
  have h1 := rLen_app x ((sTag walW x).extract 0 8 ++ b) h.2
  have hs := wFrame_size h
  have e2 : rGet 2 (wFrame x ++ b, 0) = (wFrame x ++ b).extract 0 2 := rGet_ok (by rw [rHas_iff]; exact ⟨rfl, by show 2 ≤ (wFrame x ++ b).size; rw [ByteArray.size_append]; omega⟩)
  rw [← ByteArray.append_assoc, ← wFrame_ok h] at h1
  unfold rLen at h1
  rw [e2, at0_part (by omega), at0_part (by omega)] at h1
  exact h1
/-- What is cut off within a frame tells nothing. -/
theorem wFirst_cut {x : ByteArray} (h : RecOk x) (b : ByteArray) {c : Nat} (hc : c < (wFrame x).size) : (wFirst ((wFrame x ++ b).extract 0 c)).size = 0 := by
  apply Decidable.byContradiction
  intro hne
  obtain ⟨h1, h2, h3⟩ := wFirst_spec _ hne
  generalize wFirst ((wFrame x ++ b).extract 0 c) = y at *
  have hy : RecOk y := (recOk_iff y).2 (by omega)
  have hc2 : ((wFrame x ++ b).extract 0 c).size = c := by rw [ByteArray.size_extract, ByteArray.size_append]; omega
  have hys := wFrame_size hy
  have hxs := wFrame_size h
  have hy1 := hy.1
  rw [hc2] at h2
  have e : ∀ i, i < 2 → at0 (wFrame y) i = at0 (wFrame x ++ b) i := fun i hi => by
    rw [← h3, at0_part (by omega), at0_part (by omega)]
  have ly := frame_len hy ⟨#[]⟩
  have lx := frame_len h b
  rw [ba_append_nil, e 0 (by omega), e 1 (by omega), lx] at ly
  omega
theorem wFirst_none {s : ByteArray} (h : s.size = 0) : (wFirst s).size = 0 := by
  apply Decidable.byContradiction
  intro hne
  obtain ⟨h1, h2, _⟩ := wFirst_spec _ hne
  omega

theorem ba_extract_app {a b : ByteArray} : (a ++ b).extract a.size (a ++ b).size = b := by
  rw [ByteArray.extract_append_eq_right rfl (by simp)]
/-- Frames tell their records, and what bytes behind them tell. -/
theorem wRead_app : ∀ (l : List ByteArray), (∀ x ∈ l, RecOk x) → ∀ b, wRead (catF l ++ b) = l ++ wRead b
  | [], _, b => by rw [catF, ba_nil_append]; rfl
  | x :: l, h, b => by
    have hx := h x (List.mem_cons_self ..)
    have e : catF (x :: l) ++ b = wFrame x ++ (catF l ++ b) := by rw [catF, ByteArray.append_assoc]
    have hf := wFirst_app hx (catF l ++ b)
    have hn : ¬ (wFirst (wFrame x ++ (catF l ++ b))).size = 0 := by rw [hf]; have := hx.1; omega
    rw [e, wRead_yes hn, hf, ba_extract_app, wRead_app l (fun y hy => h y (List.mem_cons_of_mem _ hy)) b]
    rfl
/-- Frames that are cut off anywhere tell the records whose frames are whole. -/
theorem wRead_cut : ∀ (l : List ByteArray), (∀ x ∈ l, RecOk x) → ∀ c, c ≤ (catF l).size → ∃ k, k ≤ l.length ∧ wRead ((catF l).extract 0 c) = l.take k ∧ framesSize (l.take k) ≤ c ∧ (k < l.length → c < framesSize (l.take (k + 1)))
  | [], _, c, hc => by
    refine ⟨0, Nat.le_refl _, ?_, Nat.zero_le _, fun h => absurd h (Nat.not_lt_zero _)⟩
    have h0 : c = 0 := Nat.le_zero.1 hc
    rw [wRead_no (wFirst_none (by rw [ByteArray.size_extract, h0]; rfl))]
    rfl
  | x :: l, h, c, hc => by
    have hx := h x (List.mem_cons_self ..)
    by_cases hlt : c < (wFrame x).size
    · refine ⟨0, Nat.zero_le _, ?_, Nat.zero_le _, fun _ => by simp [framesSize]; exact hlt⟩
      rw [catF, wRead_no (wFirst_cut hx (catF l) hlt)]
      rfl
    · have hc2 : c - (wFrame x).size ≤ (catF l).size := by rw [catF, ByteArray.size_append] at hc; omega
      obtain ⟨k, hk, hr, hfs, hlast⟩ := wRead_cut l (fun y hy => h y (List.mem_cons_of_mem _ hy)) (c - (wFrame x).size) hc2
      refine ⟨k + 1, by simp; omega, ?_, ?_, ?_⟩
      · have e : (catF (x :: l)).extract 0 c = catF [x] ++ (catF l).extract 0 (c - (wFrame x).size) := by
          rw [catF, catF, catF, ba_append_nil]
          apply ba_ext
          simp only [ByteArray.data_extract, ByteArray.data_append, Array.toList_append, Array.toList_extract, List.extract_eq_take_drop, List.drop_zero, Nat.sub_zero]
          rw [List.take_append]
          congr 1
          apply List.take_of_length_le
          show (wFrame x).data.toList.length ≤ c
          simp
          show (wFrame x).size ≤ c
          omega
        rw [e, wRead_app [x] (fun y hy => by simp at hy; rw [hy]; exact hx), hr]
        rfl
      · rw [List.take_succ_cons, framesSize]; omega
      · intro hk2
        have := hlast (by simpa using hk2)
        rw [List.take_succ_cons, framesSize]; omega
end Go.Proofs.Ytkkbjkoikidjpaa
