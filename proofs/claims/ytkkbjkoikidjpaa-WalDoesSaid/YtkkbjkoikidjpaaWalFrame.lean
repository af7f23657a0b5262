/-
  The contracts of package wal: a record's frame.
-/
import Derived.Test.YtkkbjkoikidjpaaShaTag
import Derived.Test.YtkkbjkoikidjpaaWReader
namespace Go.Proofs.Ytkkbjkoikidjpaa
open Go.RowKit

def walW : ByteArray := ⟨#[119, 97, 108]⟩
/-- A record as it stands in the file. -/
def wFrame (s : ByteArray) : ByteArray := if 1 ≤ s.size ∧ s.size ≤ 4096 then blobB s ++ (sTag walW s).extract 0 8 else ⟨#[]⟩

theorem size_blobB (s : ByteArray) : (blobB s).size = s.size + 2 := by
  unfold blobB; rw [ByteArray.size_append, strOfNums_size]; simp; omega
theorem sTag_size (u p : ByteArray) : (sTag u p).size = 16 := sShort_size _
theorem wFrame_size {s : ByteArray} (h : 1 ≤ s.size ∧ s.size ≤ 4096) : (wFrame s).size = s.size + 10 := by
  rw [wFrame, if_pos h, ByteArray.size_append, size_blobB, ByteArray.size_extract, sTag_size]; omega
theorem str_empty {s : ByteArray} (h : s.size = 0) : s = ⟨#[]⟩ := by
  obtain ⟨d⟩ := s
  have : d.size = 0 := h
  rw [Array.eq_empty_of_size_eq_zero this]

theorem str_ne {s : ByteArray} (h : ¬ s.size = 0) : s.toList.isEmpty = false := by
  have e2 : ¬ s.toList = [] := by
    intro hx; exact h (by simpa [ByteArray.toList_eq] using congrArg List.length hx)
  simpa using e2

set_option maxRecDepth 10000 in
set_option maxHeartbeats 2000000 in
theorem frame_c {w : World} (s : ByteArray) (hs : s.size ≤ 1048576) :
    Calls Try.prog 33 #[.string s] w fun e w' => e = .returned (.string (wFrame s)) ∧ Keeps [] w w' := by
  by_cases h0 : s.size = 0
  · have e := str_empty h0
    subst e
    have H : Hid (wFrame ⟨#[]⟩ = ⟨#[]⟩) := if_neg (fun k => Nat.not_succ_le_zero _ k.1)
    generalize wFrame ⟨#[]⟩ = z at *
    go_enter Try.func33, Try.ntmps33
    go_wp2
    go_ret
    exact ⟨by rw [H.out]; rfl, Keeps.refl _ _⟩
  · have e3 := str_ne h0
    by_cases h1 : s.size ≤ 4096
    · have H : Hid (wFrame s = blobB s ++ (sTag walW s).extract 0 8) := if_pos ⟨by omega, h1⟩
      obtain ⟨tg, htg⟩ : ∃ t, t = sTag walW s := ⟨_, rfl⟩
      obtain ⟨bl, hbl⟩ : ∃ t, t = wText (wBlob (.empty, 0) s) := ⟨_, rfl⟩
      have hbl2 : bl = blobB s := by
        have hd : decide ((s.size : Int) ≤ 4096) = true := by simp; omega
        rw [hbl]; simp [wBlob, wPut, wText, hd]
      have T : ∀ (w : World) (b : Nat), b < w.heap.size → w.cell? ⟨b, 0, none⟩ = some (.string s) → Calls Try.prog 54 #[.string ⟨#[119, 97, 108]⟩, .slice (some ⟨b, 0, none⟩) 1 1] w fun e w' => e = .returned (.string tg) ∧ Keeps [] w w' := by
        intro w b hb hc
        rw [htg]
        exact tag_c walW s (by decide) hs hb hc
      have ht : tg.size = 16 := by rw [htg]; exact sTag_size walW s
      have hbz : bl.size = s.size + 2 := by rw [hbl2]; exact size_blobB s
      have HB : Hid (blobB s ++ (sTag walW s).extract 0 8 = bl ++ tg.extract 0 8) := by show _ = _; rw [hbl2, htg]
      have hsum : bl.size + (tg.extract 0 8).size ≤ 9223372036854775807 := by rw [ByteArray.size_extract]; omega
      have BW := fun (w : World) (A : Nat) (h : WAt 80 w A (.empty, 0)) => blob_w h s (by decide) (by omega)
      have TW := fun (w : World) (A : Nat) (h : WAt 80 w A (wBlob (.empty, 0) s)) => text_w h
      rw [← hbl] at TW
      generalize wBlob (.empty, 0) s = st at *
      have ht2 : (8 : Int) ≤ (tg.size : Int) := by omega
      have hd2 : decide (4096 < (s.size : Int)) = false := by simp; omega
      clear hbl hbl2 htg h1 h0
      go_enter Try.func33, Try.ntmps33
      go_wp2_with fail
      refine (BW _ _ ⟨heap_alloc_same⟩).mono ?_
      rintro e w1 ⟨rfl, g1, k1⟩
      go_wp2_with fail
      refine (TW _ _ g1).mono ?_
      rintro e w2 ⟨rfl, rfl⟩
      go_wp2_with fail
      refine (T _ _ (by simp) (by simp)).mono ?_
      rintro e w3 ⟨rfl, k3⟩
      go_wp2
      go_ret
      exact ⟨by rw [H.out, HB.out]; rfl, ((((Keeps.refl [] w).alloc _).new k1 (by simp)).alloc _).trans k3⟩
    · have H : Hid (wFrame s = ⟨#[]⟩) := if_neg (by omega)
      generalize wFrame s = z at *
      have hd2 : decide (4096 < (s.size : Int)) = true := by simp; omega
      go_enter Try.func33, Try.ntmps33
      go_wp2
      go_ret
      exact ⟨by rw [H.out]; rfl, Keeps.refl _ _⟩

theorem str_same {s t : ByteArray} (h : s = t) : (s.toList == t.toList) = true := by simp [h]
theorem str_other {s t : ByteArray} (h : ¬ s = t) : (s.toList == t.toList) = false := by
  rw [beq_eq_false_iff_ne]
  intro e
  rw [ByteArray.toList_eq, ByteArray.toList_eq] at e
  exact h (ba_ext e)

/-- The record whose frame bytes begin with; empty: none. -/
def wFirst (s : ByteArray) : ByteArray :=
  if 1 ≤ (wFrame (rBlob 4096 (s, 0))).size ∧ (wFrame (rBlob 4096 (s, 0))).size ≤ s.size ∧ s.extract 0 (wFrame (rBlob 4096 (s, 0))).size = wFrame (rBlob 4096 (s, 0)) then rBlob 4096 (s, 0) else ⟨#[]⟩

theorem rBlob_size (s : ByteArray) : (rBlob 4096 (s, 0)).size ≤ 65535 := by
  unfold rBlob
  split
  · unfold rGet
    split
    · rw [ByteArray.size_extract]
      have h1 := at0_lt (rGet 2 (s, 0)) 0
      have h2 := at0_lt (rGet 2 (s, 0)) 1
      unfold rLen
      omega
    · show 0 ≤ _; omega
  · show 0 ≤ _; omega

set_option maxRecDepth 10000 in
set_option maxHeartbeats 2000000 in
theorem first_c {w : World} (s : ByteArray) :
    Calls Try.prog 37 #[.string s] w fun e w' => e = .returned (.string (wFirst s)) ∧ Keeps [] w w' := by
  have RC := fun w => read_c (w := w) s
  have BC := fun (w : World) (A : Nat) (h : WAt 91 w A (s, 0)) => blob_c h 4096
  have hx := rBlob_size s
  have HF : Hid (∀ x f, x = rBlob 4096 (s, 0) → f = wFrame x → wFirst s = if 1 ≤ f.size ∧ f.size ≤ s.size ∧ s.extract 0 f.size = f then x else ⟨#[]⟩) := by
    rintro x f rfl rfl; rfl
  obtain ⟨x, hx1⟩ : ∃ x, x = rBlob 4096 (s, 0) := ⟨_, rfl⟩
  rw [← hx1] at BC hx
  have FC := fun w => frame_c (w := w) x (by omega)
  obtain ⟨f, hf1⟩ : ∃ f, f = wFrame x := ⟨_, rfl⟩
  rw [← hf1] at FC
  have E := HF.out x f hx1 hf1
  have HE := Go.Lib.hid E
  clear HF hx1 hf1 E
  generalize wFirst s = z at *
  go_enter Try.func37, Try.ntmps37
  go_wp2_with fail
  refine (RC _).mono ?_
  rintro e w1 ⟨rfl, g1, k1⟩
  go_wp2_with fail
  refine (BC _ _ g1).mono ?_
  rintro e w2 ⟨rfl, _, k2⟩
  have K2 := k1.new k2 (by simp)
  clear RC BC g1 k1 k2
  go_wp2_with fail
  refine (FC _).mono ?_
  rintro e w3 ⟨rfl, k3⟩
  have K3 := K2.trans k3
  clear FC K2 k3
  by_cases h0 : f.size = 0
  · have e := str_empty h0
    subst e
    go_wp2
    go_ret
    exact ⟨by rw [HE.out, if_neg (fun k => Nat.not_succ_le_zero _ k.1)]; rfl, K3⟩
  · have e3 := str_ne h0
    by_cases h1 : f.size ≤ s.size
    · have hd : decide ((s.size : Int) < (f.size : Int)) = false := by simp; omega
      have hd' : decide (s.size < f.size) = false := by simp; omega
      have h1' : (f.size : Int) ≤ (s.size : Int) := by omega
      by_cases h2 : s.extract 0 f.size = f
      · have hb := str_same h2
        go_wp2
        go_ret
        exact ⟨by rw [HE.out, if_pos ⟨by omega, h1, h2⟩]; rfl, K3⟩
      · have hb := str_other h2
        go_wp2
        go_ret
        exact ⟨by rw [HE.out, if_neg (fun k => h2 k.2.2)]; rfl, K3⟩
    · have hd : decide ((s.size : Int) < (f.size : Int)) = true := by simp; omega
      go_wp2
      go_ret
      exact ⟨by rw [HE.out, if_neg (fun k => h1 k.2.1)]; rfl, K3⟩
end Go.Proofs.Ytkkbjkoikidjpaa
