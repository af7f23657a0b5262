/-
  sha: bytes taken in.
-/
import Derived.Test.YtkkbjkoikidjpaaShaMix
import Derived.ScopeJumps
import Derived.WalkMore
import Derived.StillTailTactics
namespace Go.Proofs.Ytkkbjkoikidjpaa
open Go.RowKit

theorem sAdd_len (st : List Int) (r : R8) : ∀ i, (sAdd st r i).length = st.length
  | 0 => rfl
  | i + 1 => by rw [sAdd, List.length_set, sAdd_len st r i]
/-- A state behind bytes, and the bytes that are left. -/
def sRest (st : List Int) (b : ByteArray) : List Int × ByteArray :=
  if _h : 64 ≤ b.size then sRest (sMix st (b.extract 0 64)) (b.extract 64 b.size) else (st, b)
termination_by b.size
decreasing_by simp [ByteArray.size_extract]; omega
theorem sRest_more {st : List Int} {b : ByteArray} (h : 64 ≤ b.size) : sRest st b = sRest (sMix st (b.extract 0 64)) (b.extract 64 b.size) := by
  rw [sRest, dif_pos h]
theorem sRest_done {st : List Int} {b : ByteArray} (h : ¬ 64 ≤ b.size) : sRest st b = (st, b) := by
  rw [sRest, dif_neg h]

def leftSize (A : Nat) (w : World) : Nat := match w.cell? ⟨A, 8, none⟩ with
  | some (.string s) => s.size
  | _ => 0
theorem leftSize_of {w : World} {A : Nat} {st : List Int} {left : ByteArray} {n : Int} (h : HashAt w A st left n) : leftSize A w = left.size := by
  unfold leftSize; rw [h.left_]

def WriteAt (w0 : World) (A : Nat) (n : Int) (fin : List Int × ByteArray) (a : Act) (w : World) : Prop :=
  ∃ (st : List Int) (left : ByteArray) (u1 u2 u3 u4 u5 u6 u7 u8 u9 u10 u11 u12 u13 u14 u15 u16 u17 u18 u19 u20 u21 u22 u23 u24 u25 u26 u27 u28 u29 u30 u31 u32 u33 u34 u35 u36 u37 u38 u39 u40 u41 u42 u43 : Value), HashAt w A st left n ∧ Keeps [A] w0 w ∧ sRest st left = fin ∧ left.size ≤ 2199023255552 ∧
    a = { tmps := #[.pointer (some ⟨A, 0, none⟩), u1, u2, u3, u4, u5, u6, u7, u8, u9, u10, u11, u12, u13, u14, u15, u16, u17, u18, u19, u20, u21, u22, u23, u24, u25, u26, u27, u28, u29, u30, u31, u32, u33, u34, u35, u36, u37, u38, u39, u40, u41, u42, u43], defers := [] }

set_option maxRecDepth 100000 in
set_option maxHeartbeats 4000000 in
theorem write_c {w : World} {A : Nat} {st : List Int} {left : ByteArray} {n : Int} (hA : HashAt w A st left n) (s : ByteArray) (hl : left.size ≤ 1099511627776) (hs : s.size ≤ 1099511627776) (hn1 : 0 ≤ n) (hn2 : n ≤ 4611686018427387904) :
    Calls Try.prog 70 #[.pointer (some ⟨A, 0, none⟩), .string s] w fun e w' => e = .returned (.tuple #[]) ∧ HashAt w' A (sRest st (left ++ s)).1 (sRest st (left ++ s)).2 (n + s.size) ∧ Keeps [A] w w' := by
  obtain ⟨fin, hfin⟩ : ∃ fin, sRest st (left ++ s) = fin := ⟨_, rfl⟩
  rw [hfin]
  have HF := Go.Lib.hid hfin
  clear hfin
  have c8 := hA.left_
  have c9 := hA.n_
  have z8 := hA.fz 8
  have z9 := hA.fz 9
  have hlt := hA.lt
  have h2 : HashAt ((w.setCell ⟨A, 9, none⟩ (.int .i64 (n + s.size))).setCell ⟨A, 8, none⟩ (.string (left ++ s))) A st (left ++ s) (n + s.size) := (hA.setN _).setLeft _
  have K2 : Keeps [A] w ((w.setCell ⟨A, 9, none⟩ (.int .i64 (n + s.size))).setCell ⟨A, 8, none⟩ (.string (left ++ s))) := ((Keeps.refl _ _).setCell (.inl (by simp)) _).setCell (.inl (by simp)) _
  have hsz : (left ++ s).size ≤ 2199023255552 := by rw [ByteArray.size_append]; omega
  have hsum : left.size + s.size ≤ 9223372036854775807 := by omega
  go_enter Try.func70, Try.ntmps70
  go_wp2
  refine wp_scope_jumps 0 (fun a' w' => WriteAt w A (n + s.size) fin a' w') (fun _ w' => leftSize A w') rfl ?_ ?_
  · obtain ⟨w2, hw2⟩ : ∃ w2, w2 = ((w.setCell ⟨A, 9, none⟩ (.int .i64 (n + s.size))).setCell ⟨A, 8, none⟩ (.string (left ++ s))) := ⟨_, rfl⟩
    go_wp2
    rw [← hw2] at h2 K2 ⊢
    go_step3
    clear c8 c9 z8 z9 hA hw2
    have hfb := HF.out
    clear HF
    generalize left ++ s = b at *
    have d8 := h2.left_
    have y8 := h2.fz 8
    by_cases h64 : 64 ≤ b.size
    · have e64 : (b.extract 0 64).size = 64 := by rw [ByteArray.size_extract]; omega
      go_wp2_with fail
      go_still_tail 8, (by kernel_rfl)
      change wpList _ _ _ _ _ w2.drew
      go_wp2_with fail
      refine (mix_c (h2.keep (S := []) (Keeps.refl _ _).drew (by simp)) (b.extract 0 64) e64).mono ?_
      rintro e w4 ⟨rfl, h4, k4⟩
      have K4 := (K2.drew).trans k4
      clear d8 y8
      have d8 := h4.left_
      have y8 := h4.fz 8
      have h5 := h4.setLeft (b.extract 64 b.size)
      have K5 := K4.setCell (p := ⟨A, 8, none⟩) (.inl (by simp)) (.string (b.extract 64 b.size))
      go_wp2_with fail
      go_step3
      exact ⟨rfl, sMix st (b.extract 0 64), b.extract 64 b.size, _, _, _, _, _, _, _, _, _, _, _, _, _, _, _, _, _, _, _, _, _, _, _, _, _, _, _, _, _, _, _, _, _, _, _, _, _, _, _, _, _, _, _, h5, K5, by rw [← sRest_more h64]; exact hfb, by rw [ByteArray.size_extract]; omega, rfl⟩
    · go_wp2
      simp only [Exit.jump]
      go_end0
      rw [sRest_done h64] at hfb
      subst hfb
      exact ⟨rfl, h2, K2⟩
  · rintro a' w2 ⟨st, b, u1, u2, u3, u4, u5, u6, u7, u8, u9, u10, u11, u12, u13, u14, u15, u16, u17, u18, u19, u20, u21, u22, u23, u24, u25, u26, u27, u28, u29, u30, u31, u32, u33, u34, u35, u36, u37, u38, u39, u40, u41, u42, u43, h2, K2, hfb, hsz, rfl⟩
    clear c8 c9 z8 z9 hA
    clear HF
    have d8 := h2.left_
    have y8 := h2.fz 8
    by_cases h64 : 64 ≤ b.size
    · have e64 : (b.extract 0 64).size = 64 := by rw [ByteArray.size_extract]; omega
      go_wp2_with fail
      go_still_tail 8, (by kernel_rfl)
      change wpList _ _ _ _ _ w2.drew
      go_wp2_with fail
      refine (mix_c (h2.keep (S := []) (Keeps.refl _ _).drew (by simp)) (b.extract 0 64) e64).mono ?_
      rintro e w4 ⟨rfl, h4, k4⟩
      have K4 := (K2.drew).trans k4
      clear d8 y8
      have d8 := h4.left_
      have y8 := h4.fz 8
      have h5 := h4.setLeft (b.extract 64 b.size)
      have K5 := K4.setCell (p := ⟨A, 8, none⟩) (.inl (by simp)) (.string (b.extract 64 b.size))
      go_wp2_with fail
      go_step3
      refine ⟨rfl, ⟨sMix st (b.extract 0 64), b.extract 64 b.size, _, _, _, _, _, _, _, _, _, _, _, _, _, _, _, _, _, _, _, _, _, _, _, _, _, _, _, _, _, _, _, _, _, _, _, _, _, _, _, _, _, _, _, h5, K5, by rw [← sRest_more h64]; exact hfb, by rw [ByteArray.size_extract]; omega, rfl⟩, ?_⟩
      rw [leftSize_of h5, leftSize_of h2, ByteArray.size_extract]; omega
    · go_wp2
      simp only [Exit.jump]
      go_end0
      rw [sRest_done h64] at hfb
      subst hfb
      exact ⟨rfl, h2, K2⟩
end Go.Proofs.Ytkkbjkoikidjpaa
