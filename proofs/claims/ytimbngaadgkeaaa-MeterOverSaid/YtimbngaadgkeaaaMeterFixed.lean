/-
  The fixed calls of the laws on sessions.
-/
import Derived.Test.YtimbngaadgkeaaaMeterMostC
namespace Go.Proofs.Ytimbngaadgkeaaa
open Go.RowKit

theorem cells7 {w : World} {B : Nat} {x0 x1 x2 x3 x4 x5 x6 : Value} {t : TypeId} (h : w.heap[B]? = some (.cells #[x0, x1, x2, x3, x4, x5, x6] t (0, 0))) :
    w.cell? ⟨B, 0, none⟩ = some x0 ∧ w.cell? ⟨B, 1, none⟩ = some x1 ∧ w.cell? ⟨B, 2, none⟩ = some x2 ∧ w.cell? ⟨B, 3, none⟩ = some x3 ∧ w.cell? ⟨B, 4, none⟩ = some x4 ∧ w.cell? ⟨B, 5, none⟩ = some x5 ∧ w.cell? ⟨B, 6, none⟩ = some x6 :=
  ⟨(cell_of_heap h).trans rfl, (cell_of_heap h).trans rfl, (cell_of_heap h).trans rfl, (cell_of_heap h).trans rfl, (cell_of_heap h).trans rfl, (cell_of_heap h).trans rfl, (cell_of_heap h).trans rfl⟩

section
variable {w : World}
theorem fx1 : Calls Try.prog 13 #[.int .u64 3, .int .u64 10, .int .u64 100, .int .i64 5, .int .i64 2] w fun e w' => e = .returned (.tuple #[.agg #[.int .u64 3, .int .u64 10, .int .u64 100, .int .i64 5, .int .i64 1, .int .u64 0, .int .i64 2], .int .i64 0]) ∧ Keeps [] w w' := by
  have h := new_c (w := w) 3 10 100 5 2 (by decide) (by decide) (by decide) ⟨by decide, by decide⟩ ⟨by decide, by decide⟩
  rw [show mNew 3 10 100 5 2 = (⟨3, 10, 100, 5, 1, 0, 2⟩, 0) by kernel_rfl] at h
  exact h
theorem fx2 : Calls Try.prog 13 #[.int .u64 0, .int .u64 10, .int .u64 100, .int .i64 5, .int .i64 2] w fun e w' => e = .returned (.tuple #[.agg #[.int .u64 0, .int .u64 0, .int .u64 0, .int .i64 0, .int .i64 0, .int .u64 0, .int .i64 0], .int .i64 1]) ∧ Keeps [] w w' := by
  have h := new_c (w := w) 0 10 100 5 2 (by decide) (by decide) (by decide) ⟨by decide, by decide⟩ ⟨by decide, by decide⟩
  rw [show mNew 0 10 100 5 2 = (⟨0, 0, 0, 0, 0, 0, 0⟩, 1) by kernel_rfl] at h
  exact h
theorem fx3 : Calls Try.prog 10 #[.agg #[.int .u64 3, .int .u64 10, .int .u64 100, .int .i64 5, .int .i64 1, .int .u64 0, .int .i64 2], .int .u64 5, .int .u64 5, .int .i64 4] w fun e w' => e = .returned (.tuple #[.agg #[.int .u64 3, .int .u64 10, .int .u64 100, .int .i64 5, .int .i64 1, .int .u64 5, .int .i64 4], .int .i64 0]) ∧ Keeps [] w w' := by
  have h := grant_c (w := w) ⟨3, 10, 100, 5, 1, 0, 2⟩ 5 5 4 ⟨by decide, by decide, by decide, ⟨by decide, by decide⟩, ⟨by decide, by decide⟩, by decide, ⟨by decide, by decide⟩⟩ (by decide) (by decide) ⟨by decide, by decide⟩
  rw [show mGrant ⟨3, 10, 100, 5, 1, 0, 2⟩ 5 5 4 = (⟨3, 10, 100, 5, 1, 5, 4⟩, 0) by kernel_rfl] at h
  exact h
theorem fx4 : Calls Try.prog 10 #[.agg #[.int .u64 3, .int .u64 10, .int .u64 100, .int .i64 5, .int .i64 1, .int .u64 0, .int .i64 2], .int .u64 6, .int .u64 5, .int .i64 4] w fun e w' => e = .returned (.tuple #[.agg #[.int .u64 0, .int .u64 0, .int .u64 0, .int .i64 0, .int .i64 0, .int .u64 0, .int .i64 0], .int .i64 11]) ∧ Keeps [] w w' := by
  have h := grant_c (w := w) ⟨3, 10, 100, 5, 1, 0, 2⟩ 6 5 4 ⟨by decide, by decide, by decide, ⟨by decide, by decide⟩, ⟨by decide, by decide⟩, by decide, ⟨by decide, by decide⟩⟩ (by decide) (by decide) ⟨by decide, by decide⟩
  rw [show mGrant ⟨3, 10, 100, 5, 1, 0, 2⟩ 6 5 4 = (⟨0, 0, 0, 0, 0, 0, 0⟩, 11) by kernel_rfl] at h
  exact h
theorem fx5 : Calls Try.prog 10 #[.agg #[.int .u64 3, .int .u64 10, .int .u64 100, .int .i64 5, .int .i64 1, .int .u64 0, .int .i64 2], .int .u64 101, .int .u64 1000, .int .i64 4] w fun e w' => e = .returned (.tuple #[.agg #[.int .u64 0, .int .u64 0, .int .u64 0, .int .i64 0, .int .i64 0, .int .u64 0, .int .i64 0], .int .i64 9]) ∧ Keeps [] w w' := by
  have h := grant_c (w := w) ⟨3, 10, 100, 5, 1, 0, 2⟩ 101 1000 4 ⟨by decide, by decide, by decide, ⟨by decide, by decide⟩, ⟨by decide, by decide⟩, by decide, ⟨by decide, by decide⟩⟩ (by decide) (by decide) ⟨by decide, by decide⟩
  rw [show mGrant ⟨3, 10, 100, 5, 1, 0, 2⟩ 101 1000 4 = (⟨0, 0, 0, 0, 0, 0, 0⟩, 9) by kernel_rfl] at h
  exact h
theorem fx6 : Calls Try.prog 10 #[.agg #[.int .u64 3, .int .u64 10, .int .u64 100, .int .i64 5, .int .i64 1, .int .u64 0, .int .i64 2], .int .u64 0, .int .u64 5, .int .i64 4] w fun e w' => e = .returned (.tuple #[.agg #[.int .u64 0, .int .u64 0, .int .u64 0, .int .i64 0, .int .i64 0, .int .u64 0, .int .i64 0], .int .i64 1]) ∧ Keeps [] w w' := by
  have h := grant_c (w := w) ⟨3, 10, 100, 5, 1, 0, 2⟩ 0 5 4 ⟨by decide, by decide, by decide, ⟨by decide, by decide⟩, ⟨by decide, by decide⟩, by decide, ⟨by decide, by decide⟩⟩ (by decide) (by decide) ⟨by decide, by decide⟩
  rw [show mGrant ⟨3, 10, 100, 5, 1, 0, 2⟩ 0 5 4 = (⟨0, 0, 0, 0, 0, 0, 0⟩, 1) by kernel_rfl] at h
  exact h
theorem fx7 : Calls Try.prog 10 #[.agg #[.int .u64 3, .int .u64 10, .int .u64 100, .int .i64 5, .int .i64 1, .int .u64 0, .int .i64 2], .int .u64 1, .int .u64 5, .int .i64 1] w fun e w' => e = .returned (.tuple #[.agg #[.int .u64 0, .int .u64 0, .int .u64 0, .int .i64 0, .int .i64 0, .int .u64 0, .int .i64 0], .int .i64 1]) ∧ Keeps [] w w' := by
  have h := grant_c (w := w) ⟨3, 10, 100, 5, 1, 0, 2⟩ 1 5 1 ⟨by decide, by decide, by decide, ⟨by decide, by decide⟩, ⟨by decide, by decide⟩, by decide, ⟨by decide, by decide⟩⟩ (by decide) (by decide) ⟨by decide, by decide⟩
  rw [show mGrant ⟨3, 10, 100, 5, 1, 0, 2⟩ 1 5 1 = (⟨0, 0, 0, 0, 0, 0, 0⟩, 1) by kernel_rfl] at h
  exact h
theorem fx8 : Calls Try.prog 23 #[.agg #[.int .u64 3, .int .u64 10, .int .u64 100, .int .i64 5, .int .i64 1, .int .u64 5, .int .i64 4]] w fun e w' => e = .returned (.tuple #[.agg #[.int .u64 3, .int .u64 10, .int .u64 100, .int .i64 5, .int .i64 2, .int .u64 5, .int .i64 4], .int .i64 0]) ∧ Keeps [] w w' := by
  have h := pause_c (w := w) ⟨3, 10, 100, 5, 1, 5, 4⟩ ⟨by decide, by decide, by decide, ⟨by decide, by decide⟩, ⟨by decide, by decide⟩, by decide, ⟨by decide, by decide⟩⟩
  rw [show mPause ⟨3, 10, 100, 5, 1, 5, 4⟩ = (⟨3, 10, 100, 5, 2, 5, 4⟩, 0) by kernel_rfl] at h
  exact h
theorem fx9 : Calls Try.prog 10 #[.agg #[.int .u64 3, .int .u64 10, .int .u64 100, .int .i64 5, .int .i64 2, .int .u64 5, .int .i64 4], .int .u64 1, .int .u64 100, .int .i64 9] w fun e w' => e = .returned (.tuple #[.agg #[.int .u64 0, .int .u64 0, .int .u64 0, .int .i64 0, .int .i64 0, .int .u64 0, .int .i64 0], .int .i64 8]) ∧ Keeps [] w w' := by
  have h := grant_c (w := w) ⟨3, 10, 100, 5, 2, 5, 4⟩ 1 100 9 ⟨by decide, by decide, by decide, ⟨by decide, by decide⟩, ⟨by decide, by decide⟩, by decide, ⟨by decide, by decide⟩⟩ (by decide) (by decide) ⟨by decide, by decide⟩
  rw [show mGrant ⟨3, 10, 100, 5, 2, 5, 4⟩ 1 100 9 = (⟨0, 0, 0, 0, 0, 0, 0⟩, 8) by kernel_rfl] at h
  exact h
theorem fx10 : Calls Try.prog 24 #[.agg #[.int .u64 3, .int .u64 10, .int .u64 100, .int .i64 5, .int .i64 2, .int .u64 5, .int .i64 4], .int .i64 7] w fun e w' => e = .returned (.tuple #[.agg #[.int .u64 3, .int .u64 10, .int .u64 100, .int .i64 5, .int .i64 1, .int .u64 5, .int .i64 7], .int .i64 0]) ∧ Keeps [] w w' := by
  have h := resume_c (w := w) ⟨3, 10, 100, 5, 2, 5, 4⟩ 7 ⟨by decide, by decide, by decide, ⟨by decide, by decide⟩, ⟨by decide, by decide⟩, by decide, ⟨by decide, by decide⟩⟩ ⟨by decide, by decide⟩
  rw [show mResume ⟨3, 10, 100, 5, 2, 5, 4⟩ 7 = (⟨3, 10, 100, 5, 1, 5, 7⟩, 0) by kernel_rfl] at h
  exact h
theorem fx11 : Calls Try.prog 24 #[.agg #[.int .u64 3, .int .u64 10, .int .u64 100, .int .i64 5, .int .i64 1, .int .u64 5, .int .i64 4], .int .i64 7] w fun e w' => e = .returned (.tuple #[.agg #[.int .u64 0, .int .u64 0, .int .u64 0, .int .i64 0, .int .i64 0, .int .u64 0, .int .i64 0], .int .i64 8]) ∧ Keeps [] w w' := by
  have h := resume_c (w := w) ⟨3, 10, 100, 5, 1, 5, 4⟩ 7 ⟨by decide, by decide, by decide, ⟨by decide, by decide⟩, ⟨by decide, by decide⟩, by decide, ⟨by decide, by decide⟩⟩ ⟨by decide, by decide⟩
  rw [show mResume ⟨3, 10, 100, 5, 1, 5, 4⟩ 7 = (⟨0, 0, 0, 0, 0, 0, 0⟩, 8) by kernel_rfl] at h
  exact h
theorem fx12 : Calls Try.prog 25 #[.agg #[.int .u64 3, .int .u64 10, .int .u64 100, .int .i64 5, .int .i64 1, .int .u64 5, .int .i64 7], .int .i64 12] w fun e w' => e = .returned (.agg #[.int .u64 3, .int .u64 10, .int .u64 100, .int .i64 5, .int .i64 1, .int .u64 5, .int .i64 7]) ∧ Keeps [] w w' := by
  have h := tick_c (w := w) ⟨3, 10, 100, 5, 1, 5, 7⟩ 12 ⟨by decide, by decide, by decide, ⟨by decide, by decide⟩, ⟨by decide, by decide⟩, by decide, ⟨by decide, by decide⟩⟩ ⟨by decide, by decide⟩
  rw [show mTick ⟨3, 10, 100, 5, 1, 5, 7⟩ 12 = ⟨3, 10, 100, 5, 1, 5, 7⟩ by kernel_rfl] at h
  exact h
theorem fx13 : Calls Try.prog 25 #[.agg #[.int .u64 3, .int .u64 10, .int .u64 100, .int .i64 5, .int .i64 1, .int .u64 5, .int .i64 7], .int .i64 13] w fun e w' => e = .returned (.agg #[.int .u64 3, .int .u64 10, .int .u64 100, .int .i64 5, .int .i64 3, .int .u64 5, .int .i64 7]) ∧ Keeps [] w w' := by
  have h := tick_c (w := w) ⟨3, 10, 100, 5, 1, 5, 7⟩ 13 ⟨by decide, by decide, by decide, ⟨by decide, by decide⟩, ⟨by decide, by decide⟩, by decide, ⟨by decide, by decide⟩⟩ ⟨by decide, by decide⟩
  rw [show mTick ⟨3, 10, 100, 5, 1, 5, 7⟩ 13 = ⟨3, 10, 100, 5, 3, 5, 7⟩ by kernel_rfl] at h
  exact h
theorem fx14 : Calls Try.prog 23 #[.agg #[.int .u64 3, .int .u64 10, .int .u64 100, .int .i64 5, .int .i64 3, .int .u64 5, .int .i64 7]] w fun e w' => e = .returned (.tuple #[.agg #[.int .u64 0, .int .u64 0, .int .u64 0, .int .i64 0, .int .i64 0, .int .u64 0, .int .i64 0], .int .i64 8]) ∧ Keeps [] w w' := by
  have h := pause_c (w := w) ⟨3, 10, 100, 5, 3, 5, 7⟩ ⟨by decide, by decide, by decide, ⟨by decide, by decide⟩, ⟨by decide, by decide⟩, by decide, ⟨by decide, by decide⟩⟩
  rw [show mPause ⟨3, 10, 100, 5, 3, 5, 7⟩ = (⟨0, 0, 0, 0, 0, 0, 0⟩, 8) by kernel_rfl] at h
  exact h
theorem fx15 : Calls Try.prog 29 #[.agg #[.int .u64 3, .int .u64 10, .int .u64 100, .int .i64 5, .int .i64 1, .int .u64 0, .int .i64 2], .int .u64 7] w fun e w' => e = .returned (.tuple #[.int .u64 21, .int .i64 0]) ∧ Keeps [] w w' := by
  have h := cost_c (w := w) ⟨3, 10, 100, 5, 1, 0, 2⟩ 7 ⟨by decide, by decide, by decide, ⟨by decide, by decide⟩, ⟨by decide, by decide⟩, by decide, ⟨by decide, by decide⟩⟩ (by decide)
  rw [show nMul (Sess.price ⟨3, 10, 100, 5, 1, 0, 2⟩) 7 = (21, 0) by kernel_rfl] at h
  exact h
theorem fx16 : Calls Try.prog 15 #[.agg #[.int .u64 3, .int .u64 10, .int .u64 100, .int .i64 5, .int .i64 1, .int .u64 5, .int .i64 4]] w fun e w' => e = .returned (.int .u64 15) ∧ Keeps [] w w' := by
  have h := due_c (w := w) ⟨3, 10, 100, 5, 1, 5, 4⟩ ⟨by decide, by decide, by decide, ⟨by decide, by decide⟩, ⟨by decide, by decide⟩, by decide, ⟨by decide, by decide⟩⟩
  rw [show mDue ⟨3, 10, 100, 5, 1, 5, 4⟩ = 15 by kernel_rfl] at h
  exact h
theorem fx17 : Calls Try.prog 17 #[.agg #[.int .u64 3, .int .u64 10, .int .u64 100, .int .i64 5, .int .i64 1, .int .u64 5, .int .i64 4], .int .u64 5] w fun e w' => e = .returned (.int .u64 10) ∧ Keeps [] w w' := by
  have h := owed_c (w := w) ⟨3, 10, 100, 5, 1, 5, 4⟩ 5 ⟨by decide, by decide, by decide, ⟨by decide, by decide⟩, ⟨by decide, by decide⟩, by decide, ⟨by decide, by decide⟩⟩ (by decide)
  rw [show mOwed ⟨3, 10, 100, 5, 1, 5, 4⟩ 5 = 10 by kernel_rfl] at h
  exact h
theorem fx18 : Calls Try.prog 17 #[.agg #[.int .u64 3, .int .u64 10, .int .u64 100, .int .i64 5, .int .i64 1, .int .u64 5, .int .i64 4], .int .u64 50] w fun e w' => e = .returned (.int .u64 0) ∧ Keeps [] w w' := by
  have h := owed_c (w := w) ⟨3, 10, 100, 5, 1, 5, 4⟩ 50 ⟨by decide, by decide, by decide, ⟨by decide, by decide⟩, ⟨by decide, by decide⟩, by decide, ⟨by decide, by decide⟩⟩ (by decide)
  rw [show mOwed ⟨3, 10, 100, 5, 1, 5, 4⟩ 50 = 0 by kernel_rfl] at h
  exact h
theorem fx19 : Calls Try.prog 21 #[.agg #[.int .u64 3, .int .u64 10, .int .u64 100, .int .i64 5, .int .i64 1, .int .u64 0, .int .i64 2], .int .u64 5] w fun e w' => e = .returned (.int .u64 5) ∧ Keeps [] w w' := by
  have h := most_c (w := w) ⟨3, 10, 100, 5, 1, 0, 2⟩ 5 ⟨by decide, by decide, by decide, ⟨by decide, by decide⟩, ⟨by decide, by decide⟩, by decide, ⟨by decide, by decide⟩⟩ (by decide)
  rw [show mMost ⟨3, 10, 100, 5, 1, 0, 2⟩ 5 = 5 by kernel_rfl] at h
  exact h
theorem fx20 : Calls Try.prog 21 #[.agg #[.int .u64 3, .int .u64 10, .int .u64 100, .int .i64 5, .int .i64 3, .int .u64 5, .int .i64 7], .int .u64 100] w fun e w' => e = .returned (.int .u64 0) ∧ Keeps [] w w' := by
  have h := most_c (w := w) ⟨3, 10, 100, 5, 3, 5, 7⟩ 100 ⟨by decide, by decide, by decide, ⟨by decide, by decide⟩, ⟨by decide, by decide⟩, by decide, ⟨by decide, by decide⟩⟩ (by decide)
  rw [show mMost ⟨3, 10, 100, 5, 3, 5, 7⟩ 100 = 0 by kernel_rfl] at h
  exact h
end

set_option maxRecDepth 100000 in
set_option maxHeartbeats 10000000 in
theorem fixed_c {w : World} : Calls Try.prog 19 #[] w fun e w' => e = .returned (.bool true) ∧ Keeps [] w w' := by
  go_enter Try.func19, Try.ntmps19
  have K0 : Keeps [] w w := Keeps.refl _ _
  go_wp2_with fail
  refine fx1.mono ?_
  rintro e w1 ⟨rfl, k1⟩
  have q1 := k1
  have K1 := K0.trans q1
  clear k1 q1 K0
  go_wp2_with fail
  refine fx2.mono ?_
  rintro e w2 ⟨rfl, k2⟩
  have q2 := (keeps_alloc w1 _).trans k2
  have hs2 := k2.heap (by simp) (heap_alloc_same (w := w1))
  have K2 := K1.trans q2
  clear k2 q2 K1
  obtain ⟨fs0, fs1, fs2, fs3, fs4, fs5, fs6⟩ := cells7 ((heap_alloc_old (w := w2) (o := .cells #[.int .u64 0, .int .u64 0, .int .u64 0, .int .i64 0, .int .i64 0, .int .u64 0, .int .i64 0] 24) (lt_of_heap hs2)).trans hs2)
  go_wp2_with fail
  refine fx3.mono ?_
  rintro e w3 ⟨rfl, k3⟩
  clear fs0 fs1 fs2 fs3 fs4 fs5 fs6
  have q3 := (keeps_alloc w2 _).trans k3
  have hs3 := q3.heap (by simp) hs2
  clear hs2
  have K3 := K2.trans q3
  clear k3 q3 K2
  obtain ⟨fs0, fs1, fs2, fs3, fs4, fs5, fs6⟩ := cells7 ((heap_alloc_old (w := w3) (o := .cells #[.int .u64 3, .int .u64 10, .int .u64 100, .int .i64 5, .int .i64 1, .int .u64 5, .int .i64 4] 24) (lt_of_heap hs3)).trans hs3)
  go_wp2_with fail
  refine fx4.mono ?_
  rintro e w4 ⟨rfl, k4⟩
  clear fs0 fs1 fs2 fs3 fs4 fs5 fs6
  have q4 := (keeps_alloc w3 _).trans k4
  have hs4 := q4.heap (by simp) hs3
  clear hs3
  have ha4 := k4.heap (by simp) (heap_alloc_same (w := w3))
  have K4 := K3.trans q4
  clear k4 q4 K3
  obtain ⟨fs0, fs1, fs2, fs3, fs4, fs5, fs6⟩ := cells7 ((heap_alloc_old (w := w4) (o := .cells #[.int .u64 0, .int .u64 0, .int .u64 0, .int .i64 0, .int .i64 0, .int .u64 0, .int .i64 0] 24) (lt_of_heap hs4)).trans hs4)
  go_wp2_with fail
  refine fx5.mono ?_
  rintro e w5 ⟨rfl, k5⟩
  clear fs0 fs1 fs2 fs3 fs4 fs5 fs6
  have q5 := (keeps_alloc w4 _).trans k5
  have hs5 := q5.heap (by simp) hs4
  clear hs4
  have ha5 := q5.heap (by simp) ha4
  clear ha4
  have K5 := K4.trans q5
  clear k5 q5 K4
  obtain ⟨fs0, fs1, fs2, fs3, fs4, fs5, fs6⟩ := cells7 ((heap_alloc_old (w := w5) (o := .cells #[.int .u64 0, .int .u64 0, .int .u64 0, .int .i64 0, .int .i64 0, .int .u64 0, .int .i64 0] 24) (lt_of_heap hs5)).trans hs5)
  go_wp2_with fail
  refine fx6.mono ?_
  rintro e w6 ⟨rfl, k6⟩
  clear fs0 fs1 fs2 fs3 fs4 fs5 fs6
  have q6 := (keeps_alloc w5 _).trans k6
  have hs6 := q6.heap (by simp) hs5
  clear hs5
  have ha6 := q6.heap (by simp) ha5
  clear ha5
  have K6 := K5.trans q6
  clear k6 q6 K5
  obtain ⟨fs0, fs1, fs2, fs3, fs4, fs5, fs6⟩ := cells7 ((heap_alloc_old (w := w6) (o := .cells #[.int .u64 0, .int .u64 0, .int .u64 0, .int .i64 0, .int .i64 0, .int .u64 0, .int .i64 0] 24) (lt_of_heap hs6)).trans hs6)
  go_wp2_with fail
  refine fx7.mono ?_
  rintro e w7 ⟨rfl, k7⟩
  clear fs0 fs1 fs2 fs3 fs4 fs5 fs6
  have q7 := (keeps_alloc w6 _).trans k7
  have hs7 := q7.heap (by simp) hs6
  clear hs6
  have ha7 := q7.heap (by simp) ha6
  clear ha6
  have K7 := K6.trans q7
  clear k7 q7 K6
  obtain ⟨fa0, fa1, fa2, fa3, fa4, fa5, fa6⟩ := cells7 ((heap_alloc_old (w := w7) (o := .cells #[.int .u64 0, .int .u64 0, .int .u64 0, .int .i64 0, .int .i64 0, .int .u64 0, .int .i64 0] 24) (lt_of_heap ha7)).trans ha7)
  go_wp2_with fail
  refine fx8.mono ?_
  rintro e w8 ⟨rfl, k8⟩
  clear fa0 fa1 fa2 fa3 fa4 fa5 fa6
  have q8 := (keeps_alloc w7 _).trans k8
  have hs8 := q8.heap (by simp) hs7
  clear hs7
  have ha8 := q8.heap (by simp) ha7
  clear ha7
  have K8 := K7.trans q8
  clear k8 q8 K7
  go_wp2_with fail
  refine fx9.mono ?_
  rintro e w9 ⟨rfl, k9⟩
  have q9 := (keeps_alloc w8 _).trans k9
  have hs9 := q9.heap (by simp) hs8
  clear hs8
  have ha9 := q9.heap (by simp) ha8
  clear ha8
  have hb9 := k9.heap (by simp) (heap_alloc_same (w := w8))
  have K9 := K8.trans q9
  clear k9 q9 K8
  obtain ⟨fb0, fb1, fb2, fb3, fb4, fb5, fb6⟩ := cells7 ((heap_alloc_old (w := w9) (o := .cells #[.int .u64 0, .int .u64 0, .int .u64 0, .int .i64 0, .int .i64 0, .int .u64 0, .int .i64 0] 24) (lt_of_heap hb9)).trans hb9)
  go_wp2_with fail
  refine fx10.mono ?_
  rintro e w10 ⟨rfl, k10⟩
  clear fb0 fb1 fb2 fb3 fb4 fb5 fb6
  have q10 := (keeps_alloc w9 _).trans k10
  have hs10 := q10.heap (by simp) hs9
  clear hs9
  have ha10 := q10.heap (by simp) ha9
  clear ha9
  clear hb9
  have K10 := K9.trans q10
  clear k10 q10 K9
  obtain ⟨fa0, fa1, fa2, fa3, fa4, fa5, fa6⟩ := cells7 ((heap_alloc_old (w := w10) (o := .cells #[.int .u64 3, .int .u64 10, .int .u64 100, .int .i64 5, .int .i64 1, .int .u64 5, .int .i64 7] 24) (lt_of_heap ha10)).trans ha10)
  go_wp2_with fail
  refine fx11.mono ?_
  rintro e w11 ⟨rfl, k11⟩
  clear fa0 fa1 fa2 fa3 fa4 fa5 fa6
  have q11 := (keeps_alloc w10 _).trans k11
  have hs11 := q11.heap (by simp) hs10
  clear hs10
  have ha11 := q11.heap (by simp) ha10
  clear ha10
  have hc11 := k11.heap (by simp) (heap_alloc_same (w := w10))
  have K11 := K10.trans q11
  clear k11 q11 K10
  obtain ⟨fc0, fc1, fc2, fc3, fc4, fc5, fc6⟩ := cells7 ((heap_alloc_old (w := w11) (o := .cells #[.int .u64 0, .int .u64 0, .int .u64 0, .int .i64 0, .int .i64 0, .int .u64 0, .int .i64 0] 24) (lt_of_heap hc11)).trans hc11)
  go_wp2_with fail
  refine fx12.mono ?_
  rintro e w12 ⟨rfl, k12⟩
  clear fc0 fc1 fc2 fc3 fc4 fc5 fc6
  have q12 := (keeps_alloc w11 _).trans k12
  have hs12 := q12.heap (by simp) hs11
  clear hs11
  have ha12 := q12.heap (by simp) ha11
  clear ha11
  have hc12 := q12.heap (by simp) hc11
  clear hc11
  have K12 := K11.trans q12
  clear k12 q12 K11
  obtain ⟨fc0, fc1, fc2, fc3, fc4, fc5, fc6⟩ := cells7 ((heap_alloc_old (w := w12) (o := .cells #[.int .u64 3, .int .u64 10, .int .u64 100, .int .i64 5, .int .i64 1, .int .u64 5, .int .i64 7] 24) (lt_of_heap hc12)).trans hc12)
  go_wp2_with fail
  refine fx13.mono ?_
  rintro e w13 ⟨rfl, k13⟩
  clear fc0 fc1 fc2 fc3 fc4 fc5 fc6
  have q13 := (keeps_alloc w12 _).trans k13
  have hs13 := q13.heap (by simp) hs12
  clear hs12
  have ha13 := q13.heap (by simp) ha12
  clear ha12
  have hc13 := q13.heap (by simp) hc12
  clear hc12
  have hd13 := k13.heap (by simp) (heap_alloc_same (w := w12))
  have K13 := K12.trans q13
  clear k13 q13 K12
  go_wp2_with fail
  refine fx14.mono ?_
  rintro e w14 ⟨rfl, k14⟩
  have q14 := (keeps_alloc w13 _).trans k14
  have hs14 := q14.heap (by simp) hs13
  clear hs13
  have ha14 := q14.heap (by simp) ha13
  clear ha13
  have hc14 := q14.heap (by simp) hc13
  clear hc13
  have hd14 := q14.heap (by simp) hd13
  clear hd13
  have hx14 := k14.heap (by simp) (heap_alloc_same (w := w13))
  have K14 := K13.trans q14
  clear k14 q14 K13
  obtain ⟨fs0, fs1, fs2, fs3, fs4, fs5, fs6⟩ := cells7 ((heap_alloc_old (w := w14) (o := .cells #[.int .u64 0, .int .u64 0, .int .u64 0, .int .i64 0, .int .i64 0, .int .u64 0, .int .i64 0] 24) (lt_of_heap hs14)).trans hs14)
  go_wp2_with fail
  refine fx15.mono ?_
  rintro e w15 ⟨rfl, k15⟩
  clear fs0 fs1 fs2 fs3 fs4 fs5 fs6
  have q15 := (keeps_alloc w14 _).trans k15
  have hs15 := q15.heap (by simp) hs14
  clear hs14
  have ha15 := q15.heap (by simp) ha14
  clear ha14
  have hc15 := q15.heap (by simp) hc14
  clear hc14
  have hd15 := q15.heap (by simp) hd14
  clear hd14
  have hx15 := q15.heap (by simp) hx14
  clear hx14
  have K15 := K14.trans q15
  clear k15 q15 K14
  obtain ⟨fa0, fa1, fa2, fa3, fa4, fa5, fa6⟩ := cells7 ha15
  obtain ⟨fc0, fc1, fc2, fc3, fc4, fc5, fc6⟩ := cells7 hc15
  obtain ⟨fd0, fd1, fd2, fd3, fd4, fd5, fd6⟩ := cells7 hd15
  obtain ⟨fx0, fx1, fx2, fx3, fx4, fx5, fx6⟩ := cells7 hx15
  go_wp2_with fail
  refine fx16.mono ?_
  rintro e w16 ⟨rfl, k16⟩
  clear fa0 fa1 fa2 fa3 fa4 fa5 fa6 fc0 fc1 fc2 fc3 fc4 fc5 fc6 fd0 fd1 fd2 fd3 fd4 fd5 fd6 fx0 fx1 fx2 fx3 fx4 fx5 fx6
  have q16 := k16
  have hs16 := q16.heap (by simp) hs15
  clear hs15
  have ha16 := q16.heap (by simp) ha15
  clear ha15
  clear hc15
  clear hd15
  have hx16 := q16.heap (by simp) hx15
  clear hx15
  have K16 := K15.trans q16
  clear k16 q16 K15
  obtain ⟨fa0, fa1, fa2, fa3, fa4, fa5, fa6⟩ := cells7 ha16
  go_wp2_with fail
  refine fx17.mono ?_
  rintro e w17 ⟨rfl, k17⟩
  clear fa0 fa1 fa2 fa3 fa4 fa5 fa6
  have q17 := k17
  have hs17 := q17.heap (by simp) hs16
  clear hs16
  have ha17 := q17.heap (by simp) ha16
  clear ha16
  have hx17 := q17.heap (by simp) hx16
  clear hx16
  have K17 := K16.trans q17
  clear k17 q17 K16
  obtain ⟨fa0, fa1, fa2, fa3, fa4, fa5, fa6⟩ := cells7 ha17
  go_wp2_with fail
  refine fx18.mono ?_
  rintro e w18 ⟨rfl, k18⟩
  clear fa0 fa1 fa2 fa3 fa4 fa5 fa6
  have q18 := k18
  have hs18 := q18.heap (by simp) hs17
  clear hs17
  clear ha17
  have hx18 := q18.heap (by simp) hx17
  clear hx17
  have K18 := K17.trans q18
  clear k18 q18 K17
  obtain ⟨fs0, fs1, fs2, fs3, fs4, fs5, fs6⟩ := cells7 hs18
  go_wp2_with fail
  refine fx19.mono ?_
  rintro e w19 ⟨rfl, k19⟩
  clear fs0 fs1 fs2 fs3 fs4 fs5 fs6
  have q19 := k19
  clear hs18
  have hx19 := q19.heap (by simp) hx18
  clear hx18
  have K19 := K18.trans q19
  clear k19 q19 K18
  obtain ⟨fx0, fx1, fx2, fx3, fx4, fx5, fx6⟩ := cells7 hx19
  go_wp2_with fail
  refine fx20.mono ?_
  rintro e w20 ⟨rfl, k20⟩
  clear fx0 fx1 fx2 fx3 fx4 fx5 fx6
  have q20 := k20
  clear hx19
  have K20 := K19.trans q20
  clear k20 q20 K19
  go_wp2
  go_ret
  exact ⟨rfl, K20⟩
end Go.Proofs.Ytimbngaadgkeaaa
