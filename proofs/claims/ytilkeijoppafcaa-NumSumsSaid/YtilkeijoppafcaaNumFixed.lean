/-
  The fixed calls of the laws on numbers.
-/
import Derived.Test.YtilkeijoppafcaaNumDiv
import Derived.Test.YtilkeijoppafcaaNumSum
namespace Go.Proofs.Ytilkeijoppafcaa
open Go.RowKit

section
variable {w : World}
theorem fx1 : Calls Try.prog 19 #[.int .u64 9223372036854775808, .int .u64 6, .int .u64 4] w fun e w' => e = .returned (.tuple #[.int .u64 13835058055282163712, .int .i64 0]) ∧ w = w' := by
  have h := muldiv_c (w := w) 9223372036854775808 6 4 (by decide) (by decide) (by decide)
  rw [show nDiv 9223372036854775808 6 4 = (13835058055282163712, 0) by kernel_rfl] at h
  exact h
theorem fx2 : Calls Try.prog 22 #[.int .u64 18446744073709551615, .int .u64 1] w fun e w' => e = .returned (.tuple #[.int .u64 0, .int .i64 2]) ∧ w = w' := by
  have h := add_c (w := w) 18446744073709551615 1 (by decide) (by decide)
  rw [show nAdd 18446744073709551615 1 = (0, 2) by kernel_rfl] at h
  exact h
theorem fx3 : Calls Try.prog 19 #[.int .u64 1, .int .u64 1, .int .u64 0] w fun e w' => e = .returned (.tuple #[.int .u64 0, .int .i64 1]) ∧ w = w' := by
  have h := muldiv_c (w := w) 1 1 0 (by decide) (by decide) (by decide)
  rw [show nDiv 1 1 0 = (0, 1) by kernel_rfl] at h
  exact h
theorem fx4 : Calls Try.prog 20 #[.int .u64 9223372036854775808, .int .u64 7, .int .u64 10] w fun e w' => e = .returned (.tuple #[.int .u64 6, .int .i64 0]) ∧ w = w' := by
  have h := rem_c (w := w) 9223372036854775808 7 10 (by decide) (by decide) (by decide)
  rw [show nRem 9223372036854775808 7 10 = (6, 0) by kernel_rfl] at h
  exact h
theorem fx5 : Calls Try.prog 21 #[.int .u64 4294967296, .int .u64 4294967296] w fun e w' => e = .returned (.tuple #[.int .u64 0, .int .i64 2]) ∧ w = w' := by
  have h := mul_c (w := w) 4294967296 4294967296 (by decide) (by decide)
  rw [show nMul 4294967296 4294967296 = (0, 2) by kernel_rfl] at h
  exact h
theorem fx6 : Calls Try.prog 23 #[.int .u64 1, .int .u64 2] w fun e w' => e = .returned (.tuple #[.int .u64 0, .int .i64 2]) ∧ w = w' := by
  have h := sub_c (w := w) 1 2 (by decide) (by decide)
  rw [show nSub 1 2 = (0, 2) by kernel_rfl] at h
  exact h
theorem fx7 : Calls Try.prog 15 #[.int .u64 9223372036854775808] w fun e w' => e = .returned (.tuple #[.int .i64 0, .int .i64 2]) ∧ w = w' := by
  have h := int_c (w := w) 9223372036854775808 (by decide)
  rw [show nInt 9223372036854775808 = (0, 2) by kernel_rfl] at h
  exact h
theorem fx8 : Calls Try.prog 14 #[.int .i64 (-1)] w fun e w' => e = .returned (.tuple #[.int .u64 0, .int .i64 2]) ∧ w = w' := by
  have h := of_c (w := w) (-1) ⟨by decide, by decide⟩
  rw [show nOf (-1) = (0, 2) by kernel_rfl] at h
  exact h
theorem fx9 : Calls Try.prog 12 #[.string ⟨#[0, 0, 0, 0, 0, 0, 1, 2, 122]⟩] w fun e w' => e = .returned (.tuple #[.int .u64 258, .int .i64 0]) ∧ w = w' :=
  get_ok ⟨#[0, 0, 0, 0, 0, 0, 1, 2, 122]⟩ (by decide)
theorem fx10 : Calls Try.prog 12 #[.string ⟨#[49, 50, 51, 52, 53, 54, 55]⟩] w fun e w' => e = .returned (.tuple #[.int .u64 0, .int .i64 3]) ∧ w = w' :=
  get_short ⟨#[49, 50, 51, 52, 53, 54, 55]⟩ (by decide)
theorem fx11 (b : Nat) (h : w.heap[b]? = some (.cells #[.int .u64 1, .int .u64 2, .int .u64 3] 23 (0, 0))) : Calls Try.prog 10 #[.slice (some ⟨b, 0, none⟩) 3 3] w fun e w' => e = .returned (.tuple #[.int .u64 6, .int .i64 0]) ∧ w = w' := by
  have n : NumsAt w (fun _ => True) (some ⟨b, 0, none⟩) [1, 2, 3] := ⟨fun i hi => ⟨b, 0, rfl, trivial, by
    rw [cell_of_heap h]
    match i, hi with
    | 0, _ => rfl
    | 1, _ => rfl
    | 2, _ => rfl⟩, by decide, by decide⟩
  have h := sum_c (some ⟨b, 0, none⟩) 3 [1, 2, 3] n
  rw [show nSum [1, 2, 3] = (6, 0) by kernel_rfl] at h
  exact h
theorem fx12 : Calls Try.prog 16 #[.int .u64 258] w fun e w' => e = .returned (.string ⟨#[0, 0, 0, 0, 0, 0, 1, 2]⟩) ∧ Keeps [] w w' := put_any 258 (by decide)
end

set_option maxHeartbeats 4000000 in
theorem fixed_c {w : World} : Calls Try.prog 18 #[] w fun e w' => e = .returned (.bool true) ∧ Keeps [] w w' := by
  go_enter Try.func18, Try.ntmps18
  go_wp2_with fail
  refine fx1.mono ?_
  rintro e w' ⟨rfl, rfl⟩
  go_wp2_with fail
  refine fx2.mono ?_
  rintro e w' ⟨rfl, rfl⟩
  go_wp2_with fail
  refine fx3.mono ?_
  rintro e w' ⟨rfl, rfl⟩
  go_wp2_with fail
  refine fx4.mono ?_
  rintro e w' ⟨rfl, rfl⟩
  go_wp2_with fail
  refine fx5.mono ?_
  rintro e w' ⟨rfl, rfl⟩
  go_wp2_with fail
  refine fx6.mono ?_
  rintro e w' ⟨rfl, rfl⟩
  go_wp2_with fail
  refine fx7.mono ?_
  rintro e w' ⟨rfl, rfl⟩
  go_wp2_with fail
  refine fx8.mono ?_
  rintro e w' ⟨rfl, rfl⟩
  go_wp2_with fail
  refine fx9.mono ?_
  rintro e w' ⟨rfl, rfl⟩
  go_wp2_with fail
  refine fx10.mono ?_
  rintro e w' ⟨rfl, rfl⟩
  go_wp2_with fail
  refine (fx11 _ heap_alloc_same).mono ?_
  rintro e w' ⟨rfl, rfl⟩
  go_wp2_with fail
  refine fx12.mono ?_
  rintro e w1 ⟨rfl, k1⟩
  go_wp2
  go_ret
  exact ⟨rfl, ((Keeps.refl _ _).alloc _).trans k1⟩
end Go.Proofs.Ytilkeijoppafcaa
