/-
  NumTurns: its walk.
-/
import Derived.Test.YtilkeijoppafcaaNumFixed
namespace Go.Proofs.Ytilkeijoppafcaa
open Go.RowKit

theorem nAdd_comm (a b : Nat) : nAdd b a = nAdd a b := by unfold nAdd; rw [Nat.add_comm]
theorem nMul_comm (a b : Nat) : nMul b a = nMul a b := by unfold nMul; rw [Nat.mul_comm]
theorem nDiv_comm (a b c : Nat) : nDiv b a c = nDiv a b c := by unfold nDiv; rw [Nat.mul_comm]

set_option maxRecDepth 100000 in
set_option maxHeartbeats 4000000 in
theorem numTurns_walk {w : World} (a : Nat) (ha : a ≤ 18446744073709551615) (b : Nat) (hb : b ≤ 18446744073709551615) (c : Nat) (hc : c ≤ 18446744073709551615) :
    Calls Try.prog 5 #[.int .u64 a, .int .u64 b, .int .u64 c] w fun e w' => e = .returned (.bool true) ∧ Below w.heap.size w w' := by
  have A := fun w => add_c (w := w) a b ha hb
  have A' := fun w => add_c (w := w) b a hb ha
  have M := fun w => mul_c (w := w) a b ha hb
  have M' := fun w => mul_c (w := w) b a hb ha
  have D := fun w => muldiv_c (w := w) a b c ha hb hc
  have D' := fun w => muldiv_c (w := w) b a c hb ha hc
  have D2 := fun w => muldiv_c (w := w) a c c ha hc hc
  have R := fun w => rem_c (w := w) a c c ha hc hc
  rw [nAdd_comm] at A'
  rw [nMul_comm] at M'
  rw [nDiv_comm] at D'
  generalize (nMul a b).1 = p at *
  generalize (nMul a b).2 = pe at *
  generalize (nDiv a b c).1 = q at *
  generalize (nDiv a b c).2 = qe at *
  have C : (c = 0 ∧ nDiv a c c = (0, 1) ∧ nRem a c c = (0, 1)) ∨ (0 < c ∧ nDiv a c c = (a, 0) ∧ nRem a c c = (0, 0)) := by
    by_cases h0 : c = 0
    · exact .inl ⟨h0, by rw [nDiv, if_pos h0], by rw [nRem, if_pos h0]⟩
    · have hpos := Nat.pos_of_ne_zero h0
      exact .inr ⟨hpos, by rw [nDiv, if_neg h0, Nat.mul_div_cancel _ hpos, if_pos (by omega)], by rw [nRem, if_neg h0, Nat.mul_mod_left]⟩
  have B : (∃ x, x ≤ 18446744073709551615 ∧ nAdd a b = (x, 0) ∧ nSub x b = (a, 0)) ∨ nAdd a b = (0, 2) := by
    by_cases h : a + b < 18446744073709551616
    · exact .inl ⟨a + b, by omega, if_pos h, by rw [nSub, if_pos (by omega), Nat.add_sub_cancel]⟩
    · exact .inr (if_neg h)
  rcases B with ⟨x, hx, e1, e2⟩ | e1 <;> rcases C with ⟨h0, e3, e4⟩ | ⟨h0, e3, e4⟩ <;> rw [e1] at A A' <;> rw [e3] at D2 <;> rw [e4] at R
  · have S := fun w => sub_c (w := w) x b hx hb
    rw [e2] at S
    subst h0
    clear e1 e2 e3 e4
    go_enter Try.func5, Try.ntmps5
    go_wp2_with fail
    refine (A _).mono ?_
    rintro e w' ⟨rfl, rfl⟩
    go_wp2_with fail
    refine (A' _).mono ?_
    rintro e w' ⟨rfl, rfl⟩
    go_wp2_with fail
    refine (M _).mono ?_
    rintro e w' ⟨rfl, rfl⟩
    go_wp2_with fail
    refine (M' _).mono ?_
    rintro e w' ⟨rfl, rfl⟩
    go_wp2_with fail
    refine (D _).mono ?_
    rintro e w' ⟨rfl, rfl⟩
    go_wp2_with fail
    refine (D' _).mono ?_
    rintro e w' ⟨rfl, rfl⟩
    go_wp2_with fail
    refine (D2 _).mono ?_
    rintro e w' ⟨rfl, rfl⟩
    go_wp2_with fail
    refine (R _).mono ?_
    rintro e w' ⟨rfl, rfl⟩
    go_wp2_with fail
    refine (S _).mono ?_
    rintro e w' ⟨rfl, rfl⟩
    go_wp2_with fail
    refine (fixed_c (w := w)).mono ?_
    rintro e w3 ⟨rfl, k3⟩
    go_wp2
    go_ret
    exact ⟨rfl, k3.below (Nat.le_refl _) (by simp)⟩
  · have S := fun w => sub_c (w := w) x b hx hb
    rw [e2] at S
    have hn0 : ((c : Int) == 0) = false := by simp; omega
    have hn1 : ((c : Int) != 0) = true := by simp; omega
    clear e1 e2 e3 e4
    go_enter Try.func5, Try.ntmps5
    go_wp2_with fail
    refine (A _).mono ?_
    rintro e w' ⟨rfl, rfl⟩
    go_wp2_with fail
    refine (A' _).mono ?_
    rintro e w' ⟨rfl, rfl⟩
    go_wp2_with fail
    refine (M _).mono ?_
    rintro e w' ⟨rfl, rfl⟩
    go_wp2_with fail
    refine (M' _).mono ?_
    rintro e w' ⟨rfl, rfl⟩
    go_wp2_with fail
    refine (D _).mono ?_
    rintro e w' ⟨rfl, rfl⟩
    go_wp2_with fail
    refine (D' _).mono ?_
    rintro e w' ⟨rfl, rfl⟩
    go_wp2_with fail
    refine (D2 _).mono ?_
    rintro e w' ⟨rfl, rfl⟩
    go_wp2_with fail
    refine (R _).mono ?_
    rintro e w' ⟨rfl, rfl⟩
    go_wp2_with fail
    refine (S _).mono ?_
    rintro e w' ⟨rfl, rfl⟩
    go_wp2_with fail
    refine (fixed_c (w := w)).mono ?_
    rintro e w3 ⟨rfl, k3⟩
    go_wp2
    go_ret
    exact ⟨rfl, k3.below (Nat.le_refl _) (by simp)⟩
  · have S := fun w => sub_c (w := w) 0 b (by omega) hb
    generalize (nSub 0 b).1 = y at *
    generalize (nSub 0 b).2 = ye at *
    subst h0
    clear e1 e3 e4
    go_enter Try.func5, Try.ntmps5
    go_wp2_with fail
    refine (A _).mono ?_
    rintro e w' ⟨rfl, rfl⟩
    go_wp2_with fail
    refine (A' _).mono ?_
    rintro e w' ⟨rfl, rfl⟩
    go_wp2_with fail
    refine (M _).mono ?_
    rintro e w' ⟨rfl, rfl⟩
    go_wp2_with fail
    refine (M' _).mono ?_
    rintro e w' ⟨rfl, rfl⟩
    go_wp2_with fail
    refine (D _).mono ?_
    rintro e w' ⟨rfl, rfl⟩
    go_wp2_with fail
    refine (D' _).mono ?_
    rintro e w' ⟨rfl, rfl⟩
    go_wp2_with fail
    refine (D2 _).mono ?_
    rintro e w' ⟨rfl, rfl⟩
    go_wp2_with fail
    refine (R _).mono ?_
    rintro e w' ⟨rfl, rfl⟩
    go_wp2_with fail
    refine (S _).mono ?_
    rintro e w' ⟨rfl, rfl⟩
    go_wp2_with fail
    refine (fixed_c (w := w)).mono ?_
    rintro e w3 ⟨rfl, k3⟩
    go_wp2
    go_ret
    exact ⟨rfl, k3.below (Nat.le_refl _) (by simp)⟩
  · have S := fun w => sub_c (w := w) 0 b (by omega) hb
    generalize (nSub 0 b).1 = y at *
    generalize (nSub 0 b).2 = ye at *
    have hn0 : ((c : Int) == 0) = false := by simp; omega
    have hn1 : ((c : Int) != 0) = true := by simp; omega
    clear e1 e3 e4
    go_enter Try.func5, Try.ntmps5
    go_wp2_with fail
    refine (A _).mono ?_
    rintro e w' ⟨rfl, rfl⟩
    go_wp2_with fail
    refine (A' _).mono ?_
    rintro e w' ⟨rfl, rfl⟩
    go_wp2_with fail
    refine (M _).mono ?_
    rintro e w' ⟨rfl, rfl⟩
    go_wp2_with fail
    refine (M' _).mono ?_
    rintro e w' ⟨rfl, rfl⟩
    go_wp2_with fail
    refine (D _).mono ?_
    rintro e w' ⟨rfl, rfl⟩
    go_wp2_with fail
    refine (D' _).mono ?_
    rintro e w' ⟨rfl, rfl⟩
    go_wp2_with fail
    refine (D2 _).mono ?_
    rintro e w' ⟨rfl, rfl⟩
    go_wp2_with fail
    refine (R _).mono ?_
    rintro e w' ⟨rfl, rfl⟩
    go_wp2_with fail
    refine (S _).mono ?_
    rintro e w' ⟨rfl, rfl⟩
    go_wp2_with fail
    refine (fixed_c (w := w)).mono ?_
    rintro e w3 ⟨rfl, k3⟩
    go_wp2
    go_ret
    exact ⟨rfl, k3.below (Nat.le_refl _) (by simp)⟩
end Go.Proofs.Ytilkeijoppafcaa
