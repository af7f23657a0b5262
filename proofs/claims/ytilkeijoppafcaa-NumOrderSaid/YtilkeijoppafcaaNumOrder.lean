/-
  NumOrder: its walk.
-/
import Derived.Test.YtilkeijoppafcaaNumFixed
import Derived.Test.YtilkeijoppafcaaOrderPlain
namespace Go.Proofs.Ytilkeijoppafcaa
open Go.RowKit

theorem nAdd_cases (a b : Nat) : (a + b < 18446744073709551616 ∧ nAdd a b = (a + b, 0)) ∨ (18446744073709551616 ≤ a + b ∧ nAdd a b = (0, 2)) := by
  by_cases h : a + b < 18446744073709551616
  · exact .inl ⟨h, if_pos h⟩
  · exact .inr ⟨by omega, if_neg h⟩

set_option maxRecDepth 100000 in
set_option maxHeartbeats 4000000 in
theorem numOrder_walk {w : World} (a : Nat) (ha : a ≤ 18446744073709551615) (b : Nat) (hb : b ≤ 18446744073709551615) (c : Nat) (hc : c ≤ 18446744073709551615) :
    Calls Try.prog 6 #[.int .u64 a, .int .u64 b, .int .u64 c] w fun e w' => e = .returned (.bool true) ∧ Below w.heap.size w w' := by
  have P := fun w => put_any (w := w) a ha
  have Q := fun w => put_any (w := w) b hb
  have A := fun w => add_c (w := w) a c ha hc
  have B := fun w => add_c (w := w) b c hb hc
  have z1 : (putB a).size = 8 := rfl
  have z2 : (putB b).size = 8 := rfl
  have less := putB_less a b ha hb
  generalize putB a = x at *
  generalize putB b = y at *
  rcases nAdd_cases a c with ⟨h1, e1⟩ | ⟨h1, e1⟩ <;> rcases nAdd_cases b c with ⟨h2, e2⟩ | ⟨h2, e2⟩ <;> rw [e1] at A <;> rw [e2] at B <;> clear e1 e2
  · obtain ⟨p, hp⟩ : ∃ p, p = a + c := ⟨_, rfl⟩
    obtain ⟨q, hq⟩ : ∃ q, q = b + c := ⟨_, rfl⟩
    have l2 : decide (p < q) = decide (a < b) := decide_eq_decide.2 (by omega)
    rw [← hp] at A
    rw [← hq] at B
    clear hp hq
    go_enter Try.func6, Try.ntmps6
    go_wp2_with fail
    refine (P _).mono ?_
    rintro e w1 ⟨rfl, k1⟩
    go_wp2_with fail
    refine (Q _).mono ?_
    rintro e w2 ⟨rfl, k2⟩
    go_wp2_with fail
    refine (A _).mono ?_
    rintro e w' ⟨rfl, rfl⟩
    go_wp2_with fail
    refine (B _).mono ?_
    rintro e w' ⟨rfl, rfl⟩
    go_wp2_with fail
    refine (fixed_c (w := w2)).mono ?_
    rintro e w3 ⟨rfl, k3⟩
    go_wp2
    go_ret
    exact ⟨rfl, ((k1.trans k2).trans k3).below (Nat.le_refl _) (by simp)⟩
  all_goals
    go_enter Try.func6, Try.ntmps6
    go_wp2_with fail
    refine (P _).mono ?_
    rintro e w1 ⟨rfl, k1⟩
    go_wp2_with fail
    refine (Q _).mono ?_
    rintro e w2 ⟨rfl, k2⟩
    go_wp2_with fail
    refine (A _).mono ?_
    rintro e w' ⟨rfl, rfl⟩
    go_wp2_with fail
    refine (B _).mono ?_
    rintro e w' ⟨rfl, rfl⟩
    go_wp2_with fail
    refine (fixed_c (w := w2)).mono ?_
    rintro e w3 ⟨rfl, k3⟩
    go_wp2
    go_ret
    exact ⟨rfl, ((k1.trans k2).trans k3).below (Nat.le_refl _) (by simp)⟩
end Go.Proofs.Ytilkeijoppafcaa
