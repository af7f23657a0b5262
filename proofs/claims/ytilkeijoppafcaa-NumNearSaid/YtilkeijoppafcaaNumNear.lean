/-
  NumNear: its walk.
-/
import Derived.Test.YtilkeijoppafcaaNumFixed
namespace Go.Proofs.Ytilkeijoppafcaa
open Go.RowKit

set_option maxRecDepth 100000 in
set_option maxHeartbeats 4000000 in
theorem numNear_walk {w : World} (a : Nat) (ha : a ≤ 4294967295) (b : Nat) (hb : b ≤ 4294967295) (c : Nat) (hc : c ≤ 18446744073709551615) :
    Calls Try.prog 8 #[.int .u32 a, .int .u32 b, .int .u64 c] w fun e w' => e = .returned (.bool true) ∧ Below w.heap.size w w' := by
  by_cases h0 : c = 0
  · subst h0
    go_enter Try.func8, Try.ntmps8
    go_wp2_with fail
    refine (fixed_c (w := w)).mono ?_
    rintro e w3 ⟨rfl, k3⟩
    go_wp2
    go_ret
    exact ⟨rfl, k3.below (Nat.le_refl _) (by simp)⟩
  · have hpos := Nat.pos_of_ne_zero h0
    have D := fun w => muldiv_c (w := w) a b c (by omega) (by omega) hc
    have hp : a * b ≤ 18446744065119617025 := Nat.mul_le_mul ha hb
    have m1 : IntKind.u64.wrap ((a : Int) * (b : Int)) = ((a * b : Nat) : Int) := wrap_nat (a * b) (by omega)
    have hq : a * b / c ≤ a * b := Nat.div_le_self _ _
    rw [nDiv, if_neg h0, if_pos (by omega)] at D
    have hdm := Nat.div_add_mod (a * b) c
    have hml := Nat.mod_lt (a * b) hpos
    generalize a * b = p at *
    have q3 : IntKind.u64.wrap ((p : Int) / (c : Int)) = ((p / c : Nat) : Int) := wrap_nat (p / c) (by omega)
    rw [Nat.mul_comm] at hdm
    generalize p / c = q at *
    generalize p % c = r at *
    obtain ⟨m, m2, hm'⟩ : ∃ m : Nat, IntKind.u64.wrap ((q : Int) * (c : Int)) = (m : Int) ∧ m = q * c := ⟨q * c, by rw [IntKind.wrap_u64, ← Int.natCast_mul]; omega, rfl⟩
    rw [← hm'] at hdm
    clear hm'
    obtain ⟨d, m3, hd⟩ : ∃ d : Nat, (p : Int) - (m : Int) = (d : Int) ∧ d < c := ⟨p - m, by omega, by omega⟩
    have m4 : IntKind.u64.wrap ((p : Int) - (m : Int)) = (d : Int) := by rw [m3]; exact wrap_nat d (by omega)
    have hmp : m ≤ p := by omega
    have hn0 : ((c : Int) == 0) = false := by simpa using h0
    have hn1 : ((c : Int) != 0) = true := by simpa using h0
    clear hdm hml h0
    go_enter Try.func8, Try.ntmps8
    go_wp2_with fail
    refine (D _).mono ?_
    rintro e w' ⟨rfl, rfl⟩
    go_wp2_with fail
    refine (fixed_c (w := w)).mono ?_
    rintro e w3 ⟨rfl, k3⟩
    go_wp2
    go_ret
    exact ⟨rfl, k3.below (Nat.le_refl _) (by simp)⟩
end Go.Proofs.Ytilkeijoppafcaa
