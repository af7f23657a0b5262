/-
  The contracts of package num's sums and products of two.
-/
import Derived.Test.YtilkeijoppafcaaBase
namespace Go.Proofs.Ytilkeijoppafcaa
open Go.RowKit

theorem and_low (x : Nat) (hx : x < 18446744073709551616) : bits .and .u64 (x : Int) 4294967295 = ((x % 4294967296 : Nat) : Int) := by
  have h := u64_and_nat x 4294967295 hx (by decide)
  rw [show ((4294967295 : Nat) : Int) = 4294967295 from rfl] at h
  rw [h, show (4294967295 : Nat) = 2 ^ 32 - 1 from rfl, Nat.and_two_pow_sub_one_eq_mod]
theorem wrap_nat (x : Nat) (hx : x < 18446744073709551616) : IntKind.u64.wrap (x : Int) = x := by rw [IntKind.wrap_u64]; omega
theorem or_low (k y : Nat) (hk : k < 4294967296) (hy : y < 4294967296) : bits .or .u64 ((k * 4294967296 : Nat) : Int) (y : Int) = ((k * 4294967296 + y : Nat) : Int) := by
  rw [u64_or_nat _ _ (by omega) (by omega), nat_join 32 _ _ (by omega) (by omega)]

theorem product_nat (a1 a0 b1 b0 : Nat) (h1 : a1 < 4294967296) (h2 : a0 < 4294967296) (h3 : b1 < 4294967296) (h4 : b0 < 4294967296) :
    a0 * b0 ≤ 18446744065119617025 ∧ a1 * b0 ≤ 18446744065119617025 ∧ a0 * b1 ≤ 18446744065119617025 ∧ a1 * b1 ≤ 18446744065119617025 ∧
    (a1 * 4294967296 + a0) * (b1 * 4294967296 + b0) = (a1 * b1) * 18446744073709551616 + (a1 * b0) * 4294967296 + (a0 * b1) * 4294967296 + a0 * b0 := by
  have m : ∀ x y : Nat, x < 4294967296 → y < 4294967296 → x * y ≤ 18446744065119617025 := fun x y hx hy => Nat.mul_le_mul (show x ≤ 4294967295 by omega) (show y ≤ 4294967295 by omega)
  refine ⟨m _ _ h2 h4, m _ _ h1 h4, m _ _ h2 h3, m _ _ h1 h3, ?_⟩
  rw [Nat.add_mul, Nat.mul_add, Nat.mul_add, Nat.mul_mul_mul_comm, Nat.mul_right_comm a1 4294967296 b0, ← Nat.mul_assoc a0 b1]
  omega

set_option maxHeartbeats 4000000 in
theorem product_c {w : World} (a b : Nat) (ha : a ≤ 18446744073709551615) (hb : b ≤ 18446744073709551615) :
    Calls Try.prog 25 #[.int .u64 a, .int .u64 b] w fun e w' => e = .returned (.tuple #[.int .u64 (a * b / 18446744073709551616 : Nat), .int .u64 (a * b % 18446744073709551616 : Nat)]) ∧ w = w' := by
  obtain ⟨a1, e1, q1⟩ : ∃ x : Nat, (a : Int) / 4294967296 = (x : Int) ∧ x = a / 4294967296 := ⟨a / 4294967296, rfl, rfl⟩
  obtain ⟨a0, e2, q2⟩ : ∃ x : Nat, bits .and .u64 (a : Int) 4294967295 = (x : Int) ∧ x = a % 4294967296 := ⟨_, and_low a (by omega), rfl⟩
  obtain ⟨b1, e3, q3⟩ : ∃ x : Nat, (b : Int) / 4294967296 = (x : Int) ∧ x = b / 4294967296 := ⟨b / 4294967296, rfl, rfl⟩
  obtain ⟨b0, e4, q4⟩ : ∃ x : Nat, bits .and .u64 (b : Int) 4294967295 = (x : Int) ∧ x = b % 4294967296 := ⟨_, and_low b (by omega), rfl⟩
  obtain ⟨m1, m2, m3, m4, mm⟩ := product_nat a1 a0 b1 b0 (by omega) (by omega) (by omega) (by omega)
  rw [show a1 * 4294967296 + a0 = a by omega, show b1 * 4294967296 + b0 = b by omega] at mm
  clear q1 q2 q3 q4
  obtain ⟨x, e5, q5⟩ : ∃ x : Nat, IntKind.u64.wrap ((a0 : Int) * (b0 : Int)) = (x : Int) ∧ x = a0 * b0 := ⟨a0 * b0, wrap_nat (a0 * b0) (by omega), rfl⟩
  obtain ⟨m, e6, q6⟩ : ∃ x : Nat, IntKind.u64.wrap ((a1 : Int) * (b0 : Int)) = (x : Int) ∧ x = a1 * b0 := ⟨a1 * b0, wrap_nat (a1 * b0) (by omega), rfl⟩
  obtain ⟨n, e7, q7⟩ : ∃ x : Nat, IntKind.u64.wrap ((a0 : Int) * (b1 : Int)) = (x : Int) ∧ x = a0 * b1 := ⟨a0 * b1, wrap_nat (a0 * b1) (by omega), rfl⟩
  obtain ⟨t, e8, q8⟩ : ∃ x : Nat, IntKind.u64.wrap ((a1 : Int) * (b1 : Int)) = (x : Int) ∧ x = a1 * b1 := ⟨a1 * b1, wrap_nat (a1 * b1) (by omega), rfl⟩
  rw [← q5, ← q6, ← q7, ← q8] at mm
  rw [← q5] at m1
  rw [← q6] at m2
  rw [← q7] at m3
  rw [← q8] at m4
  clear q5 q6 q7 q8
  generalize a * b = ab at *
  obtain ⟨x1, e9, q9⟩ : ∃ y : Nat, (x : Int) / 4294967296 = (y : Int) ∧ y = x / 4294967296 := ⟨x / 4294967296, rfl, rfl⟩
  obtain ⟨x0, e10, q10⟩ : ∃ y : Nat, bits .and .u64 (x : Int) 4294967295 = (y : Int) ∧ y = x % 4294967296 := ⟨_, and_low x (by omega), rfl⟩
  obtain ⟨mid, e11, q11⟩ : ∃ y : Nat, IntKind.u64.wrap ((m : Int) + (x1 : Int)) = (y : Int) ∧ y = m + x1 := ⟨m + x1, wrap_nat (m + x1) (by omega), rfl⟩
  obtain ⟨mid1, e12, q12⟩ : ∃ y : Nat, (mid : Int) / 4294967296 = (y : Int) ∧ y = mid / 4294967296 := ⟨mid / 4294967296, rfl, rfl⟩
  obtain ⟨mid0, e13, q13⟩ : ∃ y : Nat, bits .and .u64 (mid : Int) 4294967295 = (y : Int) ∧ y = mid % 4294967296 := ⟨_, and_low mid (by omega), rfl⟩
  obtain ⟨oth, e14, q14⟩ : ∃ y : Nat, IntKind.u64.wrap ((n : Int) + (mid0 : Int)) = (y : Int) ∧ y = n + mid0 := ⟨n + mid0, wrap_nat (n + mid0) (by omega), rfl⟩
  obtain ⟨oth1, e15, q15⟩ : ∃ y : Nat, (oth : Int) / 4294967296 = (y : Int) ∧ y = oth / 4294967296 := ⟨oth / 4294967296, rfl, rfl⟩
  obtain ⟨h0, e16, q16⟩ : ∃ y : Nat, IntKind.u64.wrap ((t : Int) + (mid1 : Int)) = (y : Int) ∧ y = t + mid1 := ⟨t + mid1, wrap_nat (t + mid1) (by omega), rfl⟩
  obtain ⟨hi, e17, q17⟩ : ∃ y : Nat, IntKind.u64.wrap ((h0 : Int) + (oth1 : Int)) = (y : Int) ∧ y = h0 + oth1 := ⟨h0 + oth1, wrap_nat (h0 + oth1) (by omega), rfl⟩
  obtain ⟨sh, e18, q18⟩ : ∃ y : Nat, IntKind.u64.wrap ((oth : Int) * 4294967296) = (y : Int) ∧ y = oth % 4294967296 * 4294967296 := ⟨oth % 4294967296 * 4294967296, by rw [IntKind.wrap_u64]; omega, rfl⟩
  obtain ⟨lo, e19, q19⟩ : ∃ y : Nat, bits .or .u64 (sh : Int) (x0 : Int) = (y : Int) ∧ y = oth % 4294967296 * 4294967296 + x0 := ⟨_, by rw [q18]; exact or_low _ _ (by omega) (by omega), rfl⟩
  have r1 : ab / 18446744073709551616 = hi := by omega
  have r2 : ab % 18446744073709551616 = lo := by omega
  rw [r1, r2]
  clear r1 r2 q9 q10 q11 q12 q13 q14 q15 q16 q17 q18 q19 mm m1 m2 m3 m4
  go_enter Try.func25, Try.ntmps25
  go_wp2
  go_ret2
  exact ⟨rfl, rfl⟩

/-- The document's answers: a number, and what is wrong (0: nothing; 1: no such argument; 2: no room). -/
def nAdd (a b : Nat) : Nat × Int := if a + b < 18446744073709551616 then (a + b, 0) else (0, 2)
def nSub (a b : Nat) : Nat × Int := if b ≤ a then (a - b, 0) else (0, 2)
def nMul (a b : Nat) : Nat × Int := if a * b < 18446744073709551616 then (a * b, 0) else (0, 2)
def nInt (a : Nat) : Nat × Int := if a < 9223372036854775808 then (a, 0) else (0, 2)
def nOf (n : Int) : Nat × Int := if 0 ≤ n then (n.toNat, 0) else (0, 2)
def nSum (l : List Nat) : Nat × Int := if l.sum < 18446744073709551616 then (l.sum, 0) else (0, 2)
def nDiv (a b c : Nat) : Nat × Int := if c = 0 then (0, 1) else if a * b / c < 18446744073709551616 then (a * b / c, 0) else (0, 2)
def nRem (a b c : Nat) : Nat × Int := if c = 0 then (0, 1) else (a * b % c, 0)

theorem ret_two {a b : Nat} {c d : Int} (h : (a, c) = (b, d)) : Ending.returned (.tuple #[.int .u64 a, .int .i64 c]) = .returned (.tuple #[.int .u64 b, .int .i64 d]) := by cases h; rfl

theorem add_c {w : World} (a b : Nat) (ha : a ≤ 18446744073709551615) (hb : b ≤ 18446744073709551615) :
    Calls Try.prog 22 #[.int .u64 a, .int .u64 b] w fun e w' => e = .returned (.tuple #[.int .u64 (nAdd a b).1, .int .i64 (nAdd a b).2]) ∧ w = w' := by
  by_cases h : a + b < 18446744073709551616
  · have R : nAdd a b = (a + b, 0) := if_pos h
    have e1 : IntKind.u64.wrap ((a : Int) + (b : Int)) = ((a + b : Nat) : Int) := by rw [IntKind.wrap_u64]; omega
    have e2 : decide (a + b < a) = false := by simp
    rw [R]
    clear R
    go_enter Try.func22, Try.ntmps22
    go_wp2
    go_ret2
    exact ⟨rfl, rfl⟩
  · have R : nAdd a b = (0, 2) := if_neg h
    obtain ⟨y, e1, e2⟩ : ∃ y : Nat, IntKind.u64.wrap ((a : Int) + (b : Int)) = (y : Int) ∧ y < a := ⟨a + b - 18446744073709551616, by rw [IntKind.wrap_u64]; omega, by omega⟩
    rw [R]
    clear R
    go_enter Try.func22, Try.ntmps22
    go_wp2
    go_ret2
    exact ⟨rfl, rfl⟩

theorem sub_c {w : World} (a b : Nat) (ha : a ≤ 18446744073709551615) (hb : b ≤ 18446744073709551615) :
    Calls Try.prog 23 #[.int .u64 a, .int .u64 b] w fun e w' => e = .returned (.tuple #[.int .u64 (nSub a b).1, .int .i64 (nSub a b).2]) ∧ w = w' := by
  by_cases h : b ≤ a
  · have R : nSub a b = (a - b, 0) := if_pos h
    have e1 : IntKind.u64.wrap ((a : Int) - (b : Int)) = ((a - b : Nat) : Int) := by rw [IntKind.wrap_u64]; omega
    have e2 : ¬ a < b := by omega
    rw [R]
    clear R
    go_enter Try.func23, Try.ntmps23
    go_wp2
    go_ret2
    exact ⟨rfl, rfl⟩
  · have R : nSub a b = (0, 2) := if_neg h
    have e2 : a < b := by omega
    rw [R]
    clear R
    go_enter Try.func23, Try.ntmps23
    go_wp2
    go_ret2
    exact ⟨rfl, rfl⟩

theorem mul_c {w : World} (a b : Nat) (ha : a ≤ 18446744073709551615) (hb : b ≤ 18446744073709551615) :
    Calls Try.prog 21 #[.int .u64 a, .int .u64 b] w fun e w' => e = .returned (.tuple #[.int .u64 (nMul a b).1, .int .i64 (nMul a b).2]) ∧ w = w' := by
  have P := fun w => product_c (w := w) a b ha hb
  by_cases h : a * b < 18446744073709551616
  · have R : nMul a b = (a * b, 0) := if_pos h
    have e1 : a * b / 18446744073709551616 = 0 := by omega
    have e2 : a * b % 18446744073709551616 = a * b := by omega
    rw [e1, e2] at P
    rw [R]
    clear R e1 e2
    go_enter Try.func21, Try.ntmps21
    go_wp2_with fail
    refine (P _).mono ?_
    rintro e w' ⟨rfl, rfl⟩
    go_wp2
    go_ret2
    exact ⟨rfl, rfl⟩
  · have R : nMul a b = (0, 2) := if_neg h
    have e1 : 0 < a * b / 18446744073709551616 := by omega
    generalize a * b / 18446744073709551616 = x at *
    rw [R]
    clear R
    go_enter Try.func21, Try.ntmps21
    go_wp2_with fail
    refine (P _).mono ?_
    rintro e w' ⟨rfl, rfl⟩
    go_wp2
    go_ret2
    exact ⟨rfl, rfl⟩
end Go.Proofs.Ytilkeijoppafcaa
