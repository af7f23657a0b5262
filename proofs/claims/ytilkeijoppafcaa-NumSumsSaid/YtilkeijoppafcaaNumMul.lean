/-
  The contracts of package num's Int and Of.
-/
import Derived.Test.YtilkeijoppafcaaNum
import Derived.Test.YtilkeijoppafcaaNumArith
namespace Go.Proofs.Ytilkeijoppafcaa
open Go.RowKit

theorem int_c {w : World} (a : Nat) (ha : a ≤ 18446744073709551615) :
    Calls Try.prog 15 #[.int .u64 a] w fun e w' => e = .returned (.tuple #[.int .i64 (nInt a).1, .int .i64 (nInt a).2]) ∧ w = w' := by
  by_cases h : a < 9223372036854775808
  · have R : nInt a = (a, 0) := if_pos h
    rw [R]
    clear R
    go_enter Try.func15, Try.ntmps15
    go_wp2
    go_ret2
    exact ⟨rfl, rfl⟩
  · have R : nInt a = (0, 2) := if_neg h
    have e : 9223372036854775807 < a := by omega
    rw [R]
    clear R
    go_enter Try.func15, Try.ntmps15
    go_wp2
    go_ret2
    exact ⟨rfl, rfl⟩

theorem of_c {w : World} (n : Int) (hn : inI64 n) :
    Calls Try.prog 14 #[.int .i64 n] w fun e w' => e = .returned (.tuple #[.int .u64 (nOf n).1, .int .i64 (nOf n).2]) ∧ w = w' := by
  have hn2 := hn.2
  by_cases h : 0 ≤ n
  · have R : nOf n = (n.toNat, 0) := if_pos h
    have e1 : ((n.toNat : Nat) : Int) = n := Int.toNat_of_nonneg h
    have e2 : IntKind.u64.wrap n = n := by rw [IntKind.wrap_u64]; omega
    rw [R, e1]
    clear R e1
    go_enter Try.func14, Try.ntmps14
    go_wp2
    go_ret2
    exact ⟨rfl, rfl⟩
  · have R : nOf n = (0, 2) := if_neg h
    rw [R]
    clear R
    go_enter Try.func14, Try.ntmps14
    go_wp2
    go_ret2
    exact ⟨rfl, rfl⟩
end Go.Proofs.Ytilkeijoppafcaa
