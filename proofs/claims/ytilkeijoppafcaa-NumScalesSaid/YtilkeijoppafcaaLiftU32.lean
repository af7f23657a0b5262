/-
  Numbers of 32 bits, and pairs of them, read off a law's argument.
-/
import Derived.Test.YtilkeijoppafcaaLiftPair
namespace Go.Proofs.Ytilkeijoppafcaa
open Go.ChangeShapes Go.WideShapes Go.ChangeAt Go.RowKit Go.Deep

section
variable {H : Type} {enc : TypeId × Value → H} {W : World}
theorem inU32_of_wf {n : Int} (h : (Lit.int .u32 n).wf = true) : 0 ≤ n ∧ n ≤ 4294967295 := by
  simpa [Lit.wf, IntKind.min, IntKind.max, IntKind.signed, IntKind.bits] using h
theorem arg_u32 {v : Value} {d : DataW H} {ps : List MemPlace} (hok : ∃ base, Value.okWide Try.prog W .any base 39 v) (h : DataW.Trod enc Try.prog W 0 (fun _ => true) true 39 v d ps) : ∃ n : Nat, v = .int .u32 n ∧ n ≤ 4294967295 := by
  obtain ⟨base, hok⟩ := hok
  obtain ⟨a0, rfl, rfl, rfl, w0⟩ := open_int Try.underlying39 hok h
  have hx := inU32_of_wf w0
  exact ⟨a0.toNat, by rw [Int.toNat_of_nonneg hx.1], by omega⟩
theorem arg_u32x2 {v : Value} {d : DataW H} {ps : List MemPlace} (hok : ∃ base, Value.okWide Try.prog W .any base 41 v) (h : DataW.Trod enc Try.prog W 0 (fun _ => true) true 41 v d ps) :
    ∃ a b : Nat, v = .agg #[.int .u32 a, .int .u32 b] ∧ a ≤ 4294967295 ∧ b ≤ 4294967295 := by
  obtain ⟨c0, c1, n, y0, y1, rfl, h0, h1⟩ := arg_pair Try.underlying41 (by kernel_rfl) (by kernel_rfl) hok h
  obtain ⟨x0, e0, _, w0⟩ := DataW.trod_int Try.underlying39 h0
  obtain ⟨x1, e1, _, w1⟩ := DataW.trod_int Try.underlying39 h1
  simp only [List.cons.injEq, and_true] at e0 e1
  subst e0 e1
  have b0 := inU32_of_wf w0
  have b1 := inU32_of_wf w1
  exact ⟨x0.toNat, x1.toNat, by rw [Int.toNat_of_nonneg b0.1, Int.toNat_of_nonneg b1.1], by omega, by omega⟩
end
end Go.Proofs.Ytilkeijoppafcaa
