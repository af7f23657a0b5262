/-
  Arrays of two, read off a law's argument.
-/
import Derived.Test.YtkmpefgaoagjjaaLift
namespace Go.Proofs.Ytkmpefgaoagjjaa
open Go.ChangeShapes Go.WideShapes Go.ChangeAt Go.RowKit Go.Deep

section
variable {H : Type} {enc : TypeId × Value → H} {W : World}
theorem arg_pair {t e : TypeId} {v : Value} {d : DataW H} {ps : List MemPlace} (ht : Try.prog.underlying t = some (.array 2 e)) (hc : Try.prog.cellsOf t = 2) (he : Try.prog.cellsOf e = 1)
    (hok : ∃ base, Value.okWide Try.prog W .any base t v) (h : DataW.Trod enc Try.prog W 0 (fun _ => true) true t v d ps) :
    ∃ (c0 c1 : Value) (n : Nat) (y0 y1 : DataW H × List MemPlace), v = .agg #[c0, c1] ∧ DataW.trod enc Try.prog W 0 (fun _ => true) true n e [c0] = some y0 ∧ DataW.trod enc Try.prog W 0 (fun _ => true) true n e [c1] = some y1 := by
  obtain ⟨base, hok⟩ := hok
  obtain ⟨cs, rfl, hsz, _⟩ : ∃ cs, v = .agg cs ∧ cs.size = Try.prog.cellsOf t ∧ Row.okWide Try.prog W .any base t cs := by
    simpa [Value.okWide, ht] using hok
  obtain ⟨l⟩ := cs
  rw [hc] at hsz
  match l, hsz with
  | [c0, c1], _ =>
    obtain ⟨fuel, hf⟩ := h
    obtain ⟨xs, m, _, _, _, hl, hel⟩ := DataW.trod_array ht hf
    have h0 := hel 0 (by omega)
    have h1 := hel 1 (by omega)
    rw [he] at h0 h1
    match xs, hl with
    | [y0, y1], _ => exact ⟨c0, c1, m, y0, y1, rfl, by simpa [Value.cells] using h0, by simpa [Value.cells] using h1⟩

theorem arg_u2 {v : Value} {d : DataW H} {ps : List MemPlace} (hok : ∃ base, Value.okWide Try.prog W .any base 56 v) (h : DataW.Trod enc Try.prog W 0 (fun _ => true) true 56 v d ps) :
    ∃ a b : Nat, v = .agg #[.int .u64 a, .int .u64 b] ∧ a ≤ 18446744073709551615 ∧ b ≤ 18446744073709551615 := by
  obtain ⟨c0, c1, n, y0, y1, rfl, h0, h1⟩ := arg_pair Try.underlying56 (by kernel_rfl) (by kernel_rfl) hok h
  obtain ⟨x0, e0, _, w0⟩ := DataW.trod_int Try.underlying36 h0
  obtain ⟨x1, e1, _, w1⟩ := DataW.trod_int Try.underlying36 h1
  simp only [List.cons.injEq, and_true] at e0 e1
  subst e0 e1
  have b0 : 0 ≤ x0 ∧ x0 ≤ 18446744073709551615 := by simpa [Lit.wf, IntKind.min, IntKind.max, IntKind.signed, IntKind.bits] using w0
  have b1 : 0 ≤ x1 ∧ x1 ≤ 18446744073709551615 := by simpa [Lit.wf, IntKind.min, IntKind.max, IntKind.signed, IntKind.bits] using w1
  exact ⟨x0.toNat, x1.toNat, by rw [Int.toNat_of_nonneg b0.1, Int.toNat_of_nonneg b1.1], by omega, by omega⟩

theorem arg_s2 {v : Value} {d : DataW H} {ps : List MemPlace} (hok : ∃ base, Value.okWide Try.prog W .any base 57 v) (h : DataW.Trod enc Try.prog W 0 (fun _ => true) true 57 v d ps) :
    ∃ a b : ByteArray, v = .agg #[.string a, .string b] ∧ a.size ≤ 9223372036854775807 ∧ b.size ≤ 9223372036854775807 := by
  obtain ⟨c0, c1, n, y0, y1, rfl, h0, h1⟩ := arg_pair Try.underlying57 (by kernel_rfl) (by kernel_rfl) hok h
  obtain ⟨x0, e0, _, w0⟩ := DataW.trod_string Try.underlying9 h0
  obtain ⟨x1, e1, _, w1⟩ := DataW.trod_string Try.underlying9 h1
  simp only [List.cons.injEq, and_true] at e0 e1
  subst e0 e1
  have := maxLen_le
  exact ⟨x0, x1, rfl, by omega, by omega⟩
end
end Go.Proofs.Ytkmpefgaoagjjaa
