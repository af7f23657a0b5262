/-
  An array of three numbers of 32 bits, read off a law's argument.
-/
import Derived.Test.YtimbngaadgkeaaaLiftSess
namespace Go.Proofs.Ytimbngaadgkeaaa
open Go.ChangeShapes Go.WideShapes Go.ChangeAt Go.RowKit Go.Deep

section
variable {H : Type} {enc : TypeId × Value → H} {W : World}
theorem arg_u32x3 {v : Value} {d : DataW H} {ps : List MemPlace} (hok : ∃ base, Value.okWide Try.prog W .any base 52 v) (h : DataW.Trod enc Try.prog W 0 (fun _ => true) true 52 v d ps) :
    ∃ a b c : Nat, v = .agg #[.int .u32 a, .int .u32 b, .int .u32 c] ∧ a ≤ 4294967295 ∧ b ≤ 4294967295 ∧ c ≤ 4294967295 := by
  obtain ⟨base, hok⟩ := hok
  have ht := Try.underlying52
  have hc : Try.prog.cellsOf 52 = 3 := by kernel_rfl
  have he : Try.prog.cellsOf 48 = 1 := by kernel_rfl
  obtain ⟨cs, rfl, hsz, _⟩ : ∃ cs, v = .agg cs ∧ cs.size = Try.prog.cellsOf 52 ∧ Row.okWide Try.prog W .any base 52 cs := by
    simpa [Value.okWide, ht] using hok
  obtain ⟨l⟩ := cs
  rw [hc] at hsz
  match l, hsz with
  | [c0, c1, c2], _ =>
    obtain ⟨fuel, hf⟩ := h
    obtain ⟨xs, m, _, _, _, hl, hel⟩ := DataW.trod_array ht hf
    have h0 := hel 0 (by omega)
    have h1 := hel 1 (by omega)
    have h2 := hel 2 (by omega)
    rw [he] at h0 h1 h2
    match xs, hl with
    | [y0, y1, y2], _ =>
      have t0 : DataW.trod enc Try.prog W 0 (fun _ => true) true m 48 [c0] = some y0 := by simpa [Value.cells] using h0
      have t1 : DataW.trod enc Try.prog W 0 (fun _ => true) true m 48 [c1] = some y1 := by simpa [Value.cells] using h1
      have t2 : DataW.trod enc Try.prog W 0 (fun _ => true) true m 48 [c2] = some y2 := by simpa [Value.cells] using h2
      obtain ⟨x0, e0, _, w0⟩ := DataW.trod_int Try.underlying48 t0
      obtain ⟨x1, e1, _, w1⟩ := DataW.trod_int Try.underlying48 t1
      obtain ⟨x2, e2, _, w2⟩ := DataW.trod_int Try.underlying48 t2
      simp only [List.cons.injEq, and_true] at e0 e1 e2
      subst e0 e1 e2
      have b0 := inU32_of_wf w0
      have b1 := inU32_of_wf w1
      have b2 := inU32_of_wf w2
      exact ⟨x0.toNat, x1.toNat, x2.toNat, by rw [Int.toNat_of_nonneg b0.1, Int.toNat_of_nonneg b1.1, Int.toNat_of_nonneg b2.1], by omega, by omega, by omega⟩
end
end Go.Proofs.Ytimbngaadgkeaaa
