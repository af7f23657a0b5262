/-
  A text, read off a law's argument.
-/
import Derived.Test.YtkkbjkoikidjpaaLift
namespace Go.Proofs.Ytkkbjkoikidjpaa
open Go.ChangeShapes Go.WideShapes Go.ChangeAt Go.RowKit Go.Deep

section
variable {H : Type} {enc : TypeId × Value → H} {W : World}
set_option maxRecDepth 100000 in
theorem arg_str {v : Value} {d : DataW H} {ps : List MemPlace} (hok : ∃ base, Value.okWide Try.prog W .any base 9 v) (h : DataW.Trod enc Try.prog W 0 (fun _ => true) true 9 v d ps) : ∃ s : ByteArray, v = .string s ∧ s.size ≤ 9223372036854775807 := by
  obtain ⟨base, hok⟩ := hok
  obtain ⟨s, rfl⟩ := okWide_string Try.underlying9 hok
  obtain ⟨fuel, hf⟩ := h
  obtain ⟨s', e, _, hs⟩ := DataW.trod_string Try.underlying9 hf
  have e' : s = s' := by simpa [Value.cells] using e
  subst e'
  have := maxLen_le
  exact ⟨s, rfl, by omega⟩

end
end Go.Proofs.Ytkkbjkoikidjpaa
