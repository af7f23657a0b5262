/-
  An array of two, read off a law's argument.
-/
import Derived.Test.YtimbngaadgkeaaaLift
namespace Go.Proofs.Ytimbngaadgkeaaa
open Go.ChangeShapes Go.WideShapes Go.ChangeAt Go.RowKit Go.Deep

section
variable {H : Type} {enc : TypeId × Value → H} {W : World}
theorem arg_pair {t e : TypeId} {v : Value} {d : DataW H} {ps : List MemPlace} (ht : Try.prog.underlying t = some (.array 2 e)) (hc : Try.prog.cellsOf t = 2) (he : Try.prog.cellsOf e = 1)
    (hok : ∃ base, Value.okWide Try.prog W .any base t v) (h : DataW.Trod enc Try.prog W 0 (fun _ => true) true t v d ps) :
    ∃ (c0 c1 : Value) (n : Nat) (y0 y1 : DataW H × List MemPlace), v = .agg #[c0, c1] ∧ DataW.trod enc Try.prog W 0 (fun _ => true) true n e [c0] = some y0 ∧ DataW.trod enc Try.prog W 0 (fun _ => true) true n e [c1] = some y1 := by
  obtain ⟨base, hok⟩ := hok
  obtain ⟨cs, rfl, hsz, _⟩ : ∃ cs, v = .agg cs ∧ cs.size = Try.prog.cellsOf t ∧ Row.okWide Try.prog W .any base t cs := by
    simpa [Value.okWide, ht] using hok
  obtain ⟨l⟩ := cs
  rw [hc] at hsz
  match l, hsz with
  | [c0, c1], _ =>
    obtain ⟨fuel, hf⟩ := h
    obtain ⟨xs, m, _, _, _, hl, hel⟩ := DataW.trod_array ht hf
    have h0 := hel 0 (by omega)
    have h1 := hel 1 (by omega)
    rw [he] at h0 h1
    match xs, hl with
    | [y0, y1], _ => exact ⟨c0, c1, m, y0, y1, rfl, by simpa [Value.cells] using h0, by simpa [Value.cells] using h1⟩

end
end Go.Proofs.Ytimbngaadgkeaaa
