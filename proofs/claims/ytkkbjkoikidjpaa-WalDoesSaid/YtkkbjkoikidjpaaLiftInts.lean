/-
  A slice of ints, read off a law's argument.
-/
import Derived.Test.YtkkbjkoikidjpaaLift
namespace Go.Proofs.Ytkkbjkoikidjpaa
open Go.ChangeShapes Go.WideShapes Go.ChangeAt Go.RowKit Go.Deep

section
variable {H : Type} {enc : TypeId × Value → H} {W : World}
set_option maxRecDepth 100000 in
/-- A slice of ints. -/
theorem ints_of_trod {fuel : Nat} {v : Value} {y : DataW H × List MemPlace} (h : DataW.trod enc Try.prog W 0 (fun _ => true) true fuel 32 [v] = some y) (hlt : ∀ p ∈ y.2, p.block < W.heap.size) :
    ∃ (a : Option Addr) (keep : List Int) (cap : Nat), v = .slice a keep.length cap ∧ IntsAt W (· < W.heap.size) a keep ∧ keep.length ≤ cap ∧ cap ≤ 9223372036854775807 := by
  rcases open_ints Try.underlying32 Try.underlying3 (by kernel_rfl) h with ⟨hcs, rfl⟩ | ⟨a, len, cap, zs, hcs, hb, hl, hm, hz, rfl, hcell, hwz⟩
  · have e : v = .slice none 0 0 := by simpa using hcs
    exact ⟨none, [], 0, e, ⟨fun i hi => by simp at hi, by simp, fun i hi => by simp at hi⟩, by simp, by omega⟩
  · have e : v = .slice (some a) len cap := by simpa using hcs
    have hz' : zs.length = cap := by simpa using hz
    have hm' := maxLen_le
    refine ⟨some a, zs.take len, cap, by rw [e, List.length_take, hz', Nat.min_eq_left hl], ⟨fun i hi => ?_, by simp; omega, fun i hi => ?_⟩, by simp; omega, by omega⟩
    · have hi' : i < zs.length := by simp at hi; omega
      have hc := hcell i hi'
      have ea := addr_some hc
      refine ⟨a.block, a.off, ?_, ?_, ?_⟩
      · have h0 := addr_some (hcell 0 (by omega))
        have : a.add 0 = a := by simp [Addr.add]
        rw [this] at h0
        cases a; simp_all
      · refine hlt (.cell a.block (a.off + i)) ?_
        simp only [MemPlace.row, List.mem_map, List.mem_range]
        exact ⟨i, hi', by simp⟩
      · rw [ea] at hc; rw [hc]; simp [List.getD, List.getElem?_eq_getElem hi']
    · have hi' : i < zs.length := by simp at hi; omega
      rw [List.getElem_take]
      exact inI64_of_wf (hwz _ (List.getElem_mem hi'))
set_option maxRecDepth 100000 in
theorem arg_ints {v : Value} {d : DataW H} {ps : List MemPlace} (hok : ∃ base, Value.okWide Try.prog W .any base 32 v) (h : DataW.Trod enc Try.prog W 0 (fun _ => true) true 32 v d ps) (hlt : ∀ p ∈ ps, p.block < W.heap.size) :
    ∃ (a : Option Addr) (keep : List Int) (cap : Nat), v = .slice a keep.length cap ∧ IntsAt W (· < W.heap.size) a keep ∧ keep.length ≤ cap ∧ cap ≤ 9223372036854775807 := by
  obtain ⟨base, hok⟩ := hok
  obtain ⟨a0, len, cap, rfl⟩ := okWide_slice Try.underlying32 hok
  obtain ⟨fuel, hf⟩ := h
  exact ints_of_trod (by simpa [Value.cells] using hf) hlt
end
end Go.Proofs.Ytkkbjkoikidjpaa
