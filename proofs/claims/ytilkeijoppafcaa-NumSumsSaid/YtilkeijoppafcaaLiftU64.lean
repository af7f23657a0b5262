/-
  Numbers and rows of numbers, read off a law's argument.
-/
import Derived.Test.YtilkeijoppafcaaLift
import Derived.Test.YtilkeijoppafcaaNumSum
namespace Go.Proofs.Ytilkeijoppafcaa
open Go.ChangeShapes Go.WideShapes Go.ChangeAt Go.RowKit Go.Deep

section
variable {H : Type} {enc : TypeId × Value → H} {W : World}
theorem inU64_of_wf {n : Int} (h : (Lit.int .u64 n).wf = true) : 0 ≤ n ∧ n ≤ 18446744073709551615 := by
  simpa [Lit.wf, IntKind.min, IntKind.max, IntKind.signed, IntKind.bits] using h
theorem arg_u64 {v : Value} {d : DataW H} {ps : List MemPlace} (hok : ∃ base, Value.okWide Try.prog W .any base 23 v) (h : DataW.Trod enc Try.prog W 0 (fun _ => true) true 23 v d ps) : ∃ n : Nat, v = .int .u64 n ∧ n ≤ 18446744073709551615 := by
  obtain ⟨base, hok⟩ := hok
  obtain ⟨a0, rfl, rfl, rfl, w0⟩ := open_int Try.underlying23 hok h
  have hx := inU64_of_wf w0
  exact ⟨a0.toNat, by rw [Int.toNat_of_nonneg hx.1], by omega⟩
theorem nums_of_trod {fuel : Nat} {v : Value} {y : DataW H × List MemPlace} (h : DataW.trod enc Try.prog W 0 (fun _ => true) true fuel 22 [v] = some y) (hlt : ∀ p ∈ y.2, p.block < W.heap.size) :
    ∃ (a : Option Addr) (keep : List Nat) (cap : Nat), v = .slice a keep.length cap ∧ NumsAt W (· < W.heap.size) a keep ∧ keep.length ≤ cap ∧ cap ≤ 9223372036854775807 := by
  rcases open_ints Try.underlying22 Try.underlying23 (by kernel_rfl) h with ⟨hcs, rfl⟩ | ⟨a, len, cap, zs, hcs, hb, hl, hm, hz, rfl, hcell, hwz⟩
  · have e : v = .slice none 0 0 := by simpa using hcs
    exact ⟨none, [], 0, e, ⟨fun i hi => by simp at hi, by simp, fun i hi => by simp at hi⟩, by simp, by omega⟩
  · have e : v = .slice (some a) len cap := by simpa using hcs
    have hz' : zs.length = cap := by simpa using hz
    have hm' := maxLen_le
    refine ⟨some a, (zs.take len).map Int.toNat, cap, by rw [e, List.length_map, List.length_take, hz', Nat.min_eq_left hl], ⟨fun i hi => ?_, by simp; omega, fun i hi => ?_⟩, by simp; omega, by omega⟩
    · have hi' : i < zs.length := by simp at hi; omega
      have hc := hcell i hi'
      have ea := addr_some hc
      refine ⟨a.block, a.off, ?_, ?_, ?_⟩
      · have h0 := addr_some (hcell 0 (by omega))
        have : a.add 0 = a := by simp [Addr.add]
        rw [this] at h0
        cases a; simp_all
      · refine hlt (.cell a.block (a.off + i)) ?_
        simp only [MemPlace.row, List.mem_map, List.mem_range]
        exact ⟨i, hi', by simp⟩
      · rw [ea] at hc; rw [hc]
        have := inU64_of_wf (hwz _ (List.getElem_mem hi'))
        simp only [List.getD, List.getElem?_eq_getElem hi', Option.getD_some, List.getElem_map, List.getElem_take]
        rw [Int.toNat_of_nonneg this.1]
    · have hi' : i < zs.length := by simp at hi; omega
      rw [List.getElem_map, List.getElem_take]
      have := inU64_of_wf (hwz _ (List.getElem_mem hi'))
      omega
theorem arg_u64s {v : Value} {d : DataW H} {ps : List MemPlace} (hok : ∃ base, Value.okWide Try.prog W .any base 22 v) (h : DataW.Trod enc Try.prog W 0 (fun _ => true) true 22 v d ps) (hlt : ∀ p ∈ ps, p.block < W.heap.size) :
    ∃ (a : Option Addr) (keep : List Nat) (cap : Nat), v = .slice a keep.length cap ∧ NumsAt W (· < W.heap.size) a keep ∧ keep.length ≤ cap ∧ cap ≤ 9223372036854775807 := by
  obtain ⟨base, hok⟩ := hok
  obtain ⟨a0, len, cap, rfl⟩ := okWide_slice Try.underlying22 hok
  obtain ⟨fuel, hf⟩ := h
  exact nums_of_trod (by simpa [Value.cells] using hf) hlt
end
end Go.Proofs.Ytilkeijoppafcaa
