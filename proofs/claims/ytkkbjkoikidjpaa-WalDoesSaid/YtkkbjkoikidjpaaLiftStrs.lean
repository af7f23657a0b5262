/-
  A row of strings, read off a law's argument.
-/
import Derived.Test.YtkkbjkoikidjpaaLift
import Derived.Test.YtkkbjkoikidjpaaWalSync
namespace Go.Proofs.Ytkkbjkoikidjpaa
open Go.ChangeShapes Go.WideShapes Go.ChangeAt Go.RowKit Go.Deep

section
variable {H : Type} {enc : TypeId × Value → H} {W : World}
theorem str_of_cells {a : Addr} {i : Nat} {cells : List Value} {y : DataW H × List MemPlace} {m : Nat} (hc : W.cells? 0 (a.add (i * 1)) 1 = some cells) (ht : DataW.trod enc Try.prog W 0 (fun _ => true) true m 9 cells = some y) :
    ∃ s : ByteArray, W.cell? (a.add i) = some (.string s) ∧ s.size ≤ 9223372036854775807 := by
  obtain ⟨_, hsize, hat⟩ := World.cells?_some hc
  obtain ⟨s, e, _, hs⟩ := DataW.trod_string Try.underlying9 ht
  subst e
  have q0 := hat 0 (by omega)
  have := maxLen_le
  exact ⟨s, by simpa [Nat.mul_one, Addr.add] using q0, by omega⟩

/-- Strings that lie below block B. -/
structure StrsAt (w : World) (B : Nat) (a : Option Addr) (l : List ByteArray) : Prop where
  cell : ∀ i (h : i < l.length), ∃ b o, a = some ⟨b, o, none⟩ ∧ b < B ∧ w.cell? ⟨b, o + i, none⟩ = some (.string l[i])
  rng : ∀ x ∈ l, x.size ≤ 9223372036854775807
  small : l.length ≤ 9223372036854775807
set_option maxRecDepth 100000 in
theorem arg_strs {v : Value} {d : DataW H} {ps : List MemPlace} (hok : ∃ base, Value.okWide Try.prog W .any base 31 v) (h : DataW.Trod enc Try.prog W 0 (fun _ => true) true 31 v d ps) :
    ∃ (a : Option Addr) (l : List ByteArray) (cap : Nat), v = .slice a l.length cap ∧ StrsAt W W.heap.size a l := by
  obtain ⟨base, hok⟩ := hok
  obtain ⟨a0, len, cap, rfl⟩ := okWide_slice Try.underlying31 hok
  obtain ⟨fuel, hf⟩ := h
  rcases open_slice Try.underlying31 hf with ⟨hcs, _⟩ | ⟨a, len', cap', m, n, D, Pl, hcs, _, hl, hm, hmm, hx, hi⟩
  · have e : (.slice a0 len cap : Value) = .slice none 0 0 := by simpa [Value.cells] using hcs
    injection e with e1 e2 e3
    subst e1 e2 e3
    exact ⟨none, [], 0, rfl, fun i hi => by simp at hi, fun x hx => by simp at hx, by simp⟩
  · have e : (.slice a0 len cap : Value) = .slice (some a) len' cap' := by simpa [Value.cells] using hcs
    injection e with e1 e2 e3
    subst e1 e2 e3
    have hmc : m = cap := by simpa using hmm
    have hC : Try.prog.cellsOf 9 = 1 := by kernel_rfl
    have key : ∀ i, i < len → ∃ s : ByteArray, W.cell? (a.add i) = some (.string s) ∧ s.size ≤ 9223372036854775807 := by
      intro i hil
      obtain ⟨cells, hcells, htrod⟩ := hi i (by omega)
      rw [hC] at hcells
      exact str_of_cells hcells htrod
    obtain ⟨f, hfk⟩ := choose_lt key
    have hlen : ((List.range len).map f).length = len := by simp
    have hm' := maxLen_le
    refine ⟨some a, (List.range len).map f, cap, by rw [hlen], fun i hi' => ?_, fun x hx => ?_, by rw [hlen]; omega⟩
    · rw [hlen] at hi'
      have c0 := (hfk 0 (by omega)).1
      have ea : a = ⟨a.block, a.off, none⟩ := addr_same (by simpa [Addr.add] using c0)
      have c1 := (hfk i hi').1
      have hbl : a.block < W.heap.size := by
        have := World.block_lt_of_cell? W _ c1
        rw [addr_some c1] at this; exact this
      rw [addr_some c1] at c1
      exact ⟨a.block, a.off, by rw [← ea], hbl, by simpa using c1⟩
    · obtain ⟨i, hi', rfl⟩ := List.mem_map.1 hx
      exact (hfk i (by simpa using hi')).2
end
end Go.Proofs.Ytkkbjkoikidjpaa
