/-
  A row of pairs of numbers of 32 bits, read off a law's argument.
-/
import Derived.Test.YtimbngaadgkeaaaLiftSess
namespace Go.Proofs.Ytimbngaadgkeaaa
open Go.ChangeShapes Go.WideShapes Go.ChangeAt Go.RowKit Go.Deep

/-- Pairs that lie below block B. -/
structure PairsAt (w : World) (B : Nat) (a : Option Addr) (l : List (Nat × Nat)) : Prop where
  cell : ∀ i (h : i < l.length), ∃ b o, a = some ⟨b, o, none⟩ ∧ b < B ∧ w.cell? ⟨b, o + i * 2, none⟩ = some (.int .u32 l[i].1) ∧ w.cell? ⟨b, o + i * 2 + 1, none⟩ = some (.int .u32 l[i].2)
  rng : ∀ i (h : i < l.length), l[i].1 ≤ 4294967295 ∧ l[i].2 ≤ 4294967295
  small : l.length ≤ 9223372036854775807

section
variable {H : Type} {enc : TypeId × Value → H} {W : World}
theorem pair_of_cells {a : Addr} {i : Nat} {cells : List Value} {y : DataW H × List MemPlace} {m : Nat} (hc : W.cells? 0 (a.add (i * 2)) 2 = some cells) (ht : DataW.trod enc Try.prog W 0 (fun _ => true) true m 49 cells = some y) :
    ∃ o : Nat × Nat, (W.cell? (a.add (i * 2)) = some (.int .u32 o.1) ∧ W.cell? (a.add (i * 2 + 1)) = some (.int .u32 o.2)) ∧ o.1 ≤ 4294967295 ∧ o.2 ≤ 4294967295 := by
  obtain ⟨_, hsize, hat⟩ := World.cells?_some hc
  have he : Try.prog.cellsOf 48 = 1 := by kernel_rfl
  obtain ⟨xs, k, _, _, _, hl, hel⟩ := DataW.trod_array Try.underlying49 ht
  have h0 := hel 0 (by omega)
  have h1 := hel 1 (by omega)
  rw [he] at h0 h1
  match cells, hsize, xs, hl with
  | [c0, c1], _, [y0, y1], _ =>
    have t0 : DataW.trod enc Try.prog W 0 (fun _ => true) true k 48 [c0] = some y0 := by simpa using h0
    have t1 : DataW.trod enc Try.prog W 0 (fun _ => true) true k 48 [c1] = some y1 := by simpa using h1
    obtain ⟨x0, e0, _, w0⟩ := DataW.trod_int Try.underlying48 t0
    obtain ⟨x1, e1, _, w1⟩ := DataW.trod_int Try.underlying48 t1
    simp only [List.cons.injEq, and_true] at e0 e1
    have b0 := inU32_of_wf w0
    have b1 := inU32_of_wf w1
    have q0 := hat 0 (by omega)
    have q1 := hat 1 (by omega)
    rw [add_add] at q0 q1
    refine ⟨(x0.toNat, x1.toNat), ⟨?_, ?_⟩, by show x0.toNat ≤ _; omega, by show x1.toNat ≤ _; omega⟩
    · show _ = some (Value.int .u32 ((x0.toNat : Nat) : Int))
      rw [Int.toNat_of_nonneg b0.1, ← e0]; simpa using q0
    · show _ = some (Value.int .u32 ((x1.toNat : Nat) : Int))
      rw [Int.toNat_of_nonneg b1.1, ← e1]; simpa using q1

theorem arg_pairs {v : Value} {d : DataW H} {ps : List MemPlace} (hok : ∃ base, Value.okWide Try.prog W .any base 47 v) (h : DataW.Trod enc Try.prog W 0 (fun _ => true) true 47 v d ps) :
    ∃ (a : Option Addr) (l : List (Nat × Nat)) (cap : Nat), v = .slice a l.length cap ∧ PairsAt W W.heap.size a l := by
  obtain ⟨base, hok⟩ := hok
  obtain ⟨a0, len, cap, rfl⟩ := okWide_slice Try.underlying47 hok
  obtain ⟨fuel, hf⟩ := h
  rcases open_slice Try.underlying47 hf with ⟨hcs, _⟩ | ⟨a, len', cap', m, n, D, Pl, hcs, _, hl, hm, hmm, hx, hi⟩
  · have e : (.slice a0 len cap : Value) = .slice none 0 0 := by simpa [Value.cells] using hcs
    injection e with e1 e2 e3
    subst e1 e2 e3
    exact ⟨none, [], 0, rfl, fun i hi => by simp at hi, fun i hi => by simp at hi, by simp⟩
  · have e : (.slice a0 len cap : Value) = .slice (some a) len' cap' := by simpa [Value.cells] using hcs
    injection e with e1 e2 e3
    subst e1 e2 e3
    have hmc : m = cap := by simpa using hmm
    have hC : Try.prog.cellsOf 49 = 2 := by kernel_rfl
    have key : ∀ i, i < len → ∃ o : Nat × Nat, (W.cell? (a.add (i * 2)) = some (.int .u32 o.1) ∧ W.cell? (a.add (i * 2 + 1)) = some (.int .u32 o.2)) ∧ o.1 ≤ 4294967295 ∧ o.2 ≤ 4294967295 := by
      intro i hil
      obtain ⟨cells, hcells, htrod⟩ := hi i (by omega)
      rw [hC] at hcells
      exact pair_of_cells hcells htrod
    obtain ⟨f, hfk⟩ := choose_lt key
    have hlen : ((List.range len).map f).length = len := by simp
    have hm' := maxLen_le
    have get : ∀ i (h : i < ((List.range len).map f).length), ((List.range len).map f)[i] = f i := fun i h => by simp
    refine ⟨some a, (List.range len).map f, cap, by rw [hlen], fun i hi' => ?_, fun i hi' => ?_, by rw [hlen]; omega⟩
    · rw [get i hi']
      rw [hlen] at hi'
      obtain ⟨⟨c0, c1⟩, _⟩ := hfk i hi'
      have ea : a = ⟨a.block, a.off, none⟩ := by
        obtain ⟨⟨b0, _⟩, _⟩ := hfk 0 (by omega)
        exact addr_same (by simpa [Addr.add] using b0)
      have hbl : a.block < W.heap.size := by
        have := World.block_lt_of_cell? W _ c0
        rw [addr_some c0] at this; exact this
      refine ⟨a.block, a.off, by rw [← ea], hbl, ?_, ?_⟩
      · rw [addr_some c0] at c0; exact c0
      · rw [addr_some c1] at c1; exact c1
    · rw [get i hi']; exact (hfk i (by rwa [hlen] at hi')).2
end
end Go.Proofs.Ytimbngaadgkeaaa
