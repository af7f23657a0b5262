/-
  A row of parts, and texts, read off a law's argument.
-/
import Derived.Test.YtkmpefgaoagjjaaLift
import Derived.Test.YtkmpefgaoagjjaaCodecParts
namespace Go.Proofs.Ytkmpefgaoagjjaa
open Go.ChangeShapes Go.WideShapes Go.ChangeAt Go.RowKit Go.Deep

section
variable {H : Type} {enc : TypeId × Value → H} {W : World}
theorem arg_str {v : Value} {d : DataW H} {ps : List MemPlace} (hok : ∃ base, Value.okWide Try.prog W .any base 9 v) (h : DataW.Trod enc Try.prog W 0 (fun _ => true) true 9 v d ps) : ∃ s : ByteArray, v = .string s ∧ s.size ≤ 9223372036854775807 := by
  obtain ⟨base, hok⟩ := hok
  obtain ⟨s, rfl⟩ := okWide_string Try.underlying9 hok
  obtain ⟨fuel, hf⟩ := h
  obtain ⟨s', e, _, hs⟩ := DataW.trod_string Try.underlying9 hf
  have e' : s = s' := by simpa [Value.cells] using e
  subst e'
  have := maxLen_le
  exact ⟨s, rfl, by omega⟩

theorem part_of_cells {a : Addr} {i : Nat} {fs : Array Field} (hfs : fs.size = 3) (h0 : (fs[0]?).map (·.type) = some 3) (h1 : (fs[1]?).map (·.type) = some 3) (h2 : (fs[2]?).map (·.type) = some 9)
    (h : ∃ (ys : List (DataW H × List MemPlace)) (n : Nat), (∀ p ∈ ys.flatMap (·.2), p.block < W.heap.size) ∧
        ∀ (j : Nat) (f : Field), fs[j]? = some f → ∃ (v : Value) (y : DataW H × List MemPlace), W.cell? (a.add (i * fs.size + j)) = some v ∧ ys[j]? = some y ∧ DataW.trod enc Try.prog W 0 (fun _ => true) true n f.type [v] = some y) :
    ∃ o : DPart, (W.cell? (a.add (i * 3)) = some (.int .i64 o.kind) ∧ W.cell? (a.add (i * 3 + 1)) = some (.int .i64 o.n) ∧ W.cell? (a.add (i * 3 + 2)) = some (.string o.s)) ∧
      (inI64 o.kind ∧ inI64 o.n ∧ o.s.size ≤ 9223372036854775807) := by
  obtain ⟨ys, n, _, hf⟩ := h
  rw [hfs] at hf
  have get : ∀ (j : Nat) t, (fs[j]?).map (·.type) = some t → ∃ v y, W.cell? (a.add (i * 3 + j)) = some v ∧ ys[j]? = some y ∧ DataW.trod enc Try.prog W 0 (fun _ => true) true n t [v] = some y := by
    intro j t ht
    obtain ⟨f, hfj, rfl⟩ := Option.map_eq_some_iff.1 ht
    exact hf j f hfj
  obtain ⟨v0, y0, c0, _, t0⟩ := get 0 _ h0
  obtain ⟨v1, y1, c1, _, t1⟩ := get 1 _ h1
  obtain ⟨v2, y2, c2, _, t2⟩ := get 2 _ h2
  obtain ⟨n0, e0, _, w0⟩ := DataW.trod_int Try.underlying3 t0
  obtain ⟨n1, e1, _, w1⟩ := DataW.trod_int Try.underlying3 t1
  obtain ⟨s, e2, _, hs⟩ := DataW.trod_string Try.underlying9 t2
  simp only [List.cons.injEq, and_true] at e0 e1 e2
  subst e0 e1 e2
  have := maxLen_le
  exact ⟨⟨n0, n1, s⟩, ⟨c0, c1, c2⟩, ⟨inI64_of_wf w0, inI64_of_wf w1, by simp only; omega⟩⟩

theorem partFields : ∃ fs : Array Field, Try.prog.underlying 32 = some (.struct fs) ∧ oneCellFields Try.prog fs = true ∧ fs.size = 3 ∧ (fs[0]?).map (·.type) = some 3 ∧ (fs[1]?).map (·.type) = some 3 ∧ (fs[2]?).map (·.type) = some 9 :=
  ⟨_, Try.underlying32, by kernel_rfl, by kernel_rfl, by kernel_rfl, by kernel_rfl, by kernel_rfl⟩

theorem arg_parts {v : Value} {d : DataW H} {ps : List MemPlace} (hok : ∃ base, Value.okWide Try.prog W .any base 22 v) (h : DataW.Trod enc Try.prog W 0 (fun _ => true) true 22 v d ps) (hlt : ∀ p ∈ ps, p.block < W.heap.size) :
    ∃ (a : Option Addr) (l : List DPart) (cap : Nat), v = .slice a l.length cap ∧ PartsAt W W.heap.size a l := by
  obtain ⟨base, hok⟩ := hok
  obtain ⟨a0, len, cap, rfl⟩ := okWide_slice Try.underlying22 hok
  obtain ⟨fuel, hf⟩ := h
  obtain ⟨fs, hu, hone, hsz, f0, f1, f2⟩ := partFields
  rcases slice_structs Try.underlying22 hu hone (by rw [hsz]; kernel_rfl) hf with hcs | ⟨a, len', cap', hcs, hl, hm, hi⟩
  · have e : (.slice a0 len cap : Value) = .slice none 0 0 := by simpa [Value.cells] using hcs
    injection e with e1 e2 e3
    subst e1 e2 e3
    exact ⟨none, [], 0, rfl, fun i hi => by simp at hi, fun i hi => by simp at hi, by simp⟩
  · have e : (.slice a0 len cap : Value) = .slice (some a) len' cap' := by simpa [Value.cells] using hcs
    injection e with e1 e2 e3
    subst e1 e2 e3
    have key : ∀ i, i < len → ∃ o : DPart, (W.cell? (a.add (i * 3)) = some (.int .i64 o.kind) ∧ W.cell? (a.add (i * 3 + 1)) = some (.int .i64 o.n) ∧ W.cell? (a.add (i * 3 + 2)) = some (.string o.s)) ∧
      (inI64 o.kind ∧ inI64 o.n ∧ o.s.size ≤ 9223372036854775807) := by
      intro i hil
      obtain ⟨ys, n, hpl, hfj⟩ := hi i hil
      exact part_of_cells hsz f0 f1 f2 ⟨ys, n, fun p hp => hlt p (hpl p hp), hfj⟩
    have : Inhabited DPart := ⟨⟨0, 0, ByteArray.empty⟩⟩
    obtain ⟨f, hfk⟩ := choose_lt key
    have hlen : ((List.range len).map f).length = len := by simp
    have hm' := maxLen_le
    have get : ∀ i (h : i < ((List.range len).map f).length), ((List.range len).map f)[i] = f i := fun i h => by simp
    refine ⟨some a, (List.range len).map f, cap, by rw [hlen], fun i hi' => ?_, fun i hi' => ?_, by rw [hlen]; omega⟩
    · rw [get i hi']
      rw [hlen] at hi'
      obtain ⟨⟨c0, c1, c2⟩, _⟩ := hfk i hi'
      have ea : a = ⟨a.block, a.off, none⟩ := by
        obtain ⟨⟨b0, _⟩, _⟩ := hfk 0 (by omega)
        exact addr_same (by simpa [Addr.add] using b0)
      have hbl : a.block < W.heap.size := by
        have := World.block_lt_of_cell? W _ c0
        rw [addr_some c0] at this; exact this
      refine ⟨a.block, a.off, by rw [← ea], hbl, ?_, ?_, ?_⟩
      · rw [addr_some c0] at c0; exact c0
      · rw [addr_some c1] at c1; exact c1
      · rw [addr_some c2] at c2; exact c2
    · rw [get i hi']; exact (hfk i (by rwa [hlen] at hi')).2
end
end Go.Proofs.Ytkmpefgaoagjjaa
