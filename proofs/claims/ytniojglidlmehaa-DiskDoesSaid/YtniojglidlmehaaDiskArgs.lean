/-
  A script of calls on disks, read off a law's argument.
-/
import Derived.Test.YtniojglidlmehaaLift
namespace Go.Proofs.Ytniojglidlmehaa
open Go.ChangeShapes Go.WideShapes Go.ChangeAt Go.RowKit Go.Deep

section
variable {H : Type} {enc : TypeId × Value → H} {W : World}
theorem dop_of_cells {a : Addr} {i : Nat} {fs : Array Field} (hfs : fs.size = 5) (h0 : (fs[0]?).map (·.type) = some 3) (h1 : (fs[1]?).map (·.type) = some 3) (h2 : (fs[2]?).map (·.type) = some 3) (h3 : (fs[3]?).map (·.type) = some 9) (h4 : (fs[4]?).map (·.type) = some 27)
    (h : ∃ (ys : List (DataW H × List MemPlace)) (n : Nat), (∀ p ∈ ys.flatMap (·.2), p.block < W.heap.size) ∧
        ∀ (j : Nat) (f : Field), fs[j]? = some f → ∃ (v : Value) (y : DataW H × List MemPlace), W.cell? (a.add (i * fs.size + j)) = some v ∧ ys[j]? = some y ∧ DataW.trod enc Try.prog W 0 (fun _ => true) true n f.type [v] = some y) :
    ∃ o : DOp, (W.cell? (a.add (i * 5)) = some (.int .i64 o.kind) ∧ W.cell? (a.add (i * 5 + 1)) = some (.int .i64 o.f) ∧ W.cell? (a.add (i * 5 + 2)) = some (.int .i64 o.n) ∧
      W.cell? (a.add (i * 5 + 3)) = some (.string o.s) ∧ W.cell? (a.add (i * 5 + 4)) = some (.slice o.ka o.keep.length o.kcap)) ∧
      (inI64 o.kind ∧ inI64 o.f ∧ inI64 o.n ∧ o.s.size ≤ 9223372036854775807 ∧ o.keep.length ≤ o.kcap) ∧ IntsAt W (· < W.heap.size) o.ka o.keep := by
  obtain ⟨ys, n, hlt, hf⟩ := h
  rw [hfs] at hf
  have get : ∀ (j : Nat) t, (fs[j]?).map (·.type) = some t → ∃ v y, W.cell? (a.add (i * 5 + j)) = some v ∧ ys[j]? = some y ∧ DataW.trod enc Try.prog W 0 (fun _ => true) true n t [v] = some y := by
    intro j t ht
    obtain ⟨f, hfj, rfl⟩ := Option.map_eq_some_iff.1 ht
    exact hf j f hfj
  obtain ⟨v0, y0, c0, _, t0⟩ := get 0 _ h0
  obtain ⟨v1, y1, c1, _, t1⟩ := get 1 _ h1
  obtain ⟨v2, y2, c2, _, t2⟩ := get 2 _ h2
  obtain ⟨v3, y3, c3, _, t3⟩ := get 3 _ h3
  obtain ⟨v4, y4, c4, g4, t4⟩ := get 4 _ h4
  obtain ⟨n0, e0, _, w0⟩ := DataW.trod_int Try.underlying3 t0
  obtain ⟨n1, e1, _, w1⟩ := DataW.trod_int Try.underlying3 t1
  obtain ⟨n2, e2, _, w2⟩ := DataW.trod_int Try.underlying3 t2
  obtain ⟨s, e3, _, hs⟩ := DataW.trod_string Try.underlying9 t3
  obtain ⟨ka, keep, kcap, e4, hk, hkl, _⟩ := ints_of_trod t4 (fun p hp => hlt p (List.mem_flatMap.2 ⟨y4, List.mem_of_getElem? g4, hp⟩))
  simp only [List.cons.injEq, and_true] at e0 e1 e2 e3
  subst e0 e1 e2 e3 e4
  have := maxLen_le
  exact ⟨⟨n0, n1, n2, s, ka, kcap, keep⟩, ⟨c0, c1, c2, c3, c4⟩, ⟨inI64_of_wf w0, inI64_of_wf w1, inI64_of_wf w2, by simp only; omega, hkl⟩, hk⟩

theorem opFields : ∃ fs : Array Field, Try.prog.underlying 29 = some (.struct fs) ∧ oneCellFields Try.prog fs = true ∧ fs.size = 5 ∧ (fs[0]?).map (·.type) = some 3 ∧ (fs[1]?).map (·.type) = some 3 ∧ (fs[2]?).map (·.type) = some 3 ∧ (fs[3]?).map (·.type) = some 9 ∧ (fs[4]?).map (·.type) = some 27 :=
  ⟨_, Try.underlying29, by kernel_rfl, by kernel_rfl, by kernel_rfl, by kernel_rfl, by kernel_rfl, by kernel_rfl, by kernel_rfl⟩

theorem arg_dops {v : Value} {d : DataW H} {ps : List MemPlace} (hok : ∃ base, Value.okWide Try.prog W .any base 22 v) (h : DataW.Trod enc Try.prog W 0 (fun _ => true) true 22 v d ps) (hlt : ∀ p ∈ ps, p.block < W.heap.size) :
    ∃ (a : Option Addr) (l : List DOp) (cap : Nat), v = .slice a l.length cap ∧ DOpsAt W W.heap.size a l := by
  obtain ⟨base, hok⟩ := hok
  obtain ⟨a0, len, cap, rfl⟩ := okWide_slice Try.underlying22 hok
  obtain ⟨fuel, hf⟩ := h
  obtain ⟨fs, hu, hone, hsz, f0, f1, f2, f3, f4⟩ := opFields
  rcases slice_structs Try.underlying22 hu hone (by rw [hsz]; kernel_rfl) hf with hcs | ⟨a, len', cap', hcs, hl, hm, hi⟩
  · have e : (.slice a0 len cap : Value) = .slice none 0 0 := by simpa [Value.cells] using hcs
    injection e with e1 e2 e3
    subst e1 e2 e3
    exact ⟨none, [], 0, rfl, fun i hi => by simp at hi, fun i hi => by simp at hi, fun i hi => by simp at hi, by simp⟩
  · have e : (.slice a0 len cap : Value) = .slice (some a) len' cap' := by simpa [Value.cells] using hcs
    injection e with e1 e2 e3
    subst e1 e2 e3
    have key : ∀ i, i < len → ∃ o : DOp, (W.cell? (a.add (i * 5)) = some (.int .i64 o.kind) ∧ W.cell? (a.add (i * 5 + 1)) = some (.int .i64 o.f) ∧ W.cell? (a.add (i * 5 + 2)) = some (.int .i64 o.n) ∧
      W.cell? (a.add (i * 5 + 3)) = some (.string o.s) ∧ W.cell? (a.add (i * 5 + 4)) = some (.slice o.ka o.keep.length o.kcap)) ∧
      (inI64 o.kind ∧ inI64 o.f ∧ inI64 o.n ∧ o.s.size ≤ 9223372036854775807 ∧ o.keep.length ≤ o.kcap) ∧ IntsAt W (· < W.heap.size) o.ka o.keep := by
      intro i hil
      obtain ⟨ys, n, hpl, hfj⟩ := hi i hil
      exact dop_of_cells hsz f0 f1 f2 f3 f4 ⟨ys, n, fun p hp => hlt p (hpl p hp), hfj⟩
    have : Inhabited DOp := ⟨⟨0, 0, 0, ByteArray.empty, none, 0, []⟩⟩
    obtain ⟨f, hfk⟩ := choose_lt key
    have hlen : ((List.range len).map f).length = len := by simp
    have hm' := maxLen_le
    have get : ∀ i (h : i < ((List.range len).map f).length), ((List.range len).map f)[i] = f i := fun i h => by simp
    refine ⟨some a, (List.range len).map f, cap, by rw [hlen], fun i hi' => ?_, fun i hi' => ?_, fun i hi' => ?_, by rw [hlen]; omega⟩
    · rw [get i hi']
      rw [hlen] at hi'
      obtain ⟨⟨c0, c1, c2, c3, c4⟩, _, _⟩ := hfk i hi'
      have ea : a = ⟨a.block, a.off, none⟩ := by
        obtain ⟨⟨b0, _⟩, _, _⟩ := hfk 0 (by omega)
        exact addr_same (by simpa [Addr.add] using b0)
      have hbl : a.block < W.heap.size := by
        have := World.block_lt_of_cell? W _ c0
        rw [addr_some c0] at this; exact this
      refine ⟨a.block, a.off, by rw [← ea], hbl, ?_, ?_, ?_, ?_, ?_⟩
      · rw [addr_some c0] at c0; exact c0
      · rw [addr_some c1] at c1; exact c1
      · rw [addr_some c2] at c2; exact c2
      · rw [addr_some c3] at c3; exact c3
      · rw [addr_some c4] at c4; exact c4
    · rw [get i hi']; exact (hfk i (by rwa [hlen] at hi')).2.1
    · rw [get i hi']; exact (hfk i (by rwa [hlen] at hi')).2.2
end
end Go.Proofs.Ytniojglidlmehaa
