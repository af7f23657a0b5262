/-
  A script of the wal's calls, read off a law's argument.
-/
import Derived.Test.YtkkbjkoikidjpaaLiftInts
import Derived.Test.YtkkbjkoikidjpaaLiftStrs
import Derived.Test.YtkkbjkoikidjpaaWalCut
namespace Go.Proofs.Ytkkbjkoikidjpaa
open Go.ChangeShapes Go.WideShapes Go.ChangeAt Go.RowKit Go.Deep

section
variable {H : Type} {enc : TypeId × Value → H} {W : World}
set_option maxRecDepth 100000 in
theorem strs_of_trod {fuel : Nat} {v : Value} {y : DataW H × List MemPlace} (h : DataW.trod enc Try.prog W 0 (fun _ => true) true fuel 31 [v] = some y) :
    ∃ (a : Option Addr) (l : List ByteArray) (cap : Nat), v = .slice a l.length cap ∧ StrsP W (· < W.heap.size) a l := by
  rcases open_slice Try.underlying31 h with ⟨hcs, _⟩ | ⟨a, len, cap, m, n, D, Pl, hcs, _, hl, hm, hmm, hx, hi⟩
  · have e : v = .slice none 0 0 := by simpa using hcs
    exact ⟨none, [], 0, e, ⟨fun i hi => by simp at hi, fun x hx => by simp at hx, by simp⟩⟩
  · have e : v = .slice (some a) len cap := by simpa using hcs
    have hmc : m = cap := by simpa using hmm
    have hC : Try.prog.cellsOf 9 = 1 := by kernel_rfl
    have key : ∀ i, i < len → ∃ s : ByteArray, W.cell? (a.add i) = some (.string s) ∧ s.size ≤ 9223372036854775807 := by
      intro i hil
      obtain ⟨cells, hcells, htrod⟩ := hi i (by omega)
      rw [hC] at hcells
      exact str_of_cells hcells htrod
    obtain ⟨f, hfk⟩ := choose_lt key
    have hlen : ((List.range len).map f).length = len := by simp
    have hm' := maxLen_le
    refine ⟨some a, (List.range len).map f, cap, by rw [hlen]; exact e, ⟨fun i hi' => ?_, fun x hx => ?_, by rw [hlen]; omega⟩⟩
    · rw [hlen] at hi'
      have c0 := (hfk 0 (by omega)).1
      have ea : a = ⟨a.block, a.off, none⟩ := addr_same (by simpa [Addr.add] using c0)
      have c1 := (hfk i hi').1
      have hbl : a.block < W.heap.size := by
        have := World.block_lt_of_cell? W _ c1
        rw [addr_some c1] at this; exact this
      rw [addr_some c1] at c1
      exact ⟨a.block, a.off, by rw [← ea], hbl, by simpa using c1⟩
    · obtain ⟨i, hi', rfl⟩ := List.mem_map.1 hx
      exact (hfk i (by simpa using hi')).2

/-- What is told of a call's five cells. -/
def WOpAt (W : World) (a : Addr) (i : Nat) (o : WOp) : Prop :=
  (W.cell? (a.add (i * 5)) = some (.int .i64 o.kind) ∧ W.cell? (a.add (i * 5 + 1)) = some (.string o.s) ∧ W.cell? (a.add (i * 5 + 2)) = some (.slice o.la o.l.length o.lcap) ∧
      W.cell? (a.add (i * 5 + 3)) = some (.int .i64 o.n) ∧ W.cell? (a.add (i * 5 + 4)) = some (.slice o.ka o.keep.length o.kcap)) ∧
      (inI64 o.kind ∧ inI64 o.n ∧ o.s.size ≤ 9223372036854775807 ∧ o.keep.length ≤ o.kcap ∧ o.kcap ≤ 9223372036854775807 ∧ o.l.length ≤ 9223372036854775807) ∧ o.at W (· < W.heap.size)
set_option maxRecDepth 100000 in
theorem wop_of_cells {a : Addr} {i : Nat} {fs : Array Field} (hfs : fs.size = 5) (h0 : (fs[0]?).map (·.type) = some 3) (h1 : (fs[1]?).map (·.type) = some 9) (h2 : (fs[2]?).map (·.type) = some 31) (h3 : (fs[3]?).map (·.type) = some 3) (h4 : (fs[4]?).map (·.type) = some 32)
    (h : ∃ (ys : List (DataW H × List MemPlace)) (n : Nat), (∀ p ∈ ys.flatMap (·.2), p.block < W.heap.size) ∧
        ∀ (j : Nat) (f : Field), fs[j]? = some f → ∃ (v : Value) (y : DataW H × List MemPlace), W.cell? (a.add (i * fs.size + j)) = some v ∧ ys[j]? = some y ∧ DataW.trod enc Try.prog W 0 (fun _ => true) true n f.type [v] = some y) :
    ∃ o : WOp, WOpAt W a i o := by
  obtain ⟨ys, n, hlt, hf⟩ := h
  rw [hfs] at hf
  have get : ∀ (j : Nat) t, (fs[j]?).map (·.type) = some t → ∃ v y, W.cell? (a.add (i * 5 + j)) = some v ∧ ys[j]? = some y ∧ DataW.trod enc Try.prog W 0 (fun _ => true) true n t [v] = some y := by
    intro j t ht
    obtain ⟨f, hfj, rfl⟩ := Option.map_eq_some_iff.1 ht
    exact hf j f hfj
  obtain ⟨v0, y0, c0, _, t0⟩ := get 0 _ h0
  obtain ⟨v1, y1, c1, _, t1⟩ := get 1 _ h1
  obtain ⟨v2, y2, c2, _, t2⟩ := get 2 _ h2
  obtain ⟨v3, y3, c3, _, t3⟩ := get 3 _ h3
  obtain ⟨v4, y4, c4, g4, t4⟩ := get 4 _ h4
  obtain ⟨n0, e0, _, w0⟩ := DataW.trod_int Try.underlying3 t0
  obtain ⟨s, e1, _, hs⟩ := DataW.trod_string Try.underlying9 t1
  obtain ⟨la, l, lcap, e2, hl⟩ := strs_of_trod t2
  obtain ⟨n3, e3, _, w3⟩ := DataW.trod_int Try.underlying3 t3
  obtain ⟨ka, keep, kcap, e4, hk, hkl, hkm⟩ := ints_of_trod t4 (fun p hp => hlt p (List.mem_flatMap.2 ⟨y4, List.mem_of_getElem? g4, hp⟩))
  simp only [List.cons.injEq, and_true] at e0 e1 e3
  subst e0 e1 e2 e3 e4
  have := maxLen_le
  exact ⟨⟨n0, s, la, lcap, l, n3, ka, kcap, keep⟩, ⟨c0, c1, c2, c3, c4⟩, ⟨inI64_of_wf w0, inI64_of_wf w3, by simp only; omega, hkl, hkm, hl.small⟩, ⟨hl, hk⟩⟩

set_option maxRecDepth 100000 in
theorem wopFields : ∃ fs : Array Field, Try.prog.underlying 34 = some (.struct fs) ∧ oneCellFields Try.prog fs = true ∧ fs.size = 5 ∧ (fs[0]?).map (·.type) = some 3 ∧ (fs[1]?).map (·.type) = some 9 ∧ (fs[2]?).map (·.type) = some 31 ∧ (fs[3]?).map (·.type) = some 3 ∧ (fs[4]?).map (·.type) = some 32 :=
  ⟨_, Try.underlying34, by kernel_rfl, by kernel_rfl, by kernel_rfl, by kernel_rfl, by kernel_rfl, by kernel_rfl, by kernel_rfl⟩

set_option maxRecDepth 100000 in
theorem arg_wops {v : Value} {d : DataW H} {ps : List MemPlace} (hok : ∃ base, Value.okWide Try.prog W .any base 22 v) (h : DataW.Trod enc Try.prog W 0 (fun _ => true) true 22 v d ps) (hlt : ∀ p ∈ ps, p.block < W.heap.size) :
    ∃ (a : Option Addr) (l : List WOp) (cap : Nat), v = .slice a l.length cap ∧ WOpsAt W (· < W.heap.size) a l := by
  obtain ⟨base, hok⟩ := hok
  obtain ⟨a0, len, cap, rfl⟩ := okWide_slice Try.underlying22 hok
  obtain ⟨fuel, hf⟩ := h
  obtain ⟨fs, hu, hone, hsz, f0, f1, f2, f3, f4⟩ := wopFields
  rcases slice_structs Try.underlying22 hu hone (by rw [hsz]; kernel_rfl) hf with hcs | ⟨a, len', cap', hcs, hl, hm, hi⟩
  · have e : (.slice a0 len cap : Value) = .slice none 0 0 := by simpa [Value.cells] using hcs
    injection e with e1 e2 e3
    subst e1 e2 e3
    exact ⟨none, [], 0, rfl, fun i hi => by simp at hi, fun o ho => by simp at ho, fun o ho => by simp at ho, by simp⟩
  · have e : (.slice a0 len cap : Value) = .slice (some a) len' cap' := by simpa [Value.cells] using hcs
    injection e with e1 e2 e3
    subst e1 e2 e3
    have key : ∀ i, i < len → ∃ o : WOp, WOpAt W a i o := by
      intro i hil
      obtain ⟨ys, n, hpl, hfj⟩ := hi i hil
      exact wop_of_cells hsz f0 f1 f2 f3 f4 ⟨ys, n, fun p hp => hlt p (hpl p hp), hfj⟩
    have : Inhabited WOp := ⟨⟨0, ByteArray.empty, none, 0, [], 0, none, 0, []⟩⟩
    obtain ⟨f, hfk⟩ := choose_lt key
    have hlen : ((List.range len).map f).length = len := by simp
    have hm' := maxLen_le
    have get : ∀ i (h : i < ((List.range len).map f).length), ((List.range len).map f)[i] = f i := fun i h => by simp
    refine ⟨some a, (List.range len).map f, cap, by rw [hlen], fun i hi' => ?_, fun o ho => ?_, fun o ho => ?_, by rw [hlen]; omega⟩
    · rw [get i hi']
      rw [hlen] at hi'
      obtain ⟨⟨c0, c1, c2, c3, c4⟩, _, _⟩ := hfk i hi'
      have ea : a = ⟨a.block, a.off, none⟩ := by
        obtain ⟨⟨b0, _⟩, _, _⟩ := hfk 0 (by omega)
        exact addr_same (by simpa [Addr.add] using b0)
      have hbl : a.block < W.heap.size := by
        have := World.block_lt_of_cell? W _ c0
        rw [addr_some c0] at this; exact this
      rw [addr_some c0] at c0
      rw [addr_some c1] at c1
      rw [addr_some c2] at c2
      rw [addr_some c3] at c3
      rw [addr_some c4] at c4
      refine ⟨a.block, a.off, by rw [← ea], hbl, fun j hj => ?_⟩
      match j, hj with
      | 0, _ => exact c0
      | 1, _ => exact c1
      | 2, _ => exact c2
      | 3, _ => exact c3
      | 4, _ => exact c4
    · obtain ⟨i, hi', rfl⟩ := List.mem_map.1 ho
      exact (hfk i (by simpa using hi')).2.1
    · obtain ⟨i, hi', rfl⟩ := List.mem_map.1 ho
      exact (hfk i (by simpa using hi')).2.2
end
end Go.Proofs.Ytkkbjkoikidjpaa
