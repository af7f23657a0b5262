/-
  How the wal laws begin: a disk of two files, a log that is opened of it; what a law cuts its texts to.
-/
import Derived.Test.YtkkbjkoikidjpaaWalFixed
import Derived.Test.YtkkbjkoikidjpaaLiftStrs
import Derived.Test.YtkkbjkoikidjpaaLiftInts
import Derived.Deep.DeepCutAuto
import Derived.Deep.CutBlock
import Derived.Deep.RegionHeld3
import Derived.StillTailTactics
namespace Go.Proofs.Ytkkbjkoikidjpaa
open Go.RowKit

abbrev eF : DFile := (⟨#[]⟩, 0)
theorem new2_c {w : World} (room : Nat) (hr : room ≤ 16777216) : Calls Try.prog 9 #[.int .i64 2, .int .i64 room] w fun e w' => ∃ D L, e = .returned (.tuple #[.pointer (some ⟨D, 0, none⟩), .int .i64 0]) ∧
      DiskAt w' D L [eF, eF] room ∧ Keeps [] w w' ∧ w.heap.size ≤ D ∧ w.heap.size ≤ L := by
  have N := new_ok (w := w) 2 room (by simp [newOk]; omega)
  exact N
theorem open0_c {w : World} {D L : Nat} {room : Nat} (hD : DiskAt w D L [eF, eF] room) : Calls Try.prog 10 #[.pointer (some ⟨D, 0, none⟩)] w fun e w' => ∃ P v, e = .returned (.tuple #[.pointer (some ⟨P, 0, none⟩), .int .i64 0]) ∧ w.heap.size ≤ P ∧
      LogAt w' P D v [] 0 false ∧ DiskAt w' D L [eF, eF] room ∧ Keeps [L] w w' := by
  have O2 := open_ok hD rfl
  rw [show lOpen [eF, eF] = ([], [eF, eF]) from by
    rw [two_open, wRead_no (s := eF.1) (wFirst_none rfl)]
    show ([], [(eF.1.extract 0 0, 0), (⟨#[]⟩, 0)]) = _
    rw [ba_none]] at O2
  exact O2
theorem logOk0 : LogOk [] 0 eF eF := ⟨fun x hx => by simp at hx, rfl, Nat.le_refl _, Nat.le_refl _, Nat.le_refl _, rfl⟩
/-- Two slices that lie in blocks of their own. -/
def Apart (v u : Value) : Prop := ∀ g, v.ownBlock = some g → ¬ u.ownBlock = some g

theorem StrsAt.below {w w' : World} {B : Nat} {a : Option Addr} {l : List ByteArray} (h : StrsAt w B a l) (k : Below B w w') : StrsAt w' B a l :=
  ⟨fun i hi => by
    obtain ⟨b, o, rfl, hb, h0⟩ := h.cell i hi
    exact ⟨b, o, rfl, hb, by rw [k.cell (p := ⟨b, _, none⟩) hb]; exact h0⟩, h.rng, h.small⟩
theorem cut_none {s : ByteArray} (h : ¬ RecOk (cutS 300 s)) : cutS 300 s = ⟨#[]⟩ := by
  apply str_empty
  apply Decidable.byContradiction
  intro k
  have := size_cutS 300 s
  exact h ⟨by omega, by omega⟩
theorem Keeps.newL {a b c : World} {S : List Nat} (h : Keeps [] a b) (k : Keeps S b c) (hS : ∀ x ∈ S, a.heap.size ≤ x) : Keeps [] a c := h.new k hS
theorem StrRow.keepNot {w w' : World} {base : Nat} {v u : Value} {l : List ByteArray} {S : List Nat} (h : StrRow w base v l) (k : Keeps S w w') (hS : ∀ x ∈ S, x < base ∨ u.ownBlock = some x) (ha : Apart u v) : StrRow w' base v l :=
  h.keep k fun g hg hm => by
    rcases hS g hm with h1 | h1
    · have := World.ownsRow.lt h g hg; omega
    · exact ha g h1 hg
theorem Apart.after {v v' u : Value} {n : Nat} (h : Apart v u) (hor : v'.ownBlock = v.ownBlock ∨ ∃ g, v'.ownBlock = some g ∧ n ≤ g) (hn : ∀ g, u.ownBlock = some g → g < n) : Apart v' u := by
  intro g hg hu
  rcases hor with e | ⟨g', e, hle⟩
  · exact h g (by rw [← e]; exact hg) hu
  · rw [e] at hg
    cases hg
    have := hn _ hu
    omega
/-- A string put behind an own row, as a step of a region that draws its order. -/
theorem step_append_str {w : World} {ops : Array Oper} {o : Oper} {a : Act} {K : Act → World → Prop} {Q : Exit → Act → World → Prop} {E : Prop} (hgd : o.guard = none) (s x : Operand)
    (ho : o.op = .call { callee := .builtin .append, args := #[s, x], argTypes := #[31, 31] }) (base : Nat) (v : Value) (l : List ByteArray) (hs : a.eval s = v) (hown : StrRow w base v l) (b : Addr) (t : ByteArray) (hx : a.eval x = .slice (some b) 1 1)
    (hc : w.cell? b = some (.string t)) (hl : l.length ≤ 16777216) (hb : base ≤ w.heap.size)
    (h : ∀ (g cap : Nat) (w' : World), StrRow w' base (.slice (some ⟨g, 0, none⟩) (l.length + 1) cap) (l ++ [t]) → w.grownBy w' v.ownBlock → (v.ownBlock = some g ∨ g = w.heap.size) → K (a.put o.dst (.slice (some ⟨g, 0, none⟩) (l.length + 1) cap)) w') :
    if Region.wanted o (yielded ops a.tmps) = true then Oper.wp Try.prog o a w K Q else E := by
  have hw : Region.wanted o (yielded ops a.tmps) = true := by simp [Region.wanted, hgd]
  rw [if_pos hw]
  obtain ⟨g, cap, w', hr, h2, h3, h4⟩ := run_append_str w base v l hown b t hc hl hb o.type
  unfold Oper.wp execOp
  simp only [ho, resolve, invoke, builtin, Sem.run_bind, Sem.run_pure, Result.andThen_ok, List.map_toArray, List.map_cons, List.map_nil, hs, hx, hr]
  exact h g cap w' h2 h3 h4
end Go.Proofs.Ytkkbjkoikidjpaa
