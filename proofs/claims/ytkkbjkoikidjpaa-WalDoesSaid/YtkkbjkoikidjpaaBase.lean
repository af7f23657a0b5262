/-
  General laws on worlds: what a call keeps; facts on blocks. Nothing here speaks of the program.
-/
import Derived.Test.YtkkbjkoikidjpaaRows
import Derived.WalkKit
import Derived.WalkSpells
import Derived.WalkLawsBesides
import Derived.Lib.Hide
import Derived.Deep.QuietTactic
import Derived.BigQuiet
import Derived.StillTailTactics
import Derived.BigRegion
import Derived.Laws.CopyOwn
namespace Go.Proofs.Ytkkbjkoikidjpaa
open Go.RowKit

/-- But for the blocks of S the old blocks are as they were; nothing else has turned but the count of draws and new blocks. -/
structure Keeps (S : List Nat) (w w' : World) : Prop where
  os : w'.os = w.os
  tape : w'.tape = w.tape
  output : w'.output = w.output
  size : w.heap.size ≤ w'.heap.size
  block : ∀ k, k < w.heap.size → k ∉ S → w'.heap[k]? = w.heap[k]?

namespace Keeps
theorem refl (S : List Nat) (w : World) : Keeps S w w := ⟨rfl, rfl, rfl, Nat.le_refl _, fun _ _ _ => rfl⟩
theorem trans {S : List Nat} {a b c : World} (h : Keeps S a b) (k : Keeps S b c) : Keeps S a c :=
  ⟨k.os.trans h.os, k.tape.trans h.tape, k.output.trans h.output, Nat.le_trans h.size k.size, fun i hi hs => (k.block i (Nat.lt_of_lt_of_le hi h.size) hs).trans (h.block i hi hs)⟩
theorem mono {S S' : List Nat} {w w' : World} (h : Keeps S w w') (hs : ∀ k, k < w.heap.size → k ∈ S → k ∈ S') : Keeps S' w w' :=
  ⟨h.os, h.tape, h.output, h.size, fun k hk hn => h.block k hk fun hm => hn (hs k hk hm)⟩
theorem drew {S : List Nat} {a w : World} (h : Keeps S a w) : Keeps S a w.drew := ⟨h.os, h.tape, h.output, h.size, h.block⟩
theorem drewN {S : List Nat} {a w : World} (n : Nat) (h : Keeps S a w) : Keeps S a (w.drewN n) := ⟨h.os, h.tape, h.output, h.size, h.block⟩
theorem alloc {S : List Nat} {a w : World} (h : Keeps S a w) (o : Obj) : Keeps S a (w.alloc o) :=
  h.trans ⟨rfl, rfl, rfl, by simp, fun k hk _ => Below.heap_alloc _ _ _ hk⟩
theorem setCell {S : List Nat} {a w : World} (h : Keeps S a w) {p : Addr} (hp : p.block ∈ S ∨ a.heap.size ≤ p.block) (u : Value) : Keeps S a (w.setCell p u) :=
  ⟨h.os, h.tape, h.output, by have := h.size; simpa using this, fun k hk hn => by
    rw [Below.heap_setCell _ _ _ _ (by rcases hp with hp | hp; exact (fun e => hn (e ▸ hp)); omega)]; exact h.block k hk hn⟩
theorem below {S : List Nat} {w w' : World} (h : Keeps S w w') {B : Nat} (hB : B ≤ w.heap.size) (hs : ∀ k ∈ S, B ≤ k) : Below B w w' :=
  ⟨h.os, h.tape, h.output, h.size, fun k hk => h.block k (by omega) fun hm => by have := hs k hm; omega⟩
theorem cell {S : List Nat} {w w' : World} (h : Keeps S w w') {b o : Nat} (hb : b < w.heap.size) (hs : b ∉ S) : w'.cell? ⟨b, o, none⟩ = w.cell? ⟨b, o, none⟩ :=
  World.cell?_of_block (w := w) (a := ⟨b, o, none⟩) (h.block b hb hs)
theorem frozen {S : List Nat} {w w' : World} (h : Keeps S w w') {b o : Nat} (hb : b < w.heap.size) (hs : b ∉ S) : w'.frozen? ⟨b, o, none⟩ = w.frozen? ⟨b, o, none⟩ :=
  World.frozen?_of_block (w := w) (a := ⟨b, o, none⟩) (h.block b hb hs)
theorem heap {S : List Nat} {w w' : World} (h : Keeps S w w') {b : Nat} {o : Obj} (hs : b ∉ S) (hb : w.heap[b]? = some o) : w'.heap[b]? = some o := by
  rw [h.block b (Array.getElem?_eq_some_iff.1 hb).1 hs]; exact hb
end Keeps

theorem lt_of_heap {w : World} {b : Nat} {o : Obj} (h : w.heap[b]? = some o) : b < w.heap.size := (Array.getElem?_eq_some_iff.1 h).1

/-- A cell of a block that is known whole. -/
theorem cell_of_heap {w : World} {b o : Nat} {cs : Array Value} {t : TypeId} {fz : Nat × Nat} (h : w.heap[b]? = some (.cells cs t fz)) : w.cell? ⟨b, o, none⟩ = cs[o]? := by
  simp [World.cell?, h]
theorem frozen_of_heap {w : World} {b o : Nat} {cs : Array Value} {t : TypeId} (h : w.heap[b]? = some (.cells cs t (0, 0))) : w.frozen? ⟨b, o, none⟩ = false := by
  simp [World.frozen?, h]
theorem heap_setCell_same {w : World} {b o : Nat} {cs : Array Value} {t : TypeId} {fz : Nat × Nat} (h : w.heap[b]? = some (.cells cs t fz)) (v : Value) :
    (w.setCell ⟨b, o, none⟩ v).heap[b]? = some (.cells (cs.setIfInBounds o v) t fz) := by
  simp [World.setCell, Array.getElem?_modify, h]
theorem heap_setCell_other {w : World} {b b' o : Nat} (h : b' ≠ b) (v : Value) : (w.setCell ⟨b, o, none⟩ v).heap[b']? = w.heap[b']? :=
  Below.heap_setCell _ _ _ _ h
theorem heap_alloc_same {w : World} {o : Obj} : (w.alloc o).heap[w.heap.size]? = some o := by show (w.heap.push o)[w.heap.size]? = _; simp
theorem heap_alloc_old {w : World} {o : Obj} {b : Nat} (h : b < w.heap.size) : (w.alloc o).heap[b]? = w.heap[b]? := Below.heap_alloc _ _ _ h
theorem heap_drew {w : World} {b : Nat} : (w.drew).heap[b]? = w.heap[b]? := rfl
theorem heap_drewN {w : World} {n b : Nat} : (w.drewN n).heap[b]? = w.heap[b]? := rfl

theorem heap_alloc_at {w : World} {o : Obj} {b : Nat} (h : b = w.heap.size) : (w.alloc o).heap[b]? = some o := by subst h; exact heap_alloc_same
theorem ret_int {k : IntKind} {a b : Int} (h : a = b) : Ending.returned (.int k a) = .returned (.int k b) := by rw [h]
theorem ret_bool {a b : Bool} (h : a = b) : Ending.returned (.bool a) = .returned (.bool b) := by rw [h]
theorem ret_str {a b : ByteArray} (h : a = b) : Ending.returned (.string a) = .returned (.string b) := by rw [h]

theorem size_setRow (w : World) (g : Nat) (cs : Array Value) : (w.setRow g cs).heap.size = w.heap.size := by simp [World.setRow]
theorem Keeps.setRow {S : List Nat} {a w : World} (h : Keeps S a w) {g : Nat} (hg : g ∈ S ∨ a.heap.size ≤ g) (cs : Array Value) : Keeps S a (w.setRow g cs) :=
  ⟨h.os, h.tape, h.output, by rw [size_setRow]; exact h.size, fun k hk hn => by
    rw [setRow_other w g k cs (by rcases hg with hg | hg; exact (fun e => hn (e ▸ hg)); omega)]; exact h.block k hk hn⟩

/-- 'copy(dst, src)' where dst is a whole row that is known, src as long: whatever the elements' size. -/
theorem run_copy_whole {P : Program} (w : World) (dT sT ty elem : TypeId) (size : Nat) (g n dCap : Nat) (a : Addr) (sCap : Nat) (cur : Array Value) (t : TypeId) (cs : List Value)
    (hu : P.underlying dT = some (.slice elem)) (hs : (P.info? elem).map (·.size) = some size)
    (hg : w.heap[g]? = some (.cells cur t (0, 0))) (hn : cs.length = n * size)
    (hsrc : ∀ j v, cs[j]? = some v → w.cell? (a.add j) = some v) (hfit : cur.size = cs.length) (h1 : ∀ v ∈ cs, v.oneCell' = true) :
    (Builtin.copy_ #[dT, sT] ty #[.slice (some ⟨g, 0, none⟩) n dCap, .slice (some a) n sCap]).run P w = .ok (.int .i64 n) (w.setRow g cs.toArray) := by
  have hl := run_loadCells_list (P := P) w a cs hsrc
  have hst := run_storeCells_at P g 0 t cs 0 cur w hg (by omega) h1
  have e : List.drop (0 + 0 + cs.length) cur.toList = [] := List.drop_eq_nil_of_le (by simp [hfit])
  rw [e] at hst
  cases hq : P.info? elem with
  | none => simp [hq] at hs
  | some i =>
    have hi : i.size = size := by simpa [hq] using hs
    simp at hst
    simp [Builtin.copy_, run_underlying hu, Builtin.lenOf, Builtin.firstCells, sizeOf, typeInfo, hq, hi, ← hn, hl, hst, goInt]
theorem wpList_copy_whole {P : Program} {w : World} {ops : Array Oper} {rest : List Oper} {o : Oper} {a : Act} {Q : Exit → Act → World → Prop} (hgd : o.guard = none) (d s : Operand) (dT sT : TypeId)
    (ho : o.op = .call { callee := .builtin .copy, args := #[d, s], argTypes := #[dT, sT] }) (elem : TypeId) (size : Nat) (hu : P.underlying dT = some (.slice elem)) (hsz : (P.info? elem).map (·.size) = some size)
    (g n dCap : Nat) (ad : Addr) (sCap : Nat) (hd : a.eval d = .slice (some ⟨g, 0, none⟩) n dCap) (hs : a.eval s = .slice (some ad) n sCap)
    (cur : Array Value) (t : TypeId) (hg : w.heap[g]? = some (.cells cur t (0, 0))) (cs : List Value) (hn : cs.length = n * size)
    (hsrc : ∀ j v, cs[j]? = some v → w.cell? (ad.add j) = some v) (hfit : cur.size = cs.length) (h1 : ∀ v ∈ cs, v.oneCell' = true)
    (h : wpList P ops Q rest (a.put o.dst (.int .i64 n)) (w.setRow g cs.toArray)) : wpList P ops Q (o :: rest) a w := by
  refine wpList_plain hgd fun K hK => ?_
  have hrun := run_copy_whole (P := P) w dT sT o.type elem size g n dCap ad sCap cur t cs hu hsz hg hn hsrc hfit h1
  unfold Oper.wp
  simp [execOp, ho, resolve, invoke, builtin, hd, hs, hrun, Result.andThen]
  exact hK _ _ h

theorem Keeps.sub {S S' : List Nat} {w w' : World} (h : Keeps S w w') (hs : ∀ k ∈ S, k ∈ S') : Keeps S' w w' := h.mono fun k _ hk => hs k hk


theorem Keeps.belowOf {S : List Nat} {B : Nat} {a w w' : World} (hb : Below B a w) (k : Keeps S w w') (hB : B ≤ w.heap.size) (hs : ∀ x ∈ S, B ≤ x) : Below B a w' := hb.trans (k.below hB hs)


def inI64 (n : Int) : Prop := -9223372036854775808 ≤ n ∧ n ≤ 9223372036854775807


/-- A slice of ints that reads as a list; its block has p. -/
structure IntsAt (w : World) (p : Nat → Prop) (a : Option Addr) (xs : List Int) : Prop where
  cell : ∀ i (h : i < xs.length), ∃ b o, a = some ⟨b, o, none⟩ ∧ p b ∧ w.cell? ⟨b, o + i, none⟩ = some (.int .i64 xs[i])
  small : xs.length ≤ 9223372036854775807
  bound : ∀ i (h : i < xs.length), -9223372036854775808 ≤ xs[i] ∧ xs[i] ≤ 9223372036854775807
theorem IntsAt.keep {w w' : World} {p : Nat → Prop} {a : Option Addr} {xs : List Int} {S : List Nat} (h : IntsAt w p a xs) (k : Keeps S w w') (hS : ∀ b, p b → b ∉ S) : IntsAt w' p a xs :=
  ⟨fun i hi => by
    obtain ⟨b, o, rfl, hp, hc⟩ := h.cell i hi
    exact ⟨b, o, rfl, hp, by rw [k.cell (World.block_lt_of_cell? w ⟨b, o + i, none⟩ hc) (hS _ hp)]; exact hc⟩, h.small, h.bound⟩
theorem IntsAt.below {w w' : World} {p : Nat → Prop} {a : Option Addr} {xs : List Int} {B : Nat} (h : IntsAt w p a xs) (k : Below B w w') (hB : ∀ b, p b → b < B) : IntsAt w' p a xs :=
  ⟨fun i hi => by
    obtain ⟨b, o, rfl, hp, hc⟩ := h.cell i hi
    exact ⟨b, o, rfl, hp, by rw [k.cell (p := ⟨b, o + i, none⟩) (hB _ hp)]; exact hc⟩, h.small, h.bound⟩


theorem IntsAt.take {w : World} {p : Nat → Prop} {a : Option Addr} {xs : List Int} (h : IntsAt w p a xs) (m : Nat) : IntsAt w p a (xs.take m) :=
  ⟨fun i hi => by
    have hi' : i < xs.length := by simp at hi; omega
    obtain ⟨b, o, ha, hp, hc⟩ := h.cell i hi'
    exact ⟨b, o, ha, hp, by rw [hc]; simp⟩, by have := h.small; simp; omega, fun i hi => by
    have hi' : i < xs.length := by simp at hi; omega
    rw [List.getElem_take]; exact h.bound i hi'⟩


theorem off_of {p : Nat → Prop} {S : List Nat} (hS : ∀ k ∈ S, ¬ p k) : ∀ b, p b → b ∉ S := fun b hp hm => hS b hm hp


/-- The bytes that a law takes of a text. -/
def cutS (n : Nat) (s : ByteArray) : ByteArray := s.extract 0 (min s.size n)
theorem size_cutS (n : Nat) (s : ByteArray) : (cutS n s).size = min s.size n := by simp [cutS, ByteArray.size_extract]
theorem cutS_small {n : Nat} {s : ByteArray} (h : s.size ≤ n) : s = cutS n s := by
  unfold cutS; rw [Nat.min_eq_left h, ByteArray.extract_zero_size]
theorem cutS_big {n : Nat} {s : ByteArray} (h : ¬ s.size ≤ n) : s.extract 0 n = cutS n s := by
  unfold cutS; rw [Nat.min_eq_right (by omega)]
theorem ret_string_eq {a b : ByteArray} (h : a = b) : Value.string a = .string b := by rw [h]

theorem i64_and (x : Int) (m : Nat) (hm : m < 9223372036854775808) : ∃ q : Nat, bits .and .i64 x m = q ∧ q ≤ m := by
  refine ⟨(BitVec.ofInt 64 x &&& BitVec.ofInt 64 m).toNat, ?_, ?_⟩
  · show IntKind.i64.wrap ((BitVec.ofInt 64 x &&& BitVec.ofInt 64 (m : Int)).toNat : Int) = _
    have h1 : (BitVec.ofInt 64 x &&& BitVec.ofInt 64 (m : Int)).toNat ≤ m := by
      rw [BitVec.toNat_and]
      refine Nat.le_trans Nat.and_le_right ?_
      rw [BitVec.ofInt_natCast, BitVec.toNat_ofNat]; exact Nat.mod_le _ _
    rw [IntKind.wrap_i64]; omega
  · rw [BitVec.toNat_and]
    refine Nat.le_trans Nat.and_le_right ?_
    rw [BitVec.ofInt_natCast, BitVec.toNat_ofNat]; exact Nat.mod_le _ _


theorem set_same {α : Type} {l : List α} {i : Nat} {v : α} (h : l[i]? = some v) : l.set i v = l := by
  apply List.ext_getElem?
  intro j
  by_cases e : i = j
  · subst e; rw [h, List.getElem?_set_self (List.getElem?_eq_some_iff.1 h).1]
  · rw [List.getElem?_set_ne e]

theorem ba_part (s : ByteArray) (n : Nat) (h : n ≤ s.size) : s.extract 0 n ++ s.extract n s.size = s := by
  rw [ByteArray.extract_append_extract, Nat.zero_min, Nat.max_eq_right h, ByteArray.extract_zero_size]
theorem ba_ext {s t : ByteArray} (h : s.data.toList = t.data.toList) : s = t := by
  cases s; cases t; simp only [ByteArray.mk.injEq]; exact Array.toList_inj.1 h

end Go.Proofs.Ytkkbjkoikidjpaa
