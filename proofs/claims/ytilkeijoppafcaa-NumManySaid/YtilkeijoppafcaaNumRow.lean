/-
  A row of numbers of the call's own.
-/
import Derived.Test.YtilkeijoppafcaaNumSum
import Derived.OwnWalk
import Derived.Laws.AppendOwn
import Derived.Laws.AppendOwnNone
namespace Go.Proofs.Ytilkeijoppafcaa
open Go.RowKit

theorem infoU64 : (Try.prog.info? 23).map (fun i => (i.zero, i.size, i.bytes)) = some (some (.int .u64 0), 1, 8) := by kernel_rfl

/-- Block g is a row that begins with these numbers. -/
structure RowAt (w : World) (g cap : Nat) (xs : List Nat) : Prop where
  row : ∃ cur, w.heap[g]? = some (.cells cur 23 (0, 0)) ∧ cur.size = cap ∧ cur.toList.take xs.length = xs.map fun n => Value.int .u64 (n : Nat)
  le : xs.length ≤ cap

namespace RowAt
variable {w : World} {g cap : Nat} {xs : List Nat}
theorem lt (h : RowAt w g cap xs) : g < w.heap.size := by obtain ⟨cur, e, _⟩ := h.row; exact lt_of_heap e
theorem cell (h : RowAt w g cap xs) (i : Nat) (hi : i < xs.length) : w.cell? ⟨g, i, none⟩ = some (.int .u64 xs[i]) := by
  obtain ⟨cur, e, _, ht⟩ := h.row
  rw [cell_of_heap e]
  have : (cur.toList.take xs.length)[i]? = (xs.map fun n => Value.int .u64 (n : Nat))[i]? := by rw [ht]
  rw [List.getElem?_take_of_lt hi] at this
  rw [← Array.getElem?_toList, this]
  simp [hi]
theorem fz (h : RowAt w g cap xs) (i : Nat) : w.frozen? ⟨g, i, none⟩ = false := by obtain ⟨cur, e, _⟩ := h.row; exact frozen_of_heap e
theorem keep {w' : World} {S : List Nat} (h : RowAt w g cap xs) (k : Keeps S w w') (hg : g ∉ S) : RowAt w' g cap xs := by
  obtain ⟨cur, e, h1⟩ := h.row; exact ⟨⟨cur, k.heap hg e, h1⟩, h.le⟩
theorem set (h : RowAt w g cap xs) (i v : Nat) (_hi : i < xs.length) : RowAt (w.setCell ⟨g, i, none⟩ (.int .u64 v)) g cap (xs.set i v) := by
  obtain ⟨cur, e, hs, ht⟩ := h.row
  refine ⟨⟨cur.setIfInBounds i (.int .u64 v), heap_setCell_same e _, by simpa using hs, ?_⟩, by simpa using h.le⟩
  rw [Array.toList_setIfInBounds, List.length_set, List.take_set, ht, List.map_set]
theorem nums (h : RowAt w g cap xs) (hb : ∀ i (h : i < xs.length), xs[i] ≤ 18446744073709551615) (hl : xs.length ≤ 9223372036854775807) : NumsAt w (· = g) (some ⟨g, 0, none⟩) xs :=
  ⟨fun i hi => ⟨g, 0, rfl, rfl, by rw [Nat.zero_add]; exact h.cell i hi⟩, hl, hb⟩
end RowAt

theorem rowAt_of_own {w : World} {base : Nat} {v : Value} {xs : List Nat} (h : w.ownsRow base 23 1 v xs.length (xs.map fun n => Value.int .u64 (n : Nat))) (hv : v ≠ .slice none 0 0) :
    ∃ g cap, v = .slice (some ⟨g, 0, none⟩) xs.length cap ∧ base ≤ g ∧ RowAt w g cap xs ∧ cap ≤ maxLen := by
  rcases h.2 with ⟨e, _⟩ | ⟨g, cap, cur, e, hb, hg, hn, hm, hs, ht⟩
  · exact absurd e hv
  · exact ⟨g, cap, e, hb, ⟨⟨cur, hg, by rw [hs, Nat.mul_one], by rw [Nat.mul_one] at ht; exact ht⟩, hn⟩, hm⟩

theorem sum_set (l : List Nat) (i v : Nat) (hi : i < l.length) : (l.set i v).sum + l[i] = l.sum + v := by
  induction l generalizing i with
  | nil => simp at hi
  | cons a l ih =>
    match i with
    | 0 => simp; omega
    | i + 1 => have := ih i (by simpa using hi); simp; omega
theorem sum_swap (l : List Nat) (x y : Nat) (hx : x < l.length) (hy : y < l.length) : ((l.set x l[y]).set y l[x]).sum = l.sum := by
  have h1 := sum_set l x l[y] hx
  have h2 := sum_set (l.set x l[y]) y l[x] (by simpa using hy)
  have e : (l.set x l[y])[y]'(by simpa using hy) = l[y] := by
    rw [List.getElem_set]; split <;> rfl
  rw [e] at h2
  omega
theorem nSum_swap (l : List Nat) (x y : Nat) (hx : x < l.length) (hy : y < l.length) : nSum ((l.set x l[y]).set y l[x]) = nSum l := by
  unfold nSum; rw [sum_swap l x y hx hy]
theorem set_bound {l : List Nat} {M : Nat} (h : ∀ i (h : i < l.length), l[i] ≤ M) (x v : Nat) (hv : v ≤ M) : ∀ i (h : i < (l.set x v).length), (l.set x v)[i] ≤ M := by
  intro i hi
  rw [List.getElem_set]
  split
  · exact hv
  · exact h i (by simpa using hi)
end Go.Proofs.Ytilkeijoppafcaa
