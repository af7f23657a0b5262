/-
  A session stored whole into its block.
-/
import Derived.Test.YtimbngaadgkeaaaMeterMost
namespace Go.Proofs.Ytimbngaadgkeaaa
open Go.RowKit

theorem sess_stored {w w0 : World} {Q : Nat} {x0 x1 x2 x3 x4 x5 x6 : Value} {t : TypeId} (h : w.heap[Q]? = some (.cells #[x0, x1, x2, x3, x4, x5, x6] t (0, 0))) (K : Keeps [] w0 w) (hQ : w0.heap.size ≤ Q) (y0 y1 y2 y3 y4 y5 y6 : Value) :
    ∃ w', w' = (((((((w.setCell ⟨Q, 0, none⟩ y0).setCell ⟨Q, 1, none⟩ y1).setCell ⟨Q, 2, none⟩ y2).setCell ⟨Q, 3, none⟩ y3).setCell ⟨Q, 4, none⟩ y4).setCell ⟨Q, 5, none⟩ y5).setCell ⟨Q, 6, none⟩ y6) ∧
      w'.heap[Q]? = some (.cells #[y0, y1, y2, y3, y4, y5, y6] t (0, 0)) ∧ (∀ b, Q ≠ b → w'.heap[b]? = w.heap[b]?) ∧ Keeps [] w0 w' := by
  refine ⟨_, rfl, sess_store h _ _ _ _ _ _ _, fun b hb => ?_, keeps_store K hQ _ _ _ _ _ _ _⟩
  have h2 := Ne.symm hb
  rw [heap_setCell_other h2, heap_setCell_other h2, heap_setCell_other h2, heap_setCell_other h2, heap_setCell_other h2, heap_setCell_other h2, heap_setCell_other h2]
end Go.Proofs.Ytimbngaadgkeaaa
