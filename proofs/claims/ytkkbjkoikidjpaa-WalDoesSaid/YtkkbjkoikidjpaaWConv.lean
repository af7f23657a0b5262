/-
  The contracts of package num's Put and Get, and of the reference's: a number's bytes.
-/
import Derived.Test.YtkkbjkoikidjpaaBase
namespace Go.Proofs.Ytkkbjkoikidjpaa
open Go.RowKit

/-- 'string(b)' of a new row. -/
theorem conv_new {w : World} {n : Nat} (xs : List Int) (hn : n = w.heap.size) (cap : Nat) :
    (convert 84 9 (.slice (some ⟨n, 0, none⟩) xs.length cap)).run Try.prog (w.alloc (.cells (xs.map (Value.int .u8)).toArray 5)) = .ok (.string (strOfNums xs)) (w.alloc (.cells (xs.map (Value.int .u8)).toArray 5)) := by
  subst hn
  refine run_convert_bytes_arg _ 84 5 Try.underlying84 Try.underlying5 _ _ _ _ xs rfl (fun i hi => ?_) 9 Try.underlying9
  rw [Nat.zero_add, World.cell?_alloc_new]
  simp [List.getD, List.getElem?_eq_getElem hi]
theorem conv1 (w : World) (n : Nat) (x : Int) (hn : n = w.heap.size) : (convert 84 9 (.slice (some ⟨n, 0, none⟩) 1 1)).run Try.prog (w.alloc (.cells #[.int .u8 x] 5)) = .ok (.string (strOfNums [x])) (w.alloc (.cells #[.int .u8 x] 5)) :=
  conv_new [x] hn 1
theorem conv2 (w : World) (n : Nat) (x y : Int) (hn : n = w.heap.size) : (convert 84 9 (.slice (some ⟨n, 0, none⟩) 2 2)).run Try.prog (w.alloc (.cells #[.int .u8 x, .int .u8 y] 5)) = .ok (.string (strOfNums [x, y])) (w.alloc (.cells #[.int .u8 x, .int .u8 y] 5)) :=
  conv_new [x, y] hn 2
end Go.Proofs.Ytkkbjkoikidjpaa
