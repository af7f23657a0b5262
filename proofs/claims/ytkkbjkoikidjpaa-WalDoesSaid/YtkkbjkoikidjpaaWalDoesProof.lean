/-
  For every room and every script of calls, WalDoes answers true; no condition.
-/
import Derived.Test.YtkkbjkoikidjpaaWalDoes
import Derived.Test.YtkkbjkoikidjpaaLift
import Derived.Test.YtkkbjkoikidjpaaLiftStrs
import Derived.Test.YtkkbjkoikidjpaaLiftInts
import Derived.Test.YtkkbjkoikidjpaaWalArgs
namespace Go.Proofs.Ytkkbjkoikidjpaa
open Go.ChangeShapes Go.WideShapes Go.ChangeAt Go.RowKit

set_option maxRecDepth 100000 in
theorem walDoes_lifted (os : Os) (started : os.Started) (H : Type) (enc : TypeId × Value → H) :
    ReturnsInHanded {} Try.checked os 6 .any (Rows.walDoesSpec.pre6 enc Try.prog Try.f6 Rows.walDoesRow.domain false) (Rows.walDoesSpec.post enc Try.prog Try.f6 false true false false) := by
  refine law_lifted (by kernel_rfl) Try.func6 rfl (fun H ds hds => ?_) (by rw [Try.params6]; decide +kernel) (by kernel_rfl) os started H enc
    (ChangeSpec.witness6 (enc := enc) (C := Try.checked) false ⟨#[], #[.int .i64 0, .slice none 0 0], []⟩ 8 (by kernel_rfl) (by kernel_rfl) (by kernel_rfl) (by kernel_rfl)) ?_
  · rw [Try.params6] at hds
    match ds, hds with
    | [d0, d1], _ => exact ⟨rfl, rfl, rfl⟩
  · intro W args h
    rw [Try.params6] at h
    obtain ⟨v0, vs0, e0, h, k0, d0, p0, t0, l0⟩ := h.cons
    obtain ⟨v1, vs1, rfl, h, k1, d1, p1, t1, l1⟩ := h.cons
    obtain rfl := h.nil
    obtain ⟨room, rfl, hroom⟩ := arg_int k0 t0
    obtain ⟨al, l, cl, rfl, hl⟩ := arg_wops k1 t1 l1
    obtain rfl : args = #[.int .i64 room, .slice al l.length cl] := Array.toList_inj.1 e0
    exact walDoes_walk (w := W) room hroom al cl l hl

theorem walDoes_holds : Rows.WalDoesSaid :=
  OpenClaim.holds_of_wide 6 Try.f6 rfl rfl rfl rfl rfl rfl rfl ⟨rfl, rfl, rfl, rfl, rfl⟩ rfl rfl rfl rfl rfl (by kernel_rfl) Try.func6 (by kernel_rfl)
    (of_decide_eq_true (by kernel_rfl)) (by unfold Func.isWrapper; first | (rw [if_pos (by decide +kernel)]; kernel_rfl) | (rw [if_neg (by decide +kernel)]; exact ⟨rfl, rfl⟩))
    (fun os started H enc _ => walDoes_lifted os started H enc)
end Go.Proofs.Ytkkbjkoikidjpaa
