/-
  For every script of calls, WalKeeps answers true; no condition.
-/
import Derived.Test.YtkkbjkoikidjpaaWalKeeps
import Derived.Test.YtkkbjkoikidjpaaLift
import Derived.Test.YtkkbjkoikidjpaaLiftStrs
import Derived.Test.YtkkbjkoikidjpaaLiftInts
import Derived.Test.YtkkbjkoikidjpaaWalArgs
namespace Go.Proofs.Ytkkbjkoikidjpaa
open Go.ChangeShapes Go.WideShapes Go.ChangeAt Go.RowKit

set_option maxRecDepth 100000 in
theorem walKeeps_lifted (os : Os) (started : os.Started) (H : Type) (enc : TypeId × Value → H) :
    ReturnsInHanded {} Try.checked os 3 .any (Rows.walKeepsSpec.pre6 enc Try.prog Try.f3 Rows.walKeepsRow.domain false) (Rows.walKeepsSpec.post enc Try.prog Try.f3 false true false false) := by
  refine law_lifted (by kernel_rfl) Try.func3 rfl (fun H ds hds => ?_) (by rw [Try.params3]; decide +kernel) (by kernel_rfl) os started H enc
    (ChangeSpec.witness6 (enc := enc) (C := Try.checked) false ⟨#[], #[.slice none 0 0], []⟩ 8 (by kernel_rfl) (by kernel_rfl) (by kernel_rfl) (by kernel_rfl)) ?_
  · rw [Try.params3] at hds
    match ds, hds with
    | [d0], _ => exact ⟨rfl, rfl, rfl⟩
  · intro W args h
    rw [Try.params3] at h
    obtain ⟨v0, vs0, e0, h, k0, d0, p0, t0, l0⟩ := h.cons
    obtain rfl := h.nil
    obtain ⟨al, l, cl, rfl, hl⟩ := arg_wops k0 t0 l0
    obtain rfl : args = #[.slice al l.length cl] := Array.toList_inj.1 e0
    exact walKeeps_walk (w := W) al cl l hl

theorem walKeeps_holds : Rows.WalKeepsSaid :=
  OpenClaim.holds_of_wide 3 Try.f3 rfl rfl rfl rfl rfl rfl rfl ⟨rfl, rfl, rfl, rfl, rfl⟩ rfl rfl rfl rfl rfl (by kernel_rfl) Try.func3 (by kernel_rfl)
    (of_decide_eq_true (by kernel_rfl)) (by unfold Func.isWrapper; first | (rw [if_pos (by decide +kernel)]; kernel_rfl) | (rw [if_neg (by decide +kernel)]; exact ⟨rfl, rfl⟩))
    (fun os started H enc _ => walKeeps_lifted os started H enc)
end Go.Proofs.Ytkkbjkoikidjpaa
