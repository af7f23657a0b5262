/-
  For every two texts, WalFrames answers true; no condition.
-/
import Derived.Test.YtkkbjkoikidjpaaWalFrms
import Derived.Test.YtkkbjkoikidjpaaLift
import Derived.Test.YtkkbjkoikidjpaaLiftStr
namespace Go.Proofs.Ytkkbjkoikidjpaa
open Go.ChangeShapes Go.WideShapes Go.ChangeAt Go.RowKit

set_option maxRecDepth 100000 in
theorem walFrames_lifted (os : Os) (started : os.Started) (H : Type) (enc : TypeId × Value → H) :
    ReturnsInHanded {} Try.checked os 7 .any (Rows.walFramesSpec.pre6 enc Try.prog Try.f7 Rows.walFramesRow.domain false) (Rows.walFramesSpec.post enc Try.prog Try.f7 false true false false) := by
  refine law_lifted (by kernel_rfl) Try.func7 rfl (fun H ds hds => ?_) (by rw [Try.params7]; decide +kernel) (by kernel_rfl) os started H enc
    (ChangeSpec.witness6 (enc := enc) (C := Try.checked) false ⟨#[], #[.string .empty, .string .empty], []⟩ 8 (by kernel_rfl) (by kernel_rfl) (by kernel_rfl) (by kernel_rfl)) ?_
  · rw [Try.params7] at hds
    match ds, hds with
    | [d0, d1], _ => exact ⟨rfl, rfl, rfl⟩
  · intro W args h
    rw [Try.params7] at h
    obtain ⟨v0, vs0, e0, h, k0, d0, p0, t0, l0⟩ := h.cons
    obtain ⟨v1, vs1, rfl, h, k1, d1, p1, t1, l1⟩ := h.cons
    obtain rfl := h.nil
    obtain ⟨s, rfl, hs⟩ := arg_str k0 t0
    obtain ⟨t, rfl, ht⟩ := arg_str k1 t1
    obtain rfl : args = #[.string s, .string t] := Array.toList_inj.1 e0
    exact walFrames_walk (w := W) s hs t ht

theorem walFrames_holds : Rows.WalFramesSaid :=
  OpenClaim.holds_of_wide 7 Try.f7 rfl rfl rfl rfl rfl rfl rfl ⟨rfl, rfl, rfl, rfl, rfl⟩ rfl rfl rfl rfl rfl (by kernel_rfl) Try.func7 (by kernel_rfl)
    (of_decide_eq_true (by kernel_rfl)) (by unfold Func.isWrapper; first | (rw [if_pos (by decide +kernel)]; kernel_rfl) | (rw [if_neg (by decide +kernel)]; exact ⟨rfl, rfl⟩))
    (fun os started H enc _ => walFrames_lifted os started H enc)
end Go.Proofs.Ytkkbjkoikidjpaa
