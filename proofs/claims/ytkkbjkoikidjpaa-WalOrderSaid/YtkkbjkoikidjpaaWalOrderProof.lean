/-
  For every row of texts and of numbers, WalOrder answers true; no condition.
-/
import Derived.Test.YtkkbjkoikidjpaaWalOrder
import Derived.Test.YtkkbjkoikidjpaaLift
import Derived.Test.YtkkbjkoikidjpaaLiftStrs
import Derived.Test.YtkkbjkoikidjpaaLiftInts
namespace Go.Proofs.Ytkkbjkoikidjpaa
open Go.ChangeShapes Go.WideShapes Go.ChangeAt Go.RowKit

set_option maxRecDepth 100000 in
theorem walOrder_lifted (os : Os) (started : os.Started) (H : Type) (enc : TypeId × Value → H) :
    ReturnsInHanded {} Try.checked os 4 .any (Rows.walOrderSpec.pre6 enc Try.prog Try.f4 Rows.walOrderRow.domain false) (Rows.walOrderSpec.post enc Try.prog Try.f4 false true false false) := by
  refine law_lifted (by kernel_rfl) Try.func4 rfl (fun H ds hds => ?_) (by rw [Try.params4]; decide +kernel) (by kernel_rfl) os started H enc
    (ChangeSpec.witness6 (enc := enc) (C := Try.checked) false ⟨#[], #[.slice none 0 0, .slice none 0 0], []⟩ 8 (by kernel_rfl) (by kernel_rfl) (by kernel_rfl) (by kernel_rfl)) ?_
  · rw [Try.params4] at hds
    match ds, hds with
    | [d0, d1], _ => exact ⟨rfl, rfl, rfl⟩
  · intro W args h
    rw [Try.params4] at h
    obtain ⟨v0, vs0, e0, h, k0, d0, p0, t0, l0⟩ := h.cons
    obtain ⟨v1, vs1, rfl, h, k1, d1, p1, t1, l1⟩ := h.cons
    obtain rfl := h.nil
    obtain ⟨al, l, cl, rfl, hl⟩ := arg_strs k0 t0
    obtain ⟨ak, k, ck, rfl, hk, hck, hmk⟩ := arg_ints k1 t1 l1
    obtain rfl : args = #[.slice al l.length cl, .slice ak k.length ck] := Array.toList_inj.1 e0
    exact walOrder_walk (w := W) al cl l hl ak ck k hk hck hmk

theorem walOrder_holds : Rows.WalOrderSaid :=
  OpenClaim.holds_of_wide 4 Try.f4 rfl rfl rfl rfl rfl rfl rfl ⟨rfl, rfl, rfl, rfl, rfl⟩ rfl rfl rfl rfl rfl (by kernel_rfl) Try.func4 (by kernel_rfl)
    (of_decide_eq_true (by kernel_rfl)) (by unfold Func.isWrapper; first | (rw [if_pos (by decide +kernel)]; kernel_rfl) | (rw [if_neg (by decide +kernel)]; exact ⟨rfl, rfl⟩))
    (fun os started H enc _ => walOrder_lifted os started H enc)
end Go.Proofs.Ytkkbjkoikidjpaa
