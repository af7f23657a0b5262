/-
  For every two rows of texts and every row of numbers, WalAnew answers true; no condition.
-/
import Derived.Test.YtkkbjkoikidjpaaWalAnew
import Derived.Test.YtkkbjkoikidjpaaLift
import Derived.Test.YtkkbjkoikidjpaaLiftStrs
import Derived.Test.YtkkbjkoikidjpaaLiftInts
namespace Go.Proofs.Ytkkbjkoikidjpaa
open Go.ChangeShapes Go.WideShapes Go.ChangeAt Go.RowKit

set_option maxRecDepth 100000 in
theorem walAnew_lifted (os : Os) (started : os.Started) (H : Type) (enc : TypeId × Value → H) :
    ReturnsInHanded {} Try.checked os 5 .any (Rows.walAnewSpec.pre6 enc Try.prog Try.f5 Rows.walAnewRow.domain false) (Rows.walAnewSpec.post enc Try.prog Try.f5 false true false false) := by
  refine law_lifted (by kernel_rfl) Try.func5 rfl (fun H ds hds => ?_) (by rw [Try.params5]; decide +kernel) (by kernel_rfl) os started H enc
    (ChangeSpec.witness6 (enc := enc) (C := Try.checked) false ⟨#[], #[.slice none 0 0, .slice none 0 0, .slice none 0 0], []⟩ 8 (by kernel_rfl) (by kernel_rfl) (by kernel_rfl) (by kernel_rfl)) ?_
  · rw [Try.params5] at hds
    match ds, hds with
    | [d0, d1, d2], _ => exact ⟨rfl, rfl, rfl⟩
  · intro W args h
    rw [Try.params5] at h
    obtain ⟨v0, vs0, e0, h, k0, d0, p0, t0, l0⟩ := h.cons
    obtain ⟨v1, vs1, rfl, h, k1, d1, p1, t1, l1⟩ := h.cons
    obtain ⟨v2, vs2, rfl, h, k2, d2, p2, t2, l2⟩ := h.cons
    obtain rfl := h.nil
    obtain ⟨ap, p, cp, rfl, hp⟩ := arg_strs k0 t0
    obtain ⟨aq, q, cq, rfl, hq⟩ := arg_strs k1 t1
    obtain ⟨ak, k, ck, rfl, hk, hck, hmk⟩ := arg_ints k2 t2 l2
    obtain rfl : args = #[.slice ap p.length cp, .slice aq q.length cq, .slice ak k.length ck] := Array.toList_inj.1 e0
    exact walAnew_walk (w := W) ap cp p hp aq cq q hq ak ck k hk hck hmk

theorem walAnew_holds : Rows.WalAnewSaid :=
  OpenClaim.holds_of_wide 5 Try.f5 rfl rfl rfl rfl rfl rfl rfl ⟨rfl, rfl, rfl, rfl, rfl⟩ rfl rfl rfl rfl rfl (by kernel_rfl) Try.func5 (by kernel_rfl)
    (of_decide_eq_true (by kernel_rfl)) (by unfold Func.isWrapper; first | (rw [if_pos (by decide +kernel)]; kernel_rfl) | (rw [if_neg (by decide +kernel)]; exact ⟨rfl, rfl⟩))
    (fun os started H enc _ => walAnew_lifted os started H enc)
end Go.Proofs.Ytkkbjkoikidjpaa
