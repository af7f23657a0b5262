/-
  CodecOrder answers true for every two numbers and every two texts. No condition.
-/
import Derived.Test.YtkmpefgaoagjjaaCodecOrder
import Derived.Test.YtkmpefgaoagjjaaCodecPairs
namespace Go.Proofs.Ytkmpefgaoagjjaa
open Go.ChangeShapes Go.WideShapes Go.ChangeAt Go.RowKit

set_option maxRecDepth 100000 in
theorem codecOrder_lifted (os : Os) (started : os.Started) (H : Type) (enc : TypeId × Value → H) :
    ReturnsInHanded {} Try.checked os 8 .any (Rows.codecOrderSpec.pre6 enc Try.prog Try.f8 Rows.codecOrderRow.domain false) (Rows.codecOrderSpec.post enc Try.prog Try.f8 false true false false) := by
  refine law_lifted (by kernel_rfl) Try.func8 rfl (fun H ds hds => ?_) (by rw [Try.params8]; decide +kernel) (by kernel_rfl) os started H enc
    (ChangeSpec.witness6 (enc := enc) (C := Try.checked) false ⟨#[], #[.agg #[.int .u64 0, .int .u64 0], .agg #[.string .empty, .string .empty]], []⟩ 8 (by kernel_rfl) (by kernel_rfl) (by kernel_rfl) (by kernel_rfl)) ?_
  · rw [Try.params8] at hds
    match ds, hds with
    | [d0, d1], _ => exact ⟨rfl, rfl, rfl⟩
  · intro W args h
    rw [Try.params8] at h
    obtain ⟨v0, vs0, e0, h, k0, d0, p0, t0, l0⟩ := h.cons
    obtain ⟨v1, vs1, rfl, h, k1, d1, p1, t1, l1⟩ := h.cons
    obtain rfl := h.nil
    obtain ⟨a, b, rfl, ha, hb⟩ := arg_u2 k0 t0
    obtain ⟨s, t, rfl, hs, ht⟩ := arg_s2 k1 t1
    obtain rfl : args = #[.agg #[.int .u64 a, .int .u64 b], .agg #[.string s, .string t]] := Array.toList_inj.1 e0
    exact codecOrder_walk (w := W) a b ha hb s t hs ht

theorem codecOrder_holds : Rows.CodecOrderSaid :=
  OpenClaim.holds_of_wide 8 Try.f8 rfl rfl rfl rfl rfl rfl rfl ⟨rfl, rfl, rfl, rfl, rfl⟩ rfl rfl rfl rfl rfl (by kernel_rfl) Try.func8 (by kernel_rfl)
    (of_decide_eq_true (by kernel_rfl)) (by unfold Func.isWrapper; first | (rw [if_pos (by decide +kernel)]; kernel_rfl) | (rw [if_neg (by decide +kernel)]; exact ⟨rfl, rfl⟩))
    (fun os started H enc _ => codecOrder_lifted os started H enc)
end Go.Proofs.Ytkmpefgaoagjjaa
