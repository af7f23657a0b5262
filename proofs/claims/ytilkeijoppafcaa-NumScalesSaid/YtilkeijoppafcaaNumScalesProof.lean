/-
  NumScales answers true for every two numbers and every two numbers of 32 bits. No condition.
-/
import Derived.Test.YtilkeijoppafcaaNumScales
import Derived.Test.YtilkeijoppafcaaLiftU64
import Derived.Test.YtilkeijoppafcaaLiftU32
namespace Go.Proofs.Ytilkeijoppafcaa
open Go.ChangeShapes Go.WideShapes Go.ChangeAt Go.RowKit

set_option maxRecDepth 100000 in
theorem numScales_lifted (os : Os) (started : os.Started) (H : Type) (enc : TypeId × Value → H) :
    ReturnsInHanded {} Try.checked os 9 .any (Rows.numScalesSpec.pre6 enc Try.prog Try.f9 Rows.numScalesRow.domain false) (Rows.numScalesSpec.post enc Try.prog Try.f9 false true false false) := by
  refine law_lifted (by kernel_rfl) Try.func9 rfl (fun H ds hds => ?_) (by rw [Try.params9]; decide +kernel) (by kernel_rfl) os started H enc
    (ChangeSpec.witness6 (enc := enc) (C := Try.checked) false ⟨#[], #[.int .u64 0, .int .u64 0, .agg #[.int .u32 0, .int .u32 0]], []⟩ 8 (by kernel_rfl) (by kernel_rfl) (by kernel_rfl) (by kernel_rfl)) ?_
  · rw [Try.params9] at hds
    match ds, hds with
    | [d0, d1, d2], _ => exact ⟨rfl, rfl, rfl⟩
  · intro W args h
    rw [Try.params9] at h
    obtain ⟨v0, vs0, e0, h, k0, d0, p0, t0, l0⟩ := h.cons
    obtain ⟨v1, vs1, rfl, h, k1, d1, p1, t1, l1⟩ := h.cons
    obtain ⟨v2, vs2, rfl, h, k2, d2, p2, t2, l2⟩ := h.cons
    obtain rfl := h.nil
    obtain ⟨a, rfl, ha⟩ := arg_u64 k0 t0
    obtain ⟨b, rfl, hb⟩ := arg_u64 k1 t1
    obtain ⟨s, t, rfl, hs, ht⟩ := arg_u32x2 k2 t2
    obtain rfl : args = #[.int .u64 a, .int .u64 b, .agg #[.int .u32 s, .int .u32 t]] := Array.toList_inj.1 e0
    exact numScales_walk (w := W) a ha b hb s t hs ht

theorem numScales_holds : Rows.NumScalesSaid :=
  OpenClaim.holds_of_wide 9 Try.f9 rfl rfl rfl rfl rfl rfl rfl ⟨rfl, rfl, rfl, rfl, rfl⟩ rfl rfl rfl rfl rfl (by kernel_rfl) Try.func9 (by kernel_rfl)
    (of_decide_eq_true (by kernel_rfl)) (by unfold Func.isWrapper; first | (rw [if_pos (by decide +kernel)]; kernel_rfl) | (rw [if_neg (by decide +kernel)]; exact ⟨rfl, rfl⟩))
    (fun os started H enc _ => numScales_lifted os started H enc)
end Go.Proofs.Ytilkeijoppafcaa
