/-
  NumSums answers true for every row of numbers, every text and every number, and its arguments read behind the call as they read before. No condition.
-/
import Derived.Test.YtilkeijoppafcaaNumSums
import Derived.Test.YtilkeijoppafcaaLiftU64
import Derived.Test.YtilkeijoppafcaaLiftStr
namespace Go.Proofs.Ytilkeijoppafcaa
open Go.ChangeShapes Go.WideShapes Go.ChangeAt Go.RowKit

set_option maxRecDepth 100000 in
theorem numSums_lifted (os : Os) (started : os.Started) (H : Type) (enc : TypeId × Value → H) :
    ReturnsInHanded {} Try.checked os 3 .any (Rows.numSumsSpec.pre6 enc Try.prog Try.f3 Rows.numSumsRow.domain false) (Rows.numSumsSpec.post enc Try.prog Try.f3 false true false false) := by
  refine law_lifted (by kernel_rfl) Try.func3 rfl (fun H ds hds => ?_) (by rw [Try.params3]; decide +kernel) (by kernel_rfl) os started H enc
    (ChangeSpec.witness6 (enc := enc) (C := Try.checked) false ⟨#[], #[.slice none 0 0, .string .empty, .int .i64 0], []⟩ 8 (by kernel_rfl) (by kernel_rfl) (by kernel_rfl) (by kernel_rfl)) ?_
  · rw [Try.params3] at hds
    match ds, hds with
    | [d0, d1, d2], _ => exact ⟨rfl, rfl, rfl⟩
  · intro W args h
    rw [Try.params3] at h
    obtain ⟨v0, vs0, e0, h, k0, d0, p0, t0, l0⟩ := h.cons
    obtain ⟨v1, vs1, rfl, h, k1, d1, p1, t1, l1⟩ := h.cons
    obtain ⟨v2, vs2, rfl, h, k2, d2, p2, t2, l2⟩ := h.cons
    obtain rfl := h.nil
    obtain ⟨al, l, cl, rfl, hl, hcl, hml⟩ := arg_u64s k0 t0 l0
    obtain ⟨s, rfl, hs⟩ := arg_str k1 t1
    obtain ⟨n, rfl, hn⟩ := arg_int k2 t2
    obtain rfl : args = #[.slice al l.length cl, .string s, .int .i64 n] := Array.toList_inj.1 e0
    exact numSums_walk (w := W) al cl l hl hcl hml s hs n hn

theorem numSums_holds : Rows.NumSumsSaid :=
  OpenClaim.holds_of_wide 3 Try.f3 rfl rfl rfl rfl rfl rfl rfl ⟨rfl, rfl, rfl, rfl, rfl⟩ rfl rfl rfl rfl rfl (by kernel_rfl) Try.func3 (by kernel_rfl)
    (of_decide_eq_true (by kernel_rfl)) (by unfold Func.isWrapper; first | (rw [if_pos (by decide +kernel)]; kernel_rfl) | (rw [if_neg (by decide +kernel)]; exact ⟨rfl, rfl⟩))
    (fun os started H enc _ => numSums_lifted os started H enc)
end Go.Proofs.Ytilkeijoppafcaa
