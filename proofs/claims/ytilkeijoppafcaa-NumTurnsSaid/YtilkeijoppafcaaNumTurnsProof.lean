/-
  NumTurns answers true for every three numbers. No condition.
-/
import Derived.Test.YtilkeijoppafcaaNumTurns
import Derived.Test.YtilkeijoppafcaaLiftU64
namespace Go.Proofs.Ytilkeijoppafcaa
open Go.ChangeShapes Go.WideShapes Go.ChangeAt Go.RowKit

set_option maxRecDepth 100000 in
theorem numTurns_lifted (os : Os) (started : os.Started) (H : Type) (enc : TypeId × Value → H) :
    ReturnsInHanded {} Try.checked os 5 .any (Rows.numTurnsSpec.pre6 enc Try.prog Try.f5 Rows.numTurnsRow.domain false) (Rows.numTurnsSpec.post enc Try.prog Try.f5 false true false false) := by
  refine law_lifted (by kernel_rfl) Try.func5 rfl (fun H ds hds => ?_) (by rw [Try.params5]; decide +kernel) (by kernel_rfl) os started H enc
    (ChangeSpec.witness6 (enc := enc) (C := Try.checked) false ⟨#[], #[.int .u64 0, .int .u64 0, .int .u64 0], []⟩ 8 (by kernel_rfl) (by kernel_rfl) (by kernel_rfl) (by kernel_rfl)) ?_
  · rw [Try.params5] at hds
    match ds, hds with
    | [d0, d1, d2], _ => exact ⟨rfl, rfl, rfl⟩
  · intro W args h
    rw [Try.params5] at h
    obtain ⟨v0, vs0, e0, h, k0, d0, p0, t0, l0⟩ := h.cons
    obtain ⟨v1, vs1, rfl, h, k1, d1, p1, t1, l1⟩ := h.cons
    obtain ⟨v2, vs2, rfl, h, k2, d2, p2, t2, l2⟩ := h.cons
    obtain rfl := h.nil
    obtain ⟨a, rfl, ha⟩ := arg_u64 k0 t0
    obtain ⟨b, rfl, hb⟩ := arg_u64 k1 t1
    obtain ⟨c, rfl, hc⟩ := arg_u64 k2 t2
    obtain rfl : args = #[.int .u64 a, .int .u64 b, .int .u64 c] := Array.toList_inj.1 e0
    exact numTurns_walk (w := W) a ha b hb c hc

theorem numTurns_holds : Rows.NumTurnsSaid :=
  OpenClaim.holds_of_wide 5 Try.f5 rfl rfl rfl rfl rfl rfl rfl ⟨rfl, rfl, rfl, rfl, rfl⟩ rfl rfl rfl rfl rfl (by kernel_rfl) Try.func5 (by kernel_rfl)
    (of_decide_eq_true (by kernel_rfl)) (by unfold Func.isWrapper; first | (rw [if_pos (by decide +kernel)]; kernel_rfl) | (rw [if_neg (by decide +kernel)]; exact ⟨rfl, rfl⟩))
    (fun os started H enc _ => numTurns_lifted os started H enc)
end Go.Proofs.Ytilkeijoppafcaa
