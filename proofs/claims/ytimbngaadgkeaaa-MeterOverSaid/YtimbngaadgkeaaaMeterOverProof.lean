/-
  MeterOver answers true for every session and every two numbers. No condition.
-/
import Derived.Test.YtimbngaadgkeaaaMeterOver
import Derived.Test.YtimbngaadgkeaaaLiftSess
namespace Go.Proofs.Ytimbngaadgkeaaa
open Go.ChangeShapes Go.WideShapes Go.ChangeAt Go.RowKit

set_option maxRecDepth 100000 in
theorem meterOver_lifted (os : Os) (started : os.Started) (H : Type) (enc : TypeId × Value → H) :
    ReturnsInHanded {} Try.checked os 9 .any (Rows.meterOverSpec.pre6 enc Try.prog Try.f9 Rows.meterOverRow.domain false) (Rows.meterOverSpec.post enc Try.prog Try.f9 false true false false) := by
  refine law_lifted (by kernel_rfl) Try.func9 rfl (fun H ds hds => ?_) (by rw [Try.params9]; decide +kernel) (by kernel_rfl) os started H enc
    (ChangeSpec.witness6 (enc := enc) (C := Try.checked) false ⟨#[], #[.agg #[.int .u64 0, .int .u64 0, .int .u64 0, .int .i64 0, .int .i64 0, .int .u64 0, .int .i64 0], .agg #[.int .u16 0, .int .u16 0]], []⟩ 8 (by kernel_rfl) (by kernel_rfl) (by kernel_rfl) (by kernel_rfl)) ?_
  · rw [Try.params9] at hds
    match ds, hds with
    | [d0, d1], _ => exact ⟨rfl, rfl, rfl⟩
  · intro W args h
    rw [Try.params9] at h
    obtain ⟨v0, vs0, e0, h, k0, d0, p0, t0, l0⟩ := h.cons
    obtain ⟨v1, vs1, rfl, h, k1, d1, p1, t1, l1⟩ := h.cons
    obtain rfl := h.nil
    obtain ⟨s, rfl, hs⟩ := arg_sess k0 t0
    obtain ⟨a, b, rfl, ha, hb⟩ := arg_u16x2 k1 t1
    obtain rfl : args = #[.agg #[.int .u64 s.price, .int .u64 s.limit, .int .u64 s.quota, .int .i64 s.idle, .int .i64 s.state, .int .u64 s.units, .int .i64 s.last], .agg #[.int .u16 a, .int .u16 b]] := Array.toList_inj.1 e0
    exact meterOver_walk (w := W) s hs a b ha hb

theorem meterOver_holds : Rows.MeterOverSaid :=
  OpenClaim.holds_of_wide 9 Try.f9 rfl rfl rfl rfl rfl rfl rfl ⟨rfl, rfl, rfl, rfl, rfl⟩ rfl rfl rfl rfl rfl (by kernel_rfl) Try.func9 (by kernel_rfl)
    (of_decide_eq_true (by kernel_rfl)) (by unfold Func.isWrapper; first | (rw [if_pos (by decide +kernel)]; kernel_rfl) | (rw [if_neg (by decide +kernel)]; exact ⟨rfl, rfl⟩))
    (fun os started H enc _ => meterOver_lifted os started H enc)
end Go.Proofs.Ytimbngaadgkeaaa
