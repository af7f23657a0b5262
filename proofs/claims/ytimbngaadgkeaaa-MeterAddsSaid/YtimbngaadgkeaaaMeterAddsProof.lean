/-
  MeterAdds answers true for every session and every three numbers. No condition.
-/
import Derived.Test.YtimbngaadgkeaaaMeterAdds
import Derived.Test.YtimbngaadgkeaaaLiftSess
import Derived.Test.YtimbngaadgkeaaaLiftU32x3
namespace Go.Proofs.Ytimbngaadgkeaaa
open Go.ChangeShapes Go.WideShapes Go.ChangeAt Go.RowKit

set_option maxRecDepth 100000 in
theorem meterAdds_lifted (os : Os) (started : os.Started) (H : Type) (enc : TypeId × Value → H) :
    ReturnsInHanded {} Try.checked os 7 .any (Rows.meterAddsSpec.pre6 enc Try.prog Try.f7 Rows.meterAddsRow.domain false) (Rows.meterAddsSpec.post enc Try.prog Try.f7 false true false false) := by
  refine law_lifted (by kernel_rfl) Try.func7 rfl (fun H ds hds => ?_) (by rw [Try.params7]; decide +kernel) (by kernel_rfl) os started H enc
    (ChangeSpec.witness6 (enc := enc) (C := Try.checked) false ⟨#[], #[.agg #[.int .u64 0, .int .u64 0, .int .u64 0, .int .i64 0, .int .i64 0, .int .u64 0, .int .i64 0], .agg #[.int .u32 0, .int .u32 0, .int .u32 0]], []⟩ 8 (by kernel_rfl) (by kernel_rfl) (by kernel_rfl) (by kernel_rfl)) ?_
  · rw [Try.params7] at hds
    match ds, hds with
    | [d0, d1], _ => exact ⟨rfl, rfl, rfl⟩
  · intro W args h
    rw [Try.params7] at h
    obtain ⟨v0, vs0, e0, h, k0, d0, p0, t0, l0⟩ := h.cons
    obtain ⟨v1, vs1, rfl, h, k1, d1, p1, t1, l1⟩ := h.cons
    obtain rfl := h.nil
    obtain ⟨s, rfl, hs⟩ := arg_sess k0 t0
    obtain ⟨a, b, c, rfl, ha, hb, hc⟩ := arg_u32x3 k1 t1
    obtain rfl : args = #[.agg #[.int .u64 s.price, .int .u64 s.limit, .int .u64 s.quota, .int .i64 s.idle, .int .i64 s.state, .int .u64 s.units, .int .i64 s.last], .agg #[.int .u32 a, .int .u32 b, .int .u32 c]] := Array.toList_inj.1 e0
    exact meterAdds_walk (w := W) s hs a b c ha hb hc

theorem meterAdds_holds : Rows.MeterAddsSaid :=
  OpenClaim.holds_of_wide 7 Try.f7 rfl rfl rfl rfl rfl rfl rfl ⟨rfl, rfl, rfl, rfl, rfl⟩ rfl rfl rfl rfl rfl (by kernel_rfl) Try.func7 (by kernel_rfl)
    (of_decide_eq_true (by kernel_rfl)) (by unfold Func.isWrapper; first | (rw [if_pos (by decide +kernel)]; kernel_rfl) | (rw [if_neg (by decide +kernel)]; exact ⟨rfl, rfl⟩))
    (fun os started H enc _ => meterAdds_lifted os started H enc)
end Go.Proofs.Ytimbngaadgkeaaa
