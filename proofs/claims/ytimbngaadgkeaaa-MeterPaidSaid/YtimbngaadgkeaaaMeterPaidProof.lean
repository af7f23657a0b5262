/-
  MeterPaid answers true for every session and every row of pairs. No condition.
-/
import Derived.Test.YtimbngaadgkeaaaMeterPaid
import Derived.Test.YtimbngaadgkeaaaLiftSess
import Derived.Test.YtimbngaadgkeaaaLiftPairs
namespace Go.Proofs.Ytimbngaadgkeaaa
open Go.ChangeShapes Go.WideShapes Go.ChangeAt Go.RowKit

set_option maxRecDepth 100000 in
theorem meterPaid_lifted (os : Os) (started : os.Started) (H : Type) (enc : TypeId × Value → H) :
    ReturnsInHanded {} Try.checked os 6 .any (Rows.meterPaidSpec.pre6 enc Try.prog Try.f6 Rows.meterPaidRow.domain false) (Rows.meterPaidSpec.post enc Try.prog Try.f6 false true false false) := by
  refine law_lifted (by kernel_rfl) Try.func6 rfl (fun H ds hds => ?_) (by rw [Try.params6]; decide +kernel) (by kernel_rfl) os started H enc
    (ChangeSpec.witness6 (enc := enc) (C := Try.checked) false ⟨#[], #[.agg #[.int .u64 0, .int .u64 0, .int .u64 0, .int .i64 0, .int .i64 0, .int .u64 0, .int .i64 0], .slice none 0 0], []⟩ 8 (by kernel_rfl) (by kernel_rfl) (by kernel_rfl) (by kernel_rfl)) ?_
  · rw [Try.params6] at hds
    match ds, hds with
    | [d0, d1], _ => exact ⟨rfl, rfl, rfl⟩
  · intro W args h
    rw [Try.params6] at h
    obtain ⟨v0, vs0, e0, h, k0, d0, p0, t0, l0⟩ := h.cons
    obtain ⟨v1, vs1, rfl, h, k1, d1, p1, t1, l1⟩ := h.cons
    obtain rfl := h.nil
    obtain ⟨s, rfl, hs⟩ := arg_sess k0 t0
    obtain ⟨al, l, cl, rfl, hl⟩ := arg_pairs k1 t1
    obtain rfl : args = #[.agg #[.int .u64 s.price, .int .u64 s.limit, .int .u64 s.quota, .int .i64 s.idle, .int .i64 s.state, .int .u64 s.units, .int .i64 s.last], .slice al l.length cl] := Array.toList_inj.1 e0
    exact meterPaid_walk (w := W) s hs al cl l hl

theorem meterPaid_holds : Rows.MeterPaidSaid :=
  OpenClaim.holds_of_wide 6 Try.f6 rfl rfl rfl rfl rfl rfl rfl ⟨rfl, rfl, rfl, rfl, rfl⟩ rfl rfl rfl rfl rfl (by kernel_rfl) Try.func6 (by kernel_rfl)
    (of_decide_eq_true (by kernel_rfl)) (by unfold Func.isWrapper; first | (rw [if_pos (by decide +kernel)]; kernel_rfl) | (rw [if_neg (by decide +kernel)]; exact ⟨rfl, rfl⟩))
    (fun os started H enc _ => meterPaid_lifted os started H enc)
end Go.Proofs.Ytimbngaadgkeaaa
