/-
  CodecHalf answers true for every text and every list of parts, and its arguments read behind the call as they read before. No condition.
-/
import Derived.Test.YtkmpefgaoagjjaaCodecHalf
import Derived.Test.YtkmpefgaoagjjaaCodecArgs
namespace Go.Proofs.Ytkmpefgaoagjjaa
open Go.ChangeShapes Go.WideShapes Go.ChangeAt Go.RowKit

set_option maxRecDepth 100000 in
theorem codecHalf_lifted (os : Os) (started : os.Started) (H : Type) (enc : TypeId × Value → H) :
    ReturnsInHanded {} Try.checked os 9 .any (Rows.codecHalfSpec.pre6 enc Try.prog Try.f9 Rows.codecHalfRow.domain false) (Rows.codecHalfSpec.post enc Try.prog Try.f9 false true false false) := by
  refine law_lifted (by kernel_rfl) Try.func9 rfl (fun H ds hds => ?_) (by rw [Try.params9]; decide +kernel) (by kernel_rfl) os started H enc
    (ChangeSpec.witness6 (enc := enc) (C := Try.checked) false ⟨#[], #[.string .empty, .slice none 0 0], []⟩ 8 (by kernel_rfl) (by kernel_rfl) (by kernel_rfl) (by kernel_rfl)) ?_
  · rw [Try.params9] at hds
    match ds, hds with
    | [d0, d1], _ => exact ⟨rfl, rfl, rfl⟩
  · intro W args h
    rw [Try.params9] at h
    obtain ⟨v0, vs0, e0, h, k0, d0, p0, t0, l0⟩ := h.cons
    obtain ⟨v1, vs1, rfl, h, k1, d1, p1, t1, l1⟩ := h.cons
    obtain rfl := h.nil
    obtain ⟨s, rfl, hs⟩ := arg_str k0 t0
    obtain ⟨al, l, cl, rfl, hl⟩ := arg_parts k1 t1 l1
    obtain rfl : args = #[.string s, .slice al l.length cl] := Array.toList_inj.1 e0
    exact codecHalf_walk (w := W) s hs al cl l hl

theorem codecHalf_holds : Rows.CodecHalfSaid :=
  OpenClaim.holds_of_wide 9 Try.f9 rfl rfl rfl rfl rfl rfl rfl ⟨rfl, rfl, rfl, rfl, rfl⟩ rfl rfl rfl rfl rfl (by kernel_rfl) Try.func9 (by kernel_rfl)
    (of_decide_eq_true (by kernel_rfl)) (by unfold Func.isWrapper; first | (rw [if_pos (by decide +kernel)]; kernel_rfl) | (rw [if_neg (by decide +kernel)]; exact ⟨rfl, rfl⟩))
    (fun os started H enc _ => codecHalf_lifted os started H enc)
end Go.Proofs.Ytkmpefgaoagjjaa
