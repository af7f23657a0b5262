/-
  DiskFiles answers true for every script and every two numbers, and its arguments read behind the call as they read before. No condition.
-/
import Derived.Test.YtniojglidlmehaaDiskFiles
import Derived.Test.YtniojglidlmehaaDiskArgs
namespace Go.Proofs.Ytniojglidlmehaa
open Go.ChangeShapes Go.WideShapes Go.ChangeAt Go.RowKit

set_option maxRecDepth 100000 in
theorem diskFiles_lifted (os : Os) (started : os.Started) (H : Type) (enc : TypeId × Value → H) :
    ReturnsInHanded {} Try.checked os 4 .any (Rows.diskFilesSpec.pre6 enc Try.prog Try.f4 Rows.diskFilesRow.domain false) (Rows.diskFilesSpec.post enc Try.prog Try.f4 false true false false) := by
  refine law_lifted (by kernel_rfl) Try.func4 rfl (fun H ds hds => ?_) (by rw [Try.params4]; decide +kernel) (by kernel_rfl) os started H enc
    (ChangeSpec.witness6 (enc := enc) (C := Try.checked) false ⟨#[], #[.slice none 0 0, .int .u8 0, .int .u8 0], []⟩ 8 (by kernel_rfl) (by kernel_rfl) (by kernel_rfl) (by kernel_rfl)) ?_
  · rw [Try.params4] at hds
    match ds, hds with
    | [d0, d1, d2], _ => exact ⟨rfl, rfl, rfl⟩
  · intro W args h
    rw [Try.params4] at h
    obtain ⟨v0, vs0, e0, h, k0, d0, p0, t0, l0⟩ := h.cons
    obtain ⟨v1, vs1, rfl, h, k1, d1, p1, t1, l1⟩ := h.cons
    obtain ⟨v2, vs2, rfl, h, k2, d2, p2, t2, l2⟩ := h.cons
    obtain rfl := h.nil
    obtain ⟨al, l, cl, rfl, hl⟩ := arg_dops k0 t0 l0
    obtain ⟨p, rfl, hp⟩ := arg_u8 k1 t1
    obtain ⟨q, rfl, hq⟩ := arg_u8 k2 t2
    obtain rfl : args = #[.slice al l.length cl, .int .u8 p, .int .u8 q] := Array.toList_inj.1 e0
    exact diskFiles_walk (w := W) al cl l hl p hp q hq

theorem diskFiles_holds : Rows.DiskFilesSaid :=
  OpenClaim.holds_of_wide 4 Try.f4 rfl rfl rfl rfl rfl rfl rfl ⟨rfl, rfl, rfl, rfl, rfl⟩ rfl rfl rfl rfl rfl (by kernel_rfl) Try.func4 (by kernel_rfl)
    (of_decide_eq_true (by kernel_rfl)) (by unfold Func.isWrapper; first | (rw [if_pos (by decide +kernel)]; kernel_rfl) | (rw [if_neg (by decide +kernel)]; exact ⟨rfl, rfl⟩))
    (fun os started H enc _ => diskFiles_lifted os started H enc)
end Go.Proofs.Ytniojglidlmehaa
