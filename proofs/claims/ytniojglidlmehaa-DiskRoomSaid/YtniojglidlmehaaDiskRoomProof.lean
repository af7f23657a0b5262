/-
  DiskRoom answers true for every room and every script, and its arguments read behind the call as they read before. No condition.
-/
import Derived.Test.YtniojglidlmehaaDiskRoom
import Derived.Test.YtniojglidlmehaaDiskArgs
namespace Go.Proofs.Ytniojglidlmehaa
open Go.ChangeShapes Go.WideShapes Go.ChangeAt Go.RowKit

set_option maxRecDepth 100000 in
theorem diskRoom_lifted (os : Os) (started : os.Started) (H : Type) (enc : TypeId × Value → H) :
    ReturnsInHanded {} Try.checked os 3 .any (Rows.diskRoomSpec.pre6 enc Try.prog Try.f3 Rows.diskRoomRow.domain false) (Rows.diskRoomSpec.post enc Try.prog Try.f3 false true false false) := by
  refine law_lifted (by kernel_rfl) Try.func3 rfl (fun H ds hds => ?_) (by rw [Try.params3]; decide +kernel) (by kernel_rfl) os started H enc
    (ChangeSpec.witness6 (enc := enc) (C := Try.checked) false ⟨#[], #[.int .u8 0, .slice none 0 0], []⟩ 8 (by kernel_rfl) (by kernel_rfl) (by kernel_rfl) (by kernel_rfl)) ?_
  · rw [Try.params3] at hds
    match ds, hds with
    | [d1, d2], _ => exact ⟨rfl, rfl, rfl⟩
  · intro W args h
    rw [Try.params3] at h
    obtain ⟨v0, vs0, e0, h, k0, d0, p0, t0, l0⟩ := h.cons
    obtain ⟨v1, vs1, rfl, h, k1, d1, p1, t1, l1⟩ := h.cons
    obtain rfl := h.nil
    obtain ⟨r, rfl, hr⟩ := arg_u8 k0 t0
    obtain ⟨a, l, cap, rfl, hl⟩ := arg_dops k1 t1 l1
    obtain rfl : args = #[.int .u8 r, .slice a l.length cap] := Array.toList_inj.1 e0
    exact diskRoom_walk r hr a cap l W hl

theorem diskRoom_holds : Rows.DiskRoomSaid :=
  OpenClaim.holds_of_wide 3 Try.f3 rfl rfl rfl rfl rfl rfl rfl ⟨rfl, rfl, rfl, rfl, rfl⟩ rfl rfl rfl rfl rfl (by kernel_rfl) Try.func3 (by kernel_rfl)
    (of_decide_eq_true (by kernel_rfl)) (by unfold Func.isWrapper; first | (rw [if_pos (by decide +kernel)]; kernel_rfl) | (rw [if_neg (by decide +kernel)]; exact ⟨rfl, rfl⟩))
    (fun os started H enc _ => diskRoom_lifted os started H enc)
end Go.Proofs.Ytniojglidlmehaa
