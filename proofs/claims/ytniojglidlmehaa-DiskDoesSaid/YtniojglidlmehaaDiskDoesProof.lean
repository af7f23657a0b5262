/-
  DiskDoes answers true for every number of files, every room and every script, and its arguments read behind the call as they read before. No condition.
-/
import Derived.Test.YtniojglidlmehaaDiskDoes
import Derived.Test.YtniojglidlmehaaDiskArgs
namespace Go.Proofs.Ytniojglidlmehaa
open Go.ChangeShapes Go.WideShapes Go.ChangeAt Go.RowKit

set_option maxRecDepth 100000 in
theorem diskDoes_lifted (os : Os) (started : os.Started) (H : Type) (enc : TypeId × Value → H) :
    ReturnsInHanded {} Try.checked os 5 .any (Rows.diskDoesSpec.pre6 enc Try.prog Try.f5 Rows.diskDoesRow.domain false) (Rows.diskDoesSpec.post enc Try.prog Try.f5 false true false false) := by
  refine law_lifted (by kernel_rfl) Try.func5 rfl (fun H ds hds => ?_) (by rw [Try.params5]; decide +kernel) (by kernel_rfl) os started H enc
    (ChangeSpec.witness6 (enc := enc) (C := Try.checked) false ⟨#[], #[.int .i64 0, .int .i64 0, .slice none 0 0], []⟩ 8 (by kernel_rfl) (by kernel_rfl) (by kernel_rfl) (by kernel_rfl)) ?_
  · rw [Try.params5] at hds
    match ds, hds with
    | [d0, d1, d2], _ => exact ⟨rfl, rfl, rfl⟩
  · intro W args h
    rw [Try.params5] at h
    obtain ⟨v0, vs0, e0, h, k0, d0, p0, t0, l0⟩ := h.cons
    obtain ⟨v1, vs1, rfl, h, k1, d1, p1, t1, l1⟩ := h.cons
    obtain ⟨v2, vs2, rfl, h, k2, d2, p2, t2, l2⟩ := h.cons
    obtain rfl := h.nil
    obtain ⟨n, rfl, hn⟩ := arg_int k0 t0
    obtain ⟨r, rfl, hr⟩ := arg_int k1 t1
    obtain ⟨al, l, cl, rfl, hl⟩ := arg_dops k2 t2 l2
    obtain rfl : args = #[.int .i64 n, .int .i64 r, .slice al l.length cl] := Array.toList_inj.1 e0
    exact diskDoes_walk (w := W) n hn r hr al cl l hl

theorem diskDoes_holds : Rows.DiskDoesSaid :=
  OpenClaim.holds_of_wide 5 Try.f5 rfl rfl rfl rfl rfl rfl rfl ⟨rfl, rfl, rfl, rfl, rfl⟩ rfl rfl rfl rfl rfl (by kernel_rfl) Try.func5 (by kernel_rfl)
    (of_decide_eq_true (by kernel_rfl)) (by unfold Func.isWrapper; first | (rw [if_pos (by decide +kernel)]; kernel_rfl) | (rw [if_neg (by decide +kernel)]; exact ⟨rfl, rfl⟩))
    (fun os started H enc _ => diskDoes_lifted os started H enc)
end Go.Proofs.Ytniojglidlmehaa
