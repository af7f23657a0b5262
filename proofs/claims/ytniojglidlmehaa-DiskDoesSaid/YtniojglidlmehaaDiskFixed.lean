/-
  The fixed calls of the statements on disks: they answer true.
-/
import Derived.Test.YtniojglidlmehaaDiskC
namespace Go.Proofs.Ytniojglidlmehaa
open Go.RowKit

section
variable {w : World} {D L : Nat} {l : List DFile} {room : Nat}
theorem append_lit (h : DiskAt w D L l room) (f : Int) (s : ByteArray) (n : Int) (l' : List DFile) (e : dAppend l room f s = (n, l')) :
    Calls Try.prog 10 #[.pointer (some ⟨D, 0, none⟩), .int .i64 f, .string s] w fun e w' => e = .returned (.int .i64 n) ∧ DiskAt w' D L l' room ∧ Keeps [L] w w' := by
  have := append_any h f s; rw [e] at this; exact this
theorem sync_lit (h : DiskAt w D L l room) (f : Int) (n : Int) (l' : List DFile) (e : dSync l f = (n, l')) :
    Calls Try.prog 12 #[.pointer (some ⟨D, 0, none⟩), .int .i64 f] w fun e w' => e = .returned (.int .i64 n) ∧ DiskAt w' D L l' room ∧ Keeps [L] w w' := by
  have := sync_any h f; rw [e] at this; exact this
theorem cut_lit (h : DiskAt w D L l room) (f m : Int) (n : Int) (l' : List DFile) (e : dCut l f m = (n, l')) :
    Calls Try.prog 13 #[.pointer (some ⟨D, 0, none⟩), .int .i64 f, .int .i64 m] w fun e w' => e = .returned (.int .i64 n) ∧ DiskAt w' D L l' room ∧ Keeps [L] w w' := by
  have := cut_any h f m; rw [e] at this; exact this
theorem swap_lit (h : DiskAt w D L l room) (a b : Int) (n : Int) (l' : List DFile) (e : dSwap l a b = (n, l')) :
    Calls Try.prog 14 #[.pointer (some ⟨D, 0, none⟩), .int .i64 a, .int .i64 b] w fun e w' => e = .returned (.int .i64 n) ∧ DiskAt w' D L l' room ∧ Keeps [L] w w' := by
  have := swap_any h a b; rw [e] at this; exact this
theorem read_lit (h : DiskAt w D L l room) (f : Int) (s : ByteArray) (e : dRead l f = s) :
    Calls Try.prog 9 #[.pointer (some ⟨D, 0, none⟩), .int .i64 f] w fun e w' => e = .returned (.string s) ∧ w = w' := by
  have := read_any h f; rw [e] at this; exact this
theorem sure_lit (h : DiskAt w D L l room) (f n : Int) (e : (dSure l f : Int) = n) :
    Calls Try.prog 20 #[.pointer (some ⟨D, 0, none⟩), .int .i64 f] w fun e w' => e = .returned (.int .i64 n) ∧ w = w' := by
  have := sure_any h f; rw [e] at this; exact this
theorem free_lit (h : DiskAt w D L l room) (n : Int) (e : ((room - fileSum l : Nat) : Int) = n) :
    Calls Try.prog 8 #[.pointer (some ⟨D, 0, none⟩)] w fun e w' => e = .returned (.int .i64 n) ∧ Keeps [] w w' := by
  have := free_any h; rw [e] at this; exact this
theorem crash_lit (h : DiskAt w D L l room) (a : Option Addr) (cap len : Nat) (keep : List Int) (hl : len = keep.length) {p : Nat → Prop} (hk : IntsAt w p a keep) (ho : ¬ p L) (l' : List DFile) (e : dCrash l keep = l') :
    Calls Try.prog 22 #[.pointer (some ⟨D, 0, none⟩), .slice a len cap] w fun e w' => e = .returned (.tuple #[]) ∧ DiskAt w' D L l' room ∧ Keeps [L] w w' := by
  have := crash_any h a cap keep hk ho; rw [e, ← hl] at this; exact this
end

set_option maxRecDepth 100000 in
set_option maxHeartbeats 4000000 in
theorem fixed_any (w : World) : Calls Try.prog 11 #[] w fun e w' => e = .returned (.bool true) ∧ Keeps [] w w' := by
  go_enter Try.func11, Try.ntmps11
  go_wp2_with fail
  refine (new_ok 2 10 (by decide)).mono ?_
  rintro e w1 ⟨D, L, rfl, h1, k1, hD, hL⟩
  have K1 : Keeps [L] w w1 := k1.mono (by simp)
  have hDn : D ≠ L := h1.ne
  clear k1
  go_wp2_with fail
  refine (new_no 0 10 (by decide)).mono ?_
  rintro e w' ⟨rfl, rfl⟩
  go_wp2_with fail
  refine (new_no 1 16777217 (by decide)).mono ?_
  rintro e w' ⟨rfl, rfl⟩
  go_wp2_with fail
  refine (append_lit h1 0 ⟨#[97, 98]⟩ 0 [(⟨#[97, 98]⟩, 0), (ByteArray.empty, 0)] (by kernel_rfl)).mono ?_
  rintro e w2 ⟨rfl, h2, k2⟩
  replace K1 := K1.trans k2
  clear h1 k2
  go_wp2_with fail
  refine (sync_lit h2 0 0 [(⟨#[97, 98]⟩, 2), (ByteArray.empty, 0)] (by kernel_rfl)).mono ?_
  rintro e w3 ⟨rfl, h3, k3⟩
  replace K1 := K1.trans k3
  clear h2 k3
  go_wp2_with fail
  refine (append_lit h3 0 ⟨#[99, 100]⟩ 0 [(⟨#[97, 98, 99, 100]⟩, 2), (ByteArray.empty, 0)] (by kernel_rfl)).mono ?_
  rintro e w4 ⟨rfl, h4, k4⟩
  replace K1 := K1.trans k4
  clear h3 k4
  go_wp2_with fail
  refine (append_lit h4 2 ⟨#[120]⟩ 1 [(⟨#[97, 98, 99, 100]⟩, 2), (ByteArray.empty, 0)] (by kernel_rfl)).mono ?_
  rintro e w5 ⟨rfl, h5, k5⟩
  replace K1 := K1.trans k5
  clear h4 k5
  go_wp2_with fail
  refine (append_lit h5 1 ⟨#[49, 50, 51, 52, 53, 54, 55]⟩ 9 [(⟨#[97, 98, 99, 100]⟩, 2), (ByteArray.empty, 0)] (by kernel_rfl)).mono ?_
  rintro e w6 ⟨rfl, h6, k6⟩
  replace K1 := K1.trans k6
  clear h5 k6
  go_wp2_with fail
  refine (swap_lit h6 0 1 8 [(⟨#[97, 98, 99, 100]⟩, 2), (ByteArray.empty, 0)] (by kernel_rfl)).mono ?_
  rintro e w7 ⟨rfl, h7, k7⟩
  replace K1 := K1.trans k7
  clear h6 k7
  go_wp2_with fail
  have hlt : L < w7.heap.size := h7.ltL
  have hki : IntsAt (w7.alloc (.cells #[.int .i64 1] 3)) (· ≠ L) (some ⟨w7.heap.size, 0, none⟩) [1] :=
    ⟨fun i hi => by have : i = 0 := by simpa using hi
                    subst this; exact ⟨_, _, rfl, by omega, by simp⟩, by simp, by simp⟩
  refine (crash_lit (h7.keep ((Keeps.refl [] _).alloc _) (by simp) (by simp)) _ _ 1 [1] rfl hki (by simp) [(⟨#[97, 98, 99]⟩, 3), (ByteArray.empty, 0)] (by kernel_rfl)).mono ?_
  rintro e w8 ⟨rfl, h8, k8⟩
  replace K1 := (K1.alloc _).trans k8
  clear h7 k8 hki hlt
  go_wp2_with fail
  refine (read_lit h8 0 ⟨#[97, 98, 99]⟩ (by kernel_rfl)).mono ?_
  rintro e w' ⟨rfl, rfl⟩
  go_wp2_with fail
  refine (sure_lit h8 0 3 (by kernel_rfl)).mono ?_
  rintro e w' ⟨rfl, rfl⟩
  go_wp2_with fail
  refine (free_lit h8 7 (by kernel_rfl)).mono ?_
  rintro e w9 ⟨rfl, k9⟩
  replace K1 := K1.trans (k9.mono (by simp))
  have h9 := h8.keep k9 (by simp) (by simp)
  clear h8 k9
  go_wp2_with fail
  refine (swap_lit h9 0 1 0 [(ByteArray.empty, 0), (⟨#[97, 98, 99]⟩, 3)] (by kernel_rfl)).mono ?_
  rintro e w10 ⟨rfl, h10, k10⟩
  replace K1 := K1.trans k10
  clear h9 k10
  go_wp2_with fail
  refine (cut_lit h10 1 2 0 [(ByteArray.empty, 0), (⟨#[97, 98]⟩, 2)] (by kernel_rfl)).mono ?_
  rintro e w11 ⟨rfl, h11, k11⟩
  replace K1 := K1.trans k11
  clear h10 k11
  go_wp2_with fail
  refine (cut_lit h11 1 3 1 [(ByteArray.empty, 0), (⟨#[97, 98]⟩, 2)] (by kernel_rfl)).mono ?_
  rintro e w12 ⟨rfl, h12, k12⟩
  replace K1 := K1.trans k12
  clear h11 k12
  go_wp2_with fail
  refine (sync_lit h12 5 1 [(ByteArray.empty, 0), (⟨#[97, 98]⟩, 2)] (by kernel_rfl)).mono ?_
  rintro e w13 ⟨rfl, h13, k13⟩
  replace K1 := K1.trans k13
  clear h12 k13
  go_wp2_with fail
  refine (read_lit h13 1 ⟨#[97, 98]⟩ (by kernel_rfl)).mono ?_
  rintro e w' ⟨rfl, rfl⟩
  go_wp2_with fail
  refine (read_lit h13 0 ByteArray.empty (by kernel_rfl)).mono ?_
  rintro e w' ⟨rfl, rfl⟩
  go_wp2_with fail
  refine (read_lit h13 9 ByteArray.empty (by kernel_rfl)).mono ?_
  rintro e w' ⟨rfl, rfl⟩
  go_wp2_with fail
  refine (sure_lit h13 (-1) 0 (by kernel_rfl)).mono ?_
  rintro e w' ⟨rfl, rfl⟩
  go_wp2_with fail
  go_ret
  exact ⟨rfl, K1.mono (by simp; omega)⟩
end Go.Proofs.Ytniojglidlmehaa
