/-
  The contract of the reference's sum of many.
-/
import Derived.Test.YtilkeijoppafcaaNumSum
import Derived.Deep.RegionHeld3
namespace Go.Proofs.Ytilkeijoppafcaa
open Go.RowKit

theorem top_c {w : World} : Calls Try.prog 24 #[] w fun e w' => e = .returned (.int .u64 18446744073709551615) ∧ w' = w := by
  go_enter Try.func24, Try.ntmps24
  go_wp2
  go_ret
  exact ⟨rfl, rfl⟩

def RSumRel (l : List Nat) (w0 : World) (v i : Value) (wr : World) : Prop :=
  ∃ k : Nat, k ≤ l.length ∧ i = .int .i64 k ∧ v = .int .u64 ((l.take k).sum : Nat) ∧ (l.take k).sum ≤ 18446744073709551615 ∧ Keeps [] w0 wr

set_option maxHeartbeats 4000000 in
theorem rsum_c {w : World} {p : Nat → Prop} (a : Option Addr) (cap : Nat) (l : List Nat) (hl : NumsAt w p a l) :
    Calls Try.prog 11 #[.slice a l.length cap] w fun e w' => e = .returned (.tuple #[.int .u64 (nSum l).1, .int .i64 (nSum l).2]) ∧ Keeps [] w w' := by
  have hsm := hl.small
  go_enter Try.func11, Try.ntmps11
  go_wp2_with fail
  go_loopw [4, 5] (fun v i wr => RSumRel l w v i wr) (fun _ i _ => l.length - (intOf i).toNat)
  case atStart => exact ⟨0, by omega, rfl, by simp, by simp, Keeps.refl _ _⟩
  case round =>
    obtain ⟨k, hk, rfl, rfl, hs, K⟩ := hrel
    by_cases hlt : k < l.length
    · obtain ⟨b, o, rfl, hp, hc⟩ := (hl.keep K (fun _ _ => by simp)).cell k hlt
      have hb := hl.bound k hlt
      have hsum := sum_take_succ l k hlt
      have hle := sum_take_le l (k + 1)
      by_cases hin : (l.take k).sum + l[k] < 18446744073709551616
      · have hs' := Go.Lib.hid hsum
        generalize (l.take k).sum = s at *
        generalize l[k] = x at *
        obtain ⟨d, hd, hdx⟩ : ∃ d : Nat, (18446744073709551615 : Int) - (s : Int) = (d : Int) ∧ x ≤ d := ⟨18446744073709551615 - s, by omega, by omega⟩
        have hn : ¬ d < x := by omega
        clear hsum hle
        go_wp2_with fail
        go_quiet (first | (go_at_call 24; exact Calls.quiet_of_same top_c))
        go_wp2_with fail
        go_roundw
        case rel => exact ⟨k + 1, by omega, by go_num, by rw [hs'.out]; go_num, by rw [hs'.out]; omega, K.drewN _⟩
        case measure => simp [intOf]; omega
      · have R : Hid (nSum l = (0, 2)) := if_neg (by omega)
        generalize (l.take k).sum = s at *
        generalize l[k] = x at *
        obtain ⟨d, hd, hdx⟩ : ∃ d : Nat, (18446744073709551615 : Int) - (s : Int) = (d : Int) ∧ d < x := ⟨18446744073709551615 - s, by omega, by omega⟩
        clear hsum hle
        go_wp2_with fail
        go_quiet (first | (go_at_call 24; exact Calls.quiet_of_same top_c))
        go_wp2
        go_ret2
        exact ⟨by rw [R.out]; rfl, K.drewN _⟩
    · have ek : l.take k = l := List.take_of_length_le (by omega)
      rw [ek] at hs ⊢
      have R : Hid (nSum l = (l.sum, 0)) := if_pos (by omega)
      clear ek
      go_wp2
      go_ret2
      exact ⟨by rw [R.out]; rfl, K⟩
end Go.Proofs.Ytilkeijoppafcaa
