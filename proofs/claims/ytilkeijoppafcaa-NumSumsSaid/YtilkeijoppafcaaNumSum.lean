/-
  The contract of package num's sum of many.
-/
import Derived.Test.YtilkeijoppafcaaNumMul
namespace Go.Proofs.Ytilkeijoppafcaa
open Go.RowKit

/-- A slice of numbers that reads as a list; its block has p. -/
structure NumsAt (w : World) (p : Nat → Prop) (a : Option Addr) (xs : List Nat) : Prop where
  cell : ∀ i (h : i < xs.length), ∃ b o, a = some ⟨b, o, none⟩ ∧ p b ∧ w.cell? ⟨b, o + i, none⟩ = some (.int .u64 xs[i])
  small : xs.length ≤ 9223372036854775807
  bound : ∀ i (h : i < xs.length), xs[i] ≤ 18446744073709551615
theorem NumsAt.keep {w w' : World} {p : Nat → Prop} {a : Option Addr} {xs : List Nat} {S : List Nat} (h : NumsAt w p a xs) (k : Keeps S w w') (hS : ∀ b, p b → b ∉ S) : NumsAt w' p a xs :=
  ⟨fun i hi => by
    obtain ⟨b, o, rfl, hp, hc⟩ := h.cell i hi
    exact ⟨b, o, rfl, hp, by rw [k.cell (World.block_lt_of_cell? w ⟨b, o + i, none⟩ hc) (hS _ hp)]; exact hc⟩, h.small, h.bound⟩
theorem NumsAt.take {w : World} {p : Nat → Prop} {a : Option Addr} {xs : List Nat} (h : NumsAt w p a xs) (m : Nat) : NumsAt w p a (xs.take m) :=
  ⟨fun i hi => by
    have hi' : i < xs.length := by simp at hi; omega
    obtain ⟨b, o, ha, hp, hc⟩ := h.cell i hi'
    exact ⟨b, o, ha, hp, by rw [hc]; simp⟩, by have := h.small; simp; omega, fun i hi => by
    have hi' : i < xs.length := by simp at hi; omega
    rw [List.getElem_take]; exact h.bound i hi'⟩
theorem NumsAt.mono {w : World} {p q : Nat → Prop} {a : Option Addr} {xs : List Nat} (h : NumsAt w p a xs) (hq : ∀ b, p b → q b) : NumsAt w q a xs :=
  ⟨fun i hi => by obtain ⟨b, o, e, hp, hc⟩ := h.cell i hi; exact ⟨b, o, e, hq _ hp, hc⟩, h.small, h.bound⟩

def SumRel (l : List Nat) (w : World) (v i : Value) (wr : World) : Prop :=
  ∃ k : Nat, k ≤ l.length ∧ i = .int .i64 k ∧ v = .int .u64 ((l.take k).sum : Nat) ∧ (l.take k).sum ≤ 18446744073709551615 ∧ wr = w

theorem sum_take_succ (l : List Nat) (k : Nat) (hk : k < l.length) : (l.take (k + 1)).sum = (l.take k).sum + l[k] := by
  rw [List.take_succ_eq_append_getElem hk, List.sum_append]; simp
theorem sum_take_le (l : List Nat) (k : Nat) : (l.take k).sum ≤ l.sum := by
  conv => rhs; rw [← List.take_append_drop k l, List.sum_append]
  omega

set_option maxHeartbeats 4000000 in
theorem sum_c {w : World} {p : Nat → Prop} (a : Option Addr) (cap : Nat) (l : List Nat) (hl : NumsAt w p a l) :
    Calls Try.prog 10 #[.slice a l.length cap] w fun e w' => e = .returned (.tuple #[.int .u64 (nSum l).1, .int .i64 (nSum l).2]) ∧ w = w' := by
  have hsm := hl.small
  go_enter Try.func10, Try.ntmps10
  go_wp2_with fail
  go_loopw [4, 10] (fun v i wr => SumRel l w v i wr) (fun _ i _ => l.length - (intOf i).toNat)
  case atStart => exact ⟨0, by omega, rfl, by simp, by simp, rfl⟩
  case round =>
    obtain ⟨k, hk, rfl, rfl, hs, rfl⟩ := hrel
    by_cases hlt : k < l.length
    · obtain ⟨b, o, rfl, hp, hc⟩ := hl.cell k hlt
      have hb := hl.bound k hlt
      have hsum := sum_take_succ l k hlt
      have hle := sum_take_le l (k + 1)
      have A := fun w => add_c (w := w) (l.take k).sum l[k] hs hb
      by_cases hin : (l.take k).sum + l[k] < 18446744073709551616
      · rw [nAdd, if_pos hin] at A
        have hs' := Go.Lib.hid hsum
        generalize (l.take k).sum = s at *
        generalize l[k] = x at *
        clear hsum hle
        go_wp2_with fail
        refine (A _).mono ?_
        rintro e w' ⟨rfl, rfl⟩
        go_wp2_with fail
        go_roundw
        case rel => exact ⟨k + 1, by omega, by go_num, by rw [hs'.out]; go_num, by rw [hs'.out]; omega, rfl⟩
        case measure => simp [intOf]; omega
      · rw [nAdd, if_neg hin] at A
        have R : Hid (nSum l = (0, 2)) := if_neg (by omega)
        generalize (l.take k).sum = s at *
        generalize l[k] = x at *
        clear hsum hle
        go_wp2_with fail
        refine (A _).mono ?_
        rintro e w' ⟨rfl, rfl⟩
        go_wp2
        go_ret2
        exact ⟨by rw [R.out]; rfl, rfl⟩
    · have ek : l.take k = l := List.take_of_length_le (by omega)
      rw [ek] at hs ⊢
      have R : Hid (nSum l = (l.sum, 0)) := if_pos (by omega)
      clear ek
      go_wp2
      go_ret2
      exact ⟨by rw [R.out]; rfl, rfl⟩
end Go.Proofs.Ytilkeijoppafcaa
