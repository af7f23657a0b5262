/-
  NumBack: its walk.
-/
import Derived.Test.YtilkeijoppafcaaNumFixed
import Derived.Test.YtilkeijoppafcaaOrderPlain
namespace Go.Proofs.Ytilkeijoppafcaa
open Go.RowKit

theorem val_put_more (a : Nat) (ha : a ≤ 18446744073709551615) (t : ByteArray) : val ((putB a ++ t).data.toList.take 8) = a := by
  rw [ByteArray.toList_data_append, List.take_append_of_le_length (by show 8 ≤ (be 8 a).length; rw [length_be]; omega), List.take_of_length_le (by show (be 8 a).length ≤ 8; rw [length_be]; omega)]
  show val (be 8 a) = a
  rw [val_be]; omega

set_option maxRecDepth 100000 in
set_option maxHeartbeats 4000000 in
theorem numBack_walk {w : World} (a : Nat) (ha : a ≤ 18446744073709551615) (b : Nat) (hb : b ≤ 18446744073709551615) (c : Nat) (hc : c ≤ 18446744073709551615) :
    Calls Try.prog 4 #[.int .u64 a, .int .u64 b, .int .u64 c] w fun e w' => e = .returned (.bool true) ∧ Below w.heap.size w w' := by
  have D := fun w => muldiv_c (w := w) a b c ha hb hc
  have R := fun w => rem_c (w := w) a b c ha hb hc
  have M := fun w => mul_c (w := w) a b ha hb
  have P := fun w => put_any (w := w) a ha
  have G := fun w => get_ok (w := w) (putB a ++ ⟨#[109, 111, 114, 101]⟩) (by rw [ByteArray.size_append, size_putB]; omega)
  rw [val_put_more a ha] at G
  have zz : (putB a).size = 8 := rfl
  generalize putB a = x at *
  by_cases h0 : c = 0
  · subst h0
    rw [nDiv, if_pos rfl] at D
    rw [nRem, if_pos rfl] at R
    generalize (nMul a b).1 = p at *
    generalize (nMul a b).2 = pe at *
    go_enter Try.func4, Try.ntmps4
    go_wp2_with fail
    refine (D _).mono ?_
    rintro e w' ⟨rfl, rfl⟩
    go_wp2_with fail
    refine (R _).mono ?_
    rintro e w' ⟨rfl, rfl⟩
    go_wp2_with fail
    refine (M _).mono ?_
    rintro e w' ⟨rfl, rfl⟩
    go_wp2_with fail
    refine (P _).mono ?_
    rintro e w1 ⟨rfl, k1⟩
    go_wp2_with fail
    refine (G _).mono ?_
    rintro e w' ⟨rfl, rfl⟩
    go_wp2_with fail
    refine (fixed_c (w := w1)).mono ?_
    rintro e w3 ⟨rfl, k3⟩
    go_wp2
    go_ret
    exact ⟨rfl, (k1.trans k3).below (Nat.le_refl _) (by simp)⟩
  · have hpos : 0 < c := Nat.pos_of_ne_zero h0
    rw [nRem, if_neg h0] at R
    have hr : a * b % c < c := Nat.mod_lt _ hpos
    by_cases hm : a * b < 18446744073709551616
    · have hq : a * b / c < 18446744073709551616 := Nat.lt_of_le_of_lt (Nat.div_le_self _ _) hm
      rw [nDiv, if_neg h0, if_pos hq] at D
      rw [nMul, if_pos hm] at M
      have hdm := Nat.div_add_mod (a * b) c
      generalize a * b = p at *
      have q3 : IntKind.u64.wrap ((p : Int) / (c : Int)) = ((p / c : Nat) : Int) := wrap_nat (p / c) hq
      have r1 : (p : Int) % (c : Int) = ((p % c : Nat) : Int) := rfl
      generalize p / c = q at *
      generalize p % c = r at *
      rw [Nat.mul_comm] at hdm
      obtain ⟨m, m1, hm'⟩ : ∃ m : Nat, IntKind.u64.wrap ((q : Int) * (c : Int)) = (m : Int) ∧ m = q * c := ⟨q * c, by rw [IntKind.wrap_u64, ← Int.natCast_mul]; omega, rfl⟩
      rw [← hm'] at hdm
      have m2 : IntKind.u64.wrap ((m : Int) + (r : Int)) = (p : Int) := by rw [IntKind.wrap_u64]; omega
      have hn0 : ((c : Int) == 0) = false := by simpa using h0
      have hn1 : ((c : Int) != 0) = true := by simpa using h0
      clear hm' hdm hq hm h0
      go_enter Try.func4, Try.ntmps4
      go_wp2_with fail
      refine (D _).mono ?_
      rintro e w' ⟨rfl, rfl⟩
      go_wp2_with fail
      refine (R _).mono ?_
      rintro e w' ⟨rfl, rfl⟩
      go_wp2_with fail
      refine (M _).mono ?_
      rintro e w' ⟨rfl, rfl⟩
      go_wp2_with fail
      refine (P _).mono ?_
      rintro e w1 ⟨rfl, k1⟩
      go_wp2_with fail
      refine (G _).mono ?_
      rintro e w' ⟨rfl, rfl⟩
      go_wp2_with fail
      refine (fixed_c (w := w1)).mono ?_
      rintro e w3 ⟨rfl, k3⟩
      go_wp2
      go_ret
      exact ⟨rfl, (k1.trans k3).below (Nat.le_refl _) (by simp)⟩
    · rw [nMul, if_neg hm] at M
      generalize (nDiv a b c).1 = q at *
      generalize (nDiv a b c).2 = qe at *
      generalize a * b % c = r at *
      have hn0 : ((c : Int) == 0) = false := by simpa using h0
      have hn1 : ((c : Int) != 0) = true := by simpa using h0
      clear hm h0
      go_enter Try.func4, Try.ntmps4
      go_wp2_with fail
      refine (D _).mono ?_
      rintro e w' ⟨rfl, rfl⟩
      go_wp2_with fail
      refine (R _).mono ?_
      rintro e w' ⟨rfl, rfl⟩
      go_wp2_with fail
      refine (M _).mono ?_
      rintro e w' ⟨rfl, rfl⟩
      go_wp2_with fail
      refine (P _).mono ?_
      rintro e w1 ⟨rfl, k1⟩
      go_wp2_with fail
      refine (G _).mono ?_
      rintro e w' ⟨rfl, rfl⟩
      go_wp2_with fail
      refine (fixed_c (w := w1)).mono ?_
      rintro e w3 ⟨rfl, k3⟩
      go_wp2
      go_ret
      exact ⟨rfl, (k1.trans k3).below (Nat.le_refl _) (by simp)⟩
end Go.Proofs.Ytilkeijoppafcaa
