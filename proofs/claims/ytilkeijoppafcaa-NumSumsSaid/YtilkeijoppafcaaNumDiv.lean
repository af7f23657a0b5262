/-
  The contracts of package num's divisions.
-/
import Derived.Test.YtilkeijoppafcaaNumMul
namespace Go.Proofs.Ytilkeijoppafcaa
open Go.RowKit

/-- The number of which the first k bits have been gone through. -/
def partN (h lo k : Nat) : Nat := h * 2 ^ k + lo / 2 ^ (64 - k)
def DivRel (h lo c : Nat) (w : World) (q l i : Value) (wr : World) : Prop :=
  ∃ k : Nat, k ≤ 64 ∧ i = .int .i64 (63 - (k : Int)) ∧ q = .int .u64 (partN h lo k / c % 18446744073709551616 : Nat) ∧ l = .int .u64 (partN h lo k % c : Nat) ∧ wr = w

theorem partN_zero (h lo : Nat) (hl : lo ≤ 18446744073709551615) : partN h lo 0 = h := by
  unfold partN
  rw [Nat.pow_zero, Nat.mul_one, Nat.sub_zero, Nat.div_eq_of_lt (show lo < 2 ^ 64 by omega), Nat.add_zero]
theorem partN_succ (h lo k : Nat) (hk : k < 64) : partN h lo (k + 1) = 2 * partN h lo k + lo / 2 ^ (63 - k) % 2 := by
  unfold partN
  have e1 : lo / 2 ^ (64 - k) = lo / 2 ^ (63 - k) / 2 := by
    rw [Nat.div_div_eq_div_mul, ← Nat.pow_succ]; congr 2; omega
  rw [e1, show 64 - (k + 1) = 63 - k from by omega, Nat.pow_succ, ← Nat.mul_assoc]
  generalize h * 2 ^ k = x
  omega
theorem partN_end (h lo : Nat) : partN h lo 64 = h * 18446744073709551616 + lo := by simp [partN]

theorem and_one (x : Nat) (hx : x < 18446744073709551616) : bits .and .u64 (x : Int) 1 = ((x % 2 : Nat) : Int) := by
  have h := u64_and_nat x 1 hx (by decide)
  rw [show ((1 : Nat) : Int) = 1 from rfl] at h
  rw [h, Nat.and_one_is_mod]
theorem or_bit (k y : Nat) (hk : k < 9223372036854775808) (hy : y < 2) : bits .or .u64 ((k * 2 : Nat) : Int) (y : Int) = ((k * 2 + y : Nat) : Int) := by
  rw [u64_or_nat _ _ (by omega) (by omega), nat_join 1 _ _ (by omega) (by omega)]

/-- One bit more. -/
theorem div_step (N c bit l n : Nat) (h0 : 0 < c) (hl : l = N % c) (hn : n = N / c) (hb : bit < 2) :
    (2 * N + bit) % c = (if c ≤ 2 * l + bit then 2 * l + bit - c else 2 * l + bit) ∧ (2 * N + bit) / c = 2 * n + (if c ≤ 2 * l + bit then 1 else 0) := by
  have hlc : l < c := by rw [hl]; exact Nat.mod_lt _ h0
  have hN : N = c * n + l := by rw [hl, hn]; exact (Nat.div_add_mod N c).symm
  have e : 2 * N + bit = (2 * l + bit) + c * (2 * n) := by rw [hN, Nat.mul_add, Nat.mul_left_comm]; omega
  rw [e, Nat.add_mul_mod_self_left, Nat.add_mul_div_left _ _ h0]
  by_cases h : c ≤ 2 * l + bit
  · rw [if_pos h, if_pos h]
    have e2 : 2 * l + bit = (2 * l + bit - c) + c := by omega
    refine ⟨?_, ?_⟩
    · conv => lhs; rw [e2]
      rw [Nat.add_mod_right, Nat.mod_eq_of_lt (by omega)]
    · conv => lhs; rw [e2]
      rw [Nat.add_div_right _ h0, Nat.div_eq_of_lt (by omega)]; omega
  · rw [if_neg h, if_neg h, Nat.mod_eq_of_lt (by omega), Nat.div_eq_of_lt (by omega)]
    exact ⟨rfl, by omega⟩

set_option maxHeartbeats 4000000 in
theorem divide_c {w : World} (hi lo c : Nat) (_hh : hi ≤ 18446744073709551615) (hl : lo ≤ 18446744073709551615) (hc : c ≤ 18446744073709551615) (h0 : 0 < c) :
    Calls Try.prog 26 #[.int .u64 hi, .int .u64 lo, .int .u64 c] w fun e w' => e = .returned (.tuple #[.int .u64 (partN (hi % c) lo 64 / c % 18446744073709551616 : Nat), .int .u64 (partN (hi % c) lo 64 % c : Nat), .bool (decide (c ≤ hi))]) ∧ w = w' := by
  go_enter Try.func26, Try.ntmps26
  go_wp2_with fail
  go_loopw [6, 7, 9] (fun q l i wr => DivRel (hi % c) lo c w q l i wr) (fun _ _ i _ => (intOf i + 1).toNat)
  case atStart =>
    have e1 : hi % c / c % 18446744073709551616 = 0 := by rw [Nat.div_eq_of_lt (Nat.mod_lt _ h0)]
    exact ⟨0, by omega, rfl, by rw [partN_zero _ _ hl, e1]; rfl, by rw [partN_zero _ _ hl, Nat.mod_mod]; rfl, rfl⟩
  case round =>
    obtain ⟨k, hk, rfl, rfl, rfl, rfl⟩ := hrel
    by_cases hlt : k < 64
    · have E := Go.Lib.hid (partN_succ (hi % c) lo k hlt)
      obtain ⟨N, hN⟩ : ∃ N, Hid (N = partN (hi % c) lo k) := ⟨_, rfl⟩
      rw [← hN.out] at E ⊢
      obtain ⟨B, eB, hB⟩ : ∃ B : Nat, (lo : Int) / 2 ^ (63 - k) = (B : Int) ∧ Hid (B = lo / 2 ^ (63 - k)) := ⟨lo / 2 ^ (63 - k), by rw [Int.natCast_ediv, Int.natCast_pow]; rfl, rfl⟩
      rw [← hB.out] at E
      have hBl : B < 18446744073709551616 := by rw [hB.out]; exact Nat.lt_of_le_of_lt (Nat.div_le_self _ _) (by omega)
      obtain ⟨bit, eb, hbit⟩ : ∃ bit : Nat, bits .and .u64 (B : Int) 1 = (bit : Int) ∧ Hid (bit = B % 2) := ⟨_, and_one B hBl, rfl⟩
      rw [← hbit.out] at E
      have hbit2 : bit < 2 := by rw [hbit.out]; omega
      have D := div_step N c bit (N % c) (N / c) h0 rfl rfl hbit2
      rw [← E.out] at D
      have hln : N % c < c := Nat.mod_lt _ h0
      obtain ⟨n, hn⟩ : ∃ n, n = N / c := ⟨_, rfl⟩
      rw [← hn] at D ⊢
      clear hn hN hB hbit hBl E
      generalize N % c = l at *
      obtain ⟨q, hq⟩ : ∃ q, Hid (q = n % 18446744073709551616) := ⟨_, rfl⟩
      rw [← hq.out]
      have hqM : q < 18446744073709551616 := by rw [hq.out]; omega
      by_cases hge : c ≤ 2 * l + bit
      · rw [if_pos hge, if_pos hge] at D
        obtain ⟨q2, eq2, hq2⟩ : ∃ y : Nat, bits .or .u64 (IntKind.u64.wrap ((q : Int) * 2)) 1 = (y : Int) ∧ Hid (y = (2 * n + 1) % 18446744073709551616) := by
          have e : IntKind.u64.wrap ((q : Int) * 2) = ((q % 9223372036854775808 * 2 : Nat) : Int) := by rw [IntKind.wrap_u64]; omega
          refine ⟨_, by rw [e]; exact or_bit (q % 9223372036854775808) 1 (by omega) (by omega), ?_⟩
          have := hq.out
          show q % 9223372036854775808 * 2 + 1 = _
          omega
        by_cases hcy : 9223372036854775808 ≤ l
        · obtain ⟨s, es, hs⟩ : ∃ s : Nat, bits .or .u64 (IntKind.u64.wrap ((l : Int) * 2)) (bit : Int) = (s : Int) ∧ s = (2 * l + bit) % 18446744073709551616 := by
            have e : IntKind.u64.wrap ((l : Int) * 2) = ((l % 9223372036854775808 * 2 : Nat) : Int) := by rw [IntKind.wrap_u64]; omega
            exact ⟨_, by rw [e]; exact or_bit (l % 9223372036854775808) bit (by omega) hbit2, by omega⟩
          obtain ⟨r, er, hr⟩ : ∃ r : Nat, IntKind.u64.wrap ((s : Int) - (c : Int)) = (r : Int) ∧ Hid (r = 2 * l + bit - c) := ⟨2 * l + bit - c, by rw [IntKind.wrap_u64]; omega, rfl⟩
          have ecy : (l : Int) / 9223372036854775808 = 1 := by omega
          have D' := Go.Lib.hid D
          clear D hge hs hcy hln
          go_wp2
          go_roundw
          case rel => exact ⟨k + 1, by omega, by go_num, by rw [D'.out.2, ← hq2.out], by rw [D'.out.1, ← hr.out], rfl⟩
          case measure => simp [intOf]; omega
        · obtain ⟨s, es, hs⟩ : ∃ s : Nat, bits .or .u64 ((l : Int) * 2) (bit : Int) = (s : Int) ∧ s = 2 * l + bit := by
            have e : (l : Int) * 2 = ((l * 2 : Nat) : Int) := by omega
            exact ⟨_, by rw [e]; exact or_bit l bit (by omega) hbit2, by omega⟩
          have ecy : (l : Int) / 9223372036854775808 = 0 := by omega
          obtain ⟨r, er, hr⟩ : ∃ r : Nat, (s : Int) - (c : Int) = (r : Int) ∧ Hid (r = 2 * l + bit - c) := ⟨2 * l + bit - c, by omega, rfl⟩
          have hcs : c ≤ s := by omega
          have D' := Go.Lib.hid D
          have hl2 : l < 9223372036854775808 := by omega
          have hs2 : s < 18446744073709551616 := by omega
          clear D hge hs hcy hln
          go_wp2
          go_roundw
          case rel => exact ⟨k + 1, by omega, by go_num, by rw [D'.out.2, ← hq2.out], by rw [D'.out.1, ← hr.out], rfl⟩
          case measure => simp [intOf]; omega
      · rw [if_neg hge, if_neg hge, Nat.add_zero] at D
        obtain ⟨q2, eq2, hq2⟩ : ∃ y : Nat, IntKind.u64.wrap ((q : Int) * 2) = (y : Int) ∧ Hid (y = 2 * n % 18446744073709551616) := by
          have := hq.out
          exact ⟨2 * n % 18446744073709551616, by rw [IntKind.wrap_u64]; omega, rfl⟩
        obtain ⟨s, es, hs⟩ : ∃ s : Nat, bits .or .u64 ((l : Int) * 2) (bit : Int) = (s : Int) ∧ s = 2 * l + bit := by
          have e : (l : Int) * 2 = ((l * 2 : Nat) : Int) := by omega
          exact ⟨_, by rw [e]; exact or_bit l bit (by omega) hbit2, by omega⟩
        have ecy : (l : Int) / 9223372036854775808 = 0 := by omega
        have hcs : s < c := by omega
        have hl2 : l < 9223372036854775808 := by omega
        have D' := Go.Lib.hid D
        have hs' := Go.Lib.hid hs
        clear D hge hs hln
        go_wp2
        go_roundw
        case rel => exact ⟨k + 1, by omega, by go_num, by rw [D'.out.2, Nat.add_zero, ← hq2.out], by rw [D'.out.1, ← hs'.out], rfl⟩
        case measure => simp [intOf]; omega
    · have e : k = 64 := by omega
      subst e
      go_wp2
      go_ret3
      exact ⟨rfl, rfl⟩

theorem div_whole (a b c : Nat) (h0 : 0 < c) (h : ¬ c ≤ a * b / 18446744073709551616) :
    partN (a * b / 18446744073709551616 % c) (a * b % 18446744073709551616) 64 / c % 18446744073709551616 = a * b / c ∧ a * b / c < 18446744073709551616 := by
  have e1 : a * b / 18446744073709551616 % c = a * b / 18446744073709551616 := Nat.mod_eq_of_lt (by omega)
  have e2 : a * b / 18446744073709551616 * 18446744073709551616 + a * b % 18446744073709551616 = a * b := by omega
  have lt : a * b / c < 18446744073709551616 := by
    rw [Nat.div_lt_iff_lt_mul h0]
    generalize a * b = x at *
    have : (x / 18446744073709551616 + 1) * 18446744073709551616 ≤ c * 18446744073709551616 := Nat.mul_le_mul_right _ (by omega)
    rw [Nat.mul_comm]; omega
  rw [partN_end, e1, e2, Nat.mod_eq_of_lt lt]
  exact ⟨rfl, lt⟩
theorem div_over (a b c : Nat) (h0 : 0 < c) (h : c ≤ a * b / 18446744073709551616) : ¬ a * b / c < 18446744073709551616 := by
  rw [Nat.div_lt_iff_lt_mul h0]
  generalize a * b = x at *
  have : c * 18446744073709551616 ≤ x / 18446744073709551616 * 18446744073709551616 := Nat.mul_le_mul_right _ h
  rw [Nat.mul_comm]; omega
theorem rem_whole (a b c : Nat) : partN (a * b / 18446744073709551616 % c) (a * b % 18446744073709551616) 64 % c = a * b % c := by
  have e2 : a * b / 18446744073709551616 * 18446744073709551616 + a * b % 18446744073709551616 = a * b := by omega
  rw [partN_end, Nat.add_mod, Nat.mul_mod, Nat.mod_mod, ← Nat.mul_mod, ← Nat.add_mod, e2]

theorem high_le (a b : Nat) (ha : a ≤ 18446744073709551615) (hb : b ≤ 18446744073709551615) : a * b / 18446744073709551616 ≤ 18446744073709551615 := by
  have := Nat.mul_le_mul ha hb
  omega

theorem muldiv_c {w : World} (a b c : Nat) (ha : a ≤ 18446744073709551615) (hb : b ≤ 18446744073709551615) (hc : c ≤ 18446744073709551615) :
    Calls Try.prog 19 #[.int .u64 a, .int .u64 b, .int .u64 c] w fun e w' => e = .returned (.tuple #[.int .u64 (nDiv a b c).1, .int .i64 (nDiv a b c).2]) ∧ w = w' := by
  by_cases h0 : c = 0
  · have R : nDiv a b c = (0, 1) := if_pos h0
    rw [R, h0]
    clear R h0
    go_enter Try.func19, Try.ntmps19
    go_wp2
    go_ret2
    exact ⟨rfl, rfl⟩
  · have hpos : 0 < c := Nat.pos_of_ne_zero h0
    have P := fun w => product_c (w := w) a b ha hb
    have D := fun w => divide_c (w := w) (a * b / 18446744073709551616) (a * b % 18446744073709551616) c (high_le a b ha hb) (by omega) hc hpos
    by_cases h : c ≤ a * b / 18446744073709551616
    · have R : nDiv a b c = (0, 2) := by rw [nDiv, if_neg h0, if_neg (div_over a b c hpos h)]
      rw [R]
      clear R
      generalize partN (a * b / 18446744073709551616 % c) (a * b % 18446744073709551616) 64 / c % 18446744073709551616 = x1 at *
      generalize partN (a * b / 18446744073709551616 % c) (a * b % 18446744073709551616) 64 % c = x2 at *
      generalize a * b / 18446744073709551616 = x at *
      generalize a * b % 18446744073709551616 = y at *
      go_enter Try.func19, Try.ntmps19
      go_wp2_with fail
      refine (P _).mono ?_
      rintro e w' ⟨rfl, rfl⟩
      go_wp2_with fail
      refine (D _).mono ?_
      rintro e w' ⟨rfl, rfl⟩
      go_wp2
      go_ret2
      exact ⟨rfl, rfl⟩
    · have W := div_whole a b c hpos h
      have R : nDiv a b c = (a * b / c, 0) := by rw [nDiv, if_neg h0, if_pos W.2]
      rw [W.1] at D
      rw [R]
      clear R W
      generalize partN (a * b / 18446744073709551616 % c) (a * b % 18446744073709551616) 64 % c = x2 at *
      generalize a * b / c = z at *
      generalize a * b / 18446744073709551616 = x at *
      generalize a * b % 18446744073709551616 = y at *
      go_enter Try.func19, Try.ntmps19
      go_wp2_with fail
      refine (P _).mono ?_
      rintro e w' ⟨rfl, rfl⟩
      go_wp2_with fail
      refine (D _).mono ?_
      rintro e w' ⟨rfl, rfl⟩
      go_wp2
      go_ret2
      exact ⟨rfl, rfl⟩

theorem rem_c {w : World} (a b c : Nat) (ha : a ≤ 18446744073709551615) (hb : b ≤ 18446744073709551615) (hc : c ≤ 18446744073709551615) :
    Calls Try.prog 20 #[.int .u64 a, .int .u64 b, .int .u64 c] w fun e w' => e = .returned (.tuple #[.int .u64 (nRem a b c).1, .int .i64 (nRem a b c).2]) ∧ w = w' := by
  by_cases h0 : c = 0
  · have R : nRem a b c = (0, 1) := if_pos h0
    rw [R, h0]
    clear R h0
    go_enter Try.func20, Try.ntmps20
    go_wp2
    go_ret2
    exact ⟨rfl, rfl⟩
  · have hpos : 0 < c := Nat.pos_of_ne_zero h0
    have P := fun w => product_c (w := w) a b ha hb
    have D := fun w => divide_c (w := w) (a * b / 18446744073709551616) (a * b % 18446744073709551616) c (high_le a b ha hb) (by omega) hc hpos
    have R : nRem a b c = (a * b % c, 0) := by rw [nRem, if_neg h0]
    rw [rem_whole] at D
    rw [R]
    clear R
    generalize partN (a * b / 18446744073709551616 % c) (a * b % 18446744073709551616) 64 / c % 18446744073709551616 = x1 at *
    generalize a * b % c = z at *
    generalize a * b / 18446744073709551616 = x at *
    generalize a * b % 18446744073709551616 = y at *
    go_enter Try.func20, Try.ntmps20
    go_wp2_with fail
    refine (P _).mono ?_
    rintro e w' ⟨rfl, rfl⟩
    go_wp2_with fail
    refine (D _).mono ?_
    rintro e w' ⟨rfl, rfl⟩
    go_wp2
    go_ret2
    exact ⟨rfl, rfl⟩
end Go.Proofs.Ytilkeijoppafcaa
