/-
  Bytes in the order of numbers: the plain law.
-/
import Derived.Test.YtilkeijoppafcaaNum
namespace Go.Proofs.Ytilkeijoppafcaa
open Go.RowKit

theorem u8_eqB (x y : UInt8) : (x == y) = decide (x.toNat = y.toNat) := by
  rw [Bool.eq_iff_iff, beq_iff_eq, decide_eq_true_eq, UInt8.toNat_inj]
theorem u8_ltB (x y : UInt8) : decide (x < y) = decide (x.toNat < y.toNat) := decide_eq_decide.2 UInt8.lt_iff_toNat_lt

theorem bytesLess_be (k a b : Nat) (x y : List UInt8) : Op.bytesLess (be k a ++ x) (be k b ++ y) = (decide (a % 256 ^ k < b % 256 ^ k) || (decide (a % 256 ^ k = b % 256 ^ k) && Op.bytesLess x y)) := by
  induction k with
  | zero => simp [be, Nat.mod_one]
  | succ k ih =>
    have h1 : a % 256 ^ k < 256 ^ k := Nat.mod_lt _ (Nat.pow_pos (by decide))
    have h2 : b % 256 ^ k < 256 ^ k := Nat.mod_lt _ (Nat.pow_pos (by decide))
    rw [be, be, List.cons_append, List.cons_append, Op.bytesLess, ih, Nat.mod_pow_succ, Nat.mod_pow_succ]
    have e1 : (UInt8.ofNat (a / 256 ^ k)).toNat = a / 256 ^ k % 256 := by simp
    have e2 : (UInt8.ofNat (b / 256 ^ k)).toNat = b / 256 ^ k % 256 := by simp
    have l1 : decide (UInt8.ofNat (a / 256 ^ k) < UInt8.ofNat (b / 256 ^ k)) = decide (a / 256 ^ k % 256 < b / 256 ^ k % 256) := by rw [u8_ltB, e1, e2]
    have l2 : (UInt8.ofNat (a / 256 ^ k) == UInt8.ofNat (b / 256 ^ k)) = decide (a / 256 ^ k % 256 = b / 256 ^ k % 256) := by rw [u8_eqB, e1, e2]
    rw [l1, l2]
    generalize a / 256 ^ k % 256 = p at *
    generalize b / 256 ^ k % 256 = q at *
    generalize a % 256 ^ k = r at *
    generalize b % 256 ^ k = s at *
    generalize 256 ^ k = M at *
    clear ih l1 l2 e1 e2
    have mono : ∀ u v : Nat, u < v → M * u + M ≤ M * v := fun u v h => by rw [← Nat.mul_succ]; exact Nat.mul_le_mul_left _ h
    rcases Nat.lt_trichotomy p q with h | h | h
    · have := mono p q h
      have t1 : r + M * p < s + M * q := by omega
      simp [h, t1]
    · subst h
      simp
    · have := mono q p h
      have t1 : ¬ r + M * p < s + M * q := by omega
      have t2 : ¬ r + M * p = s + M * q := by omega
      have t3 : ¬ p < q := by omega
      have t4 : ¬ p = q := by omega
      simp [t1, t2, t3, t4]

theorem be_inj (k a b : Nat) : (be k a == be k b) = decide (a % 256 ^ k = b % 256 ^ k) := by
  induction k with
  | zero => simp [be, Nat.mod_one]
  | succ k ih =>
    have h1 : a % 256 ^ k < 256 ^ k := Nat.mod_lt _ (Nat.pow_pos (by decide))
    have h2 : b % 256 ^ k < 256 ^ k := Nat.mod_lt _ (Nat.pow_pos (by decide))
    have e1 : (UInt8.ofNat (a / 256 ^ k)).toNat = a / 256 ^ k % 256 := by simp
    have e2 : (UInt8.ofNat (b / 256 ^ k)).toNat = b / 256 ^ k % 256 := by simp
    have l2 : (UInt8.ofNat (a / 256 ^ k) == UInt8.ofNat (b / 256 ^ k)) = decide (a / 256 ^ k % 256 = b / 256 ^ k % 256) := by rw [u8_eqB, e1, e2]
    rw [be, be, List.cons_beq_cons, ih, l2, Nat.mod_pow_succ, Nat.mod_pow_succ]
    generalize a / 256 ^ k % 256 = p at *
    generalize b / 256 ^ k % 256 = q at *
    generalize a % 256 ^ k = r at *
    generalize b % 256 ^ k = s at *
    generalize 256 ^ k = M at *
    clear ih l2 e1 e2
    have mono : ∀ u v : Nat, u < v → M * u + M ≤ M * v := fun u v h => by rw [← Nat.mul_succ]; exact Nat.mul_le_mul_left _ h
    rcases Nat.lt_trichotomy p q with h | h | h
    · have := mono p q h
      have t2 : ¬ r + M * p = s + M * q := by omega
      have t4 : ¬ p = q := by omega
      simp [t2, t4]
    · subst h
      simp
    · have := mono q p h
      have t2 : ¬ r + M * p = s + M * q := by omega
      have t4 : ¬ p = q := by omega
      simp [t2, t4]

theorem putB_less (a b : Nat) (ha : a ≤ 18446744073709551615) (hb : b ≤ 18446744073709551615) : Op.bytesLess (putB a).toList (putB b).toList = decide ((a : Int) < (b : Int)) := by
  have h := bytesLess_be 8 a b [] []
  rw [List.append_nil, List.append_nil, Nat.mod_eq_of_lt (by omega), Nat.mod_eq_of_lt (by omega)] at h
  rw [ByteArray.toList_eq, ByteArray.toList_eq]
  show Op.bytesLess (be 8 a) (be 8 b) = _
  rw [h]
  simp [Op.bytesLess]
theorem putB_same (a b : Nat) (ha : a ≤ 18446744073709551615) (hb : b ≤ 18446744073709551615) : ((putB a).toList == (putB b).toList) = ((a : Int) == (b : Int)) := by
  have h := be_inj 8 a b
  rw [Nat.mod_eq_of_lt (by omega), Nat.mod_eq_of_lt (by omega)] at h
  rw [ByteArray.toList_eq, ByteArray.toList_eq]
  show (be 8 a == be 8 b) = _
  rw [h]
  by_cases e : a = b
  · simp [e]
  · simp [e]; omega

theorem val_cons (b : UInt8) (l : List UInt8) : val (b :: l) = b.toNat * 256 ^ l.length + val l := by
  rw [← l.reverse_reverse]
  induction l.reverse with
  | nil => simp [val]
  | cons c r ih =>
    rw [List.reverse_cons, ← List.cons_append, val_snoc, ih, val_snoc]
    simp only [List.length_append, List.length_cons, List.length_nil, Nat.zero_add, Nat.pow_succ, Nat.add_mul, Nat.mul_assoc]
    omega
theorem val_be (k n : Nat) : val (be k n) = n % 256 ^ k := by
  induction k with
  | zero => simp [be, val, Nat.mod_one]
  | succ k ih =>
    rw [be, val_cons, ih, length_be, Nat.mod_pow_succ, UInt8.toNat_ofNat', Nat.mul_comm, Nat.add_comm]
end Go.Proofs.Ytilkeijoppafcaa
