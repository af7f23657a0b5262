/-
  NumScales: its walk.
-/
import Derived.Test.YtilkeijoppafcaaNumFixed
import Derived.Deep.DeepCutAuto
import Derived.Deep.CutBlock
namespace Go.Proofs.Ytilkeijoppafcaa
open Go.RowKit

theorem nDiv_comm' (a b c : Nat) : nDiv b a c = nDiv a b c := by unfold nDiv; rw [Nat.mul_comm]

set_option maxRecDepth 100000 in
set_option maxHeartbeats 4000000 in
theorem numScales_walk {w : World} (a : Nat) (ha : a ≤ 18446744073709551615) (b : Nat) (hb : b ≤ 18446744073709551615) (s t : Nat) (hs : s ≤ 4294967295) (ht : t ≤ 4294967295) :
    Calls Try.prog 9 #[.int .u64 a, .int .u64 b, .agg #[.int .u32 s, .int .u32 t]] w fun e w' => e = .returned (.bool true) ∧ Below w.heap.size w w' := by
  go_enter Try.func9, Try.ntmps9
  go_upto_region 1 with fail
  go_cut [7, 8] (fun v7 v8 wx => v7 = .int .u64 (s + 1 : Nat) ∧ v8 = .int .u64 (t + 1 : Nat) ∧ Keeps [] w wx)
  case first =>
    go_region
    go_wp2_with fail
    go_meet
    case rel => exact ⟨by go_num, by go_num, ((Keeps.refl _ _).alloc _).drew⟩
  case rest =>
    obtain ⟨rfl, rfl, K1⟩ := hcut
    obtain ⟨c, hc⟩ : ∃ c, c = s + 1 := ⟨_, rfl⟩
    obtain ⟨k, hk⟩ : ∃ k, k = t + 1 := ⟨_, rfl⟩
    rw [← hc, ← hk]
    have hc0 : 0 < c := by omega
    have hk0 : 0 < k := by omega
    have hcm : c ≤ 4294967296 := by omega
    have hkm : k ≤ 4294967296 := by omega
    clear hc hk
    have hck : c * k ≤ 18446744073709551616 := Nat.mul_le_mul hcm hkm
    have hnc : ¬ c = 0 := by omega
    have hnk : ¬ k = 0 := by omega
    have X := fun w => muldiv_c (w := w) a b c ha hb (by omega)
    have Q := fun w => muldiv_c (w := w) b a c hb ha (by omega)
    rw [nDiv_comm'] at Q
    have Z := fun w => muldiv_c (w := w) a 1 c ha (by decide) (by omega)
    have hz : nDiv a 1 c = (a / c, 0) := by rw [nDiv, if_neg hnc, Nat.mul_one, if_pos (Nat.lt_of_le_of_lt (Nat.div_le_self _ _) (by omega))]
    rw [hz] at Z
    have H := fun w => mul_c (w := w) a k ha (by omega)
    generalize (nDiv a b c).1 = x at *
    generalize (nDiv a b c).2 = xe at *
    have HB : (∃ p : Nat, p ≤ 18446744073709551615 ∧ nMul a k = (p, 0) ∧ IntKind.u64.wrap ((p : Int) / (k : Int)) = (a : Int)) ∨ nMul a k = (0, 2) := by
      by_cases h : a * k < 18446744073709551616
      · exact .inl ⟨a * k, by omega, if_pos h, by rw [← Int.natCast_ediv, Nat.mul_div_cancel _ hk0]; exact wrap_nat a (by omega)⟩
      · exact .inr (if_neg h)
    have CB : (∃ m : Nat, m ≤ 18446744073709551615 ∧ IntKind.u64.wrap ((c : Int) * (k : Int)) = (m : Int) ∧ nDiv a k m = (a / c, 0) ∧ IntKind.u64.wrap ((m : Int) / (k : Int)) = (c : Int)) ∨ (IntKind.u64.wrap ((c : Int) * (k : Int)) = ((0 : Nat) : Int)) := by
      by_cases h : c * k < 18446744073709551616
      · refine .inl ⟨c * k, by omega, wrap_nat (c * k) h, ?_, by rw [← Int.natCast_ediv, Nat.mul_div_cancel _ hk0]; exact wrap_nat c (by omega)⟩
        have : 0 < c * k := Nat.mul_pos hc0 hk0
        rw [nDiv, if_neg (by omega), Nat.mul_div_mul_right _ _ hk0, if_pos (Nat.lt_of_le_of_lt (Nat.div_le_self _ _) (by omega))]
      · refine .inr ?_
        have : c * k = 18446744073709551616 := by omega
        rw [← Int.natCast_mul, this]; rfl
    have hk1 : ((k : Int) == 0) = false := by simp; omega
    generalize a / c = z at *
    clear hck hz
    rcases CB with ⟨m, hm, e1, e2, e3⟩ | e1
    · have Y := fun w => muldiv_c (w := w) a k m ha (by omega) hm
      rw [e2] at Y
      clear e2
      rcases HB with ⟨p, hp, e4, e5⟩ | e4
      · rw [e4] at H
        clear e4
        go_wp2_with fail
        refine (X _).mono ?_
        rintro e w' ⟨rfl, rfl⟩
        go_wp2_with fail
        refine (Y _).mono ?_
        rintro e w' ⟨rfl, rfl⟩
        go_wp2_with fail
        refine (Z _).mono ?_
        rintro e w' ⟨rfl, rfl⟩
        go_wp2_with fail
        refine (H _).mono ?_
        rintro e w' ⟨rfl, rfl⟩
        go_wp2_with fail
        refine (Q _).mono ?_
        rintro e w' ⟨rfl, rfl⟩
        go_wp2_with fail
        refine (fixed_c).mono ?_
        rintro e w3 ⟨rfl, k3⟩
        go_wp2
        go_ret
        exact ⟨rfl, (K1.trans k3).below (Nat.le_refl _) (by simp)⟩
      · rw [e4] at H
        clear e4
        go_wp2_with fail
        refine (X _).mono ?_
        rintro e w' ⟨rfl, rfl⟩
        go_wp2_with fail
        refine (Y _).mono ?_
        rintro e w' ⟨rfl, rfl⟩
        go_wp2_with fail
        refine (Z _).mono ?_
        rintro e w' ⟨rfl, rfl⟩
        go_wp2_with fail
        refine (H _).mono ?_
        rintro e w' ⟨rfl, rfl⟩
        go_wp2_with fail
        refine (Q _).mono ?_
        rintro e w' ⟨rfl, rfl⟩
        go_wp2_with fail
        refine (fixed_c).mono ?_
        rintro e w3 ⟨rfl, k3⟩
        go_wp2
        go_ret
        exact ⟨rfl, (K1.trans k3).below (Nat.le_refl _) (by simp)⟩
    · have Y := fun w => muldiv_c (w := w) a k 0 ha (by omega) (by decide)
      rw [nDiv, if_pos rfl] at Y
      rcases HB with ⟨p, hp, e4, e5⟩ | e4
      · rw [e4] at H
        clear e4
        go_wp2_with fail
        refine (X _).mono ?_
        rintro e w' ⟨rfl, rfl⟩
        go_wp2_with fail
        refine (Y _).mono ?_
        rintro e w' ⟨rfl, rfl⟩
        go_wp2_with fail
        refine (Z _).mono ?_
        rintro e w' ⟨rfl, rfl⟩
        go_wp2_with fail
        refine (H _).mono ?_
        rintro e w' ⟨rfl, rfl⟩
        go_wp2_with fail
        refine (Q _).mono ?_
        rintro e w' ⟨rfl, rfl⟩
        go_wp2_with fail
        refine (fixed_c).mono ?_
        rintro e w3 ⟨rfl, k3⟩
        go_wp2
        go_ret
        exact ⟨rfl, (K1.trans k3).below (Nat.le_refl _) (by simp)⟩
      · rw [e4] at H
        clear e4
        go_wp2_with fail
        refine (X _).mono ?_
        rintro e w' ⟨rfl, rfl⟩
        go_wp2_with fail
        refine (Y _).mono ?_
        rintro e w' ⟨rfl, rfl⟩
        go_wp2_with fail
        refine (Z _).mono ?_
        rintro e w' ⟨rfl, rfl⟩
        go_wp2_with fail
        refine (H _).mono ?_
        rintro e w' ⟨rfl, rfl⟩
        go_wp2_with fail
        refine (Q _).mono ?_
        rintro e w' ⟨rfl, rfl⟩
        go_wp2_with fail
        refine (fixed_c).mono ?_
        rintro e w3 ⟨rfl, k3⟩
        go_wp2
        go_ret
        exact ⟨rfl, (K1.trans k3).below (Nat.le_refl _) (by simp)⟩
end Go.Proofs.Ytilkeijoppafcaa
