/-
  The reference's Add and Most; the laws' Ref.
-/
import Derived.Test.YtimbngaadgkeaaaMeter
import Derived.Test.YtimbngaadgkeaaaMeterPlain
namespace Go.Proofs.Ytimbngaadgkeaaa
open Go.RowKit

theorem top_c {w : World} : Calls Try.prog 37 #[] w fun e w' => e = .returned (.int .u64 18446744073709551615) ∧ w = w' := by
  go_enter Try.func37, Try.ntmps37
  go_wp2
  go_ret
  exact ⟨rfl, rfl⟩

theorem radd_c {w : World} (a b : Nat) (ha : a ≤ 18446744073709551615) (hb : b ≤ 18446744073709551615) :
    Calls Try.prog 31 #[.int .u64 a, .int .u64 b] w fun e w' => e = .returned (.tuple #[.int .u64 (nAdd a b).1, .int .i64 (nAdd a b).2]) ∧ w = w' := by
  obtain ⟨d, hd, hd1⟩ : ∃ d : Nat, (18446744073709551615 : Int) - (b : Int) = (d : Int) ∧ d = 18446744073709551615 - b := ⟨18446744073709551615 - b, by omega, rfl⟩
  by_cases h : a + b < 18446744073709551616
  · have R : nAdd a b = (a + b, 0) := if_pos h
    have e1 : IntKind.u64.wrap ((a : Int) + (b : Int)) = ((a + b : Nat) : Int) := by rw [IntKind.wrap_u64]; omega
    have e2 : a ≤ d := by omega
    have e3 : decide (d < a) = false := by simp; omega
    rw [R]
    clear R hd1
    go_enter Try.func31, Try.ntmps31
    go_wp2_with fail
    refine (top_c).mono ?_
    rintro e w' ⟨rfl, rfl⟩
    go_wp2
    go_ret2
    exact ⟨rfl, rfl⟩
  · have R : nAdd a b = (0, 2) := if_neg h
    have e2 : d < a := by omega
    rw [R]
    clear R hd1
    go_enter Try.func31, Try.ntmps31
    go_wp2_with fail
    refine (top_c).mono ?_
    rintro e w' ⟨rfl, rfl⟩
    go_wp2
    go_ret2
    exact ⟨rfl, rfl⟩

theorem ref_c {w : World} (s : Sess) : Calls Try.prog 12 #[.agg #[.int .u64 s.price, .int .u64 s.limit, .int .u64 s.quota, .int .i64 s.idle, .int .i64 s.state, .int .u64 s.units, .int .i64 s.last]] w fun e w' => e = .returned (.agg #[.int .u64 s.price, .int .u64 s.limit, .int .u64 s.quota, .int .i64 s.idle, .int .i64 s.state, .int .u64 s.units, .int .i64 s.last]) ∧ Keeps [] w w' := by
  obtain ⟨price, limit, quota, idle, state, units, last⟩ := s
  go_enter Try.func12, Try.ntmps12
  go_wp2
  refine bodyPost_ret (v := .agg #[.int .u64 price, .int .u64 limit, .int .u64 quota, .int .i64 idle, .int .i64 state, .int .u64 units, .int .i64 last]) (by simp [results, Try.results12, go_sem]) rfl ⟨rfl, ?_⟩
  exact ((Keeps.refl _ _).alloc _).alloc _

set_option maxRecDepth 100000 in
set_option maxHeartbeats 4000000 in
theorem rmost_c {w : World} (s : Sess) (credit : Nat) (hs : s.Ok) (hc : credit ≤ 18446744073709551615) :
    Calls Try.prog 22 #[.agg #[.int .u64 s.price, .int .u64 s.limit, .int .u64 s.quota, .int .i64 s.idle, .int .i64 s.state, .int .u64 s.units, .int .i64 s.last], .int .u64 credit] w fun e w' => e = .returned (.int .u64 (mMost s credit)) ∧ Keeps [] w w' := by
  obtain ⟨h1, h2, h3, h4, h5, h6, h7⟩ := hs
  have A := fun w => radd_c (w := w) credit s.limit hc h2
  have HP : mPaid s credit = if (nAdd credit s.limit).2 = 0 then (nAdd credit s.limit).1 else 18446744073709551615 := by
    unfold mPaid nAdd; split <;> rfl
  have hA := nAdd_le credit s.limit
  have hM : Hid (mMost s credit = if s.state ≠ 1 ∨ s.quota ≤ s.units then 0 else if s.price = 0 then min (s.quota - s.units) 4294967296 else if mPaid s credit / s.price ≤ s.units then 0 else min (min (s.quota - s.units) 4294967296) (mPaid s credit / s.price - s.units)) := rfl
  generalize mMost s credit = X at *
  rw [HP] at hM
  clear HP
  generalize (nAdd credit s.limit).1 = pd at *
  generalize (nAdd credit s.limit).2 = pe at *
  obtain ⟨price, limit, quota, idle, state, units, last⟩ := s
  dsimp only at *
  by_cases c1 : state = 1
  · subst c1
    by_cases c2 : quota ≤ units
    · have hx : X = 0 := by rw [hM.out, if_pos (.inr c2)]
      subst hx
      clear hM
      go_enter Try.func22, Try.ntmps22
      go_wp2
      go_ret
      exact ⟨rfl, keeps_alloc _ _⟩
    · have z1 : decide (quota ≤ units) = false := by simp; omega
      have z1' : units < quota := by omega
      obtain ⟨d, hd, hd1⟩ : ∃ d : Nat, (quota : Int) - (units : Int) = (d : Int) ∧ d = quota - units := ⟨quota - units, by omega, rfl⟩
      have hM2 : X = if price = 0 then min d 4294967296 else if (if pe = 0 then pd else 18446744073709551615) / price ≤ units then 0 else min (min d 4294967296) ((if pe = 0 then pd else 18446744073709551615) / price - units) := by rw [hM.out, if_neg (by simp; omega), hd1]
      obtain ⟨n, hn⟩ : ∃ n, n = min d 4294967296 := ⟨_, rfl⟩
      rw [← hn] at hM2
      have hnd : (d ≤ 4294967296 ∧ n = d) ∨ (4294967296 < d ∧ n = 4294967296) := by omega
      clear hd1 hn hM c2
      by_cases c3 : price = 0
      · have hx : X = n := by rw [hM2, if_pos c3]
        subst hx
        subst c3
        clear hM2
        rcases hnd with ⟨b1, rfl⟩ | ⟨b1, rfl⟩
        · go_enter Try.func22, Try.ntmps22
          go_wp2
          go_ret
          exact ⟨rfl, keeps_alloc _ _⟩
        · go_enter Try.func22, Try.ntmps22
          go_wp2
          go_ret
          exact ⟨rfl, keeps_alloc _ _⟩
      · have hp : 0 < price := Nat.pos_of_ne_zero c3
        have z3 : ((price : Int) == 0) = false := by rw [beq_eq_false_iff_ne]; omega
        rw [if_neg c3] at hM2
        obtain ⟨paid, hpd⟩ : ∃ x, x = if pe = 0 then pd else 18446744073709551615 := ⟨_, rfl⟩
        rw [← hpd] at hM2
        obtain ⟨al, hal, hal1⟩ : ∃ x : Nat, IntKind.u64.wrap ((paid : Int) / (price : Int)) = (x : Int) ∧ x = paid / price := ⟨paid / price, wrap_nat _ (Nat.lt_of_le_of_lt (Nat.div_le_self _ _) (by rw [hpd]; split <;> omega)), rfl⟩
        rw [← hal1] at hM2
        have halb : al ≤ 18446744073709551615 := by
          have h1 : paid / price ≤ paid := Nat.div_le_self _ _
          have h2 : paid ≤ 18446744073709551615 := by rw [hpd]; split <;> omega
          omega
        clear hal1 c3
        have mainw : ∀ (paid : Nat), IntKind.u64.wrap ((paid : Int) / (price : Int)) = (al : Int) → (pe = 0 ∧ paid = pd ∨ pe ≠ 0 ∧ paid = 18446744073709551615) →
            Calls Try.prog 22 #[.agg #[.int .u64 price, .int .u64 limit, .int .u64 quota, .int .i64 idle, .int .i64 1, .int .u64 units, .int .i64 last], .int .u64 credit] w fun e w' => e = .returned (.int .u64 (X : Nat)) ∧ Keeps [] w w' := by
          intro paid hal hcase
          by_cases c4 : al ≤ units
          · have hx : X = 0 := by rw [hM2, if_pos c4]
            subst hx
            clear hM2
            rcases hcase with ⟨rfl, rfl⟩ | ⟨hpe, rfl⟩
            · rcases hnd with ⟨b1, rfl⟩ | ⟨b1, rfl⟩
              · go_enter Try.func22, Try.ntmps22
                go_wp2_with fail
                refine (A _).mono ?_
                rintro e w' ⟨rfl, rfl⟩
                go_wp2
                go_ret
                exact ⟨rfl, keeps_alloc _ _⟩
              · go_enter Try.func22, Try.ntmps22
                go_wp2_with fail
                refine (A _).mono ?_
                rintro e w' ⟨rfl, rfl⟩
                go_wp2
                go_ret
                exact ⟨rfl, keeps_alloc _ _⟩
            · have hpb : (pe != 0) = true := by simpa using hpe
              have hal2 : (18446744073709551615 : Int) / (price : Int) = (al : Int) := by
                have e1 := Int.ediv_le_self (b := (price : Int)) (show (0 : Int) ≤ 18446744073709551615 by decide)
                have e2 := Int.ediv_nonneg (a := (18446744073709551615 : Int)) (b := (price : Int)) (by decide) (by omega)
                rw [IntKind.wrap_u64] at hal
                exact (Int.emod_eq_of_lt e2 (by omega)).symm.trans hal
              rcases hnd with ⟨b1, rfl⟩ | ⟨b1, rfl⟩
              · go_enter Try.func22, Try.ntmps22
                go_wp2_with fail
                refine (A _).mono ?_
                rintro e w' ⟨rfl, rfl⟩
                go_wp2
                go_ret
                exact ⟨rfl, keeps_alloc _ _⟩
              · go_enter Try.func22, Try.ntmps22
                go_wp2_with fail
                refine (A _).mono ?_
                rintro e w' ⟨rfl, rfl⟩
                go_wp2
                go_ret
                exact ⟨rfl, keeps_alloc _ _⟩
          · have z5 : decide (al ≤ units) = false := by simp; omega
            have z6 : units < al := by omega
            obtain ⟨y, hy, hy1⟩ : ∃ x : Nat, (al : Int) - (units : Int) = (x : Int) ∧ x = al - units := ⟨al - units, by omega, rfl⟩
            rw [if_neg c4, ← hy1] at hM2
            clear hy1 c4
            have hnx : (n ≤ y ∧ X = n) ∨ (y < n ∧ X = y) := by omega
            clear hM2
            rcases hcase with ⟨rfl, rfl⟩ | ⟨hpe, rfl⟩
            · rcases hnd with ⟨b1, rfl⟩ | ⟨b1, rfl⟩
              · rcases hnx with ⟨b2, rfl⟩ | ⟨b2, rfl⟩
                · go_enter Try.func22, Try.ntmps22
                  go_wp2_with fail
                  refine (A _).mono ?_
                  rintro e w' ⟨rfl, rfl⟩
                  go_wp2
                  go_ret
                  exact ⟨rfl, keeps_alloc _ _⟩
                · go_enter Try.func22, Try.ntmps22
                  go_wp2_with fail
                  refine (A _).mono ?_
                  rintro e w' ⟨rfl, rfl⟩
                  go_wp2
                  go_ret
                  exact ⟨rfl, keeps_alloc _ _⟩
              · rcases hnx with ⟨b2, rfl⟩ | ⟨b2, rfl⟩
                · go_enter Try.func22, Try.ntmps22
                  go_wp2_with fail
                  refine (A _).mono ?_
                  rintro e w' ⟨rfl, rfl⟩
                  go_wp2
                  go_ret
                  exact ⟨rfl, keeps_alloc _ _⟩
                · go_enter Try.func22, Try.ntmps22
                  go_wp2_with fail
                  refine (A _).mono ?_
                  rintro e w' ⟨rfl, rfl⟩
                  go_wp2
                  go_ret
                  exact ⟨rfl, keeps_alloc _ _⟩
            · have hpb : (pe != 0) = true := by simpa using hpe
              have hal2 : (18446744073709551615 : Int) / (price : Int) = (al : Int) := by
                have e1 := Int.ediv_le_self (b := (price : Int)) (show (0 : Int) ≤ 18446744073709551615 by decide)
                have e2 := Int.ediv_nonneg (a := (18446744073709551615 : Int)) (b := (price : Int)) (by decide) (by omega)
                rw [IntKind.wrap_u64] at hal
                exact (Int.emod_eq_of_lt e2 (by omega)).symm.trans hal
              rcases hnd with ⟨b1, rfl⟩ | ⟨b1, rfl⟩
              · rcases hnx with ⟨b2, rfl⟩ | ⟨b2, rfl⟩
                · go_enter Try.func22, Try.ntmps22
                  go_wp2_with fail
                  refine (A _).mono ?_
                  rintro e w' ⟨rfl, rfl⟩
                  go_wp2
                  go_ret
                  exact ⟨rfl, keeps_alloc _ _⟩
                · go_enter Try.func22, Try.ntmps22
                  go_wp2_with fail
                  refine (A _).mono ?_
                  rintro e w' ⟨rfl, rfl⟩
                  go_wp2
                  go_ret
                  exact ⟨rfl, keeps_alloc _ _⟩
              · rcases hnx with ⟨b2, rfl⟩ | ⟨b2, rfl⟩
                · go_enter Try.func22, Try.ntmps22
                  go_wp2_with fail
                  refine (A _).mono ?_
                  rintro e w' ⟨rfl, rfl⟩
                  go_wp2
                  go_ret
                  exact ⟨rfl, keeps_alloc _ _⟩
                · go_enter Try.func22, Try.ntmps22
                  go_wp2_with fail
                  refine (A _).mono ?_
                  rintro e w' ⟨rfl, rfl⟩
                  go_wp2
                  go_ret
                  exact ⟨rfl, keeps_alloc _ _⟩
        refine mainw paid hal ?_
        by_cases h : pe = 0
        · exact .inl ⟨h, by rw [hpd, if_pos h]⟩
        · exact .inr ⟨h, by rw [hpd, if_neg h]⟩
  · have hx : X = 0 := by rw [hM.out, if_pos (.inl c1)]
    have hb : (state != 1) = true := by simpa using c1
    subst hx
    clear hM
    go_enter Try.func22, Try.ntmps22
    go_wp2
    go_ret
    exact ⟨rfl, keeps_alloc _ _⟩
end Go.Proofs.Ytimbngaadgkeaaa
