/-
  The reference's New and Grant.
-/
import Derived.Test.YtimbngaadgkeaaaRefMeterB
namespace Go.Proofs.Ytimbngaadgkeaaa
open Go.RowKit

set_option maxHeartbeats 4000000 in
theorem rgrant_c {w : World} (s : Sess) (units credit : Nat) (now : Int) (hs : s.Ok) (hu : units ≤ 18446744073709551615) (hc : credit ≤ 18446744073709551615) (_hn : inI64 now) :
    Calls Try.prog 11 #[.agg #[.int .u64 s.price, .int .u64 s.limit, .int .u64 s.quota, .int .i64 s.idle, .int .i64 s.state, .int .u64 s.units, .int .i64 s.last], .int .u64 units, .int .u64 credit, .int .i64 now] w fun e w' => e = .returned (.tuple #[.agg #[.int .u64 ((mGrant s units credit now).1).price, .int .u64 ((mGrant s units credit now).1).limit, .int .u64 ((mGrant s units credit now).1).quota, .int .i64 ((mGrant s units credit now).1).idle, .int .i64 ((mGrant s units credit now).1).state, .int .u64 ((mGrant s units credit now).1).units, .int .i64 ((mGrant s units credit now).1).last], .int .i64 (mGrant s units credit now).2]) ∧ Keeps [] w w' := by
  have A := fun w => radd_c (w := w) s.units units hs.units hu
  have C := fun w => rmul_c (w := w) s.price (nAdd s.units units).1 hs.price (nAdd_le _ _)
  have hall := nAdd_le s.units units
  have hcost := nMul_le s.price (nAdd s.units units).1
  have hP : (nAdd credit s.limit = (credit + s.limit, 0) ∧ credit + s.limit < 18446744073709551616) ∨ (nAdd credit s.limit = (0, 2) ∧ 18446744073709551616 ≤ credit + s.limit) := by
    by_cases h : credit + s.limit < 18446744073709551616
    · exact .inl ⟨if_pos h, h⟩
    · exact .inr ⟨if_neg h, by omega⟩
  have h2 := hs.limit
  have herr : (nMul s.price (nAdd s.units units).1).2 = 0 ∨ (nMul s.price (nAdd s.units units).1).2 = 2 := by unfold nMul; split <;> simp
  unfold mGrant
  generalize (nAdd s.units units).1 = all at *
  generalize (nAdd s.units units).2 = over at *
  generalize (nMul s.price all).1 = cost at *
  generalize (nMul s.price all).2 = er at *
  obtain ⟨price, limit, quota, idle, state, un, last⟩ := s
  dsimp only at *
  by_cases c1 : state = 1
  · subst c1
    have n1 : ¬ (1 : Int) ≠ 1 := by simp
    by_cases c2 : units = 0 ∨ 4294967296 < units ∨ now < last
    · have R : ∀ paid f, gRaw ⟨price, limit, quota, idle, 1, un, last⟩ units now all over cost er paid f = (.zero, 1) := fun paid f => by rw [gRaw, if_neg n1, if_pos c2]
      rw [R]
      by_cases z : units = 0
      · subst z
        dsimp only [Sess.zero]
        clear R hP
        go_enter Try.func11, Try.ntmps11
        go_wp2
        refine bodyPost_ret (v := .tuple #[.agg #[.int .u64 ((0 : Nat) : Int), .int .u64 ((0 : Nat) : Int), .int .u64 ((0 : Nat) : Int), .int .i64 0, .int .i64 0, .int .u64 ((0 : Nat) : Int), .int .i64 0], .int .i64 1]) (by simp [results, Try.results11, go_sem]) rfl ⟨rfl, ?_⟩
        exact ((Keeps.refl _ _).alloc _).alloc _
      have z0 : ¬ units < 1 := by omega
      have z0' : 0 < units := by omega
      by_cases z1 : 4294967296 < units
      · dsimp only [Sess.zero]
        clear R hP
        go_enter Try.func11, Try.ntmps11
        go_wp2
        refine bodyPost_ret (v := .tuple #[.agg #[.int .u64 ((0 : Nat) : Int), .int .u64 ((0 : Nat) : Int), .int .u64 ((0 : Nat) : Int), .int .i64 0, .int .i64 0, .int .u64 ((0 : Nat) : Int), .int .i64 0], .int .i64 1]) (by simp [results, Try.results11, go_sem]) rfl ⟨rfl, ?_⟩
        exact ((Keeps.refl _ _).alloc _).alloc _
      have z2 : ¬ 4294967296 < units := z1
      have z3 : now < last := by omega
      dsimp only [Sess.zero]
      clear R hP
      go_enter Try.func11, Try.ntmps11
      go_wp2
      refine bodyPost_ret (v := .tuple #[.agg #[.int .u64 ((0 : Nat) : Int), .int .u64 ((0 : Nat) : Int), .int .u64 ((0 : Nat) : Int), .int .i64 0, .int .i64 0, .int .u64 ((0 : Nat) : Int), .int .i64 0], .int .i64 1]) (by simp [results, Try.results11, go_sem]) rfl ⟨rfl, ?_⟩
      exact ((Keeps.refl _ _).alloc _).alloc _
    · have z0' : 0 < units := by omega
      have z2 : decide ((4294967296 : Int) < (units : Int)) = false := by simp; omega
      have z3 : decide (now < last) = false := by simp; omega
      by_cases c3 : over = 0
      · subst c3
        by_cases c4 : quota < all
        · have R : ∀ paid f, gRaw ⟨price, limit, quota, idle, 1, un, last⟩ units now all 0 cost er paid f = (.zero, 9) := fun paid f => by rw [gRaw, if_neg n1, if_neg c2, if_pos (.inr c4)]
          rw [R]
          dsimp only [Sess.zero]
          clear R hP
          go_enter Try.func11, Try.ntmps11
          go_wp2_with fail
          refine (A _).mono ?_
          rintro e w' ⟨rfl, rfl⟩
          go_wp2
          refine bodyPost_ret (v := .tuple #[.agg #[.int .u64 ((0 : Nat) : Int), .int .u64 ((0 : Nat) : Int), .int .u64 ((0 : Nat) : Int), .int .i64 0, .int .i64 0, .int .u64 ((0 : Nat) : Int), .int .i64 0], .int .i64 9]) (by simp [results, Try.results11, go_sem]) rfl ⟨rfl, ?_⟩
          exact ((Keeps.refl _ _).alloc _).alloc _
        · have n3 : ¬ ((0 : Int) ≠ 0 ∨ quota < all) := by simp; omega
          have z4 : decide ((quota : Int) < (all : Int)) = false := by simp; omega
          rcases herr with rfl | rfl
          · have n4 : ¬ (0 : Int) ≠ 0 := by simp
            by_cases c5 : limit < cost
            · obtain ⟨d, hd, hd1⟩ : ∃ d : Nat, (cost : Int) - (limit : Int) = (d : Int) ∧ d = cost - limit := ⟨cost - limit, by omega, rfl⟩
              by_cases c6 : credit < d
              · have R : gRaw ⟨price, limit, quota, idle, 1, un, last⟩ units now all 0 cost 0 (nAdd credit limit).1 (nAdd credit limit).2 = (.zero, 11) := by
                  rcases hP with ⟨e, h⟩ | ⟨e, h⟩
                  · rw [e, gRaw, if_neg n1, if_neg c2, if_neg n3, if_neg n4, if_pos ⟨rfl, by show credit + limit < cost; omega⟩]
                  · omega
                rw [R]
                dsimp only [Sess.zero]
                clear R hP
                go_enter Try.func11, Try.ntmps11
                go_wp2_with fail
                refine (A _).mono ?_
                rintro e w' ⟨rfl, rfl⟩
                go_wp2_with fail
                refine (C _).mono ?_
                rintro e w' ⟨rfl, rfl⟩
                go_wp2
                refine bodyPost_ret (v := .tuple #[.agg #[.int .u64 ((0 : Nat) : Int), .int .u64 ((0 : Nat) : Int), .int .u64 ((0 : Nat) : Int), .int .i64 0, .int .i64 0, .int .u64 ((0 : Nat) : Int), .int .i64 0], .int .i64 11]) (by simp [results, Try.results11, go_sem]) rfl ⟨rfl, ?_⟩
                exact ((Keeps.refl _ _).alloc _).alloc _
              · have R : gRaw ⟨price, limit, quota, idle, 1, un, last⟩ units now all 0 cost 0 (nAdd credit limit).1 (nAdd credit limit).2 = (⟨price, limit, quota, idle, 1, all, now⟩, 0) := by
                  rcases hP with ⟨e, h⟩ | ⟨e, h⟩
                  · rw [e, gRaw, if_neg n1, if_neg c2, if_neg n3, if_neg n4, if_neg (fun h => by have := h.2; simp at this; omega)]
                  · rw [e, gRaw, if_neg n1, if_neg c2, if_neg n3, if_neg n4, if_neg (fun h => by have := h.1; simp at this)]
                have z6 : decide (credit < d) = false := by simp; omega
                rw [R]
                dsimp only
                clear R hP
                go_enter Try.func11, Try.ntmps11
                go_wp2_with fail
                refine (A _).mono ?_
                rintro e w' ⟨rfl, rfl⟩
                go_wp2_with fail
                refine (C _).mono ?_
                rintro e w' ⟨rfl, rfl⟩
                go_wp2
                refine bodyPost_ret (v := .tuple #[.agg #[.int .u64 price, .int .u64 limit, .int .u64 quota, .int .i64 idle, .int .i64 1, .int .u64 all, .int .i64 now], .int .i64 0]) (by simp [results, Try.results11, go_sem]) rfl ⟨rfl, ?_⟩
                exact ((Keeps.refl _ _).alloc _).alloc _
            · have R : gRaw ⟨price, limit, quota, idle, 1, un, last⟩ units now all 0 cost 0 (nAdd credit limit).1 (nAdd credit limit).2 = (⟨price, limit, quota, idle, 1, all, now⟩, 0) := by
                rcases hP with ⟨e, h⟩ | ⟨e, h⟩
                · rw [e, gRaw, if_neg n1, if_neg c2, if_neg n3, if_neg n4, if_neg (fun h => by have := h.2; simp at this; omega)]
                · rw [e, gRaw, if_neg n1, if_neg c2, if_neg n3, if_neg n4, if_neg (fun h => by have := h.1; simp at this)]
              have z5 : decide ((limit : Int) < (cost : Int)) = false := by simp; omega
              rw [R]
              dsimp only
              clear R hP
              go_enter Try.func11, Try.ntmps11
              go_wp2_with fail
              refine (A _).mono ?_
              rintro e w' ⟨rfl, rfl⟩
              go_wp2_with fail
              refine (C _).mono ?_
              rintro e w' ⟨rfl, rfl⟩
              go_wp2
              refine bodyPost_ret (v := .tuple #[.agg #[.int .u64 price, .int .u64 limit, .int .u64 quota, .int .i64 idle, .int .i64 1, .int .u64 all, .int .i64 now], .int .i64 0]) (by simp [results, Try.results11, go_sem]) rfl ⟨rfl, ?_⟩
              exact ((Keeps.refl _ _).alloc _).alloc _
          · have R : ∀ paid f, gRaw ⟨price, limit, quota, idle, 1, un, last⟩ units now all 0 cost 2 paid f = (.zero, 2) := fun paid f => by rw [gRaw, if_neg n1, if_neg c2, if_neg n3, if_pos (by decide)]
            rw [R]
            dsimp only [Sess.zero]
            clear R hP
            go_enter Try.func11, Try.ntmps11
            go_wp2_with fail
            refine (A _).mono ?_
            rintro e w' ⟨rfl, rfl⟩
            go_wp2_with fail
            refine (C _).mono ?_
            rintro e w' ⟨rfl, rfl⟩
            go_wp2
            refine bodyPost_ret (v := .tuple #[.agg #[.int .u64 ((0 : Nat) : Int), .int .u64 ((0 : Nat) : Int), .int .u64 ((0 : Nat) : Int), .int .i64 0, .int .i64 0, .int .u64 ((0 : Nat) : Int), .int .i64 0], .int .i64 2]) (by simp [results, Try.results11, go_sem]) rfl ⟨rfl, ?_⟩
            exact ((Keeps.refl _ _).alloc _).alloc _
      · have R : ∀ paid f, gRaw ⟨price, limit, quota, idle, 1, un, last⟩ units now all over cost er paid f = (.zero, 9) := fun paid f => by rw [gRaw, if_neg n1, if_neg c2, if_pos (.inl c3)]
        have z4 : (over != 0) = true := by simpa using c3
        rw [R]
        dsimp only [Sess.zero]
        clear R hP
        go_enter Try.func11, Try.ntmps11
        go_wp2_with fail
        refine (A _).mono ?_
        rintro e w' ⟨rfl, rfl⟩
        go_wp2
        refine bodyPost_ret (v := .tuple #[.agg #[.int .u64 ((0 : Nat) : Int), .int .u64 ((0 : Nat) : Int), .int .u64 ((0 : Nat) : Int), .int .i64 0, .int .i64 0, .int .u64 ((0 : Nat) : Int), .int .i64 0], .int .i64 9]) (by simp [results, Try.results11, go_sem]) rfl ⟨rfl, ?_⟩
        exact ((Keeps.refl _ _).alloc _).alloc _
  · have R : ∀ paid f, gRaw ⟨price, limit, quota, idle, state, un, last⟩ units now all over cost er paid f = (.zero, 8) := fun paid f => if_pos c1
    have z4 : (state != 1) = true := by simpa using c1
    rw [R]
    dsimp only [Sess.zero]
    clear R hP
    go_enter Try.func11, Try.ntmps11
    go_wp2
    refine bodyPost_ret (v := .tuple #[.agg #[.int .u64 ((0 : Nat) : Int), .int .u64 ((0 : Nat) : Int), .int .u64 ((0 : Nat) : Int), .int .i64 0, .int .i64 0, .int .u64 ((0 : Nat) : Int), .int .i64 0], .int .i64 8]) (by simp [results, Try.results11, go_sem]) rfl ⟨rfl, ?_⟩
    exact ((Keeps.refl _ _).alloc _).alloc _
end Go.Proofs.Ytimbngaadgkeaaa
