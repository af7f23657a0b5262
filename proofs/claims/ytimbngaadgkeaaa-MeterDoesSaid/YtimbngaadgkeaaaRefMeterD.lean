/-
  The reference's New.
-/
import Derived.Test.YtimbngaadgkeaaaRefMeterB
namespace Go.Proofs.Ytimbngaadgkeaaa
open Go.RowKit

set_option maxHeartbeats 4000000 in
theorem rnew_c {w : World} (price limit quota : Nat) (idle now : Int) (_hp : price ≤ 18446744073709551615) (_hl : limit ≤ 18446744073709551615) (_hq : quota ≤ 18446744073709551615) (_hi : inI64 idle) (_hn : inI64 now) :
    Calls Try.prog 14 #[.int .u64 price, .int .u64 limit, .int .u64 quota, .int .i64 idle, .int .i64 now] w fun e w' => e = .returned (.tuple #[.agg #[.int .u64 ((mNew price limit quota idle now).1).price, .int .u64 ((mNew price limit quota idle now).1).limit, .int .u64 ((mNew price limit quota idle now).1).quota, .int .i64 ((mNew price limit quota idle now).1).idle, .int .i64 ((mNew price limit quota idle now).1).state, .int .u64 ((mNew price limit quota idle now).1).units, .int .i64 ((mNew price limit quota idle now).1).last], .int .i64 (mNew price limit quota idle now).2]) ∧ Keeps [] w w' := by
  have bad : ¬ mNewOk price limit quota idle now → mNew price limit quota idle now = (.zero, 1) := fun h => if_neg h
  by_cases b0 : price < 1
  · have z : price = 0 := by omega
    rw [bad (fun k => by have := k; unfold mNewOk at this; omega)]
    dsimp only [Sess.zero]
    subst z
    clear bad
    go_enter Try.func14, Try.ntmps14
    go_wp2
    refine bodyPost_ret (v := .tuple #[.agg #[.int .u64 ((0 : Nat) : Int), .int .u64 ((0 : Nat) : Int), .int .u64 ((0 : Nat) : Int), .int .i64 0, .int .i64 0, .int .u64 ((0 : Nat) : Int), .int .i64 0], .int .i64 1]) (by simp [results, Try.results14, go_sem]) rfl ⟨rfl, ?_⟩
    exact (Keeps.refl _ _).alloc _
  have z0 : decide ((price : Int) < 1) = false := by simp; omega
  by_cases b1 : 4294967296 < price
  · rw [bad (fun k => by have := k; unfold mNewOk at this; omega)]
    dsimp only [Sess.zero]
    clear bad
    go_enter Try.func14, Try.ntmps14
    go_wp2
    refine bodyPost_ret (v := .tuple #[.agg #[.int .u64 ((0 : Nat) : Int), .int .u64 ((0 : Nat) : Int), .int .u64 ((0 : Nat) : Int), .int .i64 0, .int .i64 0, .int .u64 ((0 : Nat) : Int), .int .i64 0], .int .i64 1]) (by simp [results, Try.results14, go_sem]) rfl ⟨rfl, ?_⟩
    exact (Keeps.refl _ _).alloc _
  have z1 : decide ((4294967296 : Int) < (price : Int)) = false := by simp; omega
  by_cases b2 : 4611686018427387904 < limit
  · rw [bad (fun k => by have := k; unfold mNewOk at this; omega)]
    dsimp only [Sess.zero]
    clear bad
    go_enter Try.func14, Try.ntmps14
    go_wp2
    refine bodyPost_ret (v := .tuple #[.agg #[.int .u64 ((0 : Nat) : Int), .int .u64 ((0 : Nat) : Int), .int .u64 ((0 : Nat) : Int), .int .i64 0, .int .i64 0, .int .u64 ((0 : Nat) : Int), .int .i64 0], .int .i64 1]) (by simp [results, Try.results14, go_sem]) rfl ⟨rfl, ?_⟩
    exact (Keeps.refl _ _).alloc _
  have z2 : decide ((4611686018427387904 : Int) < (limit : Int)) = false := by simp; omega
  by_cases b3 : quota < 1
  · have z : quota = 0 := by omega
    rw [bad (fun k => by have := k; unfold mNewOk at this; omega)]
    dsimp only [Sess.zero]
    subst z
    clear bad
    go_enter Try.func14, Try.ntmps14
    go_wp2
    refine bodyPost_ret (v := .tuple #[.agg #[.int .u64 ((0 : Nat) : Int), .int .u64 ((0 : Nat) : Int), .int .u64 ((0 : Nat) : Int), .int .i64 0, .int .i64 0, .int .u64 ((0 : Nat) : Int), .int .i64 0], .int .i64 1]) (by simp [results, Try.results14, go_sem]) rfl ⟨rfl, ?_⟩
    exact (Keeps.refl _ _).alloc _
  have z3 : decide ((quota : Int) < 1) = false := by simp; omega
  by_cases b4 : 4294967296 < quota
  · rw [bad (fun k => by have := k; unfold mNewOk at this; omega)]
    dsimp only [Sess.zero]
    clear bad
    go_enter Try.func14, Try.ntmps14
    go_wp2
    refine bodyPost_ret (v := .tuple #[.agg #[.int .u64 ((0 : Nat) : Int), .int .u64 ((0 : Nat) : Int), .int .u64 ((0 : Nat) : Int), .int .i64 0, .int .i64 0, .int .u64 ((0 : Nat) : Int), .int .i64 0], .int .i64 1]) (by simp [results, Try.results14, go_sem]) rfl ⟨rfl, ?_⟩
    exact (Keeps.refl _ _).alloc _
  have z4 : decide ((4294967296 : Int) < (quota : Int)) = false := by simp; omega
  by_cases b5 : idle < 1
  · rw [bad (fun k => by have := k; unfold mNewOk at this; omega)]
    dsimp only [Sess.zero]
    clear bad
    go_enter Try.func14, Try.ntmps14
    go_wp2
    refine bodyPost_ret (v := .tuple #[.agg #[.int .u64 ((0 : Nat) : Int), .int .u64 ((0 : Nat) : Int), .int .u64 ((0 : Nat) : Int), .int .i64 0, .int .i64 0, .int .u64 ((0 : Nat) : Int), .int .i64 0], .int .i64 1]) (by simp [results, Try.results14, go_sem]) rfl ⟨rfl, ?_⟩
    exact (Keeps.refl _ _).alloc _
  have z5 : decide (idle < 1) = false := by simp; omega
  by_cases b6 : 4294967296 < idle
  · rw [bad (fun k => by have := k; unfold mNewOk at this; omega)]
    dsimp only [Sess.zero]
    clear bad
    go_enter Try.func14, Try.ntmps14
    go_wp2
    refine bodyPost_ret (v := .tuple #[.agg #[.int .u64 ((0 : Nat) : Int), .int .u64 ((0 : Nat) : Int), .int .u64 ((0 : Nat) : Int), .int .i64 0, .int .i64 0, .int .u64 ((0 : Nat) : Int), .int .i64 0], .int .i64 1]) (by simp [results, Try.results14, go_sem]) rfl ⟨rfl, ?_⟩
    exact (Keeps.refl _ _).alloc _
  have z6 : decide (4294967296 < idle) = false := by simp; omega
  by_cases b7 : now < 0
  · rw [bad (fun k => by have := k; unfold mNewOk at this; omega)]
    dsimp only [Sess.zero]
    clear bad
    go_enter Try.func14, Try.ntmps14
    go_wp2
    refine bodyPost_ret (v := .tuple #[.agg #[.int .u64 ((0 : Nat) : Int), .int .u64 ((0 : Nat) : Int), .int .u64 ((0 : Nat) : Int), .int .i64 0, .int .i64 0, .int .u64 ((0 : Nat) : Int), .int .i64 0], .int .i64 1]) (by simp [results, Try.results14, go_sem]) rfl ⟨rfl, ?_⟩
    exact (Keeps.refl _ _).alloc _
  have z7 : decide (now < 0) = false := by simp; omega
  have R : mNew price limit quota idle now = (⟨price, limit, quota, idle, 1, 0, now⟩, 0) := if_pos ⟨by omega, by omega, by omega, by omega, by omega, by omega, by omega, by omega⟩
  rw [R]
  dsimp only
  clear R bad
  go_enter Try.func14, Try.ntmps14
  go_wp2
  refine bodyPost_ret (v := .tuple #[.agg #[.int .u64 price, .int .u64 limit, .int .u64 quota, .int .i64 idle, .int .i64 1, .int .u64 ((0 : Nat) : Int), .int .i64 now], .int .i64 0]) (by simp [results, Try.results14, go_sem]) rfl ⟨rfl, ?_⟩
  exact (Keeps.refl _ _).alloc _
end Go.Proofs.Ytimbngaadgkeaaa
