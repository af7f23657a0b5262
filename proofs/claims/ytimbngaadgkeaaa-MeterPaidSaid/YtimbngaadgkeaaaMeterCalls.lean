/-
  The laws' own calls: pause, resume, grant.
-/
import Derived.Test.YtimbngaadgkeaaaMeterGrant
namespace Go.Proofs.Ytimbngaadgkeaaa
open Go.RowKit

set_option maxHeartbeats 4000000 in
theorem pause_l {w : World} (s : Sess) (hs : s.Ok) :
    Calls Try.prog 26 #[.agg #[.int .u64 s.price, .int .u64 s.limit, .int .u64 s.quota, .int .i64 s.idle, .int .i64 s.state, .int .u64 s.units, .int .i64 s.last]] w fun e w' => e = .returned (.tuple #[.agg #[.int .u64 ((mPause s).1).price, .int .u64 ((mPause s).1).limit, .int .u64 ((mPause s).1).quota, .int .i64 ((mPause s).1).idle, .int .i64 ((mPause s).1).state, .int .u64 ((mPause s).1).units, .int .i64 ((mPause s).1).last], .int .i64 (mPause s).2]) ∧ Keeps [] w w' := by
  have C := fun w => pause_c (w := w) s hs
  generalize mPause s = r at *
  obtain ⟨t, e⟩ := r
  dsimp only at *
  go_enter Try.func26, Try.ntmps26
  go_wp2_with fail
  refine (C _).mono ?_
  rintro e w1 ⟨rfl, k1⟩
  have F := grant_facts k1
  obtain ⟨_, _, _, _, _, _, _, _, r0, r1, r2, r3, r4, r5, r6, rf⟩ := F
  have K0 := (((Keeps.refl [] w).alloc _).alloc _).trans k1
  go_wp2
  refine bodyPost_ret (v := .tuple #[.agg #[.int .u64 t.price, .int .u64 t.limit, .int .u64 t.quota, .int .i64 t.idle, .int .i64 t.state, .int .u64 t.units, .int .i64 t.last], .int .i64 e]) (by simp [results, Try.results26, go_sem, r0, r1, r2, r3, r4, r5, r6, World.cell?_setCell_other]) rfl ⟨rfl, ?_⟩
  exact (((((((K0.setCell (.inr (by simp)) _).setCell (.inr (by simp)) _).setCell (.inr (by simp)) _).setCell (.inr (by simp)) _).setCell (.inr (by simp)) _).setCell (.inr (by simp)) _).setCell (.inr (by simp)) _)

set_option maxHeartbeats 4000000 in
theorem resume_l {w : World} (s : Sess) (now : Int) (hs : s.Ok) (hn : inI64 now) :
    Calls Try.prog 27 #[.agg #[.int .u64 s.price, .int .u64 s.limit, .int .u64 s.quota, .int .i64 s.idle, .int .i64 s.state, .int .u64 s.units, .int .i64 s.last], .int .i64 now] w fun e w' => e = .returned (.tuple #[.agg #[.int .u64 ((mResume s now).1).price, .int .u64 ((mResume s now).1).limit, .int .u64 ((mResume s now).1).quota, .int .i64 ((mResume s now).1).idle, .int .i64 ((mResume s now).1).state, .int .u64 ((mResume s now).1).units, .int .i64 ((mResume s now).1).last], .int .i64 (mResume s now).2]) ∧ Keeps [] w w' := by
  have C := fun w => resume_c (w := w) s now hs hn
  generalize mResume s now = r at *
  obtain ⟨t, e⟩ := r
  dsimp only at *
  go_enter Try.func27, Try.ntmps27
  go_wp2_with fail
  refine (C _).mono ?_
  rintro e w1 ⟨rfl, k1⟩
  have F := grant_facts k1
  obtain ⟨_, _, _, _, _, _, _, _, r0, r1, r2, r3, r4, r5, r6, rf⟩ := F
  have K0 := (((Keeps.refl [] w).alloc _).alloc _).trans k1
  go_wp2
  refine bodyPost_ret (v := .tuple #[.agg #[.int .u64 t.price, .int .u64 t.limit, .int .u64 t.quota, .int .i64 t.idle, .int .i64 t.state, .int .u64 t.units, .int .i64 t.last], .int .i64 e]) (by simp [results, Try.results27, go_sem, r0, r1, r2, r3, r4, r5, r6, World.cell?_setCell_other]) rfl ⟨rfl, ?_⟩
  exact (((((((K0.setCell (.inr (by simp)) _).setCell (.inr (by simp)) _).setCell (.inr (by simp)) _).setCell (.inr (by simp)) _).setCell (.inr (by simp)) _).setCell (.inr (by simp)) _).setCell (.inr (by simp)) _)

set_option maxHeartbeats 4000000 in
theorem grant_l {w : World} (s : Sess) (units credit : Nat) (now : Int) (hs : s.Ok) (hu : units ≤ 18446744073709551615) (hc : credit ≤ 18446744073709551615) (hn : inI64 now) :
    Calls Try.prog 28 #[.agg #[.int .u64 s.price, .int .u64 s.limit, .int .u64 s.quota, .int .i64 s.idle, .int .i64 s.state, .int .u64 s.units, .int .i64 s.last], .int .u64 units, .int .u64 credit, .int .i64 now] w fun e w' => e = .returned (.tuple #[.agg #[.int .u64 ((mGrant s units credit now).1).price, .int .u64 ((mGrant s units credit now).1).limit, .int .u64 ((mGrant s units credit now).1).quota, .int .i64 ((mGrant s units credit now).1).idle, .int .i64 ((mGrant s units credit now).1).state, .int .u64 ((mGrant s units credit now).1).units, .int .i64 ((mGrant s units credit now).1).last], .int .i64 (mGrant s units credit now).2]) ∧ Keeps [] w w' := by
  have C := fun w => grant_c (w := w) s units credit now hs hu hc hn
  generalize mGrant s units credit now = r at *
  obtain ⟨t, e⟩ := r
  dsimp only at *
  go_enter Try.func28, Try.ntmps28
  go_wp2_with fail
  refine (C _).mono ?_
  rintro e w1 ⟨rfl, k1⟩
  have F := grant_facts k1
  obtain ⟨_, _, _, _, _, _, _, _, r0, r1, r2, r3, r4, r5, r6, rf⟩ := F
  have K0 := (((Keeps.refl [] w).alloc _).alloc _).trans k1
  go_wp2
  refine bodyPost_ret (v := .tuple #[.agg #[.int .u64 t.price, .int .u64 t.limit, .int .u64 t.quota, .int .i64 t.idle, .int .i64 t.state, .int .u64 t.units, .int .i64 t.last], .int .i64 e]) (by simp [results, Try.results28, go_sem, r0, r1, r2, r3, r4, r5, r6, World.cell?_setCell_other]) rfl ⟨rfl, ?_⟩
  exact (((((((K0.setCell (.inr (by simp)) _).setCell (.inr (by simp)) _).setCell (.inr (by simp)) _).setCell (.inr (by simp)) _).setCell (.inr (by simp)) _).setCell (.inr (by simp)) _).setCell (.inr (by simp)) _)
end Go.Proofs.Ytimbngaadgkeaaa
