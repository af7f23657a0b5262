/-
  The contracts of package meter.
-/
import Derived.Test.YtimbngaadgkeaaaSess
namespace Go.Proofs.Ytimbngaadgkeaaa
open Go.RowKit

theorem keeps_alloc (w : World) (o : Obj) : Keeps [] w (w.alloc o) := (Keeps.refl _ _).alloc _

theorem cost_c {w : World} (s : Sess) (n : Nat) (hs : s.Ok) (hn : n ≤ 18446744073709551615) :
    Calls Try.prog 29 #[.agg #[.int .u64 s.price, .int .u64 s.limit, .int .u64 s.quota, .int .i64 s.idle, .int .i64 s.state, .int .u64 s.units, .int .i64 s.last], .int .u64 n] w fun e w' => e = .returned (.tuple #[.int .u64 (nMul s.price n).1, .int .i64 (nMul s.price n).2]) ∧ Keeps [] w w' := by
  have M := fun w => mul_c (w := w) s.price n hs.price hn
  generalize (nMul s.price n).1 = x at *
  generalize (nMul s.price n).2 = y at *
  go_enter Try.func29, Try.ntmps29
  go_wp2_with fail
  refine (M _).mono ?_
  rintro e w' ⟨rfl, rfl⟩
  go_wp2
  go_ret2
  exact ⟨rfl, keeps_alloc _ _⟩

set_option maxHeartbeats 1000000 in
theorem tick_c {w : World} (s : Sess) (now : Int) (hs : s.Ok) (hn : inI64 now) :
    Calls Try.prog 25 #[.agg #[.int .u64 s.price, .int .u64 s.limit, .int .u64 s.quota, .int .i64 s.idle, .int .i64 s.state, .int .u64 s.units, .int .i64 s.last], .int .i64 now] w fun e w' => e = .returned (.agg #[.int .u64 ((mTick s now)).price, .int .u64 ((mTick s now)).limit, .int .u64 ((mTick s now)).quota, .int .i64 ((mTick s now)).idle, .int .i64 ((mTick s now)).state, .int .u64 ((mTick s now)).units, .int .i64 ((mTick s now)).last]) ∧ Keeps [] w w' := by
  obtain ⟨h1, h2, h3, h4, h5, h6, h7⟩ := hs
  obtain ⟨price, limit, quota, idle, state, units, last⟩ := s
  dsimp only at *
  obtain ⟨h41, h42⟩ := h4
  obtain ⟨h71, h72⟩ := h7
  obtain ⟨hn1, hn2⟩ := hn
  by_cases c1 : last < now
  · obtain ⟨d, hd, hd1⟩ : ∃ d : Int, IntKind.u64.wrap (IntKind.u64.wrap now - IntKind.u64.wrap last) = d ∧ d = now - last := ⟨now - last, by simp only [IntKind.wrap_u64]; omega, rfl⟩
    obtain ⟨ii, hi, hi1⟩ : ∃ ii : Int, IntKind.u64.wrap idle = ii ∧ ii = idle % 18446744073709551616 := ⟨_, IntKind.wrap_u64 idle, rfl⟩
    by_cases c2 : ii < d
    · by_cases c3 : 0 ≤ idle
      · have c4 : idle < now - last := by omega
        clear hd1 hi1
        have R : mTick ⟨price, limit, quota, idle, state, units, last⟩ now = ⟨price, limit, quota, idle, 3, units, last⟩ := if_pos ⟨c1, c3, c4⟩
        rw [R]
        dsimp only
        clear R
        go_enter Try.func25, Try.ntmps25
        go_wp2
        refine bodyPost_ret (v := .agg #[.int .u64 price, .int .u64 limit, .int .u64 quota, .int .i64 idle, .int .i64 3, .int .u64 units, .int .i64 last]) (by simp [results, Try.results25, go_sem]) rfl ⟨rfl, ?_⟩
        exact ((Keeps.refl _ _).alloc _).alloc _
      · clear hd1 hi1
        have R : mTick ⟨price, limit, quota, idle, state, units, last⟩ now = ⟨price, limit, quota, idle, state, units, last⟩ := if_neg (fun h => c3 h.2.1)
        rw [R]
        dsimp only
        clear R
        go_enter Try.func25, Try.ntmps25
        go_wp2
        refine bodyPost_ret (v := .agg #[.int .u64 price, .int .u64 limit, .int .u64 quota, .int .i64 idle, .int .i64 state, .int .u64 units, .int .i64 last]) (by simp [results, Try.results25, go_sem]) rfl ⟨rfl, ?_⟩
        exact ((Keeps.refl _ _).alloc _).alloc _
    · have c4 : ¬ (0 ≤ idle ∧ idle < now - last) := by omega
      clear hd1 hi1
      have R : mTick ⟨price, limit, quota, idle, state, units, last⟩ now = ⟨price, limit, quota, idle, state, units, last⟩ := if_neg (fun h => c4 h.2)
      rw [R]
      dsimp only
      clear R
      go_enter Try.func25, Try.ntmps25
      go_wp2
      refine bodyPost_ret (v := .agg #[.int .u64 price, .int .u64 limit, .int .u64 quota, .int .i64 idle, .int .i64 state, .int .u64 units, .int .i64 last]) (by simp [results, Try.results25, go_sem]) rfl ⟨rfl, ?_⟩
      exact ((Keeps.refl _ _).alloc _).alloc _
  · have c5 : decide (last < now) = false := by simp; omega
    have R : mTick ⟨price, limit, quota, idle, state, units, last⟩ now = ⟨price, limit, quota, idle, state, units, last⟩ := if_neg (fun h => c1 h.1)
    rw [R]
    dsimp only
    clear R
    go_enter Try.func25, Try.ntmps25
    go_wp2
    refine bodyPost_ret (v := .agg #[.int .u64 price, .int .u64 limit, .int .u64 quota, .int .i64 idle, .int .i64 state, .int .u64 units, .int .i64 last]) (by simp [results, Try.results25, go_sem]) rfl ⟨rfl, ?_⟩
    exact ((Keeps.refl _ _).alloc _).alloc _
theorem some_c {w : World} (n : Nat) (_hn : n ≤ 18446744073709551615) :
    Calls Try.prog 33 #[.int .u64 n] w fun e w' => e = .returned (.bool (mSome n)) ∧ w = w' := by
  by_cases h1 : 1 ≤ n
  · have R : Hid (mSome n = decide ((n : Int) ≤ 4294967296)) := by
      have e : decide ((n : Int) ≤ 4294967296) = decide (n ≤ 4294967296) := decide_eq_decide.2 (by omega)
      simp [Hid, mSome, h1, e]
    go_enter Try.func33, Try.ntmps33
    go_wp2
    go_ret
    exact ⟨ret_bool R.out.symm, rfl⟩
  · have R : Hid (mSome n = false) := by simp [Hid, mSome, h1]
    have h2 : n = 0 := by omega
    subst h2
    go_enter Try.func33, Try.ntmps33
    go_wp2
    go_ret
    exact ⟨ret_bool R.out.symm, rfl⟩

theorem capped_c {w : World} (n : Nat) (e : Int) (_hn : n ≤ 18446744073709551615) :
    Calls Try.prog 34 #[.int .u64 n, .int .i64 e] w fun r w' => r = .returned (.int .u64 (mCap (n, e))) ∧ w = w' := by
  by_cases h : e = 0
  · have R : mCap (n, e) = n := by simp [mCap, h]
    rw [R]
    subst h
    clear R
    go_enter Try.func34, Try.ntmps34
    go_wp2
    go_ret
    exact ⟨rfl, rfl⟩
  · have R : mCap (n, e) = 18446744073709551615 := by simp [mCap, h]
    have hb : (e != 0) = true := by simpa using h
    rw [R]
    clear R h
    go_enter Try.func34, Try.ntmps34
    go_wp2
    go_ret
    exact ⟨rfl, rfl⟩

theorem nMul_le (a b : Nat) : (nMul a b).1 ≤ 18446744073709551615 := by unfold nMul; split <;> simp <;> omega
theorem nAdd_le (a b : Nat) : (nAdd a b).1 ≤ 18446744073709551615 := by unfold nAdd; split <;> simp <;> omega
theorem mDue_le (s : Sess) : mDue s ≤ 18446744073709551615 := by unfold mDue mCap; split; exact nMul_le _ _; omega

theorem due_c {w : World} (s : Sess) (hs : s.Ok) : Calls Try.prog 15 #[.agg #[.int .u64 s.price, .int .u64 s.limit, .int .u64 s.quota, .int .i64 s.idle, .int .i64 s.state, .int .u64 s.units, .int .i64 s.last]] w fun e w' => e = .returned (.int .u64 (mDue s)) ∧ Keeps [] w w' := by
  have C := fun w => cost_c (w := w) s s.units hs hs.units
  have P := fun w => capped_c (w := w) (nMul s.price s.units).1 (nMul s.price s.units).2 (nMul_le _ _)
  rw [show mCap ((nMul s.price s.units).1, (nMul s.price s.units).2) = mDue s from rfl] at P
  generalize (nMul s.price s.units).1 = x at *
  generalize (nMul s.price s.units).2 = y at *
  generalize mDue s = z at *
  go_enter Try.func15, Try.ntmps15
  go_wp2_with fail
  refine (C _).mono ?_
  rintro e w1 ⟨rfl, k1⟩
  go_wp2_with fail
  refine (P _).mono ?_
  rintro e w' ⟨rfl, rfl⟩
  go_wp2
  go_ret
  exact ⟨rfl, (keeps_alloc _ _).trans k1⟩

theorem owed_c {w : World} (s : Sess) (credit : Nat) (hs : s.Ok) (hc : credit ≤ 18446744073709551615) :
    Calls Try.prog 17 #[.agg #[.int .u64 s.price, .int .u64 s.limit, .int .u64 s.quota, .int .i64 s.idle, .int .i64 s.state, .int .u64 s.units, .int .i64 s.last], .int .u64 credit] w fun e w' => e = .returned (.int .u64 (mOwed s credit)) ∧ Keeps [] w w' := by
  have D := fun w => due_c (w := w) s hs
  have S := fun w => sub_c (w := w) (mDue s) credit (mDue_le s) hc
  by_cases h : credit ≤ mDue s
  · rw [nSub, if_pos h] at S
    have R : mOwed s credit = mDue s - credit := rfl
    rw [R]
    clear R
    generalize mDue s - credit = y at *
    generalize mDue s = x at *
    go_enter Try.func17, Try.ntmps17
    go_wp2_with fail
    refine (D _).mono ?_
    rintro e w1 ⟨rfl, k1⟩
    go_wp2_with fail
    refine (S _).mono ?_
    rintro e w' ⟨rfl, rfl⟩
    go_wp2
    go_ret
    exact ⟨rfl, (keeps_alloc _ _).trans k1⟩
  · rw [nSub, if_neg h] at S
    have R : mOwed s credit = 0 := by unfold mOwed; omega
    rw [R]
    clear R h
    generalize mDue s = x at *
    go_enter Try.func17, Try.ntmps17
    go_wp2_with fail
    refine (D _).mono ?_
    rintro e w1 ⟨rfl, k1⟩
    go_wp2_with fail
    refine (S _).mono ?_
    rintro e w' ⟨rfl, rfl⟩
    go_wp2
    go_ret
    exact ⟨rfl, (keeps_alloc _ _).trans k1⟩

theorem pause_c {w : World} (s : Sess) (_hs : s.Ok) :
    Calls Try.prog 23 #[.agg #[.int .u64 s.price, .int .u64 s.limit, .int .u64 s.quota, .int .i64 s.idle, .int .i64 s.state, .int .u64 s.units, .int .i64 s.last]] w fun e w' => e = .returned (.tuple #[.agg #[.int .u64 ((mPause s).1).price, .int .u64 ((mPause s).1).limit, .int .u64 ((mPause s).1).quota, .int .i64 ((mPause s).1).idle, .int .i64 ((mPause s).1).state, .int .u64 ((mPause s).1).units, .int .i64 ((mPause s).1).last], .int .i64 (mPause s).2]) ∧ Keeps [] w w' := by
  obtain ⟨price, limit, quota, idle, state, units, last⟩ := s
  by_cases h : state = 1
  · have R : mPause ⟨price, limit, quota, idle, state, units, last⟩ = (⟨price, limit, quota, idle, 2, units, last⟩, 0) := if_pos h
    rw [R]
    dsimp only
    subst h
    clear R
    go_enter Try.func23, Try.ntmps23
    go_wp2
    refine bodyPost_ret (v := .tuple #[.agg #[.int .u64 price, .int .u64 limit, .int .u64 quota, .int .i64 idle, .int .i64 2, .int .u64 units, .int .i64 last], .int .i64 0]) (by simp [results, Try.results23, go_sem]) rfl ⟨rfl, ?_⟩
    exact ((Keeps.refl _ _).alloc _).alloc _
  · have R : mPause ⟨price, limit, quota, idle, state, units, last⟩ = (.zero, 8) := if_neg h
    have hb : (state != 1) = true := by simpa using h
    rw [R]
    dsimp only [Sess.zero]
    clear R h
    go_enter Try.func23, Try.ntmps23
    go_wp2
    refine bodyPost_ret (v := .tuple #[.agg #[.int .u64 ((0 : Nat) : Int), .int .u64 ((0 : Nat) : Int), .int .u64 ((0 : Nat) : Int), .int .i64 0, .int .i64 0, .int .u64 ((0 : Nat) : Int), .int .i64 0], .int .i64 8]) (by simp [results, Try.results23, go_sem]) rfl ⟨rfl, ?_⟩
    exact ((Keeps.refl _ _).alloc _).alloc _

theorem resume_c {w : World} (s : Sess) (now : Int) (_hs : s.Ok) (_hn : inI64 now) :
    Calls Try.prog 24 #[.agg #[.int .u64 s.price, .int .u64 s.limit, .int .u64 s.quota, .int .i64 s.idle, .int .i64 s.state, .int .u64 s.units, .int .i64 s.last], .int .i64 now] w fun e w' => e = .returned (.tuple #[.agg #[.int .u64 ((mResume s now).1).price, .int .u64 ((mResume s now).1).limit, .int .u64 ((mResume s now).1).quota, .int .i64 ((mResume s now).1).idle, .int .i64 ((mResume s now).1).state, .int .u64 ((mResume s now).1).units, .int .i64 ((mResume s now).1).last], .int .i64 (mResume s now).2]) ∧ Keeps [] w w' := by
  obtain ⟨price, limit, quota, idle, state, units, last⟩ := s
  by_cases h : state = 2
  · by_cases h2 : now < last
    · have R : mResume ⟨price, limit, quota, idle, state, units, last⟩ now = (.zero, 1) := by rw [mResume, if_pos h, if_pos h2]
      rw [R]
      dsimp only [Sess.zero]
      subst h
      clear R
      go_enter Try.func24, Try.ntmps24
      go_wp2
      refine bodyPost_ret (v := .tuple #[.agg #[.int .u64 ((0 : Nat) : Int), .int .u64 ((0 : Nat) : Int), .int .u64 ((0 : Nat) : Int), .int .i64 0, .int .i64 0, .int .u64 ((0 : Nat) : Int), .int .i64 0], .int .i64 1]) (by simp [results, Try.results24, go_sem]) rfl ⟨rfl, ?_⟩
      exact ((Keeps.refl _ _).alloc _).alloc _
    · have R : mResume ⟨price, limit, quota, idle, state, units, last⟩ now = (⟨price, limit, quota, idle, 1, units, now⟩, 0) := by rw [mResume, if_pos h, if_neg h2]
      have h3 : decide (now < last) = false := by simp; omega
      rw [R]
      dsimp only
      subst h
      clear R
      go_enter Try.func24, Try.ntmps24
      go_wp2
      refine bodyPost_ret (v := .tuple #[.agg #[.int .u64 price, .int .u64 limit, .int .u64 quota, .int .i64 idle, .int .i64 1, .int .u64 units, .int .i64 now], .int .i64 0]) (by simp [results, Try.results24, go_sem]) rfl ⟨rfl, ?_⟩
      exact ((Keeps.refl _ _).alloc _).alloc _
  · have R : mResume ⟨price, limit, quota, idle, state, units, last⟩ now = (.zero, 8) := if_neg h
    have hb : (state != 2) = true := by simpa using h
    rw [R]
    dsimp only [Sess.zero]
    clear R h
    go_enter Try.func24, Try.ntmps24
    go_wp2
    refine bodyPost_ret (v := .tuple #[.agg #[.int .u64 ((0 : Nat) : Int), .int .u64 ((0 : Nat) : Int), .int .u64 ((0 : Nat) : Int), .int .i64 0, .int .i64 0, .int .u64 ((0 : Nat) : Int), .int .i64 0], .int .i64 8]) (by simp [results, Try.results24, go_sem]) rfl ⟨rfl, ?_⟩
    exact ((Keeps.refl _ _).alloc _).alloc _

set_option maxHeartbeats 2000000 in
theorem new_c {w : World} (price limit quota : Nat) (idle now : Int) (hp : price ≤ 18446744073709551615) (_hl : limit ≤ 18446744073709551615) (hq : quota ≤ 18446744073709551615) (_hi : inI64 idle) (_hn : inI64 now) :
    Calls Try.prog 13 #[.int .u64 price, .int .u64 limit, .int .u64 quota, .int .i64 idle, .int .i64 now] w fun e w' => e = .returned (.tuple #[.agg #[.int .u64 ((mNew price limit quota idle now).1).price, .int .u64 ((mNew price limit quota idle now).1).limit, .int .u64 ((mNew price limit quota idle now).1).quota, .int .i64 ((mNew price limit quota idle now).1).idle, .int .i64 ((mNew price limit quota idle now).1).state, .int .u64 ((mNew price limit quota idle now).1).units, .int .i64 ((mNew price limit quota idle now).1).last], .int .i64 (mNew price limit quota idle now).2]) ∧ Keeps [] w w' := by
  have P := fun w => some_c (w := w) price hp
  have Q := fun w => some_c (w := w) quota hq
  have bad : ¬ mNewOk price limit quota idle now → mNew price limit quota idle now = (.zero, 1) := fun h => if_neg h
  have b1 : mSome price = false → ¬ mNewOk price limit quota idle now := fun h k => by
    have : mSome price = true := by simp [mSome, k.1, k.2.1]
    rw [this] at h; cases h
  have b3 : mSome quota = false → ¬ mNewOk price limit quota idle now := fun h k => by
    have : mSome quota = true := by simp [mSome, k.2.2.2.1, k.2.2.2.2.1]
    rw [this] at h; cases h
  have gd : mSome price = true → mSome quota = true → (1 ≤ price ∧ price ≤ 4294967296) ∧ (1 ≤ quota ∧ quota ≤ 4294967296) := fun h k => by simpa [mSome] using And.intro h k
  cases hA : mSome price with
  | false =>
    rw [hA] at P
    rw [bad (b1 hA)]
    dsimp only [Sess.zero]
    clear bad b1 b3 gd hA Q
    go_enter Try.func13, Try.ntmps13
    go_wp2_with fail
    refine (P _).mono ?_
    rintro e w' ⟨rfl, rfl⟩
    go_wp2
    refine bodyPost_ret (v := .tuple #[.agg #[.int .u64 ((0 : Nat) : Int), .int .u64 ((0 : Nat) : Int), .int .u64 ((0 : Nat) : Int), .int .i64 0, .int .i64 0, .int .u64 ((0 : Nat) : Int), .int .i64 0], .int .i64 1]) (by simp [results, Try.results13, go_sem]) rfl ⟨rfl, ?_⟩
    exact (Keeps.refl _ _).alloc _
  | true =>
    rw [hA] at P
    by_cases hB : limit ≤ 4611686018427387904
    · cases hC : mSome quota with
      | false =>
        rw [hC] at Q
        rw [bad (b3 hC)]
        dsimp only [Sess.zero]
        clear bad b1 b3 gd hA hC
        go_enter Try.func13, Try.ntmps13
        go_wp2_with fail
        refine (P _).mono ?_
        rintro e w' ⟨rfl, rfl⟩
        go_wp2_with fail
        refine (Q _).mono ?_
        rintro e w' ⟨rfl, rfl⟩
        go_wp2
        refine bodyPost_ret (v := .tuple #[.agg #[.int .u64 ((0 : Nat) : Int), .int .u64 ((0 : Nat) : Int), .int .u64 ((0 : Nat) : Int), .int .i64 0, .int .i64 0, .int .u64 ((0 : Nat) : Int), .int .i64 0], .int .i64 1]) (by simp [results, Try.results13, go_sem]) rfl ⟨rfl, ?_⟩
        exact (Keeps.refl _ _).alloc _
      | true =>
        rw [hC] at Q
        obtain ⟨⟨g1, g2⟩, g3, g4⟩ := gd hA hC
        clear b1 b3 gd hA hC
        by_cases hD : 1 ≤ idle
        · by_cases hE : idle ≤ 4294967296
          · by_cases hF : 0 ≤ now
            · have R : mNew price limit quota idle now = (⟨price, limit, quota, idle, 1, 0, now⟩, 0) := if_pos ⟨g1, g2, hB, g3, g4, hD, hE, hF⟩
              rw [R]
              dsimp only
              clear R bad g1 g2 g3 g4
              go_enter Try.func13, Try.ntmps13
              go_wp2_with fail
              refine (P _).mono ?_
              rintro e w' ⟨rfl, rfl⟩
              go_wp2_with fail
              refine (Q _).mono ?_
              rintro e w' ⟨rfl, rfl⟩
              go_wp2
              refine bodyPost_ret (v := .tuple #[.agg #[.int .u64 price, .int .u64 limit, .int .u64 quota, .int .i64 idle, .int .i64 1, .int .u64 ((0 : Nat) : Int), .int .i64 now], .int .i64 0]) (by simp [results, Try.results13, go_sem]) rfl ⟨rfl, ?_⟩
              exact (Keeps.refl _ _).alloc _
            · rw [bad (fun k => hF k.2.2.2.2.2.2.2)]
              dsimp only [Sess.zero]
              clear bad g1 g2 g3 g4
              have hF' : now < 0 := by omega
              go_enter Try.func13, Try.ntmps13
              go_wp2_with fail
              refine (P _).mono ?_
              rintro e w' ⟨rfl, rfl⟩
              go_wp2_with fail
              refine (Q _).mono ?_
              rintro e w' ⟨rfl, rfl⟩
              go_wp2
              refine bodyPost_ret (v := .tuple #[.agg #[.int .u64 ((0 : Nat) : Int), .int .u64 ((0 : Nat) : Int), .int .u64 ((0 : Nat) : Int), .int .i64 0, .int .i64 0, .int .u64 ((0 : Nat) : Int), .int .i64 0], .int .i64 1]) (by simp [results, Try.results13, go_sem]) rfl ⟨rfl, ?_⟩
              exact (Keeps.refl _ _).alloc _
          · rw [bad (fun k => hE k.2.2.2.2.2.2.1)]
            dsimp only [Sess.zero]
            clear bad g1 g2 g3 g4
            have hE' : 4294967296 < idle := by omega
            go_enter Try.func13, Try.ntmps13
            go_wp2_with fail
            refine (P _).mono ?_
            rintro e w' ⟨rfl, rfl⟩
            go_wp2_with fail
            refine (Q _).mono ?_
            rintro e w' ⟨rfl, rfl⟩
            go_wp2
            refine bodyPost_ret (v := .tuple #[.agg #[.int .u64 ((0 : Nat) : Int), .int .u64 ((0 : Nat) : Int), .int .u64 ((0 : Nat) : Int), .int .i64 0, .int .i64 0, .int .u64 ((0 : Nat) : Int), .int .i64 0], .int .i64 1]) (by simp [results, Try.results13, go_sem]) rfl ⟨rfl, ?_⟩
            exact (Keeps.refl _ _).alloc _
        · rw [bad (fun k => hD k.2.2.2.2.2.1)]
          dsimp only [Sess.zero]
          clear bad g1 g2 g3 g4
          have hD' : idle < 1 := by omega
          go_enter Try.func13, Try.ntmps13
          go_wp2_with fail
          refine (P _).mono ?_
          rintro e w' ⟨rfl, rfl⟩
          go_wp2_with fail
          refine (Q _).mono ?_
          rintro e w' ⟨rfl, rfl⟩
          go_wp2
          refine bodyPost_ret (v := .tuple #[.agg #[.int .u64 ((0 : Nat) : Int), .int .u64 ((0 : Nat) : Int), .int .u64 ((0 : Nat) : Int), .int .i64 0, .int .i64 0, .int .u64 ((0 : Nat) : Int), .int .i64 0], .int .i64 1]) (by simp [results, Try.results13, go_sem]) rfl ⟨rfl, ?_⟩
          exact (Keeps.refl _ _).alloc _
    · rw [bad (fun k => hB k.2.2.1)]
      dsimp only [Sess.zero]
      clear bad b1 b3 gd hA Q
      have hB' : 4611686018427387904 < limit := by omega
      go_enter Try.func13, Try.ntmps13
      go_wp2_with fail
      refine (P _).mono ?_
      rintro e w' ⟨rfl, rfl⟩
      go_wp2
      refine bodyPost_ret (v := .tuple #[.agg #[.int .u64 ((0 : Nat) : Int), .int .u64 ((0 : Nat) : Int), .int .u64 ((0 : Nat) : Int), .int .i64 0, .int .i64 0, .int .u64 ((0 : Nat) : Int), .int .i64 0], .int .i64 1]) (by simp [results, Try.results13, go_sem]) rfl ⟨rfl, ?_⟩
      exact (Keeps.refl _ _).alloc _
end Go.Proofs.Ytimbngaadgkeaaa
