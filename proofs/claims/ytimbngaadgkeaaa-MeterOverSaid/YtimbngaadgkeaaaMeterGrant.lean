/-
  The contract of package meter's Grant.
-/
import Derived.Test.YtimbngaadgkeaaaMeter
namespace Go.Proofs.Ytimbngaadgkeaaa
open Go.RowKit

theorem grant_facts {w w1 : World} {x0 x1 x2 x3 x4 x5 x6 y0 y1 y2 y3 y4 y5 y6 : Value} {t : TypeId} (k : Keeps [] ((w.alloc (.cells #[x0, x1, x2, x3, x4, x5, x6] t)).alloc (.cells #[y0, y1, y2, y3, y4, y5, y6] t)) w1) :
    w1.cell? ⟨w.heap.size, 0, none⟩ = some x0 ∧ w1.cell? ⟨w.heap.size, 1, none⟩ = some x1 ∧ w1.cell? ⟨w.heap.size, 2, none⟩ = some x2 ∧ w1.cell? ⟨w.heap.size, 3, none⟩ = some x3 ∧ w1.cell? ⟨w.heap.size, 4, none⟩ = some x4 ∧
    w1.cell? ⟨w.heap.size, 5, none⟩ = some x5 ∧ w1.cell? ⟨w.heap.size, 6, none⟩ = some x6 ∧ (∀ i, w1.frozen? ⟨w.heap.size, i, none⟩ = false) ∧
    w1.cell? ⟨w.heap.size + 1, 0, none⟩ = some y0 ∧ w1.cell? ⟨w.heap.size + 1, 1, none⟩ = some y1 ∧ w1.cell? ⟨w.heap.size + 1, 2, none⟩ = some y2 ∧ w1.cell? ⟨w.heap.size + 1, 3, none⟩ = some y3 ∧ w1.cell? ⟨w.heap.size + 1, 4, none⟩ = some y4 ∧
    w1.cell? ⟨w.heap.size + 1, 5, none⟩ = some y5 ∧ w1.cell? ⟨w.heap.size + 1, 6, none⟩ = some y6 ∧ (∀ i, w1.frozen? ⟨w.heap.size + 1, i, none⟩ = false) := by
  have h0 : w1.heap[w.heap.size]? = some (.cells #[x0, x1, x2, x3, x4, x5, x6] t (0, 0)) := k.heap (by simp) (by rw [heap_alloc_old (by simp)]; exact heap_alloc_same)
  have h1 : w1.heap[w.heap.size + 1]? = some (.cells #[y0, y1, y2, y3, y4, y5, y6] t (0, 0)) := k.heap (by simp) (heap_alloc_at (by simp))
  exact ⟨(cell_of_heap h0).trans rfl, (cell_of_heap h0).trans rfl, (cell_of_heap h0).trans rfl, (cell_of_heap h0).trans rfl, (cell_of_heap h0).trans rfl, (cell_of_heap h0).trans rfl, (cell_of_heap h0).trans rfl, fun i => frozen_of_heap h0,
    (cell_of_heap h1).trans rfl, (cell_of_heap h1).trans rfl, (cell_of_heap h1).trans rfl, (cell_of_heap h1).trans rfl, (cell_of_heap h1).trans rfl, (cell_of_heap h1).trans rfl, (cell_of_heap h1).trans rfl, fun i => frozen_of_heap h1⟩

set_option maxHeartbeats 4000000 in
theorem grant_c {w : World} (s : Sess) (units credit : Nat) (now : Int) (hs : s.Ok) (hu : units ≤ 18446744073709551615) (hc : credit ≤ 18446744073709551615) (_hn : inI64 now) :
    Calls Try.prog 10 #[.agg #[.int .u64 s.price, .int .u64 s.limit, .int .u64 s.quota, .int .i64 s.idle, .int .i64 s.state, .int .u64 s.units, .int .i64 s.last], .int .u64 units, .int .u64 credit, .int .i64 now] w fun e w' => e = .returned (.tuple #[.agg #[.int .u64 ((mGrant s units credit now).1).price, .int .u64 ((mGrant s units credit now).1).limit, .int .u64 ((mGrant s units credit now).1).quota, .int .i64 ((mGrant s units credit now).1).idle, .int .i64 ((mGrant s units credit now).1).state, .int .u64 ((mGrant s units credit now).1).units, .int .i64 ((mGrant s units credit now).1).last], .int .i64 (mGrant s units credit now).2]) ∧ Keeps [] w w' := by
  have A := fun w => add_c (w := w) s.units units hs.units hu
  have C := fun w => cost_c (w := w) s (nAdd s.units units).1 hs (nAdd_le _ _)
  have P := fun w => add_c (w := w) credit s.limit hc hs.limit
  have hall := nAdd_le s.units units
  unfold mGrant
  generalize (nAdd s.units units).1 = all at *
  generalize (nAdd s.units units).2 = over at *
  generalize (nMul s.price all).1 = cost at *
  generalize (nMul s.price all).2 = er at *
  generalize (nAdd credit s.limit).1 = paid at *
  generalize (nAdd credit s.limit).2 = f at *
  obtain ⟨price, limit, quota, idle, state, un, last⟩ := s
  dsimp only at *
  by_cases c1 : state = 1
  · subst c1
    have n1 : ¬ (1 : Int) ≠ 1 := by simp
    by_cases c2 : units = 0
    · have R : gRaw ⟨price, limit, quota, idle, 1, un, last⟩ units now all over cost er paid f = (.zero, 1) := by rw [gRaw, if_neg n1, if_pos (.inl c2)]
      rw [R]
      subst c2
      dsimp only [Sess.zero]
      clear R
      go_enter Try.func10, Try.ntmps10
      go_wp2_with fail
      refine (A _).mono ?_
      rintro e w' ⟨rfl, rfl⟩
      go_wp2_with fail
      refine (C _).mono ?_
      rintro e w1 ⟨rfl, k1⟩
      have F := grant_facts k1
      obtain ⟨b0, b1, b2, b3, b4, b5, b6, bf, r0, r1, r2, r3, r4, r5, r6, rf⟩ := F
      go_wp2_with fail
      refine (P _).mono ?_
      rintro e w' ⟨rfl, rfl⟩
      go_wp2
      refine bodyPost_ret (v := .tuple #[.agg #[.int .u64 ((0 : Nat) : Int), .int .u64 ((0 : Nat) : Int), .int .u64 ((0 : Nat) : Int), .int .i64 0, .int .i64 0, .int .u64 ((0 : Nat) : Int), .int .i64 0], .int .i64 1]) (by simp [results, Try.results10, go_sem, r0, r1, r2, r3, r4, r5, r6, World.cell?_setCell_other]) rfl ⟨rfl, ?_⟩
      have K0 := (((Keeps.refl [] w).alloc _).alloc _).trans k1
      exact ((((((K0.setCell (.inr (by simp)) _).setCell (.inr (by simp)) _).setCell (.inr (by simp)) _).setCell (.inr (by simp)) _).setCell (.inr (by simp)) _).setCell (.inr (by simp)) _).setCell (.inr (by simp)) _
    by_cases c3 : 4294967296 < units
    · have R : gRaw ⟨price, limit, quota, idle, 1, un, last⟩ units now all over cost er paid f = (.zero, 1) := by rw [gRaw, if_neg n1, if_pos (.inr (.inl c3))]
      rw [R]
      have z0 : ((units : Int) == 0) = false := by rw [beq_eq_false_iff_ne]; omega
      dsimp only [Sess.zero]
      clear R
      go_enter Try.func10, Try.ntmps10
      go_wp2_with fail
      refine (A _).mono ?_
      rintro e w' ⟨rfl, rfl⟩
      go_wp2_with fail
      refine (C _).mono ?_
      rintro e w1 ⟨rfl, k1⟩
      have F := grant_facts k1
      obtain ⟨b0, b1, b2, b3, b4, b5, b6, bf, r0, r1, r2, r3, r4, r5, r6, rf⟩ := F
      go_wp2_with fail
      refine (P _).mono ?_
      rintro e w' ⟨rfl, rfl⟩
      go_wp2
      refine bodyPost_ret (v := .tuple #[.agg #[.int .u64 ((0 : Nat) : Int), .int .u64 ((0 : Nat) : Int), .int .u64 ((0 : Nat) : Int), .int .i64 0, .int .i64 0, .int .u64 ((0 : Nat) : Int), .int .i64 0], .int .i64 1]) (by simp [results, Try.results10, go_sem, r0, r1, r2, r3, r4, r5, r6, World.cell?_setCell_other]) rfl ⟨rfl, ?_⟩
      have K0 := (((Keeps.refl [] w).alloc _).alloc _).trans k1
      exact ((((((K0.setCell (.inr (by simp)) _).setCell (.inr (by simp)) _).setCell (.inr (by simp)) _).setCell (.inr (by simp)) _).setCell (.inr (by simp)) _).setCell (.inr (by simp)) _).setCell (.inr (by simp)) _
    have z0 : ((units : Int) == 0) = false := by rw [beq_eq_false_iff_ne]; omega
    have z1 : decide ((4294967296 : Int) < (units : Int)) = false := by simp; omega
    by_cases c4 : now < last
    · have R : gRaw ⟨price, limit, quota, idle, 1, un, last⟩ units now all over cost er paid f = (.zero, 1) := by rw [gRaw, if_neg n1, if_pos (.inr (.inr c4))]
      rw [R]
      dsimp only [Sess.zero]
      clear R
      go_enter Try.func10, Try.ntmps10
      go_wp2_with fail
      refine (A _).mono ?_
      rintro e w' ⟨rfl, rfl⟩
      go_wp2_with fail
      refine (C _).mono ?_
      rintro e w1 ⟨rfl, k1⟩
      have F := grant_facts k1
      obtain ⟨b0, b1, b2, b3, b4, b5, b6, bf, r0, r1, r2, r3, r4, r5, r6, rf⟩ := F
      go_wp2_with fail
      refine (P _).mono ?_
      rintro e w' ⟨rfl, rfl⟩
      go_wp2
      refine bodyPost_ret (v := .tuple #[.agg #[.int .u64 ((0 : Nat) : Int), .int .u64 ((0 : Nat) : Int), .int .u64 ((0 : Nat) : Int), .int .i64 0, .int .i64 0, .int .u64 ((0 : Nat) : Int), .int .i64 0], .int .i64 1]) (by simp [results, Try.results10, go_sem, r0, r1, r2, r3, r4, r5, r6, World.cell?_setCell_other]) rfl ⟨rfl, ?_⟩
      have K0 := (((Keeps.refl [] w).alloc _).alloc _).trans k1
      exact ((((((K0.setCell (.inr (by simp)) _).setCell (.inr (by simp)) _).setCell (.inr (by simp)) _).setCell (.inr (by simp)) _).setCell (.inr (by simp)) _).setCell (.inr (by simp)) _).setCell (.inr (by simp)) _
    have z2 : decide (now < last) = false := by simp; omega
    have n2 : ¬ (units = 0 ∨ 4294967296 < units ∨ now < last) := by omega
    by_cases c5 : over = 0
    · subst c5
      by_cases c6 : quota < all
      · have R : gRaw ⟨price, limit, quota, idle, 1, un, last⟩ units now all 0 cost er paid f = (.zero, 9) := by rw [gRaw, if_neg n1, if_neg n2, if_pos (.inr c6)]
        rw [R]
        dsimp only [Sess.zero]
        clear R
        go_enter Try.func10, Try.ntmps10
        go_wp2_with fail
        refine (A _).mono ?_
        rintro e w' ⟨rfl, rfl⟩
        go_wp2_with fail
        refine (C _).mono ?_
        rintro e w1 ⟨rfl, k1⟩
        have F := grant_facts k1
        obtain ⟨b0, b1, b2, b3, b4, b5, b6, bf, r0, r1, r2, r3, r4, r5, r6, rf⟩ := F
        go_wp2_with fail
        refine (P _).mono ?_
        rintro e w' ⟨rfl, rfl⟩
        go_wp2
        refine bodyPost_ret (v := .tuple #[.agg #[.int .u64 ((0 : Nat) : Int), .int .u64 ((0 : Nat) : Int), .int .u64 ((0 : Nat) : Int), .int .i64 0, .int .i64 0, .int .u64 ((0 : Nat) : Int), .int .i64 0], .int .i64 9]) (by simp [results, Try.results10, go_sem, r0, r1, r2, r3, r4, r5, r6, World.cell?_setCell_other]) rfl ⟨rfl, ?_⟩
        have K0 := (((Keeps.refl [] w).alloc _).alloc _).trans k1
        exact ((((((K0.setCell (.inr (by simp)) _).setCell (.inr (by simp)) _).setCell (.inr (by simp)) _).setCell (.inr (by simp)) _).setCell (.inr (by simp)) _).setCell (.inr (by simp)) _).setCell (.inr (by simp)) _
      have n3 : ¬ ((0 : Int) ≠ 0 ∨ quota < all) := by simp; omega
      have z3 : decide ((quota : Int) < (all : Int)) = false := by simp; omega
      by_cases c7 : er = 0
      · subst c7
        have n4 : ¬ (0 : Int) ≠ 0 := by simp
        by_cases c8 : f = 0
        · subst c8
          by_cases c9 : paid < cost
          · have R : gRaw ⟨price, limit, quota, idle, 1, un, last⟩ units now all 0 cost 0 paid 0 = (.zero, 11) := by rw [gRaw, if_neg n1, if_neg n2, if_neg n3, if_neg n4, if_pos ⟨rfl, c9⟩]
            rw [R]
            dsimp only [Sess.zero]
            clear R
            go_enter Try.func10, Try.ntmps10
            go_wp2_with fail
            refine (A _).mono ?_
            rintro e w' ⟨rfl, rfl⟩
            go_wp2_with fail
            refine (C _).mono ?_
            rintro e w1 ⟨rfl, k1⟩
            have F := grant_facts k1
            obtain ⟨b0, b1, b2, b3, b4, b5, b6, bf, r0, r1, r2, r3, r4, r5, r6, rf⟩ := F
            go_wp2_with fail
            refine (P _).mono ?_
            rintro e w' ⟨rfl, rfl⟩
            go_wp2
            refine bodyPost_ret (v := .tuple #[.agg #[.int .u64 ((0 : Nat) : Int), .int .u64 ((0 : Nat) : Int), .int .u64 ((0 : Nat) : Int), .int .i64 0, .int .i64 0, .int .u64 ((0 : Nat) : Int), .int .i64 0], .int .i64 11]) (by simp [results, Try.results10, go_sem, r0, r1, r2, r3, r4, r5, r6, World.cell?_setCell_other]) rfl ⟨rfl, ?_⟩
            have K0 := (((Keeps.refl [] w).alloc _).alloc _).trans k1
            exact ((((((K0.setCell (.inr (by simp)) _).setCell (.inr (by simp)) _).setCell (.inr (by simp)) _).setCell (.inr (by simp)) _).setCell (.inr (by simp)) _).setCell (.inr (by simp)) _).setCell (.inr (by simp)) _
          · have R : gRaw ⟨price, limit, quota, idle, 1, un, last⟩ units now all 0 cost 0 paid 0 = (⟨price, limit, quota, idle, 1, all, now⟩, 0) := by rw [gRaw, if_neg n1, if_neg n2, if_neg n3, if_neg n4, if_neg (fun h => c9 h.2)]
            have z5 : decide ((paid : Int) < (cost : Int)) = false := by simp; omega
            rw [R]
            dsimp only
            clear R
            go_enter Try.func10, Try.ntmps10
            go_wp2_with fail
            refine (A _).mono ?_
            rintro e w' ⟨rfl, rfl⟩
            go_wp2_with fail
            refine (C _).mono ?_
            rintro e w1 ⟨rfl, k1⟩
            have F := grant_facts k1
            obtain ⟨b0, b1, b2, b3, b4, b5, b6, bf, r0, r1, r2, r3, r4, r5, r6, rf⟩ := F
            go_wp2_with fail
            refine (P _).mono ?_
            rintro e w' ⟨rfl, rfl⟩
            go_wp2
            refine bodyPost_ret (v := .tuple #[.agg #[.int .u64 price, .int .u64 limit, .int .u64 quota, .int .i64 idle, .int .i64 1, .int .u64 all, .int .i64 now], .int .i64 0]) (by simp [results, Try.results10, go_sem, r0, r1, r2, r3, r4, r5, r6, World.cell?_setCell_other]) rfl ⟨rfl, ?_⟩
            have K0 := (((Keeps.refl [] w).alloc _).alloc _).trans k1
            exact ((((((((K0.setCell (.inr (by simp)) _).setCell (.inr (by simp)) _).setCell (.inr (by simp)) _).setCell (.inr (by simp)) _).setCell (.inr (by simp)) _).setCell (.inr (by simp)) _).setCell (.inr (by simp)) _).setCell (.inr (by simp)) _).setCell (.inr (by simp)) _
        · have R : gRaw ⟨price, limit, quota, idle, 1, un, last⟩ units now all 0 cost 0 paid f = (⟨price, limit, quota, idle, 1, all, now⟩, 0) := by rw [gRaw, if_neg n1, if_neg n2, if_neg n3, if_neg n4, if_neg (fun h => c8 h.1)]
          have z5 : (f == 0) = false := by simpa using c8
          rw [R]
          dsimp only
          clear R
          go_enter Try.func10, Try.ntmps10
          go_wp2_with fail
          refine (A _).mono ?_
          rintro e w' ⟨rfl, rfl⟩
          go_wp2_with fail
          refine (C _).mono ?_
          rintro e w1 ⟨rfl, k1⟩
          have F := grant_facts k1
          obtain ⟨b0, b1, b2, b3, b4, b5, b6, bf, r0, r1, r2, r3, r4, r5, r6, rf⟩ := F
          go_wp2_with fail
          refine (P _).mono ?_
          rintro e w' ⟨rfl, rfl⟩
          go_wp2
          refine bodyPost_ret (v := .tuple #[.agg #[.int .u64 price, .int .u64 limit, .int .u64 quota, .int .i64 idle, .int .i64 1, .int .u64 all, .int .i64 now], .int .i64 0]) (by simp [results, Try.results10, go_sem, r0, r1, r2, r3, r4, r5, r6, World.cell?_setCell_other]) rfl ⟨rfl, ?_⟩
          have K0 := (((Keeps.refl [] w).alloc _).alloc _).trans k1
          exact ((((((((K0.setCell (.inr (by simp)) _).setCell (.inr (by simp)) _).setCell (.inr (by simp)) _).setCell (.inr (by simp)) _).setCell (.inr (by simp)) _).setCell (.inr (by simp)) _).setCell (.inr (by simp)) _).setCell (.inr (by simp)) _).setCell (.inr (by simp)) _
      · have R : gRaw ⟨price, limit, quota, idle, 1, un, last⟩ units now all 0 cost er paid f = (.zero, er) := by rw [gRaw, if_neg n1, if_neg n2, if_neg n3, if_pos c7]
        have z5 : (er != 0) = true := by simpa using c7
        rw [R]
        dsimp only [Sess.zero]
        clear R
        go_enter Try.func10, Try.ntmps10
        go_wp2_with fail
        refine (A _).mono ?_
        rintro e w' ⟨rfl, rfl⟩
        go_wp2_with fail
        refine (C _).mono ?_
        rintro e w1 ⟨rfl, k1⟩
        have F := grant_facts k1
        obtain ⟨b0, b1, b2, b3, b4, b5, b6, bf, r0, r1, r2, r3, r4, r5, r6, rf⟩ := F
        go_wp2_with fail
        refine (P _).mono ?_
        rintro e w' ⟨rfl, rfl⟩
        go_wp2
        refine bodyPost_ret (v := .tuple #[.agg #[.int .u64 ((0 : Nat) : Int), .int .u64 ((0 : Nat) : Int), .int .u64 ((0 : Nat) : Int), .int .i64 0, .int .i64 0, .int .u64 ((0 : Nat) : Int), .int .i64 0], .int .i64 er]) (by simp [results, Try.results10, go_sem, r0, r1, r2, r3, r4, r5, r6, World.cell?_setCell_other]) rfl ⟨rfl, ?_⟩
        have K0 := (((Keeps.refl [] w).alloc _).alloc _).trans k1
        exact ((((((K0.setCell (.inr (by simp)) _).setCell (.inr (by simp)) _).setCell (.inr (by simp)) _).setCell (.inr (by simp)) _).setCell (.inr (by simp)) _).setCell (.inr (by simp)) _).setCell (.inr (by simp)) _
    · have R : gRaw ⟨price, limit, quota, idle, 1, un, last⟩ units now all over cost er paid f = (.zero, 9) := by rw [gRaw, if_neg n1, if_neg n2, if_pos (.inl c5)]
      have z5 : (over != 0) = true := by simpa using c5
      rw [R]
      dsimp only [Sess.zero]
      clear R
      go_enter Try.func10, Try.ntmps10
      go_wp2_with fail
      refine (A _).mono ?_
      rintro e w' ⟨rfl, rfl⟩
      go_wp2_with fail
      refine (C _).mono ?_
      rintro e w1 ⟨rfl, k1⟩
      have F := grant_facts k1
      obtain ⟨b0, b1, b2, b3, b4, b5, b6, bf, r0, r1, r2, r3, r4, r5, r6, rf⟩ := F
      go_wp2_with fail
      refine (P _).mono ?_
      rintro e w' ⟨rfl, rfl⟩
      go_wp2
      refine bodyPost_ret (v := .tuple #[.agg #[.int .u64 ((0 : Nat) : Int), .int .u64 ((0 : Nat) : Int), .int .u64 ((0 : Nat) : Int), .int .i64 0, .int .i64 0, .int .u64 ((0 : Nat) : Int), .int .i64 0], .int .i64 9]) (by simp [results, Try.results10, go_sem, r0, r1, r2, r3, r4, r5, r6, World.cell?_setCell_other]) rfl ⟨rfl, ?_⟩
      have K0 := (((Keeps.refl [] w).alloc _).alloc _).trans k1
      exact ((((((K0.setCell (.inr (by simp)) _).setCell (.inr (by simp)) _).setCell (.inr (by simp)) _).setCell (.inr (by simp)) _).setCell (.inr (by simp)) _).setCell (.inr (by simp)) _).setCell (.inr (by simp)) _
  · have R : gRaw ⟨price, limit, quota, idle, state, un, last⟩ units now all over cost er paid f = (.zero, 8) := if_pos c1
    have z5 : (state != 1) = true := by simpa using c1
    rw [R]
    dsimp only [Sess.zero]
    clear R
    go_enter Try.func10, Try.ntmps10
    go_wp2_with fail
    refine (A _).mono ?_
    rintro e w' ⟨rfl, rfl⟩
    go_wp2_with fail
    refine (C _).mono ?_
    rintro e w1 ⟨rfl, k1⟩
    have F := grant_facts k1
    obtain ⟨b0, b1, b2, b3, b4, b5, b6, bf, r0, r1, r2, r3, r4, r5, r6, rf⟩ := F
    go_wp2_with fail
    refine (P _).mono ?_
    rintro e w' ⟨rfl, rfl⟩
    go_wp2
    refine bodyPost_ret (v := .tuple #[.agg #[.int .u64 ((0 : Nat) : Int), .int .u64 ((0 : Nat) : Int), .int .u64 ((0 : Nat) : Int), .int .i64 0, .int .i64 0, .int .u64 ((0 : Nat) : Int), .int .i64 0], .int .i64 8]) (by simp [results, Try.results10, go_sem, r0, r1, r2, r3, r4, r5, r6, World.cell?_setCell_other]) rfl ⟨rfl, ?_⟩
    have K0 := (((Keeps.refl [] w).alloc _).alloc _).trans k1
    exact ((((((K0.setCell (.inr (by simp)) _).setCell (.inr (by simp)) _).setCell (.inr (by simp)) _).setCell (.inr (by simp)) _).setCell (.inr (by simp)) _).setCell (.inr (by simp)) _).setCell (.inr (by simp)) _
end Go.Proofs.Ytimbngaadgkeaaa
