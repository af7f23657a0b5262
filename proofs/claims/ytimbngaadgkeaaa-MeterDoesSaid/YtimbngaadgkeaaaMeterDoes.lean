/-
  MeterDoes: its walk.
-/
import Derived.Test.YtimbngaadgkeaaaSessStore
import Derived.Test.YtimbngaadgkeaaaMeterFixed
import Derived.Test.YtimbngaadgkeaaaRefMeterC
import Derived.Test.YtimbngaadgkeaaaRefMeterD
import Derived.Deep.RegionHeld3
namespace Go.Proofs.Ytimbngaadgkeaaa
open Go.RowKit

/-- The session and the two numbers; what the program granted and the reference; what each began. -/
structure DoesS (w0 : World) (B C A R N M : Nat) (s ga na : Sess) (u c : Nat) (w : World) : Prop where
  s : w.heap[B]? = some (.cells #[.int .u64 s.price, .int .u64 s.limit, .int .u64 s.quota, .int .i64 s.idle, .int .i64 s.state, .int .u64 s.units, .int .i64 s.last] 24 (0, 0))
  f : w.heap[C]? = some (.cells #[.int .u64 u, .int .u64 c] 25 (0, 0))
  a : w.heap[A]? = some (.cells #[.int .u64 ga.price, .int .u64 ga.limit, .int .u64 ga.quota, .int .i64 ga.idle, .int .i64 ga.state, .int .u64 ga.units, .int .i64 ga.last] 24 (0, 0))
  r : w.heap[R]? = some (.cells #[.int .u64 ga.price, .int .u64 ga.limit, .int .u64 ga.quota, .int .i64 ga.idle, .int .i64 ga.state, .int .u64 ga.units, .int .i64 ga.last] 29 (0, 0))
  n : w.heap[N]? = some (.cells #[.int .u64 na.price, .int .u64 na.limit, .int .u64 na.quota, .int .i64 na.idle, .int .i64 na.state, .int .u64 na.units, .int .i64 na.last] 24 (0, 0))
  m : w.heap[M]? = some (.cells #[.int .u64 na.price, .int .u64 na.limit, .int .u64 na.quota, .int .i64 na.idle, .int .i64 na.state, .int .u64 na.units, .int .i64 na.last] 29 (0, 0))
  k : Keeps [] w0 w
theorem DoesS.keep {w0 w w' : World} {B C A R N M : Nat} {s ga na : Sess} {u c : Nat} (h : DoesS w0 B C A R N M s ga na u c w) (k : Keeps [] w w') : DoesS w0 B C A R N M s ga na u c w' :=
  ⟨k.heap (by simp) h.s, k.heap (by simp) h.f, k.heap (by simp) h.a, k.heap (by simp) h.r, k.heap (by simp) h.n, k.heap (by simp) h.m, h.k.trans k⟩

/-- The session, the two numbers, what the program granted. -/
structure DoesQ (w0 : World) (B C A : Nat) (s ga : Sess) (u c : Nat) (w : World) : Prop where
  s : w.heap[B]? = some (.cells #[.int .u64 s.price, .int .u64 s.limit, .int .u64 s.quota, .int .i64 s.idle, .int .i64 s.state, .int .u64 s.units, .int .i64 s.last] 24 (0, 0))
  f : w.heap[C]? = some (.cells #[.int .u64 u, .int .u64 c] 25 (0, 0))
  a : w.heap[A]? = some (.cells #[.int .u64 ga.price, .int .u64 ga.limit, .int .u64 ga.quota, .int .i64 ga.idle, .int .i64 ga.state, .int .u64 ga.units, .int .i64 ga.last] 24 (0, 0))
  k : Keeps [] w0 w
theorem DoesQ.keep {w0 w w' : World} {B C A : Nat} {s ga : Sess} {u c : Nat} (h : DoesQ w0 B C A s ga u c w) (k : Keeps [] w w') : DoesQ w0 B C A s ga u c w' :=
  ⟨k.heap (by simp) h.s, k.heap (by simp) h.f, k.heap (by simp) h.a, h.k.trans k⟩

set_option maxRecDepth 100000 in
set_option maxHeartbeats 20000000 in
theorem meterDoes_walk {w : World} (s : Sess) (hs : s.Ok) (u c : Nat) (hu : u ≤ 18446744073709551615) (hc : c ≤ 18446744073709551615) (now : Int) (hn : inI64 now) :
    Calls Try.prog 3 #[.agg #[.int .u64 s.price, .int .u64 s.limit, .int .u64 s.quota, .int .i64 s.idle, .int .i64 s.state, .int .u64 s.units, .int .i64 s.last], .agg #[.int .u64 u, .int .u64 c], .int .i64 now] w fun e w' => e = .returned (.bool true) ∧ Below w.heap.size w w' := by
  have G := fun w => grant_c (w := w) s u c now hs hu hc hn
  have RG := fun w => rgrant_c (w := w) s u c now hs hu hc hn
  have NW := fun w => new_c (w := w) s.price s.limit s.quota s.idle now hs.price hs.limit hs.quota hs.idle hn
  have RN := fun w => rnew_c (w := w) s.price s.limit s.quota s.idle now hs.price hs.limit hs.quota hs.idle hn
  have D := fun w => due_c (w := w) s hs
  have RD := fun w => rdue_c (w := w) s hs
  have O := fun w => owed_c (w := w) s c hs hc
  have RO := fun w => rowed_c (w := w) s c hs hc
  have RF := fun w t => ref_c (w := w) t
  generalize mGrant s u c now = gr at *
  generalize mNew s.price s.limit s.quota s.idle now = nr at *
  generalize mDue s = due at *
  generalize mOwed s c = ow at *
  obtain ⟨ga, ge⟩ := gr
  obtain ⟨na, ne⟩ := nr
  dsimp only at *
  go_enter Try.func3, Try.ntmps3
  go_upto_region 1 with fail
  obtain ⟨w1, hw1⟩ : ∃ w1, w1 = (w.alloc (.cells #[.int .u64 s.price, .int .u64 s.limit, .int .u64 s.quota, .int .i64 s.idle, .int .i64 s.state, .int .u64 s.units, .int .i64 s.last] 24)).alloc (.cells #[.int .u64 u, .int .u64 c] 25) := ⟨_, rfl⟩
  have h1 : w1.heap[w.heap.size]? = some (.cells #[.int .u64 s.price, .int .u64 s.limit, .int .u64 s.quota, .int .i64 s.idle, .int .i64 s.state, .int .u64 s.units, .int .i64 s.last] 24 (0, 0)) := by rw [hw1]; exact (heap_alloc_old (by simp)).trans heap_alloc_same
  have r1 : w1.heap[w.heap.size + 1]? = some (.cells #[.int .u64 u, .int .u64 c] 25 (0, 0)) := by rw [hw1]; exact heap_alloc_at (by simp)
  have K1 : Keeps [] w w1 := by rw [hw1]; exact (keeps_alloc w _).alloc _
  rw [← hw1]
  clear hw1
  obtain ⟨B, hB⟩ : ∃ B, B = w.heap.size := ⟨_, rfl⟩
  obtain ⟨C, hC⟩ : ∃ C, C = B + 1 := ⟨_, rfl⟩
  rw [← hB, ← hC] at r1 ⊢
  rw [← hB] at h1
  clear hB hC
  obtain ⟨d0, d1, d2, d3, d4, d5, d6⟩ := cells7 h1
  have c0 := (cell_of_heap (o := 0) r1).trans rfl
  have c1 := (cell_of_heap (o := 1) r1).trans rfl
  go_wp2_with fail
  refine (G _).mono ?_
  rintro e w2 ⟨rfl, k2⟩
  have h2 := k2.heap (by simp) h1
  have r2 := k2.heap (by simp) r1
  have K2 := K1.trans k2
  clear d0 d1 d2 d3 d4 d5 d6 c0 c1 h1 r1 K1 k2 G
  obtain ⟨w3, hw3⟩ : ∃ w3, w3 = w2.alloc (.cells #[.int .u64 ga.price, .int .u64 ga.limit, .int .u64 ga.quota, .int .i64 ga.idle, .int .i64 ga.state, .int .u64 ga.units, .int .i64 ga.last] 24) := ⟨_, rfl⟩
  obtain ⟨A, hA⟩ : ∃ A, A = w2.heap.size := ⟨_, rfl⟩
  have q3 : DoesQ w B C A s ga u c w3 := ⟨by rw [hw3]; exact (heap_alloc_old (lt_of_heap h2)).trans h2, by rw [hw3]; exact (heap_alloc_old (lt_of_heap r2)).trans r2, by rw [hw3, hA]; exact heap_alloc_same, by rw [hw3]; exact K2.alloc _⟩
  go_upto_region 2 with fail
  rw [← hw3, ← hA]
  clear hw3 hA h2 r2 K2
  go_cut [9, 10] (fun v9 v10 wx => ∃ R, v9 = .pointer (some ⟨R, 0, none⟩) ∧ v10 = .int .i64 ge ∧ DoesQ w B C A s ga u c wx ∧ wx.heap[R]? = some (.cells #[.int .u64 ga.price, .int .u64 ga.limit, .int .u64 ga.quota, .int .i64 ga.idle, .int .i64 ga.state, .int .u64 ga.units, .int .i64 ga.last] 29 (0, 0)))
  case first =>
    refine wp_region_held_drew (S := (DoesQ w B C A s ga u c)) (by kernel_rfl) (q3.keep (Keeps.refl _ _).drew) (fun hHeld => ?_)
    clear q3
    generalize w3.drew = w4 at *
    refine wpAnyH_take (i := 0) (oi := Oper.mk _ _ _ _ _ _) (v := ?_) rfl (by kernel_rfl) (by kernel_rfl) (by kernel_rfl) (fun _ _ _ h => h) (Or.inl ⟨by rfl, ?_⟩) hHeld ?_
    rotate_left
    · (intro w hSw; (try dsimp only at hSw); obtain ⟨e0, e1, e2, e3, e4, e5, e6⟩ := cells7 hSw.s; (first | (go_simp; done) | (go_simp; with_reducible rfl)))
    try simp only [Act.put, List.setIfInBounds_toArray, List.set_cons_zero, List.set_cons_succ]
    refine wpAnyH_take (i := 2) (oi := Oper.mk _ _ _ _ _ _) (v := ?_) rfl (by kernel_rfl) (by kernel_rfl) (by kernel_rfl) (fun _ _ _ h => h) (Or.inl ⟨by rfl, ?_⟩) hHeld ?_
    rotate_left
    · (intro w hSw; (try dsimp only at hSw); (first | (go_simp; done) | (go_simp; with_reducible rfl)))
    try simp only [Act.put, List.setIfInBounds_toArray, List.set_cons_zero, List.set_cons_succ]
    refine wpAnyH_take (i := 3) (oi := Oper.mk _ _ _ _ _ _) (v := ?_) rfl (by kernel_rfl) (by kernel_rfl) (by kernel_rfl) (fun _ _ _ h => h) (Or.inl ⟨by rfl, ?_⟩) hHeld ?_
    rotate_left
    · (intro w hSw; (try dsimp only at hSw); have e0 := (cell_of_heap (o := 0) hSw.f).trans rfl; (first | (go_simp; done) | (go_simp; with_reducible rfl)))
    try simp only [Act.put, List.setIfInBounds_toArray, List.set_cons_zero, List.set_cons_succ]
    refine wpAnyH_take (i := 4) (oi := Oper.mk _ _ _ _ _ _) (v := ?_) rfl (by kernel_rfl) (by kernel_rfl) (by kernel_rfl) (fun _ _ _ h => h) (Or.inl ⟨by rfl, ?_⟩) hHeld ?_
    rotate_left
    · (intro w hSw; (try dsimp only at hSw); (first | (go_simp; done) | (go_simp; with_reducible rfl)))
    try simp only [Act.put, List.setIfInBounds_toArray, List.set_cons_zero, List.set_cons_succ]
    refine wpAnyH_take (i := 5) (oi := Oper.mk _ _ _ _ _ _) (v := ?_) rfl (by kernel_rfl) (by kernel_rfl) (by kernel_rfl) (fun _ _ _ h => h) (Or.inl ⟨by rfl, ?_⟩) hHeld ?_
    rotate_left
    · (intro w hSw; (try dsimp only at hSw); have e0 := (cell_of_heap (o := 1) hSw.f).trans rfl; (first | (go_simp; done) | (go_simp; with_reducible rfl)))
    try simp only [Act.put, List.setIfInBounds_toArray, List.set_cons_zero, List.set_cons_succ]
    refine wpAnyH_take (i := 6) (oi := Oper.mk _ _ _ _ _ _) (v := ?_) rfl (by kernel_rfl) (by kernel_rfl) (by kernel_rfl) (fun _ _ _ h => h) (Or.inl ⟨by rfl, ?_⟩) hHeld ?_
    rotate_left
    · (intro w hSw; (try dsimp only at hSw); (first | (go_simp; done) | (go_simp; with_reducible rfl)))
    try simp only [Act.put, List.setIfInBounds_toArray, List.set_cons_zero, List.set_cons_succ]
    refine wpAnyH_ready (rs := [1, 11]) (by kernel_rfl) (by simp) ?_
    refine AllReadyH.cons (o := Oper.mk _ _ _ _ _ _) rfl (fun K hK => ?_) (AllReadyH.cons (o := Oper.mk _ _ _ _ _ _) rfl (fun K hK => ?_) (AllReadyH.nil))
    · (go_simp; refine (RF _ _).mono ?_; rintro e w5 ⟨rfl, k5⟩)
      refine hK.out _ _ (hHeld.keep k5) (fun hNew => ?_)
      clear hHeld hK
      have hHeld := hNew
      clear hNew
      try simp only [Act.put, List.setIfInBounds_toArray, List.set_cons_zero, List.set_cons_succ]
      clear k5
      refine wpAnyH_ready (rs := [7, 11]) (by kernel_rfl) (by simp) ?_
      refine AllReadyH.cons (o := Oper.mk _ _ _ _ _ _) rfl (fun K hK => ?_) (AllReadyH.cons (o := Oper.mk _ _ _ _ _ _) rfl (fun K hK => ?_) (AllReadyH.nil))
      · (go_simp; refine (RG _).mono ?_; rintro e w6 ⟨rfl, k6⟩)
        refine hK.out _ _ (hHeld.keep k6) (fun hNew => ?_)
        clear hHeld hK
        have hHeld := hNew
        clear hNew
        try simp only [Act.put, List.setIfInBounds_toArray, List.set_cons_zero, List.set_cons_succ]
        clear k6
        refine wpAnyH_take (i := 8) (oi := Oper.mk _ _ _ _ _ _) (v := ?_) rfl (by kernel_rfl) (by kernel_rfl) (by kernel_rfl) (fun _ _ _ h => h) (Or.inl ⟨by rfl, ?_⟩) hHeld ?_
        rotate_left
        · (intro w hSw; (try dsimp only at hSw); (first | (go_simp; done) | (go_simp; with_reducible rfl)))
        try simp only [Act.put, List.setIfInBounds_toArray, List.set_cons_zero, List.set_cons_succ]
        refine wpAnyH_take (i := 9) (oi := Oper.mk _ _ _ _ _ _) (v := ?_) rfl (by kernel_rfl) (by kernel_rfl) (by kernel_rfl) (fun _ _ _ h => h) (Or.inl ⟨by rfl, ?_⟩) hHeld ?_
        rotate_left
        · (intro w hSw; (try dsimp only at hSw); (first | (go_simp; done) | (go_simp; with_reducible rfl)))
        try simp only [Act.put, List.setIfInBounds_toArray, List.set_cons_zero, List.set_cons_succ]
        refine wpAnyH_take (i := 10) (oi := Oper.mk _ _ _ _ _ _) (v := ?_) rfl (by kernel_rfl) (by kernel_rfl) (by kernel_rfl) (fun _ _ _ h => h) (Or.inl ⟨by rfl, ?_⟩) hHeld ?_
        rotate_left
        · (intro w hSw; (try dsimp only at hSw); (first | (go_simp; done) | (go_simp; with_reducible rfl)))
        try simp only [Act.put, List.setIfInBounds_toArray, List.set_cons_zero, List.set_cons_succ]
        refine wpAnyH_ready (rs := [11]) (by kernel_rfl) (by simp) ?_
        refine AllReadyH.cons (o := Oper.mk _ _ _ _ _ _) rfl (fun K hK => ?_) (AllReadyH.nil)
        · have hlt : B < w6.heap.size ∧ C < w6.heap.size ∧ A < w6.heap.size ∧ w.heap.size ≤ w6.heap.size := ⟨lt_of_heap hHeld.s, lt_of_heap hHeld.f, lt_of_heap hHeld.a, hHeld.k.size⟩
          go_simp
          refine hK.out _ _ (hHeld.keep (keeps_alloc _ _)) (fun hNew => ?_)
          clear hHeld hK
          have hHeld := hNew
          clear hNew
          try simp only [Act.put, List.setIfInBounds_toArray, List.set_cons_zero, List.set_cons_succ]
          have hz := heap_alloc_same (w := w6) (o := .cells #[.int .u64 0, .int .u64 0, .int .u64 0, .int .i64 0, .int .i64 0, .int .u64 0, .int .i64 0] 29)
          generalize w6.alloc (.cells #[.int .u64 0, .int .u64 0, .int .u64 0, .int .i64 0, .int .i64 0, .int .u64 0, .int .i64 0] 29) = wz at *
          generalize w6.heap.size = R at *
          obtain ⟨w8, hw8, h8, o8, K8⟩ := sess_stored hz hHeld.k hlt.2.2.2 (.int .u64 ga.price) (.int .u64 ga.limit) (.int .u64 ga.quota) (.int .i64 ga.idle) (.int .i64 ga.state) (.int .u64 ga.units) (.int .i64 ga.last)
          have q8 : DoesQ w B C A s ga u c w8 := ⟨(o8 B (by omega)).trans hHeld.s, (o8 C (by omega)).trans hHeld.f, (o8 A (by omega)).trans hHeld.a, K8⟩
          have f8 := fun i => frozen_of_heap (o := i) hz
          obtain ⟨z0, z1, z2, z3, z4, z5, z6⟩ := cells7 hz
          refine wpAnyH_ready (rs := [12]) (by kernel_rfl) (by simp) ?_
          refine AllReadyH.cons (o := Oper.mk _ _ _ _ _ _) rfl (fun K hK => ?_) AllReadyH.nil
          go_simp
          rw [← hw8]
          refine hK.out _ _ (q8) (fun hNew => ?_)
          clear hHeld hK
          have hHeld := hNew
          clear hNew
          try simp only [Act.put, List.setIfInBounds_toArray, List.set_cons_zero, List.set_cons_succ]
          refine wpAnyH_take (i := 13) (oi := Oper.mk _ _ _ _ _ _) (v := ?_) rfl (by kernel_rfl) (by kernel_rfl) (by kernel_rfl) (fun _ _ _ h => h) (Or.inl ⟨by rfl, ?_⟩) hHeld ?_
          rotate_left
          · (intro w hSw; (try dsimp only at hSw); (first | (go_simp; done) | (go_simp; with_reducible rfl)))
          try simp only [Act.put, List.setIfInBounds_toArray, List.set_cons_zero, List.set_cons_succ]
          refine wpAnyH_done (by kernel_rfl) ?_ _
          go_wp2_with fail
          go_meet
          case rel => exact ⟨R, rfl, rfl, hHeld, h8⟩
      · have hlt : B < w5.heap.size ∧ C < w5.heap.size ∧ A < w5.heap.size ∧ w.heap.size ≤ w5.heap.size := ⟨lt_of_heap hHeld.s, lt_of_heap hHeld.f, lt_of_heap hHeld.a, hHeld.k.size⟩
        go_simp
        refine hK.out _ _ (hHeld.keep (keeps_alloc _ _)) (fun hNew => ?_)
        clear hHeld hK
        have hHeld := hNew
        clear hNew
        try simp only [Act.put, List.setIfInBounds_toArray, List.set_cons_zero, List.set_cons_succ]
        have hz := heap_alloc_same (w := w5) (o := .cells #[.int .u64 0, .int .u64 0, .int .u64 0, .int .i64 0, .int .i64 0, .int .u64 0, .int .i64 0] 29)
        generalize w5.alloc (.cells #[.int .u64 0, .int .u64 0, .int .u64 0, .int .i64 0, .int .i64 0, .int .u64 0, .int .i64 0] 29) = wz at *
        generalize w5.heap.size = R at *
        refine wpAnyH_ready (rs := [7]) (by kernel_rfl) (by simp) ?_
        refine AllReadyH.cons (o := Oper.mk _ _ _ _ _ _) rfl (fun K hK => ?_) AllReadyH.nil
        (go_simp; refine (RG _).mono ?_; rintro e w6 ⟨rfl, k6⟩; replace hz := k6.heap (by simp) hz)
        refine hK.out _ _ (hHeld.keep k6) (fun hNew => ?_)
        clear hHeld hK
        have hHeld := hNew
        clear hNew
        try simp only [Act.put, List.setIfInBounds_toArray, List.set_cons_zero, List.set_cons_succ]
        clear k6
        refine wpAnyH_take (i := 8) (oi := Oper.mk _ _ _ _ _ _) (v := ?_) rfl (by kernel_rfl) (by kernel_rfl) (by kernel_rfl) (fun _ _ _ h => h) (Or.inl ⟨by rfl, ?_⟩) hHeld ?_
        rotate_left
        · (intro w hSw; (try dsimp only at hSw); (first | (go_simp; done) | (go_simp; with_reducible rfl)))
        try simp only [Act.put, List.setIfInBounds_toArray, List.set_cons_zero, List.set_cons_succ]
        refine wpAnyH_take (i := 9) (oi := Oper.mk _ _ _ _ _ _) (v := ?_) rfl (by kernel_rfl) (by kernel_rfl) (by kernel_rfl) (fun _ _ _ h => h) (Or.inl ⟨by rfl, ?_⟩) hHeld ?_
        rotate_left
        · (intro w hSw; (try dsimp only at hSw); (first | (go_simp; done) | (go_simp; with_reducible rfl)))
        try simp only [Act.put, List.setIfInBounds_toArray, List.set_cons_zero, List.set_cons_succ]
        refine wpAnyH_take (i := 10) (oi := Oper.mk _ _ _ _ _ _) (v := ?_) rfl (by kernel_rfl) (by kernel_rfl) (by kernel_rfl) (fun _ _ _ h => h) (Or.inl ⟨by rfl, ?_⟩) hHeld ?_
        rotate_left
        · (intro w hSw; (try dsimp only at hSw); (first | (go_simp; done) | (go_simp; with_reducible rfl)))
        try simp only [Act.put, List.setIfInBounds_toArray, List.set_cons_zero, List.set_cons_succ]
        obtain ⟨w8, hw8, h8, o8, K8⟩ := sess_stored hz hHeld.k hlt.2.2.2 (.int .u64 ga.price) (.int .u64 ga.limit) (.int .u64 ga.quota) (.int .i64 ga.idle) (.int .i64 ga.state) (.int .u64 ga.units) (.int .i64 ga.last)
        have q8 : DoesQ w B C A s ga u c w8 := ⟨(o8 B (by omega)).trans hHeld.s, (o8 C (by omega)).trans hHeld.f, (o8 A (by omega)).trans hHeld.a, K8⟩
        have f8 := fun i => frozen_of_heap (o := i) hz
        obtain ⟨z0, z1, z2, z3, z4, z5, z6⟩ := cells7 hz
        refine wpAnyH_ready (rs := [12]) (by kernel_rfl) (by simp) ?_
        refine AllReadyH.cons (o := Oper.mk _ _ _ _ _ _) rfl (fun K hK => ?_) AllReadyH.nil
        go_simp
        rw [← hw8]
        refine hK.out _ _ (q8) (fun hNew => ?_)
        clear hHeld hK
        have hHeld := hNew
        clear hNew
        try simp only [Act.put, List.setIfInBounds_toArray, List.set_cons_zero, List.set_cons_succ]
        refine wpAnyH_take (i := 13) (oi := Oper.mk _ _ _ _ _ _) (v := ?_) rfl (by kernel_rfl) (by kernel_rfl) (by kernel_rfl) (fun _ _ _ h => h) (Or.inl ⟨by rfl, ?_⟩) hHeld ?_
        rotate_left
        · (intro w hSw; (try dsimp only at hSw); (first | (go_simp; done) | (go_simp; with_reducible rfl)))
        try simp only [Act.put, List.setIfInBounds_toArray, List.set_cons_zero, List.set_cons_succ]
        refine wpAnyH_done (by kernel_rfl) ?_ _
        go_wp2_with fail
        go_meet
        case rel => exact ⟨R, rfl, rfl, hHeld, h8⟩
    · have hlt : B < w4.heap.size ∧ C < w4.heap.size ∧ A < w4.heap.size ∧ w.heap.size ≤ w4.heap.size := ⟨lt_of_heap hHeld.s, lt_of_heap hHeld.f, lt_of_heap hHeld.a, hHeld.k.size⟩
      go_simp
      refine hK.out _ _ (hHeld.keep (keeps_alloc _ _)) (fun hNew => ?_)
      clear hHeld hK
      have hHeld := hNew
      clear hNew
      try simp only [Act.put, List.setIfInBounds_toArray, List.set_cons_zero, List.set_cons_succ]
      have hz := heap_alloc_same (w := w4) (o := .cells #[.int .u64 0, .int .u64 0, .int .u64 0, .int .i64 0, .int .i64 0, .int .u64 0, .int .i64 0] 29)
      generalize w4.alloc (.cells #[.int .u64 0, .int .u64 0, .int .u64 0, .int .i64 0, .int .i64 0, .int .u64 0, .int .i64 0] 29) = wz at *
      generalize w4.heap.size = R at *
      refine wpAnyH_ready (rs := [1]) (by kernel_rfl) (by simp) ?_
      refine AllReadyH.cons (o := Oper.mk _ _ _ _ _ _) rfl (fun K hK => ?_) AllReadyH.nil
      (go_simp; refine (RF _ _).mono ?_; rintro e w5 ⟨rfl, k5⟩; replace hz := k5.heap (by simp) hz)
      refine hK.out _ _ (hHeld.keep k5) (fun hNew => ?_)
      clear hHeld hK
      have hHeld := hNew
      clear hNew
      try simp only [Act.put, List.setIfInBounds_toArray, List.set_cons_zero, List.set_cons_succ]
      clear k5
      refine wpAnyH_ready (rs := [7]) (by kernel_rfl) (by simp) ?_
      refine AllReadyH.cons (o := Oper.mk _ _ _ _ _ _) rfl (fun K hK => ?_) AllReadyH.nil
      (go_simp; refine (RG _).mono ?_; rintro e w6 ⟨rfl, k6⟩; replace hz := k6.heap (by simp) hz)
      refine hK.out _ _ (hHeld.keep k6) (fun hNew => ?_)
      clear hHeld hK
      have hHeld := hNew
      clear hNew
      try simp only [Act.put, List.setIfInBounds_toArray, List.set_cons_zero, List.set_cons_succ]
      clear k6
      refine wpAnyH_take (i := 8) (oi := Oper.mk _ _ _ _ _ _) (v := ?_) rfl (by kernel_rfl) (by kernel_rfl) (by kernel_rfl) (fun _ _ _ h => h) (Or.inl ⟨by rfl, ?_⟩) hHeld ?_
      rotate_left
      · (intro w hSw; (try dsimp only at hSw); (first | (go_simp; done) | (go_simp; with_reducible rfl)))
      try simp only [Act.put, List.setIfInBounds_toArray, List.set_cons_zero, List.set_cons_succ]
      refine wpAnyH_take (i := 9) (oi := Oper.mk _ _ _ _ _ _) (v := ?_) rfl (by kernel_rfl) (by kernel_rfl) (by kernel_rfl) (fun _ _ _ h => h) (Or.inl ⟨by rfl, ?_⟩) hHeld ?_
      rotate_left
      · (intro w hSw; (try dsimp only at hSw); (first | (go_simp; done) | (go_simp; with_reducible rfl)))
      try simp only [Act.put, List.setIfInBounds_toArray, List.set_cons_zero, List.set_cons_succ]
      refine wpAnyH_take (i := 10) (oi := Oper.mk _ _ _ _ _ _) (v := ?_) rfl (by kernel_rfl) (by kernel_rfl) (by kernel_rfl) (fun _ _ _ h => h) (Or.inl ⟨by rfl, ?_⟩) hHeld ?_
      rotate_left
      · (intro w hSw; (try dsimp only at hSw); (first | (go_simp; done) | (go_simp; with_reducible rfl)))
      try simp only [Act.put, List.setIfInBounds_toArray, List.set_cons_zero, List.set_cons_succ]
      obtain ⟨w8, hw8, h8, o8, K8⟩ := sess_stored hz hHeld.k hlt.2.2.2 (.int .u64 ga.price) (.int .u64 ga.limit) (.int .u64 ga.quota) (.int .i64 ga.idle) (.int .i64 ga.state) (.int .u64 ga.units) (.int .i64 ga.last)
      have q8 : DoesQ w B C A s ga u c w8 := ⟨(o8 B (by omega)).trans hHeld.s, (o8 C (by omega)).trans hHeld.f, (o8 A (by omega)).trans hHeld.a, K8⟩
      have f8 := fun i => frozen_of_heap (o := i) hz
      obtain ⟨z0, z1, z2, z3, z4, z5, z6⟩ := cells7 hz
      refine wpAnyH_ready (rs := [12]) (by kernel_rfl) (by simp) ?_
      refine AllReadyH.cons (o := Oper.mk _ _ _ _ _ _) rfl (fun K hK => ?_) AllReadyH.nil
      go_simp
      rw [← hw8]
      refine hK.out _ _ (q8) (fun hNew => ?_)
      clear hHeld hK
      have hHeld := hNew
      clear hNew
      try simp only [Act.put, List.setIfInBounds_toArray, List.set_cons_zero, List.set_cons_succ]
      refine wpAnyH_take (i := 13) (oi := Oper.mk _ _ _ _ _ _) (v := ?_) rfl (by kernel_rfl) (by kernel_rfl) (by kernel_rfl) (fun _ _ _ h => h) (Or.inl ⟨by rfl, ?_⟩) hHeld ?_
      rotate_left
      · (intro w hSw; (try dsimp only at hSw); (first | (go_simp; done) | (go_simp; with_reducible rfl)))
      try simp only [Act.put, List.setIfInBounds_toArray, List.set_cons_zero, List.set_cons_succ]
      refine wpAnyH_done (by kernel_rfl) ?_ _
      go_wp2_with fail
      go_meet
      case rel => exact ⟨R, rfl, rfl, hHeld, h8⟩
  case rest =>
    clear q3 RG
    obtain ⟨R, rfl, rfl, q4, r4⟩ := hcut
    obtain ⟨d0, d1, d2, d3, d4, d5, d6⟩ := cells7 q4.s
    go_wp2_with fail
    refine (NW _).mono ?_
    rintro e w5 ⟨rfl, k5⟩
    obtain ⟨w6, hw6⟩ : ∃ w6, w6 = w5.alloc (.cells #[.int .u64 na.price, .int .u64 na.limit, .int .u64 na.quota, .int .i64 na.idle, .int .i64 na.state, .int .u64 na.units, .int .i64 na.last] 24) := ⟨_, rfl⟩
    obtain ⟨N, hN⟩ : ∃ N, N = w5.heap.size := ⟨_, rfl⟩
    have q6 : DoesQ w B C A s ga u c w6 := by rw [hw6]; exact (q4.keep k5).keep (keeps_alloc _ _)
    have r6 : w6.heap[R]? = some (.cells #[.int .u64 ga.price, .int .u64 ga.limit, .int .u64 ga.quota, .int .i64 ga.idle, .int .i64 ga.state, .int .u64 ga.units, .int .i64 ga.last] 29 (0, 0)) := by rw [hw6]; exact (keeps_alloc w5 _).heap (by simp) (k5.heap (by simp) r4)
    have n6 : w6.heap[N]? = some (.cells #[.int .u64 na.price, .int .u64 na.limit, .int .u64 na.quota, .int .i64 na.idle, .int .i64 na.state, .int .u64 na.units, .int .i64 na.last] 24 (0, 0)) := by rw [hw6, hN]; exact heap_alloc_same
    clear d0 d1 d2 d3 d4 d5 d6 NW q4 r4 k5
    go_upto_region 4 with fail
    rw [← hw6, ← hN]
    clear hw6 hN
    obtain ⟨d0, d1, d2, d3, d4, d5, d6⟩ := cells7 q6.s
    go_wp2_with fail
    refine (RN _).mono ?_
    rintro e w7 ⟨rfl, k7⟩
    obtain ⟨w8, hw8⟩ : ∃ w8, w8 = w7.alloc (.cells #[.int .u64 na.price, .int .u64 na.limit, .int .u64 na.quota, .int .i64 na.idle, .int .i64 na.state, .int .u64 na.units, .int .i64 na.last] 29) := ⟨_, rfl⟩
    obtain ⟨M, hM⟩ : ∃ M, M = w7.heap.size := ⟨_, rfl⟩
    have q8 : DoesQ w B C A s ga u c w8 := by rw [hw8]; exact (q6.keep k7).keep (keeps_alloc _ _)
    have r8 : w8.heap[R]? = some (.cells #[.int .u64 ga.price, .int .u64 ga.limit, .int .u64 ga.quota, .int .i64 ga.idle, .int .i64 ga.state, .int .u64 ga.units, .int .i64 ga.last] 29 (0, 0)) := by rw [hw8]; exact (keeps_alloc w7 _).heap (by simp) (k7.heap (by simp) r6)
    have n8 : w8.heap[N]? = some (.cells #[.int .u64 na.price, .int .u64 na.limit, .int .u64 na.quota, .int .i64 na.idle, .int .i64 na.state, .int .u64 na.units, .int .i64 na.last] 24 (0, 0)) := by rw [hw8]; exact (keeps_alloc w7 _).heap (by simp) (k7.heap (by simp) n6)
    have m8 : w8.heap[M]? = some (.cells #[.int .u64 na.price, .int .u64 na.limit, .int .u64 na.quota, .int .i64 na.idle, .int .i64 na.state, .int .u64 na.units, .int .i64 na.last] 29 (0, 0)) := by rw [hw8, hM]; exact heap_alloc_same
    have Q8 : DoesS w B C A R N M s ga na u c w8 := ⟨q8.s, q8.f, q8.a, r8, n8, m8, q8.k⟩
    clear d0 d1 d2 d3 d4 d5 d6 RN q6 r6 n6 k7 q8 r8 n8 m8
    go_upto_region 5 with fail
    rw [← hw8, ← hM]
    clear hw8 hM
    refine wp_region_held_drew (S := (DoesS w B C A R N M s ga na u c)) (by kernel_rfl) (Q8.keep (Keeps.refl _ _).drew) (fun hHeld => ?_)
    clear Q8
    refine wpAnyH_take (i := 0) (oi := Oper.mk _ _ _ _ _ _) (v := ?_) rfl (by kernel_rfl) (by kernel_rfl) (by kernel_rfl) (fun _ _ _ h => h) (Or.inl ⟨by rfl, ?_⟩) hHeld ?_
    rotate_left
    · (intro w hSw; (try dsimp only at hSw); obtain ⟨e0, e1, e2, e3, e4, e5, e6⟩ := cells7 hSw.a; (first | (go_simp; done) | (go_simp; with_reducible rfl)))
    try simp only [Act.put, List.setIfInBounds_toArray, List.set_cons_zero, List.set_cons_succ]
    refine wpAnyH_take (i := 2) (oi := Oper.mk _ _ _ _ _ _) (v := ?_) rfl (by kernel_rfl) (by kernel_rfl) (by kernel_rfl) (fun _ _ _ h => h) (Or.inl ⟨by rfl, ?_⟩) hHeld ?_
    rotate_left
    · (intro w hSw; (try dsimp only at hSw); obtain ⟨e0, e1, e2, e3, e4, e5, e6⟩ := cells7 hSw.r; (first | (go_simp; done) | (go_simp; with_reducible rfl)))
    try simp only [Act.put, List.setIfInBounds_toArray, List.set_cons_zero, List.set_cons_succ]
    refine wpAnyH_ready (rs := [1]) (by kernel_rfl) (by simp) ?_
    refine AllReadyH.cons (o := Oper.mk _ _ _ _ _ _) rfl (fun K hK => ?_) AllReadyH.nil
    (go_simp; refine (RF _ _).mono ?_; rintro e w9 ⟨rfl, k9⟩)
    refine hK.out _ _ (hHeld.keep k9) (fun hNew => ?_)
    clear hHeld hK
    have hHeld := hNew
    clear hNew
    try simp only [Act.put, List.setIfInBounds_toArray, List.set_cons_zero, List.set_cons_succ]
    clear k9
    refine wpAnyH_take (i := 3) (oi := Oper.mk _ _ _ _ _ _) (v := ?_) rfl (by kernel_rfl) (by kernel_rfl) (by kernel_rfl) (fun _ _ _ h => h) (Or.inl ⟨by rfl, ?_⟩) hHeld ?_
    rotate_left
    · (intro w hSw; (try dsimp only at hSw); (first | (go_simp; done) | (go_simp; with_reducible rfl)))
    try simp only [Act.put, List.setIfInBounds_toArray, List.set_cons_zero, List.set_cons_succ]
    refine wpAnyH_take (i := 4) (oi := Oper.mk _ _ _ _ _ _) (v := ?_) rfl (by kernel_rfl) (by kernel_rfl) (by kernel_rfl) (fun _ _ _ h => h) (Or.inl ⟨by rfl, ?_⟩) hHeld ?_
    rotate_left
    · (intro w hSw; (try dsimp only at hSw); (first | (go_simp; done) | (go_simp; with_reducible rfl)))
    try simp only [Act.put, List.setIfInBounds_toArray, List.set_cons_zero, List.set_cons_succ]
    refine wpAnyH_take (i := 5) (oi := Oper.mk _ _ _ _ _ _) (v := ?_) rfl (by kernel_rfl) (by kernel_rfl) (by kernel_rfl) (fun _ _ _ h => h) (Or.inl ⟨by rfl, ?_⟩) hHeld ?_
    rotate_left
    · (intro w hSw; (try dsimp only at hSw); (first | (go_simp; done) | (go_simp; with_reducible rfl)))
    try simp only [Act.put, List.setIfInBounds_toArray, List.set_cons_zero, List.set_cons_succ]
    refine wpAnyH_take (i := 6) (oi := Oper.mk _ _ _ _ _ _) (v := ?_) rfl (by kernel_rfl) (by kernel_rfl) (by kernel_rfl) (fun _ _ _ h => h) (Or.inl ⟨by rfl, ?_⟩) hHeld ?_
    rotate_left
    · (intro w hSw; (try dsimp only at hSw); (first | (go_simp; done) | (go_simp; with_reducible rfl)))
    try simp only [Act.put, List.setIfInBounds_toArray, List.set_cons_zero, List.set_cons_succ]
    refine wpAnyH_take (i := 7) (oi := Oper.mk _ _ _ _ _ _) (v := ?_) rfl (by kernel_rfl) (by kernel_rfl) (by kernel_rfl) (fun _ _ _ h => h) (Or.inl ⟨by rfl, ?_⟩) hHeld ?_
    rotate_left
    · (intro w hSw; (try dsimp only at hSw); (first | (go_simp; done) | (go_simp; with_reducible rfl)))
    try simp only [Act.put, List.setIfInBounds_toArray, List.set_cons_zero, List.set_cons_succ]
    refine wpAnyH_take (i := 8) (oi := Oper.mk _ _ _ _ _ _) (v := ?_) rfl (by kernel_rfl) (by kernel_rfl) (by kernel_rfl) (fun _ _ _ h => h) (Or.inl ⟨by rfl, ?_⟩) hHeld ?_
    rotate_left
    · (intro w hSw; (try dsimp only at hSw); (first | (go_simp; done) | (go_simp; with_reducible rfl)))
    try simp only [Act.put, List.setIfInBounds_toArray, List.set_cons_zero, List.set_cons_succ]
    refine wpAnyH_take (i := 9) (oi := Oper.mk _ _ _ _ _ _) (v := ?_) rfl (by kernel_rfl) (by kernel_rfl) (by kernel_rfl) (fun _ _ _ h => h) (Or.inl ⟨by rfl, ?_⟩) hHeld ?_
    rotate_left
    · (intro w hSw; (try dsimp only at hSw); (first | (go_simp; done) | (go_simp; with_reducible rfl)))
    try simp only [Act.put, List.setIfInBounds_toArray, List.set_cons_zero, List.set_cons_succ]
    refine wpAnyH_take (i := 10) (oi := Oper.mk _ _ _ _ _ _) (v := ?_) rfl (by kernel_rfl) (by kernel_rfl) (by kernel_rfl) (fun _ _ _ h => h) (Or.inl ⟨by rfl, ?_⟩) hHeld ?_
    rotate_left
    · (intro w hSw; (try dsimp only at hSw); obtain ⟨e0, e1, e2, e3, e4, e5, e6⟩ := cells7 hSw.n; (first | (go_simp; done) | (go_simp; with_reducible rfl)))
    try simp only [Act.put, List.setIfInBounds_toArray, List.set_cons_zero, List.set_cons_succ]
    refine wpAnyH_take (i := 12) (oi := Oper.mk _ _ _ _ _ _) (v := ?_) rfl (by kernel_rfl) (by kernel_rfl) (by kernel_rfl) (fun _ _ _ h => h) (Or.inl ⟨by rfl, ?_⟩) hHeld ?_
    rotate_left
    · (intro w hSw; (try dsimp only at hSw); obtain ⟨e0, e1, e2, e3, e4, e5, e6⟩ := cells7 hSw.m; (first | (go_simp; done) | (go_simp; with_reducible rfl)))
    try simp only [Act.put, List.setIfInBounds_toArray, List.set_cons_zero, List.set_cons_succ]
    refine wpAnyH_ready (rs := [11]) (by kernel_rfl) (by simp) ?_
    refine AllReadyH.cons (o := Oper.mk _ _ _ _ _ _) rfl (fun K hK => ?_) AllReadyH.nil
    (go_simp; refine (RF _ _).mono ?_; rintro e w9 ⟨rfl, k9⟩)
    refine hK.out _ _ (hHeld.keep k9) (fun hNew => ?_)
    clear hHeld hK
    have hHeld := hNew
    clear hNew
    try simp only [Act.put, List.setIfInBounds_toArray, List.set_cons_zero, List.set_cons_succ]
    clear k9
    refine wpAnyH_take (i := 13) (oi := Oper.mk _ _ _ _ _ _) (v := ?_) rfl (by kernel_rfl) (by kernel_rfl) (by kernel_rfl) (fun _ _ _ h => h) (Or.inl ⟨by rfl, ?_⟩) hHeld ?_
    rotate_left
    · (intro w hSw; (try dsimp only at hSw); (first | (go_simp; done) | (go_simp; with_reducible rfl)))
    try simp only [Act.put, List.setIfInBounds_toArray, List.set_cons_zero, List.set_cons_succ]
    refine wpAnyH_take (i := 14) (oi := Oper.mk _ _ _ _ _ _) (v := ?_) rfl (by kernel_rfl) (by kernel_rfl) (by kernel_rfl) (fun _ _ _ h => h) (Or.inl ⟨by rfl, ?_⟩) hHeld ?_
    rotate_left
    · (intro w hSw; (try dsimp only at hSw); (first | (go_simp; done) | (go_simp; with_reducible rfl)))
    try simp only [Act.put, List.setIfInBounds_toArray, List.set_cons_zero, List.set_cons_succ]
    refine wpAnyH_take (i := 15) (oi := Oper.mk _ _ _ _ _ _) (v := ?_) rfl (by kernel_rfl) (by kernel_rfl) (by kernel_rfl) (fun _ _ _ h => h) (Or.inl ⟨by rfl, ?_⟩) hHeld ?_
    rotate_left
    · (intro w hSw; (try dsimp only at hSw); (first | (go_simp; done) | (go_simp; with_reducible rfl)))
    try simp only [Act.put, List.setIfInBounds_toArray, List.set_cons_zero, List.set_cons_succ]
    refine wpAnyH_take (i := 16) (oi := Oper.mk _ _ _ _ _ _) (v := ?_) rfl (by kernel_rfl) (by kernel_rfl) (by kernel_rfl) (fun _ _ _ h => h) (Or.inl ⟨by rfl, ?_⟩) hHeld ?_
    rotate_left
    · (intro w hSw; (try dsimp only at hSw); (first | (go_simp; done) | (go_simp; with_reducible rfl)))
    try simp only [Act.put, List.setIfInBounds_toArray, List.set_cons_zero, List.set_cons_succ]
    refine wpAnyH_take (i := 17) (oi := Oper.mk _ _ _ _ _ _) (v := ?_) rfl (by kernel_rfl) (by kernel_rfl) (by kernel_rfl) (fun _ _ _ h => h) (Or.inl ⟨by rfl, ?_⟩) hHeld ?_
    rotate_left
    · (intro w hSw; (try dsimp only at hSw); (first | (go_simp; done) | (go_simp; with_reducible rfl)))
    try simp only [Act.put, List.setIfInBounds_toArray, List.set_cons_zero, List.set_cons_succ]
    refine wpAnyH_take (i := 18) (oi := Oper.mk _ _ _ _ _ _) (v := ?_) rfl (by kernel_rfl) (by kernel_rfl) (by kernel_rfl) (fun _ _ _ h => h) (Or.inl ⟨by rfl, ?_⟩) hHeld ?_
    rotate_left
    · (intro w hSw; (try dsimp only at hSw); (first | (go_simp; done) | (go_simp; with_reducible rfl)))
    try simp only [Act.put, List.setIfInBounds_toArray, List.set_cons_zero, List.set_cons_succ]
    refine wpAnyH_take (i := 19) (oi := Oper.mk _ _ _ _ _ _) (v := ?_) rfl (by kernel_rfl) (by kernel_rfl) (by kernel_rfl) (fun _ _ _ h => h) (Or.inl ⟨by rfl, ?_⟩) hHeld ?_
    rotate_left
    · (intro w hSw; (try dsimp only at hSw); (first | (go_simp; done) | (go_simp; with_reducible rfl)))
    try simp only [Act.put, List.setIfInBounds_toArray, List.set_cons_zero, List.set_cons_succ]
    refine wpAnyH_take (i := 20) (oi := Oper.mk _ _ _ _ _ _) (v := ?_) rfl (by kernel_rfl) (by kernel_rfl) (by kernel_rfl) (fun _ _ _ h => h) (Or.inl ⟨by rfl, ?_⟩) hHeld ?_
    rotate_left
    · (intro w hSw; (try dsimp only at hSw); (first | (go_simp; done) | (go_simp; with_reducible rfl)))
    try simp only [Act.put, List.setIfInBounds_toArray, List.set_cons_zero, List.set_cons_succ]
    refine wpAnyH_take (i := 21) (oi := Oper.mk _ _ _ _ _ _) (v := ?_) rfl (by kernel_rfl) (by kernel_rfl) (by kernel_rfl) (fun _ _ _ h => h) (Or.inl ⟨by rfl, ?_⟩) hHeld ?_
    rotate_left
    · (intro w hSw; (try dsimp only at hSw); obtain ⟨e0, e1, e2, e3, e4, e5, e6⟩ := cells7 hSw.s; (first | (go_simp; done) | (go_simp; with_reducible rfl)))
    try simp only [Act.put, List.setIfInBounds_toArray, List.set_cons_zero, List.set_cons_succ]
    refine wpAnyH_take (i := 23) (oi := Oper.mk _ _ _ _ _ _) (v := ?_) rfl (by kernel_rfl) (by kernel_rfl) (by kernel_rfl) (fun _ _ _ h => h) (Or.inl ⟨by rfl, ?_⟩) hHeld ?_
    rotate_left
    · (intro w hSw; (try dsimp only at hSw); obtain ⟨e0, e1, e2, e3, e4, e5, e6⟩ := cells7 hSw.s; (first | (go_simp; done) | (go_simp; with_reducible rfl)))
    try simp only [Act.put, List.setIfInBounds_toArray, List.set_cons_zero, List.set_cons_succ]
    refine wpAnyH_ready (rs := [22]) (by kernel_rfl) (by simp) ?_
    refine AllReadyH.cons (o := Oper.mk _ _ _ _ _ _) rfl (fun K hK => ?_) AllReadyH.nil
    (go_simp; refine (D _).mono ?_; rintro e w9 ⟨rfl, k9⟩)
    refine hK.out _ _ (hHeld.keep k9) (fun hNew => ?_)
    clear hHeld hK
    have hHeld := hNew
    clear hNew
    try simp only [Act.put, List.setIfInBounds_toArray, List.set_cons_zero, List.set_cons_succ]
    clear k9
    refine wpAnyH_ready (rs := [24]) (by kernel_rfl) (by simp) ?_
    refine AllReadyH.cons (o := Oper.mk _ _ _ _ _ _) rfl (fun K hK => ?_) AllReadyH.nil
    (go_simp; refine (RF _ _).mono ?_; rintro e w9 ⟨rfl, k9⟩)
    refine hK.out _ _ (hHeld.keep k9) (fun hNew => ?_)
    clear hHeld hK
    have hHeld := hNew
    clear hNew
    try simp only [Act.put, List.setIfInBounds_toArray, List.set_cons_zero, List.set_cons_succ]
    clear k9
    refine wpAnyH_ready (rs := [25]) (by kernel_rfl) (by simp) ?_
    refine AllReadyH.cons (o := Oper.mk _ _ _ _ _ _) rfl (fun K hK => ?_) AllReadyH.nil
    (go_simp; refine (RD _).mono ?_; rintro e w9 ⟨rfl, k9⟩)
    refine hK.out _ _ (hHeld.keep k9) (fun hNew => ?_)
    clear hHeld hK
    have hHeld := hNew
    clear hNew
    try simp only [Act.put, List.setIfInBounds_toArray, List.set_cons_zero, List.set_cons_succ]
    clear k9
    refine wpAnyH_take (i := 26) (oi := Oper.mk _ _ _ _ _ _) (v := ?_) rfl (by kernel_rfl) (by kernel_rfl) (by kernel_rfl) (fun _ _ _ h => h) (Or.inl ⟨by rfl, ?_⟩) hHeld ?_
    rotate_left
    · (intro w hSw; (try dsimp only at hSw); (first | (go_simp; done) | (go_simp; with_reducible rfl)))
    try simp only [Act.put, List.setIfInBounds_toArray, List.set_cons_zero, List.set_cons_succ]
    refine wpAnyH_take (i := 27) (oi := Oper.mk _ _ _ _ _ _) (v := ?_) rfl (by kernel_rfl) (by kernel_rfl) (by kernel_rfl) (fun _ _ _ h => h) (Or.inl ⟨by rfl, ?_⟩) hHeld ?_
    rotate_left
    · (intro w hSw; (try dsimp only at hSw); (first | (go_simp; done) | (go_simp; with_reducible rfl)))
    try simp only [Act.put, List.setIfInBounds_toArray, List.set_cons_zero, List.set_cons_succ]
    refine wpAnyH_take (i := 28) (oi := Oper.mk _ _ _ _ _ _) (v := ?_) rfl (by kernel_rfl) (by kernel_rfl) (by kernel_rfl) (fun _ _ _ h => h) (Or.inl ⟨by rfl, ?_⟩) hHeld ?_
    rotate_left
    · (intro w hSw; (try dsimp only at hSw); (first | (go_simp; done) | (go_simp; with_reducible rfl)))
    try simp only [Act.put, List.setIfInBounds_toArray, List.set_cons_zero, List.set_cons_succ]
    refine wpAnyH_take (i := 29) (oi := Oper.mk _ _ _ _ _ _) (v := ?_) rfl (by kernel_rfl) (by kernel_rfl) (by kernel_rfl) (fun _ _ _ h => h) (Or.inl ⟨by rfl, ?_⟩) hHeld ?_
    rotate_left
    · (intro w hSw; (try dsimp only at hSw); obtain ⟨e0, e1, e2, e3, e4, e5, e6⟩ := cells7 hSw.s; (first | (go_simp; done) | (go_simp; with_reducible rfl)))
    try simp only [Act.put, List.setIfInBounds_toArray, List.set_cons_zero, List.set_cons_succ]
    refine wpAnyH_take (i := 33) (oi := Oper.mk _ _ _ _ _ _) (v := ?_) rfl (by kernel_rfl) (by kernel_rfl) (by kernel_rfl) (fun _ _ _ h => h) (Or.inl ⟨by rfl, ?_⟩) hHeld ?_
    rotate_left
    · (intro w hSw; (try dsimp only at hSw); obtain ⟨e0, e1, e2, e3, e4, e5, e6⟩ := cells7 hSw.s; (first | (go_simp; done) | (go_simp; with_reducible rfl)))
    try simp only [Act.put, List.setIfInBounds_toArray, List.set_cons_zero, List.set_cons_succ]
    refine wpAnyH_take (i := 30) (oi := Oper.mk _ _ _ _ _ _) (v := ?_) rfl (by kernel_rfl) (by kernel_rfl) (by kernel_rfl) (fun _ _ _ h => h) (Or.inl ⟨by rfl, ?_⟩) hHeld ?_
    rotate_left
    · (intro w hSw; (try dsimp only at hSw); (first | (go_simp; done) | (go_simp; with_reducible rfl)))
    try simp only [Act.put, List.setIfInBounds_toArray, List.set_cons_zero, List.set_cons_succ]
    refine wpAnyH_take (i := 35) (oi := Oper.mk _ _ _ _ _ _) (v := ?_) rfl (by kernel_rfl) (by kernel_rfl) (by kernel_rfl) (fun _ _ _ h => h) (Or.inl ⟨by rfl, ?_⟩) hHeld ?_
    rotate_left
    · (intro w hSw; (try dsimp only at hSw); (first | (go_simp; done) | (go_simp; with_reducible rfl)))
    try simp only [Act.put, List.setIfInBounds_toArray, List.set_cons_zero, List.set_cons_succ]
    refine wpAnyH_take (i := 31) (oi := Oper.mk _ _ _ _ _ _) (v := ?_) rfl (by kernel_rfl) (by kernel_rfl) (by kernel_rfl) (fun _ _ _ h => h) (Or.inl ⟨by rfl, ?_⟩) hHeld ?_
    rotate_left
    · (intro w hSw; (try dsimp only at hSw); have e0 := (cell_of_heap (o := 1) hSw.f).trans rfl; (first | (go_simp; done) | (go_simp; with_reducible rfl)))
    try simp only [Act.put, List.setIfInBounds_toArray, List.set_cons_zero, List.set_cons_succ]
    refine wpAnyH_take (i := 36) (oi := Oper.mk _ _ _ _ _ _) (v := ?_) rfl (by kernel_rfl) (by kernel_rfl) (by kernel_rfl) (fun _ _ _ h => h) (Or.inl ⟨by rfl, ?_⟩) hHeld ?_
    rotate_left
    · (intro w hSw; (try dsimp only at hSw); have e0 := (cell_of_heap (o := 1) hSw.f).trans rfl; (first | (go_simp; done) | (go_simp; with_reducible rfl)))
    try simp only [Act.put, List.setIfInBounds_toArray, List.set_cons_zero, List.set_cons_succ]
    refine wpAnyH_ready (rs := [32]) (by kernel_rfl) (by simp) ?_
    refine AllReadyH.cons (o := Oper.mk _ _ _ _ _ _) rfl (fun K hK => ?_) AllReadyH.nil
    (go_simp; refine (O _).mono ?_; rintro e w9 ⟨rfl, k9⟩)
    refine hK.out _ _ (hHeld.keep k9) (fun hNew => ?_)
    clear hHeld hK
    have hHeld := hNew
    clear hNew
    try simp only [Act.put, List.setIfInBounds_toArray, List.set_cons_zero, List.set_cons_succ]
    clear k9
    refine wpAnyH_ready (rs := [34]) (by kernel_rfl) (by simp) ?_
    refine AllReadyH.cons (o := Oper.mk _ _ _ _ _ _) rfl (fun K hK => ?_) AllReadyH.nil
    (go_simp; refine (RF _ _).mono ?_; rintro e w9 ⟨rfl, k9⟩)
    refine hK.out _ _ (hHeld.keep k9) (fun hNew => ?_)
    clear hHeld hK
    have hHeld := hNew
    clear hNew
    try simp only [Act.put, List.setIfInBounds_toArray, List.set_cons_zero, List.set_cons_succ]
    clear k9
    refine wpAnyH_ready (rs := [37]) (by kernel_rfl) (by simp) ?_
    refine AllReadyH.cons (o := Oper.mk _ _ _ _ _ _) rfl (fun K hK => ?_) AllReadyH.nil
    (go_simp; refine (RO _).mono ?_; rintro e w9 ⟨rfl, k9⟩)
    refine hK.out _ _ (hHeld.keep k9) (fun hNew => ?_)
    clear hHeld hK
    have hHeld := hNew
    clear hNew
    try simp only [Act.put, List.setIfInBounds_toArray, List.set_cons_zero, List.set_cons_succ]
    clear k9
    refine wpAnyH_take (i := 38) (oi := Oper.mk _ _ _ _ _ _) (v := ?_) rfl (by kernel_rfl) (by kernel_rfl) (by kernel_rfl) (fun _ _ _ h => h) (Or.inl ⟨by rfl, ?_⟩) hHeld ?_
    rotate_left
    · (intro w hSw; (try dsimp only at hSw); (first | (go_simp; done) | (go_simp; with_reducible rfl)))
    try simp only [Act.put, List.setIfInBounds_toArray, List.set_cons_zero, List.set_cons_succ]
    refine wpAnyH_take (i := 39) (oi := Oper.mk _ _ _ _ _ _) (v := ?_) rfl (by kernel_rfl) (by kernel_rfl) (by kernel_rfl) (fun _ _ _ h => h) (Or.inl ⟨by rfl, ?_⟩) hHeld ?_
    rotate_left
    · (intro w hSw; (try dsimp only at hSw); (first | (go_simp; done) | (go_simp; with_reducible rfl)))
    try simp only [Act.put, List.setIfInBounds_toArray, List.set_cons_zero, List.set_cons_succ]
    refine wpAnyH_take (i := 40) (oi := Oper.mk _ _ _ _ _ _) (v := ?_) rfl (by kernel_rfl) (by kernel_rfl) (by kernel_rfl) (fun _ _ _ h => h) (Or.inl ⟨by rfl, ?_⟩) hHeld ?_
    rotate_left
    · (intro w hSw; (try dsimp only at hSw); (first | (go_simp; done) | (go_simp; with_reducible rfl)))
    try simp only [Act.put, List.setIfInBounds_toArray, List.set_cons_zero, List.set_cons_succ]
    refine wpAnyH_ready (rs := [41]) (by kernel_rfl) (by simp) ?_
    refine AllReadyH.cons (o := Oper.mk _ _ _ _ _ _) rfl (fun K hK => ?_) AllReadyH.nil
    (go_simp; refine (fixed_c).mono ?_; rintro e w9 ⟨rfl, k9⟩)
    refine hK.out _ _ (hHeld.keep k9) (fun hNew => ?_)
    clear hHeld hK
    have hHeld := hNew
    clear hNew
    try simp only [Act.put, List.setIfInBounds_toArray, List.set_cons_zero, List.set_cons_succ]
    refine wpAnyH_take (i := 42) (oi := Oper.mk _ _ _ _ _ _) (v := ?_) rfl (by kernel_rfl) (by kernel_rfl) (by kernel_rfl) (fun _ _ _ h => h) (Or.inl ⟨by rfl, ?_⟩) hHeld ?_
    rotate_left
    · (intro w hSw; (try dsimp only at hSw); (first | (go_simp; done) | (go_simp; with_reducible rfl)))
    try simp only [Act.put, List.setIfInBounds_toArray, List.set_cons_zero, List.set_cons_succ]
    refine wpAnyH_take (i := 43) (oi := Oper.mk _ _ _ _ _ _) (v := ?_) rfl (by kernel_rfl) (by kernel_rfl) (by kernel_rfl) (fun _ _ _ h => h) (Or.inl ⟨by rfl, ?_⟩) hHeld ?_
    rotate_left
    · (intro w hSw; (try dsimp only at hSw); (first | (go_simp; done) | (go_simp; with_reducible rfl)))
    try simp only [Act.put, List.setIfInBounds_toArray, List.set_cons_zero, List.set_cons_succ]
    refine wpAnyH_done (by kernel_rfl) ?_ _
    go_wp2
    go_ret
    exact ⟨rfl, hHeld.k.below (Nat.le_refl _) (by simp)⟩
end Go.Proofs.Ytimbngaadgkeaaa
