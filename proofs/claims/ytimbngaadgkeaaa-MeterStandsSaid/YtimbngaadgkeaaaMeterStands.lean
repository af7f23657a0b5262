/-
  MeterStands: its walk.
-/
import Derived.Test.YtimbngaadgkeaaaMeterMost
namespace Go.Proofs.Ytimbngaadgkeaaa
open Go.RowKit

set_option maxRecDepth 100000 in
set_option maxHeartbeats 20000000 in
theorem meterStands_walk {w : World} (s : Sess) (hs : s.Ok) (now : Int) (hn : inI64 now) :
    Calls Try.prog 5 #[.agg #[.int .u64 s.price, .int .u64 s.limit, .int .u64 s.quota, .int .i64 s.idle, .int .i64 s.state, .int .u64 s.units, .int .i64 s.last], .int .i64 now] w fun e w' => e = .returned (.bool true) ∧ Below w.heap.size w w' := by
  go_enter Try.func5, Try.ntmps5
  go_wp2_with fail
  refine (tame_c s hs).mono ?_
  rintro e w1 ⟨t, rfl, ht, hst, k1⟩
  clear hst
  have h1 := k1.heap (by simp) (heap_alloc_same (w := w))
  obtain ⟨c0, c1, c2, c3, c4, c5, c6⟩ := cells7 h1
  have f0 := fun i => frozen_of_heap (o := i) h1
  obtain ⟨w2, hw2⟩ : ∃ w2, w2 = (((((((w1.setCell ⟨w.heap.size, 0, none⟩ (.int .u64 t.price)).setCell ⟨w.heap.size, 1, none⟩ (.int .u64 t.limit)).setCell ⟨w.heap.size, 2, none⟩ (.int .u64 t.quota)).setCell ⟨w.heap.size, 3, none⟩ (.int .i64 t.idle)).setCell ⟨w.heap.size, 4, none⟩ (.int .i64 t.state)).setCell ⟨w.heap.size, 5, none⟩ (.int .u64 t.units)).setCell ⟨w.heap.size, 6, none⟩ (.int .i64 t.last)) := ⟨_, rfl⟩
  have h2 : w2.heap[w.heap.size]? = some (.cells #[.int .u64 t.price, .int .u64 t.limit, .int .u64 t.quota, .int .i64 t.idle, .int .i64 t.state, .int .u64 t.units, .int .i64 t.last] 24 (0, 0)) := by rw [hw2]; exact sess_store h1 _ _ _ _ _ _ _
  have K2 : Keeps [] w w2 := by rw [hw2]; exact keeps_store ((keeps_alloc w _).trans k1) (Nat.le_refl _) _ _ _ _ _ _ _
  have hok := ht.ok
  go_upto_region 2 with fail
  rw [← hw2]
  clear hw2 c0 c1 c2 c3 c4 c5 c6 f0 h1 k1
  obtain ⟨B, hB⟩ : ∃ B, B = w.heap.size := ⟨_, rfl⟩
  rw [← hB] at h2 ⊢
  have hBw : w.heap.size ≤ B := by omega
  clear hB
  have P := fun w => pause_c (w := w) t hok
  have R := fun w => resume_c (w := w) t now hok hn
  have T := fun w => tick_c (w := w) t now hok hn
  obtain ⟨hn1, hn2⟩ := hn
  have hl1 := ht.n1
  have hl2 := ht.n2
  have hi1 := ht.i1
  have hi2 := ht.i2
  have hT : (t.last + t.idle < now ∧ mTick t now = { t with state := 3 }) ∨ (now ≤ t.last + t.idle ∧ mTick t now = t) := by
    by_cases h : t.last + t.idle < now
    · exact .inl ⟨h, if_pos ⟨by omega, by omega, by omega⟩⟩
    · exact .inr ⟨by omega, if_neg (fun k => by have h3 := k.2.2; omega)⟩
  have hS : (t.state = 1 ∧ mPause t = ({ t with state := 2 }, 0) ∧ mResume t now = (.zero, 8)) ∨
      (t.state = 2 ∧ now < t.last ∧ mPause t = (.zero, 8) ∧ mResume t now = (.zero, 1)) ∨
      (t.state = 2 ∧ t.last ≤ now ∧ mPause t = (.zero, 8) ∧ mResume t now = ({ t with state := 1, last := now }, 0)) ∨
      ((t.state == 1) = false ∧ (t.state == 2) = false ∧ mPause t = (.zero, 8) ∧ mResume t now = (.zero, 8)) := by
    by_cases c1 : t.state = 1
    · exact .inl ⟨c1, if_pos c1, if_neg (by omega)⟩
    · by_cases c2 : t.state = 2
      · by_cases c3 : now < t.last
        · exact .inr (.inl ⟨c2, c3, if_neg c1, by rw [mResume, if_pos c2, if_pos c3]⟩)
        · exact .inr (.inr (.inl ⟨c2, by omega, if_neg c1, by rw [mResume, if_pos c2, if_neg c3]⟩))
      · exact .inr (.inr (.inr ⟨by simpa using c1, by simpa using c2, if_neg c1, if_neg c2⟩))
  generalize mPause t = pr at *
  generalize mResume t now = rr at *
  generalize mTick t now = tc at *
  obtain ⟨pa, pe⟩ := pr
  obtain ⟨rb, re⟩ := rr
  dsimp only at *
  have HS := Go.Lib.hid hS
  have HT := Go.Lib.hid hT
  clear hS hT
  obtain ⟨d0, d1, d2, d3, d4, d5, d6⟩ := cells7 h2
  go_wp2_with fail
  refine (P _).mono ?_
  rintro e w3 ⟨rfl, k3⟩
  have h3 := k3.heap (by simp) h2
  have K3 := K2.trans k3
  have g3 := (heap_alloc_old (w := w3) (o := .cells #[.int .u64 pa.price, .int .u64 pa.limit, .int .u64 pa.quota, .int .i64 pa.idle, .int .i64 pa.state, .int .u64 pa.units, .int .i64 pa.last] 24) (lt_of_heap h3)).trans h3
  clear d0 d1 d2 d3 d4 d5 d6 h2 K2 k3 P
  obtain ⟨d0, d1, d2, d3, d4, d5, d6⟩ := cells7 g3
  go_wp2_with fail
  refine (R _).mono ?_
  rintro e w4 ⟨rfl, k4⟩
  have a4 := k4.heap (by simp) (heap_alloc_same (w := w3) (o := .cells #[.int .u64 pa.price, .int .u64 pa.limit, .int .u64 pa.quota, .int .i64 pa.idle, .int .i64 pa.state, .int .u64 pa.units, .int .i64 pa.last] 24))
  have h4 := k4.heap (by simp) g3
  have K4 := (K3.alloc _).trans k4
  have l4 : B < w3.heap.size := lt_of_heap h3
  have g4 := (heap_alloc_old (w := w4) (o := .cells #[.int .u64 rb.price, .int .u64 rb.limit, .int .u64 rb.quota, .int .i64 rb.idle, .int .i64 rb.state, .int .u64 rb.units, .int .i64 rb.last] 24) (lt_of_heap h4)).trans h4
  clear d0 d1 d2 d3 d4 d5 d6 h3 g3 K3 k4 R
  obtain ⟨d0, d1, d2, d3, d4, d5, d6⟩ := cells7 g4
  go_wp2_with fail
  refine (T _).mono ?_
  rintro e w5 ⟨rfl, k5⟩
  have b5 := k5.heap (by simp) (heap_alloc_same (w := w4) (o := .cells #[.int .u64 rb.price, .int .u64 rb.limit, .int .u64 rb.quota, .int .i64 rb.idle, .int .i64 rb.state, .int .u64 rb.units, .int .i64 rb.last] 24))
  have a5 := k5.heap (by simp) ((heap_alloc_old (w := w4) (o := .cells #[.int .u64 rb.price, .int .u64 rb.limit, .int .u64 rb.quota, .int .i64 rb.idle, .int .i64 rb.state, .int .u64 rb.units, .int .i64 rb.last] 24) (lt_of_heap a4)).trans a4)
  have h5 := k5.heap (by simp) g4
  have K5 := (K4.alloc _).trans k5
  have l5 : w3.heap.size < w4.heap.size := lt_of_heap a4
  have l6 : w4.heap.size < w5.heap.size := lt_of_heap b5
  have g5 := (heap_alloc_old (w := w5) (o := .cells #[.int .u64 tc.price, .int .u64 tc.limit, .int .u64 tc.quota, .int .i64 tc.idle, .int .i64 tc.state, .int .u64 tc.units, .int .i64 tc.last] 24) (lt_of_heap h5)).trans h5
  clear d0 d1 d2 d3 d4 d5 d6 h4 a4 g4 K4 k5 T
  obtain ⟨d0, d1, d2, d3, d4, d5, d6⟩ := cells7 g5
  go_upto_region 6 with fail
  clear d0 d1 d2 d3 d4 d5 d6
  obtain ⟨w6, hw6⟩ : ∃ w6, w6 = (w5.alloc (.cells #[.int .u64 tc.price, .int .u64 tc.limit, .int .u64 tc.quota, .int .i64 tc.idle, .int .i64 tc.state, .int .u64 tc.units, .int .i64 tc.last] 24)).alloc (.cells #[.int .u64 t.price, .int .u64 t.limit, .int .u64 t.quota, .int .i64 t.idle, .int .i64 t.state, .int .u64 t.units, .int .i64 t.last] 24) := ⟨_, rfl⟩
  rw [← hw6]
  have z5 : (w5.alloc (.cells #[.int .u64 tc.price, .int .u64 tc.limit, .int .u64 tc.quota, .int .i64 tc.idle, .int .i64 tc.state, .int .u64 tc.units, .int .i64 tc.last] 24)).heap.size = w5.heap.size + 1 := by simp
  have old : ∀ {b : Nat} {o : Obj}, w5.heap[b]? = some o → w6.heap[b]? = some o := fun {b o} h => by
    rw [hw6, heap_alloc_old (by rw [z5]; have := lt_of_heap h; omega), heap_alloc_old (lt_of_heap h)]; exact h
  have h6 := old h5
  have a6 := old a5
  have b6 := old b5
  have c6 : w6.heap[w5.heap.size]? = some (.cells #[.int .u64 tc.price, .int .u64 tc.limit, .int .u64 tc.quota, .int .i64 tc.idle, .int .i64 tc.state, .int .u64 tc.units, .int .i64 tc.last] 24 (0, 0)) := by rw [hw6, heap_alloc_old (by rw [z5]; omega)]; exact heap_alloc_same
  have t6 : w6.heap[w5.heap.size + 1]? = some (.cells #[.int .u64 t.price, .int .u64 t.limit, .int .u64 t.quota, .int .i64 t.idle, .int .i64 t.state, .int .u64 t.units, .int .i64 t.last] 24 (0, 0)) := by rw [hw6]; exact heap_alloc_at z5.symm
  have K6 : Keeps [] w w6 := by rw [hw6]; exact (K5.alloc _).alloc _
  clear old hw6 z5 h5 a5 b5 g5 K5
  obtain ⟨A, hA⟩ : ∃ A, A = w3.heap.size := ⟨_, rfl⟩
  obtain ⟨B2, hB2⟩ : ∃ A, A = w4.heap.size := ⟨_, rfl⟩
  obtain ⟨C, hC⟩ : ∃ A, A = w5.heap.size := ⟨_, rfl⟩
  rw [← hA] at l4 l5 a6 ⊢
  rw [← hB2] at l5 l6 b6 ⊢
  rw [← hC] at l6 c6 t6 ⊢
  clear hA hB2 hC
  obtain ⟨D, l7, hD⟩ : ∃ D, C < D ∧ D = C + 1 := ⟨C + 1, by omega, rfl⟩
  rw [← hD] at t6 ⊢
  clear hD
  have n1 : ¬ D = B := by omega
  have n2 : ¬ D = A := by omega
  have n3 : ¬ D = B2 := by omega
  have n4 : ¬ D = C := by omega
  have hS := HS.out
  have hT := HT.out
  clear HS HT
  obtain ⟨price, limit, quota, idle, state, units, last⟩ := t
  dsimp only at *
  have fin : ∀ {w7 w8 : World}, Keeps [] w w7 → Keeps [] w7 w8 → Below w.heap.size w w8 := fun K k => (K.trans k).below (Nat.le_refl _) (by simp)
  have hBD : w.heap.size ≤ D := by omega
  have hS' : ((state == 1) = true ∧ (state == 2) = false ∧ (pa, pe) = (⟨price, limit, quota, idle, 2, units, last⟩, 0) ∧ (rb, re) = (.zero, 8)) ∨
      ((state == 1) = false ∧ (state == 2) = true ∧ decide (now < last) = true ∧ decide (last ≤ now) = false ∧ (pa, pe) = (.zero, 8) ∧ (rb, re) = (.zero, 1)) ∨
      ((state == 1) = false ∧ (state == 2) = true ∧ decide (now < last) = false ∧ decide (last ≤ now) = true ∧ (pa, pe) = (.zero, 8) ∧ (rb, re) = (⟨price, limit, quota, idle, 1, units, now⟩, 0)) ∨
      ((state == 1) = false ∧ (state == 2) = false ∧ (pa, pe) = (.zero, 8) ∧ (rb, re) = (.zero, 8)) := by
    rcases hS with ⟨e, e1, e2⟩ | ⟨e, q, e1, e2⟩ | ⟨e, q, e1, e2⟩ | ⟨q1, q2, e1, e2⟩
    · exact .inl ⟨by rw [e]; rfl, by rw [e]; rfl, e1, e2⟩
    · exact .inr (.inl ⟨by rw [e]; rfl, by rw [e]; rfl, by simpa using q, by simp; omega, e1, e2⟩)
    · exact .inr (.inr (.inl ⟨by rw [e]; rfl, by rw [e]; rfl, by simp; omega, by simpa using q, e1, e2⟩))
    · exact .inr (.inr (.inr ⟨q1, q2, e1, e2⟩))
  clear hS
  have HT2 := Go.Lib.hid hT
  clear hT
  rcases hS' with ⟨s1, s2, e1, e2⟩ | ⟨s1, s2, q5, q6, e1, e2⟩ | ⟨s1, s2, q5, q6, e1, e2⟩ | ⟨s1, s2, e1, e2⟩ <;> obtain ⟨rfl, rfl⟩ := Prod.mk.inj e1 <;> obtain ⟨rfl, rfl⟩ := Prod.mk.inj e2 <;> clear e1 e2 <;> dsimp only [Sess.zero] at *
  all_goals
    obtain ⟨d0, d1, d2, d3, d4, d5, d6⟩ := cells7 h6
    obtain ⟨a0, a1, a2, a3, a4, a5, a66⟩ := cells7 a6
    obtain ⟨b0, b1, b2, b3, b4, b5, b66⟩ := cells7 b6
    obtain ⟨t0, t1, t2, t3, t4, t5, t66⟩ := cells7 t6
    have f6 := fun i => frozen_of_heap (o := i) t6
    go_upto_region 13 with fail
    obtain ⟨w7, hw7⟩ : ∃ w7, w7 = ((w6.setCell ⟨D, 4, none⟩ (.int .i64 2)).setCell ⟨D, 4, none⟩ (.int .i64 1)).setCell ⟨D, 6, none⟩ (.int .i64 now) := ⟨_, rfl⟩
    rw [← hw7]
    have h7 : w7.heap[B]? = some (.cells #[.int .u64 price, .int .u64 limit, .int .u64 quota, .int .i64 idle, .int .i64 state, .int .u64 units, .int .i64 last] 24 (0, 0)) := by rw [hw7, heap_setCell_other (Ne.symm n1), heap_setCell_other (Ne.symm n1), heap_setCell_other (Ne.symm n1)]; exact h6
    have c7 := c6
    rw [← heap_setCell_other (w := w6) (o := 4) (Ne.symm n4) (.int .i64 2), ← heap_setCell_other (o := 4) (Ne.symm n4) (.int .i64 1), ← heap_setCell_other (o := 6) (Ne.symm n4) (.int .i64 now), ← hw7] at c7
    have t7 : w7.heap[D]? = some (.cells #[.int .u64 price, .int .u64 limit, .int .u64 quota, .int .i64 idle, .int .i64 1, .int .u64 units, .int .i64 now] 24 (0, 0)) := by
      rw [hw7]
      have x1 : (w6.setCell ⟨D, 4, none⟩ (.int .i64 2)).heap[D]? = some (.cells #[.int .u64 price, .int .u64 limit, .int .u64 quota, .int .i64 idle, .int .i64 2, .int .u64 units, .int .i64 last] 24 (0, 0)) := by rw [heap_setCell_same t6]; rfl
      have x2 : ((w6.setCell ⟨D, 4, none⟩ (.int .i64 2)).setCell ⟨D, 4, none⟩ (.int .i64 1)).heap[D]? = some (.cells #[.int .u64 price, .int .u64 limit, .int .u64 quota, .int .i64 idle, .int .i64 1, .int .u64 units, .int .i64 last] 24 (0, 0)) := by rw [heap_setCell_same x1]; rfl
      rw [heap_setCell_same x2]; rfl
    have K7 : Keeps [] w w7 := by rw [hw7]; exact ((K6.setCell (.inr hBD) _).setCell (.inr hBD) _).setCell (.inr hBD) _
    clear hw7 d0 d1 d2 d3 d4 d5 d6 a0 a1 a2 a3 a4 a5 a66 b0 b1 b2 b3 b4 b5 b66 t0 t1 t2 t3 t4 t5 t66 f6 h6 a6 b6 c6 t6 K6
    obtain ⟨d0, d1, d2, d3, d4, d5, d6⟩ := cells7 h7
    rcases HT2.out with ⟨q4, rfl⟩ | ⟨q4, rfl⟩
    · dsimp only at c7
      obtain ⟨t0, t1, t2, t3, t4, t5, t66⟩ := cells7 t7
      have f7 := fun i => frozen_of_heap (o := i) t7
      go_upto_region 15 with fail
      obtain ⟨w8, hw8⟩ : ∃ w8, w8 = (((((((w7.setCell ⟨D, 0, none⟩ (.int .u64 price)).setCell ⟨D, 1, none⟩ (.int .u64 limit)).setCell ⟨D, 2, none⟩ (.int .u64 quota)).setCell ⟨D, 3, none⟩ (.int .i64 idle)).setCell ⟨D, 4, none⟩ (.int .i64 state)).setCell ⟨D, 5, none⟩ (.int .u64 units)).setCell ⟨D, 6, none⟩ (.int .i64 last)) := ⟨_, rfl⟩
      rw [← hw8]
      have t8 : w8.heap[D]? = some (.cells #[.int .u64 price, .int .u64 limit, .int .u64 quota, .int .i64 idle, .int .i64 state, .int .u64 units, .int .i64 last] 24 (0, 0)) := by rw [hw8]; exact sess_store t7 _ _ _ _ _ _ _
      have c8 := c7
      rw [← heap_setCell_other (w := w7) (o := 0) (Ne.symm n4) (.int .u64 price), ← heap_setCell_other (o := 1) (Ne.symm n4) (.int .u64 limit), ← heap_setCell_other (o := 2) (Ne.symm n4) (.int .u64 quota), ← heap_setCell_other (o := 3) (Ne.symm n4) (.int .i64 idle), ← heap_setCell_other (o := 4) (Ne.symm n4) (.int .i64 state), ← heap_setCell_other (o := 5) (Ne.symm n4) (.int .u64 units), ← heap_setCell_other (o := 6) (Ne.symm n4) (.int .i64 last), ← hw8] at c8
      have K8 : Keeps [] w w8 := by rw [hw8]; exact keeps_store K7 hBD _ _ _ _ _ _ _
      clear hw8 d0 d1 d2 d3 d4 d5 d6 t0 t1 t2 t3 t4 t5 t66 f7 h7 c7 t7 K7
      obtain ⟨c0, c1, c2, c3, c4, c5, c66⟩ := cells7 c8
      obtain ⟨t0, t1, t2, t3, t4, t5, t66⟩ := cells7 t8
      have f8 := fun i => frozen_of_heap (o := i) t8
      go_wp2_with fail
      refine (fixed_c).mono ?_
      rintro e w9 ⟨rfl, k9⟩
      go_wp2
      go_ret
      exact ⟨rfl, fin (K8.setCell (.inr hBD) _) k9⟩
    · dsimp only at c7
      obtain ⟨c0, c1, c2, c3, c4, c5, c66⟩ := cells7 c7
      go_wp2_with fail
      refine (fixed_c).mono ?_
      rintro e w9 ⟨rfl, k9⟩
      go_wp2
      go_ret
      exact ⟨rfl, fin K7 k9⟩
end Go.Proofs.Ytimbngaadgkeaaa
