/-
  MeterMost: its walk.
-/
import Derived.Test.YtimbngaadgkeaaaRefMeter
import Derived.Test.YtimbngaadgkeaaaMeterTame
import Derived.Test.YtimbngaadgkeaaaMeterFixed
import Derived.Deep.DeepCutAuto
import Derived.Deep.CutBlock
namespace Go.Proofs.Ytimbngaadgkeaaa
open Go.RowKit

theorem sess_store {w : World} {B : Nat} {x0 x1 x2 x3 x4 x5 x6 : Value} {t : TypeId} (h : w.heap[B]? = some (.cells #[x0, x1, x2, x3, x4, x5, x6] t (0, 0))) (y0 y1 y2 y3 y4 y5 y6 : Value) :
    (((((((w.setCell ⟨B, 0, none⟩ y0).setCell ⟨B, 1, none⟩ y1).setCell ⟨B, 2, none⟩ y2).setCell ⟨B, 3, none⟩ y3).setCell ⟨B, 4, none⟩ y4).setCell ⟨B, 5, none⟩ y5).setCell ⟨B, 6, none⟩ y6).heap[B]? = some (.cells #[y0, y1, y2, y3, y4, y5, y6] t (0, 0)) := by
  have h0 : (w.setCell ⟨B, 0, none⟩ y0).heap[B]? = some (.cells #[y0, x1, x2, x3, x4, x5, x6] t (0, 0)) := by rw [heap_setCell_same h]; rfl
  have h1 : ((w.setCell ⟨B, 0, none⟩ y0).setCell ⟨B, 1, none⟩ y1).heap[B]? = some (.cells #[y0, y1, x2, x3, x4, x5, x6] t (0, 0)) := by rw [heap_setCell_same h0]; rfl
  have h2 : (((w.setCell ⟨B, 0, none⟩ y0).setCell ⟨B, 1, none⟩ y1).setCell ⟨B, 2, none⟩ y2).heap[B]? = some (.cells #[y0, y1, y2, x3, x4, x5, x6] t (0, 0)) := by rw [heap_setCell_same h1]; rfl
  have h3 : ((((w.setCell ⟨B, 0, none⟩ y0).setCell ⟨B, 1, none⟩ y1).setCell ⟨B, 2, none⟩ y2).setCell ⟨B, 3, none⟩ y3).heap[B]? = some (.cells #[y0, y1, y2, y3, x4, x5, x6] t (0, 0)) := by rw [heap_setCell_same h2]; rfl
  have h4 : (((((w.setCell ⟨B, 0, none⟩ y0).setCell ⟨B, 1, none⟩ y1).setCell ⟨B, 2, none⟩ y2).setCell ⟨B, 3, none⟩ y3).setCell ⟨B, 4, none⟩ y4).heap[B]? = some (.cells #[y0, y1, y2, y3, y4, x5, x6] t (0, 0)) := by rw [heap_setCell_same h3]; rfl
  have h5 : ((((((w.setCell ⟨B, 0, none⟩ y0).setCell ⟨B, 1, none⟩ y1).setCell ⟨B, 2, none⟩ y2).setCell ⟨B, 3, none⟩ y3).setCell ⟨B, 4, none⟩ y4).setCell ⟨B, 5, none⟩ y5).heap[B]? = some (.cells #[y0, y1, y2, y3, y4, y5, x6] t (0, 0)) := by rw [heap_setCell_same h4]; rfl
  have h6 : (((((((w.setCell ⟨B, 0, none⟩ y0).setCell ⟨B, 1, none⟩ y1).setCell ⟨B, 2, none⟩ y2).setCell ⟨B, 3, none⟩ y3).setCell ⟨B, 4, none⟩ y4).setCell ⟨B, 5, none⟩ y5).setCell ⟨B, 6, none⟩ y6).heap[B]? = some (.cells #[y0, y1, y2, y3, y4, y5, y6] t (0, 0)) := by rw [heap_setCell_same h5]; rfl
  exact h6
theorem keeps_store {w0 w : World} {B : Nat} (K : Keeps [] w0 w) (hB : w0.heap.size ≤ B) (y0 y1 y2 y3 y4 y5 y6 : Value) :
    Keeps [] w0 (((((((w.setCell ⟨B, 0, none⟩ y0).setCell ⟨B, 1, none⟩ y1).setCell ⟨B, 2, none⟩ y2).setCell ⟨B, 3, none⟩ y3).setCell ⟨B, 4, none⟩ y4).setCell ⟨B, 5, none⟩ y5).setCell ⟨B, 6, none⟩ y6) :=
  ((((((K.setCell (.inr hB) y0).setCell (.inr hB) y1).setCell (.inr hB) y2).setCell (.inr hB) y3).setCell (.inr hB) y4).setCell (.inr hB) y5).setCell (.inr hB) y6

set_option maxRecDepth 100000 in
set_option maxHeartbeats 10000000 in
theorem meterMost_walk {w : World} (s : Sess) (hs : s.Ok) (credit : Nat) (hc : credit ≤ 18446744073709551615) :
    Calls Try.prog 4 #[.agg #[.int .u64 s.price, .int .u64 s.limit, .int .u64 s.quota, .int .i64 s.idle, .int .i64 s.state, .int .u64 s.units, .int .i64 s.last], .int .u64 credit] w fun e w' => e = .returned (.bool true) ∧ Below w.heap.size w w' := by
  go_enter Try.func4, Try.ntmps4
  go_wp2_with fail
  refine (tame_c s hs).mono ?_
  rintro e w1 ⟨t, rfl, ht, hst, k1⟩
  clear hst
  have h1 := k1.heap (by simp) (heap_alloc_same (w := w))
  obtain ⟨c0, c1, c2, c3, c4, c5, c6⟩ := cells7 h1
  have f0 := fun i => frozen_of_heap (o := i) h1
  obtain ⟨w2, hw2⟩ : ∃ w2, w2 = (((((((w1.setCell ⟨w.heap.size, 0, none⟩ (.int .u64 t.price)).setCell ⟨w.heap.size, 1, none⟩ (.int .u64 t.limit)).setCell ⟨w.heap.size, 2, none⟩ (.int .u64 t.quota)).setCell ⟨w.heap.size, 3, none⟩ (.int .i64 t.idle)).setCell ⟨w.heap.size, 4, none⟩ (.int .i64 t.state)).setCell ⟨w.heap.size, 5, none⟩ (.int .u64 t.units)).setCell ⟨w.heap.size, 6, none⟩ (.int .i64 t.last)) := ⟨_, rfl⟩
  have h2 : w2.heap[w.heap.size]? = some (.cells #[.int .u64 t.price, .int .u64 t.limit, .int .u64 t.quota, .int .i64 t.idle, .int .i64 t.state, .int .u64 t.units, .int .i64 t.last] 24 (0, 0)) := by rw [hw2]; exact sess_store h1 _ _ _ _ _ _ _
  have K2 : Keeps [] w w2 := by rw [hw2]; exact keeps_store ((keeps_alloc w _).trans k1) (Nat.le_refl _) _ _ _ _ _ _ _
  have hok := ht.ok
  go_upto_region 2 with fail
  rw [← hw2]
  clear hw2 c0 c1 c2 c3 c4 c5 c6 f0 h1 k1
  have hI := fun n => (grant_iff t n credit t.last).trans (most_iff t n credit hok.quota)
  have hX := mMost_le t credit
  have M := fun w => most_c (w := w) t credit hok hc
  have RF := fun w => ref_c (w := w) t
  have RM := fun w => rmost_c (w := w) t credit hok hc
  have G1 := fun w (h : mMost t credit ≤ 18446744073709551615) => grant_c (w := w) t (mMost t credit) credit t.last hok h hc hok.last
  have G2 := fun w (h : mMost t credit + 1 ≤ 18446744073709551615) => grant_c (w := w) t (mMost t credit + 1) credit t.last hok h hc hok.last
  have r2 : (mGrant t (mMost t credit + 1) credit t.last).2 ≠ 0 := fun h => by have := ((hI _).1 h).2; omega
  have r1 : 0 < mMost t credit → (mGrant t (mMost t credit) credit t.last).2 = 0 := fun h => (hI _).2 ⟨h, Nat.le_refl _⟩
  generalize (mGrant t (mMost t credit + 1) credit t.last).1 = b2 at *
  generalize (mGrant t (mMost t credit + 1) credit t.last).2 = e2 at *
  generalize (mGrant t (mMost t credit) credit t.last).1 = b1 at *
  generalize (mGrant t (mMost t credit) credit t.last).2 = e1 at *
  have hb2 : (e2 != 0) = true := by simpa using r2
  clear hI r2
  generalize mMost t credit = X at *
  have hx1 : ∀ w, Calls Try.prog 10 #[.agg #[.int .u64 t.price, .int .u64 t.limit, .int .u64 t.quota, .int .i64 t.idle, .int .i64 t.state, .int .u64 t.units, .int .i64 t.last], .int .u64 ((X : Int) + 1), .int .u64 credit, .int .i64 t.last] w fun e w' => e = .returned (.tuple #[.agg #[.int .u64 b2.price, .int .u64 b2.limit, .int .u64 b2.quota, .int .i64 b2.idle, .int .i64 b2.state, .int .u64 b2.units, .int .i64 b2.last], .int .i64 e2]) ∧ Keeps [] w w' := fun w => G2 w (by omega)
  obtain ⟨d0, d1, d2, d3, d4, d5, d6⟩ := cells7 h2
  go_wp2_with fail
  refine (M _).mono ?_
  rintro e w3 ⟨rfl, k3⟩
  have h3 := k3.heap (by simp) h2
  have K3 := K2.trans k3
  clear d0 d1 d2 d3 d4 d5 d6 h2 K2 k3
  obtain ⟨d0, d1, d2, d3, d4, d5, d6⟩ := cells7 h3
  go_wp2_with fail
  refine (RF _).mono ?_
  rintro e w4 ⟨rfl, k4⟩
  have h4 := k4.heap (by simp) h3
  have K4 := K3.trans k4
  clear d0 d1 d2 d3 d4 d5 d6 h3 K3 k4
  go_wp2_with fail
  refine (RM _).mono ?_
  rintro e w5 ⟨rfl, k5⟩
  have h5 := k5.heap (by simp) h4
  have K5 := K4.trans k5
  clear h4 K4 k5
  obtain ⟨d0, d1, d2, d3, d4, d5, d6⟩ := cells7 h5
  by_cases hz : 0 < X
  · have e10 := r1 hz
    subst e10
    go_wp2_with fail
    refine (G1 _ (by omega)).mono ?_
    rintro e w6 ⟨rfl, k6⟩
    have h6 := k6.heap (by simp) h5
    have K6 := K5.trans k6
    have h7 := (heap_alloc_old (w := w6) (o := .cells #[.int .u64 b1.price, .int .u64 b1.limit, .int .u64 b1.quota, .int .i64 b1.idle, .int .i64 b1.state, .int .u64 b1.units, .int .i64 b1.last] 24) (lt_of_heap h6)).trans h6
    clear d0 d1 d2 d3 d4 d5 d6 h5 K5 k6
    obtain ⟨d0, d1, d2, d3, d4, d5, d6⟩ := cells7 h7
    go_wp2_with fail
    refine (hx1 _).mono ?_
    rintro e w7 ⟨rfl, k7⟩
    have K7 := (K6.alloc _).trans k7
    clear d0 d1 d2 d3 d4 d5 d6 h6 h7 K6 k7
    go_wp2_with fail
    refine (fixed_c).mono ?_
    rintro e w8 ⟨rfl, k8⟩
    go_wp2
    go_ret
    exact ⟨rfl, ((K7.alloc _).trans k8).below (Nat.le_refl _) (by simp)⟩
  · obtain rfl : X = 0 := by omega
    go_wp2_with fail
    refine (hx1 _).mono ?_
    rintro e w7 ⟨rfl, k7⟩
    have K7 := K5.trans k7
    clear d0 d1 d2 d3 d4 d5 d6 h5 K5 k7
    go_wp2_with fail
    refine (fixed_c).mono ?_
    rintro e w8 ⟨rfl, k8⟩
    go_wp2
    go_ret
    exact ⟨rfl, ((K7.alloc _).trans k8).below (Nat.le_refl _) (by simp)⟩
end Go.Proofs.Ytimbngaadgkeaaa
