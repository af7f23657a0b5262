/-
  MeterRefuses: its walk.
-/
import Derived.Test.YtimbngaadgkeaaaMeterMost
namespace Go.Proofs.Ytimbngaadgkeaaa
open Go.RowKit

/-- What a tame session is told of three grants. -/
theorem refuses_plain {t : Sess} (ht : Tame t) (n credit more : Nat) (hn1 : 1 ≤ n) (hn2 : n ≤ 4294967296) (hm : more < 1000) :
    ((mGrant t n credit t.last = ({ t with units := t.units + n, last := t.last }, 0) ∧ mGrant t n 18446744073709551615 t.last = ({ t with units := t.units + n, last := t.last }, 0)) ∨
     ((mGrant t n credit t.last) = (.zero, 11) ∧ (mGrant t n 18446744073709551615 t.last) = ({ t with units := t.units + n, last := t.last }, 0) ∧ (mGrant t (n + more) credit t.last).2 ≠ 0) ∨
     (∃ e : Int, (mGrant t n credit t.last) = (.zero, e) ∧ e ≠ 0 ∧ e ≠ 11)) ∧
    ((mGrant t (n + more) credit t.last).2 = 0 ∨ ∃ e : Int, mGrant t (n + more) credit t.last = (.zero, e) ∧ e ≠ 0) := by
  refine ⟨?_, ?_⟩
  · by_cases h : GrantOk t n credit t.last
    · refine .inl ⟨grant_yes h, grant_yes ⟨h.state, h.pos, h.most, h.last, h.room, h.quota, h.cost, fun k => ?_⟩⟩
      have := h.cost; omega
    · obtain ⟨e, he, hne, hiff⟩ := grant_no t n credit t.last h
      by_cases e11 : e = 11
      · obtain ⟨g1, g2, g3, g4, g5, g6, g7, g8, g9⟩ := hiff.1 e11
        refine .inr (.inl ⟨by rw [he, e11], grant_yes ⟨g1, g2, g3, g4, g5, g6, g7, fun k => by omega⟩, fun k => ?_⟩)
        have G := (grant_iff t (n + more) credit t.last).1 k
        have hp := G.paid g8
        have : t.price * (t.units + n) ≤ t.price * (t.units + (n + more)) := Nat.mul_le_mul_left _ (by omega)
        omega
      · exact .inr (.inr ⟨e, he, hne, e11⟩)
  · by_cases h : GrantOk t (n + more) credit t.last
    · exact .inl ((grant_iff _ _ _ _).2 h)
    · obtain ⟨e, he, hne, _⟩ := grant_no t (n + more) credit t.last h
      exact .inr ⟨e, he, hne⟩

set_option maxRecDepth 100000 in
set_option maxHeartbeats 20000000 in
theorem meterRefuses_walk {w : World} (s : Sess) (hs : s.Ok) (a b c : Nat) (ha : a ≤ 4294967295) (hb : b ≤ 4294967295) (hc : c ≤ 4294967295) :
    Calls Try.prog 8 #[.agg #[.int .u64 s.price, .int .u64 s.limit, .int .u64 s.quota, .int .i64 s.idle, .int .i64 s.state, .int .u64 s.units, .int .i64 s.last], .agg #[.int .u32 a, .int .u32 b, .int .u32 c]] w fun e w' => e = .returned (.bool true) ∧ Below w.heap.size w w' := by
  go_enter Try.func8, Try.ntmps8
  go_wp2_with fail
  refine (tame_c s hs).mono ?_
  rintro e w1 ⟨t, rfl, ht, hst, k1⟩
  clear hst
  have h1 := k1.heap (by simp) ((heap_alloc_old (o := .cells #[.int .u32 a, .int .u32 b, .int .u32 c] 52) (by simp)).trans (heap_alloc_same (w := w)))
  have r1 := k1.heap (by simp) (heap_alloc_at (w := w.alloc (.cells #[.int .u64 s.price, .int .u64 s.limit, .int .u64 s.quota, .int .i64 s.idle, .int .i64 s.state, .int .u64 s.units, .int .i64 s.last] 24)) (o := .cells #[.int .u32 a, .int .u32 b, .int .u32 c] 52) (b := w.heap.size + 1) (by simp))
  obtain ⟨c0, c1, c2, c3, c4, c5, c6⟩ := cells7 h1
  have f0 := fun i => frozen_of_heap (o := i) h1
  obtain ⟨w2, hw2⟩ : ∃ w2, w2 = (((((((w1.setCell ⟨w.heap.size, 0, none⟩ (.int .u64 t.price)).setCell ⟨w.heap.size, 1, none⟩ (.int .u64 t.limit)).setCell ⟨w.heap.size, 2, none⟩ (.int .u64 t.quota)).setCell ⟨w.heap.size, 3, none⟩ (.int .i64 t.idle)).setCell ⟨w.heap.size, 4, none⟩ (.int .i64 t.state)).setCell ⟨w.heap.size, 5, none⟩ (.int .u64 t.units)).setCell ⟨w.heap.size, 6, none⟩ (.int .i64 t.last)) := ⟨_, rfl⟩
  have h2 : w2.heap[w.heap.size]? = some (.cells #[.int .u64 t.price, .int .u64 t.limit, .int .u64 t.quota, .int .i64 t.idle, .int .i64 t.state, .int .u64 t.units, .int .i64 t.last] 24 (0, 0)) := by rw [hw2]; exact sess_store h1 _ _ _ _ _ _ _
  have r2 := r1
  rw [← heap_setCell_other (w := w1) (b := w.heap.size) (o := 0) (by omega) (.int .u64 t.price), ← heap_setCell_other (b := w.heap.size) (o := 1) (by omega) (.int .u64 t.limit), ← heap_setCell_other (b := w.heap.size) (o := 2) (by omega) (.int .u64 t.quota), ← heap_setCell_other (b := w.heap.size) (o := 3) (by omega) (.int .i64 t.idle), ← heap_setCell_other (b := w.heap.size) (o := 4) (by omega) (.int .i64 t.state), ← heap_setCell_other (b := w.heap.size) (o := 5) (by omega) (.int .u64 t.units), ← heap_setCell_other (b := w.heap.size) (o := 6) (by omega) (.int .i64 t.last), ← hw2] at r2
  have K2 : Keeps [] w w2 := by rw [hw2]; exact keeps_store (((keeps_alloc w _).alloc _).trans k1) (Nat.le_refl _) _ _ _ _ _ _ _
  have hok := ht.ok
  go_upto_region 2 with fail
  rw [← hw2]
  clear hw2 c0 c1 c2 c3 c4 c5 c6 f0 h1 k1 r1
  obtain ⟨B, hB⟩ : ∃ B, B = w.heap.size := ⟨_, rfl⟩
  rw [← hB] at h2 r2 ⊢
  clear hB
  go_cut [5, 6, 7] (fun v5 v6 v7 wx => v5 = .int .u64 (a + 1 : Nat) ∧ v6 = .int .u64 b ∧ v7 = .int .u64 (c % 1000 : Nat) ∧ wx.heap[B]? = some (.cells #[.int .u64 t.price, .int .u64 t.limit, .int .u64 t.quota, .int .i64 t.idle, .int .i64 t.state, .int .u64 t.units, .int .i64 t.last] 24 (0, 0)) ∧ Keeps [] w wx)
  case first =>
    have c0 := (cell_of_heap (o := 0) r2).trans rfl
    have c1 := (cell_of_heap (o := 1) r2).trans rfl
    have c2 := (cell_of_heap (o := 2) r2).trans rfl
    go_region
    go_wp2_with fail
    go_meet
    case rel => exact ⟨by go_num, rfl, rfl, h2, K2.drew⟩
  case rest =>
    clear h2 K2 r2
    obtain ⟨rfl, rfl, rfl, h2, K2⟩ := hcut
    have hmore : c % 1000 < 1000 := Nat.mod_lt _ (by decide)
    obtain ⟨n, hn⟩ : ∃ n, n = a + 1 := ⟨_, rfl⟩
    rw [← hn]
    have hn1 : 1 ≤ n := by omega
    have hn2 : n ≤ 4294967296 := by omega
    clear hn
    generalize c % 1000 = more at *
    obtain ⟨F1, F2⟩ := refuses_plain ht n b more hn1 hn2 hmore
    have P := fun w => grant_c (w := w) t n b t.last hok (by omega) (by omega) hok.last
    have Q := fun w => grant_c (w := w) t (n + more) b t.last hok (by omega) (by omega) hok.last
    have R := fun w => grant_c (w := w) t n 18446744073709551615 t.last hok (by omega) (by decide) hok.last
    have esum : ((n + more : Nat) : Int) = (n : Int) + (more : Int) := by omega
    generalize mGrant t n b t.last = pr at *
    generalize mGrant t (n + more) b t.last = qr at *
    generalize mGrant t n 18446744073709551615 t.last = rr at *
    rw [esum] at Q
    clear esum
    obtain ⟨pa, pe⟩ := pr
    obtain ⟨qa, qe⟩ := qr
    obtain ⟨ra, re⟩ := rr
    dsimp only at *
    have HF1 := Go.Lib.hid F1
    have HF2 := Go.Lib.hid F2
    clear F1 F2
    obtain ⟨d0, d1, d2, d3, d4, d5, d6⟩ := cells7 h2
    go_wp2_with fail
    refine (P _).mono ?_
    rintro e w3 ⟨rfl, k3⟩
    have h3 := k3.heap (by simp) h2
    have K3 := K2.trans k3
    have g3 := (heap_alloc_old (w := w3) (o := .cells #[.int .u64 pa.price, .int .u64 pa.limit, .int .u64 pa.quota, .int .i64 pa.idle, .int .i64 pa.state, .int .u64 pa.units, .int .i64 pa.last] 24) (lt_of_heap h3)).trans h3
    clear d0 d1 d2 d3 d4 d5 d6 h2 K2 k3 P
    obtain ⟨d0, d1, d2, d3, d4, d5, d6⟩ := cells7 g3
    go_wp2_with fail
    refine (Q _).mono ?_
    rintro e w4 ⟨rfl, k4⟩
    have a4 := k4.heap (by simp) (heap_alloc_same (w := w3) (o := .cells #[.int .u64 pa.price, .int .u64 pa.limit, .int .u64 pa.quota, .int .i64 pa.idle, .int .i64 pa.state, .int .u64 pa.units, .int .i64 pa.last] 24))
    have h4 := k4.heap (by simp) g3
    have K4 := (K3.alloc _).trans k4
    clear d0 d1 d2 d3 d4 d5 d6 h3 g3 K3 k4 Q
    obtain ⟨w5, hw5⟩ : ∃ w5, w5 = w4.alloc (.cells #[.int .u64 qa.price, .int .u64 qa.limit, .int .u64 qa.quota, .int .i64 qa.idle, .int .i64 qa.state, .int .u64 qa.units, .int .i64 qa.last] 24) := ⟨_, rfl⟩
    have h5 : w5.heap[B]? = some (.cells #[.int .u64 t.price, .int .u64 t.limit, .int .u64 t.quota, .int .i64 t.idle, .int .i64 t.state, .int .u64 t.units, .int .i64 t.last] 24 (0, 0)) := by rw [hw5, heap_alloc_old (lt_of_heap h4)]; exact h4
    have a5 : w5.heap[w3.heap.size]? = some (.cells #[.int .u64 pa.price, .int .u64 pa.limit, .int .u64 pa.quota, .int .i64 pa.idle, .int .i64 pa.state, .int .u64 pa.units, .int .i64 pa.last] 24 (0, 0)) := by rw [hw5, heap_alloc_old (lt_of_heap a4)]; exact a4
    have b5 : w5.heap[w4.heap.size]? = some (.cells #[.int .u64 qa.price, .int .u64 qa.limit, .int .u64 qa.quota, .int .i64 qa.idle, .int .i64 qa.state, .int .u64 qa.units, .int .i64 qa.last] 24 (0, 0)) := by rw [hw5]; exact heap_alloc_same
    have K5 : Keeps [] w w5 := by rw [hw5]; exact K4.alloc _
    go_upto_region 5 with fail
    rw [← hw5]
    clear hw5 h4 a4 K4
    obtain ⟨A, hA⟩ : ∃ A, A = w3.heap.size := ⟨_, rfl⟩
    obtain ⟨B2, hB2⟩ : ∃ A, A = w4.heap.size := ⟨_, rfl⟩
    rw [← hA] at a5 ⊢
    rw [← hB2] at b5 ⊢
    clear hA hB2
    have hF1 := HF1.out
    have hF2 := HF2.out
    have hut : t.units ≤ 4294967296 := by have := ht.u2; have := ht.q2; omega
    clear HF1 HF2 ht hok
    obtain ⟨price, limit, quota, idle, state, units, last⟩ := t
    dsimp only at *
    have eu : ((units + n : Nat) : Int) = (units : Int) + (n : Int) := by omega
    have fin : ∀ {w7 w8 : World}, Keeps [] w w7 → Keeps [] w7 w8 → Below w.heap.size w w8 := fun K k => (K.trans k).below (Nat.le_refl _) (by simp)
    rcases hF1 with ⟨e1, e2⟩ | ⟨e1, e2, q1⟩ | ⟨e, e1, q1, q2⟩
    · obtain ⟨rfl, rfl⟩ := Prod.mk.inj e1
      obtain ⟨rfl, rfl⟩ := Prod.mk.inj e2
      clear e1 e2
      rcases hF2 with q3 | ⟨e, e3, q3⟩
      · subst q3
        dsimp only [Sess.zero] at *
        rw [eu] at *
        obtain ⟨d0, d1, d2, d3, d4, d5, d6⟩ := cells7 h5
        obtain ⟨a0, a1, a2, a3, a4, a55, a6⟩ := cells7 a5
        obtain ⟨b0, b1, b2, b3, b4, b55, b6⟩ := cells7 b5
        go_wp2_with fail
        refine (R _).mono ?_
        rintro e w6 ⟨rfl, k6⟩
        have h6 := k6.heap (by simp) h5
        have a66 := k6.heap (by simp) a5
        have K6 := K5.trans k6
        clear d0 d1 d2 d3 d4 d5 d6 a0 a1 a2 a3 a4 a55 a6 b0 b1 b2 b3 b4 b55 b6 h5 a5 b5 K5 k6 R
        have h7 := (heap_alloc_old (w := w6) (o := .cells #[.int .u64 price, .int .u64 limit, .int .u64 quota, .int .i64 idle, .int .i64 state, .int .u64 ((units : Int) + (n : Int)), .int .i64 last] 24) (lt_of_heap h6)).trans h6
        have a7 := (heap_alloc_old (w := w6) (o := .cells #[.int .u64 price, .int .u64 limit, .int .u64 quota, .int .i64 idle, .int .i64 state, .int .u64 ((units : Int) + (n : Int)), .int .i64 last] 24) (lt_of_heap a66)).trans a66
        obtain ⟨d0, d1, d2, d3, d4, d5, d6⟩ := cells7 h7
        obtain ⟨a0, a1, a2, a3, a4, a55, a6⟩ := cells7 a7
        go_wp2_with fail
        refine (fixed_c).mono ?_
        rintro e w9 ⟨rfl, k9⟩
        go_wp2
        go_ret
        exact ⟨rfl, fin (K6.alloc _) k9⟩
      · obtain ⟨rfl, rfl⟩ := Prod.mk.inj e3
        have q4 : (qe != 0) = true := by simpa using q3
        clear e3 q3
        dsimp only [Sess.zero] at *
        rw [eu] at *
        obtain ⟨d0, d1, d2, d3, d4, d5, d6⟩ := cells7 h5
        obtain ⟨a0, a1, a2, a3, a4, a55, a6⟩ := cells7 a5
        obtain ⟨b0, b1, b2, b3, b4, b55, b6⟩ := cells7 b5
        go_wp2_with fail
        refine (R _).mono ?_
        rintro e w6 ⟨rfl, k6⟩
        have h6 := k6.heap (by simp) h5
        have a66 := k6.heap (by simp) a5
        have K6 := K5.trans k6
        clear d0 d1 d2 d3 d4 d5 d6 a0 a1 a2 a3 a4 a55 a6 b0 b1 b2 b3 b4 b55 b6 h5 a5 b5 K5 k6 R
        have h7 := (heap_alloc_old (w := w6) (o := .cells #[.int .u64 price, .int .u64 limit, .int .u64 quota, .int .i64 idle, .int .i64 state, .int .u64 ((units : Int) + (n : Int)), .int .i64 last] 24) (lt_of_heap h6)).trans h6
        have a7 := (heap_alloc_old (w := w6) (o := .cells #[.int .u64 price, .int .u64 limit, .int .u64 quota, .int .i64 idle, .int .i64 state, .int .u64 ((units : Int) + (n : Int)), .int .i64 last] 24) (lt_of_heap a66)).trans a66
        obtain ⟨d0, d1, d2, d3, d4, d5, d6⟩ := cells7 h7
        obtain ⟨a0, a1, a2, a3, a4, a55, a6⟩ := cells7 a7
        go_wp2_with fail
        refine (fixed_c).mono ?_
        rintro e w9 ⟨rfl, k9⟩
        go_wp2
        go_ret
        exact ⟨rfl, fin (K6.alloc _) k9⟩
    · obtain ⟨rfl, rfl⟩ := Prod.mk.inj e1
      obtain ⟨rfl, rfl⟩ := Prod.mk.inj e2
      clear e1 e2
      rcases hF2 with q3 | ⟨e, e3, q3⟩
      · exact absurd q3 q1
      · obtain ⟨rfl, rfl⟩ := Prod.mk.inj e3
        have q4 : (qe != 0) = true := by simpa using q3
        have q5 : (qe == 0) = false := by simpa using q3
        clear e3 q3 q1
        dsimp only [Sess.zero] at *
        rw [eu] at *
        obtain ⟨d0, d1, d2, d3, d4, d5, d6⟩ := cells7 h5
        obtain ⟨a0, a1, a2, a3, a4, a55, a6⟩ := cells7 a5
        obtain ⟨b0, b1, b2, b3, b4, b55, b6⟩ := cells7 b5
        go_wp2_with fail
        refine (R _).mono ?_
        rintro e w6 ⟨rfl, k6⟩
        have h6 := k6.heap (by simp) h5
        have a66 := k6.heap (by simp) a5
        have K6 := K5.trans k6
        clear d0 d1 d2 d3 d4 d5 d6 a0 a1 a2 a3 a4 a55 a6 b0 b1 b2 b3 b4 b55 b6 h5 a5 b5 K5 k6 R
        have h7 := (heap_alloc_old (w := w6) (o := .cells #[.int .u64 price, .int .u64 limit, .int .u64 quota, .int .i64 idle, .int .i64 state, .int .u64 ((units : Int) + (n : Int)), .int .i64 last] 24) (lt_of_heap h6)).trans h6
        have a7 := (heap_alloc_old (w := w6) (o := .cells #[.int .u64 price, .int .u64 limit, .int .u64 quota, .int .i64 idle, .int .i64 state, .int .u64 ((units : Int) + (n : Int)), .int .i64 last] 24) (lt_of_heap a66)).trans a66
        obtain ⟨d0, d1, d2, d3, d4, d5, d6⟩ := cells7 h7
        obtain ⟨a0, a1, a2, a3, a4, a55, a6⟩ := cells7 a7
        go_wp2_with fail
        refine (fixed_c).mono ?_
        rintro e w9 ⟨rfl, k9⟩
        go_wp2
        go_ret
        exact ⟨rfl, fin (K6.alloc _) k9⟩
    · obtain ⟨rfl, rfl⟩ := Prod.mk.inj e1
      have q5 : (pe != 0) = true := by simpa using q1
      have q6 : (pe == 11) = false := by simpa using q2
      have q7 : (pe != 11) = true := by simpa using q2
      clear e1 q1 q2
      rcases hF2 with q3 | ⟨e, e3, q3⟩
      · subst q3
        dsimp only [Sess.zero] at *
        obtain ⟨d0, d1, d2, d3, d4, d5, d6⟩ := cells7 h5
        obtain ⟨a0, a1, a2, a3, a4, a55, a6⟩ := cells7 a5
        obtain ⟨b0, b1, b2, b3, b4, b55, b6⟩ := cells7 b5
        go_wp2_with fail
        refine (R _).mono ?_
        rintro e w6 ⟨rfl, k6⟩
        have h6 := k6.heap (by simp) h5
        have a66 := k6.heap (by simp) a5
        have K6 := K5.trans k6
        clear d0 d1 d2 d3 d4 d5 d6 a0 a1 a2 a3 a4 a55 a6 b0 b1 b2 b3 b4 b55 b6 h5 a5 b5 K5 k6 R
        have h7 := (heap_alloc_old (w := w6) (o := .cells #[.int .u64 ra.price, .int .u64 ra.limit, .int .u64 ra.quota, .int .i64 ra.idle, .int .i64 ra.state, .int .u64 ra.units, .int .i64 ra.last] 24) (lt_of_heap h6)).trans h6
        have a7 := (heap_alloc_old (w := w6) (o := .cells #[.int .u64 ra.price, .int .u64 ra.limit, .int .u64 ra.quota, .int .i64 ra.idle, .int .i64 ra.state, .int .u64 ra.units, .int .i64 ra.last] 24) (lt_of_heap a66)).trans a66
        obtain ⟨d0, d1, d2, d3, d4, d5, d6⟩ := cells7 h7
        obtain ⟨a0, a1, a2, a3, a4, a55, a6⟩ := cells7 a7
        go_wp2_with fail
        refine (fixed_c).mono ?_
        rintro e w9 ⟨rfl, k9⟩
        go_wp2
        go_ret
        exact ⟨rfl, fin (K6.alloc _) k9⟩
      · obtain ⟨rfl, rfl⟩ := Prod.mk.inj e3
        have q4 : (qe != 0) = true := by simpa using q3
        clear e3 q3
        dsimp only [Sess.zero] at *
        obtain ⟨d0, d1, d2, d3, d4, d5, d6⟩ := cells7 h5
        obtain ⟨a0, a1, a2, a3, a4, a55, a6⟩ := cells7 a5
        obtain ⟨b0, b1, b2, b3, b4, b55, b6⟩ := cells7 b5
        go_wp2_with fail
        refine (R _).mono ?_
        rintro e w6 ⟨rfl, k6⟩
        have h6 := k6.heap (by simp) h5
        have a66 := k6.heap (by simp) a5
        have K6 := K5.trans k6
        clear d0 d1 d2 d3 d4 d5 d6 a0 a1 a2 a3 a4 a55 a6 b0 b1 b2 b3 b4 b55 b6 h5 a5 b5 K5 k6 R
        have h7 := (heap_alloc_old (w := w6) (o := .cells #[.int .u64 ra.price, .int .u64 ra.limit, .int .u64 ra.quota, .int .i64 ra.idle, .int .i64 ra.state, .int .u64 ra.units, .int .i64 ra.last] 24) (lt_of_heap h6)).trans h6
        have a7 := (heap_alloc_old (w := w6) (o := .cells #[.int .u64 ra.price, .int .u64 ra.limit, .int .u64 ra.quota, .int .i64 ra.idle, .int .i64 ra.state, .int .u64 ra.units, .int .i64 ra.last] 24) (lt_of_heap a66)).trans a66
        obtain ⟨d0, d1, d2, d3, d4, d5, d6⟩ := cells7 h7
        obtain ⟨a0, a1, a2, a3, a4, a55, a6⟩ := cells7 a7
        go_wp2_with fail
        refine (fixed_c).mono ?_
        rintro e w9 ⟨rfl, k9⟩
        go_wp2
        go_ret
        exact ⟨rfl, fin (K6.alloc _) k9⟩
end Go.Proofs.Ytimbngaadgkeaaa
