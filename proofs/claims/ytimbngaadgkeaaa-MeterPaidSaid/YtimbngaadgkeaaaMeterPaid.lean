/-
  MeterPaid: its walk.
-/
import Derived.Test.YtimbngaadgkeaaaMeterMost
import Derived.Test.YtimbngaadgkeaaaMeterCalls
import Derived.Test.YtimbngaadgkeaaaLiftPairs
import Derived.Test.YtimbngaadgkeaaaMeterPaidPlain
import Derived.Deep.RegionHeld3
namespace Go.Proofs.Ytimbngaadgkeaaa
open Go.RowKit

structure PaidOk (p : Sess) (c : Nat) (o : Bool) : Prop where
  inv : PaidInv p c
  ok : p.Ok
  lim : p.limit ≤ 4611686018427387904
  over : o = true → p.state = 3

theorem PaidOk.grow {p : Sess} {c c' : Nat} {o : Bool} (h : PaidOk p c o) (hc : c ≤ c') (hs : c' ≤ 60000) : PaidOk p c' o :=
  ⟨h.inv.grow hc (by have := h.lim; omega), h.ok, h.lim, h.over⟩
theorem PaidOk.pause {p : Sess} {c : Nat} {o : Bool} (h : PaidOk p c o) (hg : (mPause p).2 = 0) : PaidOk (mPause p).1 c o := by
  obtain ⟨a1, a2, a3, a4⟩ := h.inv.pause hg
  have e : mPause p = ({ p with state := 2 }, 0) := if_pos a3
  refine ⟨a1, ?_, by rw [a4]; exact h.lim, fun k => by have := h.over k; omega⟩
  rw [e]
  exact ⟨h.ok.price, h.ok.limit, h.ok.quota, h.ok.idle, ⟨by show _ ≤ (2 : Int); omega, by show (2 : Int) ≤ _; omega⟩, h.ok.units, h.ok.last⟩
theorem PaidOk.resume {p : Sess} {c : Nat} {o : Bool} {now : Int} (h : PaidOk p c o) (hn : inI64 now) (hg : (mResume p now).2 = 0) : PaidOk (mResume p now).1 c o := by
  obtain ⟨a1, a2, a3, a4⟩ := h.inv.resume hg
  refine ⟨a1, ?_, by rw [a4]; exact h.lim, fun k => by have := h.over k; omega⟩
  have e : mResume p now = ({ p with state := 1, last := now }, 0) := by
    by_cases d : now < p.last
    · have e : mResume p now = (.zero, 1) := by rw [mResume, if_pos a3, if_pos d]
      rw [e] at hg; cases hg
    · rw [mResume, if_pos a3, if_neg d]
  rw [e]
  exact ⟨h.ok.price, h.ok.limit, h.ok.quota, h.ok.idle, ⟨by show _ ≤ (1 : Int); omega, by show (1 : Int) ≤ _; omega⟩, h.ok.units, hn⟩
theorem PaidOk.tick {p : Sess} {c : Nat} {o : Bool} {now : Int} (h : PaidOk p c o) : PaidOk (mTick p now) c o := by
  obtain ⟨a1, a2, a4⟩ := h.inv.tick (now := now)
  refine ⟨a1, ?_, by rw [a4]; exact h.lim, fun k => by have := h.over k; omega⟩
  unfold mTick
  split
  · exact ⟨h.ok.price, h.ok.limit, h.ok.quota, h.ok.idle, ⟨by show _ ≤ (3 : Int); omega, by show (3 : Int) ≤ _; omega⟩, h.ok.units, h.ok.last⟩
  · exact h.ok
theorem PaidOk.grant {p : Sess} {n c : Nat} {o : Bool} {now : Int} (h : PaidOk p c o) (hn : inI64 now) (hg : (mGrant p n c now).2 = 0) : PaidOk (mGrant p n c now).1 c o ∧ o = false := by
  obtain ⟨a1, a2, a3, a4⟩ := h.inv.grant hg
  have G := (grant_iff p n c now).1 hg
  refine ⟨⟨a1, ?_, by rw [a4]; exact h.lim, fun k => by have := h.over k; omega⟩, ?_⟩
  · rw [grant_yes G]
    exact ⟨h.ok.price, h.ok.limit, h.ok.quota, h.ok.idle, h.ok.state, by have := G.room; show p.units + n ≤ _; omega, hn⟩
  · cases o with
    | false => rfl
    | true => have := h.over rfl; omega

def PaidRel (w0 : World) (P : Nat) (len : Nat) (v8 v9 v10 i : Value) (wr : World) : Prop :=
  ∃ (k : Nat) (p : Sess) (c : Nat) (t : Nat) (o : Bool), k ≤ len ∧ i = .int .i64 k ∧ k ≤ 60 ∧ v8 = .int .u64 c ∧ v9 = .int .i64 t ∧ v10 = .bool o ∧ c ≤ 999 * k ∧ t ≤ 4294967295 + 49 * k ∧ PaidOk p c o ∧
    wr.heap[P]? = some (.cells #[.int .u64 p.price, .int .u64 p.limit, .int .u64 p.quota, .int .i64 p.idle, .int .i64 p.state, .int .u64 p.units, .int .i64 p.last] 24 (0, 0)) ∧ Keeps [] w0 wr

theorem sess_stored {w w0 : World} {Q : Nat} {x0 x1 x2 x3 x4 x5 x6 : Value} {t : TypeId} (h : w.heap[Q]? = some (.cells #[x0, x1, x2, x3, x4, x5, x6] t (0, 0))) (K : Keeps [] w0 w) (hQ : w0.heap.size ≤ Q) (y0 y1 y2 y3 y4 y5 y6 : Value) :
    ∃ w', w' = (((((((w.setCell ⟨Q, 0, none⟩ y0).setCell ⟨Q, 1, none⟩ y1).setCell ⟨Q, 2, none⟩ y2).setCell ⟨Q, 3, none⟩ y3).setCell ⟨Q, 4, none⟩ y4).setCell ⟨Q, 5, none⟩ y5).setCell ⟨Q, 6, none⟩ y6) ∧
      w'.heap[Q]? = some (.cells #[y0, y1, y2, y3, y4, y5, y6] t (0, 0)) ∧ (∀ b, Q ≠ b → w'.heap[b]? = w.heap[b]?) ∧ Keeps [] w0 w' := by
  refine ⟨_, rfl, sess_store h _ _ _ _ _ _ _, fun b hb => ?_, keeps_store K hQ _ _ _ _ _ _ _⟩
  have h2 := Ne.symm hb
  rw [heap_setCell_other h2, heap_setCell_other h2, heap_setCell_other h2, heap_setCell_other h2, heap_setCell_other h2, heap_setCell_other h2, heap_setCell_other h2]

set_option maxRecDepth 100000 in
set_option maxHeartbeats 20000000 in
theorem meterPaid_walk {w : World} (s : Sess) (hs : s.Ok) (a : Option Addr) (cap : Nat) (l : List (Nat × Nat)) (hl : PairsAt w w.heap.size a l) :
    Calls Try.prog 6 #[.agg #[.int .u64 s.price, .int .u64 s.limit, .int .u64 s.quota, .int .i64 s.idle, .int .i64 s.state, .int .u64 s.units, .int .i64 s.last], .slice a l.length cap] w fun e w' => e = .returned (.bool true) ∧ Below w.heap.size w w' := by
  have hlen := hl.small
  go_enter Try.func6, Try.ntmps6
  go_wp2_with fail
  refine (tame_c s hs).mono ?_
  rintro e w1 ⟨t, rfl, ht, hst, k1⟩
  clear hst
  have K1 := (keeps_alloc w (.cells #[.int .u64 s.price, .int .u64 s.limit, .int .u64 s.quota, .int .i64 s.idle, .int .i64 s.state, .int .u64 s.units, .int .i64 s.last] 24)).trans k1
  have h1 := heap_alloc_same (w := w1) (o := .cells #[.int .u64 t.price, .int .u64 t.limit, .int .u64 t.quota, .int .i64 t.idle, .int .i64 t.state, .int .u64 t.units, .int .i64 t.last] 24)
  clear k1
  obtain ⟨w2, hw2⟩ : ∃ w2, w2 = w1.alloc (.cells #[.int .u64 t.price, .int .u64 t.limit, .int .u64 t.quota, .int .i64 t.idle, .int .i64 t.state, .int .u64 t.units, .int .i64 t.last] 24) := ⟨_, rfl⟩
  rw [← hw2] at h1
  have K2 : Keeps [] w w2 := by rw [hw2]; exact K1.alloc _
  go_upto_region 2 with fail
  rw [← hw2]
  clear K1 hw2
  obtain ⟨B, hB⟩ : ∃ B, B = w1.heap.size := ⟨_, rfl⟩
  rw [← hB] at h1 ⊢
  clear hB
  have N := fun w => new_c (w := w) t.price t.limit t.quota t.idle t.last ht.ok.price ht.ok.limit ht.ok.quota ht.ok.idle ht.ok.last
  have e1 : mNew t.price t.limit t.quota t.idle t.last = (⟨t.price, t.limit, t.quota, t.idle, 1, 0, t.last⟩, 0) := if_pos ⟨ht.p1, ht.p2, ht.l2, ht.q1, ht.q2, ht.i1, by have := ht.i2; omega, ht.n1⟩
  rw [e1] at N
  clear e1
  have hok : PaidOk ⟨t.price, t.limit, t.quota, t.idle, 1, 0, t.last⟩ 0 false :=
    ⟨⟨Nat.zero_le _, by show t.price * 0 ≤ _; omega, by have := ht.l2; show 0 + t.limit < _; omega⟩, ⟨ht.ok.price, ht.ok.limit, ht.ok.quota, ht.ok.idle, ⟨by show _ ≤ (1 : Int); omega, by show (1 : Int) ≤ _; omega⟩, Nat.zero_le _, ht.ok.last⟩, ht.l2, by simp⟩
  have hn1 := ht.n1
  have hn2 := ht.n2
  obtain ⟨price, limit, quota, idle, state, units, last⟩ := t
  dsimp only at *
  obtain ⟨now, rfl⟩ : ∃ n : Nat, last = (n : Int) := ⟨last.toNat, by omega⟩
  clear ht
  obtain ⟨d0, d1, d2, d3, d4, d5, d6⟩ := cells7 h1
  go_wp2_with fail
  refine (N _).mono ?_
  rintro e w3 ⟨rfl, k3⟩
  clear N
  have h3 := k3.heap (by simp) h1
  have K3 := K2.trans k3
  have g3 := (heap_alloc_old (w := w3) (o := .cells #[.int .u64 price, .int .u64 limit, .int .u64 quota, .int .i64 idle, .int .i64 1, .int .u64 0, .int .i64 now] 24) (lt_of_heap h3)).trans h3
  have p3 := heap_alloc_same (w := w3) (o := .cells #[.int .u64 price, .int .u64 limit, .int .u64 quota, .int .i64 idle, .int .i64 1, .int .u64 0, .int .i64 now] 24)
  clear d0 d1 d2 d3 d4 d5 d6 h1 K2 k3 h3
  obtain ⟨w4, hw4⟩ : ∃ w4, w4 = w3.alloc (.cells #[.int .u64 price, .int .u64 limit, .int .u64 quota, .int .i64 idle, .int .i64 1, .int .u64 0, .int .i64 now] 24) := ⟨_, rfl⟩
  rw [← hw4] at g3 p3
  have K4 : Keeps [] w w4 := by rw [hw4]; exact K3.alloc _
  go_upto_region 5 with fail
  rw [← hw4]
  clear hw4
  have hBw := lt_of_heap g3
  have hPw : w.heap.size ≤ w3.heap.size := K3.size
  clear K3
  obtain ⟨P, hP⟩ : ∃ P, P = w3.heap.size := ⟨_, rfl⟩
  rw [← hP] at p3 hPw ⊢
  clear hP
  obtain ⟨d0, d1, d2, d3, d4, d5, d6⟩ := cells7 g3
  go_region
  go_wp2_with fail
  go_loopw [8, 9, 10, 11] (fun v8 v9 v10 i wr => PaidRel w P l.length v8 v9 v10 i wr) (fun _ _ _ i _ => l.length - (intOf i).toNat)
  case atStart => exact ⟨0, ⟨price, limit, quota, idle, 1, 0, now⟩, 0, now, false, Nat.zero_le _, rfl, Nat.zero_le _, rfl, rfl, rfl, Nat.zero_le _, by omega, hok, p3, K4.drew⟩
  case round =>
    clear p3 K4 g3 d0 d1 d2 d3 d4 d5 d6 hok hn1 hn2 hs
    obtain ⟨k, p, c, t, o, hk, rfl, hk60, rfl, rfl, rfl, hc, ht, hp, hP, K⟩ := hrel
    by_cases hlt : k < l.length
    · by_cases h60 : k < 60
      · obtain ⟨b, of, ha, hb, x0, x1⟩ := hl.cell k hlt
        subst ha
        have hr := hl.rng k hlt
        have y0 := (K.cell hb (by simp)).trans x0
        have y1 := (K.cell hb (by simp)).trans x1
        clear x0 x1
        generalize l[k].1 = cc at *
        generalize l[k].2 = n at *
        go_upto_region 9 with fail
        go_region
        obtain ⟨d0, d1, d2, d3, d4, d5, d6⟩ := cells7 hP
        go_upto_region 13 with fail
        clear d0 d1 d2 d3 d4 d5 d6 y0 y1
        obtain ⟨c2, e2, hc2, hcc⟩ : ∃ c2 : Nat, (c : Int) + (n : Int) % 1000 = (c2 : Int) ∧ c ≤ c2 ∧ c2 ≤ 999 * (k + 1) := ⟨c + n % 1000, by omega, by omega, by omega⟩
        obtain ⟨t2, e3, ht2⟩ : ∃ t2 : Nat, (t : Int) + (cc : Int) / 8 % 50 = (t2 : Int) ∧ t2 ≤ 4294967295 + 49 * (k + 1) := ⟨t + cc / 8 % 50, by omega, by omega⟩
        rw [e2, e3]
        have hp2 : PaidOk p c2 o := hp.grow hc2 (by omega)
        clear e2 e3 hc2 hp hc ht
        obtain ⟨w5, hw5⟩ : ∃ w5, w5 = (wr.alloc (.cells #[.int .u64 p.price, .int .u64 p.limit, .int .u64 p.quota, .int .i64 p.idle, .int .i64 p.state, .int .u64 p.units, .int .i64 p.last] 24)).drew := ⟨_, rfl⟩
        have hP5 : w5.heap[P]? = some (.cells #[.int .u64 p.price, .int .u64 p.limit, .int .u64 p.quota, .int .i64 p.idle, .int .i64 p.state, .int .u64 p.units, .int .i64 p.last] 24 (0, 0)) := by rw [hw5]; exact (heap_alloc_old (lt_of_heap hP)).trans hP
        have hQ5 : w5.heap[wr.heap.size]? = some (.cells #[.int .u64 p.price, .int .u64 p.limit, .int .u64 p.quota, .int .i64 p.idle, .int .i64 p.state, .int .u64 p.units, .int .i64 p.last] 24 (0, 0)) := by rw [hw5]; exact heap_alloc_same
        have K5 : Keeps [] w w5 := by rw [hw5]; exact (K.alloc _).drew
        rw [← hw5]
        clear hw5
        have hPQ : P < wr.heap.size := lt_of_heap hP
        clear hP K
        obtain ⟨Q, hQ⟩ : ∃ Q, Q = wr.heap.size := ⟨_, rfl⟩
        rw [← hQ] at hQ5 hPQ ⊢
        clear hQ
        have hwQ : w.heap.size ≤ Q := by omega
        have hQP : Q ≠ P := by omega
        go_upto_block 2 with fail
        go_cut [15] (fun v15 wx => ∃ (q : Sess) (f : Int), v15 = .int .i64 f ∧ wx.heap[Q]? = some (.cells #[.int .u64 q.price, .int .u64 q.limit, .int .u64 q.quota, .int .i64 q.idle, .int .i64 q.state, .int .u64 q.units, .int .i64 q.last] 24 (0, 0)) ∧ wx.heap[P]? = some (.cells #[.int .u64 p.price, .int .u64 p.limit, .int .u64 p.quota, .int .i64 p.idle, .int .i64 p.state, .int .u64 p.units, .int .i64 p.last] 24 (0, 0)) ∧ (f = 0 → PaidOk q c2 o) ∧ Keeps [] w wx)
        case first =>
          have hn64 : inI64 (t2 : Int) := ⟨by omega, by omega⟩
          obtain ⟨n2, e4, hn2⟩ : ∃ n2 : Nat, (1 : Int) + (n : Int) % 100 = (n2 : Int) ∧ n2 ≤ 100 := ⟨1 + n % 100, by omega, by omega⟩
          generalize (cc : Int) % 8 = m at *
          by_cases m0 : m = 0
          · subst m0
            have C := fun w => pause_l (w := w) p hp2.ok
            have L := Go.Lib.hid (fun h => hp2.pause h)
            generalize mPause p = r at *
            obtain ⟨q, f⟩ := r
            dsimp only at C L
            obtain ⟨d0, d1, d2, d3, d4, d5, d6⟩ := cells7 hP5
            go_wp2_with fail
            refine (C _).mono ?_
            rintro e w6 ⟨rfl, k6⟩
            have hP6 := k6.heap (by simp) hP5
            have hQ6 := k6.heap (by simp) hQ5
            have K6 := K5.trans k6
            have gP6 := (heap_alloc_old (w := w6) (o := .cells #[.int .u64 q.price, .int .u64 q.limit, .int .u64 q.quota, .int .i64 q.idle, .int .i64 q.state, .int .u64 q.units, .int .i64 q.last] 24) (lt_of_heap hP6)).trans hP6
            have gQ6 := (heap_alloc_old (w := w6) (o := .cells #[.int .u64 q.price, .int .u64 q.limit, .int .u64 q.quota, .int .i64 q.idle, .int .i64 q.state, .int .u64 q.units, .int .i64 q.last] 24) (lt_of_heap hQ6)).trans hQ6
            obtain ⟨w7, hw7, hQ7, o7, K7⟩ := sess_stored gQ6 (K6.alloc (.cells #[.int .u64 q.price, .int .u64 q.limit, .int .u64 q.quota, .int .i64 q.idle, .int .i64 q.state, .int .u64 q.units, .int .i64 q.last] 24)) hwQ (.int .u64 q.price) (.int .u64 q.limit) (.int .u64 q.quota) (.int .i64 q.idle) (.int .i64 q.state) (.int .u64 q.units) (.int .i64 q.last)
            have f6 := fun i => frozen_of_heap (o := i) gQ6
            clear d0 d1 d2 d3 d4 d5 d6 C k6 hP5 hQ5 K5
            obtain ⟨d0, d1, d2, d3, d4, d5, d6⟩ := cells7 gQ6
            go_wp2_with fail
            rw [← hw7]
            go_meet
            case rel => exact ⟨q, f, rfl, hQ7, (o7 P hQP).trans gP6, L.out, K7⟩
          by_cases m1 : m = 1
          · subst m1
            have C := fun w => resume_l (w := w) p t2 hp2.ok hn64
            have L := Go.Lib.hid (fun h => hp2.resume hn64 h)
            generalize mResume p t2 = r at *
            obtain ⟨q, f⟩ := r
            dsimp only at C L
            obtain ⟨d0, d1, d2, d3, d4, d5, d6⟩ := cells7 hP5
            go_wp2_with fail
            refine (C _).mono ?_
            rintro e w6 ⟨rfl, k6⟩
            have hP6 := k6.heap (by simp) hP5
            have hQ6 := k6.heap (by simp) hQ5
            have K6 := K5.trans k6
            have gP6 := (heap_alloc_old (w := w6) (o := .cells #[.int .u64 q.price, .int .u64 q.limit, .int .u64 q.quota, .int .i64 q.idle, .int .i64 q.state, .int .u64 q.units, .int .i64 q.last] 24) (lt_of_heap hP6)).trans hP6
            have gQ6 := (heap_alloc_old (w := w6) (o := .cells #[.int .u64 q.price, .int .u64 q.limit, .int .u64 q.quota, .int .i64 q.idle, .int .i64 q.state, .int .u64 q.units, .int .i64 q.last] 24) (lt_of_heap hQ6)).trans hQ6
            obtain ⟨w7, hw7, hQ7, o7, K7⟩ := sess_stored gQ6 (K6.alloc (.cells #[.int .u64 q.price, .int .u64 q.limit, .int .u64 q.quota, .int .i64 q.idle, .int .i64 q.state, .int .u64 q.units, .int .i64 q.last] 24)) hwQ (.int .u64 q.price) (.int .u64 q.limit) (.int .u64 q.quota) (.int .i64 q.idle) (.int .i64 q.state) (.int .u64 q.units) (.int .i64 q.last)
            have f6 := fun i => frozen_of_heap (o := i) gQ6
            clear d0 d1 d2 d3 d4 d5 d6 C k6 hP5 hQ5 K5
            obtain ⟨d0, d1, d2, d3, d4, d5, d6⟩ := cells7 gQ6
            go_wp2_with fail
            rw [← hw7]
            go_meet
            case rel => exact ⟨q, f, rfl, hQ7, (o7 P hQP).trans gP6, L.out, K7⟩
          by_cases m2 : m = 2
          · subst m2
            have C := fun w => tick_c (w := w) p t2 hp2.ok hn64
            have L := hp2.tick (now := t2)
            generalize mTick p t2 = q at *
            obtain ⟨d0, d1, d2, d3, d4, d5, d6⟩ := cells7 hP5
            go_wp2_with fail
            refine (C _).mono ?_
            rintro e w6 ⟨rfl, k6⟩
            have hP6 := k6.heap (by simp) hP5
            have hQ6 := k6.heap (by simp) hQ5
            have K6 := K5.trans k6
            obtain ⟨w7, hw7, hQ7, o7, K7⟩ := sess_stored hQ6 K6 hwQ (.int .u64 q.price) (.int .u64 q.limit) (.int .u64 q.quota) (.int .i64 q.idle) (.int .i64 q.state) (.int .u64 q.units) (.int .i64 q.last)
            have f6 := fun i => frozen_of_heap (o := i) hQ6
            clear d0 d1 d2 d3 d4 d5 d6 C k6 hP5 hQ5 K5
            obtain ⟨d0, d1, d2, d3, d4, d5, d6⟩ := cells7 hQ6
            go_wp2_with fail
            rw [← hw7]
            go_meet
            case rel => exact ⟨q, 0, rfl, hQ7, (o7 P hQP).trans hP6, fun _ => L, K7⟩
          · have z0 : (m == 0) = false := by simpa using m0
            have z1 : (m == 1) = false := by simpa using m1
            have z2 : (m == 2) = false := by simpa using m2
            clear m0 m1 m2
            have C := fun w => grant_l (w := w) p n2 c2 t2 hp2.ok (by omega) (by omega) hn64
            have L := Go.Lib.hid (fun h => hp2.grant (n := n2) hn64 h)
            generalize mGrant p n2 c2 t2 = r at *
            obtain ⟨q, f⟩ := r
            dsimp only at C L
            obtain ⟨d0, d1, d2, d3, d4, d5, d6⟩ := cells7 hP5
            go_wp2_with fail
            refine (C _).mono ?_
            rintro e w6 ⟨rfl, k6⟩
            have hP6 := k6.heap (by simp) hP5
            have hQ6 := k6.heap (by simp) hQ5
            have K6 := K5.trans k6
            have gP6 := (heap_alloc_old (w := w6) (o := .cells #[.int .u64 q.price, .int .u64 q.limit, .int .u64 q.quota, .int .i64 q.idle, .int .i64 q.state, .int .u64 q.units, .int .i64 q.last] 24) (lt_of_heap hP6)).trans hP6
            have gQ6 := (heap_alloc_old (w := w6) (o := .cells #[.int .u64 q.price, .int .u64 q.limit, .int .u64 q.quota, .int .i64 q.idle, .int .i64 q.state, .int .u64 q.units, .int .i64 q.last] 24) (lt_of_heap hQ6)).trans hQ6
            obtain ⟨w7, hw7, hQ7, o7, K7⟩ := sess_stored gQ6 (K6.alloc (.cells #[.int .u64 q.price, .int .u64 q.limit, .int .u64 q.quota, .int .i64 q.idle, .int .i64 q.state, .int .u64 q.units, .int .i64 q.last] 24)) hwQ (.int .u64 q.price) (.int .u64 q.limit) (.int .u64 q.quota) (.int .i64 q.idle) (.int .i64 q.state) (.int .u64 q.units) (.int .i64 q.last)
            have f6 := fun i => frozen_of_heap (o := i) gQ6
            clear d0 d1 d2 d3 d4 d5 d6 C k6 hP5 hQ5 K5
            obtain ⟨d0, d1, d2, d3, d4, d5, d6⟩ := cells7 gQ6
            by_cases hf : f = 0
            · subst hf
              obtain ⟨L1, rfl⟩ := L.out rfl
              clear L
              go_wp2_with fail
              rw [← hw7]
              go_meet
              case rel => exact ⟨q, 0, rfl, hQ7, (o7 P hQP).trans gP6, fun _ => L1, K7⟩
            · have hf2 : (f == 0) = false := by simpa using hf
              clear L
              go_wp2_with fail
              rw [← hw7]
              go_meet
              case rel => exact ⟨q, f, rfl, hQ7, (o7 P hQP).trans gP6, fun h => absurd h hf, K7⟩
        case rest =>
          clear hP5 hQ5 K5
          obtain ⟨q, f, rfl, hQ5, hP5, L, K5⟩ := hcut
          go_upto_if 118 with fail
          go_cut [] (fun wx => ∃ p2 : Sess, wx.heap[P]? = some (.cells #[.int .u64 p2.price, .int .u64 p2.limit, .int .u64 p2.quota, .int .i64 p2.idle, .int .i64 p2.state, .int .u64 p2.units, .int .i64 p2.last] 24 (0, 0)) ∧ PaidOk p2 c2 o ∧ Keeps [] w wx)
          case first =>
            by_cases hf : f = 0
            · subst hf
              have L1 := L rfl
              clear L
              obtain ⟨w7, hw7, hP7, o7, K7⟩ := sess_stored hP5 K5 (by omega) (.int .u64 q.price) (.int .u64 q.limit) (.int .u64 q.quota) (.int .i64 q.idle) (.int .i64 q.state) (.int .u64 q.units) (.int .i64 q.last)
              have f6 := fun i => frozen_of_heap (o := i) hP5
              obtain ⟨d0, d1, d2, d3, d4, d5, d6⟩ := cells7 hQ5
              obtain ⟨b0, b1, b2, b3, b4, b5, b6⟩ := cells7 hP5
              go_wp2_with fail
              rw [← hw7]
              go_meet
              case rel => exact ⟨q, hP7, L1, K7⟩
            · have hf2 : (f == 0) = false := by simpa using hf
              clear L
              go_wp2_with fail
              go_meet
              case rel => exact ⟨p, hP5, hp2, K5⟩
          case rest =>
            clear hP5 hQ5 K5 L hp2
            obtain ⟨p2, hP6, hp6, K6⟩ := hcut
            go_upto_region 31 with fail
            go_cut [10] (fun v10 wx => ∃ o2, v10 = .bool o2 ∧ PaidOk p2 c2 o2 ∧ wx.heap[P]? = some (.cells #[.int .u64 p2.price, .int .u64 p2.limit, .int .u64 p2.quota, .int .i64 p2.idle, .int .i64 p2.state, .int .u64 p2.units, .int .i64 p2.last] 24 (0, 0)) ∧ Keeps [] w wx)
            case first =>
              obtain ⟨d0, d1, d2, d3, d4, d5, d6⟩ := cells7 hP6
              cases o with
              | true =>
                go_wp2_with fail
                go_meet
                case rel => exact ⟨true, rfl, hp6, hP6, K6⟩
              | false =>
                by_cases h3 : p2.state = 3
                · have z3 : (p2.state == 3) = true := by simpa using h3
                  have hp7 : PaidOk p2 c2 true := ⟨hp6.inv, hp6.ok, hp6.lim, fun _ => h3⟩
                  clear h3
                  go_wp2_with fail
                  go_meet
                  case rel => exact ⟨true, rfl, hp7, hP6, K6⟩
                · have z3 : (p2.state == 3) = false := by simpa using h3
                  clear h3
                  go_wp2_with fail
                  go_meet
                  case rel => exact ⟨false, rfl, hp6, hP6, K6⟩
            case rest =>
              clear hP6 hp6 K6
              obtain ⟨o2, rfl, hp6, hP6, K6⟩ := hcut
              have O := fun w => owed_c (w := w) p2 c2 hp6.ok (by omega)
              have z1 : decide ((p2.quota : Int) < (p2.units : Int)) = false := by have := hp6.inv.quota; simp; omega
              have z2 : decide ((p2.limit : Int) < (mOwed p2 c2 : Int)) = false := by have := hp6.inv.owed; simp; omega
              have z4 : decide (p2.quota < p2.units) = false := by have := hp6.inv.quota; simp; omega
              have z5 : decide (p2.limit < mOwed p2 c2) = false := by have := hp6.inv.owed; simp; omega
              have HK := Go.Lib.hid (show ∃ o3, PaidOk p2 c2 o3 ∧ o3 = o2 from ⟨_, hp6, rfl⟩)
              have H3 := hp6.over
              clear hp6
              generalize mOwed p2 c2 = ow at *
              cases o2 with
              | true =>
                have z3 : (p2.state != 3) = false := by simpa using H3 rfl
                clear H3
                go_upto_region 32 with fail
                refine wp_region_held_drew (S := (fun w' => w'.heap[P]? = some (.cells #[.int .u64 p2.price, .int .u64 p2.limit, .int .u64 p2.quota, .int .i64 p2.idle, .int .i64 p2.state, .int .u64 p2.units, .int .i64 p2.last] 24 (0, 0)))) (by kernel_rfl) (hP6) (fun hHeld => ?_)
                refine wpAnyH_take (i := 0) (oi := Oper.mk _ _ _ _ _ _) (v := ?_) rfl (by kernel_rfl) (by kernel_rfl) (by kernel_rfl) (fun _ _ _ h => h) (Or.inl ⟨by rfl, ?_⟩) hHeld ?_
                rotate_left
                · (intro w hSw; (try dsimp only at hSw); obtain ⟨d0, d1, d2, d3, d4, d5, d6⟩ := cells7 hSw; (first | (go_simp; done) | (go_simp; with_reducible rfl)))
                try simp only [Act.put, List.setIfInBounds_toArray, List.set_cons_zero, List.set_cons_succ]
                refine wpAnyH_take (i := 1) (oi := Oper.mk _ _ _ _ _ _) (v := ?_) rfl (by kernel_rfl) (by kernel_rfl) (by kernel_rfl) (fun _ _ _ h => h) (Or.inl ⟨by rfl, ?_⟩) hHeld ?_
                rotate_left
                · (intro w hSw; (try dsimp only at hSw); obtain ⟨d0, d1, d2, d3, d4, d5, d6⟩ := cells7 hSw; (first | (go_simp; done) | (go_simp; with_reducible rfl)))
                try simp only [Act.put, List.setIfInBounds_toArray, List.set_cons_zero, List.set_cons_succ]
                refine wpAnyH_take (i := 2) (oi := Oper.mk _ _ _ _ _ _) (v := ?_) rfl (by kernel_rfl) (by kernel_rfl) (by kernel_rfl) (fun _ _ _ h => h) (Or.inl ⟨by rfl, ?_⟩) hHeld ?_
                rotate_left
                · (intro w hSw; (try dsimp only at hSw); obtain ⟨d0, d1, d2, d3, d4, d5, d6⟩ := cells7 hSw; (first | (go_simp; done) | (go_simp; with_reducible rfl)))
                try simp only [Act.put, List.setIfInBounds_toArray, List.set_cons_zero, List.set_cons_succ]
                refine wpAnyH_take (i := 3) (oi := Oper.mk _ _ _ _ _ _) (v := ?_) rfl (by kernel_rfl) (by kernel_rfl) (by kernel_rfl) (fun _ _ _ h => h) (Or.inl ⟨by rfl, ?_⟩) hHeld ?_
                rotate_left
                · (intro w hSw; (try dsimp only at hSw); obtain ⟨d0, d1, d2, d3, d4, d5, d6⟩ := cells7 hSw; (first | (go_simp; done) | (go_simp; with_reducible rfl)))
                try simp only [Act.put, List.setIfInBounds_toArray, List.set_cons_zero, List.set_cons_succ]
                refine wpAnyH_take (i := 4) (oi := Oper.mk _ _ _ _ _ _) (v := ?_) rfl (by kernel_rfl) (by kernel_rfl) (by kernel_rfl) (fun _ _ _ h => h) (Or.inl ⟨by rfl, ?_⟩) hHeld ?_
                rotate_left
                · (intro w hSw; (try dsimp only at hSw); obtain ⟨d0, d1, d2, d3, d4, d5, d6⟩ := cells7 hSw; (first | (go_simp; done) | (go_simp; with_reducible rfl)))
                try simp only [Act.put, List.setIfInBounds_toArray, List.set_cons_zero, List.set_cons_succ]
                refine wpAnyH_take (i := 5) (oi := Oper.mk _ _ _ _ _ _) (v := ?_) rfl (by kernel_rfl) (by kernel_rfl) (by kernel_rfl) (fun _ _ _ h => h) (Or.inl ⟨by rfl, ?_⟩) hHeld ?_
                rotate_left
                · (intro w hSw; (try dsimp only at hSw); obtain ⟨d0, d1, d2, d3, d4, d5, d6⟩ := cells7 hSw; (first | (go_simp; done) | (go_simp; with_reducible rfl)))
                try simp only [Act.put, List.setIfInBounds_toArray, List.set_cons_zero, List.set_cons_succ]
                refine wpAnyH_take (i := 6) (oi := Oper.mk _ _ _ _ _ _) (v := ?_) rfl (by kernel_rfl) (by kernel_rfl) (by kernel_rfl) (fun _ _ _ h => h) (Or.inl ⟨by rfl, ?_⟩) hHeld ?_
                rotate_left
                · (intro w hSw; (try dsimp only at hSw); obtain ⟨d0, d1, d2, d3, d4, d5, d6⟩ := cells7 hSw; (first | (go_simp; done) | (go_simp; with_reducible rfl)))
                try simp only [Act.put, List.setIfInBounds_toArray, List.set_cons_zero, List.set_cons_succ]
                refine wpAnyH_take (i := 7) (oi := Oper.mk _ _ _ _ _ _) (v := ?_) rfl (by kernel_rfl) (by kernel_rfl) (by kernel_rfl) (fun _ _ _ h => h) (Or.inl ⟨by rfl, ?_⟩) hHeld ?_
                rotate_left
                · (intro w hSw; (try dsimp only at hSw); obtain ⟨d0, d1, d2, d3, d4, d5, d6⟩ := cells7 hSw; (first | (go_simp; done) | (go_simp; with_reducible rfl)))
                try simp only [Act.put, List.setIfInBounds_toArray, List.set_cons_zero, List.set_cons_succ]
                refine wpAnyH_take (i := 9) (oi := Oper.mk _ _ _ _ _ _) (v := ?_) rfl (by kernel_rfl) (by kernel_rfl) (by kernel_rfl) (fun _ _ _ h => h) (Or.inl ⟨by rfl, ?_⟩) hHeld ?_
                rotate_left
                · (intro w hSw; (try dsimp only at hSw); obtain ⟨d0, d1, d2, d3, d4, d5, d6⟩ := cells7 hSw; (first | (go_simp; done) | (go_simp; with_reducible rfl)))
                try simp only [Act.put, List.setIfInBounds_toArray, List.set_cons_zero, List.set_cons_succ]
                refine wpAnyH_take (i := 10) (oi := Oper.mk _ _ _ _ _ _) (v := ?_) rfl (by kernel_rfl) (by kernel_rfl) (by kernel_rfl) (fun _ _ _ h => h) (Or.inl ⟨by rfl, ?_⟩) hHeld ?_
                rotate_left
                · (intro w hSw; (try dsimp only at hSw); obtain ⟨d0, d1, d2, d3, d4, d5, d6⟩ := cells7 hSw; (first | (go_simp; done) | (go_simp; with_reducible rfl)))
                try simp only [Act.put, List.setIfInBounds_toArray, List.set_cons_zero, List.set_cons_succ]
                refine wpAnyH_ready (rs := [8]) (by kernel_rfl) (by simp) ?_
                refine AllReadyH.cons (o := Oper.mk _ _ _ _ _ _) rfl (fun K hK => ?_) AllReadyH.nil
                (go_simp; refine (O _).mono ?_; rintro e w8 ⟨rfl, k8⟩)
                refine hK.out _ _ (k8.heap (by simp) hP6) (fun hNew => ?_)
                clear hHeld hK
                have hHeld := hNew
                clear hNew
                try simp only [Act.put, List.setIfInBounds_toArray, List.set_cons_zero, List.set_cons_succ]
                refine wpAnyH_take (i := 11) (oi := Oper.mk _ _ _ _ _ _) (v := ?_) rfl (by kernel_rfl) (by kernel_rfl) (by kernel_rfl) (fun _ _ _ h => h) (Or.inl ⟨by rfl, ?_⟩) hHeld ?_
                rotate_left
                · (intro w hSw; (try dsimp only at hSw); (first | (go_simp; done) | (go_simp; with_reducible rfl)))
                try simp only [Act.put, List.setIfInBounds_toArray, List.set_cons_zero, List.set_cons_succ]
                refine wpAnyH_take (i := 12) (oi := Oper.mk _ _ _ _ _ _) (v := ?_) rfl (by kernel_rfl) (by kernel_rfl) (by kernel_rfl) (fun _ _ _ h => h) (Or.inl ⟨by rfl, ?_⟩) hHeld ?_
                rotate_left
                · (intro w hSw; (try dsimp only at hSw); (first | (go_simp; done) | (go_simp; with_reducible rfl)))
                try simp only [Act.put, List.setIfInBounds_toArray, List.set_cons_zero, List.set_cons_succ]
                refine wpAnyH_take (i := 13) (oi := Oper.mk _ _ _ _ _ _) (v := ?_) rfl (by kernel_rfl) (by kernel_rfl) (by kernel_rfl) (fun _ _ _ h => h) (Or.inl ⟨by rfl, ?_⟩) hHeld ?_
                rotate_left
                · (intro w hSw; (try dsimp only at hSw); (first | (go_simp; done) | (go_simp; with_reducible rfl)))
                try simp only [Act.put, List.setIfInBounds_toArray, List.set_cons_zero, List.set_cons_succ]
                refine wpAnyH_take (i := 14) (oi := Oper.mk _ _ _ _ _ _) (v := ?_) rfl (by kernel_rfl) (by kernel_rfl) (by kernel_rfl) (fun _ _ _ h => h) (Or.inl ⟨by rfl, ?_⟩) hHeld ?_
                rotate_left
                · (intro w hSw; (try dsimp only at hSw); (first | (go_simp; done) | (go_simp; with_reducible rfl)))
                try simp only [Act.put, List.setIfInBounds_toArray, List.set_cons_zero, List.set_cons_succ]
                refine wpAnyH_take (i := 15) (oi := Oper.mk _ _ _ _ _ _) (v := ?_) rfl (by kernel_rfl) (by kernel_rfl) (by kernel_rfl) (fun _ _ _ h => h) (Or.inl ⟨by rfl, ?_⟩) hHeld ?_
                rotate_left
                · (intro w hSw; (try dsimp only at hSw); (first | (go_simp; done) | (go_simp; with_reducible rfl)))
                try simp only [Act.put, List.setIfInBounds_toArray, List.set_cons_zero, List.set_cons_succ]
                refine wpAnyH_take (i := 16) (oi := Oper.mk _ _ _ _ _ _) (v := ?_) rfl (by kernel_rfl) (by kernel_rfl) (by kernel_rfl) (fun _ _ _ h => h) (Or.inl ⟨by rfl, ?_⟩) hHeld ?_
                rotate_left
                · (intro w hSw; (try dsimp only at hSw); obtain ⟨d0, d1, d2, d3, d4, d5, d6⟩ := cells7 hSw; (first | (go_simp; done) | (go_simp; with_reducible rfl)))
                try simp only [Act.put, List.setIfInBounds_toArray, List.set_cons_zero, List.set_cons_succ]
                refine wpAnyH_take (i := 17) (oi := Oper.mk _ _ _ _ _ _) (v := ?_) rfl (by kernel_rfl) (by kernel_rfl) (by kernel_rfl) (fun _ _ _ h => h) (Or.inl ⟨by rfl, ?_⟩) hHeld ?_
                rotate_left
                · (intro w hSw; (try dsimp only at hSw); obtain ⟨d0, d1, d2, d3, d4, d5, d6⟩ := cells7 hSw; (first | (go_simp; done) | (go_simp; with_reducible rfl)))
                try simp only [Act.put, List.setIfInBounds_toArray, List.set_cons_zero, List.set_cons_succ]
                refine wpAnyH_take (i := 18) (oi := Oper.mk _ _ _ _ _ _) (v := ?_) rfl (by kernel_rfl) (by kernel_rfl) (by kernel_rfl) (fun _ _ _ h => h) (Or.inl ⟨by rfl, ?_⟩) hHeld ?_
                rotate_left
                · (intro w hSw; (try dsimp only at hSw); (first | (go_simp; done) | (go_simp; with_reducible rfl)))
                try simp only [Act.put, List.setIfInBounds_toArray, List.set_cons_zero, List.set_cons_succ]
                refine wpAnyH_take (i := 19) (oi := Oper.mk _ _ _ _ _ _) (v := ?_) rfl (by kernel_rfl) (by kernel_rfl) (by kernel_rfl) (fun _ _ _ h => h) (Or.inl ⟨by rfl, ?_⟩) hHeld ?_
                rotate_left
                · (intro w hSw; (try dsimp only at hSw); (first | (go_simp; done) | (go_simp; with_reducible rfl)))
                try simp only [Act.put, List.setIfInBounds_toArray, List.set_cons_zero, List.set_cons_succ]
                refine wpAnyH_take (i := 20) (oi := Oper.mk _ _ _ _ _ _) (v := ?_) rfl (by kernel_rfl) (by kernel_rfl) (by kernel_rfl) (fun _ _ _ h => h) (Or.inl ⟨by rfl, ?_⟩) hHeld ?_
                rotate_left
                · (intro w hSw; (try dsimp only at hSw); (first | (go_simp; done) | (go_simp; with_reducible rfl)))
                try simp only [Act.put, List.setIfInBounds_toArray, List.set_cons_zero, List.set_cons_succ]
                refine wpAnyH_done (by kernel_rfl) ?_ _
                go_wp2_with fail
                go_roundw
                case rel =>
                  obtain ⟨o3, hp7, e⟩ := HK.out
                  subst e
                  exact ⟨k + 1, p2, c2, t2, _, by omega, by go_num, by omega, rfl, rfl, rfl, hcc, ht2, hp7, k8.heap (by simp) hP6, K6.drew.trans k8⟩
                case measure => simp [intOf]; omega
              | false =>
                clear H3
                go_upto_region 32 with fail
                refine wp_region_held_drew (S := (fun w' => w'.heap[P]? = some (.cells #[.int .u64 p2.price, .int .u64 p2.limit, .int .u64 p2.quota, .int .i64 p2.idle, .int .i64 p2.state, .int .u64 p2.units, .int .i64 p2.last] 24 (0, 0)))) (by kernel_rfl) (hP6) (fun hHeld => ?_)
                refine wpAnyH_take (i := 0) (oi := Oper.mk _ _ _ _ _ _) (v := ?_) rfl (by kernel_rfl) (by kernel_rfl) (by kernel_rfl) (fun _ _ _ h => h) (Or.inl ⟨by rfl, ?_⟩) hHeld ?_
                rotate_left
                · (intro w hSw; (try dsimp only at hSw); obtain ⟨d0, d1, d2, d3, d4, d5, d6⟩ := cells7 hSw; (first | (go_simp; done) | (go_simp; with_reducible rfl)))
                try simp only [Act.put, List.setIfInBounds_toArray, List.set_cons_zero, List.set_cons_succ]
                refine wpAnyH_take (i := 1) (oi := Oper.mk _ _ _ _ _ _) (v := ?_) rfl (by kernel_rfl) (by kernel_rfl) (by kernel_rfl) (fun _ _ _ h => h) (Or.inl ⟨by rfl, ?_⟩) hHeld ?_
                rotate_left
                · (intro w hSw; (try dsimp only at hSw); obtain ⟨d0, d1, d2, d3, d4, d5, d6⟩ := cells7 hSw; (first | (go_simp; done) | (go_simp; with_reducible rfl)))
                try simp only [Act.put, List.setIfInBounds_toArray, List.set_cons_zero, List.set_cons_succ]
                refine wpAnyH_take (i := 2) (oi := Oper.mk _ _ _ _ _ _) (v := ?_) rfl (by kernel_rfl) (by kernel_rfl) (by kernel_rfl) (fun _ _ _ h => h) (Or.inl ⟨by rfl, ?_⟩) hHeld ?_
                rotate_left
                · (intro w hSw; (try dsimp only at hSw); obtain ⟨d0, d1, d2, d3, d4, d5, d6⟩ := cells7 hSw; (first | (go_simp; done) | (go_simp; with_reducible rfl)))
                try simp only [Act.put, List.setIfInBounds_toArray, List.set_cons_zero, List.set_cons_succ]
                refine wpAnyH_take (i := 3) (oi := Oper.mk _ _ _ _ _ _) (v := ?_) rfl (by kernel_rfl) (by kernel_rfl) (by kernel_rfl) (fun _ _ _ h => h) (Or.inl ⟨by rfl, ?_⟩) hHeld ?_
                rotate_left
                · (intro w hSw; (try dsimp only at hSw); obtain ⟨d0, d1, d2, d3, d4, d5, d6⟩ := cells7 hSw; (first | (go_simp; done) | (go_simp; with_reducible rfl)))
                try simp only [Act.put, List.setIfInBounds_toArray, List.set_cons_zero, List.set_cons_succ]
                refine wpAnyH_take (i := 4) (oi := Oper.mk _ _ _ _ _ _) (v := ?_) rfl (by kernel_rfl) (by kernel_rfl) (by kernel_rfl) (fun _ _ _ h => h) (Or.inl ⟨by rfl, ?_⟩) hHeld ?_
                rotate_left
                · (intro w hSw; (try dsimp only at hSw); obtain ⟨d0, d1, d2, d3, d4, d5, d6⟩ := cells7 hSw; (first | (go_simp; done) | (go_simp; with_reducible rfl)))
                try simp only [Act.put, List.setIfInBounds_toArray, List.set_cons_zero, List.set_cons_succ]
                refine wpAnyH_take (i := 5) (oi := Oper.mk _ _ _ _ _ _) (v := ?_) rfl (by kernel_rfl) (by kernel_rfl) (by kernel_rfl) (fun _ _ _ h => h) (Or.inl ⟨by rfl, ?_⟩) hHeld ?_
                rotate_left
                · (intro w hSw; (try dsimp only at hSw); obtain ⟨d0, d1, d2, d3, d4, d5, d6⟩ := cells7 hSw; (first | (go_simp; done) | (go_simp; with_reducible rfl)))
                try simp only [Act.put, List.setIfInBounds_toArray, List.set_cons_zero, List.set_cons_succ]
                refine wpAnyH_take (i := 6) (oi := Oper.mk _ _ _ _ _ _) (v := ?_) rfl (by kernel_rfl) (by kernel_rfl) (by kernel_rfl) (fun _ _ _ h => h) (Or.inl ⟨by rfl, ?_⟩) hHeld ?_
                rotate_left
                · (intro w hSw; (try dsimp only at hSw); obtain ⟨d0, d1, d2, d3, d4, d5, d6⟩ := cells7 hSw; (first | (go_simp; done) | (go_simp; with_reducible rfl)))
                try simp only [Act.put, List.setIfInBounds_toArray, List.set_cons_zero, List.set_cons_succ]
                refine wpAnyH_take (i := 7) (oi := Oper.mk _ _ _ _ _ _) (v := ?_) rfl (by kernel_rfl) (by kernel_rfl) (by kernel_rfl) (fun _ _ _ h => h) (Or.inl ⟨by rfl, ?_⟩) hHeld ?_
                rotate_left
                · (intro w hSw; (try dsimp only at hSw); obtain ⟨d0, d1, d2, d3, d4, d5, d6⟩ := cells7 hSw; (first | (go_simp; done) | (go_simp; with_reducible rfl)))
                try simp only [Act.put, List.setIfInBounds_toArray, List.set_cons_zero, List.set_cons_succ]
                refine wpAnyH_take (i := 9) (oi := Oper.mk _ _ _ _ _ _) (v := ?_) rfl (by kernel_rfl) (by kernel_rfl) (by kernel_rfl) (fun _ _ _ h => h) (Or.inl ⟨by rfl, ?_⟩) hHeld ?_
                rotate_left
                · (intro w hSw; (try dsimp only at hSw); obtain ⟨d0, d1, d2, d3, d4, d5, d6⟩ := cells7 hSw; (first | (go_simp; done) | (go_simp; with_reducible rfl)))
                try simp only [Act.put, List.setIfInBounds_toArray, List.set_cons_zero, List.set_cons_succ]
                refine wpAnyH_take (i := 10) (oi := Oper.mk _ _ _ _ _ _) (v := ?_) rfl (by kernel_rfl) (by kernel_rfl) (by kernel_rfl) (fun _ _ _ h => h) (Or.inl ⟨by rfl, ?_⟩) hHeld ?_
                rotate_left
                · (intro w hSw; (try dsimp only at hSw); obtain ⟨d0, d1, d2, d3, d4, d5, d6⟩ := cells7 hSw; (first | (go_simp; done) | (go_simp; with_reducible rfl)))
                try simp only [Act.put, List.setIfInBounds_toArray, List.set_cons_zero, List.set_cons_succ]
                refine wpAnyH_ready (rs := [8]) (by kernel_rfl) (by simp) ?_
                refine AllReadyH.cons (o := Oper.mk _ _ _ _ _ _) rfl (fun K hK => ?_) AllReadyH.nil
                (go_simp; refine (O _).mono ?_; rintro e w8 ⟨rfl, k8⟩)
                refine hK.out _ _ (k8.heap (by simp) hP6) (fun hNew => ?_)
                clear hHeld hK
                have hHeld := hNew
                clear hNew
                try simp only [Act.put, List.setIfInBounds_toArray, List.set_cons_zero, List.set_cons_succ]
                refine wpAnyH_take (i := 11) (oi := Oper.mk _ _ _ _ _ _) (v := ?_) rfl (by kernel_rfl) (by kernel_rfl) (by kernel_rfl) (fun _ _ _ h => h) (Or.inl ⟨by rfl, ?_⟩) hHeld ?_
                rotate_left
                · (intro w hSw; (try dsimp only at hSw); (first | (go_simp; done) | (go_simp; with_reducible rfl)))
                try simp only [Act.put, List.setIfInBounds_toArray, List.set_cons_zero, List.set_cons_succ]
                refine wpAnyH_take (i := 12) (oi := Oper.mk _ _ _ _ _ _) (v := ?_) rfl (by kernel_rfl) (by kernel_rfl) (by kernel_rfl) (fun _ _ _ h => h) (Or.inl ⟨by rfl, ?_⟩) hHeld ?_
                rotate_left
                · (intro w hSw; (try dsimp only at hSw); (first | (go_simp; done) | (go_simp; with_reducible rfl)))
                try simp only [Act.put, List.setIfInBounds_toArray, List.set_cons_zero, List.set_cons_succ]
                refine wpAnyH_take (i := 13) (oi := Oper.mk _ _ _ _ _ _) (v := ?_) rfl (by kernel_rfl) (by kernel_rfl) (by kernel_rfl) (fun _ _ _ h => h) (Or.inl ⟨by rfl, ?_⟩) hHeld ?_
                rotate_left
                · (intro w hSw; (try dsimp only at hSw); (first | (go_simp; done) | (go_simp; with_reducible rfl)))
                try simp only [Act.put, List.setIfInBounds_toArray, List.set_cons_zero, List.set_cons_succ]
                refine wpAnyH_take (i := 14) (oi := Oper.mk _ _ _ _ _ _) (v := ?_) rfl (by kernel_rfl) (by kernel_rfl) (by kernel_rfl) (fun _ _ _ h => h) (Or.inl ⟨by rfl, ?_⟩) hHeld ?_
                rotate_left
                · (intro w hSw; (try dsimp only at hSw); (first | (go_simp; done) | (go_simp; with_reducible rfl)))
                try simp only [Act.put, List.setIfInBounds_toArray, List.set_cons_zero, List.set_cons_succ]
                refine wpAnyH_take (i := 15) (oi := Oper.mk _ _ _ _ _ _) (v := ?_) rfl (by kernel_rfl) (by kernel_rfl) (by kernel_rfl) (fun _ _ _ h => h) (Or.inl ⟨by rfl, ?_⟩) hHeld ?_
                rotate_left
                · (intro w hSw; (try dsimp only at hSw); (first | (go_simp; done) | (go_simp; with_reducible rfl)))
                try simp only [Act.put, List.setIfInBounds_toArray, List.set_cons_zero, List.set_cons_succ]
                refine wpAnyH_take (i := 16) (oi := Oper.mk _ _ _ _ _ _) (v := undef) rfl (by kernel_rfl) (by kernel_rfl) (by kernel_rfl) (fun _ _ _ h => h) (Or.inr ⟨by rfl, rfl⟩) hHeld ?_
                try simp only [Act.put, List.setIfInBounds_toArray, List.set_cons_zero, List.set_cons_succ]
                refine wpAnyH_take (i := 17) (oi := Oper.mk _ _ _ _ _ _) (v := undef) rfl (by kernel_rfl) (by kernel_rfl) (by kernel_rfl) (fun _ _ _ h => h) (Or.inr ⟨by rfl, rfl⟩) hHeld ?_
                try simp only [Act.put, List.setIfInBounds_toArray, List.set_cons_zero, List.set_cons_succ]
                refine wpAnyH_take (i := 18) (oi := Oper.mk _ _ _ _ _ _) (v := undef) rfl (by kernel_rfl) (by kernel_rfl) (by kernel_rfl) (fun _ _ _ h => h) (Or.inr ⟨by rfl, rfl⟩) hHeld ?_
                try simp only [Act.put, List.setIfInBounds_toArray, List.set_cons_zero, List.set_cons_succ]
                refine wpAnyH_take (i := 19) (oi := Oper.mk _ _ _ _ _ _) (v := ?_) rfl (by kernel_rfl) (by kernel_rfl) (by kernel_rfl) (fun _ _ _ h => h) (Or.inl ⟨by rfl, ?_⟩) hHeld ?_
                rotate_left
                · (intro w hSw; (try dsimp only at hSw); (first | (go_simp; done) | (go_simp; with_reducible rfl)))
                try simp only [Act.put, List.setIfInBounds_toArray, List.set_cons_zero, List.set_cons_succ]
                refine wpAnyH_take (i := 20) (oi := Oper.mk _ _ _ _ _ _) (v := ?_) rfl (by kernel_rfl) (by kernel_rfl) (by kernel_rfl) (fun _ _ _ h => h) (Or.inl ⟨by rfl, ?_⟩) hHeld ?_
                rotate_left
                · (intro w hSw; (try dsimp only at hSw); (first | (go_simp; done) | (go_simp; with_reducible rfl)))
                try simp only [Act.put, List.setIfInBounds_toArray, List.set_cons_zero, List.set_cons_succ]
                refine wpAnyH_done (by kernel_rfl) ?_ _
                go_wp2_with fail
                go_roundw
                case rel =>
                  obtain ⟨o3, hp7, e⟩ := HK.out
                  subst e
                  exact ⟨k + 1, p2, c2, t2, _, by omega, by go_num, by omega, rfl, rfl, rfl, hcc, ht2, hp7, k8.heap (by simp) hP6, K6.drew.trans k8⟩
                case measure => simp [intOf]; omega
      · have hk' : k = 60 := by omega
        subst hk'
        go_wp2_with fail
        refine (fixed_c).mono ?_
        rintro e w9 ⟨rfl, k9⟩
        go_wp2
        go_ret
        exact ⟨rfl, (K.trans k9).below (Nat.le_refl _) (by simp)⟩
    · go_wp2_with fail
      refine (fixed_c).mono ?_
      rintro e w9 ⟨rfl, k9⟩
      go_wp2
      go_ret
      exact ⟨rfl, (K.trans k9).below (Nat.le_refl _) (by simp)⟩
end Go.Proofs.Ytimbngaadgkeaaa
