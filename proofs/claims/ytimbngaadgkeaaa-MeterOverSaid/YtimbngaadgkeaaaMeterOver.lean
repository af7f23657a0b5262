/-
  MeterOver: its walk.
-/
import Derived.Test.YtimbngaadgkeaaaSessStore
import Derived.Deep.RegionHeld3
namespace Go.Proofs.Ytimbngaadgkeaaa
open Go.RowKit

/-- A session and the two numbers. -/
structure OverS (w0 : World) (B C : Nat) (s : Sess) (a b : Nat) (w : World) : Prop where
  s : w.heap[B]? = some (.cells #[.int .u64 s.price, .int .u64 s.limit, .int .u64 s.quota, .int .i64 s.idle, .int .i64 s.state, .int .u64 s.units, .int .i64 s.last] 24 (0, 0))
  f : w.heap[C]? = some (.cells #[.int .u16 a, .int .u16 b] 57 (0, 0))
  k : Keeps [] w0 w
theorem OverS.keep {w0 w w' : World} {B C : Nat} {s : Sess} {a b : Nat} (h : OverS w0 B C s a b w) (k : Keeps [] w w') : OverS w0 B C s a b w' :=
  ⟨k.heap (by simp) h.s, k.heap (by simp) h.f, h.k.trans k⟩
theorem OverS.lt {w0 w : World} {B C : Nat} {s : Sess} {a b : Nat} (h : OverS w0 B C s a b w) : B < w.heap.size ∧ C < w.heap.size ∧ w0.heap.size ≤ w.heap.size :=
  ⟨lt_of_heap h.s, lt_of_heap h.f, h.k.size⟩

set_option maxRecDepth 100000 in
set_option maxHeartbeats 40000000 in
theorem meterOver_walk {w : World} (s : Sess) (hs : s.Ok) (a b : Nat) (ha : a ≤ 65535) (hb : b ≤ 65535) :
    Calls Try.prog 9 #[.agg #[.int .u64 s.price, .int .u64 s.limit, .int .u64 s.quota, .int .i64 s.idle, .int .i64 s.state, .int .u64 s.units, .int .i64 s.last], .agg #[.int .u16 a, .int .u16 b]] w fun e w' => e = .returned (.bool true) ∧ Below w.heap.size w w' := by
  go_enter Try.func9, Try.ntmps9
  go_wp2_with fail
  refine (tame_c s hs).mono ?_
  rintro e w1 ⟨t, rfl, ht, hst, k1⟩
  clear hst
  have h1 := k1.heap (by simp) ((heap_alloc_old (o := .cells #[.int .u16 a, .int .u16 b] 57) (by simp)).trans (heap_alloc_same (w := w)))
  have r1 := k1.heap (by simp) (heap_alloc_at (w := w.alloc (.cells #[.int .u64 s.price, .int .u64 s.limit, .int .u64 s.quota, .int .i64 s.idle, .int .i64 s.state, .int .u64 s.units, .int .i64 s.last] 24)) (o := .cells #[.int .u16 a, .int .u16 b] 57) (b := w.heap.size + 1) (by simp))
  obtain ⟨c0, c1, c2, c3, c4, c5, c6⟩ := cells7 h1
  have f0 := fun i => frozen_of_heap (o := i) h1
  obtain ⟨w2, hw2, h2, o2, K2⟩ := sess_stored h1 (((keeps_alloc w _).alloc _).trans k1) (Nat.le_refl _) (.int .u64 t.price) (.int .u64 t.limit) (.int .u64 t.quota) (.int .i64 t.idle) (.int .i64 t.state) (.int .u64 t.units) (.int .i64 t.last)
  have r2 := (o2 _ (by omega)).trans r1
  go_upto_region 2 with fail
  rw [← hw2]
  clear hw2 c0 c1 c2 c3 c4 c5 c6 f0 h1 k1 o2 r1
  obtain ⟨B, hB⟩ : ∃ B, B = w.heap.size := ⟨_, rfl⟩
  obtain ⟨C, hC⟩ : ∃ C, C = B + 1 := ⟨_, rfl⟩
  rw [← hB] at h2 r2 ⊢
  rw [← hC] at r2 ⊢
  have hBw : w.heap.size ≤ B := by omega
  have hBC : B ≠ C := by omega
  clear hB hC
  obtain ⟨d0, d1, d2, d3, d4, d5, d6⟩ := cells7 h2
  have f2 := fun i => frozen_of_heap (o := i) h2
  obtain ⟨w3, hw3⟩ : ∃ w3, w3 = w2.setCell ⟨B, 4, none⟩ (.int .i64 1) := ⟨_, rfl⟩
  have r3 : w3.heap[C]? = some (.cells #[.int .u16 a, .int .u16 b] 57 (0, 0)) := by rw [hw3, heap_setCell_other (Ne.symm hBC)]; exact r2
  have h3 : w3.heap[B]? = some (.cells #[.int .u64 t.price, .int .u64 t.limit, .int .u64 t.quota, .int .i64 t.idle, .int .i64 1, .int .u64 t.units, .int .i64 t.last] 24 (0, 0)) := by rw [hw3, heap_setCell_same h2]; rfl
  have K3 : Keeps [] w w3 := by rw [hw3]; exact K2.setCell (.inr hBw) _
  go_upto_region 3 with fail
  rw [← hw3]
  clear hw3 d0 d1 d2 d3 d4 d5 d6 f2 h2 r2 K2
  have hok := ht.ok
  obtain ⟨pr, li, qu, id, state, un, last⟩ := t
  have i1 := ht.i1
  have i2 := ht.i2
  have n1 := ht.n1
  have n2 := ht.n2
  have O1 := hok.price
  have O2 := hok.limit
  have O3 := hok.quota
  have O4 := hok.units
  dsimp only at *
  clear ht hok
  obtain ⟨la, rfl⟩ : ∃ n : Nat, last = (n : Int) := ⟨last.toNat, by omega⟩
  obtain ⟨id, rfl⟩ : ∃ n : Nat, id = (n : Int) := ⟨id.toNat, by omega⟩
  replace i1 : 1 ≤ id := by omega
  replace i2 : id ≤ 65536 := by omega
  replace n2 : la ≤ 4294967295 := by omega
  clear n1
  have Q3 : OverS w B C ⟨pr, li, qu, id, 1, un, (la : Int)⟩ a b w3 := ⟨h3, r3, K3⟩
  clear h3 r3 K3
  have ok1 : ∀ (st l : Int), inI64 st → inI64 l → Sess.Ok ⟨pr, li, qu, id, st, un, l⟩ := fun st l h1 h2 => ⟨O1, O2, O3, ⟨by show _ ≤ (id : Int); omega, by show (id : Int) ≤ _; omega⟩, h1, O4, h2⟩
  go_cut [5, 6] (fun v5 v6 wx => v5 = .int .i64 ((la : Int) + (id : Int)) ∧ (∃ m : Nat, v6 = .int .i64 m ∧ m ≤ id) ∧ OverS w B C ⟨pr, li, qu, id, 1, un, (la : Int)⟩ a b wx)
  case first =>
    obtain ⟨d0, d1, d2, d3, d4, d5, d6⟩ := cells7 Q3.s
    have e0 := (cell_of_heap (o := 0) Q3.f).trans rfl
    have z : (((id : Int) + 1) == 0) = false := by rw [beq_eq_false_iff_ne]; omega
    have hm : a % (id + 1) ≤ id := by have := Nat.mod_lt a (show 0 < id + 1 by omega); omega
    go_region
    go_wp2_with fail
    go_meet
    case rel => exact ⟨rfl, ⟨a % (id + 1), rfl, hm⟩, Q3.keep (Keeps.refl _ _).drew⟩
  case rest =>
    clear Q3
    obtain ⟨rfl, ⟨m, rfl, hm⟩, Q3⟩ := hcut
    have TX := fun w => tick_c (w := w) ⟨pr, li, qu, id, 1, un, (la : Int)⟩ ((la : Int) + (id : Int)) (ok1 _ _ ⟨by decide, by decide⟩ ⟨by omega, by omega⟩) ⟨by omega, by omega⟩
    have TY := fun w => tick_c (w := w) ⟨pr, li, qu, id, 1, un, (la : Int)⟩ ((la : Int) + (id : Int) + 1) (ok1 _ _ ⟨by decide, by decide⟩ ⟨by omega, by omega⟩) ⟨by omega, by omega⟩
    have ex : mTick ⟨pr, li, qu, id, 1, un, (la : Int)⟩ ((la : Int) + (id : Int)) = ⟨pr, li, qu, id, 1, un, (la : Int)⟩ := if_neg (fun k => by have h3 := k.2.2; dsimp only at h3; omega)
    have ey : mTick ⟨pr, li, qu, id, 1, un, (la : Int)⟩ ((la : Int) + (id : Int) + 1) = ⟨pr, li, qu, id, 3, un, (la : Int)⟩ := if_pos ⟨by show (la : Int) < _; omega, by show (0 : Int) ≤ id; omega, by show (id : Int) < _ - (la : Int); omega⟩
    rw [ex] at TX
    rw [ey] at TY
    dsimp only at TX TY
    clear ex ey
    have v1 : IntKind.i64.wrap ((la : Int) + (id : Int) + 1) = (la : Int) + (id : Int) + 1 := by rw [IntKind.wrap_i64]; omega
    go_upto_region 4 with fail
    go_cut [7, 8] (fun v7 v8 wx => ∃ X Y, v7 = .pointer (some ⟨X, 0, none⟩) ∧ v8 = .pointer (some ⟨Y, 0, none⟩) ∧ wx.heap[X]? = some (.cells #[.int .u64 pr, .int .u64 li, .int .u64 qu, .int .i64 id, .int .i64 1, .int .u64 un, .int .i64 (la : Int)] 24 (0, 0)) ∧ wx.heap[Y]? = some (.cells #[.int .u64 pr, .int .u64 li, .int .u64 qu, .int .i64 id, .int .i64 3, .int .u64 un, .int .i64 (la : Int)] 24 (0, 0)) ∧ OverS w B C ⟨pr, li, qu, id, 1, un, (la : Int)⟩ a b wx)
    case first =>
      refine wp_region_held_drew (S := (OverS w B C ⟨pr, li, qu, id, 1, un, (la : Int)⟩ a b)) (by kernel_rfl) (Q3.keep (Keeps.refl _ _).drew) (fun hHeld => ?_)
      clear Q3
      generalize World.drew _ = u0 at *
      refine wpAnyH_take (i := 0) (oi := Oper.mk _ _ _ _ _ _) (v := ?_) rfl (by kernel_rfl) (by kernel_rfl) (by kernel_rfl) (fun _ _ _ h => h) (Or.inl ⟨by rfl, ?_⟩) hHeld ?_
      rotate_left
      · (intro w hSw; (try dsimp only at hSw); obtain ⟨e0, e1, e2, e3, e4, e5, e6⟩ := cells7 hSw.s; (first | (go_simp; done) | (go_simp; with_reducible rfl)))
      try simp only [Act.put, List.setIfInBounds_toArray, List.set_cons_zero, List.set_cons_succ]
      refine wpAnyH_take (i := 3) (oi := Oper.mk _ _ _ _ _ _) (v := ?_) rfl (by kernel_rfl) (by kernel_rfl) (by kernel_rfl) (fun _ _ _ h => h) (Or.inl ⟨by rfl, ?_⟩) hHeld ?_
      rotate_left
      · (intro w hSw; (try dsimp only at hSw); obtain ⟨e0, e1, e2, e3, e4, e5, e6⟩ := cells7 hSw.s; (first | (go_simp; done) | (go_simp; with_reducible rfl)))
      try simp only [Act.put, List.setIfInBounds_toArray, List.set_cons_zero, List.set_cons_succ]
      refine wpAnyH_take (i := 1) (oi := Oper.mk _ _ _ _ _ _) (v := ?_) rfl (by kernel_rfl) (by kernel_rfl) (by kernel_rfl) (fun _ _ _ h => h) (Or.inl ⟨by rfl, ?_⟩) hHeld ?_
      rotate_left
      · (intro w hSw; (try dsimp only at hSw); (first | (go_simp; done) | (go_simp; with_reducible rfl)))
      try simp only [Act.put, List.setIfInBounds_toArray, List.set_cons_zero, List.set_cons_succ]
      refine wpAnyH_take (i := 4) (oi := Oper.mk _ _ _ _ _ _) (v := ?_) rfl (by kernel_rfl) (by kernel_rfl) (by kernel_rfl) (fun _ _ _ h => h) (Or.inl ⟨by rfl, ?_⟩) hHeld ?_
      rotate_left
      · (intro w hSw; (try dsimp only at hSw); (first | (go_simp; done) | (go_simp; with_reducible rfl)))
      try simp only [Act.put, List.setIfInBounds_toArray, List.set_cons_zero, List.set_cons_succ]
      refine wpAnyH_take (i := 5) (oi := Oper.mk _ _ _ _ _ _) (v := ?_) rfl (by kernel_rfl) (by kernel_rfl) (by kernel_rfl) (fun _ _ _ h => h) (Or.inl ⟨by rfl, ?_⟩) hHeld ?_
      rotate_left
      · (intro w hSw; (try dsimp only at hSw); (first | (go_simp; done) | (go_simp; with_reducible rfl)))
      try simp only [Act.put, List.setIfInBounds_toArray, List.set_cons_zero, List.set_cons_succ]
      refine wpAnyH_ready (rs := [2, 7, 8]) (by kernel_rfl) (by simp) ?_
      refine AllReadyH.cons (o := Oper.mk _ _ _ _ _ _) rfl (fun K hK => ?_) (AllReadyH.cons (o := Oper.mk _ _ _ _ _ _) rfl (fun K hK => ?_) (AllReadyH.cons (o := Oper.mk _ _ _ _ _ _) rfl (fun K hK => ?_) (AllReadyH.nil)))
      · (go_simp; refine (TX _).mono ?_; rintro e u1 ⟨rfl, k⟩)
        refine hK.out _ _ (hHeld.keep k) (fun hNew => ?_)
        clear hHeld hK
        have hHeld := hNew
        clear hNew
        try simp only [Act.put, List.setIfInBounds_toArray, List.set_cons_zero, List.set_cons_succ]
        clear k
        refine wpAnyH_ready (rs := [6, 7, 8]) (by kernel_rfl) (by simp) ?_
        refine AllReadyH.cons (o := Oper.mk _ _ _ _ _ _) rfl (fun K hK => ?_) (AllReadyH.cons (o := Oper.mk _ _ _ _ _ _) rfl (fun K hK => ?_) (AllReadyH.cons (o := Oper.mk _ _ _ _ _ _) rfl (fun K hK => ?_) (AllReadyH.nil)))
        · (go_simp; refine (TY _).mono ?_; rintro e u2 ⟨rfl, k⟩)
          refine hK.out _ _ (hHeld.keep k) (fun hNew => ?_)
          clear hHeld hK
          have hHeld := hNew
          clear hNew
          try simp only [Act.put, List.setIfInBounds_toArray, List.set_cons_zero, List.set_cons_succ]
          clear k
          refine wpAnyH_ready (rs := [7, 8]) (by kernel_rfl) (by simp) ?_
          refine AllReadyH.cons (o := Oper.mk _ _ _ _ _ _) rfl (fun K hK => ?_) (AllReadyH.cons (o := Oper.mk _ _ _ _ _ _) rfl (fun K hK => ?_) (AllReadyH.nil))
          · have hl7 := hHeld.lt
            go_simp
            refine hK.out _ _ (hHeld.keep (keeps_alloc _ _)) (fun hNew => ?_)
            clear hHeld hK
            have hHeld := hNew
            clear hNew
            try simp only [Act.put, List.setIfInBounds_toArray, List.set_cons_zero, List.set_cons_succ]
            have hz7 := heap_alloc_same (w := u2) (o := .cells #[.int .u64 0, .int .u64 0, .int .u64 0, .int .i64 0, .int .i64 0, .int .u64 0, .int .i64 0] 24)
            generalize u2.alloc (.cells #[.int .u64 0, .int .u64 0, .int .u64 0, .int .i64 0, .int .i64 0, .int .u64 0, .int .i64 0] 24) = u3 at *
            generalize u2.heap.size = R7 at *
            refine wpAnyH_ready (rs := [8]) (by kernel_rfl) (by simp) ?_
            refine AllReadyH.cons (o := Oper.mk _ _ _ _ _ _) rfl (fun K hK => ?_) (AllReadyH.nil)
            · have hl8 := hHeld.lt
              have hne := lt_of_heap hz7
              go_simp
              refine hK.out _ _ (hHeld.keep (keeps_alloc _ _)) (fun hNew => ?_)
              clear hHeld hK
              have hHeld := hNew
              clear hNew
              try simp only [Act.put, List.setIfInBounds_toArray, List.set_cons_zero, List.set_cons_succ]
              have hz8 := heap_alloc_same (w := u3) (o := .cells #[.int .u64 0, .int .u64 0, .int .u64 0, .int .i64 0, .int .i64 0, .int .u64 0, .int .i64 0] 24)
              replace hz7 := (keeps_alloc u3 (.cells #[.int .u64 0, .int .u64 0, .int .u64 0, .int .i64 0, .int .i64 0, .int .u64 0, .int .i64 0] 24)).heap (by simp) hz7
              generalize u3.alloc (.cells #[.int .u64 0, .int .u64 0, .int .u64 0, .int .i64 0, .int .i64 0, .int .u64 0, .int .i64 0] 24) = u4 at *
              generalize u3.heap.size = R8 at *
              obtain ⟨p1, hp1, h1, o1, K1⟩ := sess_stored hz7 hHeld.k hl7.2.2 (.int .u64 pr) (.int .u64 li) (.int .u64 qu) (.int .i64 id) (.int .i64 1) (.int .u64 un) (.int .i64 (la : Int))
              replace hz8 := (o1 R8 (by omega)).trans hz8
              have q1 : OverS w B C ⟨pr, li, qu, id, 1, un, (la : Int)⟩ a b p1 := ⟨(o1 B (by omega)).trans hHeld.s, (o1 C (by omega)).trans hHeld.f, K1⟩
              have f1 := fun i => frozen_of_heap (o := i) hz7
              obtain ⟨z0, z1, z2, z3, z4, z5, z6⟩ := cells7 hz7
              refine wpAnyH_ready (rs := [9]) (by kernel_rfl) (by simp) ?_
              refine AllReadyH.cons (o := Oper.mk _ _ _ _ _ _) rfl (fun K hK => ?_) AllReadyH.nil
              go_simp
              rw [← hp1]
              refine hK.out _ _ (q1) (fun hNew => ?_)
              clear hHeld hK
              have hHeld := hNew
              clear hNew
              try simp only [Act.put, List.setIfInBounds_toArray, List.set_cons_zero, List.set_cons_succ]
              clear hp1 z0 z1 z2 z3 z4 z5 z6 f1 hz7 q1
              obtain ⟨p2, hp2, h2, o2, K2⟩ := sess_stored hz8 hHeld.k hl8.2.2 (.int .u64 pr) (.int .u64 li) (.int .u64 qu) (.int .i64 id) (.int .i64 3) (.int .u64 un) (.int .i64 (la : Int))
              replace h1 := (o2 R7 (by omega)).trans h1
              have q2 : OverS w B C ⟨pr, li, qu, id, 1, un, (la : Int)⟩ a b p2 := ⟨(o2 B (by omega)).trans hHeld.s, (o2 C (by omega)).trans hHeld.f, K2⟩
              have f2 := fun i => frozen_of_heap (o := i) hz8
              obtain ⟨z0, z1, z2, z3, z4, z5, z6⟩ := cells7 hz8
              refine wpAnyH_ready (rs := [10]) (by kernel_rfl) (by simp) ?_
              refine AllReadyH.cons (o := Oper.mk _ _ _ _ _ _) rfl (fun K hK => ?_) AllReadyH.nil
              go_simp
              rw [← hp2]
              refine hK.out _ _ (q2) (fun hNew => ?_)
              clear hHeld hK
              have hHeld := hNew
              clear hNew
              try simp only [Act.put, List.setIfInBounds_toArray, List.set_cons_zero, List.set_cons_succ]
              refine wpAnyH_done (by kernel_rfl) ?_ _
              go_wp2_with fail
              go_meet
              case rel => exact ⟨R7, R8, rfl, rfl, h1, h2, hHeld⟩
          · have hl8 := hHeld.lt
            go_simp
            refine hK.out _ _ (hHeld.keep (keeps_alloc _ _)) (fun hNew => ?_)
            clear hHeld hK
            have hHeld := hNew
            clear hNew
            try simp only [Act.put, List.setIfInBounds_toArray, List.set_cons_zero, List.set_cons_succ]
            have hz8 := heap_alloc_same (w := u2) (o := .cells #[.int .u64 0, .int .u64 0, .int .u64 0, .int .i64 0, .int .i64 0, .int .u64 0, .int .i64 0] 24)
            generalize u2.alloc (.cells #[.int .u64 0, .int .u64 0, .int .u64 0, .int .i64 0, .int .i64 0, .int .u64 0, .int .i64 0] 24) = u3 at *
            generalize u2.heap.size = R8 at *
            refine wpAnyH_ready (rs := [7]) (by kernel_rfl) (by simp) ?_
            refine AllReadyH.cons (o := Oper.mk _ _ _ _ _ _) rfl (fun K hK => ?_) (AllReadyH.nil)
            · have hl7 := hHeld.lt
              have hne := lt_of_heap hz8
              go_simp
              refine hK.out _ _ (hHeld.keep (keeps_alloc _ _)) (fun hNew => ?_)
              clear hHeld hK
              have hHeld := hNew
              clear hNew
              try simp only [Act.put, List.setIfInBounds_toArray, List.set_cons_zero, List.set_cons_succ]
              have hz7 := heap_alloc_same (w := u3) (o := .cells #[.int .u64 0, .int .u64 0, .int .u64 0, .int .i64 0, .int .i64 0, .int .u64 0, .int .i64 0] 24)
              replace hz8 := (keeps_alloc u3 (.cells #[.int .u64 0, .int .u64 0, .int .u64 0, .int .i64 0, .int .i64 0, .int .u64 0, .int .i64 0] 24)).heap (by simp) hz8
              generalize u3.alloc (.cells #[.int .u64 0, .int .u64 0, .int .u64 0, .int .i64 0, .int .i64 0, .int .u64 0, .int .i64 0] 24) = u4 at *
              generalize u3.heap.size = R7 at *
              obtain ⟨p1, hp1, h1, o1, K1⟩ := sess_stored hz7 hHeld.k hl7.2.2 (.int .u64 pr) (.int .u64 li) (.int .u64 qu) (.int .i64 id) (.int .i64 1) (.int .u64 un) (.int .i64 (la : Int))
              replace hz8 := (o1 R8 (by omega)).trans hz8
              have q1 : OverS w B C ⟨pr, li, qu, id, 1, un, (la : Int)⟩ a b p1 := ⟨(o1 B (by omega)).trans hHeld.s, (o1 C (by omega)).trans hHeld.f, K1⟩
              have f1 := fun i => frozen_of_heap (o := i) hz7
              obtain ⟨z0, z1, z2, z3, z4, z5, z6⟩ := cells7 hz7
              refine wpAnyH_ready (rs := [9]) (by kernel_rfl) (by simp) ?_
              refine AllReadyH.cons (o := Oper.mk _ _ _ _ _ _) rfl (fun K hK => ?_) AllReadyH.nil
              go_simp
              rw [← hp1]
              refine hK.out _ _ (q1) (fun hNew => ?_)
              clear hHeld hK
              have hHeld := hNew
              clear hNew
              try simp only [Act.put, List.setIfInBounds_toArray, List.set_cons_zero, List.set_cons_succ]
              clear hp1 z0 z1 z2 z3 z4 z5 z6 f1 hz7 q1
              obtain ⟨p2, hp2, h2, o2, K2⟩ := sess_stored hz8 hHeld.k hl8.2.2 (.int .u64 pr) (.int .u64 li) (.int .u64 qu) (.int .i64 id) (.int .i64 3) (.int .u64 un) (.int .i64 (la : Int))
              replace h1 := (o2 R7 (by omega)).trans h1
              have q2 : OverS w B C ⟨pr, li, qu, id, 1, un, (la : Int)⟩ a b p2 := ⟨(o2 B (by omega)).trans hHeld.s, (o2 C (by omega)).trans hHeld.f, K2⟩
              have f2 := fun i => frozen_of_heap (o := i) hz8
              obtain ⟨z0, z1, z2, z3, z4, z5, z6⟩ := cells7 hz8
              refine wpAnyH_ready (rs := [10]) (by kernel_rfl) (by simp) ?_
              refine AllReadyH.cons (o := Oper.mk _ _ _ _ _ _) rfl (fun K hK => ?_) AllReadyH.nil
              go_simp
              rw [← hp2]
              refine hK.out _ _ (q2) (fun hNew => ?_)
              clear hHeld hK
              have hHeld := hNew
              clear hNew
              try simp only [Act.put, List.setIfInBounds_toArray, List.set_cons_zero, List.set_cons_succ]
              refine wpAnyH_done (by kernel_rfl) ?_ _
              go_wp2_with fail
              go_meet
              case rel => exact ⟨R7, R8, rfl, rfl, h1, h2, hHeld⟩
        · have hl7 := hHeld.lt
          go_simp
          refine hK.out _ _ (hHeld.keep (keeps_alloc _ _)) (fun hNew => ?_)
          clear hHeld hK
          have hHeld := hNew
          clear hNew
          try simp only [Act.put, List.setIfInBounds_toArray, List.set_cons_zero, List.set_cons_succ]
          have hz7 := heap_alloc_same (w := u1) (o := .cells #[.int .u64 0, .int .u64 0, .int .u64 0, .int .i64 0, .int .i64 0, .int .u64 0, .int .i64 0] 24)
          generalize u1.alloc (.cells #[.int .u64 0, .int .u64 0, .int .u64 0, .int .i64 0, .int .i64 0, .int .u64 0, .int .i64 0] 24) = u2 at *
          generalize u1.heap.size = R7 at *
          refine wpAnyH_ready (rs := [6, 8]) (by kernel_rfl) (by simp) ?_
          refine AllReadyH.cons (o := Oper.mk _ _ _ _ _ _) rfl (fun K hK => ?_) (AllReadyH.cons (o := Oper.mk _ _ _ _ _ _) rfl (fun K hK => ?_) (AllReadyH.nil))
          · (go_simp; refine (TY _).mono ?_; rintro e u3 ⟨rfl, k⟩)
            refine hK.out _ _ (hHeld.keep k) (fun hNew => ?_)
            clear hHeld hK
            have hHeld := hNew
            clear hNew
            try simp only [Act.put, List.setIfInBounds_toArray, List.set_cons_zero, List.set_cons_succ]
            replace hz7 := k.heap (by simp) hz7
            clear k
            refine wpAnyH_ready (rs := [8]) (by kernel_rfl) (by simp) ?_
            refine AllReadyH.cons (o := Oper.mk _ _ _ _ _ _) rfl (fun K hK => ?_) (AllReadyH.nil)
            · have hl8 := hHeld.lt
              have hne := lt_of_heap hz7
              go_simp
              refine hK.out _ _ (hHeld.keep (keeps_alloc _ _)) (fun hNew => ?_)
              clear hHeld hK
              have hHeld := hNew
              clear hNew
              try simp only [Act.put, List.setIfInBounds_toArray, List.set_cons_zero, List.set_cons_succ]
              have hz8 := heap_alloc_same (w := u3) (o := .cells #[.int .u64 0, .int .u64 0, .int .u64 0, .int .i64 0, .int .i64 0, .int .u64 0, .int .i64 0] 24)
              replace hz7 := (keeps_alloc u3 (.cells #[.int .u64 0, .int .u64 0, .int .u64 0, .int .i64 0, .int .i64 0, .int .u64 0, .int .i64 0] 24)).heap (by simp) hz7
              generalize u3.alloc (.cells #[.int .u64 0, .int .u64 0, .int .u64 0, .int .i64 0, .int .i64 0, .int .u64 0, .int .i64 0] 24) = u4 at *
              generalize u3.heap.size = R8 at *
              obtain ⟨p1, hp1, h1, o1, K1⟩ := sess_stored hz7 hHeld.k hl7.2.2 (.int .u64 pr) (.int .u64 li) (.int .u64 qu) (.int .i64 id) (.int .i64 1) (.int .u64 un) (.int .i64 (la : Int))
              replace hz8 := (o1 R8 (by omega)).trans hz8
              have q1 : OverS w B C ⟨pr, li, qu, id, 1, un, (la : Int)⟩ a b p1 := ⟨(o1 B (by omega)).trans hHeld.s, (o1 C (by omega)).trans hHeld.f, K1⟩
              have f1 := fun i => frozen_of_heap (o := i) hz7
              obtain ⟨z0, z1, z2, z3, z4, z5, z6⟩ := cells7 hz7
              refine wpAnyH_ready (rs := [9]) (by kernel_rfl) (by simp) ?_
              refine AllReadyH.cons (o := Oper.mk _ _ _ _ _ _) rfl (fun K hK => ?_) AllReadyH.nil
              go_simp
              rw [← hp1]
              refine hK.out _ _ (q1) (fun hNew => ?_)
              clear hHeld hK
              have hHeld := hNew
              clear hNew
              try simp only [Act.put, List.setIfInBounds_toArray, List.set_cons_zero, List.set_cons_succ]
              clear hp1 z0 z1 z2 z3 z4 z5 z6 f1 hz7 q1
              obtain ⟨p2, hp2, h2, o2, K2⟩ := sess_stored hz8 hHeld.k hl8.2.2 (.int .u64 pr) (.int .u64 li) (.int .u64 qu) (.int .i64 id) (.int .i64 3) (.int .u64 un) (.int .i64 (la : Int))
              replace h1 := (o2 R7 (by omega)).trans h1
              have q2 : OverS w B C ⟨pr, li, qu, id, 1, un, (la : Int)⟩ a b p2 := ⟨(o2 B (by omega)).trans hHeld.s, (o2 C (by omega)).trans hHeld.f, K2⟩
              have f2 := fun i => frozen_of_heap (o := i) hz8
              obtain ⟨z0, z1, z2, z3, z4, z5, z6⟩ := cells7 hz8
              refine wpAnyH_ready (rs := [10]) (by kernel_rfl) (by simp) ?_
              refine AllReadyH.cons (o := Oper.mk _ _ _ _ _ _) rfl (fun K hK => ?_) AllReadyH.nil
              go_simp
              rw [← hp2]
              refine hK.out _ _ (q2) (fun hNew => ?_)
              clear hHeld hK
              have hHeld := hNew
              clear hNew
              try simp only [Act.put, List.setIfInBounds_toArray, List.set_cons_zero, List.set_cons_succ]
              refine wpAnyH_done (by kernel_rfl) ?_ _
              go_wp2_with fail
              go_meet
              case rel => exact ⟨R7, R8, rfl, rfl, h1, h2, hHeld⟩
          · have hl8 := hHeld.lt
            have hne := lt_of_heap hz7
            go_simp
            refine hK.out _ _ (hHeld.keep (keeps_alloc _ _)) (fun hNew => ?_)
            clear hHeld hK
            have hHeld := hNew
            clear hNew
            try simp only [Act.put, List.setIfInBounds_toArray, List.set_cons_zero, List.set_cons_succ]
            have hz8 := heap_alloc_same (w := u2) (o := .cells #[.int .u64 0, .int .u64 0, .int .u64 0, .int .i64 0, .int .i64 0, .int .u64 0, .int .i64 0] 24)
            replace hz7 := (keeps_alloc u2 (.cells #[.int .u64 0, .int .u64 0, .int .u64 0, .int .i64 0, .int .i64 0, .int .u64 0, .int .i64 0] 24)).heap (by simp) hz7
            generalize u2.alloc (.cells #[.int .u64 0, .int .u64 0, .int .u64 0, .int .i64 0, .int .i64 0, .int .u64 0, .int .i64 0] 24) = u3 at *
            generalize u2.heap.size = R8 at *
            refine wpAnyH_ready (rs := [6]) (by kernel_rfl) (by simp) ?_
            refine AllReadyH.cons (o := Oper.mk _ _ _ _ _ _) rfl (fun K hK => ?_) (AllReadyH.nil)
            · (go_simp; refine (TY _).mono ?_; rintro e u4 ⟨rfl, k⟩)
              refine hK.out _ _ (hHeld.keep k) (fun hNew => ?_)
              clear hHeld hK
              have hHeld := hNew
              clear hNew
              try simp only [Act.put, List.setIfInBounds_toArray, List.set_cons_zero, List.set_cons_succ]
              replace hz7 := k.heap (by simp) hz7
              replace hz8 := k.heap (by simp) hz8
              clear k
              obtain ⟨p1, hp1, h1, o1, K1⟩ := sess_stored hz7 hHeld.k hl7.2.2 (.int .u64 pr) (.int .u64 li) (.int .u64 qu) (.int .i64 id) (.int .i64 1) (.int .u64 un) (.int .i64 (la : Int))
              replace hz8 := (o1 R8 (by omega)).trans hz8
              have q1 : OverS w B C ⟨pr, li, qu, id, 1, un, (la : Int)⟩ a b p1 := ⟨(o1 B (by omega)).trans hHeld.s, (o1 C (by omega)).trans hHeld.f, K1⟩
              have f1 := fun i => frozen_of_heap (o := i) hz7
              obtain ⟨z0, z1, z2, z3, z4, z5, z6⟩ := cells7 hz7
              refine wpAnyH_ready (rs := [9]) (by kernel_rfl) (by simp) ?_
              refine AllReadyH.cons (o := Oper.mk _ _ _ _ _ _) rfl (fun K hK => ?_) AllReadyH.nil
              go_simp
              rw [← hp1]
              refine hK.out _ _ (q1) (fun hNew => ?_)
              clear hHeld hK
              have hHeld := hNew
              clear hNew
              try simp only [Act.put, List.setIfInBounds_toArray, List.set_cons_zero, List.set_cons_succ]
              clear hp1 z0 z1 z2 z3 z4 z5 z6 f1 hz7 q1
              obtain ⟨p2, hp2, h2, o2, K2⟩ := sess_stored hz8 hHeld.k hl8.2.2 (.int .u64 pr) (.int .u64 li) (.int .u64 qu) (.int .i64 id) (.int .i64 3) (.int .u64 un) (.int .i64 (la : Int))
              replace h1 := (o2 R7 (by omega)).trans h1
              have q2 : OverS w B C ⟨pr, li, qu, id, 1, un, (la : Int)⟩ a b p2 := ⟨(o2 B (by omega)).trans hHeld.s, (o2 C (by omega)).trans hHeld.f, K2⟩
              have f2 := fun i => frozen_of_heap (o := i) hz8
              obtain ⟨z0, z1, z2, z3, z4, z5, z6⟩ := cells7 hz8
              refine wpAnyH_ready (rs := [10]) (by kernel_rfl) (by simp) ?_
              refine AllReadyH.cons (o := Oper.mk _ _ _ _ _ _) rfl (fun K hK => ?_) AllReadyH.nil
              go_simp
              rw [← hp2]
              refine hK.out _ _ (q2) (fun hNew => ?_)
              clear hHeld hK
              have hHeld := hNew
              clear hNew
              try simp only [Act.put, List.setIfInBounds_toArray, List.set_cons_zero, List.set_cons_succ]
              refine wpAnyH_done (by kernel_rfl) ?_ _
              go_wp2_with fail
              go_meet
              case rel => exact ⟨R7, R8, rfl, rfl, h1, h2, hHeld⟩
        · have hl8 := hHeld.lt
          go_simp
          refine hK.out _ _ (hHeld.keep (keeps_alloc _ _)) (fun hNew => ?_)
          clear hHeld hK
          have hHeld := hNew
          clear hNew
          try simp only [Act.put, List.setIfInBounds_toArray, List.set_cons_zero, List.set_cons_succ]
          have hz8 := heap_alloc_same (w := u1) (o := .cells #[.int .u64 0, .int .u64 0, .int .u64 0, .int .i64 0, .int .i64 0, .int .u64 0, .int .i64 0] 24)
          generalize u1.alloc (.cells #[.int .u64 0, .int .u64 0, .int .u64 0, .int .i64 0, .int .i64 0, .int .u64 0, .int .i64 0] 24) = u2 at *
          generalize u1.heap.size = R8 at *
          refine wpAnyH_ready (rs := [6, 7]) (by kernel_rfl) (by simp) ?_
          refine AllReadyH.cons (o := Oper.mk _ _ _ _ _ _) rfl (fun K hK => ?_) (AllReadyH.cons (o := Oper.mk _ _ _ _ _ _) rfl (fun K hK => ?_) (AllReadyH.nil))
          · (go_simp; refine (TY _).mono ?_; rintro e u3 ⟨rfl, k⟩)
            refine hK.out _ _ (hHeld.keep k) (fun hNew => ?_)
            clear hHeld hK
            have hHeld := hNew
            clear hNew
            try simp only [Act.put, List.setIfInBounds_toArray, List.set_cons_zero, List.set_cons_succ]
            replace hz8 := k.heap (by simp) hz8
            clear k
            refine wpAnyH_ready (rs := [7]) (by kernel_rfl) (by simp) ?_
            refine AllReadyH.cons (o := Oper.mk _ _ _ _ _ _) rfl (fun K hK => ?_) (AllReadyH.nil)
            · have hl7 := hHeld.lt
              have hne := lt_of_heap hz8
              go_simp
              refine hK.out _ _ (hHeld.keep (keeps_alloc _ _)) (fun hNew => ?_)
              clear hHeld hK
              have hHeld := hNew
              clear hNew
              try simp only [Act.put, List.setIfInBounds_toArray, List.set_cons_zero, List.set_cons_succ]
              have hz7 := heap_alloc_same (w := u3) (o := .cells #[.int .u64 0, .int .u64 0, .int .u64 0, .int .i64 0, .int .i64 0, .int .u64 0, .int .i64 0] 24)
              replace hz8 := (keeps_alloc u3 (.cells #[.int .u64 0, .int .u64 0, .int .u64 0, .int .i64 0, .int .i64 0, .int .u64 0, .int .i64 0] 24)).heap (by simp) hz8
              generalize u3.alloc (.cells #[.int .u64 0, .int .u64 0, .int .u64 0, .int .i64 0, .int .i64 0, .int .u64 0, .int .i64 0] 24) = u4 at *
              generalize u3.heap.size = R7 at *
              obtain ⟨p1, hp1, h1, o1, K1⟩ := sess_stored hz7 hHeld.k hl7.2.2 (.int .u64 pr) (.int .u64 li) (.int .u64 qu) (.int .i64 id) (.int .i64 1) (.int .u64 un) (.int .i64 (la : Int))
              replace hz8 := (o1 R8 (by omega)).trans hz8
              have q1 : OverS w B C ⟨pr, li, qu, id, 1, un, (la : Int)⟩ a b p1 := ⟨(o1 B (by omega)).trans hHeld.s, (o1 C (by omega)).trans hHeld.f, K1⟩
              have f1 := fun i => frozen_of_heap (o := i) hz7
              obtain ⟨z0, z1, z2, z3, z4, z5, z6⟩ := cells7 hz7
              refine wpAnyH_ready (rs := [9]) (by kernel_rfl) (by simp) ?_
              refine AllReadyH.cons (o := Oper.mk _ _ _ _ _ _) rfl (fun K hK => ?_) AllReadyH.nil
              go_simp
              rw [← hp1]
              refine hK.out _ _ (q1) (fun hNew => ?_)
              clear hHeld hK
              have hHeld := hNew
              clear hNew
              try simp only [Act.put, List.setIfInBounds_toArray, List.set_cons_zero, List.set_cons_succ]
              clear hp1 z0 z1 z2 z3 z4 z5 z6 f1 hz7 q1
              obtain ⟨p2, hp2, h2, o2, K2⟩ := sess_stored hz8 hHeld.k hl8.2.2 (.int .u64 pr) (.int .u64 li) (.int .u64 qu) (.int .i64 id) (.int .i64 3) (.int .u64 un) (.int .i64 (la : Int))
              replace h1 := (o2 R7 (by omega)).trans h1
              have q2 : OverS w B C ⟨pr, li, qu, id, 1, un, (la : Int)⟩ a b p2 := ⟨(o2 B (by omega)).trans hHeld.s, (o2 C (by omega)).trans hHeld.f, K2⟩
              have f2 := fun i => frozen_of_heap (o := i) hz8
              obtain ⟨z0, z1, z2, z3, z4, z5, z6⟩ := cells7 hz8
              refine wpAnyH_ready (rs := [10]) (by kernel_rfl) (by simp) ?_
              refine AllReadyH.cons (o := Oper.mk _ _ _ _ _ _) rfl (fun K hK => ?_) AllReadyH.nil
              go_simp
              rw [← hp2]
              refine hK.out _ _ (q2) (fun hNew => ?_)
              clear hHeld hK
              have hHeld := hNew
              clear hNew
              try simp only [Act.put, List.setIfInBounds_toArray, List.set_cons_zero, List.set_cons_succ]
              refine wpAnyH_done (by kernel_rfl) ?_ _
              go_wp2_with fail
              go_meet
              case rel => exact ⟨R7, R8, rfl, rfl, h1, h2, hHeld⟩
          · have hl7 := hHeld.lt
            have hne := lt_of_heap hz8
            go_simp
            refine hK.out _ _ (hHeld.keep (keeps_alloc _ _)) (fun hNew => ?_)
            clear hHeld hK
            have hHeld := hNew
            clear hNew
            try simp only [Act.put, List.setIfInBounds_toArray, List.set_cons_zero, List.set_cons_succ]
            have hz7 := heap_alloc_same (w := u2) (o := .cells #[.int .u64 0, .int .u64 0, .int .u64 0, .int .i64 0, .int .i64 0, .int .u64 0, .int .i64 0] 24)
            replace hz8 := (keeps_alloc u2 (.cells #[.int .u64 0, .int .u64 0, .int .u64 0, .int .i64 0, .int .i64 0, .int .u64 0, .int .i64 0] 24)).heap (by simp) hz8
            generalize u2.alloc (.cells #[.int .u64 0, .int .u64 0, .int .u64 0, .int .i64 0, .int .i64 0, .int .u64 0, .int .i64 0] 24) = u3 at *
            generalize u2.heap.size = R7 at *
            refine wpAnyH_ready (rs := [6]) (by kernel_rfl) (by simp) ?_
            refine AllReadyH.cons (o := Oper.mk _ _ _ _ _ _) rfl (fun K hK => ?_) (AllReadyH.nil)
            · (go_simp; refine (TY _).mono ?_; rintro e u4 ⟨rfl, k⟩)
              refine hK.out _ _ (hHeld.keep k) (fun hNew => ?_)
              clear hHeld hK
              have hHeld := hNew
              clear hNew
              try simp only [Act.put, List.setIfInBounds_toArray, List.set_cons_zero, List.set_cons_succ]
              replace hz7 := k.heap (by simp) hz7
              replace hz8 := k.heap (by simp) hz8
              clear k
              obtain ⟨p1, hp1, h1, o1, K1⟩ := sess_stored hz7 hHeld.k hl7.2.2 (.int .u64 pr) (.int .u64 li) (.int .u64 qu) (.int .i64 id) (.int .i64 1) (.int .u64 un) (.int .i64 (la : Int))
              replace hz8 := (o1 R8 (by omega)).trans hz8
              have q1 : OverS w B C ⟨pr, li, qu, id, 1, un, (la : Int)⟩ a b p1 := ⟨(o1 B (by omega)).trans hHeld.s, (o1 C (by omega)).trans hHeld.f, K1⟩
              have f1 := fun i => frozen_of_heap (o := i) hz7
              obtain ⟨z0, z1, z2, z3, z4, z5, z6⟩ := cells7 hz7
              refine wpAnyH_ready (rs := [9]) (by kernel_rfl) (by simp) ?_
              refine AllReadyH.cons (o := Oper.mk _ _ _ _ _ _) rfl (fun K hK => ?_) AllReadyH.nil
              go_simp
              rw [← hp1]
              refine hK.out _ _ (q1) (fun hNew => ?_)
              clear hHeld hK
              have hHeld := hNew
              clear hNew
              try simp only [Act.put, List.setIfInBounds_toArray, List.set_cons_zero, List.set_cons_succ]
              clear hp1 z0 z1 z2 z3 z4 z5 z6 f1 hz7 q1
              obtain ⟨p2, hp2, h2, o2, K2⟩ := sess_stored hz8 hHeld.k hl8.2.2 (.int .u64 pr) (.int .u64 li) (.int .u64 qu) (.int .i64 id) (.int .i64 3) (.int .u64 un) (.int .i64 (la : Int))
              replace h1 := (o2 R7 (by omega)).trans h1
              have q2 : OverS w B C ⟨pr, li, qu, id, 1, un, (la : Int)⟩ a b p2 := ⟨(o2 B (by omega)).trans hHeld.s, (o2 C (by omega)).trans hHeld.f, K2⟩
              have f2 := fun i => frozen_of_heap (o := i) hz8
              obtain ⟨z0, z1, z2, z3, z4, z5, z6⟩ := cells7 hz8
              refine wpAnyH_ready (rs := [10]) (by kernel_rfl) (by simp) ?_
              refine AllReadyH.cons (o := Oper.mk _ _ _ _ _ _) rfl (fun K hK => ?_) AllReadyH.nil
              go_simp
              rw [← hp2]
              refine hK.out _ _ (q2) (fun hNew => ?_)
              clear hHeld hK
              have hHeld := hNew
              clear hNew
              try simp only [Act.put, List.setIfInBounds_toArray, List.set_cons_zero, List.set_cons_succ]
              refine wpAnyH_done (by kernel_rfl) ?_ _
              go_wp2_with fail
              go_meet
              case rel => exact ⟨R7, R8, rfl, rfl, h1, h2, hHeld⟩
      · have hl7 := hHeld.lt
        go_simp
        refine hK.out _ _ (hHeld.keep (keeps_alloc _ _)) (fun hNew => ?_)
        clear hHeld hK
        have hHeld := hNew
        clear hNew
        try simp only [Act.put, List.setIfInBounds_toArray, List.set_cons_zero, List.set_cons_succ]
        have hz7 := heap_alloc_same (w := u0) (o := .cells #[.int .u64 0, .int .u64 0, .int .u64 0, .int .i64 0, .int .i64 0, .int .u64 0, .int .i64 0] 24)
        generalize u0.alloc (.cells #[.int .u64 0, .int .u64 0, .int .u64 0, .int .i64 0, .int .i64 0, .int .u64 0, .int .i64 0] 24) = u1 at *
        generalize u0.heap.size = R7 at *
        refine wpAnyH_ready (rs := [2, 8]) (by kernel_rfl) (by simp) ?_
        refine AllReadyH.cons (o := Oper.mk _ _ _ _ _ _) rfl (fun K hK => ?_) (AllReadyH.cons (o := Oper.mk _ _ _ _ _ _) rfl (fun K hK => ?_) (AllReadyH.nil))
        · (go_simp; refine (TX _).mono ?_; rintro e u2 ⟨rfl, k⟩)
          refine hK.out _ _ (hHeld.keep k) (fun hNew => ?_)
          clear hHeld hK
          have hHeld := hNew
          clear hNew
          try simp only [Act.put, List.setIfInBounds_toArray, List.set_cons_zero, List.set_cons_succ]
          replace hz7 := k.heap (by simp) hz7
          clear k
          refine wpAnyH_ready (rs := [6, 8]) (by kernel_rfl) (by simp) ?_
          refine AllReadyH.cons (o := Oper.mk _ _ _ _ _ _) rfl (fun K hK => ?_) (AllReadyH.cons (o := Oper.mk _ _ _ _ _ _) rfl (fun K hK => ?_) (AllReadyH.nil))
          · (go_simp; refine (TY _).mono ?_; rintro e u3 ⟨rfl, k⟩)
            refine hK.out _ _ (hHeld.keep k) (fun hNew => ?_)
            clear hHeld hK
            have hHeld := hNew
            clear hNew
            try simp only [Act.put, List.setIfInBounds_toArray, List.set_cons_zero, List.set_cons_succ]
            replace hz7 := k.heap (by simp) hz7
            clear k
            refine wpAnyH_ready (rs := [8]) (by kernel_rfl) (by simp) ?_
            refine AllReadyH.cons (o := Oper.mk _ _ _ _ _ _) rfl (fun K hK => ?_) (AllReadyH.nil)
            · have hl8 := hHeld.lt
              have hne := lt_of_heap hz7
              go_simp
              refine hK.out _ _ (hHeld.keep (keeps_alloc _ _)) (fun hNew => ?_)
              clear hHeld hK
              have hHeld := hNew
              clear hNew
              try simp only [Act.put, List.setIfInBounds_toArray, List.set_cons_zero, List.set_cons_succ]
              have hz8 := heap_alloc_same (w := u3) (o := .cells #[.int .u64 0, .int .u64 0, .int .u64 0, .int .i64 0, .int .i64 0, .int .u64 0, .int .i64 0] 24)
              replace hz7 := (keeps_alloc u3 (.cells #[.int .u64 0, .int .u64 0, .int .u64 0, .int .i64 0, .int .i64 0, .int .u64 0, .int .i64 0] 24)).heap (by simp) hz7
              generalize u3.alloc (.cells #[.int .u64 0, .int .u64 0, .int .u64 0, .int .i64 0, .int .i64 0, .int .u64 0, .int .i64 0] 24) = u4 at *
              generalize u3.heap.size = R8 at *
              obtain ⟨p1, hp1, h1, o1, K1⟩ := sess_stored hz7 hHeld.k hl7.2.2 (.int .u64 pr) (.int .u64 li) (.int .u64 qu) (.int .i64 id) (.int .i64 1) (.int .u64 un) (.int .i64 (la : Int))
              replace hz8 := (o1 R8 (by omega)).trans hz8
              have q1 : OverS w B C ⟨pr, li, qu, id, 1, un, (la : Int)⟩ a b p1 := ⟨(o1 B (by omega)).trans hHeld.s, (o1 C (by omega)).trans hHeld.f, K1⟩
              have f1 := fun i => frozen_of_heap (o := i) hz7
              obtain ⟨z0, z1, z2, z3, z4, z5, z6⟩ := cells7 hz7
              refine wpAnyH_ready (rs := [9]) (by kernel_rfl) (by simp) ?_
              refine AllReadyH.cons (o := Oper.mk _ _ _ _ _ _) rfl (fun K hK => ?_) AllReadyH.nil
              go_simp
              rw [← hp1]
              refine hK.out _ _ (q1) (fun hNew => ?_)
              clear hHeld hK
              have hHeld := hNew
              clear hNew
              try simp only [Act.put, List.setIfInBounds_toArray, List.set_cons_zero, List.set_cons_succ]
              clear hp1 z0 z1 z2 z3 z4 z5 z6 f1 hz7 q1
              obtain ⟨p2, hp2, h2, o2, K2⟩ := sess_stored hz8 hHeld.k hl8.2.2 (.int .u64 pr) (.int .u64 li) (.int .u64 qu) (.int .i64 id) (.int .i64 3) (.int .u64 un) (.int .i64 (la : Int))
              replace h1 := (o2 R7 (by omega)).trans h1
              have q2 : OverS w B C ⟨pr, li, qu, id, 1, un, (la : Int)⟩ a b p2 := ⟨(o2 B (by omega)).trans hHeld.s, (o2 C (by omega)).trans hHeld.f, K2⟩
              have f2 := fun i => frozen_of_heap (o := i) hz8
              obtain ⟨z0, z1, z2, z3, z4, z5, z6⟩ := cells7 hz8
              refine wpAnyH_ready (rs := [10]) (by kernel_rfl) (by simp) ?_
              refine AllReadyH.cons (o := Oper.mk _ _ _ _ _ _) rfl (fun K hK => ?_) AllReadyH.nil
              go_simp
              rw [← hp2]
              refine hK.out _ _ (q2) (fun hNew => ?_)
              clear hHeld hK
              have hHeld := hNew
              clear hNew
              try simp only [Act.put, List.setIfInBounds_toArray, List.set_cons_zero, List.set_cons_succ]
              refine wpAnyH_done (by kernel_rfl) ?_ _
              go_wp2_with fail
              go_meet
              case rel => exact ⟨R7, R8, rfl, rfl, h1, h2, hHeld⟩
          · have hl8 := hHeld.lt
            have hne := lt_of_heap hz7
            go_simp
            refine hK.out _ _ (hHeld.keep (keeps_alloc _ _)) (fun hNew => ?_)
            clear hHeld hK
            have hHeld := hNew
            clear hNew
            try simp only [Act.put, List.setIfInBounds_toArray, List.set_cons_zero, List.set_cons_succ]
            have hz8 := heap_alloc_same (w := u2) (o := .cells #[.int .u64 0, .int .u64 0, .int .u64 0, .int .i64 0, .int .i64 0, .int .u64 0, .int .i64 0] 24)
            replace hz7 := (keeps_alloc u2 (.cells #[.int .u64 0, .int .u64 0, .int .u64 0, .int .i64 0, .int .i64 0, .int .u64 0, .int .i64 0] 24)).heap (by simp) hz7
            generalize u2.alloc (.cells #[.int .u64 0, .int .u64 0, .int .u64 0, .int .i64 0, .int .i64 0, .int .u64 0, .int .i64 0] 24) = u3 at *
            generalize u2.heap.size = R8 at *
            refine wpAnyH_ready (rs := [6]) (by kernel_rfl) (by simp) ?_
            refine AllReadyH.cons (o := Oper.mk _ _ _ _ _ _) rfl (fun K hK => ?_) (AllReadyH.nil)
            · (go_simp; refine (TY _).mono ?_; rintro e u4 ⟨rfl, k⟩)
              refine hK.out _ _ (hHeld.keep k) (fun hNew => ?_)
              clear hHeld hK
              have hHeld := hNew
              clear hNew
              try simp only [Act.put, List.setIfInBounds_toArray, List.set_cons_zero, List.set_cons_succ]
              replace hz7 := k.heap (by simp) hz7
              replace hz8 := k.heap (by simp) hz8
              clear k
              obtain ⟨p1, hp1, h1, o1, K1⟩ := sess_stored hz7 hHeld.k hl7.2.2 (.int .u64 pr) (.int .u64 li) (.int .u64 qu) (.int .i64 id) (.int .i64 1) (.int .u64 un) (.int .i64 (la : Int))
              replace hz8 := (o1 R8 (by omega)).trans hz8
              have q1 : OverS w B C ⟨pr, li, qu, id, 1, un, (la : Int)⟩ a b p1 := ⟨(o1 B (by omega)).trans hHeld.s, (o1 C (by omega)).trans hHeld.f, K1⟩
              have f1 := fun i => frozen_of_heap (o := i) hz7
              obtain ⟨z0, z1, z2, z3, z4, z5, z6⟩ := cells7 hz7
              refine wpAnyH_ready (rs := [9]) (by kernel_rfl) (by simp) ?_
              refine AllReadyH.cons (o := Oper.mk _ _ _ _ _ _) rfl (fun K hK => ?_) AllReadyH.nil
              go_simp
              rw [← hp1]
              refine hK.out _ _ (q1) (fun hNew => ?_)
              clear hHeld hK
              have hHeld := hNew
              clear hNew
              try simp only [Act.put, List.setIfInBounds_toArray, List.set_cons_zero, List.set_cons_succ]
              clear hp1 z0 z1 z2 z3 z4 z5 z6 f1 hz7 q1
              obtain ⟨p2, hp2, h2, o2, K2⟩ := sess_stored hz8 hHeld.k hl8.2.2 (.int .u64 pr) (.int .u64 li) (.int .u64 qu) (.int .i64 id) (.int .i64 3) (.int .u64 un) (.int .i64 (la : Int))
              replace h1 := (o2 R7 (by omega)).trans h1
              have q2 : OverS w B C ⟨pr, li, qu, id, 1, un, (la : Int)⟩ a b p2 := ⟨(o2 B (by omega)).trans hHeld.s, (o2 C (by omega)).trans hHeld.f, K2⟩
              have f2 := fun i => frozen_of_heap (o := i) hz8
              obtain ⟨z0, z1, z2, z3, z4, z5, z6⟩ := cells7 hz8
              refine wpAnyH_ready (rs := [10]) (by kernel_rfl) (by simp) ?_
              refine AllReadyH.cons (o := Oper.mk _ _ _ _ _ _) rfl (fun K hK => ?_) AllReadyH.nil
              go_simp
              rw [← hp2]
              refine hK.out _ _ (q2) (fun hNew => ?_)
              clear hHeld hK
              have hHeld := hNew
              clear hNew
              try simp only [Act.put, List.setIfInBounds_toArray, List.set_cons_zero, List.set_cons_succ]
              refine wpAnyH_done (by kernel_rfl) ?_ _
              go_wp2_with fail
              go_meet
              case rel => exact ⟨R7, R8, rfl, rfl, h1, h2, hHeld⟩
        · have hl8 := hHeld.lt
          have hne := lt_of_heap hz7
          go_simp
          refine hK.out _ _ (hHeld.keep (keeps_alloc _ _)) (fun hNew => ?_)
          clear hHeld hK
          have hHeld := hNew
          clear hNew
          try simp only [Act.put, List.setIfInBounds_toArray, List.set_cons_zero, List.set_cons_succ]
          have hz8 := heap_alloc_same (w := u1) (o := .cells #[.int .u64 0, .int .u64 0, .int .u64 0, .int .i64 0, .int .i64 0, .int .u64 0, .int .i64 0] 24)
          replace hz7 := (keeps_alloc u1 (.cells #[.int .u64 0, .int .u64 0, .int .u64 0, .int .i64 0, .int .i64 0, .int .u64 0, .int .i64 0] 24)).heap (by simp) hz7
          generalize u1.alloc (.cells #[.int .u64 0, .int .u64 0, .int .u64 0, .int .i64 0, .int .i64 0, .int .u64 0, .int .i64 0] 24) = u2 at *
          generalize u1.heap.size = R8 at *
          refine wpAnyH_ready (rs := [2]) (by kernel_rfl) (by simp) ?_
          refine AllReadyH.cons (o := Oper.mk _ _ _ _ _ _) rfl (fun K hK => ?_) (AllReadyH.nil)
          · (go_simp; refine (TX _).mono ?_; rintro e u3 ⟨rfl, k⟩)
            refine hK.out _ _ (hHeld.keep k) (fun hNew => ?_)
            clear hHeld hK
            have hHeld := hNew
            clear hNew
            try simp only [Act.put, List.setIfInBounds_toArray, List.set_cons_zero, List.set_cons_succ]
            replace hz7 := k.heap (by simp) hz7
            replace hz8 := k.heap (by simp) hz8
            clear k
            refine wpAnyH_ready (rs := [6]) (by kernel_rfl) (by simp) ?_
            refine AllReadyH.cons (o := Oper.mk _ _ _ _ _ _) rfl (fun K hK => ?_) (AllReadyH.nil)
            · (go_simp; refine (TY _).mono ?_; rintro e u4 ⟨rfl, k⟩)
              refine hK.out _ _ (hHeld.keep k) (fun hNew => ?_)
              clear hHeld hK
              have hHeld := hNew
              clear hNew
              try simp only [Act.put, List.setIfInBounds_toArray, List.set_cons_zero, List.set_cons_succ]
              replace hz7 := k.heap (by simp) hz7
              replace hz8 := k.heap (by simp) hz8
              clear k
              obtain ⟨p1, hp1, h1, o1, K1⟩ := sess_stored hz7 hHeld.k hl7.2.2 (.int .u64 pr) (.int .u64 li) (.int .u64 qu) (.int .i64 id) (.int .i64 1) (.int .u64 un) (.int .i64 (la : Int))
              replace hz8 := (o1 R8 (by omega)).trans hz8
              have q1 : OverS w B C ⟨pr, li, qu, id, 1, un, (la : Int)⟩ a b p1 := ⟨(o1 B (by omega)).trans hHeld.s, (o1 C (by omega)).trans hHeld.f, K1⟩
              have f1 := fun i => frozen_of_heap (o := i) hz7
              obtain ⟨z0, z1, z2, z3, z4, z5, z6⟩ := cells7 hz7
              refine wpAnyH_ready (rs := [9]) (by kernel_rfl) (by simp) ?_
              refine AllReadyH.cons (o := Oper.mk _ _ _ _ _ _) rfl (fun K hK => ?_) AllReadyH.nil
              go_simp
              rw [← hp1]
              refine hK.out _ _ (q1) (fun hNew => ?_)
              clear hHeld hK
              have hHeld := hNew
              clear hNew
              try simp only [Act.put, List.setIfInBounds_toArray, List.set_cons_zero, List.set_cons_succ]
              clear hp1 z0 z1 z2 z3 z4 z5 z6 f1 hz7 q1
              obtain ⟨p2, hp2, h2, o2, K2⟩ := sess_stored hz8 hHeld.k hl8.2.2 (.int .u64 pr) (.int .u64 li) (.int .u64 qu) (.int .i64 id) (.int .i64 3) (.int .u64 un) (.int .i64 (la : Int))
              replace h1 := (o2 R7 (by omega)).trans h1
              have q2 : OverS w B C ⟨pr, li, qu, id, 1, un, (la : Int)⟩ a b p2 := ⟨(o2 B (by omega)).trans hHeld.s, (o2 C (by omega)).trans hHeld.f, K2⟩
              have f2 := fun i => frozen_of_heap (o := i) hz8
              obtain ⟨z0, z1, z2, z3, z4, z5, z6⟩ := cells7 hz8
              refine wpAnyH_ready (rs := [10]) (by kernel_rfl) (by simp) ?_
              refine AllReadyH.cons (o := Oper.mk _ _ _ _ _ _) rfl (fun K hK => ?_) AllReadyH.nil
              go_simp
              rw [← hp2]
              refine hK.out _ _ (q2) (fun hNew => ?_)
              clear hHeld hK
              have hHeld := hNew
              clear hNew
              try simp only [Act.put, List.setIfInBounds_toArray, List.set_cons_zero, List.set_cons_succ]
              refine wpAnyH_done (by kernel_rfl) ?_ _
              go_wp2_with fail
              go_meet
              case rel => exact ⟨R7, R8, rfl, rfl, h1, h2, hHeld⟩
      · have hl8 := hHeld.lt
        go_simp
        refine hK.out _ _ (hHeld.keep (keeps_alloc _ _)) (fun hNew => ?_)
        clear hHeld hK
        have hHeld := hNew
        clear hNew
        try simp only [Act.put, List.setIfInBounds_toArray, List.set_cons_zero, List.set_cons_succ]
        have hz8 := heap_alloc_same (w := u0) (o := .cells #[.int .u64 0, .int .u64 0, .int .u64 0, .int .i64 0, .int .i64 0, .int .u64 0, .int .i64 0] 24)
        generalize u0.alloc (.cells #[.int .u64 0, .int .u64 0, .int .u64 0, .int .i64 0, .int .i64 0, .int .u64 0, .int .i64 0] 24) = u1 at *
        generalize u0.heap.size = R8 at *
        refine wpAnyH_ready (rs := [2, 7]) (by kernel_rfl) (by simp) ?_
        refine AllReadyH.cons (o := Oper.mk _ _ _ _ _ _) rfl (fun K hK => ?_) (AllReadyH.cons (o := Oper.mk _ _ _ _ _ _) rfl (fun K hK => ?_) (AllReadyH.nil))
        · (go_simp; refine (TX _).mono ?_; rintro e u2 ⟨rfl, k⟩)
          refine hK.out _ _ (hHeld.keep k) (fun hNew => ?_)
          clear hHeld hK
          have hHeld := hNew
          clear hNew
          try simp only [Act.put, List.setIfInBounds_toArray, List.set_cons_zero, List.set_cons_succ]
          replace hz8 := k.heap (by simp) hz8
          clear k
          refine wpAnyH_ready (rs := [6, 7]) (by kernel_rfl) (by simp) ?_
          refine AllReadyH.cons (o := Oper.mk _ _ _ _ _ _) rfl (fun K hK => ?_) (AllReadyH.cons (o := Oper.mk _ _ _ _ _ _) rfl (fun K hK => ?_) (AllReadyH.nil))
          · (go_simp; refine (TY _).mono ?_; rintro e u3 ⟨rfl, k⟩)
            refine hK.out _ _ (hHeld.keep k) (fun hNew => ?_)
            clear hHeld hK
            have hHeld := hNew
            clear hNew
            try simp only [Act.put, List.setIfInBounds_toArray, List.set_cons_zero, List.set_cons_succ]
            replace hz8 := k.heap (by simp) hz8
            clear k
            refine wpAnyH_ready (rs := [7]) (by kernel_rfl) (by simp) ?_
            refine AllReadyH.cons (o := Oper.mk _ _ _ _ _ _) rfl (fun K hK => ?_) (AllReadyH.nil)
            · have hl7 := hHeld.lt
              have hne := lt_of_heap hz8
              go_simp
              refine hK.out _ _ (hHeld.keep (keeps_alloc _ _)) (fun hNew => ?_)
              clear hHeld hK
              have hHeld := hNew
              clear hNew
              try simp only [Act.put, List.setIfInBounds_toArray, List.set_cons_zero, List.set_cons_succ]
              have hz7 := heap_alloc_same (w := u3) (o := .cells #[.int .u64 0, .int .u64 0, .int .u64 0, .int .i64 0, .int .i64 0, .int .u64 0, .int .i64 0] 24)
              replace hz8 := (keeps_alloc u3 (.cells #[.int .u64 0, .int .u64 0, .int .u64 0, .int .i64 0, .int .i64 0, .int .u64 0, .int .i64 0] 24)).heap (by simp) hz8
              generalize u3.alloc (.cells #[.int .u64 0, .int .u64 0, .int .u64 0, .int .i64 0, .int .i64 0, .int .u64 0, .int .i64 0] 24) = u4 at *
              generalize u3.heap.size = R7 at *
              obtain ⟨p1, hp1, h1, o1, K1⟩ := sess_stored hz7 hHeld.k hl7.2.2 (.int .u64 pr) (.int .u64 li) (.int .u64 qu) (.int .i64 id) (.int .i64 1) (.int .u64 un) (.int .i64 (la : Int))
              replace hz8 := (o1 R8 (by omega)).trans hz8
              have q1 : OverS w B C ⟨pr, li, qu, id, 1, un, (la : Int)⟩ a b p1 := ⟨(o1 B (by omega)).trans hHeld.s, (o1 C (by omega)).trans hHeld.f, K1⟩
              have f1 := fun i => frozen_of_heap (o := i) hz7
              obtain ⟨z0, z1, z2, z3, z4, z5, z6⟩ := cells7 hz7
              refine wpAnyH_ready (rs := [9]) (by kernel_rfl) (by simp) ?_
              refine AllReadyH.cons (o := Oper.mk _ _ _ _ _ _) rfl (fun K hK => ?_) AllReadyH.nil
              go_simp
              rw [← hp1]
              refine hK.out _ _ (q1) (fun hNew => ?_)
              clear hHeld hK
              have hHeld := hNew
              clear hNew
              try simp only [Act.put, List.setIfInBounds_toArray, List.set_cons_zero, List.set_cons_succ]
              clear hp1 z0 z1 z2 z3 z4 z5 z6 f1 hz7 q1
              obtain ⟨p2, hp2, h2, o2, K2⟩ := sess_stored hz8 hHeld.k hl8.2.2 (.int .u64 pr) (.int .u64 li) (.int .u64 qu) (.int .i64 id) (.int .i64 3) (.int .u64 un) (.int .i64 (la : Int))
              replace h1 := (o2 R7 (by omega)).trans h1
              have q2 : OverS w B C ⟨pr, li, qu, id, 1, un, (la : Int)⟩ a b p2 := ⟨(o2 B (by omega)).trans hHeld.s, (o2 C (by omega)).trans hHeld.f, K2⟩
              have f2 := fun i => frozen_of_heap (o := i) hz8
              obtain ⟨z0, z1, z2, z3, z4, z5, z6⟩ := cells7 hz8
              refine wpAnyH_ready (rs := [10]) (by kernel_rfl) (by simp) ?_
              refine AllReadyH.cons (o := Oper.mk _ _ _ _ _ _) rfl (fun K hK => ?_) AllReadyH.nil
              go_simp
              rw [← hp2]
              refine hK.out _ _ (q2) (fun hNew => ?_)
              clear hHeld hK
              have hHeld := hNew
              clear hNew
              try simp only [Act.put, List.setIfInBounds_toArray, List.set_cons_zero, List.set_cons_succ]
              refine wpAnyH_done (by kernel_rfl) ?_ _
              go_wp2_with fail
              go_meet
              case rel => exact ⟨R7, R8, rfl, rfl, h1, h2, hHeld⟩
          · have hl7 := hHeld.lt
            have hne := lt_of_heap hz8
            go_simp
            refine hK.out _ _ (hHeld.keep (keeps_alloc _ _)) (fun hNew => ?_)
            clear hHeld hK
            have hHeld := hNew
            clear hNew
            try simp only [Act.put, List.setIfInBounds_toArray, List.set_cons_zero, List.set_cons_succ]
            have hz7 := heap_alloc_same (w := u2) (o := .cells #[.int .u64 0, .int .u64 0, .int .u64 0, .int .i64 0, .int .i64 0, .int .u64 0, .int .i64 0] 24)
            replace hz8 := (keeps_alloc u2 (.cells #[.int .u64 0, .int .u64 0, .int .u64 0, .int .i64 0, .int .i64 0, .int .u64 0, .int .i64 0] 24)).heap (by simp) hz8
            generalize u2.alloc (.cells #[.int .u64 0, .int .u64 0, .int .u64 0, .int .i64 0, .int .i64 0, .int .u64 0, .int .i64 0] 24) = u3 at *
            generalize u2.heap.size = R7 at *
            refine wpAnyH_ready (rs := [6]) (by kernel_rfl) (by simp) ?_
            refine AllReadyH.cons (o := Oper.mk _ _ _ _ _ _) rfl (fun K hK => ?_) (AllReadyH.nil)
            · (go_simp; refine (TY _).mono ?_; rintro e u4 ⟨rfl, k⟩)
              refine hK.out _ _ (hHeld.keep k) (fun hNew => ?_)
              clear hHeld hK
              have hHeld := hNew
              clear hNew
              try simp only [Act.put, List.setIfInBounds_toArray, List.set_cons_zero, List.set_cons_succ]
              replace hz7 := k.heap (by simp) hz7
              replace hz8 := k.heap (by simp) hz8
              clear k
              obtain ⟨p1, hp1, h1, o1, K1⟩ := sess_stored hz7 hHeld.k hl7.2.2 (.int .u64 pr) (.int .u64 li) (.int .u64 qu) (.int .i64 id) (.int .i64 1) (.int .u64 un) (.int .i64 (la : Int))
              replace hz8 := (o1 R8 (by omega)).trans hz8
              have q1 : OverS w B C ⟨pr, li, qu, id, 1, un, (la : Int)⟩ a b p1 := ⟨(o1 B (by omega)).trans hHeld.s, (o1 C (by omega)).trans hHeld.f, K1⟩
              have f1 := fun i => frozen_of_heap (o := i) hz7
              obtain ⟨z0, z1, z2, z3, z4, z5, z6⟩ := cells7 hz7
              refine wpAnyH_ready (rs := [9]) (by kernel_rfl) (by simp) ?_
              refine AllReadyH.cons (o := Oper.mk _ _ _ _ _ _) rfl (fun K hK => ?_) AllReadyH.nil
              go_simp
              rw [← hp1]
              refine hK.out _ _ (q1) (fun hNew => ?_)
              clear hHeld hK
              have hHeld := hNew
              clear hNew
              try simp only [Act.put, List.setIfInBounds_toArray, List.set_cons_zero, List.set_cons_succ]
              clear hp1 z0 z1 z2 z3 z4 z5 z6 f1 hz7 q1
              obtain ⟨p2, hp2, h2, o2, K2⟩ := sess_stored hz8 hHeld.k hl8.2.2 (.int .u64 pr) (.int .u64 li) (.int .u64 qu) (.int .i64 id) (.int .i64 3) (.int .u64 un) (.int .i64 (la : Int))
              replace h1 := (o2 R7 (by omega)).trans h1
              have q2 : OverS w B C ⟨pr, li, qu, id, 1, un, (la : Int)⟩ a b p2 := ⟨(o2 B (by omega)).trans hHeld.s, (o2 C (by omega)).trans hHeld.f, K2⟩
              have f2 := fun i => frozen_of_heap (o := i) hz8
              obtain ⟨z0, z1, z2, z3, z4, z5, z6⟩ := cells7 hz8
              refine wpAnyH_ready (rs := [10]) (by kernel_rfl) (by simp) ?_
              refine AllReadyH.cons (o := Oper.mk _ _ _ _ _ _) rfl (fun K hK => ?_) AllReadyH.nil
              go_simp
              rw [← hp2]
              refine hK.out _ _ (q2) (fun hNew => ?_)
              clear hHeld hK
              have hHeld := hNew
              clear hNew
              try simp only [Act.put, List.setIfInBounds_toArray, List.set_cons_zero, List.set_cons_succ]
              refine wpAnyH_done (by kernel_rfl) ?_ _
              go_wp2_with fail
              go_meet
              case rel => exact ⟨R7, R8, rfl, rfl, h1, h2, hHeld⟩
        · have hl7 := hHeld.lt
          have hne := lt_of_heap hz8
          go_simp
          refine hK.out _ _ (hHeld.keep (keeps_alloc _ _)) (fun hNew => ?_)
          clear hHeld hK
          have hHeld := hNew
          clear hNew
          try simp only [Act.put, List.setIfInBounds_toArray, List.set_cons_zero, List.set_cons_succ]
          have hz7 := heap_alloc_same (w := u1) (o := .cells #[.int .u64 0, .int .u64 0, .int .u64 0, .int .i64 0, .int .i64 0, .int .u64 0, .int .i64 0] 24)
          replace hz8 := (keeps_alloc u1 (.cells #[.int .u64 0, .int .u64 0, .int .u64 0, .int .i64 0, .int .i64 0, .int .u64 0, .int .i64 0] 24)).heap (by simp) hz8
          generalize u1.alloc (.cells #[.int .u64 0, .int .u64 0, .int .u64 0, .int .i64 0, .int .i64 0, .int .u64 0, .int .i64 0] 24) = u2 at *
          generalize u1.heap.size = R7 at *
          refine wpAnyH_ready (rs := [2]) (by kernel_rfl) (by simp) ?_
          refine AllReadyH.cons (o := Oper.mk _ _ _ _ _ _) rfl (fun K hK => ?_) (AllReadyH.nil)
          · (go_simp; refine (TX _).mono ?_; rintro e u3 ⟨rfl, k⟩)
            refine hK.out _ _ (hHeld.keep k) (fun hNew => ?_)
            clear hHeld hK
            have hHeld := hNew
            clear hNew
            try simp only [Act.put, List.setIfInBounds_toArray, List.set_cons_zero, List.set_cons_succ]
            replace hz7 := k.heap (by simp) hz7
            replace hz8 := k.heap (by simp) hz8
            clear k
            refine wpAnyH_ready (rs := [6]) (by kernel_rfl) (by simp) ?_
            refine AllReadyH.cons (o := Oper.mk _ _ _ _ _ _) rfl (fun K hK => ?_) (AllReadyH.nil)
            · (go_simp; refine (TY _).mono ?_; rintro e u4 ⟨rfl, k⟩)
              refine hK.out _ _ (hHeld.keep k) (fun hNew => ?_)
              clear hHeld hK
              have hHeld := hNew
              clear hNew
              try simp only [Act.put, List.setIfInBounds_toArray, List.set_cons_zero, List.set_cons_succ]
              replace hz7 := k.heap (by simp) hz7
              replace hz8 := k.heap (by simp) hz8
              clear k
              obtain ⟨p1, hp1, h1, o1, K1⟩ := sess_stored hz7 hHeld.k hl7.2.2 (.int .u64 pr) (.int .u64 li) (.int .u64 qu) (.int .i64 id) (.int .i64 1) (.int .u64 un) (.int .i64 (la : Int))
              replace hz8 := (o1 R8 (by omega)).trans hz8
              have q1 : OverS w B C ⟨pr, li, qu, id, 1, un, (la : Int)⟩ a b p1 := ⟨(o1 B (by omega)).trans hHeld.s, (o1 C (by omega)).trans hHeld.f, K1⟩
              have f1 := fun i => frozen_of_heap (o := i) hz7
              obtain ⟨z0, z1, z2, z3, z4, z5, z6⟩ := cells7 hz7
              refine wpAnyH_ready (rs := [9]) (by kernel_rfl) (by simp) ?_
              refine AllReadyH.cons (o := Oper.mk _ _ _ _ _ _) rfl (fun K hK => ?_) AllReadyH.nil
              go_simp
              rw [← hp1]
              refine hK.out _ _ (q1) (fun hNew => ?_)
              clear hHeld hK
              have hHeld := hNew
              clear hNew
              try simp only [Act.put, List.setIfInBounds_toArray, List.set_cons_zero, List.set_cons_succ]
              clear hp1 z0 z1 z2 z3 z4 z5 z6 f1 hz7 q1
              obtain ⟨p2, hp2, h2, o2, K2⟩ := sess_stored hz8 hHeld.k hl8.2.2 (.int .u64 pr) (.int .u64 li) (.int .u64 qu) (.int .i64 id) (.int .i64 3) (.int .u64 un) (.int .i64 (la : Int))
              replace h1 := (o2 R7 (by omega)).trans h1
              have q2 : OverS w B C ⟨pr, li, qu, id, 1, un, (la : Int)⟩ a b p2 := ⟨(o2 B (by omega)).trans hHeld.s, (o2 C (by omega)).trans hHeld.f, K2⟩
              have f2 := fun i => frozen_of_heap (o := i) hz8
              obtain ⟨z0, z1, z2, z3, z4, z5, z6⟩ := cells7 hz8
              refine wpAnyH_ready (rs := [10]) (by kernel_rfl) (by simp) ?_
              refine AllReadyH.cons (o := Oper.mk _ _ _ _ _ _) rfl (fun K hK => ?_) AllReadyH.nil
              go_simp
              rw [← hp2]
              refine hK.out _ _ (q2) (fun hNew => ?_)
              clear hHeld hK
              have hHeld := hNew
              clear hNew
              try simp only [Act.put, List.setIfInBounds_toArray, List.set_cons_zero, List.set_cons_succ]
              refine wpAnyH_done (by kernel_rfl) ?_ _
              go_wp2_with fail
              go_meet
              case rel => exact ⟨R7, R8, rfl, rfl, h1, h2, hHeld⟩
    case rest =>
      clear Q3 TX TY v1
      obtain ⟨X, Y, rfl, rfl, x4, y4, q4⟩ := hcut
      have PA := fun w => pause_c (w := w) ⟨pr, li, qu, id, 1, un, (la : Int)⟩ (ok1 _ _ ⟨by decide, by decide⟩ ⟨by omega, by omega⟩)
      have RE := fun w => resume_c (w := w) ⟨pr, li, qu, id, 2, un, (la : Int)⟩ ((la : Int) + (m : Int)) (ok1 _ _ ⟨by decide, by decide⟩ ⟨by omega, by omega⟩) ⟨by omega, by omega⟩
      have ep : mPause ⟨pr, li, qu, id, 1, un, (la : Int)⟩ = (⟨pr, li, qu, id, 2, un, (la : Int)⟩, 0) := if_pos rfl
      have er : mResume ⟨pr, li, qu, id, 2, un, (la : Int)⟩ ((la : Int) + (m : Int)) = (⟨pr, li, qu, id, 1, un, ((la : Int) + (m : Int))⟩, 0) := by
        rw [mResume, if_pos rfl, if_neg (by show ¬ (_ < (la : Int)); omega)]
      rw [ep] at PA
      rw [er] at RE
      dsimp only at PA RE
      clear ep er
      obtain ⟨a0, a1, a2, a3, a4, a5, a6⟩ := cells7 x4
      obtain ⟨b0, b1, b2, b3, b4, b5, b6⟩ := cells7 y4
      obtain ⟨d0, d1, d2, d3, d4, d5, d6⟩ := cells7 q4.s
      go_wp2_with fail
      refine (PA _).mono ?_
      rintro e w5 ⟨rfl, k5⟩
      obtain ⟨w6, hw6⟩ : ∃ w6, w6 = w5.alloc (.cells #[.int .u64 pr, .int .u64 li, .int .u64 qu, .int .i64 id, .int .i64 2, .int .u64 un, .int .i64 (la : Int)] 24) := ⟨_, rfl⟩
      obtain ⟨P, hP⟩ : ∃ P, P = w5.heap.size := ⟨_, rfl⟩
      have q6 : OverS w B C ⟨pr, li, qu, id, 1, un, (la : Int)⟩ a b w6 := by rw [hw6]; exact (q4.keep k5).keep (keeps_alloc _ _)
      have p6 : w6.heap[P]? = some (.cells #[.int .u64 pr, .int .u64 li, .int .u64 qu, .int .i64 id, .int .i64 2, .int .u64 un, .int .i64 (la : Int)] 24 (0, 0)) := by rw [hw6, hP]; exact heap_alloc_same
      clear a0 a1 a2 a3 a4 a5 a6 b0 b1 b2 b3 b4 b5 b6 d0 d1 d2 d3 d4 d5 d6 PA q4 x4 y4 k5
      go_upto_region 8 with fail
      rw [← hw6, ← hP]
      clear hw6 hP
      obtain ⟨a0, a1, a2, a3, a4, a5, a6⟩ := cells7 p6
      obtain ⟨d0, d1, d2, d3, d4, d5, d6⟩ := cells7 q6.s
      go_wp2_with fail
      refine (RE _).mono ?_
      rintro e w7 ⟨rfl, k7⟩
      obtain ⟨w8, hw8⟩ : ∃ w8, w8 = w7.alloc (.cells #[.int .u64 pr, .int .u64 li, .int .u64 qu, .int .i64 id, .int .i64 1, .int .u64 un, .int .i64 ((la : Int) + (m : Int))] 24) := ⟨_, rfl⟩
      obtain ⟨Q, hQ⟩ : ∃ Q, Q = w7.heap.size := ⟨_, rfl⟩
      have q8 : OverS w B C ⟨pr, li, qu, id, 1, un, (la : Int)⟩ a b w8 := by rw [hw8]; exact (q6.keep k7).keep (keeps_alloc _ _)
      have p8 : w8.heap[Q]? = some (.cells #[.int .u64 pr, .int .u64 li, .int .u64 qu, .int .i64 id, .int .i64 1, .int .u64 un, .int .i64 ((la : Int) + (m : Int))] 24 (0, 0)) := by rw [hw8, hQ]; exact heap_alloc_same
      clear a0 a1 a2 a3 a4 a5 a6 d0 d1 d2 d3 d4 d5 d6 RE q6 p6 k7
      go_upto_region 9 with fail
      rw [← hw8, ← hQ]
      clear hw8 hQ
      obtain ⟨a0, a1, a2, a3, a4, a5, a6⟩ := cells7 p8
      obtain ⟨d0, d1, d2, d3, d4, d5, d6⟩ := cells7 q8.s
      go_upto_region 11 with fail
      clear a0 a1 a2 a3 a4 a5 a6 d0 d1 d2 d3 d4 d5 d6
      have Q8 : OverS w Q C ⟨pr, li, qu, id, 1, un, ((la : Int) + (m : Int))⟩ a b w8 := ⟨p8, q8.f, q8.k⟩
      clear p8 q8
      have TX := fun w => tick_c (w := w) ⟨pr, li, qu, id, 1, un, ((la : Int) + (m : Int))⟩ ((la : Int) + (m : Int) + (id : Int)) (ok1 _ _ ⟨by decide, by decide⟩ ⟨by omega, by omega⟩) ⟨by omega, by omega⟩
      have TY := fun w => tick_c (w := w) ⟨pr, li, qu, id, 1, un, ((la : Int) + (m : Int))⟩ ((la : Int) + (m : Int) + (id : Int) + 1 + (b : Int)) (ok1 _ _ ⟨by decide, by decide⟩ ⟨by omega, by omega⟩) ⟨by omega, by omega⟩
      have ex : mTick ⟨pr, li, qu, id, 1, un, ((la : Int) + (m : Int))⟩ ((la : Int) + (m : Int) + (id : Int)) = ⟨pr, li, qu, id, 1, un, ((la : Int) + (m : Int))⟩ := if_neg (fun k => by have h3 := k.2.2; dsimp only at h3; omega)
      have ey : mTick ⟨pr, li, qu, id, 1, un, ((la : Int) + (m : Int))⟩ ((la : Int) + (m : Int) + (id : Int) + 1 + (b : Int)) = ⟨pr, li, qu, id, 3, un, ((la : Int) + (m : Int))⟩ := if_pos ⟨by show (la : Int) + (m : Int) < _; omega, by show (0 : Int) ≤ id; omega, by show (id : Int) < _ - ((la : Int) + (m : Int)); omega⟩
      rw [ex] at TX
      rw [ey] at TY
      dsimp only at TX TY
      clear ex ey
      have v1 : IntKind.i64.wrap ((la : Int) + (m : Int) + (id : Int)) = (la : Int) + (m : Int) + (id : Int) := by rw [IntKind.wrap_i64]; omega
      have v2 : IntKind.i64.wrap ((la : Int) + (m : Int) + (id : Int) + 1) = (la : Int) + (m : Int) + (id : Int) + 1 := by rw [IntKind.wrap_i64]; omega
      have v3 : IntKind.i64.wrap ((la : Int) + (m : Int) + (id : Int) + 1 + (b : Int)) = (la : Int) + (m : Int) + (id : Int) + 1 + (b : Int) := by rw [IntKind.wrap_i64]; omega
      have v4 : IntKind.i64.wrap (b : Int) = (b : Int) := by rw [IntKind.wrap_i64]; omega
      go_cut [13, 14] (fun v13 v14 wx => ∃ X Y, v13 = .pointer (some ⟨X, 0, none⟩) ∧ v14 = .pointer (some ⟨Y, 0, none⟩) ∧ wx.heap[X]? = some (.cells #[.int .u64 pr, .int .u64 li, .int .u64 qu, .int .i64 id, .int .i64 1, .int .u64 un, .int .i64 ((la : Int) + (m : Int))] 24 (0, 0)) ∧ wx.heap[Y]? = some (.cells #[.int .u64 pr, .int .u64 li, .int .u64 qu, .int .i64 id, .int .i64 3, .int .u64 un, .int .i64 ((la : Int) + (m : Int))] 24 (0, 0)) ∧ OverS w Q C ⟨pr, li, qu, id, 1, un, ((la : Int) + (m : Int))⟩ a b wx)
      case first =>
        refine wp_region_held_drew (S := (OverS w Q C ⟨pr, li, qu, id, 1, un, ((la : Int) + (m : Int))⟩ a b)) (by kernel_rfl) (Q8.keep (Keeps.refl _ _).drew) (fun hHeld => ?_)
        clear Q8
        generalize World.drew _ = u0 at *
        refine wpAnyH_take (i := 0) (oi := Oper.mk _ _ _ _ _ _) (v := ?_) rfl (by kernel_rfl) (by kernel_rfl) (by kernel_rfl) (fun _ _ _ h => h) (Or.inl ⟨by rfl, ?_⟩) hHeld ?_
        rotate_left
        · (intro w hSw; (try dsimp only at hSw); (obtain ⟨e0, e1, e2, e3, e4, e5, e6⟩ := cells7 hSw.s; have e7 := (cell_of_heap (o := 1) hSw.f).trans rfl); (first | (go_simp; done) | (go_simp; with_reducible rfl)))
        try simp only [Act.put, List.setIfInBounds_toArray, List.set_cons_zero, List.set_cons_succ]
        refine wpAnyH_take (i := 1) (oi := Oper.mk _ _ _ _ _ _) (v := ?_) rfl (by kernel_rfl) (by kernel_rfl) (by kernel_rfl) (fun _ _ _ h => h) (Or.inl ⟨by rfl, ?_⟩) hHeld ?_
        rotate_left
        · (intro w hSw; (try dsimp only at hSw); (obtain ⟨e0, e1, e2, e3, e4, e5, e6⟩ := cells7 hSw.s; have e7 := (cell_of_heap (o := 1) hSw.f).trans rfl); (first | (go_simp; done) | (go_simp; with_reducible rfl)))
        try simp only [Act.put, List.setIfInBounds_toArray, List.set_cons_zero, List.set_cons_succ]
        refine wpAnyH_take (i := 2) (oi := Oper.mk _ _ _ _ _ _) (v := ?_) rfl (by kernel_rfl) (by kernel_rfl) (by kernel_rfl) (fun _ _ _ h => h) (Or.inl ⟨by rfl, ?_⟩) hHeld ?_
        rotate_left
        · (intro w hSw; (try dsimp only at hSw); (obtain ⟨e0, e1, e2, e3, e4, e5, e6⟩ := cells7 hSw.s; have e7 := (cell_of_heap (o := 1) hSw.f).trans rfl); (first | (go_simp; done) | (go_simp; with_reducible rfl)))
        try simp only [Act.put, List.setIfInBounds_toArray, List.set_cons_zero, List.set_cons_succ]
        refine wpAnyH_take (i := 3) (oi := Oper.mk _ _ _ _ _ _) (v := ?_) rfl (by kernel_rfl) (by kernel_rfl) (by kernel_rfl) (fun _ _ _ h => h) (Or.inl ⟨by rfl, ?_⟩) hHeld ?_
        rotate_left
        · (intro w hSw; (try dsimp only at hSw); (obtain ⟨e0, e1, e2, e3, e4, e5, e6⟩ := cells7 hSw.s; have e7 := (cell_of_heap (o := 1) hSw.f).trans rfl); (first | (go_simp; done) | (go_simp; with_reducible rfl)))
        try simp only [Act.put, List.setIfInBounds_toArray, List.set_cons_zero, List.set_cons_succ]
        refine wpAnyH_take (i := 4) (oi := Oper.mk _ _ _ _ _ _) (v := ?_) rfl (by kernel_rfl) (by kernel_rfl) (by kernel_rfl) (fun _ _ _ h => h) (Or.inl ⟨by rfl, ?_⟩) hHeld ?_
        rotate_left
        · (intro w hSw; (try dsimp only at hSw); (obtain ⟨e0, e1, e2, e3, e4, e5, e6⟩ := cells7 hSw.s; have e7 := (cell_of_heap (o := 1) hSw.f).trans rfl); (first | (go_simp; done) | (go_simp; with_reducible rfl)))
        try simp only [Act.put, List.setIfInBounds_toArray, List.set_cons_zero, List.set_cons_succ]
        refine wpAnyH_take (i := 5) (oi := Oper.mk _ _ _ _ _ _) (v := ?_) rfl (by kernel_rfl) (by kernel_rfl) (by kernel_rfl) (fun _ _ _ h => h) (Or.inl ⟨by rfl, ?_⟩) hHeld ?_
        rotate_left
        · (intro w hSw; (try dsimp only at hSw); (obtain ⟨e0, e1, e2, e3, e4, e5, e6⟩ := cells7 hSw.s; have e7 := (cell_of_heap (o := 1) hSw.f).trans rfl); (first | (go_simp; done) | (go_simp; with_reducible rfl)))
        try simp only [Act.put, List.setIfInBounds_toArray, List.set_cons_zero, List.set_cons_succ]
        refine wpAnyH_take (i := 7) (oi := Oper.mk _ _ _ _ _ _) (v := ?_) rfl (by kernel_rfl) (by kernel_rfl) (by kernel_rfl) (fun _ _ _ h => h) (Or.inl ⟨by rfl, ?_⟩) hHeld ?_
        rotate_left
        · (intro w hSw; (try dsimp only at hSw); (obtain ⟨e0, e1, e2, e3, e4, e5, e6⟩ := cells7 hSw.s; have e7 := (cell_of_heap (o := 1) hSw.f).trans rfl); (first | (go_simp; done) | (go_simp; with_reducible rfl)))
        try simp only [Act.put, List.setIfInBounds_toArray, List.set_cons_zero, List.set_cons_succ]
        refine wpAnyH_take (i := 8) (oi := Oper.mk _ _ _ _ _ _) (v := ?_) rfl (by kernel_rfl) (by kernel_rfl) (by kernel_rfl) (fun _ _ _ h => h) (Or.inl ⟨by rfl, ?_⟩) hHeld ?_
        rotate_left
        · (intro w hSw; (try dsimp only at hSw); (obtain ⟨e0, e1, e2, e3, e4, e5, e6⟩ := cells7 hSw.s; have e7 := (cell_of_heap (o := 1) hSw.f).trans rfl); (first | (go_simp; done) | (go_simp; with_reducible rfl)))
        try simp only [Act.put, List.setIfInBounds_toArray, List.set_cons_zero, List.set_cons_succ]
        refine wpAnyH_take (i := 9) (oi := Oper.mk _ _ _ _ _ _) (v := ?_) rfl (by kernel_rfl) (by kernel_rfl) (by kernel_rfl) (fun _ _ _ h => h) (Or.inl ⟨by rfl, ?_⟩) hHeld ?_
        rotate_left
        · (intro w hSw; (try dsimp only at hSw); (obtain ⟨e0, e1, e2, e3, e4, e5, e6⟩ := cells7 hSw.s; have e7 := (cell_of_heap (o := 1) hSw.f).trans rfl); (first | (go_simp; done) | (go_simp; with_reducible rfl)))
        try simp only [Act.put, List.setIfInBounds_toArray, List.set_cons_zero, List.set_cons_succ]
        refine wpAnyH_take (i := 10) (oi := Oper.mk _ _ _ _ _ _) (v := ?_) rfl (by kernel_rfl) (by kernel_rfl) (by kernel_rfl) (fun _ _ _ h => h) (Or.inl ⟨by rfl, ?_⟩) hHeld ?_
        rotate_left
        · (intro w hSw; (try dsimp only at hSw); (obtain ⟨e0, e1, e2, e3, e4, e5, e6⟩ := cells7 hSw.s; have e7 := (cell_of_heap (o := 1) hSw.f).trans rfl); (first | (go_simp; done) | (go_simp; with_reducible rfl)))
        try simp only [Act.put, List.setIfInBounds_toArray, List.set_cons_zero, List.set_cons_succ]
        refine wpAnyH_take (i := 11) (oi := Oper.mk _ _ _ _ _ _) (v := ?_) rfl (by kernel_rfl) (by kernel_rfl) (by kernel_rfl) (fun _ _ _ h => h) (Or.inl ⟨by rfl, ?_⟩) hHeld ?_
        rotate_left
        · (intro w hSw; (try dsimp only at hSw); (obtain ⟨e0, e1, e2, e3, e4, e5, e6⟩ := cells7 hSw.s; have e7 := (cell_of_heap (o := 1) hSw.f).trans rfl); (first | (go_simp; done) | (go_simp; with_reducible rfl)))
        try simp only [Act.put, List.setIfInBounds_toArray, List.set_cons_zero, List.set_cons_succ]
        refine wpAnyH_take (i := 12) (oi := Oper.mk _ _ _ _ _ _) (v := ?_) rfl (by kernel_rfl) (by kernel_rfl) (by kernel_rfl) (fun _ _ _ h => h) (Or.inl ⟨by rfl, ?_⟩) hHeld ?_
        rotate_left
        · (intro w hSw; (try dsimp only at hSw); (obtain ⟨e0, e1, e2, e3, e4, e5, e6⟩ := cells7 hSw.s; have e7 := (cell_of_heap (o := 1) hSw.f).trans rfl); (first | (go_simp; done) | (go_simp; with_reducible rfl)))
        try simp only [Act.put, List.setIfInBounds_toArray, List.set_cons_zero, List.set_cons_succ]
        refine wpAnyH_take (i := 13) (oi := Oper.mk _ _ _ _ _ _) (v := ?_) rfl (by kernel_rfl) (by kernel_rfl) (by kernel_rfl) (fun _ _ _ h => h) (Or.inl ⟨by rfl, ?_⟩) hHeld ?_
        rotate_left
        · (intro w hSw; (try dsimp only at hSw); (obtain ⟨e0, e1, e2, e3, e4, e5, e6⟩ := cells7 hSw.s; have e7 := (cell_of_heap (o := 1) hSw.f).trans rfl); (first | (go_simp; done) | (go_simp; with_reducible rfl)))
        try simp only [Act.put, List.setIfInBounds_toArray, List.set_cons_zero, List.set_cons_succ]
        refine wpAnyH_take (i := 14) (oi := Oper.mk _ _ _ _ _ _) (v := ?_) rfl (by kernel_rfl) (by kernel_rfl) (by kernel_rfl) (fun _ _ _ h => h) (Or.inl ⟨by rfl, ?_⟩) hHeld ?_
        rotate_left
        · (intro w hSw; (try dsimp only at hSw); (obtain ⟨e0, e1, e2, e3, e4, e5, e6⟩ := cells7 hSw.s; have e7 := (cell_of_heap (o := 1) hSw.f).trans rfl); (first | (go_simp; done) | (go_simp; with_reducible rfl)))
        try simp only [Act.put, List.setIfInBounds_toArray, List.set_cons_zero, List.set_cons_succ]
        refine wpAnyH_take (i := 15) (oi := Oper.mk _ _ _ _ _ _) (v := ?_) rfl (by kernel_rfl) (by kernel_rfl) (by kernel_rfl) (fun _ _ _ h => h) (Or.inl ⟨by rfl, ?_⟩) hHeld ?_
        rotate_left
        · (intro w hSw; (try dsimp only at hSw); (obtain ⟨e0, e1, e2, e3, e4, e5, e6⟩ := cells7 hSw.s; have e7 := (cell_of_heap (o := 1) hSw.f).trans rfl); (first | (go_simp; done) | (go_simp; with_reducible rfl)))
        try simp only [Act.put, List.setIfInBounds_toArray, List.set_cons_zero, List.set_cons_succ]
        refine wpAnyH_take (i := 16) (oi := Oper.mk _ _ _ _ _ _) (v := ?_) rfl (by kernel_rfl) (by kernel_rfl) (by kernel_rfl) (fun _ _ _ h => h) (Or.inl ⟨by rfl, ?_⟩) hHeld ?_
        rotate_left
        · (intro w hSw; (try dsimp only at hSw); (obtain ⟨e0, e1, e2, e3, e4, e5, e6⟩ := cells7 hSw.s; have e7 := (cell_of_heap (o := 1) hSw.f).trans rfl); (first | (go_simp; done) | (go_simp; with_reducible rfl)))
        try simp only [Act.put, List.setIfInBounds_toArray, List.set_cons_zero, List.set_cons_succ]
        refine wpAnyH_take (i := 17) (oi := Oper.mk _ _ _ _ _ _) (v := ?_) rfl (by kernel_rfl) (by kernel_rfl) (by kernel_rfl) (fun _ _ _ h => h) (Or.inl ⟨by rfl, ?_⟩) hHeld ?_
        rotate_left
        · (intro w hSw; (try dsimp only at hSw); (obtain ⟨e0, e1, e2, e3, e4, e5, e6⟩ := cells7 hSw.s; have e7 := (cell_of_heap (o := 1) hSw.f).trans rfl); (first | (go_simp; done) | (go_simp; with_reducible rfl)))
        try simp only [Act.put, List.setIfInBounds_toArray, List.set_cons_zero, List.set_cons_succ]
        refine wpAnyH_ready (rs := [6, 19, 20]) (by kernel_rfl) (by simp) ?_
        refine AllReadyH.cons (o := Oper.mk _ _ _ _ _ _) rfl (fun K hK => ?_) (AllReadyH.cons (o := Oper.mk _ _ _ _ _ _) rfl (fun K hK => ?_) (AllReadyH.cons (o := Oper.mk _ _ _ _ _ _) rfl (fun K hK => ?_) (AllReadyH.nil)))
        · (go_simp; refine (TX _).mono ?_; rintro e u1 ⟨rfl, k⟩)
          refine hK.out _ _ (hHeld.keep k) (fun hNew => ?_)
          clear hHeld hK
          have hHeld := hNew
          clear hNew
          try simp only [Act.put, List.setIfInBounds_toArray, List.set_cons_zero, List.set_cons_succ]
          clear k
          refine wpAnyH_ready (rs := [18, 19, 20]) (by kernel_rfl) (by simp) ?_
          refine AllReadyH.cons (o := Oper.mk _ _ _ _ _ _) rfl (fun K hK => ?_) (AllReadyH.cons (o := Oper.mk _ _ _ _ _ _) rfl (fun K hK => ?_) (AllReadyH.cons (o := Oper.mk _ _ _ _ _ _) rfl (fun K hK => ?_) (AllReadyH.nil)))
          · (go_simp; refine (TY _).mono ?_; rintro e u2 ⟨rfl, k⟩)
            refine hK.out _ _ (hHeld.keep k) (fun hNew => ?_)
            clear hHeld hK
            have hHeld := hNew
            clear hNew
            try simp only [Act.put, List.setIfInBounds_toArray, List.set_cons_zero, List.set_cons_succ]
            clear k
            refine wpAnyH_ready (rs := [19, 20]) (by kernel_rfl) (by simp) ?_
            refine AllReadyH.cons (o := Oper.mk _ _ _ _ _ _) rfl (fun K hK => ?_) (AllReadyH.cons (o := Oper.mk _ _ _ _ _ _) rfl (fun K hK => ?_) (AllReadyH.nil))
            · have hl19 := hHeld.lt
              go_simp
              refine hK.out _ _ (hHeld.keep (keeps_alloc _ _)) (fun hNew => ?_)
              clear hHeld hK
              have hHeld := hNew
              clear hNew
              try simp only [Act.put, List.setIfInBounds_toArray, List.set_cons_zero, List.set_cons_succ]
              have hz19 := heap_alloc_same (w := u2) (o := .cells #[.int .u64 0, .int .u64 0, .int .u64 0, .int .i64 0, .int .i64 0, .int .u64 0, .int .i64 0] 24)
              generalize u2.alloc (.cells #[.int .u64 0, .int .u64 0, .int .u64 0, .int .i64 0, .int .i64 0, .int .u64 0, .int .i64 0] 24) = u3 at *
              generalize u2.heap.size = R19 at *
              refine wpAnyH_ready (rs := [20]) (by kernel_rfl) (by simp) ?_
              refine AllReadyH.cons (o := Oper.mk _ _ _ _ _ _) rfl (fun K hK => ?_) (AllReadyH.nil)
              · have hl20 := hHeld.lt
                have hne := lt_of_heap hz19
                go_simp
                refine hK.out _ _ (hHeld.keep (keeps_alloc _ _)) (fun hNew => ?_)
                clear hHeld hK
                have hHeld := hNew
                clear hNew
                try simp only [Act.put, List.setIfInBounds_toArray, List.set_cons_zero, List.set_cons_succ]
                have hz20 := heap_alloc_same (w := u3) (o := .cells #[.int .u64 0, .int .u64 0, .int .u64 0, .int .i64 0, .int .i64 0, .int .u64 0, .int .i64 0] 24)
                replace hz19 := (keeps_alloc u3 (.cells #[.int .u64 0, .int .u64 0, .int .u64 0, .int .i64 0, .int .i64 0, .int .u64 0, .int .i64 0] 24)).heap (by simp) hz19
                generalize u3.alloc (.cells #[.int .u64 0, .int .u64 0, .int .u64 0, .int .i64 0, .int .i64 0, .int .u64 0, .int .i64 0] 24) = u4 at *
                generalize u3.heap.size = R20 at *
                obtain ⟨p1, hp1, h1, o1, K1⟩ := sess_stored hz19 hHeld.k hl19.2.2 (.int .u64 pr) (.int .u64 li) (.int .u64 qu) (.int .i64 id) (.int .i64 1) (.int .u64 un) (.int .i64 ((la : Int) + (m : Int)))
                replace hz20 := (o1 R20 (by omega)).trans hz20
                have q1 : OverS w Q C ⟨pr, li, qu, id, 1, un, ((la : Int) + (m : Int))⟩ a b p1 := ⟨(o1 Q (by omega)).trans hHeld.s, (o1 C (by omega)).trans hHeld.f, K1⟩
                have f1 := fun i => frozen_of_heap (o := i) hz19
                obtain ⟨z0, z1, z2, z3, z4, z5, z6⟩ := cells7 hz19
                refine wpAnyH_ready (rs := [21]) (by kernel_rfl) (by simp) ?_
                refine AllReadyH.cons (o := Oper.mk _ _ _ _ _ _) rfl (fun K hK => ?_) AllReadyH.nil
                go_simp
                rw [← hp1]
                refine hK.out _ _ (q1) (fun hNew => ?_)
                clear hHeld hK
                have hHeld := hNew
                clear hNew
                try simp only [Act.put, List.setIfInBounds_toArray, List.set_cons_zero, List.set_cons_succ]
                clear hp1 z0 z1 z2 z3 z4 z5 z6 f1 hz19 q1
                obtain ⟨p2, hp2, h2, o2, K2⟩ := sess_stored hz20 hHeld.k hl20.2.2 (.int .u64 pr) (.int .u64 li) (.int .u64 qu) (.int .i64 id) (.int .i64 3) (.int .u64 un) (.int .i64 ((la : Int) + (m : Int)))
                replace h1 := (o2 R19 (by omega)).trans h1
                have q2 : OverS w Q C ⟨pr, li, qu, id, 1, un, ((la : Int) + (m : Int))⟩ a b p2 := ⟨(o2 Q (by omega)).trans hHeld.s, (o2 C (by omega)).trans hHeld.f, K2⟩
                have f2 := fun i => frozen_of_heap (o := i) hz20
                obtain ⟨z0, z1, z2, z3, z4, z5, z6⟩ := cells7 hz20
                refine wpAnyH_ready (rs := [22]) (by kernel_rfl) (by simp) ?_
                refine AllReadyH.cons (o := Oper.mk _ _ _ _ _ _) rfl (fun K hK => ?_) AllReadyH.nil
                go_simp
                rw [← hp2]
                refine hK.out _ _ (q2) (fun hNew => ?_)
                clear hHeld hK
                have hHeld := hNew
                clear hNew
                try simp only [Act.put, List.setIfInBounds_toArray, List.set_cons_zero, List.set_cons_succ]
                refine wpAnyH_done (by kernel_rfl) ?_ _
                go_wp2_with fail
                go_meet
                case rel => exact ⟨R19, R20, rfl, rfl, h1, h2, hHeld⟩
            · have hl20 := hHeld.lt
              go_simp
              refine hK.out _ _ (hHeld.keep (keeps_alloc _ _)) (fun hNew => ?_)
              clear hHeld hK
              have hHeld := hNew
              clear hNew
              try simp only [Act.put, List.setIfInBounds_toArray, List.set_cons_zero, List.set_cons_succ]
              have hz20 := heap_alloc_same (w := u2) (o := .cells #[.int .u64 0, .int .u64 0, .int .u64 0, .int .i64 0, .int .i64 0, .int .u64 0, .int .i64 0] 24)
              generalize u2.alloc (.cells #[.int .u64 0, .int .u64 0, .int .u64 0, .int .i64 0, .int .i64 0, .int .u64 0, .int .i64 0] 24) = u3 at *
              generalize u2.heap.size = R20 at *
              refine wpAnyH_ready (rs := [19]) (by kernel_rfl) (by simp) ?_
              refine AllReadyH.cons (o := Oper.mk _ _ _ _ _ _) rfl (fun K hK => ?_) (AllReadyH.nil)
              · have hl19 := hHeld.lt
                have hne := lt_of_heap hz20
                go_simp
                refine hK.out _ _ (hHeld.keep (keeps_alloc _ _)) (fun hNew => ?_)
                clear hHeld hK
                have hHeld := hNew
                clear hNew
                try simp only [Act.put, List.setIfInBounds_toArray, List.set_cons_zero, List.set_cons_succ]
                have hz19 := heap_alloc_same (w := u3) (o := .cells #[.int .u64 0, .int .u64 0, .int .u64 0, .int .i64 0, .int .i64 0, .int .u64 0, .int .i64 0] 24)
                replace hz20 := (keeps_alloc u3 (.cells #[.int .u64 0, .int .u64 0, .int .u64 0, .int .i64 0, .int .i64 0, .int .u64 0, .int .i64 0] 24)).heap (by simp) hz20
                generalize u3.alloc (.cells #[.int .u64 0, .int .u64 0, .int .u64 0, .int .i64 0, .int .i64 0, .int .u64 0, .int .i64 0] 24) = u4 at *
                generalize u3.heap.size = R19 at *
                obtain ⟨p1, hp1, h1, o1, K1⟩ := sess_stored hz19 hHeld.k hl19.2.2 (.int .u64 pr) (.int .u64 li) (.int .u64 qu) (.int .i64 id) (.int .i64 1) (.int .u64 un) (.int .i64 ((la : Int) + (m : Int)))
                replace hz20 := (o1 R20 (by omega)).trans hz20
                have q1 : OverS w Q C ⟨pr, li, qu, id, 1, un, ((la : Int) + (m : Int))⟩ a b p1 := ⟨(o1 Q (by omega)).trans hHeld.s, (o1 C (by omega)).trans hHeld.f, K1⟩
                have f1 := fun i => frozen_of_heap (o := i) hz19
                obtain ⟨z0, z1, z2, z3, z4, z5, z6⟩ := cells7 hz19
                refine wpAnyH_ready (rs := [21]) (by kernel_rfl) (by simp) ?_
                refine AllReadyH.cons (o := Oper.mk _ _ _ _ _ _) rfl (fun K hK => ?_) AllReadyH.nil
                go_simp
                rw [← hp1]
                refine hK.out _ _ (q1) (fun hNew => ?_)
                clear hHeld hK
                have hHeld := hNew
                clear hNew
                try simp only [Act.put, List.setIfInBounds_toArray, List.set_cons_zero, List.set_cons_succ]
                clear hp1 z0 z1 z2 z3 z4 z5 z6 f1 hz19 q1
                obtain ⟨p2, hp2, h2, o2, K2⟩ := sess_stored hz20 hHeld.k hl20.2.2 (.int .u64 pr) (.int .u64 li) (.int .u64 qu) (.int .i64 id) (.int .i64 3) (.int .u64 un) (.int .i64 ((la : Int) + (m : Int)))
                replace h1 := (o2 R19 (by omega)).trans h1
                have q2 : OverS w Q C ⟨pr, li, qu, id, 1, un, ((la : Int) + (m : Int))⟩ a b p2 := ⟨(o2 Q (by omega)).trans hHeld.s, (o2 C (by omega)).trans hHeld.f, K2⟩
                have f2 := fun i => frozen_of_heap (o := i) hz20
                obtain ⟨z0, z1, z2, z3, z4, z5, z6⟩ := cells7 hz20
                refine wpAnyH_ready (rs := [22]) (by kernel_rfl) (by simp) ?_
                refine AllReadyH.cons (o := Oper.mk _ _ _ _ _ _) rfl (fun K hK => ?_) AllReadyH.nil
                go_simp
                rw [← hp2]
                refine hK.out _ _ (q2) (fun hNew => ?_)
                clear hHeld hK
                have hHeld := hNew
                clear hNew
                try simp only [Act.put, List.setIfInBounds_toArray, List.set_cons_zero, List.set_cons_succ]
                refine wpAnyH_done (by kernel_rfl) ?_ _
                go_wp2_with fail
                go_meet
                case rel => exact ⟨R19, R20, rfl, rfl, h1, h2, hHeld⟩
          · have hl19 := hHeld.lt
            go_simp
            refine hK.out _ _ (hHeld.keep (keeps_alloc _ _)) (fun hNew => ?_)
            clear hHeld hK
            have hHeld := hNew
            clear hNew
            try simp only [Act.put, List.setIfInBounds_toArray, List.set_cons_zero, List.set_cons_succ]
            have hz19 := heap_alloc_same (w := u1) (o := .cells #[.int .u64 0, .int .u64 0, .int .u64 0, .int .i64 0, .int .i64 0, .int .u64 0, .int .i64 0] 24)
            generalize u1.alloc (.cells #[.int .u64 0, .int .u64 0, .int .u64 0, .int .i64 0, .int .i64 0, .int .u64 0, .int .i64 0] 24) = u2 at *
            generalize u1.heap.size = R19 at *
            refine wpAnyH_ready (rs := [18, 20]) (by kernel_rfl) (by simp) ?_
            refine AllReadyH.cons (o := Oper.mk _ _ _ _ _ _) rfl (fun K hK => ?_) (AllReadyH.cons (o := Oper.mk _ _ _ _ _ _) rfl (fun K hK => ?_) (AllReadyH.nil))
            · (go_simp; refine (TY _).mono ?_; rintro e u3 ⟨rfl, k⟩)
              refine hK.out _ _ (hHeld.keep k) (fun hNew => ?_)
              clear hHeld hK
              have hHeld := hNew
              clear hNew
              try simp only [Act.put, List.setIfInBounds_toArray, List.set_cons_zero, List.set_cons_succ]
              replace hz19 := k.heap (by simp) hz19
              clear k
              refine wpAnyH_ready (rs := [20]) (by kernel_rfl) (by simp) ?_
              refine AllReadyH.cons (o := Oper.mk _ _ _ _ _ _) rfl (fun K hK => ?_) (AllReadyH.nil)
              · have hl20 := hHeld.lt
                have hne := lt_of_heap hz19
                go_simp
                refine hK.out _ _ (hHeld.keep (keeps_alloc _ _)) (fun hNew => ?_)
                clear hHeld hK
                have hHeld := hNew
                clear hNew
                try simp only [Act.put, List.setIfInBounds_toArray, List.set_cons_zero, List.set_cons_succ]
                have hz20 := heap_alloc_same (w := u3) (o := .cells #[.int .u64 0, .int .u64 0, .int .u64 0, .int .i64 0, .int .i64 0, .int .u64 0, .int .i64 0] 24)
                replace hz19 := (keeps_alloc u3 (.cells #[.int .u64 0, .int .u64 0, .int .u64 0, .int .i64 0, .int .i64 0, .int .u64 0, .int .i64 0] 24)).heap (by simp) hz19
                generalize u3.alloc (.cells #[.int .u64 0, .int .u64 0, .int .u64 0, .int .i64 0, .int .i64 0, .int .u64 0, .int .i64 0] 24) = u4 at *
                generalize u3.heap.size = R20 at *
                obtain ⟨p1, hp1, h1, o1, K1⟩ := sess_stored hz19 hHeld.k hl19.2.2 (.int .u64 pr) (.int .u64 li) (.int .u64 qu) (.int .i64 id) (.int .i64 1) (.int .u64 un) (.int .i64 ((la : Int) + (m : Int)))
                replace hz20 := (o1 R20 (by omega)).trans hz20
                have q1 : OverS w Q C ⟨pr, li, qu, id, 1, un, ((la : Int) + (m : Int))⟩ a b p1 := ⟨(o1 Q (by omega)).trans hHeld.s, (o1 C (by omega)).trans hHeld.f, K1⟩
                have f1 := fun i => frozen_of_heap (o := i) hz19
                obtain ⟨z0, z1, z2, z3, z4, z5, z6⟩ := cells7 hz19
                refine wpAnyH_ready (rs := [21]) (by kernel_rfl) (by simp) ?_
                refine AllReadyH.cons (o := Oper.mk _ _ _ _ _ _) rfl (fun K hK => ?_) AllReadyH.nil
                go_simp
                rw [← hp1]
                refine hK.out _ _ (q1) (fun hNew => ?_)
                clear hHeld hK
                have hHeld := hNew
                clear hNew
                try simp only [Act.put, List.setIfInBounds_toArray, List.set_cons_zero, List.set_cons_succ]
                clear hp1 z0 z1 z2 z3 z4 z5 z6 f1 hz19 q1
                obtain ⟨p2, hp2, h2, o2, K2⟩ := sess_stored hz20 hHeld.k hl20.2.2 (.int .u64 pr) (.int .u64 li) (.int .u64 qu) (.int .i64 id) (.int .i64 3) (.int .u64 un) (.int .i64 ((la : Int) + (m : Int)))
                replace h1 := (o2 R19 (by omega)).trans h1
                have q2 : OverS w Q C ⟨pr, li, qu, id, 1, un, ((la : Int) + (m : Int))⟩ a b p2 := ⟨(o2 Q (by omega)).trans hHeld.s, (o2 C (by omega)).trans hHeld.f, K2⟩
                have f2 := fun i => frozen_of_heap (o := i) hz20
                obtain ⟨z0, z1, z2, z3, z4, z5, z6⟩ := cells7 hz20
                refine wpAnyH_ready (rs := [22]) (by kernel_rfl) (by simp) ?_
                refine AllReadyH.cons (o := Oper.mk _ _ _ _ _ _) rfl (fun K hK => ?_) AllReadyH.nil
                go_simp
                rw [← hp2]
                refine hK.out _ _ (q2) (fun hNew => ?_)
                clear hHeld hK
                have hHeld := hNew
                clear hNew
                try simp only [Act.put, List.setIfInBounds_toArray, List.set_cons_zero, List.set_cons_succ]
                refine wpAnyH_done (by kernel_rfl) ?_ _
                go_wp2_with fail
                go_meet
                case rel => exact ⟨R19, R20, rfl, rfl, h1, h2, hHeld⟩
            · have hl20 := hHeld.lt
              have hne := lt_of_heap hz19
              go_simp
              refine hK.out _ _ (hHeld.keep (keeps_alloc _ _)) (fun hNew => ?_)
              clear hHeld hK
              have hHeld := hNew
              clear hNew
              try simp only [Act.put, List.setIfInBounds_toArray, List.set_cons_zero, List.set_cons_succ]
              have hz20 := heap_alloc_same (w := u2) (o := .cells #[.int .u64 0, .int .u64 0, .int .u64 0, .int .i64 0, .int .i64 0, .int .u64 0, .int .i64 0] 24)
              replace hz19 := (keeps_alloc u2 (.cells #[.int .u64 0, .int .u64 0, .int .u64 0, .int .i64 0, .int .i64 0, .int .u64 0, .int .i64 0] 24)).heap (by simp) hz19
              generalize u2.alloc (.cells #[.int .u64 0, .int .u64 0, .int .u64 0, .int .i64 0, .int .i64 0, .int .u64 0, .int .i64 0] 24) = u3 at *
              generalize u2.heap.size = R20 at *
              refine wpAnyH_ready (rs := [18]) (by kernel_rfl) (by simp) ?_
              refine AllReadyH.cons (o := Oper.mk _ _ _ _ _ _) rfl (fun K hK => ?_) (AllReadyH.nil)
              · (go_simp; refine (TY _).mono ?_; rintro e u4 ⟨rfl, k⟩)
                refine hK.out _ _ (hHeld.keep k) (fun hNew => ?_)
                clear hHeld hK
                have hHeld := hNew
                clear hNew
                try simp only [Act.put, List.setIfInBounds_toArray, List.set_cons_zero, List.set_cons_succ]
                replace hz19 := k.heap (by simp) hz19
                replace hz20 := k.heap (by simp) hz20
                clear k
                obtain ⟨p1, hp1, h1, o1, K1⟩ := sess_stored hz19 hHeld.k hl19.2.2 (.int .u64 pr) (.int .u64 li) (.int .u64 qu) (.int .i64 id) (.int .i64 1) (.int .u64 un) (.int .i64 ((la : Int) + (m : Int)))
                replace hz20 := (o1 R20 (by omega)).trans hz20
                have q1 : OverS w Q C ⟨pr, li, qu, id, 1, un, ((la : Int) + (m : Int))⟩ a b p1 := ⟨(o1 Q (by omega)).trans hHeld.s, (o1 C (by omega)).trans hHeld.f, K1⟩
                have f1 := fun i => frozen_of_heap (o := i) hz19
                obtain ⟨z0, z1, z2, z3, z4, z5, z6⟩ := cells7 hz19
                refine wpAnyH_ready (rs := [21]) (by kernel_rfl) (by simp) ?_
                refine AllReadyH.cons (o := Oper.mk _ _ _ _ _ _) rfl (fun K hK => ?_) AllReadyH.nil
                go_simp
                rw [← hp1]
                refine hK.out _ _ (q1) (fun hNew => ?_)
                clear hHeld hK
                have hHeld := hNew
                clear hNew
                try simp only [Act.put, List.setIfInBounds_toArray, List.set_cons_zero, List.set_cons_succ]
                clear hp1 z0 z1 z2 z3 z4 z5 z6 f1 hz19 q1
                obtain ⟨p2, hp2, h2, o2, K2⟩ := sess_stored hz20 hHeld.k hl20.2.2 (.int .u64 pr) (.int .u64 li) (.int .u64 qu) (.int .i64 id) (.int .i64 3) (.int .u64 un) (.int .i64 ((la : Int) + (m : Int)))
                replace h1 := (o2 R19 (by omega)).trans h1
                have q2 : OverS w Q C ⟨pr, li, qu, id, 1, un, ((la : Int) + (m : Int))⟩ a b p2 := ⟨(o2 Q (by omega)).trans hHeld.s, (o2 C (by omega)).trans hHeld.f, K2⟩
                have f2 := fun i => frozen_of_heap (o := i) hz20
                obtain ⟨z0, z1, z2, z3, z4, z5, z6⟩ := cells7 hz20
                refine wpAnyH_ready (rs := [22]) (by kernel_rfl) (by simp) ?_
                refine AllReadyH.cons (o := Oper.mk _ _ _ _ _ _) rfl (fun K hK => ?_) AllReadyH.nil
                go_simp
                rw [← hp2]
                refine hK.out _ _ (q2) (fun hNew => ?_)
                clear hHeld hK
                have hHeld := hNew
                clear hNew
                try simp only [Act.put, List.setIfInBounds_toArray, List.set_cons_zero, List.set_cons_succ]
                refine wpAnyH_done (by kernel_rfl) ?_ _
                go_wp2_with fail
                go_meet
                case rel => exact ⟨R19, R20, rfl, rfl, h1, h2, hHeld⟩
          · have hl20 := hHeld.lt
            go_simp
            refine hK.out _ _ (hHeld.keep (keeps_alloc _ _)) (fun hNew => ?_)
            clear hHeld hK
            have hHeld := hNew
            clear hNew
            try simp only [Act.put, List.setIfInBounds_toArray, List.set_cons_zero, List.set_cons_succ]
            have hz20 := heap_alloc_same (w := u1) (o := .cells #[.int .u64 0, .int .u64 0, .int .u64 0, .int .i64 0, .int .i64 0, .int .u64 0, .int .i64 0] 24)
            generalize u1.alloc (.cells #[.int .u64 0, .int .u64 0, .int .u64 0, .int .i64 0, .int .i64 0, .int .u64 0, .int .i64 0] 24) = u2 at *
            generalize u1.heap.size = R20 at *
            refine wpAnyH_ready (rs := [18, 19]) (by kernel_rfl) (by simp) ?_
            refine AllReadyH.cons (o := Oper.mk _ _ _ _ _ _) rfl (fun K hK => ?_) (AllReadyH.cons (o := Oper.mk _ _ _ _ _ _) rfl (fun K hK => ?_) (AllReadyH.nil))
            · (go_simp; refine (TY _).mono ?_; rintro e u3 ⟨rfl, k⟩)
              refine hK.out _ _ (hHeld.keep k) (fun hNew => ?_)
              clear hHeld hK
              have hHeld := hNew
              clear hNew
              try simp only [Act.put, List.setIfInBounds_toArray, List.set_cons_zero, List.set_cons_succ]
              replace hz20 := k.heap (by simp) hz20
              clear k
              refine wpAnyH_ready (rs := [19]) (by kernel_rfl) (by simp) ?_
              refine AllReadyH.cons (o := Oper.mk _ _ _ _ _ _) rfl (fun K hK => ?_) (AllReadyH.nil)
              · have hl19 := hHeld.lt
                have hne := lt_of_heap hz20
                go_simp
                refine hK.out _ _ (hHeld.keep (keeps_alloc _ _)) (fun hNew => ?_)
                clear hHeld hK
                have hHeld := hNew
                clear hNew
                try simp only [Act.put, List.setIfInBounds_toArray, List.set_cons_zero, List.set_cons_succ]
                have hz19 := heap_alloc_same (w := u3) (o := .cells #[.int .u64 0, .int .u64 0, .int .u64 0, .int .i64 0, .int .i64 0, .int .u64 0, .int .i64 0] 24)
                replace hz20 := (keeps_alloc u3 (.cells #[.int .u64 0, .int .u64 0, .int .u64 0, .int .i64 0, .int .i64 0, .int .u64 0, .int .i64 0] 24)).heap (by simp) hz20
                generalize u3.alloc (.cells #[.int .u64 0, .int .u64 0, .int .u64 0, .int .i64 0, .int .i64 0, .int .u64 0, .int .i64 0] 24) = u4 at *
                generalize u3.heap.size = R19 at *
                obtain ⟨p1, hp1, h1, o1, K1⟩ := sess_stored hz19 hHeld.k hl19.2.2 (.int .u64 pr) (.int .u64 li) (.int .u64 qu) (.int .i64 id) (.int .i64 1) (.int .u64 un) (.int .i64 ((la : Int) + (m : Int)))
                replace hz20 := (o1 R20 (by omega)).trans hz20
                have q1 : OverS w Q C ⟨pr, li, qu, id, 1, un, ((la : Int) + (m : Int))⟩ a b p1 := ⟨(o1 Q (by omega)).trans hHeld.s, (o1 C (by omega)).trans hHeld.f, K1⟩
                have f1 := fun i => frozen_of_heap (o := i) hz19
                obtain ⟨z0, z1, z2, z3, z4, z5, z6⟩ := cells7 hz19
                refine wpAnyH_ready (rs := [21]) (by kernel_rfl) (by simp) ?_
                refine AllReadyH.cons (o := Oper.mk _ _ _ _ _ _) rfl (fun K hK => ?_) AllReadyH.nil
                go_simp
                rw [← hp1]
                refine hK.out _ _ (q1) (fun hNew => ?_)
                clear hHeld hK
                have hHeld := hNew
                clear hNew
                try simp only [Act.put, List.setIfInBounds_toArray, List.set_cons_zero, List.set_cons_succ]
                clear hp1 z0 z1 z2 z3 z4 z5 z6 f1 hz19 q1
                obtain ⟨p2, hp2, h2, o2, K2⟩ := sess_stored hz20 hHeld.k hl20.2.2 (.int .u64 pr) (.int .u64 li) (.int .u64 qu) (.int .i64 id) (.int .i64 3) (.int .u64 un) (.int .i64 ((la : Int) + (m : Int)))
                replace h1 := (o2 R19 (by omega)).trans h1
                have q2 : OverS w Q C ⟨pr, li, qu, id, 1, un, ((la : Int) + (m : Int))⟩ a b p2 := ⟨(o2 Q (by omega)).trans hHeld.s, (o2 C (by omega)).trans hHeld.f, K2⟩
                have f2 := fun i => frozen_of_heap (o := i) hz20
                obtain ⟨z0, z1, z2, z3, z4, z5, z6⟩ := cells7 hz20
                refine wpAnyH_ready (rs := [22]) (by kernel_rfl) (by simp) ?_
                refine AllReadyH.cons (o := Oper.mk _ _ _ _ _ _) rfl (fun K hK => ?_) AllReadyH.nil
                go_simp
                rw [← hp2]
                refine hK.out _ _ (q2) (fun hNew => ?_)
                clear hHeld hK
                have hHeld := hNew
                clear hNew
                try simp only [Act.put, List.setIfInBounds_toArray, List.set_cons_zero, List.set_cons_succ]
                refine wpAnyH_done (by kernel_rfl) ?_ _
                go_wp2_with fail
                go_meet
                case rel => exact ⟨R19, R20, rfl, rfl, h1, h2, hHeld⟩
            · have hl19 := hHeld.lt
              have hne := lt_of_heap hz20
              go_simp
              refine hK.out _ _ (hHeld.keep (keeps_alloc _ _)) (fun hNew => ?_)
              clear hHeld hK
              have hHeld := hNew
              clear hNew
              try simp only [Act.put, List.setIfInBounds_toArray, List.set_cons_zero, List.set_cons_succ]
              have hz19 := heap_alloc_same (w := u2) (o := .cells #[.int .u64 0, .int .u64 0, .int .u64 0, .int .i64 0, .int .i64 0, .int .u64 0, .int .i64 0] 24)
              replace hz20 := (keeps_alloc u2 (.cells #[.int .u64 0, .int .u64 0, .int .u64 0, .int .i64 0, .int .i64 0, .int .u64 0, .int .i64 0] 24)).heap (by simp) hz20
              generalize u2.alloc (.cells #[.int .u64 0, .int .u64 0, .int .u64 0, .int .i64 0, .int .i64 0, .int .u64 0, .int .i64 0] 24) = u3 at *
              generalize u2.heap.size = R19 at *
              refine wpAnyH_ready (rs := [18]) (by kernel_rfl) (by simp) ?_
              refine AllReadyH.cons (o := Oper.mk _ _ _ _ _ _) rfl (fun K hK => ?_) (AllReadyH.nil)
              · (go_simp; refine (TY _).mono ?_; rintro e u4 ⟨rfl, k⟩)
                refine hK.out _ _ (hHeld.keep k) (fun hNew => ?_)
                clear hHeld hK
                have hHeld := hNew
                clear hNew
                try simp only [Act.put, List.setIfInBounds_toArray, List.set_cons_zero, List.set_cons_succ]
                replace hz19 := k.heap (by simp) hz19
                replace hz20 := k.heap (by simp) hz20
                clear k
                obtain ⟨p1, hp1, h1, o1, K1⟩ := sess_stored hz19 hHeld.k hl19.2.2 (.int .u64 pr) (.int .u64 li) (.int .u64 qu) (.int .i64 id) (.int .i64 1) (.int .u64 un) (.int .i64 ((la : Int) + (m : Int)))
                replace hz20 := (o1 R20 (by omega)).trans hz20
                have q1 : OverS w Q C ⟨pr, li, qu, id, 1, un, ((la : Int) + (m : Int))⟩ a b p1 := ⟨(o1 Q (by omega)).trans hHeld.s, (o1 C (by omega)).trans hHeld.f, K1⟩
                have f1 := fun i => frozen_of_heap (o := i) hz19
                obtain ⟨z0, z1, z2, z3, z4, z5, z6⟩ := cells7 hz19
                refine wpAnyH_ready (rs := [21]) (by kernel_rfl) (by simp) ?_
                refine AllReadyH.cons (o := Oper.mk _ _ _ _ _ _) rfl (fun K hK => ?_) AllReadyH.nil
                go_simp
                rw [← hp1]
                refine hK.out _ _ (q1) (fun hNew => ?_)
                clear hHeld hK
                have hHeld := hNew
                clear hNew
                try simp only [Act.put, List.setIfInBounds_toArray, List.set_cons_zero, List.set_cons_succ]
                clear hp1 z0 z1 z2 z3 z4 z5 z6 f1 hz19 q1
                obtain ⟨p2, hp2, h2, o2, K2⟩ := sess_stored hz20 hHeld.k hl20.2.2 (.int .u64 pr) (.int .u64 li) (.int .u64 qu) (.int .i64 id) (.int .i64 3) (.int .u64 un) (.int .i64 ((la : Int) + (m : Int)))
                replace h1 := (o2 R19 (by omega)).trans h1
                have q2 : OverS w Q C ⟨pr, li, qu, id, 1, un, ((la : Int) + (m : Int))⟩ a b p2 := ⟨(o2 Q (by omega)).trans hHeld.s, (o2 C (by omega)).trans hHeld.f, K2⟩
                have f2 := fun i => frozen_of_heap (o := i) hz20
                obtain ⟨z0, z1, z2, z3, z4, z5, z6⟩ := cells7 hz20
                refine wpAnyH_ready (rs := [22]) (by kernel_rfl) (by simp) ?_
                refine AllReadyH.cons (o := Oper.mk _ _ _ _ _ _) rfl (fun K hK => ?_) AllReadyH.nil
                go_simp
                rw [← hp2]
                refine hK.out _ _ (q2) (fun hNew => ?_)
                clear hHeld hK
                have hHeld := hNew
                clear hNew
                try simp only [Act.put, List.setIfInBounds_toArray, List.set_cons_zero, List.set_cons_succ]
                refine wpAnyH_done (by kernel_rfl) ?_ _
                go_wp2_with fail
                go_meet
                case rel => exact ⟨R19, R20, rfl, rfl, h1, h2, hHeld⟩
        · have hl19 := hHeld.lt
          go_simp
          refine hK.out _ _ (hHeld.keep (keeps_alloc _ _)) (fun hNew => ?_)
          clear hHeld hK
          have hHeld := hNew
          clear hNew
          try simp only [Act.put, List.setIfInBounds_toArray, List.set_cons_zero, List.set_cons_succ]
          have hz19 := heap_alloc_same (w := u0) (o := .cells #[.int .u64 0, .int .u64 0, .int .u64 0, .int .i64 0, .int .i64 0, .int .u64 0, .int .i64 0] 24)
          generalize u0.alloc (.cells #[.int .u64 0, .int .u64 0, .int .u64 0, .int .i64 0, .int .i64 0, .int .u64 0, .int .i64 0] 24) = u1 at *
          generalize u0.heap.size = R19 at *
          refine wpAnyH_ready (rs := [6, 20]) (by kernel_rfl) (by simp) ?_
          refine AllReadyH.cons (o := Oper.mk _ _ _ _ _ _) rfl (fun K hK => ?_) (AllReadyH.cons (o := Oper.mk _ _ _ _ _ _) rfl (fun K hK => ?_) (AllReadyH.nil))
          · (go_simp; refine (TX _).mono ?_; rintro e u2 ⟨rfl, k⟩)
            refine hK.out _ _ (hHeld.keep k) (fun hNew => ?_)
            clear hHeld hK
            have hHeld := hNew
            clear hNew
            try simp only [Act.put, List.setIfInBounds_toArray, List.set_cons_zero, List.set_cons_succ]
            replace hz19 := k.heap (by simp) hz19
            clear k
            refine wpAnyH_ready (rs := [18, 20]) (by kernel_rfl) (by simp) ?_
            refine AllReadyH.cons (o := Oper.mk _ _ _ _ _ _) rfl (fun K hK => ?_) (AllReadyH.cons (o := Oper.mk _ _ _ _ _ _) rfl (fun K hK => ?_) (AllReadyH.nil))
            · (go_simp; refine (TY _).mono ?_; rintro e u3 ⟨rfl, k⟩)
              refine hK.out _ _ (hHeld.keep k) (fun hNew => ?_)
              clear hHeld hK
              have hHeld := hNew
              clear hNew
              try simp only [Act.put, List.setIfInBounds_toArray, List.set_cons_zero, List.set_cons_succ]
              replace hz19 := k.heap (by simp) hz19
              clear k
              refine wpAnyH_ready (rs := [20]) (by kernel_rfl) (by simp) ?_
              refine AllReadyH.cons (o := Oper.mk _ _ _ _ _ _) rfl (fun K hK => ?_) (AllReadyH.nil)
              · have hl20 := hHeld.lt
                have hne := lt_of_heap hz19
                go_simp
                refine hK.out _ _ (hHeld.keep (keeps_alloc _ _)) (fun hNew => ?_)
                clear hHeld hK
                have hHeld := hNew
                clear hNew
                try simp only [Act.put, List.setIfInBounds_toArray, List.set_cons_zero, List.set_cons_succ]
                have hz20 := heap_alloc_same (w := u3) (o := .cells #[.int .u64 0, .int .u64 0, .int .u64 0, .int .i64 0, .int .i64 0, .int .u64 0, .int .i64 0] 24)
                replace hz19 := (keeps_alloc u3 (.cells #[.int .u64 0, .int .u64 0, .int .u64 0, .int .i64 0, .int .i64 0, .int .u64 0, .int .i64 0] 24)).heap (by simp) hz19
                generalize u3.alloc (.cells #[.int .u64 0, .int .u64 0, .int .u64 0, .int .i64 0, .int .i64 0, .int .u64 0, .int .i64 0] 24) = u4 at *
                generalize u3.heap.size = R20 at *
                obtain ⟨p1, hp1, h1, o1, K1⟩ := sess_stored hz19 hHeld.k hl19.2.2 (.int .u64 pr) (.int .u64 li) (.int .u64 qu) (.int .i64 id) (.int .i64 1) (.int .u64 un) (.int .i64 ((la : Int) + (m : Int)))
                replace hz20 := (o1 R20 (by omega)).trans hz20
                have q1 : OverS w Q C ⟨pr, li, qu, id, 1, un, ((la : Int) + (m : Int))⟩ a b p1 := ⟨(o1 Q (by omega)).trans hHeld.s, (o1 C (by omega)).trans hHeld.f, K1⟩
                have f1 := fun i => frozen_of_heap (o := i) hz19
                obtain ⟨z0, z1, z2, z3, z4, z5, z6⟩ := cells7 hz19
                refine wpAnyH_ready (rs := [21]) (by kernel_rfl) (by simp) ?_
                refine AllReadyH.cons (o := Oper.mk _ _ _ _ _ _) rfl (fun K hK => ?_) AllReadyH.nil
                go_simp
                rw [← hp1]
                refine hK.out _ _ (q1) (fun hNew => ?_)
                clear hHeld hK
                have hHeld := hNew
                clear hNew
                try simp only [Act.put, List.setIfInBounds_toArray, List.set_cons_zero, List.set_cons_succ]
                clear hp1 z0 z1 z2 z3 z4 z5 z6 f1 hz19 q1
                obtain ⟨p2, hp2, h2, o2, K2⟩ := sess_stored hz20 hHeld.k hl20.2.2 (.int .u64 pr) (.int .u64 li) (.int .u64 qu) (.int .i64 id) (.int .i64 3) (.int .u64 un) (.int .i64 ((la : Int) + (m : Int)))
                replace h1 := (o2 R19 (by omega)).trans h1
                have q2 : OverS w Q C ⟨pr, li, qu, id, 1, un, ((la : Int) + (m : Int))⟩ a b p2 := ⟨(o2 Q (by omega)).trans hHeld.s, (o2 C (by omega)).trans hHeld.f, K2⟩
                have f2 := fun i => frozen_of_heap (o := i) hz20
                obtain ⟨z0, z1, z2, z3, z4, z5, z6⟩ := cells7 hz20
                refine wpAnyH_ready (rs := [22]) (by kernel_rfl) (by simp) ?_
                refine AllReadyH.cons (o := Oper.mk _ _ _ _ _ _) rfl (fun K hK => ?_) AllReadyH.nil
                go_simp
                rw [← hp2]
                refine hK.out _ _ (q2) (fun hNew => ?_)
                clear hHeld hK
                have hHeld := hNew
                clear hNew
                try simp only [Act.put, List.setIfInBounds_toArray, List.set_cons_zero, List.set_cons_succ]
                refine wpAnyH_done (by kernel_rfl) ?_ _
                go_wp2_with fail
                go_meet
                case rel => exact ⟨R19, R20, rfl, rfl, h1, h2, hHeld⟩
            · have hl20 := hHeld.lt
              have hne := lt_of_heap hz19
              go_simp
              refine hK.out _ _ (hHeld.keep (keeps_alloc _ _)) (fun hNew => ?_)
              clear hHeld hK
              have hHeld := hNew
              clear hNew
              try simp only [Act.put, List.setIfInBounds_toArray, List.set_cons_zero, List.set_cons_succ]
              have hz20 := heap_alloc_same (w := u2) (o := .cells #[.int .u64 0, .int .u64 0, .int .u64 0, .int .i64 0, .int .i64 0, .int .u64 0, .int .i64 0] 24)
              replace hz19 := (keeps_alloc u2 (.cells #[.int .u64 0, .int .u64 0, .int .u64 0, .int .i64 0, .int .i64 0, .int .u64 0, .int .i64 0] 24)).heap (by simp) hz19
              generalize u2.alloc (.cells #[.int .u64 0, .int .u64 0, .int .u64 0, .int .i64 0, .int .i64 0, .int .u64 0, .int .i64 0] 24) = u3 at *
              generalize u2.heap.size = R20 at *
              refine wpAnyH_ready (rs := [18]) (by kernel_rfl) (by simp) ?_
              refine AllReadyH.cons (o := Oper.mk _ _ _ _ _ _) rfl (fun K hK => ?_) (AllReadyH.nil)
              · (go_simp; refine (TY _).mono ?_; rintro e u4 ⟨rfl, k⟩)
                refine hK.out _ _ (hHeld.keep k) (fun hNew => ?_)
                clear hHeld hK
                have hHeld := hNew
                clear hNew
                try simp only [Act.put, List.setIfInBounds_toArray, List.set_cons_zero, List.set_cons_succ]
                replace hz19 := k.heap (by simp) hz19
                replace hz20 := k.heap (by simp) hz20
                clear k
                obtain ⟨p1, hp1, h1, o1, K1⟩ := sess_stored hz19 hHeld.k hl19.2.2 (.int .u64 pr) (.int .u64 li) (.int .u64 qu) (.int .i64 id) (.int .i64 1) (.int .u64 un) (.int .i64 ((la : Int) + (m : Int)))
                replace hz20 := (o1 R20 (by omega)).trans hz20
                have q1 : OverS w Q C ⟨pr, li, qu, id, 1, un, ((la : Int) + (m : Int))⟩ a b p1 := ⟨(o1 Q (by omega)).trans hHeld.s, (o1 C (by omega)).trans hHeld.f, K1⟩
                have f1 := fun i => frozen_of_heap (o := i) hz19
                obtain ⟨z0, z1, z2, z3, z4, z5, z6⟩ := cells7 hz19
                refine wpAnyH_ready (rs := [21]) (by kernel_rfl) (by simp) ?_
                refine AllReadyH.cons (o := Oper.mk _ _ _ _ _ _) rfl (fun K hK => ?_) AllReadyH.nil
                go_simp
                rw [← hp1]
                refine hK.out _ _ (q1) (fun hNew => ?_)
                clear hHeld hK
                have hHeld := hNew
                clear hNew
                try simp only [Act.put, List.setIfInBounds_toArray, List.set_cons_zero, List.set_cons_succ]
                clear hp1 z0 z1 z2 z3 z4 z5 z6 f1 hz19 q1
                obtain ⟨p2, hp2, h2, o2, K2⟩ := sess_stored hz20 hHeld.k hl20.2.2 (.int .u64 pr) (.int .u64 li) (.int .u64 qu) (.int .i64 id) (.int .i64 3) (.int .u64 un) (.int .i64 ((la : Int) + (m : Int)))
                replace h1 := (o2 R19 (by omega)).trans h1
                have q2 : OverS w Q C ⟨pr, li, qu, id, 1, un, ((la : Int) + (m : Int))⟩ a b p2 := ⟨(o2 Q (by omega)).trans hHeld.s, (o2 C (by omega)).trans hHeld.f, K2⟩
                have f2 := fun i => frozen_of_heap (o := i) hz20
                obtain ⟨z0, z1, z2, z3, z4, z5, z6⟩ := cells7 hz20
                refine wpAnyH_ready (rs := [22]) (by kernel_rfl) (by simp) ?_
                refine AllReadyH.cons (o := Oper.mk _ _ _ _ _ _) rfl (fun K hK => ?_) AllReadyH.nil
                go_simp
                rw [← hp2]
                refine hK.out _ _ (q2) (fun hNew => ?_)
                clear hHeld hK
                have hHeld := hNew
                clear hNew
                try simp only [Act.put, List.setIfInBounds_toArray, List.set_cons_zero, List.set_cons_succ]
                refine wpAnyH_done (by kernel_rfl) ?_ _
                go_wp2_with fail
                go_meet
                case rel => exact ⟨R19, R20, rfl, rfl, h1, h2, hHeld⟩
          · have hl20 := hHeld.lt
            have hne := lt_of_heap hz19
            go_simp
            refine hK.out _ _ (hHeld.keep (keeps_alloc _ _)) (fun hNew => ?_)
            clear hHeld hK
            have hHeld := hNew
            clear hNew
            try simp only [Act.put, List.setIfInBounds_toArray, List.set_cons_zero, List.set_cons_succ]
            have hz20 := heap_alloc_same (w := u1) (o := .cells #[.int .u64 0, .int .u64 0, .int .u64 0, .int .i64 0, .int .i64 0, .int .u64 0, .int .i64 0] 24)
            replace hz19 := (keeps_alloc u1 (.cells #[.int .u64 0, .int .u64 0, .int .u64 0, .int .i64 0, .int .i64 0, .int .u64 0, .int .i64 0] 24)).heap (by simp) hz19
            generalize u1.alloc (.cells #[.int .u64 0, .int .u64 0, .int .u64 0, .int .i64 0, .int .i64 0, .int .u64 0, .int .i64 0] 24) = u2 at *
            generalize u1.heap.size = R20 at *
            refine wpAnyH_ready (rs := [6]) (by kernel_rfl) (by simp) ?_
            refine AllReadyH.cons (o := Oper.mk _ _ _ _ _ _) rfl (fun K hK => ?_) (AllReadyH.nil)
            · (go_simp; refine (TX _).mono ?_; rintro e u3 ⟨rfl, k⟩)
              refine hK.out _ _ (hHeld.keep k) (fun hNew => ?_)
              clear hHeld hK
              have hHeld := hNew
              clear hNew
              try simp only [Act.put, List.setIfInBounds_toArray, List.set_cons_zero, List.set_cons_succ]
              replace hz19 := k.heap (by simp) hz19
              replace hz20 := k.heap (by simp) hz20
              clear k
              refine wpAnyH_ready (rs := [18]) (by kernel_rfl) (by simp) ?_
              refine AllReadyH.cons (o := Oper.mk _ _ _ _ _ _) rfl (fun K hK => ?_) (AllReadyH.nil)
              · (go_simp; refine (TY _).mono ?_; rintro e u4 ⟨rfl, k⟩)
                refine hK.out _ _ (hHeld.keep k) (fun hNew => ?_)
                clear hHeld hK
                have hHeld := hNew
                clear hNew
                try simp only [Act.put, List.setIfInBounds_toArray, List.set_cons_zero, List.set_cons_succ]
                replace hz19 := k.heap (by simp) hz19
                replace hz20 := k.heap (by simp) hz20
                clear k
                obtain ⟨p1, hp1, h1, o1, K1⟩ := sess_stored hz19 hHeld.k hl19.2.2 (.int .u64 pr) (.int .u64 li) (.int .u64 qu) (.int .i64 id) (.int .i64 1) (.int .u64 un) (.int .i64 ((la : Int) + (m : Int)))
                replace hz20 := (o1 R20 (by omega)).trans hz20
                have q1 : OverS w Q C ⟨pr, li, qu, id, 1, un, ((la : Int) + (m : Int))⟩ a b p1 := ⟨(o1 Q (by omega)).trans hHeld.s, (o1 C (by omega)).trans hHeld.f, K1⟩
                have f1 := fun i => frozen_of_heap (o := i) hz19
                obtain ⟨z0, z1, z2, z3, z4, z5, z6⟩ := cells7 hz19
                refine wpAnyH_ready (rs := [21]) (by kernel_rfl) (by simp) ?_
                refine AllReadyH.cons (o := Oper.mk _ _ _ _ _ _) rfl (fun K hK => ?_) AllReadyH.nil
                go_simp
                rw [← hp1]
                refine hK.out _ _ (q1) (fun hNew => ?_)
                clear hHeld hK
                have hHeld := hNew
                clear hNew
                try simp only [Act.put, List.setIfInBounds_toArray, List.set_cons_zero, List.set_cons_succ]
                clear hp1 z0 z1 z2 z3 z4 z5 z6 f1 hz19 q1
                obtain ⟨p2, hp2, h2, o2, K2⟩ := sess_stored hz20 hHeld.k hl20.2.2 (.int .u64 pr) (.int .u64 li) (.int .u64 qu) (.int .i64 id) (.int .i64 3) (.int .u64 un) (.int .i64 ((la : Int) + (m : Int)))
                replace h1 := (o2 R19 (by omega)).trans h1
                have q2 : OverS w Q C ⟨pr, li, qu, id, 1, un, ((la : Int) + (m : Int))⟩ a b p2 := ⟨(o2 Q (by omega)).trans hHeld.s, (o2 C (by omega)).trans hHeld.f, K2⟩
                have f2 := fun i => frozen_of_heap (o := i) hz20
                obtain ⟨z0, z1, z2, z3, z4, z5, z6⟩ := cells7 hz20
                refine wpAnyH_ready (rs := [22]) (by kernel_rfl) (by simp) ?_
                refine AllReadyH.cons (o := Oper.mk _ _ _ _ _ _) rfl (fun K hK => ?_) AllReadyH.nil
                go_simp
                rw [← hp2]
                refine hK.out _ _ (q2) (fun hNew => ?_)
                clear hHeld hK
                have hHeld := hNew
                clear hNew
                try simp only [Act.put, List.setIfInBounds_toArray, List.set_cons_zero, List.set_cons_succ]
                refine wpAnyH_done (by kernel_rfl) ?_ _
                go_wp2_with fail
                go_meet
                case rel => exact ⟨R19, R20, rfl, rfl, h1, h2, hHeld⟩
        · have hl20 := hHeld.lt
          go_simp
          refine hK.out _ _ (hHeld.keep (keeps_alloc _ _)) (fun hNew => ?_)
          clear hHeld hK
          have hHeld := hNew
          clear hNew
          try simp only [Act.put, List.setIfInBounds_toArray, List.set_cons_zero, List.set_cons_succ]
          have hz20 := heap_alloc_same (w := u0) (o := .cells #[.int .u64 0, .int .u64 0, .int .u64 0, .int .i64 0, .int .i64 0, .int .u64 0, .int .i64 0] 24)
          generalize u0.alloc (.cells #[.int .u64 0, .int .u64 0, .int .u64 0, .int .i64 0, .int .i64 0, .int .u64 0, .int .i64 0] 24) = u1 at *
          generalize u0.heap.size = R20 at *
          refine wpAnyH_ready (rs := [6, 19]) (by kernel_rfl) (by simp) ?_
          refine AllReadyH.cons (o := Oper.mk _ _ _ _ _ _) rfl (fun K hK => ?_) (AllReadyH.cons (o := Oper.mk _ _ _ _ _ _) rfl (fun K hK => ?_) (AllReadyH.nil))
          · (go_simp; refine (TX _).mono ?_; rintro e u2 ⟨rfl, k⟩)
            refine hK.out _ _ (hHeld.keep k) (fun hNew => ?_)
            clear hHeld hK
            have hHeld := hNew
            clear hNew
            try simp only [Act.put, List.setIfInBounds_toArray, List.set_cons_zero, List.set_cons_succ]
            replace hz20 := k.heap (by simp) hz20
            clear k
            refine wpAnyH_ready (rs := [18, 19]) (by kernel_rfl) (by simp) ?_
            refine AllReadyH.cons (o := Oper.mk _ _ _ _ _ _) rfl (fun K hK => ?_) (AllReadyH.cons (o := Oper.mk _ _ _ _ _ _) rfl (fun K hK => ?_) (AllReadyH.nil))
            · (go_simp; refine (TY _).mono ?_; rintro e u3 ⟨rfl, k⟩)
              refine hK.out _ _ (hHeld.keep k) (fun hNew => ?_)
              clear hHeld hK
              have hHeld := hNew
              clear hNew
              try simp only [Act.put, List.setIfInBounds_toArray, List.set_cons_zero, List.set_cons_succ]
              replace hz20 := k.heap (by simp) hz20
              clear k
              refine wpAnyH_ready (rs := [19]) (by kernel_rfl) (by simp) ?_
              refine AllReadyH.cons (o := Oper.mk _ _ _ _ _ _) rfl (fun K hK => ?_) (AllReadyH.nil)
              · have hl19 := hHeld.lt
                have hne := lt_of_heap hz20
                go_simp
                refine hK.out _ _ (hHeld.keep (keeps_alloc _ _)) (fun hNew => ?_)
                clear hHeld hK
                have hHeld := hNew
                clear hNew
                try simp only [Act.put, List.setIfInBounds_toArray, List.set_cons_zero, List.set_cons_succ]
                have hz19 := heap_alloc_same (w := u3) (o := .cells #[.int .u64 0, .int .u64 0, .int .u64 0, .int .i64 0, .int .i64 0, .int .u64 0, .int .i64 0] 24)
                replace hz20 := (keeps_alloc u3 (.cells #[.int .u64 0, .int .u64 0, .int .u64 0, .int .i64 0, .int .i64 0, .int .u64 0, .int .i64 0] 24)).heap (by simp) hz20
                generalize u3.alloc (.cells #[.int .u64 0, .int .u64 0, .int .u64 0, .int .i64 0, .int .i64 0, .int .u64 0, .int .i64 0] 24) = u4 at *
                generalize u3.heap.size = R19 at *
                obtain ⟨p1, hp1, h1, o1, K1⟩ := sess_stored hz19 hHeld.k hl19.2.2 (.int .u64 pr) (.int .u64 li) (.int .u64 qu) (.int .i64 id) (.int .i64 1) (.int .u64 un) (.int .i64 ((la : Int) + (m : Int)))
                replace hz20 := (o1 R20 (by omega)).trans hz20
                have q1 : OverS w Q C ⟨pr, li, qu, id, 1, un, ((la : Int) + (m : Int))⟩ a b p1 := ⟨(o1 Q (by omega)).trans hHeld.s, (o1 C (by omega)).trans hHeld.f, K1⟩
                have f1 := fun i => frozen_of_heap (o := i) hz19
                obtain ⟨z0, z1, z2, z3, z4, z5, z6⟩ := cells7 hz19
                refine wpAnyH_ready (rs := [21]) (by kernel_rfl) (by simp) ?_
                refine AllReadyH.cons (o := Oper.mk _ _ _ _ _ _) rfl (fun K hK => ?_) AllReadyH.nil
                go_simp
                rw [← hp1]
                refine hK.out _ _ (q1) (fun hNew => ?_)
                clear hHeld hK
                have hHeld := hNew
                clear hNew
                try simp only [Act.put, List.setIfInBounds_toArray, List.set_cons_zero, List.set_cons_succ]
                clear hp1 z0 z1 z2 z3 z4 z5 z6 f1 hz19 q1
                obtain ⟨p2, hp2, h2, o2, K2⟩ := sess_stored hz20 hHeld.k hl20.2.2 (.int .u64 pr) (.int .u64 li) (.int .u64 qu) (.int .i64 id) (.int .i64 3) (.int .u64 un) (.int .i64 ((la : Int) + (m : Int)))
                replace h1 := (o2 R19 (by omega)).trans h1
                have q2 : OverS w Q C ⟨pr, li, qu, id, 1, un, ((la : Int) + (m : Int))⟩ a b p2 := ⟨(o2 Q (by omega)).trans hHeld.s, (o2 C (by omega)).trans hHeld.f, K2⟩
                have f2 := fun i => frozen_of_heap (o := i) hz20
                obtain ⟨z0, z1, z2, z3, z4, z5, z6⟩ := cells7 hz20
                refine wpAnyH_ready (rs := [22]) (by kernel_rfl) (by simp) ?_
                refine AllReadyH.cons (o := Oper.mk _ _ _ _ _ _) rfl (fun K hK => ?_) AllReadyH.nil
                go_simp
                rw [← hp2]
                refine hK.out _ _ (q2) (fun hNew => ?_)
                clear hHeld hK
                have hHeld := hNew
                clear hNew
                try simp only [Act.put, List.setIfInBounds_toArray, List.set_cons_zero, List.set_cons_succ]
                refine wpAnyH_done (by kernel_rfl) ?_ _
                go_wp2_with fail
                go_meet
                case rel => exact ⟨R19, R20, rfl, rfl, h1, h2, hHeld⟩
            · have hl19 := hHeld.lt
              have hne := lt_of_heap hz20
              go_simp
              refine hK.out _ _ (hHeld.keep (keeps_alloc _ _)) (fun hNew => ?_)
              clear hHeld hK
              have hHeld := hNew
              clear hNew
              try simp only [Act.put, List.setIfInBounds_toArray, List.set_cons_zero, List.set_cons_succ]
              have hz19 := heap_alloc_same (w := u2) (o := .cells #[.int .u64 0, .int .u64 0, .int .u64 0, .int .i64 0, .int .i64 0, .int .u64 0, .int .i64 0] 24)
              replace hz20 := (keeps_alloc u2 (.cells #[.int .u64 0, .int .u64 0, .int .u64 0, .int .i64 0, .int .i64 0, .int .u64 0, .int .i64 0] 24)).heap (by simp) hz20
              generalize u2.alloc (.cells #[.int .u64 0, .int .u64 0, .int .u64 0, .int .i64 0, .int .i64 0, .int .u64 0, .int .i64 0] 24) = u3 at *
              generalize u2.heap.size = R19 at *
              refine wpAnyH_ready (rs := [18]) (by kernel_rfl) (by simp) ?_
              refine AllReadyH.cons (o := Oper.mk _ _ _ _ _ _) rfl (fun K hK => ?_) (AllReadyH.nil)
              · (go_simp; refine (TY _).mono ?_; rintro e u4 ⟨rfl, k⟩)
                refine hK.out _ _ (hHeld.keep k) (fun hNew => ?_)
                clear hHeld hK
                have hHeld := hNew
                clear hNew
                try simp only [Act.put, List.setIfInBounds_toArray, List.set_cons_zero, List.set_cons_succ]
                replace hz19 := k.heap (by simp) hz19
                replace hz20 := k.heap (by simp) hz20
                clear k
                obtain ⟨p1, hp1, h1, o1, K1⟩ := sess_stored hz19 hHeld.k hl19.2.2 (.int .u64 pr) (.int .u64 li) (.int .u64 qu) (.int .i64 id) (.int .i64 1) (.int .u64 un) (.int .i64 ((la : Int) + (m : Int)))
                replace hz20 := (o1 R20 (by omega)).trans hz20
                have q1 : OverS w Q C ⟨pr, li, qu, id, 1, un, ((la : Int) + (m : Int))⟩ a b p1 := ⟨(o1 Q (by omega)).trans hHeld.s, (o1 C (by omega)).trans hHeld.f, K1⟩
                have f1 := fun i => frozen_of_heap (o := i) hz19
                obtain ⟨z0, z1, z2, z3, z4, z5, z6⟩ := cells7 hz19
                refine wpAnyH_ready (rs := [21]) (by kernel_rfl) (by simp) ?_
                refine AllReadyH.cons (o := Oper.mk _ _ _ _ _ _) rfl (fun K hK => ?_) AllReadyH.nil
                go_simp
                rw [← hp1]
                refine hK.out _ _ (q1) (fun hNew => ?_)
                clear hHeld hK
                have hHeld := hNew
                clear hNew
                try simp only [Act.put, List.setIfInBounds_toArray, List.set_cons_zero, List.set_cons_succ]
                clear hp1 z0 z1 z2 z3 z4 z5 z6 f1 hz19 q1
                obtain ⟨p2, hp2, h2, o2, K2⟩ := sess_stored hz20 hHeld.k hl20.2.2 (.int .u64 pr) (.int .u64 li) (.int .u64 qu) (.int .i64 id) (.int .i64 3) (.int .u64 un) (.int .i64 ((la : Int) + (m : Int)))
                replace h1 := (o2 R19 (by omega)).trans h1
                have q2 : OverS w Q C ⟨pr, li, qu, id, 1, un, ((la : Int) + (m : Int))⟩ a b p2 := ⟨(o2 Q (by omega)).trans hHeld.s, (o2 C (by omega)).trans hHeld.f, K2⟩
                have f2 := fun i => frozen_of_heap (o := i) hz20
                obtain ⟨z0, z1, z2, z3, z4, z5, z6⟩ := cells7 hz20
                refine wpAnyH_ready (rs := [22]) (by kernel_rfl) (by simp) ?_
                refine AllReadyH.cons (o := Oper.mk _ _ _ _ _ _) rfl (fun K hK => ?_) AllReadyH.nil
                go_simp
                rw [← hp2]
                refine hK.out _ _ (q2) (fun hNew => ?_)
                clear hHeld hK
                have hHeld := hNew
                clear hNew
                try simp only [Act.put, List.setIfInBounds_toArray, List.set_cons_zero, List.set_cons_succ]
                refine wpAnyH_done (by kernel_rfl) ?_ _
                go_wp2_with fail
                go_meet
                case rel => exact ⟨R19, R20, rfl, rfl, h1, h2, hHeld⟩
          · have hl19 := hHeld.lt
            have hne := lt_of_heap hz20
            go_simp
            refine hK.out _ _ (hHeld.keep (keeps_alloc _ _)) (fun hNew => ?_)
            clear hHeld hK
            have hHeld := hNew
            clear hNew
            try simp only [Act.put, List.setIfInBounds_toArray, List.set_cons_zero, List.set_cons_succ]
            have hz19 := heap_alloc_same (w := u1) (o := .cells #[.int .u64 0, .int .u64 0, .int .u64 0, .int .i64 0, .int .i64 0, .int .u64 0, .int .i64 0] 24)
            replace hz20 := (keeps_alloc u1 (.cells #[.int .u64 0, .int .u64 0, .int .u64 0, .int .i64 0, .int .i64 0, .int .u64 0, .int .i64 0] 24)).heap (by simp) hz20
            generalize u1.alloc (.cells #[.int .u64 0, .int .u64 0, .int .u64 0, .int .i64 0, .int .i64 0, .int .u64 0, .int .i64 0] 24) = u2 at *
            generalize u1.heap.size = R19 at *
            refine wpAnyH_ready (rs := [6]) (by kernel_rfl) (by simp) ?_
            refine AllReadyH.cons (o := Oper.mk _ _ _ _ _ _) rfl (fun K hK => ?_) (AllReadyH.nil)
            · (go_simp; refine (TX _).mono ?_; rintro e u3 ⟨rfl, k⟩)
              refine hK.out _ _ (hHeld.keep k) (fun hNew => ?_)
              clear hHeld hK
              have hHeld := hNew
              clear hNew
              try simp only [Act.put, List.setIfInBounds_toArray, List.set_cons_zero, List.set_cons_succ]
              replace hz19 := k.heap (by simp) hz19
              replace hz20 := k.heap (by simp) hz20
              clear k
              refine wpAnyH_ready (rs := [18]) (by kernel_rfl) (by simp) ?_
              refine AllReadyH.cons (o := Oper.mk _ _ _ _ _ _) rfl (fun K hK => ?_) (AllReadyH.nil)
              · (go_simp; refine (TY _).mono ?_; rintro e u4 ⟨rfl, k⟩)
                refine hK.out _ _ (hHeld.keep k) (fun hNew => ?_)
                clear hHeld hK
                have hHeld := hNew
                clear hNew
                try simp only [Act.put, List.setIfInBounds_toArray, List.set_cons_zero, List.set_cons_succ]
                replace hz19 := k.heap (by simp) hz19
                replace hz20 := k.heap (by simp) hz20
                clear k
                obtain ⟨p1, hp1, h1, o1, K1⟩ := sess_stored hz19 hHeld.k hl19.2.2 (.int .u64 pr) (.int .u64 li) (.int .u64 qu) (.int .i64 id) (.int .i64 1) (.int .u64 un) (.int .i64 ((la : Int) + (m : Int)))
                replace hz20 := (o1 R20 (by omega)).trans hz20
                have q1 : OverS w Q C ⟨pr, li, qu, id, 1, un, ((la : Int) + (m : Int))⟩ a b p1 := ⟨(o1 Q (by omega)).trans hHeld.s, (o1 C (by omega)).trans hHeld.f, K1⟩
                have f1 := fun i => frozen_of_heap (o := i) hz19
                obtain ⟨z0, z1, z2, z3, z4, z5, z6⟩ := cells7 hz19
                refine wpAnyH_ready (rs := [21]) (by kernel_rfl) (by simp) ?_
                refine AllReadyH.cons (o := Oper.mk _ _ _ _ _ _) rfl (fun K hK => ?_) AllReadyH.nil
                go_simp
                rw [← hp1]
                refine hK.out _ _ (q1) (fun hNew => ?_)
                clear hHeld hK
                have hHeld := hNew
                clear hNew
                try simp only [Act.put, List.setIfInBounds_toArray, List.set_cons_zero, List.set_cons_succ]
                clear hp1 z0 z1 z2 z3 z4 z5 z6 f1 hz19 q1
                obtain ⟨p2, hp2, h2, o2, K2⟩ := sess_stored hz20 hHeld.k hl20.2.2 (.int .u64 pr) (.int .u64 li) (.int .u64 qu) (.int .i64 id) (.int .i64 3) (.int .u64 un) (.int .i64 ((la : Int) + (m : Int)))
                replace h1 := (o2 R19 (by omega)).trans h1
                have q2 : OverS w Q C ⟨pr, li, qu, id, 1, un, ((la : Int) + (m : Int))⟩ a b p2 := ⟨(o2 Q (by omega)).trans hHeld.s, (o2 C (by omega)).trans hHeld.f, K2⟩
                have f2 := fun i => frozen_of_heap (o := i) hz20
                obtain ⟨z0, z1, z2, z3, z4, z5, z6⟩ := cells7 hz20
                refine wpAnyH_ready (rs := [22]) (by kernel_rfl) (by simp) ?_
                refine AllReadyH.cons (o := Oper.mk _ _ _ _ _ _) rfl (fun K hK => ?_) AllReadyH.nil
                go_simp
                rw [← hp2]
                refine hK.out _ _ (q2) (fun hNew => ?_)
                clear hHeld hK
                have hHeld := hNew
                clear hNew
                try simp only [Act.put, List.setIfInBounds_toArray, List.set_cons_zero, List.set_cons_succ]
                refine wpAnyH_done (by kernel_rfl) ?_ _
                go_wp2_with fail
                go_meet
                case rel => exact ⟨R19, R20, rfl, rfl, h1, h2, hHeld⟩
      case rest =>
        clear Q8 TX TY v1 v2 v3 v4
        obtain ⟨U, V, rfl, rfl, u9, v9, q9⟩ := hcut
        have K9 := q9.k
        clear q9
        have RE := fun w => resume_c (w := w) ⟨pr, li, qu, id, 3, un, ((la : Int) + (m : Int))⟩ ((la : Int) + (m : Int) + 9) (ok1 _ _ ⟨by decide, by decide⟩ ⟨by omega, by omega⟩) ⟨by omega, by omega⟩
        have GR := fun w => grant_c (w := w) ⟨pr, li, qu, id, 3, un, ((la : Int) + (m : Int))⟩ 1 9223372036854775808 ((la : Int) + (m : Int) + 9) (ok1 _ _ ⟨by decide, by decide⟩ ⟨by omega, by omega⟩) (by decide) (by decide) ⟨by omega, by omega⟩
        have er : mResume ⟨pr, li, qu, id, 3, un, ((la : Int) + (m : Int))⟩ ((la : Int) + (m : Int) + 9) = (.zero, 8) := if_neg (by show ¬ (3 : Int) = 2; decide)
        have eg : mGrant ⟨pr, li, qu, id, 3, un, ((la : Int) + (m : Int))⟩ 1 9223372036854775808 ((la : Int) + (m : Int) + 9) = (.zero, 8) := by unfold mGrant gRaw; exact if_pos (by show (3 : Int) ≠ 1; decide)
        rw [er] at RE
        rw [eg] at GR
        dsimp only [Sess.zero] at RE GR
        clear er eg
        obtain ⟨b0, b1, b2, b3, b4, b5, b6⟩ := cells7 v9
        go_wp2_with fail
        refine (RE _).mono ?_
        rintro e w10 ⟨rfl, k10⟩
        have k11 := k10.trans (keeps_alloc w10 (.cells #[.int .u64 0, .int .u64 0, .int .u64 0, .int .i64 0, .int .i64 0, .int .u64 0, .int .i64 0] 24))
        have v11 := k11.heap (by simp) v9
        have u11 := k11.heap (by simp) u9
        have K11 := K9.trans k11
        clear b0 b1 b2 b3 b4 b5 b6 RE K9 v9 u9 k10 k11
        obtain ⟨b0, b1, b2, b3, b4, b5, b6⟩ := cells7 v11
        go_wp2_with fail
        refine (GR _).mono ?_
        rintro e w12 ⟨rfl, k12⟩
        have k13 := k12.trans (keeps_alloc w12 (.cells #[.int .u64 0, .int .u64 0, .int .u64 0, .int .i64 0, .int .i64 0, .int .u64 0, .int .i64 0] 24))
        have v13 := k13.heap (by simp) v11
        have u13 := k13.heap (by simp) u11
        have K13 := K11.trans k13
        clear b0 b1 b2 b3 b4 b5 b6 GR K11 v11 u11 k12 k13
        obtain ⟨b0, b1, b2, b3, b4, b5, b6⟩ := cells7 v13
        obtain ⟨a0, a1, a2, a3, a4, a5, a6⟩ := cells7 u13
        go_wp2_with fail
        refine (fixed_c).mono ?_
        rintro e w14 ⟨rfl, k14⟩
        go_wp2
        go_ret
        exact ⟨rfl, (K13.trans k14).below (Nat.le_refl _) (by simp)⟩
end Go.Proofs.Ytimbngaadgkeaaa
