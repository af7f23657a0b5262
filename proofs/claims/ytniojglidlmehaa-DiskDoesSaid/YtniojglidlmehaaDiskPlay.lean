/-
  A call played on a disk and on the reference's: they answer the same.
-/
import Derived.Test.YtniojglidlmehaaRefDiskC
import Derived.Deep.RegionHeld3
namespace Go.Proofs.Ytniojglidlmehaa
open Go.RowKit

/-- A disk and the reference's, of the same files; no block in common. -/
structure Both (w : World) (D L R LA LB : Nat) (fs : List DFile) (room : Nat) : Prop where
  d : DiskAt w D L fs room
  r : RefAt w R LA LB fs room
  da : D ≠ LA
  db : D ≠ LB
  la : L ≠ LA
  lb : L ≠ LB
  rl : R ≠ L

theorem off_of {p : Nat → Prop} {S : List Nat} (hS : ∀ k ∈ S, ¬ p k) : ∀ b, p b → b ∉ S := fun b hp hm => hS b hm hp

def PlayPost (w : World) (D L R LA LB : Nat) (room : Nat) (e : Ending) (w' : World) : Prop :=
  ∃ fs, e = .returned (.bool true) ∧ Both w' D L R LA LB fs room ∧ Keeps [L, LA, LB] w w'

set_option maxRecDepth 100000 in
set_option maxHeartbeats 4000000 in
theorem play_any {w : World} {D L R LA LB : Nat} {fs : List DFile} {room : Nat} (h : Both w D L R LA LB fs room) (o : DOp) {p : Nat → Prop} (hs : o.s.size ≤ 9223372036854775807) (hkc : o.keep.length ≤ o.kcap) (hk : IntsAt w p o.ka o.keep)
    (p1 : ¬ p L) (p2 : ¬ p LA) (p3 : ¬ p LB) :
    Calls Try.prog 17 #[.pointer (some ⟨D, 0, none⟩), .pointer (some ⟨R, 0, none⟩), .agg #[.int .i64 o.kind, .int .i64 o.f, .int .i64 o.n, .string o.s, .slice o.ka o.keep.length o.kcap]] w
      (PlayPost w D L R LA LB room) := by
  obtain ⟨hd, hr, da, db, la, lb, rl⟩ := h
  have hsm := hk.small
  go_enter Try.func17, Try.ntmps17
  go_upto_region 1 with fail
  obtain ⟨wa, hwa⟩ : ∃ wa, wa = w.alloc (.cells #[.int .i64 o.kind, .int .i64 o.f, .int .i64 o.n, .string o.s, .slice o.ka o.keep.length o.kcap] 29) := ⟨_, rfl⟩
  have KA : Keeps [] w wa := by rw [hwa]; exact (Keeps.refl _ _).alloc _
  have HO : wa.heap[w.heap.size]? = some (.cells #[.int .i64 o.kind, .int .i64 o.f, .int .i64 o.n, .string o.s, .slice o.ka o.keep.length o.kcap] 29) := by rw [hwa]; exact heap_alloc_same
  rw [← hwa]
  have c0 := cell_of_heap (o := 0) HO
  have c1 := cell_of_heap (o := 1) HO
  have c2 := cell_of_heap (o := 2) HO
  have c3 := cell_of_heap (o := 3) HO
  have c4 := cell_of_heap (o := 4) HO
  simp at c0 c1 c2 c3 c4
  have hX : w.heap.size ≠ L := by have := hd.ltL; omega
  have hX2 : w.heap.size ≠ LA := by have := hr.ltA; omega
  have hX3 : w.heap.size ≠ LB := by have := hr.ltB; omega
  have hXa : w.heap.size < wa.heap.size := lt_of_heap HO
  have gd := hd.keep KA (by simp) (by simp)
  have gr := hr.keep KA (by simp) (by simp) (by simp)
  have HKA := Lib.hid KA
  clear hwa HO KA hd hr
  go_cut [7] (fun s wx => (∃ t, s = .string t) ∧ wx = wa)
  case first =>
    go_wp2_with fail
    all_goals go_meet
    case rel => exact ⟨⟨_, rfl⟩, rfl⟩
    case rel => exact ⟨⟨_, rfl⟩, rfl⟩
  case rest =>
    obtain ⟨⟨t, rfl⟩, rfl⟩ := hcut
    by_cases h0 : o.kind = 0
    · have hk0 : (o.kind == 0) = true := by simpa using h0
      clear h0
      go_upto_region 4 with fail
      go_region_held3 (fun w' => w'.cell? ⟨w.heap.size, 1, none⟩ = some (.int .i64 o.f) ∧ w'.cell? ⟨w.heap.size, 2, none⟩ = some (.int .i64 o.n)) (first | exact ⟨c1, c2⟩ | exact ⟨(k1.cell hXa (by simpa using hX)).trans c1, (k1.cell hXa (by simpa using hX)).trans c2⟩ | exact ⟨(k2.cell (Nat.lt_of_lt_of_le hXa k1.size) (by simp; omega)).trans ((k1.cell hXa (by simpa using hX)).trans c1), (k2.cell (Nat.lt_of_lt_of_le hXa k1.size) (by simp; omega)).trans ((k1.cell hXa (by simpa using hX)).trans c2)⟩ | go_keep)
        (first
          | (go_at_call 10; refine (append_any (gd.keep (S := []) (by repeat (first | exact Keeps.refl _ _ | apply Keeps.drew | apply Keeps.drewN)) (by simp) (by simp)) _ _).mono ?_; rintro e w' ⟨rfl, g1, k1⟩)
          | (go_at_call 24; refine (r_append (gr.keep (S := [L]) (((Keeps.refl [L] _).drew).trans k1) (by simpa using rl) (by simpa using la.symm) (by simpa using lb.symm)) _ _).mono ?_; rintro e w2 ⟨rfl, g2, k2⟩))
      go_wp2
      go_ret
      have K1 : Keeps [L, LA, LB] w w2 := (HKA.out.sub (by simp)).trans ((((Keeps.refl _ _).drew).trans (k1.sub (by simp))).trans (k2.sub (by simp)))
      exact ⟨_, rfl, ⟨g1.keep k2 (by simp; omega) (by simp; omega), g2, da, db, la, lb, rl⟩, K1⟩
    have hk0 : (o.kind == 0) = false := by simpa using h0
    clear h0
    by_cases h1 : o.kind = 1
    · have hk1 : (o.kind == 1) = true := by simpa using h1
      clear h1
      go_upto_region 6 with fail
      go_region_held3 (fun w' => w'.cell? ⟨w.heap.size, 1, none⟩ = some (.int .i64 o.f) ∧ w'.cell? ⟨w.heap.size, 2, none⟩ = some (.int .i64 o.n)) (first | exact ⟨c1, c2⟩ | exact ⟨(k1.cell hXa (by simpa using hX)).trans c1, (k1.cell hXa (by simpa using hX)).trans c2⟩ | exact ⟨(k2.cell (Nat.lt_of_lt_of_le hXa k1.size) (by simp; omega)).trans ((k1.cell hXa (by simpa using hX)).trans c1), (k2.cell (Nat.lt_of_lt_of_le hXa k1.size) (by simp; omega)).trans ((k1.cell hXa (by simpa using hX)).trans c2)⟩ | go_keep)
        (first
          | (go_at_call 12; refine (sync_any (gd.keep (S := []) (by repeat (first | exact Keeps.refl _ _ | apply Keeps.drew | apply Keeps.drewN)) (by simp) (by simp)) _).mono ?_; rintro e w' ⟨rfl, g1, k1⟩)
          | (go_at_call 25; refine (r_sync (gr.keep (S := [L]) (((Keeps.refl [L] _).drew).trans k1) (by simpa using rl) (by simpa using la.symm) (by simpa using lb.symm)) _).mono ?_; rintro e w2 ⟨rfl, g2, k2⟩))
      go_wp2
      go_ret
      have K1 : Keeps [L, LA, LB] w w2 := (HKA.out.sub (by simp)).trans ((((Keeps.refl _ _).drew).trans (k1.sub (by simp))).trans (k2.sub (by simp)))
      exact ⟨_, rfl, ⟨g1.keep k2 (by simp; omega) (by simp; omega), g2, da, db, la, lb, rl⟩, K1⟩
    have hk1 : (o.kind == 1) = false := by simpa using h1
    clear h1
    by_cases h2 : o.kind = 2
    · have hk2 : (o.kind == 2) = true := by simpa using h2
      clear h2
      go_upto_region 8 with fail
      go_region_held3 (fun w' => w'.cell? ⟨w.heap.size, 1, none⟩ = some (.int .i64 o.f) ∧ w'.cell? ⟨w.heap.size, 2, none⟩ = some (.int .i64 o.n)) (first | exact ⟨c1, c2⟩ | exact ⟨(k1.cell hXa (by simpa using hX)).trans c1, (k1.cell hXa (by simpa using hX)).trans c2⟩ | exact ⟨(k2.cell (Nat.lt_of_lt_of_le hXa k1.size) (by simp; omega)).trans ((k1.cell hXa (by simpa using hX)).trans c1), (k2.cell (Nat.lt_of_lt_of_le hXa k1.size) (by simp; omega)).trans ((k1.cell hXa (by simpa using hX)).trans c2)⟩ | go_keep)
        (first
          | (go_at_call 13; refine (cut_any (gd.keep (S := []) (by repeat (first | exact Keeps.refl _ _ | apply Keeps.drew | apply Keeps.drewN)) (by simp) (by simp)) _ _).mono ?_; rintro e w' ⟨rfl, g1, k1⟩)
          | (go_at_call 26; refine (r_cut (gr.keep (S := [L]) (((Keeps.refl [L] _).drew).trans k1) (by simpa using rl) (by simpa using la.symm) (by simpa using lb.symm)) _ _).mono ?_; rintro e w2 ⟨rfl, g2, k2⟩))
      go_wp2
      go_ret
      have K1 : Keeps [L, LA, LB] w w2 := (HKA.out.sub (by simp)).trans ((((Keeps.refl _ _).drew).trans (k1.sub (by simp))).trans (k2.sub (by simp)))
      exact ⟨_, rfl, ⟨g1.keep k2 (by simp; omega) (by simp; omega), g2, da, db, la, lb, rl⟩, K1⟩
    have hk2 : (o.kind == 2) = false := by simpa using h2
    clear h2
    by_cases h3 : o.kind = 3
    · have hk3 : (o.kind == 3) = true := by simpa using h3
      clear h3
      go_upto_region 10 with fail
      go_region_held3 (fun w' => w'.cell? ⟨w.heap.size, 1, none⟩ = some (.int .i64 o.f) ∧ w'.cell? ⟨w.heap.size, 2, none⟩ = some (.int .i64 o.n)) (first | exact ⟨c1, c2⟩ | exact ⟨(k1.cell hXa (by simpa using hX)).trans c1, (k1.cell hXa (by simpa using hX)).trans c2⟩ | exact ⟨(k2.cell (Nat.lt_of_lt_of_le hXa k1.size) (by simp; omega)).trans ((k1.cell hXa (by simpa using hX)).trans c1), (k2.cell (Nat.lt_of_lt_of_le hXa k1.size) (by simp; omega)).trans ((k1.cell hXa (by simpa using hX)).trans c2)⟩ | go_keep)
        (first
          | (go_at_call 14; refine (swap_any (gd.keep (S := []) (by repeat (first | exact Keeps.refl _ _ | apply Keeps.drew | apply Keeps.drewN)) (by simp) (by simp)) _ _).mono ?_; rintro e w' ⟨rfl, g1, k1⟩)
          | (go_at_call 27; refine (r_swap (gr.keep (S := [L]) (((Keeps.refl [L] _).drew).trans k1) (by simpa using rl) (by simpa using la.symm) (by simpa using lb.symm)) _ _).mono ?_; rintro e w2 ⟨rfl, g2, k2⟩))
      go_wp2
      go_ret
      have K1 : Keeps [L, LA, LB] w w2 := (HKA.out.sub (by simp)).trans ((((Keeps.refl _ _).drew).trans (k1.sub (by simp))).trans (k2.sub (by simp)))
      exact ⟨_, rfl, ⟨g1.keep k2 (by simp; omega) (by simp; omega), g2, da, db, la, lb, rl⟩, K1⟩
    have hk3 : (o.kind == 3) = false := by simpa using h3
    clear h3
    go_upto_region 11 with fail
    go_cut [8] (fun v wx => v = .slice o.ka (o.keep.take 9).length o.kcap ∧ wx = wc)
    case first =>
      by_cases h9 : o.keep.length ≤ 9
      · go_wp2_with fail
        go_meet
        case rel => exact ⟨by rw [List.length_take, Nat.min_eq_right h9], rfl⟩
      · go_wp2_with fail
        go_meet
        case rel => exact ⟨by rw [List.length_take, Nat.min_eq_left (by omega)], rfl⟩
    case rest =>
      obtain ⟨rfl, rfl⟩ := hcut
      have hkt := (hk.keep HKA.out (by simp)).take 9
      generalize o.keep.take 9 = K at *
      go_wp2_with fail
      refine (crash_any gd o.ka o.kcap K hkt p1).mono ?_
      rintro e w2 ⟨rfl, g1, k1⟩
      have hkt2 := hkt.keep k1 (off_of (by simpa using p1))
      go_wp2_with fail
      refine (r_crash (gr.keep k1 (by simpa using rl) (by simpa using la.symm) (by simpa using lb.symm)) o.ka o.kcap K hkt2 p2 p3).mono ?_
      rintro e w3 ⟨rfl, g2, k2⟩
      go_wp2
      go_ret
      exact ⟨_, rfl, ⟨g1.keep k2 (by simp; omega) (by simp; omega), g2, da, db, la, lb, rl⟩, ((HKA.out.sub (by simp)).trans (k1.sub (by simp))).trans (k2.sub (by simp))⟩
end Go.Proofs.Ytniojglidlmehaa
