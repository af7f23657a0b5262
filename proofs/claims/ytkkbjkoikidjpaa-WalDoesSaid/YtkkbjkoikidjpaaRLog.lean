/-
  The reference's log: its Open, Append, Sync.
-/
import Derived.Test.YtkkbjkoikidjpaaWalRRead
import Derived.Test.YtkkbjkoikidjpaaWRefDiskC
import Derived.Test.YtkkbjkoikidjpaaWalKept
import Derived.StillTailTactics
namespace Go.Proofs.Ytkkbjkoikidjpaa
open Go.RowKit

/-- The reference's log at block P: its disk at block D, its records in an own row above B. -/
structure RLogAt (w : World) (P D B : Nat) (v : Value) (l : List ByteArray) (sure : Int) (halted : Bool) : Prop where
  h : w.heap[P]? = some (.cells #[.pointer (some ⟨D, 0, none⟩), v, .int .i64 sure, .bool halted] 53 (0, 0))
  row : StrRow w B v l
  ne : ∀ g, v.ownBlock = some g → g ≠ P
  le : B ≤ P
namespace RLogAt
variable {w : World} {P D B : Nat} {v : Value} {l : List ByteArray} {sure : Int} {halted : Bool}
theorem c0 (h : RLogAt w P D B v l sure halted) : w.cell? ⟨P, 0, none⟩ = some (.pointer (some ⟨D, 0, none⟩)) := by rw [cell_of_heap h.h]; rfl
theorem c1 (h : RLogAt w P D B v l sure halted) : w.cell? ⟨P, 1, none⟩ = some v := by rw [cell_of_heap h.h]; rfl
theorem c2 (h : RLogAt w P D B v l sure halted) : w.cell? ⟨P, 2, none⟩ = some (.int .i64 sure) := by rw [cell_of_heap h.h]; rfl
theorem c3 (h : RLogAt w P D B v l sure halted) : w.cell? ⟨P, 3, none⟩ = some (.bool halted) := by rw [cell_of_heap h.h]; rfl
theorem fz (h : RLogAt w P D B v l sure halted) (o : Nat) : w.frozen? ⟨P, o, none⟩ = false := frozen_of_heap h.h
theorem lt (h : RLogAt w P D B v l sure halted) : P < w.heap.size := lt_of_heap h.h
theorem own (h : RLogAt w P D B v l sure halted) : ∀ g, v.ownBlock = some g → B ≤ g ∧ g < w.heap.size := fun g hg => World.ownsRow.lt h.row g hg
theorem keep {w' : World} {S : List Nat} (h : RLogAt w P D B v l sure halted) (k : Keeps S w w') (hP : P ∉ S) (hS : ∀ g, v.ownBlock = some g → g ∉ S) : RLogAt w' P D B v l sure halted := ⟨k.heap hP h.h, h.row.keep k hS, h.ne, h.le⟩
theorem setSure (h : RLogAt w P D B v l sure halted) (n : Int) : RLogAt (w.setCell ⟨P, 2, none⟩ (.int .i64 n)) P D B v l n halted :=
  ⟨by rw [heap_setCell_same h.h]; rfl, h.row.keep ((Keeps.refl [P] w).setCell (.inl (by simp)) _) (fun g hg => by have := h.ne g hg; simpa using this), h.ne, h.le⟩
theorem setHalt (h : RLogAt w P D B v l sure halted) (b : Bool) : RLogAt (w.setCell ⟨P, 3, none⟩ (.bool b)) P D B v l sure b :=
  ⟨by rw [heap_setCell_same h.h]; rfl, h.row.keep ((Keeps.refl [P] w).setCell (.inl (by simp)) _) (fun g hg => by have := h.ne g hg; simpa using this), h.ne, h.le⟩
theorem setRow (h : RLogAt w P D B v l sure halted) {w' : World} {v' : Value} {l' : List ByteArray} {S : List Nat} (k : Keeps S w w') (hP : P ∉ S) (hr : StrRow w' B v' l') (hne : ∀ g, v'.ownBlock = some g → g ≠ P) : RLogAt (w'.setCell ⟨P, 1, none⟩ v') P D B v' l' sure halted :=
  ⟨by rw [heap_setCell_same (k.heap hP h.h)]; rfl, hr.keep ((Keeps.refl [P] w').setCell (.inl (by simp)) _) (fun g hg => by have := hne g hg; simpa using this), hne, h.le⟩
end RLogAt

set_option maxRecDepth 100000 in
set_option maxHeartbeats 4000000 in
theorem ropen_l {w : World} {D LA LB : Nat} {a b : DFile} {room : Nat} (hD : RefAt w D LA LB [a, b] room) :
    Calls Try.prog 22 #[.pointer (some ⟨D, 0, none⟩)] w fun e w' => ∃ P v, e = .returned (.tuple #[.pointer (some ⟨P, 0, none⟩), .int .i64 0]) ∧
      RLogAt w' P D w.heap.size v (lOpen [a, b]).1 (lOpen [a, b]).1.length false ∧ RefAt w' D LA LB (lOpen [a, b]).2 room ∧ Keeps [LA, LB] w w' := by
  have CC := r_cut hD 1 0
  rw [two_cut1] at CC
  dsimp only at CC
  have hsz : a.1.size ≤ 16777216 := hD.sz 0 (by show 0 < 2; decide)
  have RC := fun w => rread_c (w := w) a.1 hsz
  have hfz := framesSize_read_le a.1
  have C2 := fun (w' : World) (h : RefAt w' D LA LB [a, (⟨#[]⟩, 0)] room) => r_cut h 0 (framesSize (wRead a.1))
  rw [two_cut0 _ _ _ hfz] at C2
  dsimp only at C2
  have HO := Go.Lib.hid (two_open a b)
  have hx : dRead [a, (⟨#[]⟩, 0)] 0 = a.1 := rfl
  have RD := fun (w' : World) (h : RefAt w' D LA LB [a, (⟨#[]⟩, 0)] room) => r_read h 0
  rw [hx] at RD
  have c0 : w.cell? ⟨D, 0, none⟩ = some (.slice (some ⟨LA, 0, none⟩) 2 2) := hD.c0
  have lD := hD.ltD
  have lA := hD.ltA
  have lB := hD.ltB
  have n1 := hD.ne1
  have n2 := hD.ne2
  clear hx hD
  generalize lOpen [a, b] = lo at *
  generalize wRead a.1 = l at *
  generalize framesSize l = n at *
  go_enter Try.func22, Try.ntmps22
  go_wp2_with fail
  refine CC.mono ?_
  rintro e w1 ⟨rfl, hD1, k1⟩
  clear CC c0
  go_wp2_with fail
  refine (RD _ hD1).mono ?_
  rintro e w2 ⟨rfl, m2, hw2⟩
  have k2 : Keeps [] w1 w2 := by rw [hw2]; exact (Keeps.refl _ _).drewN _
  clear hw2
  have hD2 := hD1.keep k2 (by simp) (by simp) (by simp)
  go_wp2_with fail
  refine (RC _).mono ?_
  rintro e w3 ⟨v, rfl, hv, k3⟩
  have hD3 := hD2.keep k3 (by simp) (by simp) (by simp)
  have hs1 := k1.size
  have hs2 := k2.size
  have hs3 := k3.size
  have hvb := World.ownsRow.lt hv
  go_wp2_with fail
  refine (C2 _ hD3).mono ?_
  rintro e w4 ⟨rfl, hD4, k4⟩
  have hv4 := hv.keep k4 (fun g hg => by have := hvb g hg; simp; omega)
  have K4 : Keeps [LA, LB] w w4 := (((k1.trans (k2.sub (by simp))).trans (k3.sub (by simp))).trans k4)
  have hs4 := k4.size
  obtain ⟨a5, c5, rfl⟩ := row_len hv4.rowOf
  clear RC C2 RD hD1 hD2 hD3 hv k1 k2 k3 k4
  go_wp2_with fail
  go_ret2
  have hL : RLogAt (w4.alloc (.cells #[.pointer (some ⟨D, 0, none⟩), .slice a5 l.length c5, .int .i64 l.length, .bool false] 53)) w4.heap.size D w.heap.size _ l l.length false :=
    ⟨heap_alloc_same, (hv4.keep ((Keeps.refl [] _).alloc _) (fun _ _ => by simp)).base (by omega), fun g hg => by have := hvb g hg; omega, by omega⟩
  rw [HO.out]
  exact ⟨w4.heap.size, _, rfl, hL, hD4.keep ((Keeps.refl [] _).alloc _) (by simp) (by simp) (by simp), K4.alloc _⟩

set_option maxRecDepth 100000 in
set_option maxHeartbeats 4000000 in
theorem rlsync_l {w : World} {P D B LA LB : Nat} {v : Value} {l : List ByteArray} {sure : Int} {halted : Bool} {fs : List DFile} {room : Nat} (hL : RLogAt w P D B v l sure halted) (hD : RefAt w D LA LB fs room) (hDB : D < B) (hAB : LA < B) (hBB : LB < B) :
    Calls Try.prog 24 #[.pointer (some ⟨P, 0, none⟩)] w fun e w' => e = .returned (.int .i64 (lSync fs l sure halted).1) ∧ RLogAt w' P D B v l (lSync fs l sure halted).2.1 halted ∧ RefAt w' D LA LB (lSync fs l sure halted).2.2 room ∧ Keeps [P, LA, LB] w w' := by
  have c0 := hL.c0
  have c1 := hL.c1
  have c2 := hL.c2
  have c3 := hL.c3
  have z2 := hL.fz 2
  have hBP := hL.le
  have hown := hL.own
  obtain ⟨a5, c5, rfl⟩ := row_len hL.row.rowOf
  go_enter Try.func24, Try.ntmps24
  cases halted with
  | true =>
    go_wp2_with fail
    go_ret
    exact ⟨rfl, hL, hD, Keeps.refl _ _⟩
  | false =>
    go_upto_region 4 with fail
    obtain ⟨w1, hw1⟩ : ∃ w1, w1 = w.setCell ⟨P, 2, none⟩ (.int .i64 l.length) := ⟨_, rfl⟩
    have hL1 := hL.setSure (l.length : Int)
    have k1 : Keeps [P] w w1 := by rw [hw1]; exact (Keeps.refl _ _).setCell (.inl (by simp)) _
    rw [← hw1] at hL1 ⊢
    have hD1 := hD.keep k1 (by simp; omega) (by simp; omega) (by simp; omega)
    have SC := r_sync hD1 0
    have c0 := hL1.c0
    clear hw1 c1 c2 c3 z2 hL hD
    generalize hq : dSync fs 0 = q at *
    have HQ : Hid (lSync fs l sure false = (q.1, (l.length : Int), q.2)) := by show _ = _; unfold lSync; rw [if_neg (by simp), hq]
    clear hq
    go_wp2_with fail
    refine SC.mono ?_
    rintro e w2 ⟨rfl, hD2, k2⟩
    go_wp2
    go_ret
    rw [HQ.out]
    exact ⟨rfl, hL1.keep k2 (by simp; omega) (fun g hg => by have := hown g hg; simp; omega), hD2, (k1.sub (by simp)).trans (k2.sub (by simp))⟩
end Go.Proofs.Ytkkbjkoikidjpaa
