/-
  The contracts of the document's answer for disks: it does what package disk does, said of the same files.
-/
import Derived.Test.YtkkbjkoikidjpaaWDiskC
import Derived.Test.YtkkbjkoikidjpaaWalRows
namespace Go.Proofs.Ytkkbjkoikidjpaa
open Go.RowKit

/-- What is sure of a file, and what is not. -/
def fA (f : DFile) : ByteArray := f.1.extract 0 f.2
def fB (f : DFile) : ByteArray := f.1.extract f.2 f.1.size
def rStrs (g : DFile → ByteArray) (l : List DFile) : List Value := l.map fun f => .string (g f)
theorem rStrs_at (g : DFile → ByteArray) (l : List DFile) (i : Nat) (h : i < l.length) : (rStrs g l)[i]? = some (.string (g l[i])) := by simp [rStrs, h]
theorem rStrs_set (g : DFile → ByteArray) (l : List DFile) (i : Nat) (f : DFile) : (rStrs g l).set i (.string (g f)) = rStrs g (l.set i f) := by
  simp [rStrs, List.map_set]
theorem fA_B (f : DFile) (h : f.2 ≤ f.1.size) : fA f ++ fB f = f.1 := ba_part f.1 f.2 h
theorem size_fA (f : DFile) (h : f.2 ≤ f.1.size) : (fA f).size = f.2 := by simp [fA, ByteArray.size_extract]; omega
theorem size_fB (f : DFile) : (fB f).size = f.1.size - f.2 := by simp [fB, ByteArray.size_extract]

/-- The reference's disk at block D, its two rows in LA and LB, the files l. -/
structure RefAt (w : World) (D LA LB : Nat) (l : List DFile) (room : Nat) : Prop where
  hd : w.heap[D]? = some (.cells #[.slice (some ⟨LA, 0, none⟩) l.length l.length, .slice (some ⟨LB, 0, none⟩) l.length l.length, .int .i64 room] 77 (0, 0))
  ha : w.heap[LA]? = some (.cells (rStrs fA l).toArray 9 (0, 0))
  hb : w.heap[LB]? = some (.cells (rStrs fB l).toArray 9 (0, 0))
  ne1 : D ≠ LA
  ne2 : D ≠ LB
  ne3 : LA ≠ LB
  few : l.length ≤ 8
  fits : fileSum l ≤ room
  small : room ≤ 16777216
  sure : ∀ i (h : i < l.length), l[i].2 ≤ l[i].1.size

namespace RefAt
variable {w : World} {D LA LB : Nat} {l : List DFile} {room : Nat}
theorem c0 (h : RefAt w D LA LB l room) : w.cell? ⟨D, 0, none⟩ = some (.slice (some ⟨LA, 0, none⟩) l.length l.length) := by rw [cell_of_heap h.hd]; rfl
theorem c1 (h : RefAt w D LA LB l room) : w.cell? ⟨D, 1, none⟩ = some (.slice (some ⟨LB, 0, none⟩) l.length l.length) := by rw [cell_of_heap h.hd]; rfl
theorem c2 (h : RefAt w D LA LB l room) : w.cell? ⟨D, 2, none⟩ = some (.int .i64 room) := by rw [cell_of_heap h.hd]; rfl
theorem ca (h : RefAt w D LA LB l room) (i : Nat) (hi : i < l.length) : w.cell? ⟨LA, i, none⟩ = some (.string (fA l[i])) := by
  rw [cell_of_heap h.ha]; simpa using rStrs_at fA l i hi
theorem cb (h : RefAt w D LA LB l room) (i : Nat) (hi : i < l.length) : w.cell? ⟨LB, i, none⟩ = some (.string (fB l[i])) := by
  rw [cell_of_heap h.hb]; simpa using rStrs_at fB l i hi
theorem fza (h : RefAt w D LA LB l room) (o : Nat) : w.frozen? ⟨LA, o, none⟩ = false := frozen_of_heap h.ha
theorem fzb (h : RefAt w D LA LB l room) (o : Nat) : w.frozen? ⟨LB, o, none⟩ = false := frozen_of_heap h.hb
theorem ltD (h : RefAt w D LA LB l room) : D < w.heap.size := lt_of_heap h.hd
theorem ltA (h : RefAt w D LA LB l room) : LA < w.heap.size := lt_of_heap h.ha
theorem ltB (h : RefAt w D LA LB l room) : LB < w.heap.size := lt_of_heap h.hb
theorem keep {w' : World} {S : List Nat} (h : RefAt w D LA LB l room) (k : Keeps S w w') (h1 : D ∉ S) (h2 : LA ∉ S) (h3 : LB ∉ S) : RefAt w' D LA LB l room :=
  ⟨k.heap h1 h.hd, k.heap h2 h.ha, k.heap h3 h.hb, h.ne1, h.ne2, h.ne3, h.few, h.fits, h.small, h.sure⟩
theorem sz (h : RefAt w D LA LB l room) (i : Nat) (hi : i < l.length) : l[i].1.size ≤ 16777216 := by
  have := fileSum_mem_le l i hi; have := h.fits; have := h.small; omega
/-- One file stored anew: both halves. -/
theorem put (h : RefAt w D LA LB l room) {k : Nat} {f : DFile} (hf : f.2 ≤ f.1.size) (hr : fileSum (l.set k f) ≤ room) {w' : World}
    (hd' : w'.heap[D]? = w.heap[D]?) (ha' : w'.heap[LA]? = some (.cells ((rStrs fA l).set k (.string (fA f))).toArray 9 (0, 0)))
    (hb' : w'.heap[LB]? = some (.cells ((rStrs fB l).set k (.string (fB f))).toArray 9 (0, 0))) : RefAt w' D LA LB (l.set k f) room := by
  refine ⟨by rw [hd', List.length_set]; exact h.hd, by rw [ha', rStrs_set], by rw [hb', rStrs_set], h.ne1, h.ne2, h.ne3, by simpa using h.few, hr, h.small, fun i hi => ?_⟩
  by_cases e : k = i
  · subst e; simpa using hf
  · simp only [List.getElem_set_ne e]; exact h.sure i (by simpa using hi)
end RefAt

set_option maxRecDepth 100000 in
set_option maxHeartbeats 400000 in
theorem r_has {w : World} {D LA LB : Nat} {l : List DFile} {room : Nat} (h : RefAt w D LA LB l room) (f : Int) :
    Calls Try.prog 50 #[.pointer (some ⟨D, 0, none⟩), .int .i64 f] w fun e w' => e = .returned (.bool (hasB l.length f)) ∧ w = w' := by
  have h0 := h.c0
  have h1 := h.few
  go_enter Try.func50, Try.ntmps50
  go_wp2
  all_goals go_ret
  · exact ⟨ret_bool (by unfold hasB; simp [*]), rfl⟩
  · exact ⟨ret_bool (by unfold hasB; simp; intro; omega), rfl⟩

/-- What holds at a round's head. -/
def RFreeRel (w : World) (l : List DFile) (room : Nat) (n i : Value) (wr : World) : Prop :=
  ∃ k : Nat, k ≤ l.length ∧ i = .int .i64 k ∧ n = .int .i64 (room - fileSum (l.take k) : Nat) ∧ Keeps [] w wr

set_option maxRecDepth 100000 in
set_option maxHeartbeats 1000000 in
theorem r_free {w : World} {D LA LB : Nat} {l : List DFile} {room : Nat} (h : RefAt w D LA LB l room) :
    Calls Try.prog 58 #[.pointer (some ⟨D, 0, none⟩)] w fun e w' => e = .returned (.int .i64 (room - fileSum l : Nat)) ∧ Keeps [] w w' := by
  have h0 := h.c0
  have h1 := h.c1
  have h2 := h.few
  have h3 := h.small
  have h5 := h.c2
  go_enter Try.func58, Try.ntmps58
  go_wp2
  go_loopw [3, 4] (fun n i wr => RFreeRel w l room n i wr) (fun _ i _ => l.length - (intOf i).toNat)
  case atStart => exact ⟨0, by omega, rfl, rfl, Keeps.refl _ _⟩
  case round =>
    obtain ⟨k, hk, rfl, rfl, hkp⟩ := hrel
    have g := h.keep hkp (by simp) (by simp) (by simp)
    have g0 := g.c0
    have g1 := g.c1
    by_cases hlt : k < l.length
    · have hs := g.ca k hlt
      have hn := g.cb k hlt
      have e1 := fileSum_take_succ l k hlt
      have e2 := fileSum_take_le l (k + 1)
      have e3 := h.fits
      have z1 := size_fA l[k] (h.sure k hlt)
      have z2 := size_fB l[k]
      have z3 := h.sure k hlt
      have e4 : fileSum (l.take k) + ((fA l[k]).size + (fB l[k]).size) ≤ room := by omega
      have e5 : room - fileSum (l.take (k + 1)) = room - fileSum (l.take k) - (fA l[k]).size - (fB l[k]).size := by omega
      have E := Lib.hid e5
      clear e1 e2 e3 e5 z1 z2 z3
      go_wp2
      go_quiet (fail)
      go_wp2
      go_roundw
      case rel => exact ⟨k + 1, by omega, by go_num, by rw [E.out]; go_num, hkp.drewN _⟩
      case measure => simp [intOf]; omega
    · go_wp2
      go_ret
      exact ⟨ret_int (by rw [List.take_of_length_le (by omega)]), hkp⟩

set_option maxRecDepth 100000 in
set_option maxHeartbeats 400000 in
theorem r_read {w : World} {D LA LB : Nat} {l : List DFile} {room : Nat} (h : RefAt w D LA LB l room) (f : Int) :
    Calls Try.prog 28 #[.pointer (some ⟨D, 0, none⟩), .int .i64 f] w fun e w' => e = .returned (.string (dRead l f)) ∧ ∃ n, w' = w.drewN n := by
  have h0 := h.c0
  have h1 := h.c1
  have h2 := h.few
  cases hb : hasB l.length f with
  | false =>
    have R : Hid (dRead l f = ByteArray.empty) := by simp [Hid, dRead, hb]
    go_enter Try.func28, Try.ntmps28
    go_wp2_with (go_at_call 50; refine (r_has h _).mono ?_; rintro e w' ⟨rfl, rfl⟩)
    go_ret
    exact ⟨ret_str R.out.symm, 0, rfl⟩
  | true =>
    obtain ⟨k, rfl, hk⟩ := hasB_spec hb
    have R : Hid (dRead l k = fA l[k] ++ fB l[k]) := by rw [fA_B _ (h.sure k hk)]; simp [Hid, dRead, hb, fileAt_eq hk]
    have ha := h.ca k hk
    have hbb := h.cb k hk
    have z1 := size_fA l[k] (h.sure k hk)
    have z2 := size_fB l[k]
    have z3 := h.sure k hk
    have z4 := h.sz k hk
    have z5 : (fA l[k]).size + (fB l[k]).size ≤ 16777216 := by omega
    clear z1 z2 z3 z4
    go_enter Try.func28, Try.ntmps28
    go_wp2_with (go_at_call 50; refine (r_has h _).mono ?_; rintro e w' ⟨rfl, rfl⟩)
    go_quiet (fail)
    go_wp2
    go_ret
    exact ⟨ret_str R.out.symm, _, rfl⟩

set_option maxRecDepth 100000 in
set_option maxHeartbeats 400000 in
theorem r_sure {w : World} {D LA LB : Nat} {l : List DFile} {room : Nat} (h : RefAt w D LA LB l room) (f : Int) :
    Calls Try.prog 30 #[.pointer (some ⟨D, 0, none⟩), .int .i64 f] w fun e w' => e = .returned (.int .i64 (dSure l f)) ∧ w = w' := by
  have h0 := h.c0
  have h1 := h.few
  cases hb : hasB l.length f with
  | false =>
    have R : Hid (dSure l f = 0) := by simp [Hid, dSure, hb]
    go_enter Try.func30, Try.ntmps30
    go_wp2_with (go_at_call 50; refine (r_has h _).mono ?_; rintro e w' ⟨rfl, rfl⟩)
    go_ret
    exact ⟨ret_int (by rw [R.out]; rfl), rfl⟩
  | true =>
    obtain ⟨k, rfl, hk⟩ := hasB_spec hb
    have R : Hid (dSure l k = (fA l[k]).size) := by rw [size_fA _ (h.sure k hk)]; simp [Hid, dSure, hb, fileAt_eq hk]
    have hs := h.ca k hk
    go_enter Try.func30, Try.ntmps30
    go_wp2_with (go_at_call 50; refine (r_has h _).mono ?_; rintro e w' ⟨rfl, rfl⟩)
    go_ret
    exact ⟨ret_int (by rw [R.out]), rfl⟩
end Go.Proofs.Ytkkbjkoikidjpaa
