/-
  The contracts of package disk: what each call does to a disk, said of its files.
-/
import Derived.Test.YtkkbjkoikidjpaaBase
namespace Go.Proofs.Ytkkbjkoikidjpaa
open Go.RowKit

/-- A file: its bytes, and how many are sure. -/
abbrev DFile := ByteArray × Nat
def fileCells (l : List DFile) : List Value := l.flatMap fun f => [.string f.1, .int .i64 f.2]
def fileSum (l : List DFile) : Nat := (l.map fun f => f.1.size).sum

theorem fileCells_nil : fileCells [] = [] := rfl
theorem fileCells_cons (f : DFile) (l : List DFile) : fileCells (f :: l) = .string f.1 :: .int .i64 f.2 :: fileCells l := rfl
theorem fileCells_len (l : List DFile) : (fileCells l).length = l.length * 2 := by
  induction l with
  | nil => rfl
  | cons f l ih => simp [fileCells_cons, ih]; omega
theorem fileCells_s (l : List DFile) (i : Nat) (h : i < l.length) : (fileCells l)[i * 2]? = some (.string l[i].1) := by
  induction l generalizing i with
  | nil => simp at h
  | cons f l ih =>
    cases i with
    | zero => rfl
    | succ i => simp only [fileCells_cons, Nat.succ_mul, List.getElem?_cons_succ, List.getElem_cons_succ]; exact ih i (by simpa using h)
theorem fileCells_n (l : List DFile) (i : Nat) (h : i < l.length) : (fileCells l)[i * 2 + 1]? = some (.int .i64 l[i].2) := by
  induction l generalizing i with
  | nil => simp at h
  | cons f l ih =>
    cases i with
    | zero => rfl
    | succ i => simp only [fileCells_cons, Nat.succ_mul, List.getElem?_cons_succ, List.getElem_cons_succ]; exact ih i (by simpa using h)
theorem fileCells_set_s (l : List DFile) (i : Nat) (s : ByteArray) (h : i < l.length) : (fileCells l).set (i * 2) (.string s) = fileCells (l.set i (s, l[i].2)) := by
  induction l generalizing i with
  | nil => simp at h
  | cons f l ih =>
    cases i with
    | zero => rfl
    | succ i => simp only [fileCells_cons, Nat.succ_mul, List.set_cons_succ, List.getElem_cons_succ]; rw [ih i (by simpa using h)]
theorem fileCells_set_n (l : List DFile) (i n : Nat) (h : i < l.length) : (fileCells l).set (i * 2 + 1) (.int .i64 n) = fileCells (l.set i (l[i].1, n)) := by
  induction l generalizing i with
  | nil => simp at h
  | cons f l ih =>
    cases i with
    | zero => rfl
    | succ i => simp only [fileCells_cons, Nat.succ_mul, List.set_cons_succ, List.getElem_cons_succ]; rw [ih i (by simpa using h)]

theorem fileSum_take_succ (l : List DFile) (i : Nat) (h : i < l.length) : fileSum (l.take (i + 1)) = fileSum (l.take i) + l[i].1.size := by
  unfold fileSum; rw [List.take_succ_eq_append_getElem h, List.map_append, List.sum_append]; simp only [List.map_cons, List.map_nil, List.sum_cons, List.sum_nil]; omega
theorem fileSum_take_le (l : List DFile) (i : Nat) : fileSum (l.take i) ≤ fileSum l := by
  unfold fileSum
  conv => rhs; rw [← List.take_append_drop i l, List.map_append, List.sum_append]
  omega
theorem fileSum_mem_le (l : List DFile) (i : Nat) (h : i < l.length) : l[i].1.size ≤ fileSum l := by
  have := fileSum_take_succ l i h
  have := fileSum_take_le l (i + 1)
  omega

theorem fileSum_set (l : List DFile) (i : Nat) (f : DFile) (h : i < l.length) : fileSum (l.set i f) = fileSum l - l[i].1.size + f.1.size := by
  induction l generalizing i with
  | nil => simp at h
  | cons g l ih =>
    cases i with
    | zero => simp [fileSum]; omega
    | succ i =>
      have h' : i < l.length := by simpa using h
      have := ih i h'
      have := fileSum_mem_le l i h'
      simp [fileSum] at *
      omega

/-- The disk at block D, its files in block L, the files l, the room. -/
structure DiskAt (w : World) (D L : Nat) (l : List DFile) (room : Nat) : Prop where
  hd : w.heap[D]? = some (.cells #[.slice (some ⟨L, 0, none⟩) l.length l.length, .int .i64 room] 64 (0, 0))
  hl : w.heap[L]? = some (.cells (fileCells l).toArray 75 (0, 0))
  ne : D ≠ L
  few : l.length ≤ 8
  fits : fileSum l ≤ room
  small : room ≤ 16777216
  sure : ∀ i (h : i < l.length), l[i].2 ≤ l[i].1.size

namespace DiskAt
variable {w : World} {D L : Nat} {l : List DFile} {room : Nat}
theorem c0 (h : DiskAt w D L l room) : w.cell? ⟨D, 0, none⟩ = some (.slice (some ⟨L, 0, none⟩) l.length l.length) := by rw [cell_of_heap h.hd]; rfl
theorem c1 (h : DiskAt w D L l room) : w.cell? ⟨D, 1, none⟩ = some (.int .i64 room) := by rw [cell_of_heap h.hd]; rfl
theorem cs (h : DiskAt w D L l room) (i : Nat) (hi : i < l.length) : w.cell? ⟨L, i * 2, none⟩ = some (.string l[i].1) := by
  rw [cell_of_heap h.hl]; simpa using fileCells_s l i hi
theorem cn (h : DiskAt w D L l room) (i : Nat) (hi : i < l.length) : w.cell? ⟨L, i * 2 + 1, none⟩ = some (.int .i64 l[i].2) := by
  rw [cell_of_heap h.hl]; simpa using fileCells_n l i hi
theorem ltD (h : DiskAt w D L l room) : D < w.heap.size := lt_of_heap h.hd
theorem ltL (h : DiskAt w D L l room) : L < w.heap.size := lt_of_heap h.hl
theorem fz (h : DiskAt w D L l room) (o : Nat) : w.frozen? ⟨L, o, none⟩ = false := frozen_of_heap h.hl
theorem keep {w' : World} {S : List Nat} (h : DiskAt w D L l room) (k : Keeps S w w') (h1 : D ∉ S) (h2 : L ∉ S) : DiskAt w' D L l room :=
  ⟨k.heap h1 h.hd, k.heap h2 h.hl, h.ne, h.few, h.fits, h.small, h.sure⟩
end DiskAt

/-- Is there a file? -/
def hasB (n : Nat) (f : Int) : Bool := decide (0 ≤ f) && decide (f < n)

set_option maxHeartbeats 400000 in
theorem has_any {w : World} {D L : Nat} {l : List DFile} {room : Nat} (h : DiskAt w D L l room) (f : Int) :
    Calls Try.prog 49 #[.pointer (some ⟨D, 0, none⟩), .int .i64 f] w fun e w' => e = .returned (.bool (hasB l.length f)) ∧ w = w' := by
  have h0 := h.c0
  have h1 := h.few
  go_enter Try.func49, Try.ntmps49
  go_wp2
  all_goals go_ret
  · exact ⟨ret_bool (by unfold hasB; simp [*]), rfl⟩
  · exact ⟨ret_bool (by unfold hasB; simp; intro; omega), rfl⟩

set_option maxHeartbeats 400000 in
theorem free_any {w : World} {D L : Nat} {l : List DFile} {room : Nat} (h : DiskAt w D L l room) :
    Calls Try.prog 51 #[.pointer (some ⟨D, 0, none⟩)] w fun e w' => e = .returned (.int .i64 (room - fileSum l : Nat)) ∧ Keeps [] w w' := by
  have h0 := h.c0
  have h1 := h.c1
  have h2 := h.few
  have h3 := h.small
  go_enter Try.func51, Try.ntmps51
  go_wp2
  go_loopw [3, 15] (fun n i wr => ∃ k : Nat, k ≤ l.length ∧ i = .int .i64 k ∧ n = .int .i64 (room - fileSum (l.take k) : Nat) ∧ Keeps [] w wr) (fun _ i _ => l.length - (intOf i).toNat)
  case atStart => exact ⟨0, by omega, rfl, rfl, Keeps.refl _ _⟩
  case round =>
    obtain ⟨k, hk, rfl, rfl, hkp⟩ := hrel
    have g := h.keep hkp (by simp) (by simp)
    by_cases hlt : k < l.length
    · have hs := g.cs k hlt
      have hn := g.cn k hlt
      have e1 := fileSum_take_succ l k hlt
      have e2 := fileSum_take_le l (k + 1)
      have e3 := h.fits
      have e4 : fileSum (l.take k) + l[k].1.size ≤ room := by omega
      have E := Lib.hid e1
      clear e1 e2 e3
      go_wp2
      go_roundw
      case rel => exact ⟨k + 1, by omega, by go_num, by rw [E.out]; go_num, (hkp.alloc _)⟩
      case measure => simp [intOf]; omega
    · go_wp2
      go_ret
      exact ⟨ret_int (by rw [List.take_of_length_le (by omega)]), hkp⟩

/-- The file at a place; an empty one where there is none. -/
def fileAt (l : List DFile) (f : Int) : DFile := l[f.toNat]?.getD (ByteArray.empty, 0)
theorem fileAt_eq {l : List DFile} {k : Nat} (h : k < l.length) : fileAt l k = l[k] := by simp [fileAt, h]
theorem hasB_spec {n : Nat} {f : Int} (h : hasB n f = true) : ∃ k : Nat, f = k ∧ k < n := by
  simp [hasB] at h
  exact ⟨f.toNat, by omega, by omega⟩
theorem hasB_of_lt {n k : Nat} (h : k < n) : hasB n k = true := by simp [hasB, h]

def dRead (l : List DFile) (f : Int) : ByteArray := if hasB l.length f then (fileAt l f).1 else ByteArray.empty
def dSure (l : List DFile) (f : Int) : Nat := if hasB l.length f then (fileAt l f).2 else 0
def dAppend (l : List DFile) (room : Nat) (f : Int) (s : ByteArray) : Int × List DFile :=
  if hasB l.length f then if s.size ≤ room - fileSum l then (0, l.set f.toNat ((fileAt l f).1 ++ s, (fileAt l f).2)) else (9, l) else (1, l)
def dSync (l : List DFile) (f : Int) : Int × List DFile :=
  if hasB l.length f then (0, l.set f.toNat ((fileAt l f).1, (fileAt l f).1.size)) else (1, l)

set_option maxHeartbeats 400000 in
theorem read_any {w : World} {D L : Nat} {l : List DFile} {room : Nat} (h : DiskAt w D L l room) (f : Int) :
    Calls Try.prog 27 #[.pointer (some ⟨D, 0, none⟩), .int .i64 f] w fun e w' => e = .returned (.string (dRead l f)) ∧ w = w' := by
  have h0 := h.c0
  have h1 := h.few
  cases hb : hasB l.length f with
  | false =>
    have R : Hid (dRead l f = ByteArray.empty) := by simp [Hid, dRead, hb]
    go_enter Try.func27, Try.ntmps27
    go_wp2_with (go_at_call 49; refine (has_any h _).mono ?_; rintro e w' ⟨rfl, rfl⟩)
    go_ret
    exact ⟨ret_str R.out.symm, rfl⟩
  | true =>
    obtain ⟨k, rfl, hk⟩ := hasB_spec hb
    have R : Hid (dRead l k = l[k].1) := by simp [Hid, dRead, hb, fileAt_eq hk]
    have hs := h.cs k hk
    go_enter Try.func27, Try.ntmps27
    go_wp2_with (go_at_call 49; refine (has_any h _).mono ?_; rintro e w' ⟨rfl, rfl⟩)
    go_ret
    exact ⟨ret_str R.out.symm, rfl⟩

set_option maxHeartbeats 400000 in
theorem sure_any {w : World} {D L : Nat} {l : List DFile} {room : Nat} (h : DiskAt w D L l room) (f : Int) :
    Calls Try.prog 29 #[.pointer (some ⟨D, 0, none⟩), .int .i64 f] w fun e w' => e = .returned (.int .i64 (dSure l f)) ∧ w = w' := by
  have h0 := h.c0
  have h1 := h.few
  cases hb : hasB l.length f with
  | false =>
    have R : Hid (dSure l f = 0) := by simp [Hid, dSure, hb]
    go_enter Try.func29, Try.ntmps29
    go_wp2_with (go_at_call 49; refine (has_any h _).mono ?_; rintro e w' ⟨rfl, rfl⟩)
    go_ret
    exact ⟨ret_int (by rw [R.out]; rfl), rfl⟩
  | true =>
    obtain ⟨k, rfl, hk⟩ := hasB_spec hb
    have R : Hid (dSure l k = l[k].2) := by simp [Hid, dSure, hb, fileAt_eq hk]
    have hs := h.cn k hk
    go_enter Try.func29, Try.ntmps29
    go_wp2_with (go_at_call 49; refine (has_any h _).mono ?_; rintro e w' ⟨rfl, rfl⟩)
    go_ret
    exact ⟨ret_int (by rw [R.out]), rfl⟩


namespace DiskAt
variable {w : World} {D L : Nat} {l : List DFile} {room : Nat}
/-- A store of a file's bytes. -/
theorem putS (h : DiskAt w D L l room) {k : Nat} (hk : k < l.length) {s : ByteArray} (hs : l[k].2 ≤ s.size) (hr : fileSum (l.set k (s, l[k].2)) ≤ room) :
    DiskAt (w.setCell ⟨L, k * 2, none⟩ (.string s)) D L (l.set k (s, l[k].2)) room := by
  refine ⟨?_, ?_, h.ne, by simpa using h.few, hr, h.small, ?_⟩
  · rw [heap_setCell_other h.ne, List.length_set]; exact h.hd
  · rw [heap_setCell_same h.hl, ← fileCells_set_s l k s hk]; simp
  · intro i hi
    by_cases e : k = i
    · subst e; simpa using hs
    · simp only [List.getElem_set_ne e]; exact h.sure i (by simpa using hi)
/-- A store of how many are sure. -/
theorem putN (h : DiskAt w D L l room) {k : Nat} (hk : k < l.length) {n : Nat} (hn : n ≤ l[k].1.size) :
    DiskAt (w.setCell ⟨L, k * 2 + 1, none⟩ (.int .i64 n)) D L (l.set k (l[k].1, n)) room := by
  refine ⟨?_, ?_, h.ne, by simpa using h.few, ?_, h.small, ?_⟩
  · rw [heap_setCell_other h.ne, List.length_set]; exact h.hd
  · rw [heap_setCell_same h.hl, ← fileCells_set_n l k n hk]; simp
  · rw [fileSum_set l k _ hk]; have := h.fits; have := fileSum_mem_le l k hk; simp only; omega
  · intro i hi
    by_cases e : k = i
    · subst e; simpa using hn
    · simp only [List.getElem_set_ne e]; exact h.sure i (by simpa using hi)
/-- A store of a whole file. -/
theorem putB (h : DiskAt w D L l room) {k : Nat} (hk : k < l.length) {s : ByteArray} {n : Nat} (hn : n ≤ s.size) (hr : fileSum (l.set k (s, n)) ≤ room) :
    DiskAt ((w.setCell ⟨L, k * 2, none⟩ (.string s)).setCell ⟨L, k * 2 + 1, none⟩ (.int .i64 n)) D L (l.set k (s, n)) room := by
  refine ⟨?_, ?_, h.ne, by simpa using h.few, hr, h.small, ?_⟩
  · rw [heap_setCell_other h.ne, heap_setCell_other h.ne, List.length_set]; exact h.hd
  · rw [heap_setCell_same (heap_setCell_same h.hl _)]
    have e1 := fileCells_set_s l k s hk
    have e2 := fileCells_set_n (l.set k (s, l[k].2)) k n (by simpa using hk)
    rw [← e1] at e2
    simp at e2
    simp [e2]
  · intro i hi
    by_cases e : k = i
    · subst e; simpa using hn
    · simp only [List.getElem_set_ne e]; exact h.sure i (by simpa using hi)
theorem drew (h : DiskAt w D L l room) : DiskAt w.drew D L l room := ⟨h.hd, h.hl, h.ne, h.few, h.fits, h.small, h.sure⟩
end DiskAt

set_option maxHeartbeats 400000 in
theorem append_any {w : World} {D L : Nat} {l : List DFile} {room : Nat} (h : DiskAt w D L l room) (f : Int) (s : ByteArray) :
    Calls Try.prog 31 #[.pointer (some ⟨D, 0, none⟩), .int .i64 f, .string s] w fun e w' =>
      e = .returned (.int .i64 (dAppend l room f s).1) ∧ DiskAt w' D L (dAppend l room f s).2 room ∧ Keeps [L] w w' := by
  have h0 := h.c0
  have h1 := h.few
  have h2 := h.small
  cases hb : hasB l.length f with
  | false =>
    have R : Hid (dAppend l room f s = (1, l)) := by simp [Hid, dAppend, hb]
    go_enter Try.func31, Try.ntmps31
    go_wp2_with (go_at_call 49; refine (has_any h _).mono ?_; rintro e w' ⟨rfl, rfl⟩)
    go_ret
    rw [R.out]
    exact ⟨rfl, h, Keeps.refl _ _⟩
  | true =>
    obtain ⟨k, rfl, hk⟩ := hasB_spec hb
    by_cases hroom : s.size ≤ room - fileSum l
    · have hs := h.cs k hk
      have h3 := h.fits
      have h4 := fileSum_mem_le l k hk
      have hz : l[k].1.size + s.size ≤ 16777216 := by omega
      have R : Hid (dAppend l room k s = (0, l.set k (l[k].1 ++ s, l[k].2))) := by simp [Hid, dAppend, hb, fileAt_eq hk, hroom]
      clear h3 h4
      go_enter Try.func31, Try.ntmps31
      go_wp2_with (first | (go_at_call 49; refine (has_any h _).mono ?_; rintro e w' ⟨rfl, rfl⟩) | (go_at_call 51; refine (free_any h).mono ?_; rintro e w' ⟨rfl, hkp⟩; have h' := h.keep hkp (by simp) (by simp); have hs' := h'.cs k hk; have h0' := h'.c0; have hz' := h'.fz (k * 2)))
      go_ret
      rw [R.out]
      refine ⟨rfl, h'.putS hk (by have := h.sure k hk; simp; omega) ?_, (hkp.mono (by simp)).setCell (.inl (by simp)) _⟩
      rw [fileSum_set l k _ hk]; have := h.fits; have := fileSum_mem_le l k hk; simp; omega
    · have R : Hid (dAppend l room k s = (9, l)) := by simp [Hid, dAppend, hb, hroom]
      go_enter Try.func31, Try.ntmps31
      go_wp2_with (first | (go_at_call 49; refine (has_any h _).mono ?_; rintro e w' ⟨rfl, rfl⟩) | (go_at_call 51; refine (free_any h).mono ?_; rintro e w' ⟨rfl, hkp⟩))
      go_ret
      rw [R.out]
      exact ⟨rfl, h.keep hkp (by simp) (by simp), hkp.mono (by simp)⟩

set_option maxRecDepth 10000 in
set_option maxHeartbeats 400000 in
theorem sync_any {w : World} {D L : Nat} {l : List DFile} {room : Nat} (h : DiskAt w D L l room) (f : Int) :
    Calls Try.prog 35 #[.pointer (some ⟨D, 0, none⟩), .int .i64 f] w fun e w' =>
      e = .returned (.int .i64 (dSync l f).1) ∧ DiskAt w' D L (dSync l f).2 room ∧ Keeps [L] w w' := by
  have h0 := h.c0
  have h1 := h.few
  have h2 := h.small
  cases hb : hasB l.length f with
  | false =>
    have R : Hid (dSync l f = (1, l)) := by simp [Hid, dSync, hb]
    go_enter Try.func35, Try.ntmps35
    go_wp2_with (go_at_call 49; refine (has_any h _).mono ?_; rintro e w' ⟨rfl, rfl⟩)
    go_ret
    rw [R.out]
    exact ⟨rfl, h, Keeps.refl _ _⟩
  | true =>
    obtain ⟨k, rfl, hk⟩ := hasB_spec hb
    have hs := h.cs k hk
    have hn := h.cn k hk
    have hz := h.fz (k * 2 + 1)
    have R : Hid (dSync l k = (0, l.set k (l[k].1, l[k].1.size))) := by simp [Hid, dSync, hb, fileAt_eq hk]
    go_enter Try.func35, Try.ntmps35
    go_wp2_with (go_at_call 49; refine (has_any h _).mono ?_; rintro e w' ⟨rfl, rfl⟩)
    go_still_tail 16, (by kernel_rfl)
    change wpList _ _ _ _ _ w.drew
    go_wp2
    go_ret
    rw [R.out]
    exact ⟨rfl, (h.putN hk (Nat.le_refl _)).drew, ((Keeps.refl _ _).setCell (.inl (by simp)) _).drew⟩

def dCut (l : List DFile) (f n : Int) : Int × List DFile :=
  if hasB l.length f && decide (0 ≤ n) && decide (n ≤ (fileAt l f).1.size) then (0, l.set f.toNat ((fileAt l f).1.extract 0 n.toNat, n.toNat)) else (1, l)

set_option maxRecDepth 10000 in
set_option maxHeartbeats 400000 in
theorem cut_any {w : World} {D L : Nat} {l : List DFile} {room : Nat} (h : DiskAt w D L l room) (f n : Int) :
    Calls Try.prog 36 #[.pointer (some ⟨D, 0, none⟩), .int .i64 f, .int .i64 n] w fun e w' =>
      e = .returned (.int .i64 (dCut l f n).1) ∧ DiskAt w' D L (dCut l f n).2 room ∧ Keeps [L] w w' := by
  have h0 := h.c0
  have h1 := h.few
  have h2 := h.small
  cases hb : hasB l.length f with
  | false =>
    have R : Hid (dCut l f n = (1, l)) := by simp [Hid, dCut, hb]
    go_enter Try.func36, Try.ntmps36
    go_wp2_with (go_at_call 49; refine (has_any h _).mono ?_; rintro e w' ⟨rfl, rfl⟩)
    go_ret
    rw [R.out]
    exact ⟨rfl, h, Keeps.refl _ _⟩
  | true =>
    obtain ⟨k, rfl, hk⟩ := hasB_spec hb
    have hs := h.cs k hk
    by_cases hn0 : 0 ≤ n
    · by_cases hn1 : n ≤ l[k].1.size
      · obtain ⟨m, rfl⟩ := Int.eq_ofNat_of_zero_le hn0
        have hm : m ≤ l[k].1.size := by omega
        have hb2 : l[k].1.size ≤ 16777216 := by have := h.fits; have := fileSum_mem_le l k hk; omega
        have hz := h.fz (k * 2)
        have hz1 := h.fz (k * 2 + 1)
        have hd : decide ((m : Int) < 0) = false := by simp
        have hcn := h.cn k hk
        have R : Hid (dCut l k m = (0, l.set k (l[k].1.extract 0 m, m))) := by simp [Hid, dCut, hb, fileAt_eq hk, hm]
        go_enter Try.func36, Try.ntmps36
        go_wp2_with (go_at_call 49; refine (has_any h _).mono ?_; rintro e w' ⟨rfl, rfl⟩)
        go_still_tail 18, (by kernel_rfl)
        change wpList _ _ _ _ _ w.drew
        go_wp2
        go_ret
        rw [R.out]
        exact ⟨rfl, (h.putB hk (by rw [ByteArray.size_extract]; omega) (by rw [fileSum_set l k _ hk]; have := h.fits; have := fileSum_mem_le l k hk; simp [ByteArray.size_extract]; omega)).drew,
          (((Keeps.refl _ _).setCell (.inl (by simp)) _).setCell (.inl (by simp)) _).drew⟩
      · have hd : decide (n < 0) = false := by simpa using hn0
        have hd2 : l[k].1.size < n := by omega
        have R : Hid (dCut l k n = (1, l)) := by simp [Hid, dCut, hb, fileAt_eq hk, hn1]
        go_enter Try.func36, Try.ntmps36
        go_wp2_with (go_at_call 49; refine (has_any h _).mono ?_; rintro e w' ⟨rfl, rfl⟩)
        go_ret
        rw [R.out]
        exact ⟨rfl, h, Keeps.refl _ _⟩
    · have hd : decide (n < 0) = true := by simpa using hn0
      have R : Hid (dCut l k n = (1, l)) := by simp [Hid, dCut, hb, fileAt_eq hk, hn0]
      go_enter Try.func36, Try.ntmps36
      go_wp2_with (go_at_call 49; refine (has_any h _).mono ?_; rintro e w' ⟨rfl, rfl⟩)
      go_ret
      rw [R.out]
      exact ⟨rfl, h, Keeps.refl _ _⟩
end Go.Proofs.Ytkkbjkoikidjpaa
