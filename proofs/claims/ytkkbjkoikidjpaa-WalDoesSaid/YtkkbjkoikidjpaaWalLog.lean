/-
  The contracts of package wal: a log's Append, Sync.
-/
import Derived.Test.YtkkbjkoikidjpaaWalFrame
import Derived.Test.YtkkbjkoikidjpaaWalRows
import Derived.Test.YtkkbjkoikidjpaaWDiskC
namespace Go.Proofs.Ytkkbjkoikidjpaa
open Go.RowKit

/-- A log at block P: its disk at block D, its records, how many are sure, whether it was cut off. -/
structure LogAt (w : World) (P D : Nat) (v : Value) (l : List ByteArray) (sure : Int) (halted : Bool) : Prop where
  h : w.heap[P]? = some (.cells #[.pointer (some ⟨D, 0, none⟩), v, .int .i64 sure, .bool halted] 68 (0, 0))
  row : StrRow w (P + 1) v l
namespace LogAt
variable {w : World} {P D : Nat} {v : Value} {l : List ByteArray} {sure : Int} {halted : Bool}
theorem c0 (h : LogAt w P D v l sure halted) : w.cell? ⟨P, 0, none⟩ = some (.pointer (some ⟨D, 0, none⟩)) := by rw [cell_of_heap h.h]; rfl
theorem c1 (h : LogAt w P D v l sure halted) : w.cell? ⟨P, 1, none⟩ = some v := by rw [cell_of_heap h.h]; rfl
theorem c2 (h : LogAt w P D v l sure halted) : w.cell? ⟨P, 2, none⟩ = some (.int .i64 sure) := by rw [cell_of_heap h.h]; rfl
theorem c3 (h : LogAt w P D v l sure halted) : w.cell? ⟨P, 3, none⟩ = some (.bool halted) := by rw [cell_of_heap h.h]; rfl
theorem fz (h : LogAt w P D v l sure halted) (o : Nat) : w.frozen? ⟨P, o, none⟩ = false := frozen_of_heap h.h
theorem lt (h : LogAt w P D v l sure halted) : P < w.heap.size := lt_of_heap h.h
theorem own (h : LogAt w P D v l sure halted) : ∀ g, v.ownBlock = some g → P < g ∧ g < w.heap.size := fun g hg => by have := World.ownsRow.lt h.row g hg; omega
theorem keep {w' : World} {S : List Nat} (h : LogAt w P D v l sure halted) (k : Keeps S w w') (hP : P ∉ S) (hS : ∀ g, v.ownBlock = some g → g ∉ S) : LogAt w' P D v l sure halted := ⟨k.heap hP h.h, h.row.keep k hS⟩
theorem len (h : LogAt w P D v l sure halted) : (∃ a c, v = .slice a l.length c) := by
  rcases h.row.form with ⟨e, e2⟩ | ⟨g, cap, e, _⟩
  · exact ⟨none, 0, by rw [e, e2]; rfl⟩
  · exact ⟨_, _, e⟩
end LogAt

theorem frame_small (s : ByteArray) : (wFrame s).size ≤ 4106 := by
  by_cases h : 1 ≤ s.size ∧ s.size ≤ 4096
  · rw [wFrame_size h]; omega
  · rw [wFrame, if_neg h]; show 0 ≤ _; omega

theorem Keeps.ofGrown {w w' : World} {row : Option Nat} (g : w.grownBy w' row) : Keeps row.toList w w' :=
  ⟨g.os, g.tape, g.output, g.size, fun k hk hn => g.block k hk (fun e => hn (by rw [← e]; simp))⟩
theorem log_grown {w w1 w2 : World} {P D L : Nat} {v : Value} {l : List ByteArray} {sure : Int} {halted : Bool} {fs : List DFile} {room : Nat} {s : ByteArray} {g cap : Nat} (hL : LogAt w1 P D v l sure halted) (hD : DiskAt w1 D L fs room) (hDP : D < P) (hLP : L < P)
    (K : Keeps (P :: L :: v.ownBlock.toList) w w1) (hg : StrRow w2 (P + 1) (.slice (some ⟨g, 0, none⟩) (l.length + 1) cap) (l ++ [s])) (hw : (w1.alloc (.cells #[.string s] 9)).grownBy w2 v.ownBlock) :
    w2.cell? ⟨P, 1, none⟩ = some v ∧ w2.frozen? ⟨P, 1, none⟩ = false ∧ LogAt (w2.setCell ⟨P, 1, none⟩ (.slice (some ⟨g, 0, none⟩) (l.length + 1) cap)) P D (.slice (some ⟨g, 0, none⟩) (l.length + 1) cap) (l ++ [s]) sure halted ∧
      DiskAt (w2.setCell ⟨P, 1, none⟩ (.slice (some ⟨g, 0, none⟩) (l.length + 1) cap)) D L fs room ∧ Keeps (P :: L :: v.ownBlock.toList) w (w2.setCell ⟨P, 1, none⟩ (.slice (some ⟨g, 0, none⟩) (l.length + 1) cap)) := by
  have hown := hL.own
  have k2 : Keeps v.ownBlock.toList w1 w2 := ((Keeps.refl _ _).alloc _).trans (Keeps.ofGrown hw)
  have off : ∀ b, b ≤ P → b ∉ v.ownBlock.toList := fun b hb hm => by
    cases hv : v.ownBlock with
    | none => rw [hv] at hm; cases hm
    | some g => rw [hv] at hm; simp at hm; have := hown g hv; omega
  have hP2 := k2.heap (off P (by omega)) hL.h
  have gP : P + 1 ≤ g := by have := World.ownsRow.lt hg g rfl; omega
  refine ⟨(cell_of_heap hP2).trans rfl, frozen_of_heap hP2, ⟨by rw [heap_setCell_same hP2]; rfl, ?_⟩, ?_, ?_⟩
  · exact hg.keep ((Keeps.refl [P] _).setCell (.inl (by simp)) _) (fun g' h => by cases h; simp; omega)
  · exact (hD.keep k2 (off D (by omega)) (off L (by omega))).keep ((Keeps.refl [P] _).setCell (.inl (by simp)) _) (by simp; omega) (by simp; omega)
  · exact (K.trans (k2.sub (fun k hk => by simp [hk]))).setCell (.inl (by simp)) _

/-- A record put behind: what is told, the files, the records. -/
def lAppend (fs : List DFile) (room : Nat) (l : List ByteArray) (halted : Bool) (s : ByteArray) : Int × List DFile × List ByteArray :=
  if halted then (8, fs, l) else if (wFrame s).size = 0 then (1, fs, l) else ((dAppend fs room 0 (wFrame s)).1, (dAppend fs room 0 (wFrame s)).2, if (dAppend fs room 0 (wFrame s)).1 = 0 then l ++ [s] else l)

set_option maxRecDepth 10000 in
set_option maxHeartbeats 4000000 in
theorem append_l {w : World} {P D L : Nat} {v : Value} {l : List ByteArray} {sure : Int} {halted : Bool} {fs : List DFile} {room : Nat} (hL : LogAt w P D v l sure halted) (hD : DiskAt w D L fs room) (hDP : D < P) (hLP : L < P) (s : ByteArray) (hs : s.size ≤ 1048576) (hl : l.length ≤ 1000) :
    Calls Try.prog 11 #[.pointer (some ⟨P, 0, none⟩), .string s] w fun e w' => e = .returned (.int .i64 (lAppend fs room l halted s).1) ∧
      ∃ v', LogAt w' P D v' (lAppend fs room l halted s).2.2 sure halted ∧ DiskAt w' D L (lAppend fs room l halted s).2.1 room ∧ Keeps (P :: L :: v.ownBlock.toList) w w' ∧ (v'.ownBlock = v.ownBlock ∨ ∃ g, v'.ownBlock = some g ∧ w.heap.size ≤ g) := by
  have FC := fun w => frame_c (w := w) s hs
  have hfs := frame_small s
  have hown := hL.own
  obtain ⟨f, hf⟩ : ∃ f, f = wFrame s := ⟨_, rfl⟩
  have HA : Hid (lAppend fs room l halted s = if halted then (8, fs, l) else if f.size = 0 then (1, fs, l) else ((dAppend fs room 0 f).1, (dAppend fs room 0 f).2, if (dAppend fs room 0 f).1 = 0 then l ++ [s] else l)) := by rw [hf]; rfl
  rw [← hf] at FC hfs
  clear hf
  obtain ⟨r, hr⟩ : ∃ r, r = lAppend fs room l halted s := ⟨_, rfl⟩
  rw [← hr] at HA ⊢
  clear hr
  go_enter Try.func11, Try.ntmps11
  go_wp2_with fail
  refine (FC _).mono ?_
  rintro e w1 ⟨rfl, k1⟩
  have hP1 := hL.lt
  have hL1 := hL.keep k1 (by simp) (fun _ _ => by simp)
  have hD1 := hD.keep k1 (by simp) (by simp)
  have c3 := hL1.c3
  cases halted with
  | true =>
    go_wp2
    go_ret
    rw [HA.out]
    exact ⟨rfl, v, hL1, hD1, k1.sub (by simp), .inl rfl⟩
  | false =>
    by_cases h0 : f.size = 0
    · have e := str_empty h0
      subst e
      go_wp2
      go_ret
      rw [HA.out, if_neg (by simp), if_pos h0]
      exact ⟨rfl, v, hL1, hD1, k1.sub (by simp), .inl rfl⟩
    · have e3 := str_ne h0
      have c0 := hL1.c0
      have AC := fun w (h : DiskAt w D L fs room) => append_any h 0 f
      have HA2 : Hid (r = ((dAppend fs room 0 f).1, (dAppend fs room 0 f).2, if (dAppend fs room 0 f).1 = 0 then l ++ [s] else l)) := by
        show r = _
        rw [HA.out, if_neg (by simp), if_neg h0]
      clear HA
      generalize dAppend fs room 0 f = q at *
      obtain ⟨q, fs2⟩ := q
      dsimp only at AC HA2
      go_wp2_with fail
      refine (AC _ hD1).mono ?_
      rintro e w2 ⟨rfl, hD2, k2⟩
      have hL2 := hL1.keep k2 (by simp; omega) (fun g hg => by have := hown g hg; simp; omega)
      have K2 := (k1.sub (by simp) : Keeps (P :: L :: v.ownBlock.toList) w w1).trans (k2.sub (by simp))
      clear c0 c3 AC FC
      by_cases hq : q = 0
      · subst hq
        have hlen := hL2.len
        have c1 := hL2.c1
        have hrow : StrRow (w2.alloc (.cells #[.string s] 9)) (P + 1) v l := hL2.row.keep ((Keeps.refl [] w2).alloc _) (fun _ _ => by simp)
        have hsz := K2.size
        go_wp2_with (at_builtin; refine wpList_append_str rfl (.tmp 29) (.tmp 31) rfl (P + 1) v l rfl hrow ⟨w2.heap.size, 0, none⟩ s rfl ?c1 ?c2 ?c3 ?_)
        case c1 => simp
        case c2 => omega
        case c3 => simp; omega
        intro g cap w3 hg hw hor
        obtain ⟨d1, z1, hL4, hD4, K4⟩ := log_grown hL2 hD2 hDP hLP K2 hg hw
        have hor2 : Value.ownBlock (.slice (some ⟨g, 0, none⟩) (l.length + 1) cap) = v.ownBlock ∨ ∃ g', Value.ownBlock (.slice (some ⟨g, 0, none⟩) (l.length + 1) cap) = some g' ∧ w.heap.size ≤ g' := by
          rcases hor with e | e
          · exact .inl e.symm
          · exact .inr ⟨g, rfl, by first | omega | (rw [e]; simp; omega)⟩
        clear c1 hrow hg hw hor hL2 hD2
        go_wp2
        go_ret
        rw [show r = (0, fs2, l ++ [s]) from HA2.out]
        exact ⟨rfl, _, hL4, hD4, K4, hor2⟩
      · have hq2 : (q == 0) = false := by simpa using hq
        go_wp2
        go_ret
        rw [HA2.out, if_neg hq]
        exact ⟨rfl, v, hL2, hD2, K2, .inl rfl⟩
end Go.Proofs.Ytkkbjkoikidjpaa
