/-
  The contracts of package wal: a log's Sync, Records, Sure, Halted; a row's clone.
-/
import Derived.Test.YtkkbjkoikidjpaaWalLog
import Derived.WalkSpells
namespace Go.Proofs.Ytkkbjkoikidjpaa
open Go.RowKit

theorem sure_l {w : World} {P D : Nat} {v : Value} {l : List ByteArray} {sure : Int} {halted : Bool} (hL : LogAt w P D v l sure halted) :
    Calls Try.prog 19 #[.pointer (some ⟨P, 0, none⟩)] w fun e w' => e = .returned (.int .i64 sure) ∧ w = w' := by
  have c2 := hL.c2
  go_enter Try.func19, Try.ntmps19
  go_wp2
  go_ret
  exact ⟨rfl, rfl⟩
theorem halted_l {w : World} {P D : Nat} {v : Value} {l : List ByteArray} {sure : Int} {halted : Bool} (hL : LogAt w P D v l sure halted) :
    Calls Try.prog 14 #[.pointer (some ⟨P, 0, none⟩)] w fun e w' => e = .returned (.bool halted) ∧ w = w' := by
  have c3 := hL.c3
  go_enter Try.func14, Try.ntmps14
  go_wp2
  go_ret
  exact ⟨rfl, rfl⟩

/-- All are made sure: what is told, how many are sure, the files. -/
def lSync (fs : List DFile) (l : List ByteArray) (sure : Int) (halted : Bool) : Int × Int × List DFile := if halted then (8, sure, fs) else ((dSync fs 0).1, l.length, (dSync fs 0).2)

set_option maxRecDepth 10000 in
theorem lsync_c {w : World} {P D L : Nat} {v : Value} {l : List ByteArray} {sure : Int} {halted : Bool} {fs : List DFile} {room : Nat} (hL : LogAt w P D v l sure halted) (hD : DiskAt w D L fs room) (hDP : D < P) (hLP : L < P) :
    Calls Try.prog 12 #[.pointer (some ⟨P, 0, none⟩)] w fun e w' => e = .returned (.int .i64 (lSync fs l sure halted).1) ∧ LogAt w' P D v l (lSync fs l sure halted).2.1 halted ∧ DiskAt w' D L (lSync fs l sure halted).2.2 room ∧ Keeps [P, L] w w' := by
  have c0 := hL.c0
  have c1 := hL.c1
  have c2 := hL.c2
  have c3 := hL.c3
  have z2 := hL.fz 2
  have hown := hL.own
  obtain ⟨a, c, hv⟩ := hL.len
  cases halted with
  | true =>
    go_enter Try.func12, Try.ntmps12
    go_wp2
    go_ret
    exact ⟨rfl, hL, hD, Keeps.refl _ _⟩
  | false =>
    have hL2 : LogAt (w.setCell ⟨P, 2, none⟩ (.int .i64 l.length)) P D v l l.length false := ⟨by rw [heap_setCell_same hL.h]; rfl, hL.row.keep ((Keeps.refl [P] w).setCell (.inl (by simp)) _) (fun g hg => by have := hown g hg; simp; omega)⟩
    have hD2 : DiskAt (w.setCell ⟨P, 2, none⟩ (.int .i64 l.length)) D L fs room := hD.keep ((Keeps.refl [P] w).setCell (.inl (by simp)) _) (by simp; omega) (by simp; omega)
    have SC := sync_any hD2 0
    have H : Hid (lSync fs l sure false = ((dSync fs 0).1, (l.length : Int), (dSync fs 0).2)) := rfl
    generalize lSync fs l sure false = r at *
    generalize dSync fs 0 = q at *
    subst hv
    have d0 := hL2.c0
    go_enter Try.func12, Try.ntmps12
    go_wp2_with fail
    refine SC.mono ?_
    rintro e w2 ⟨rfl, hD3, k3⟩
    go_wp2
    go_ret
    rw [H.out]
    exact ⟨rfl, hL2.keep k3 (by simp; omega) (fun g hg => by have := hown g hg; simp; omega), hD3, ((Keeps.refl [P, L] w).setCell (.inl (by simp)) _).trans (k3.sub (by simp))⟩

/-- A slice of strings. -/
def RowOf (w : World) (v : Value) (l : List ByteArray) : Prop :=
  (v = .slice none 0 0 ∧ l = []) ∨ ∃ b o cap, v = .slice (some ⟨b, o, none⟩) l.length cap ∧ b < w.heap.size ∧ ∀ i (h : i < l.length), w.cell? ⟨b, o + i, none⟩ = some (.string l[i])
theorem StrRow.rowOf {w : World} {base : Nat} {v : Value} {l : List ByteArray} (h : StrRow w base v l) : RowOf w v l := by
  rcases h.form with h0 | ⟨g, cap, rfl, _, hg, _, _⟩
  · exact .inl h0
  · exact .inr ⟨g, 0, cap, rfl, hg, fun i hi => by rw [Nat.zero_add]; exact h.cell hi⟩

set_option maxRecDepth 10000 in
set_option maxHeartbeats 4000000 in
theorem clone_c {w : World} {v : Value} {l : List ByteArray} (h : RowOf w v l) (hl : l.length ≤ 16777216) :
    Calls Try.prog 44 #[v] w fun e w' => ∃ v', e = .returned v' ∧ StrRow w' w.heap.size v' l ∧ Keeps [] w w' := by
  obtain ⟨i, hi, hz0, hz1, hz2⟩ := info_parts infoStr
  rcases h with ⟨rfl, rfl⟩ | ⟨b, o, cap, rfl, hb, hc⟩
  · have heq := fun w => Lib.run_eql_slice_nil (P := Try.prog) w 31 9 none 0 0 0 0 Try.underlying31
    go_enter Try.func44, Try.ntmps44
    go_wp2
    go_ret
    exact ⟨_, rfl, StrRow.nil _ _, Keeps.refl _ _⟩
  · have heq := fun w => Lib.run_eql_slice_nil (P := Try.prog) w 31 9 (some ⟨b, o, none⟩) l.length cap 0 0 Try.underlying31
    have own0 : (w.alloc (.cells #[] 9)).ownsRow w.heap.size 9 1 (.slice (some ⟨w.heap.size, 0, none⟩) 0 0) 0 [] := World.ownsRow_made _ _ _ (Nat.le_refl _) (by decide) rfl
    have hcells : ∀ j u, (strCells l)[j]? = some u → (w.alloc (.cells #[] 9)).cell? ((⟨b, o, none⟩ : Addr).add j) = some u := by
      intro j u hj
      rw [strCells, List.getElem?_map] at hj
      obtain ⟨t, ht, rfl⟩ := Option.map_eq_some_iff.1 hj
      obtain ⟨hjl, rfl⟩ := List.getElem?_eq_some_iff.1 ht
      have e : (⟨b, o, none⟩ : Addr).add j = ⟨b, o + j, none⟩ := by unfold Addr.add; split <;> simp_all
      rw [e]
      exact (((Keeps.refl [] w).alloc _).cell hb (by simp)).trans (hc j hjl)
    have hone : ∀ u ∈ strCells l, u.oneCell' = true := by intro u hu; obtain ⟨t, _, rfl⟩ := List.mem_map.1 hu; rfl
    go_enter Try.func44, Try.ntmps44
    go_wp2_with (at_builtin; refine wpList_append_own _ rfl (.tmp 5) (.tmp 6) 31 rfl w.heap.size 9 i _ 1 16 Try.underlying31 hi hz0 hz1 hz2 rfl (by decide) _ _ _ rfl own0 ⟨b, o, none⟩ l.length cap (strCells l) rfl (by simp [strCells]) hcells hone (by unfold maxLen; omega) (by omega) (by simp) ?_)
    intro v' w1 ho hg _
    have K1 : Keeps [] w w1 := ((Keeps.refl [] w).alloc _).grown hg (fun k hk => by cases hk; exact Nat.le_refl _)
    have R : StrRow w1 w.heap.size v' l := by
      unfold StrRow
      first | exact ho | simpa using ho
    clear ho hg own0 hcells hone heq
    go_wp2
    go_ret
    exact ⟨v', rfl, R, K1⟩

theorem StrRow.base {w : World} {base base' : Nat} {v : Value} {l : List ByteArray} (h : StrRow w base v l) (hb : base' ≤ base) : StrRow w base' v l := by
  refine ⟨h.1, ?_⟩
  rcases h.2 with e | ⟨g, cap, cur, e, hg, hr⟩
  · exact .inl e
  · exact .inr ⟨g, cap, cur, e, by omega, hr⟩

theorem records_l {w : World} {P D : Nat} {v : Value} {l : List ByteArray} {sure : Int} {halted : Bool} (hL : LogAt w P D v l sure halted) (hl : l.length ≤ 16777216) :
    Calls Try.prog 17 #[.pointer (some ⟨P, 0, none⟩)] w fun e w' => ∃ v', e = .returned v' ∧ StrRow w' w.heap.size v' l ∧ Keeps [] w w' := by
  have c1 := hL.c1
  have C := clone_c hL.row.rowOf hl
  go_enter Try.func17, Try.ntmps17
  go_wp2_with fail
  refine C.mono ?_
  rintro e w1 ⟨v', rfl, hr, k1⟩
  go_wp2
  go_ret
  exact ⟨v', rfl, hr, k1⟩
end Go.Proofs.Ytkkbjkoikidjpaa
