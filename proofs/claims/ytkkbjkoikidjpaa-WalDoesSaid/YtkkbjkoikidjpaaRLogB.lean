/-
  The reference's log: its Append.
-/
import Derived.Test.YtkkbjkoikidjpaaRLog
namespace Go.Proofs.Ytkkbjkoikidjpaa
open Go.RowKit

/-- The blocks that the reference's log may change. -/
def rOwn (P LA LB : Nat) (v : Value) : List Nat := P :: LA :: LB :: v.ownBlock.toList

set_option maxRecDepth 100000 in
set_option maxHeartbeats 4000000 in
theorem rlappend_l {w : World} {P D B LA LB : Nat} {v : Value} {l : List ByteArray} {sure : Int} {halted : Bool} {fs : List DFile} {room : Nat} (hL : RLogAt w P D B v l sure halted) (hD : RefAt w D LA LB fs room) (hDB : D < B) (hAB : LA < B) (hBB : LB < B)
    (s : ByteArray) (hs : s.size ≤ 1048576) (hl : l.length ≤ 1000) :
    Calls Try.prog 23 #[.pointer (some ⟨P, 0, none⟩), .string s] w fun e w' => e = .returned (.int .i64 (lAppend fs room l halted s).1) ∧
      ∃ v', RLogAt w' P D B v' (lAppend fs room l halted s).2.2 sure halted ∧ RefAt w' D LA LB (lAppend fs room l halted s).2.1 room ∧ Keeps (P :: LA :: LB :: v.ownBlock.toList) w w' ∧ (v'.ownBlock = v.ownBlock ∨ ∃ g, v'.ownBlock = some g ∧ w.heap.size ≤ g) := by
  have FC := fun w => rframe_c (w := w) s (by omega)
  have hfs := frame_small s
  have hown := hL.own
  have hBP := hL.le
  have hne := hL.ne
  obtain ⟨f, hf⟩ : ∃ f, f = wFrame s := ⟨_, rfl⟩
  have HA : Hid (lAppend fs room l halted s = if halted then (8, fs, l) else if f.size = 0 then (1, fs, l) else ((dAppend fs room 0 f).1, (dAppend fs room 0 f).2, if (dAppend fs room 0 f).1 = 0 then l ++ [s] else l)) := by rw [hf]; rfl
  rw [← hf] at FC hfs
  clear hf
  obtain ⟨r, hr⟩ : ∃ r, r = lAppend fs room l halted s := ⟨_, rfl⟩
  rw [← hr] at HA ⊢
  clear hr
  have c3 := hL.c3
  go_enter Try.func23, Try.ntmps23
  cases halted with
  | true =>
    go_wp2_with fail
    go_ret
    rw [HA.out]
    exact ⟨rfl, v, hL, hD, Keeps.refl _ _, .inl rfl⟩
  | false =>
    go_wp2_with fail
    refine (FC _).mono ?_
    rintro e w1 ⟨rfl, k1⟩
    have hP1 := hL.lt
    have hL1 := hL.keep k1 (by simp) (fun _ _ => by simp)
    have hD1 := hD.keep k1 (by simp) (by simp) (by simp)
    clear c3
    by_cases h0 : f.size = 0
    · have e := str_empty h0
      subst e
      go_wp2
      go_ret
      rw [HA.out, if_neg (by simp), if_pos h0]
      exact ⟨rfl, v, hL1, hD1, k1.sub (by simp), .inl rfl⟩
    · have e3 := str_ne h0
      have AC := fun w (h : RefAt w D LA LB fs room) => r_append h 0 f
      have HA2 : Hid (r = ((dAppend fs room 0 f).1, (dAppend fs room 0 f).2, if (dAppend fs room 0 f).1 = 0 then l ++ [s] else l)) := by
        show r = _
        rw [HA.out, if_neg (by simp), if_neg h0]
      clear HA
      generalize dAppend fs room 0 f = q at *
      obtain ⟨q, fs2⟩ := q
      dsimp only at AC HA2
      go_upto_region 5 with fail
      refine wp_region_held_drew (S := (fun w' => RLogAt w' P D B v l sure false ∧ Keeps (rOwn P LA LB v) w w')) (by kernel_rfl) (⟨hL1.keep (Keeps.refl [] _).drew (by simp) (fun _ _ => by simp), (k1.sub (by simp) : Keeps (rOwn P LA LB v) w w1).drew⟩) (fun hHeld => ?_)
      have hD2 := hD1.keep (Keeps.refl [] w1).drew (by simp) (by simp) (by simp)
      clear hL1 hD1 k1
      generalize w1.drew = w2 at *
      refine wpAnyH_take (i := 0) (oi := Oper.mk _ _ _ _ _ _) (v := ?_) rfl (by kernel_rfl) (by kernel_rfl) (by kernel_rfl) (fun _ _ _ h => h) (Or.inl ⟨by rfl, ?_⟩) hHeld ?_
      rotate_left
      · (intro w hSw; (try dsimp only at hSw); (first | (go_simp; done) | (go_simp; with_reducible rfl)))
      try simp only [Act.put, List.setIfInBounds_toArray, List.set_cons_zero, List.set_cons_succ]
      refine wpAnyH_take (i := 1) (oi := Oper.mk _ _ _ _ _ _) (v := ?_) rfl (by kernel_rfl) (by kernel_rfl) (by kernel_rfl) (fun _ _ _ h => h) (Or.inl ⟨by rfl, ?_⟩) hHeld ?_
      rotate_left
      · (intro w hSw; (try dsimp only at hSw); (first | (go_simp; done) | (go_simp; with_reducible rfl)))
      try simp only [Act.put, List.setIfInBounds_toArray, List.set_cons_zero, List.set_cons_succ]
      refine wpAnyH_take (i := 2) (oi := Oper.mk _ _ _ _ _ _) (v := ?_) rfl (by kernel_rfl) (by kernel_rfl) (by kernel_rfl) (fun _ _ _ h => h) (Or.inl ⟨by rfl, ?_⟩) hHeld ?_
      rotate_left
      · (intro w hSw; (try dsimp only at hSw); (first | (go_simp; done) | (go_simp; with_reducible rfl)))
      try simp only [Act.put, List.setIfInBounds_toArray, List.set_cons_zero, List.set_cons_succ]
      refine wpAnyH_take (i := 4) (oi := Oper.mk _ _ _ _ _ _) (v := ?_) rfl (by kernel_rfl) (by kernel_rfl) (by kernel_rfl) (fun _ _ _ h => h) (Or.inl ⟨by rfl, ?_⟩) hHeld ?_
      rotate_left
      · (intro w hSw; (try dsimp only at hSw); (first | (go_simp; done) | (go_simp; with_reducible rfl)))
      try simp only [Act.put, List.setIfInBounds_toArray, List.set_cons_zero, List.set_cons_succ]
      refine wpAnyH_take (i := 3) (oi := Oper.mk _ _ _ _ _ _) (v := ?_) rfl (by kernel_rfl) (by kernel_rfl) (by kernel_rfl) (fun _ _ _ h => h) (Or.inl ⟨by rfl, ?_⟩) hHeld ?_
      rotate_left
      · (intro w hSw; (try dsimp only at hSw); have e0 := hSw.1.c0; (first | (go_simp; done) | (go_simp; with_reducible rfl)))
      try simp only [Act.put, List.setIfInBounds_toArray, List.set_cons_zero, List.set_cons_succ]
      refine wpAnyH_ready (rs := [5]) (by kernel_rfl) (by simp) ?_
      refine AllReadyH.cons (o := Oper.mk _ _ _ _ _ _) rfl (fun K hK => ?_) AllReadyH.nil
      (go_simp; refine (FC _).mono ?_; rintro e w3 ⟨rfl, k6⟩)
      refine hK.out _ _ (⟨hHeld.1.keep k6 (by simp) (fun _ _ => by simp), hHeld.2.trans (k6.sub (by simp))⟩) (fun hNew => ?_)
      clear hHeld hK
      have hHeld := hNew
      clear hNew
      try simp only [Act.put, List.setIfInBounds_toArray, List.set_cons_zero, List.set_cons_succ]
      have hD3 := hD2.keep k6 (by simp) (by simp) (by simp)
      clear hD2 k6
      refine wpAnyH_ready (rs := [6]) (by kernel_rfl) (by simp) ?_
      refine AllReadyH.cons (o := Oper.mk _ _ _ _ _ _) rfl (fun K hK => ?_) AllReadyH.nil
      (go_simp; refine (AC _ hD3).mono ?_; rintro e w4 ⟨rfl, hD4, k6⟩)
      refine hK.out _ _ (⟨hHeld.1.keep k6 (by simp; omega) (fun g hg => by have := hown g hg; simp; omega), hHeld.2.trans (k6.sub (by simp [rOwn]))⟩) (fun hNew => ?_)
      clear hHeld hK
      have hHeld := hNew
      clear hNew
      try simp only [Act.put, List.setIfInBounds_toArray, List.set_cons_zero, List.set_cons_succ]
      clear k6 hD3 AC FC
      refine wpAnyH_take (i := 7) (oi := Oper.mk _ _ _ _ _ _) (v := ?_) rfl (by kernel_rfl) (by kernel_rfl) (by kernel_rfl) (fun _ _ _ h => h) (Or.inl ⟨by rfl, ?_⟩) hHeld ?_
      rotate_left
      · (intro w hSw; (try dsimp only at hSw); (first | (go_simp; done) | (go_simp; with_reducible rfl)))
      try simp only [Act.put, List.setIfInBounds_toArray, List.set_cons_zero, List.set_cons_succ]
      refine wpAnyH_done (by kernel_rfl) ?_ _
      obtain ⟨hL4, K4⟩ := hHeld
      change Keeps (P :: LA :: LB :: v.ownBlock.toList) w w4 at K4
      by_cases hq : q = 0
      · subst hq
        obtain ⟨a5, c5, hv5⟩ := row_len hL4.row.rowOf
        subst hv5
        have c1 := hL4.c1
        have z1 := hL4.fz 1
        have hP4 := hL4.lt
        have hrow : StrRow (w4.alloc (.cells #[.string s] 9)) B _ l := hL4.row.keep ((Keeps.refl [] w4).alloc _) (fun _ _ => by simp)
        have hsz := K4.size
        have hown4 := World.ownsRow.lt hL4.row
        go_wp2_with (at_builtin; refine wpList_append_str rfl (.tmp 26) (.tmp 28) rfl B _ l rfl hrow ⟨w4.heap.size, 0, none⟩ s rfl ?c1 ?c2 ?c3 ?_)
        case c2 => omega
        case c3 => omega
        intro g cap w5 hg hw hor
        have k5 : Keeps (Value.ownBlock (.slice a5 l.length c5)).toList w4 w5 := ((Keeps.refl _ _).alloc _).trans (Keeps.ofGrown hw)
        have hPn : P ∉ (Value.ownBlock (.slice a5 l.length c5)).toList := fun hm => hne P (by simpa using hm) rfl
        have hg5 : StrRow w5 B (.slice (some ⟨g, 0, none⟩) (l.length + 1) cap) (l ++ [s]) := hg
        have hgP : ∀ q, Value.ownBlock (.slice (some ⟨g, 0, none⟩) (l.length + 1) cap) = some q → q ≠ P := by
          intro q hq e
          have hgq : g = q := by simpa [Value.ownBlock] using hq
          rcases hor with h | h
          · exact hne g h (hgq.trans e)
          · omega
        have hor2 : Value.ownBlock (.slice (some ⟨g, 0, none⟩) (l.length + 1) cap) = Value.ownBlock (.slice a5 l.length c5) ∨ ∃ g', Value.ownBlock (.slice (some ⟨g, 0, none⟩) (l.length + 1) cap) = some g' ∧ w.heap.size ≤ g' := by
          rcases hor with e | e
          · exact .inl e.symm
          · exact .inr ⟨g, rfl, by first | omega | (rw [e]; simp; omega)⟩
        have hL5 := hL4.setRow k5 hPn hg5 hgP
        have hBn : ∀ x, x < B → x ∉ (Value.ownBlock (.slice a5 l.length c5)).toList := fun x hx hm => by have := hown4 x (by simpa using hm); omega
        have hD5 : RefAt (w5.setCell ⟨P, 1, none⟩ (.slice (some ⟨g, 0, none⟩) (l.length + 1) cap)) D LA LB fs2 room := (hD4.keep k5 (hBn _ hDB) (hBn _ hAB) (hBn _ hBB)).keep ((Keeps.refl [P] w5).setCell (.inl (by simp)) _) (by simp; omega) (by simp; omega) (by simp; omega)
        have K5 : Keeps (P :: LA :: LB :: (Value.ownBlock (.slice a5 l.length c5)).toList) w (w5.setCell ⟨P, 1, none⟩ (.slice (some ⟨g, 0, none⟩) (l.length + 1) cap)) := (K4.trans (k5.sub (fun x hx => by simp at hx ⊢; exact .inr (.inr (.inr hx))))).setCell (.inl (by simp)) _
        have c15 : w5.cell? ⟨P, 1, none⟩ = some (.slice a5 l.length c5) := (k5.cell hP4 hPn).trans c1
        have z15 : w5.frozen? ⟨P, 1, none⟩ = false := frozen_of_heap (k5.heap hPn hL4.h)
        clear hL4 hD4 K4 c1 z1 hrow hown4 k5 hg hg5 hgP hor hw hBn hP4
        go_wp2_with fail
        go_ret
        rw [HA2.out, if_pos trivial]
        exact ⟨rfl, _, hL5, hD5, K5, hor2⟩
      · have hq2 : (q == 0) = false := by simpa using hq
        go_wp2_with fail
        go_ret
        rw [HA2.out, if_neg hq]
        exact ⟨rfl, v, hL4, hD4, K4, .inl rfl⟩
end Go.Proofs.Ytkkbjkoikidjpaa
