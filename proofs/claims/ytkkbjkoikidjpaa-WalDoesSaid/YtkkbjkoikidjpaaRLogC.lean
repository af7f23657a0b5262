/-
  The reference's log: its Rewrite.
-/
import Derived.Test.YtkkbjkoikidjpaaRLogB
namespace Go.Proofs.Ytkkbjkoikidjpaa
open Go.RowKit

theorem rw_no {fs : List DFile} {room : Nat} {l : List ByteArray} {sure : Int} {hal : Bool} {recs : List ByteArray} {n : Int} (h : hal = true ∨ sure < l.length) : lRewrite fs room l sure hal recs n = (8, fs, l, sure, hal) := by
  unfold lRewrite; rw [if_pos h]
theorem rw_arg {fs : List DFile} {room : Nat} {l : List ByteArray} {sure : Int} {recs : List ByteArray} {n : Int} (h : ¬ sure < l.length) (h2 : okB recs = false ∨ n < 0) : lRewrite fs room l sure false recs n = (1, fs, l, sure, false) := by
  unfold lRewrite; rw [if_neg (by simpa using h), if_pos h2]
theorem rw_run {fs : List DFile} {room : Nat} {l : List ByteArray} {sure : Int} {recs : List ByteArray} {n : Int} (h : ¬ sure < l.length) (h2 : okB recs = true) (h3 : 0 ≤ n) {m : Nat} (hm : (min n 4).toNat = m) {e : Int} {fs2 : List DFile} (hq : rRun room (catF recs) fs m = (e, fs2)) : lRewrite fs room l sure false recs n = if ¬ e = 0 then (e, fs2, l, sure, false) else if n < 4 then (8, fs2, l, sure, true) else (0, fs2, recs, (recs.length : Int), false) := by
  unfold lRewrite; rw [if_neg (by simpa using h), if_neg (by rw [h2]; simp; omega), hm, hq]
/-- The state of the files ahead of a log written anew. -/
theorem KOk.ready {l laid : List ByteArray} {sure : Nat} {a b : DFile} (h : KOk l sure false laid a b) (hs : ¬ sure < l.length) : b = (⟨#[]⟩, 0) ∧ a.1.size ≤ a.2 := by
  rcases h with ⟨_, h⟩ | ⟨h, _⟩
  · refine ⟨h.none, ?_⟩
    have h1 := h.part
    have h2 := h.le
    have h3 : sure = l.length := by omega
    rw [h3, List.take_length] at h1
    rw [h.file, catF_size]
    exact h1
  · cases h

set_option maxRecDepth 100000 in
set_option maxHeartbeats 8000000 in
theorem rrewrite_l {w : World} {P D B LA LB : Nat} {v : Value} {l laid : List ByteArray} {sure : Nat} {hal : Bool} {a b : DFile} {room : Nat} {recs : List ByteArray} {bl o cap : Nat} (hL : RLogAt w P D B v l sure hal) (hD : RefAt w D LA LB [a, b] room) (hok : KOk l sure hal laid a b) (hDB : D < B) (hAB : LA < B) (hBB : LB < B)
    (hbl : bl < w.heap.size) (hc : ∀ i (h : i < recs.length), w.cell? ⟨bl, o + i, none⟩ = some (.string recs[i])) (hbA : bl ≠ LA) (hbB : bl ≠ LB) (hrl : recs.length ≤ 1000) (hrs : ∀ x ∈ recs, x.size ≤ 1048576) (n : Int) (hn : inI64 n) :
    Calls Try.prog 25 #[.pointer (some ⟨P, 0, none⟩), .slice (some ⟨bl, o, none⟩) recs.length cap, .int .i64 n] w fun e w' => e = .returned (.int .i64 (lRewrite [a, b] room l sure hal recs n).1) ∧
      ∃ v', RLogAt w' P D B v' (lRewrite [a, b] room l sure hal recs n).2.2.1 (lRewrite [a, b] room l sure hal recs n).2.2.2.1 (lRewrite [a, b] room l sure hal recs n).2.2.2.2 ∧ RefAt w' D LA LB (lRewrite [a, b] room l sure hal recs n).2.1 room ∧ Keeps [P, LA, LB] w w' ∧ (v' = v ∨ ∀ g, v'.ownBlock = some g → w.heap.size ≤ g) := by
  obtain ⟨i0, hi, hz0, hz1, hz2⟩ := info_parts infoStr
  obtain ⟨r, hr⟩ : ∃ r, r = lRewrite [a, b] room l sure hal recs n := ⟨_, rfl⟩
  rw [← hr]
  have HR := Go.Lib.hid hr
  have HRS := Go.Lib.hid hrs
  have HC := Go.Lib.hid hc
  have HOK := Go.Lib.hid hok
  have hBP := hL.le
  have hne := hL.ne
  have hPw := hL.lt
  have hAw := hD.ltA
  have hBw := hD.ltB
  have hDw := hD.ltD
  clear hr hrs hc hok
  obtain ⟨a5, c5, hv⟩ := row_len hL.row.rowOf
  have c1 := hL.c1
  have c2 := hL.c2
  have c3 := hL.c3
  rw [hv] at c1
  have HV := Go.Lib.hid hv
  clear hv
  go_enter Try.func25, Try.ntmps25
  go_upto_region 1 with fail
  cases hal with
  | true =>
    go_quiet (fail)
    go_wp2
    go_ret
    rw [HR.out, rw_no (.inl rfl)]
    exact ⟨rfl, v, hL.keep (S := []) ((Keeps.refl _ _).drewN _) (by simp) (fun _ _ => by simp), hD.keep (S := []) ((Keeps.refl _ _).drewN _) (by simp) (by simp) (by simp), (Keeps.refl _ _).drewN _, .inl rfl⟩
  | false =>
    by_cases hs : (sure : Int) < (l.length : Int)
    · have hs2 : decide ((sure : Int) < (l.length : Int)) = true := by simpa using hs
      go_quiet (fail)
      go_wp2
      go_ret
      rw [HR.out, rw_no (.inr hs)]
      exact ⟨rfl, v, hL.keep (S := []) ((Keeps.refl _ _).drewN _) (by simp) (fun _ _ => by simp), hD.keep (S := []) ((Keeps.refl _ _).drewN _) (by simp) (by simp) (by simp), (Keeps.refl _ _).drewN _, .inl rfl⟩
    · have hs2 : decide ((sure : Int) < (l.length : Int)) = false := by simpa using hs
      have HSN := Go.Lib.hid (show l.length ≤ sure by omega)
      go_quiet (fail)
      clear c1 c2 c3
      obtain ⟨w1, hw1⟩ : ∃ w1, w1 = w.drewN nq := ⟨_, rfl⟩
      have k1 : Keeps [] w w1 := by rw [hw1]; exact (Keeps.refl _ _).drewN _
      have hL1 := hL.keep k1 (by simp) (fun _ _ => by simp)
      have hD1 := hD.keep k1 (by simp) (by simp) (by simp)
      have HC1 : Hid (∀ i (h : i < recs.length), w1.cell? ⟨bl, o + i, none⟩ = some (.string recs[i])) := fun i h => (k1.cell hbl (by simp)).trans (HC.out i h)
      have hbl1 := Nat.lt_of_lt_of_le hbl k1.size
      rw [← hw1]
      clear hw1 hL hD HC
      go_wp2_with fail
      go_loopw [7, 8] (fun v7 v8 wr => FramesRel w1 recs v7 v8 wr) (fun _ v8 _ => recs.length - (intOf v8).toNat)
      case atStart => exact ⟨0, Nat.zero_le _, rfl, rfl, (fun x hx => by simp at hx), Keeps.refl _ _⟩
      case round =>
        obtain ⟨k, hk, rfl, rfl, hall, K⟩ := hrel
        by_cases hlt : k < recs.length
        · have e0 := (K.cell hbl1 (by simp)).trans (HC1.out k hlt)
          have hb2 := Nat.lt_of_lt_of_le hbl1 K.size
          have hm : recs[k] ∈ recs := List.getElem_mem hlt
          have hx := HRS.out _ hm
          have htk : recs.take (k + 1) = recs.take k ++ [recs[k]] := List.take_succ_eq_append_getElem hlt
          have hcs : (catF (recs.take k)).size ≤ 4106 * 1000 := by
            rw [catF_size]
            have := framesSize_le (recs.take k)
            have : (recs.take k).length ≤ 1000 := by simp; omega
            omega
          have hcat : catF (recs.take (k + 1)) = catF (recs.take k) ++ wFrame recs[k] := by rw [htk, catF_append, catF, catF, ba_append_nil]
          have hok : ¬ (wFrame recs[k]).size = 0 → allOk (recs.take (k + 1)) := fun hn x hx => by
            rw [htk] at hx
            rcases List.mem_append.1 hx with hx | hx
            · exact hall x hx
            · simp at hx; subst hx; exact hn
          have hno : (wFrame recs[k]).size = 0 → okB recs = false := fun hz => by
            cases h : okB recs with
            | false => rfl
            | true => exact absurd hz ((okB_iff recs).1 h _ hm)
          have hfs := frame_small recs[k]
          have FR := fun w => rframe_c (w := w) recs[k] (by omega)
          obtain ⟨c2, hc2⟩ : ∃ c2, c2 = catF (recs.take (k + 1)) := ⟨_, rfl⟩
          have HC2 := Go.Lib.hid hc2
          rw [← hc2] at hcat
          generalize wFrame recs[k] = f at *
          generalize catF (recs.take k) = c1 at *
          generalize recs[k] = x at *
          have HOK2 := Go.Lib.hid hok
          have HCAT := Go.Lib.hid hcat
          have HNO := Go.Lib.hid hno
          have hsum : c1.size + f.size ≤ 9223372036854775807 := by omega
          clear hc2 hcat hok htk hall hno hm
          go_wp2_with fail
          refine (FR _).mono ?_
          rintro e w2 ⟨rfl, k2⟩
          have K2 := K.trans k2
          by_cases hz : f.size = 0
          · have e := str_empty hz
            subst e
            clear FR k2 e0
            go_wp2
            go_ret
            rw [HR.out, rw_arg (by have := HSN.out; omega) (.inl (HNO.out hz))]
            exact ⟨rfl, v, hL1.keep K2 (by simp) (fun _ _ => by simp), hD1.keep K2 (by simp) (by simp) (by simp), (k1.trans K2).sub (by simp), .inl rfl⟩
          · have e3 := str_ne hz
            have e1 := (k2.cell hb2 (by simp)).trans e0
            clear e0 K k2
            go_wp2_with fail
            refine (FR _).mono ?_
            rintro e w3 ⟨rfl, k3⟩
            have K3 := K2.trans k3
            clear K2 k3 FR e1
            go_wp2_with fail
            go_roundw
            case rel => exact ⟨k + 1, by omega, by go_num, by rw [← HCAT.out, HC2.out], HOK2.out hz, K3⟩
            case measure => simp [intOf]; omega
        · obtain rfl : k = recs.length := by omega
          rw [List.take_length] at hall ⊢
          have hokB := (okB_iff recs).2 hall
          have HOKB := Go.Lib.hid hokB
          have hL2 := hL1.keep K (by simp) (fun _ _ => by simp)
          have hD2 := hD1.keep K (by simp) (by simp) (by simp)
          have K2 := k1.trans K
          obtain ⟨hb, hab⟩ := HOK.out.ready (by omega)
          subst hb
          have hc2 : Hid (∀ i (h : i < recs.length), wr.cell? ⟨bl, o + i, none⟩ = some (.string recs[i])) := fun i h => (K.cell hbl1 (by simp)).trans (HC1.out i h)
          have hbl2 := Nat.lt_of_lt_of_le hbl1 K.size
          have hs3 := K2.size
          have hs4 : a.1.size ≤ 16777216 := hD2.sz 0 (by show 0 < 2; decide)
          have HRUN := Go.Lib.hid (fun (m : Nat) (hm : (min n 4).toNat = m) (h3 : 0 ≤ n) {e : Int} {fs2 : List DFile} => rw_run (fs := [a, (⟨#[]⟩, 0)]) (room := room) (l := l) (sure := (sure : Int)) (n := n) (by have := HSN.out; omega) hokB h3 hm (e := e) (fs2 := fs2))
          clear hL1 hD1 hall hokB HC1 K k1 hbl1 hbl
          by_cases hn0 : n < 0
          · clear HRUN
            go_wp2
            go_ret
            rw [HR.out, rw_arg (by have := HSN.out; omega) (.inr hn0)]
            exact ⟨rfl, v, hL2, hD2, K2.sub (by simp), .inl rfl⟩
          · by_cases hn1 : n = 0
            · have hfin := HRUN.out 0 (by omega) (by omega) (e := 0) (fs2 := [a, (⟨#[]⟩, 0)]) rfl
              rw [if_neg (by simp), if_pos (by omega), ← HR.out] at hfin
              have HFIN := Go.Lib.hid hfin
              subst hn1
              have KH : Keeps [P, LA, LB] w wr := K2.sub (by simp)
              clear HRUN hfin hn0
              have c3 := RLogAt.c3 hL2
              have z3 := RLogAt.fz hL2 3
              have hL9 := RLogAt.setHalt hL2 true
              have hD9 := RefAt.keep hD2 ((Keeps.refl [P] _).setCell (p := ⟨P, 3, none⟩) (.inl (by simp)) (.bool true)) (by simp; omega) (by simp; omega) (by simp; omega)
              have K9 := Keeps.setCell (KH : Keeps [P, LA, LB] w _) (p := ⟨P, 3, none⟩) (.inl (by simp)) (.bool true)
              go_wp2_with fail
              go_ret
              rw [HFIN.out]
              exact ⟨rfl, v, hL9, hD9, K9, .inl rfl⟩
            · have hn2 : (1 : Int) ≤ n := by omega
              have hp1 : ((1 : Int) ≤ n) = True := by simp; omega
              have AC := r_append hD2 1 (catF recs)
              rw [two_append1] at AC
              by_cases hroom : (catF recs).size ≤ room - a.1.size
              · rw [if_pos (by show (catF recs).size ≤ room - (a.1.size + 0); omega), ba_nil_append] at AC
                dsimp only at AC
                obtain ⟨g1, g2, g3, g4⟩ := run_two a room (catF recs) hab hroom
                have SC := fun w (h : RefAt w D LA LB [a, (catF recs, 0)] room) => r_sync h 1
                rw [two_sync1] at SC
                dsimp only at SC
                have WC := fun w (h : RefAt w D LA LB [a, (catF recs, (catF recs).size)] room) => r_swap h 0 1
                rw [two_swap _ _ hab (Nat.le_refl _)] at WC
                dsimp only at WC
                have TC := fun w (h : RefAt w D LA LB [(catF recs, (catF recs).size), a] room) => r_cut h 1 0
                rw [two_cut1] at TC
                dsimp only at TC
                have q1 := fun hm h3 => HRUN.out 1 hm h3 g1
                have q2 := fun hm h3 => HRUN.out 2 hm h3 g2
                have q3 := fun hm h3 => HRUN.out 3 hm h3 g3
                have q4 := fun hm h3 => HRUN.out 4 hm h3 g4
                rw [if_neg (by simp), ← HR.out] at q1 q2 q3 q4
                have Q1 := Go.Lib.hid q1
                have Q2 := Go.Lib.hid q2
                have Q3 := Go.Lib.hid q3
                have Q4 := Go.Lib.hid q4
                clear q1 q2 q3 q4 g1 g2 g3 g4 HRUN HR
                have c0 := hL2.c0
                generalize catF recs = all at *
                go_wp2_with fail
                refine AC.mono ?_
                rintro e w3 ⟨rfl, hD3, k3⟩
                have hL3 := hL2.keep k3 (by simp; omega) (fun g hg => by have := hL2.own g hg; simp; omega)
                have K3 : Keeps [P, LA, LB] w w3 := (K2.sub (by simp)).trans (k3.sub (by simp))
                clear c0
                have c0 := hL3.c0
                have hc3 : Hid (∀ i (h : i < recs.length), w3.cell? ⟨bl, o + i, none⟩ = some (.string recs[i])) := fun i h => (k3.cell hbl2 (by simp; omega)).trans (hc2.out i h)
                have hbl3 := Nat.lt_of_lt_of_le hbl2 k3.size
                clear hL2 hD2 K2 k3 AC hc2 hbl2
                by_cases hn3 : n = 1
                · have hfin := Q1.out (by omega) (by omega)
                  rw [if_pos (by omega)] at hfin
                  have HFIN := Go.Lib.hid hfin
                  subst hn3
                  clear hfin hn0 hn1 hn2 hp1
                  have c3 := RLogAt.c3 hL3
                  have z3 := RLogAt.fz hL3 3
                  have hL9 := RLogAt.setHalt hL3 true
                  have hD9 := RefAt.keep hD3 ((Keeps.refl [P] _).setCell (p := ⟨P, 3, none⟩) (.inl (by simp)) (.bool true)) (by simp; omega) (by simp; omega) (by simp; omega)
                  have K9 := Keeps.setCell (K3 : Keeps [P, LA, LB] w _) (p := ⟨P, 3, none⟩) (.inl (by simp)) (.bool true)
                  go_wp2_with fail
                  go_ret
                  rw [HFIN.out]
                  exact ⟨rfl, v, hL9, hD9, K9, .inl rfl⟩
                · have hp2 : ((2 : Int) ≤ n) = True := by simp; omega
                  go_wp2_with fail
                  refine (SC _ hD3).mono ?_
                  rintro e w4 ⟨rfl, hD4, k4⟩
                  have hL4 := hL3.keep k4 (by simp; omega) (fun g hg => by have := hL3.own g hg; simp; omega)
                  have K4 : Keeps [P, LA, LB] w w4 := K3.trans (k4.sub (by simp))
                  have hc4 : Hid (∀ i (h : i < recs.length), w4.cell? ⟨bl, o + i, none⟩ = some (.string recs[i])) := fun i h => (k4.cell hbl3 (by simp; omega)).trans (hc3.out i h)
                  have hbl4 := Nat.lt_of_lt_of_le hbl3 k4.size
                  clear hL3 hD3 K3 k4 hc3 hbl3 c0
                  have c0 := hL4.c0
                  by_cases hn4 : n = 2
                  · have hfin := Q2.out (by omega) (by omega)
                    rw [if_pos (by omega)] at hfin
                    have HFIN := Go.Lib.hid hfin
                    subst hn4
                    clear hfin hn0 hn1 hn2 hp1 hp2 hn3
                    have c3 := RLogAt.c3 hL4
                    have z3 := RLogAt.fz hL4 3
                    have hL9 := RLogAt.setHalt hL4 true
                    have hD9 := RefAt.keep hD4 ((Keeps.refl [P] _).setCell (p := ⟨P, 3, none⟩) (.inl (by simp)) (.bool true)) (by simp; omega) (by simp; omega) (by simp; omega)
                    have K9 := Keeps.setCell (K4 : Keeps [P, LA, LB] w _) (p := ⟨P, 3, none⟩) (.inl (by simp)) (.bool true)
                    go_wp2_with fail
                    go_ret
                    rw [HFIN.out]
                    exact ⟨rfl, v, hL9, hD9, K9, .inl rfl⟩
                  · have hp3 : ((3 : Int) ≤ n) = True := by simp; omega
                    go_wp2_with fail
                    refine (WC _ hD4).mono ?_
                    rintro e w5 ⟨rfl, hD5, k5⟩
                    have hL5 := hL4.keep k5 (by simp; omega) (fun g hg => by have := hL4.own g hg; simp; omega)
                    have K5 : Keeps [P, LA, LB] w w5 := K4.trans (k5.sub (by simp))
                    have hc5 : Hid (∀ i (h : i < recs.length), w5.cell? ⟨bl, o + i, none⟩ = some (.string recs[i])) := fun i h => (k5.cell hbl4 (by simp; omega)).trans (hc4.out i h)
                    have hbl5 := Nat.lt_of_lt_of_le hbl4 k5.size
                    clear hL4 hD4 K4 k5 hc4 hbl4 c0
                    have c0 := hL5.c0
                    by_cases hn5 : n = 3
                    · have hfin := Q3.out (by omega) (by omega)
                      rw [if_pos (by omega)] at hfin
                      have HFIN := Go.Lib.hid hfin
                      subst hn5
                      clear hfin hn0 hn1 hn2 hp1 hp2 hp3 hn3 hn4
                      have c3 := RLogAt.c3 hL5
                      have z3 := RLogAt.fz hL5 3
                      have hL9 := RLogAt.setHalt hL5 true
                      have hD9 := RefAt.keep hD5 ((Keeps.refl [P] _).setCell (p := ⟨P, 3, none⟩) (.inl (by simp)) (.bool true)) (by simp; omega) (by simp; omega) (by simp; omega)
                      have K9 := Keeps.setCell (K5 : Keeps [P, LA, LB] w _) (p := ⟨P, 3, none⟩) (.inl (by simp)) (.bool true)
                      go_wp2_with fail
                      go_ret
                      rw [HFIN.out]
                      exact ⟨rfl, v, hL9, hD9, K9, .inl rfl⟩
                    · have hp4 : (n < 4) = False := by simp; omega
                      have hfin := Q4.out (by omega) (by omega)
                      rw [if_neg (by omega)] at hfin
                      have HFIN := Go.Lib.hid hfin
                      clear hfin Q1 Q2 Q3 Q4 SC WC
                      go_wp2_with fail
                      refine (TC _ hD5).mono ?_
                      rintro e w6 ⟨rfl, hD6, k6⟩
                      have hL6 := hL5.keep k6 (by simp; omega) (fun g hg => by have := hL5.own g hg; simp; omega)
                      have K6 : Keeps [P, LA, LB] w w6 := K5.trans (k6.sub (by simp))
                      have hc6 : Hid (∀ i (h : i < recs.length), w6.cell? ⟨bl, o + i, none⟩ = some (.string recs[i])) := fun i h => (k6.cell hbl5 (by simp; omega)).trans (hc5.out i h)
                      have hbl6 := Nat.lt_of_lt_of_le hbl5 k6.size
                      clear hL5 hD5 K5 k6 hc5 hbl5 c0
                      have c0 := hL6.c0
                      clear TC c0
                      have hP6 := hL6.lt
                      have own0 : (w6.alloc (.cells #[] 9)).ownsRow w6.heap.size 9 1 (.slice (some ⟨w6.heap.size, 0, none⟩) 0 0) 0 [] := World.ownsRow_made _ _ _ (Nat.le_refl _) (by decide) rfl
                      have hcells := cells_strs (w := w6.alloc (.cells #[] 9)) (b := bl) (o := o) (l := recs) (fun i h => (((Keeps.refl [] w6).alloc _).cell hbl6 (by simp)).trans (hc6.out i h))
                      have hone := ones_strs recs
                      go_wp2_with (at_builtin; refine wpList_append_own _ rfl (.tmp 83) (.tmp 84) 31 rfl w6.heap.size 9 i0 _ 1 16 Try.underlying31 hi hz0 hz1 hz2 rfl (by decide) _ _ _ rfl own0 ⟨bl, o, none⟩ recs.length cap (strCells recs) rfl (by simp [strCells]) hcells hone (by unfold maxLen; omega) (by omega) (by simp) ?_)
                      intro v6 w7 ho hg _
                      have k7 : Keeps [] w6 w7 := ((Keeps.refl [] w6).alloc _).grown hg (fun k hk => by cases hk; exact Nat.le_refl _)
                      have R : StrRow w7 w6.heap.size v6 recs := by
                        unfold StrRow
                        first | exact ho | simpa using ho
                      obtain ⟨a6, c6, rfl⟩ := row_len R.rowOf
                      have hs6 := K6.size
                      have hs7 := k7.size
                      have hfresh : ∀ g, (Value.slice a6 recs.length c6).ownBlock = some g → w6.heap.size ≤ g := fun g hg => (World.ownsRow.lt R g hg).1
                      have hL7 := hL6.setRow k7 (by simp) (R.base (by omega)) (fun g hg => by have := hfresh g hg; omega)
                      have hL8 := hL7.setSure (recs.length : Int)
                      have c17 : w7.cell? ⟨P, 1, none⟩ = some v := (k7.cell hP6 (by simp)).trans hL6.c1
                      have z17 : w7.frozen? ⟨P, 1, none⟩ = false := frozen_of_heap (k7.heap (by simp) hL6.h)
                      have c28 := hL7.c2
                      have z28 := hL7.fz 2
                      have kP := ((Keeps.refl [P] w7).setCell (p := ⟨P, 1, none⟩) (.inl (by simp)) (.slice a6 recs.length c6)).setCell (p := ⟨P, 2, none⟩) (.inl (by simp)) (.int .i64 recs.length)
                      have hD8 := (hD6.keep k7 (by simp) (by simp) (by simp)).keep kP (by simp; omega) (by simp; omega) (by simp; omega)
                      have K8 := (K6.trans (k7.sub (by simp))).trans (kP.sub (by simp))
                      have hfresh2 : ∀ g, (Value.slice a6 recs.length c6).ownBlock = some g → w.heap.size ≤ g := fun g hg => by have := hfresh g hg; omega
                      have hP7 : P < w7.heap.size := Nat.lt_of_lt_of_le hP6 hs7
                      clear ho hg own0 hcells hone hL6 hD6 K6 k7 R hfresh hL7 hc6
                      go_wp2_with fail
                      go_ret
                      rw [HFIN.out]
                      exact ⟨rfl, _, hL8, hD8, K8, .inr hfresh2⟩
              · rw [if_neg (by show ¬ (catF recs).size ≤ room - (a.1.size + 0); omega)] at AC
                dsimp only at AC
                obtain ⟨m, hm⟩ : ∃ m, (min n 4).toNat = m + 1 := ⟨(min n 4).toNat - 1, by omega⟩
                have hfin := HRUN.out (m + 1) hm (by omega) (run_full a room (catF recs) hroom m)
                rw [if_pos (by decide), ← HR.out] at hfin
                have HFIN := Go.Lib.hid hfin
                have c0 := hL2.c0
                clear hfin HRUN HR hm
                generalize catF recs = all at *
                go_wp2_with fail
                refine AC.mono ?_
                rintro e w3 ⟨rfl, hD3, k3⟩
                have hL3 := hL2.keep k3 (by simp; omega) (fun g hg => by have := hL2.own g hg; simp; omega)
                have K3 : Keeps [P, LA, LB] w w3 := (K2.sub (by simp)).trans (k3.sub (by simp))
                clear hL2 hD2 K2 k3 AC hc2 hbl2 c0
                go_wp2_with fail
                go_ret
                rw [HFIN.out]
                exact ⟨rfl, v, hL3, hD3, K3, .inl rfl⟩
end Go.Proofs.Ytkkbjkoikidjpaa
