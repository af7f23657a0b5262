/-
  WalDoes: its walk.
-/
import Derived.Test.YtkkbjkoikidjpaaWalBoth
namespace Go.Proofs.Ytkkbjkoikidjpaa
open Go.RowKit

theorem open_two0 : lOpen [eF, eF] = ([], [eF, eF]) := by
  rw [two_open, wRead_no (s := eF.1) (wFirst_none rfl)]
  show ([], [(eF.1.extract 0 0, 0), (⟨#[]⟩, 0)]) = _
  rw [ba_none]
theorem same_l {w : World} {v u : Value} {l : List ByteArray} (h : RowOf w v l) (h2 : RowOf w u l) (hl : l.length ≤ 9223372036854775807) :
    Calls Try.prog 18 #[v, u] w fun e w' => e = .returned (.bool true) ∧ Keeps [] w w' := by
  have S := same_c h h2 hl
  rwa [decide_eq_true rfl] at S
theorem KOk.append2 {l laid : List ByteArray} {sure : Nat} {hal : Bool} {a b : DFile} (h : KOk l sure hal laid a b) (room : Nat) (s : ByteArray) :
    ∃ (e : Int) (a' : DFile) (l' : List ByteArray), lAppend [a, b] room l hal s = (e, [a', b], l') ∧ KOk l' sure hal laid a' b ∧ l'.length ≤ l.length + 1 := by
  rcases h.append room s with ⟨e, _, h1⟩ | ⟨rfl, a', h1, h2⟩
  · exact ⟨e, a, l, h1, h, by omega⟩
  · exact ⟨0, a', _, h1, h2, by simp⟩
theorem KOk.sync2 {l laid : List ByteArray} {sure : Nat} {hal : Bool} {a b : DFile} (h : KOk l sure hal laid a b) :
    ∃ (e : Int) (a' : DFile) (s' : Nat), lSync [a, b] l sure hal = (e, (s' : Int), [a', b]) ∧ KOk l s' hal laid a' b := by
  rcases h.sync with ⟨e, _, h1⟩ | ⟨rfl, a', h1, h2⟩
  · exact ⟨e, a, sure, h1, h⟩
  · exact ⟨0, a', _, h1, h2⟩
theorem KOk.rewrite2 {l laid : List ByteArray} {sure : Nat} {hal : Bool} {a b : DFile} (h : KOk l sure hal laid a b) (room : Nat) (recs : List ByteArray) (n : Int) :
    ∃ (e : Int) (a' b' : DFile) (l' laid' : List ByteArray) (s' : Nat) (hal' : Bool), lRewrite [a, b] room l sure hal recs n = (e, [a', b'], l', (s' : Int), hal') ∧ KOk l' s' hal' laid' a' b' ∧ (l'.length ≤ l.length ∨ l'.length ≤ recs.length) ∧ (laid'.length ≤ laid.length ∨ laid'.length ≤ recs.length) := by
  rcases h.rewrite room recs n with ⟨e, _, h1⟩ | ⟨rfl, a', b', h1, h2⟩ | ⟨rfl, a', b', h1, h2⟩
  · exact ⟨e, a, b, l, laid, sure, hal, h1, h, .inl (Nat.le_refl _), .inl (Nat.le_refl _)⟩
  · exact ⟨0, a', b', recs, laid, _, _, h1, h2, .inr (Nat.le_refl _), .inl (Nat.le_refl _)⟩
  · exact ⟨8, a', b', l, recs, sure, true, h1, h2, .inl (Nat.le_refl _), .inr (Nat.le_refl _)⟩

set_option maxRecDepth 100000 in
set_option maxHeartbeats 40000000 in
theorem walDoes_walk (room : Int) (_hroom : inI64 room) (a : Option Addr) (cap : Nat) (l0 : List WOp) {w : World} (hl : WOpsAt w (· < w.heap.size) a l0) :
    Calls Try.prog 6 #[.int .i64 room, .slice a l0.length cap] w fun e w' => e = .returned (.bool true) ∧ Below w.heap.size w w' := by
  have CC := cut_c (w := w) a cap l0 hl
  obtain ⟨z, hz0, hz2⟩ := i64_and room 4095 (by decide)
  have hz : bits .and .i64 room 4095 = (z : Int) := hz0
  clear hz0
  have NC := fun w => new2_c (w := w) z (by omega)
  have RC := fun w => r_new_ok (w := w) 2 z (by simp [newOk]; omega)
  have OC := fun w D L (h : DiskAt w D L [eF, eF] z) => open0_c h
  have RO := fun w D LA LB (h : RefAt w D LA LB [eF, eF] z) => ropen_l h
  rw [open_two0] at RO
  dsimp only at RO
  have hsm0 := hl.small
  clear hl
  go_enter Try.func6, Try.ntmps6
  go_wp2_with fail
  refine CC.mono ?_
  rintro e w1 ⟨sa, scap, l, rfl, hops, hlen, hsm, k1⟩
  go_wp2_with fail
  refine (NC _).mono ?_
  rintro e w2 ⟨D, L, rfl, hD2, k2, hDw, hLw⟩
  go_wp2_with fail
  refine (RC _).mono ?_
  rintro e w3 ⟨D2, LA, LB, rfl, hR3, k3, hRD, hRA, hRB⟩
  change RefAt w3 D2 LA LB [eF, eF] z at hR3
  have hlD := hD2.ltD
  have hlL := hD2.ltL
  have hD3 := hD2.keep k3 (by simp) (by simp)
  go_wp2_with fail
  refine (OC _ _ _ hD3).mono ?_
  rintro e w4 ⟨P, v, rfl, hPw, hL4, hD4, k4⟩
  have hR4 := hR3.keep k4 (by simp; omega) (by simp; omega) (by simp; omega)
  go_wp2_with fail
  refine (RO _ _ _ _ hR4).mono ?_
  rintro e w5 ⟨P2, v2, rfl, hL5, hR5, k5⟩
  have hs1 := k1.size
  have hs2 := k2.size
  have hs3 := k3.size
  have hs4 := k4.size
  have hP4 := hL4.lt
  have o1 := hR3.ltD
  have o2 := hR3.ltA
  have o3 := hR3.ltB
  have M0 : DMem w1 z D L P v [] (0 : Nat) false [eF, eF] D2 LA LB P2 w4.heap.size v2 [] (0 : Nat) false [eF, eF] w5 := by
    have hown := hL4.own
    have hown2 := hL5.own
    have hle := hL5.le
    refine ⟨hL4.keep k5 (by simp; omega) (fun g hg => by have := hown g hg; simp; omega), hD4.keep k5 (by simp; omega) (by simp; omega), hL5, hR5, ?_,
      (((k2.trans k3).new k4 (by simp; omega)).new k5 (by simp; omega)), ?_, ?_, by omega, by omega, by omega, by omega, by omega⟩
    · intro x hx hr
      have h1 : x < w2.heap.size ∨ (w3.heap.size ≤ x ∧ x < w4.heap.size) := by
        rcases hx with e | e | e | e
        · exact .inl (by omega)
        · exact .inl (by omega)
        · exact .inr (by omega)
        · exact .inr (by have := hown x e; omega)
      have h2 : (w2.heap.size ≤ x ∧ x < w3.heap.size) ∨ w4.heap.size ≤ x := by
        rcases hr with e | e | e | e | e
        · exact .inl (by omega)
        · exact .inl (by omega)
        · exact .inl (by omega)
        · exact .inr (by omega)
        · exact .inr (by have := hown2 x e; omega)
      omega
    · intro x hx
      rcases hx with e | e | e | e
      · omega
      · omega
      · omega
      · have := hown x e; omega
    · intro x hx
      rcases hx with e | e | e | e | e
      · omega
      · omega
      · omega
      · omega
      · have := hown2 x e; omega
  have HSM := Go.Lib.hid hsm
  have HOPS := Go.Lib.hid hops
  have HKW := Go.Lib.hid k1
  clear CC NC RC OC RO hD2 hD3 hR3 hR4 k1 k2 k3 k4 k5 hL4 hD4 hL5 hR5 hsm hops hPw hlD hlL hDw hLw hRD hRA hRB hs1 hs2 hs3 hs4 hP4 o1 o2 o3 hz
  go_wp2_with fail
  go_loopw [10, 11, 12, 13, 14] (fun v10 v11 v12 v13 v14 wr => DRel w1 z D L D2 LA LB l.length v10 v11 v12 v13 v14 wr) (fun _ _ _ _ v14 _ => l.length - (intOf v14).toNat)
  case atStart => exact ⟨0, P, P2, _, 0, v, v2, false, [], [], eF, eF, Nat.zero_le _, Nat.zero_le _, rfl, rfl, rfl, rfl, rfl, M0, .inl ⟨rfl, logOk0⟩, by simp, by simp⟩
  case round =>
    clear M0
    obtain ⟨k, P, P2, B2, sure, v, v2, hal, recs, laid, fa, fb, hk, hk30, rfl, rfl, rfl, rfl, rfl, M, ok, hrl, hll⟩ := hrel
    by_cases hin : k < l.length
    · have HOK := Go.Lib.hid ok
      have hops2 := HOPS.out.keep M.keeps (q := (· < w1.heap.size)) (fun _ _ _ => by simp) (fun _ _ h => h)
      obtain ⟨b, o, rfl, hbB, hc⟩ := hops2.cell k hin
      have hmem := List.getElem_mem hin
      obtain ⟨op, hop⟩ : ∃ op, op = l[k] := ⟨_, rfl⟩
      rw [← hop] at hc hmem
      have c0 : wr.cell? ⟨b, o + k * 5, none⟩ = some (.int .i64 op.kind) := hc 0 (by omega)
      have c1 : wr.cell? ⟨b, o + k * 5 + 1, none⟩ = some (.string op.s) := hc 1 (by omega)
      have c2 : wr.cell? ⟨b, o + k * 5 + 2, none⟩ = some (.slice op.la op.l.length op.lcap) := hc 2 (by omega)
      have c3 : wr.cell? ⟨b, o + k * 5 + 3, none⟩ = some (.int .i64 op.n) := hc 3 (by omega)
      have c4 : wr.cell? ⟨b, o + k * 5 + 4, none⟩ = some (.slice op.ka op.keep.length op.kcap) := hc 4 (by omega)
      obtain ⟨hsmall, hrowed⟩ := HSM.out op hmem
      have HS := Go.Lib.hid hsmall
      have HR := Go.Lib.hid hrowed
      have hk300 := hsmall.s
      have hk6 := hsmall.l
      have hkc := hsmall.keep
      have hkm := hsmall.kcap
      clear hops2 hc hmem hop ok hsmall hrowed
      go_upto_region 14 with fail
      obtain ⟨X, hX⟩ : ∃ X, X = wr.heap.size := ⟨_, rfl⟩
      obtain ⟨w4, hw4⟩ : ∃ w4, w4 = wr.alloc (.cells #[.int .i64 op.kind, .string op.s, .slice op.la op.l.length op.lcap, .int .i64 op.n, .slice op.ka op.keep.length op.kcap] 34) := ⟨_, rfl⟩
      have hB4 : OpBlk w4 X op := by rw [hw4, hX]; exact heap_alloc_same
      have K4 : Keeps [] wr w4 := by rw [hw4]; exact (Keeps.refl _ _).alloc _
      have M4 := M.skip K4
      have HXW : Hid (∀ x, wBlk D L P v x → ¬ x = X) := fun x hx => by have := M.ltW x hx; omega
      have HXR : Hid (∀ x, rBlk D2 LA LB P2 v2 x → ¬ x = X) := fun x hx => by have := M.ltR x hx; omega
      rw [← hX, ← hw4]
      have d0 : w4.cell? ⟨X, 0, none⟩ = some (.int .i64 op.kind) := (cell_of_heap hB4).trans rfl
      have d1 : w4.cell? ⟨X, 1, none⟩ = some (.string op.s) := (cell_of_heap hB4).trans rfl
      have d2 : w4.cell? ⟨X, 2, none⟩ = some (.slice op.la op.l.length op.lcap) := (cell_of_heap hB4).trans rfl
      have d3 : w4.cell? ⟨X, 3, none⟩ = some (.int .i64 op.n) := (cell_of_heap hB4).trans rfl
      have d4 : w4.cell? ⟨X, 4, none⟩ = some (.slice op.ka op.keep.length op.kcap) := (cell_of_heap hB4).trans rfl
      have hX4 : X < w4.heap.size := lt_of_heap hB4
      clear M K4 hw4 hX c0 c1 c2 c3 c4 hB4
      go_upto_block 2 with fail
      go_cut [10, 11, 12, 13, 16] (fun v10 v11 v12 v13 v16 wx => DCut w1 z D L D2 LA LB k v10 v11 v12 v13 v16 wx)
      case first =>
        have ordDP := M4.ordDP
        have ordLP := M4.ordLP
        have ordDB := M4.ordDB
        have ordAB := M4.ordAB
        have ordBB := M4.ordBB
        by_cases q0 : op.kind = 0
        · have b0 : (op.kind == 0) = true := by simpa using q0
          clear q0 d2 d3 d4
          obtain ⟨ec, fa', recs', e1, ok5, hrl5⟩ := HOK.out.append2 z op.s
          have AC := fun w (h1 : LogAt w P D v recs sure hal) (h2 : DiskAt w D L [fa, fb] z) => append_l h1 h2 ordDP ordLP op.s (by omega) (by omega)
          have RC := fun w (h1 : RLogAt w P2 D2 B2 v2 recs sure hal) (h2 : RefAt w D2 LA LB [fa, fb] z) => rlappend_l h1 h2 ordDB ordAB ordBB op.s (by omega) (by omega)
          rw [e1] at AC RC
          dsimp only at AC RC
          have HOK5 := Go.Lib.hid ok5
          clear e1 ok5
          go_upto_region 22 with fail
          refine wp_region_held_drew (S := (fun w' => w'.cell? ⟨X, 1, none⟩ = some (.string op.s))) (by kernel_rfl) ((((Keeps.refl [] w4).drew).cell hX4 (by simp)).trans d1) (fun hHeld => ?_)
          have M5 := M4.skip (Keeps.refl [] w4).drew
          have hX5 : X < w4.drew.heap.size := hX4
          clear M4 d0 d1 hX4
          generalize w4.drew = w5 at *
          refine wpAnyH_take (i := 0) (oi := Oper.mk _ _ _ _ _ _) (v := ?_) rfl (by kernel_rfl) (by kernel_rfl) (by kernel_rfl) (fun _ _ _ h => h) (Or.inl ⟨by rfl, ?_⟩) hHeld ?_
          rotate_left
          · (intro w hSw; (try dsimp only at hSw); (first | (go_simp; done) | (go_simp; with_reducible rfl)))
          try simp only [Act.put, List.setIfInBounds_toArray, List.set_cons_zero, List.set_cons_succ]
          refine wpAnyH_take (i := 1) (oi := Oper.mk _ _ _ _ _ _) (v := ?_) rfl (by kernel_rfl) (by kernel_rfl) (by kernel_rfl) (fun _ _ _ h => h) (Or.inl ⟨by rfl, ?_⟩) hHeld ?_
          rotate_left
          · (intro w hSw; (try dsimp only at hSw); (first | (go_simp; done) | (go_simp; with_reducible rfl)))
          try simp only [Act.put, List.setIfInBounds_toArray, List.set_cons_zero, List.set_cons_succ]
          refine wpAnyH_take (i := 4) (oi := Oper.mk _ _ _ _ _ _) (v := ?_) rfl (by kernel_rfl) (by kernel_rfl) (by kernel_rfl) (fun _ _ _ h => h) (Or.inl ⟨by rfl, ?_⟩) hHeld ?_
          rotate_left
          · (intro w hSw; (try dsimp only at hSw); (first | (go_simp; done) | (go_simp; with_reducible rfl)))
          try simp only [Act.put, List.setIfInBounds_toArray, List.set_cons_zero, List.set_cons_succ]
          refine wpAnyH_take (i := 5) (oi := Oper.mk _ _ _ _ _ _) (v := ?_) rfl (by kernel_rfl) (by kernel_rfl) (by kernel_rfl) (fun _ _ _ h => h) (Or.inl ⟨by rfl, ?_⟩) hHeld ?_
          rotate_left
          · (intro w hSw; (try dsimp only at hSw); (first | (go_simp; done) | (go_simp; with_reducible rfl)))
          try simp only [Act.put, List.setIfInBounds_toArray, List.set_cons_zero, List.set_cons_succ]
          refine wpAnyH_take (i := 2) (oi := Oper.mk _ _ _ _ _ _) (v := ?_) rfl (by kernel_rfl) (by kernel_rfl) (by kernel_rfl) (fun _ _ _ h => h) (Or.inl ⟨by rfl, ?_⟩) hHeld ?_
          rotate_left
          · (intro w hSw; (try dsimp only at hSw); (first | (go_simp; done) | (go_simp; with_reducible rfl)))
          try simp only [Act.put, List.setIfInBounds_toArray, List.set_cons_zero, List.set_cons_succ]
          refine wpAnyH_take (i := 6) (oi := Oper.mk _ _ _ _ _ _) (v := ?_) rfl (by kernel_rfl) (by kernel_rfl) (by kernel_rfl) (fun _ _ _ h => h) (Or.inl ⟨by rfl, ?_⟩) hHeld ?_
          rotate_left
          · (intro w hSw; (try dsimp only at hSw); (first | (go_simp; done) | (go_simp; with_reducible rfl)))
          try simp only [Act.put, List.setIfInBounds_toArray, List.set_cons_zero, List.set_cons_succ]
          refine wpAnyH_ready (rs := [3]) (by kernel_rfl) (by simp) ?_
          refine AllReadyH.cons (o := Oper.mk _ _ _ _ _ _) rfl (fun K hK => ?_) AllReadyH.nil
          (go_simp; refine (AC _ M5.log M5.disk).mono ?_; rintro e w6 ⟨rfl, v6, hL6, hD6, k6, hor⟩)
          refine hK.out _ _ (((k6.cell (by exact hX5) (fun hm => HXW.out X (blk_own hm) rfl)).trans hHeld)) (fun hNew => ?_)
          clear hHeld hK
          have hHeld := hNew
          clear hNew
          try simp only [Act.put, List.setIfInBounds_toArray, List.set_cons_zero, List.set_cons_succ]
          have M6 := M5.stepW k6 (fun x hx => blk_own hx) hL6 hD6 (.inl rfl) (or_fresh hor)
          have hX6 := Nat.lt_of_lt_of_le hX5 k6.size
          clear M5 hX5 hL6 hD6 hor k6 AC
          refine wpAnyH_ready (rs := [7]) (by kernel_rfl) (by simp) ?_
          refine AllReadyH.cons (o := Oper.mk _ _ _ _ _ _) rfl (fun K hK => ?_) AllReadyH.nil
          (go_simp; refine (RC _ M6.rlog M6.ref).mono ?_; rintro e w7 ⟨rfl, v7, hL7, hD7, k7, hor⟩)
          refine hK.out _ _ (((k7.cell (by exact hX6) (fun hm => HXR.out X (rblk_own hm) rfl)).trans hHeld)) (fun hNew => ?_)
          clear hHeld hK
          have hHeld := hNew
          clear hNew
          try simp only [Act.put, List.setIfInBounds_toArray, List.set_cons_zero, List.set_cons_succ]
          have M7 := M6.stepR k7 (fun x hx => rblk_own hx) hL7 hD7 (.inl rfl) (.inl rfl) (or_fresh hor)
          clear M6 hX6 hL7 hD7 hor k7 RC
          refine wpAnyH_take (i := 8) (oi := Oper.mk _ _ _ _ _ _) (v := ?_) rfl (by kernel_rfl) (by kernel_rfl) (by kernel_rfl) (fun _ _ _ h => h) (Or.inl ⟨by rfl, ?_⟩) hHeld ?_
          rotate_left
          · (intro w hSw; (try dsimp only at hSw); (first | (go_simp; done) | (go_simp; with_reducible rfl)))
          try simp only [Act.put, List.setIfInBounds_toArray, List.set_cons_zero, List.set_cons_succ]
          refine wpAnyH_take (i := 9) (oi := Oper.mk _ _ _ _ _ _) (v := ?_) rfl (by kernel_rfl) (by kernel_rfl) (by kernel_rfl) (fun _ _ _ h => h) (Or.inl ⟨by rfl, ?_⟩) hHeld ?_
          rotate_left
          · (intro w hSw; (try dsimp only at hSw); (first | (go_simp; done) | (go_simp; with_reducible rfl)))
          try simp only [Act.put, List.setIfInBounds_toArray, List.set_cons_zero, List.set_cons_succ]
          refine wpAnyH_done (by kernel_rfl) ?_ _
          clear hHeld
          go_wp2_with fail
          go_meet
          case rel => exact ⟨P, P2, B2, sure, v6, v7, hal, recs', laid, fa', fb, rfl, rfl, rfl, rfl, rfl, M7, HOK5.out, by omega, hll⟩
        have b0 : (op.kind == 0) = false := by simpa using q0
        by_cases q1 : op.kind = 1
        · have b1 : (op.kind == 1) = true := by simpa using q1
          clear q0 q1 d1 d2 d3 d4
          obtain ⟨ec, fa', sure', e1, ok5⟩ := HOK.out.sync2
          have A := lsync_c M4.log M4.disk ordDP ordLP
          have RC := fun w (h1 : RLogAt w P2 D2 B2 v2 recs sure hal) (h2 : RefAt w D2 LA LB [fa, fb] z) => rlsync_l h1 h2 ordDB ordAB ordBB
          rw [e1] at A RC
          dsimp only at A RC
          have HOK5 := Go.Lib.hid ok5
          clear e1 ok5
          go_wp2_with fail
          refine A.mono ?_
          rintro e w5 ⟨rfl, hL5, hD5, k5⟩
          have M5 := M4.stepW k5 (fun x hx => blk_two hx) hL5 hD5 (.inl rfl) (.inl rfl)
          clear A M4 hL5 hD5 k5 d0
          go_wp2_with fail
          refine (RC _ M5.rlog M5.ref).mono ?_
          rintro e w6 ⟨rfl, hL6, hD6, k6⟩
          have M6 := M5.stepR k6 (fun x hx => rblk_three hx) hL6 hD6 (.inl rfl) (.inl rfl) (.inl rfl)
          clear RC M5 hL6 hD6 k6
          go_wp2_with fail
          go_meet
          case rel => exact ⟨P, P2, B2, sure', v, v2, hal, recs, laid, fa', fb, rfl, rfl, rfl, rfl, rfl, M6, HOK5.out, by omega, hll⟩
        have b1 : (op.kind == 1) = false := by simpa using q1
        by_cases q2 : op.kind = 2
        · have b2 : (op.kind == 2) = true := by simpa using q2
          clear q0 q1 q2 d1 d4
          obtain ⟨bl, ela, hbl, _⟩ := HR.out.row
          have hrw1 := HR.out.rowOf
          rw [ela] at d2 hrw1
          have HC1 : Hid (∀ i (h : i < op.l.length), w1.cell? ⟨bl, 0 + i, none⟩ = some (.string op.l[i])) := by
            intro i h
            obtain ⟨b2, o2, e2, _, hc2⟩ := row_at hrw1 h
            cases e2
            exact hc2
          clear ela hrw1
          obtain ⟨ec, fa', fb', recs', laid', sure', hal', e1, ok5, hrl5, hll5⟩ := HOK.out.rewrite2 z op.l op.n
          have hxs : ∀ x ∈ op.l, x.size ≤ 1048576 := fun x hx => by have := HS.out.x x hx; omega
          have hW : ∀ x, wBlk D L P v x → ¬ bl = x := fun x hx e => by have := M4.lowW x hx; omega
          have hR : ∀ x, rBlk D2 LA LB P2 v2 x → ¬ bl = x := fun x hx e => by have := M4.lowR x hx; omega
          have AC := fun w (h1 : LogAt w P D v recs sure hal) (h2 : DiskAt w D L [fa, fb] z) (h3 : RowOf w (.slice (some ⟨bl, 0, none⟩) op.l.length op.lcap) op.l) => rewrite_c h1 h2 ordDP ordLP h3 (by omega) hxs (by
            intro b o c m e
            injection e with e1 _ _
            cases e1
            exact ⟨hW P (.inr (.inr (.inl rfl))), hW L (.inr (.inl rfl))⟩) op.n HS.out.n
          have RC := fun w (h1 : RLogAt w P2 D2 B2 v2 recs sure hal) (h2 : RefAt w D2 LA LB [fa, fb] z) (h3 : bl < w.heap.size) (h4 : ∀ i (h : i < op.l.length), w.cell? ⟨bl, 0 + i, none⟩ = some (.string op.l[i])) => rrewrite_l (cap := op.lcap) h1 h2 HOK.out ordDB ordAB ordBB h3 h4 (hR LA (.inr (.inl rfl))) (hR LB (.inr (.inr (.inl rfl)))) (by omega) hxs op.n HS.out.n
          rw [e1] at AC RC
          dsimp only at AC RC
          have HOK5 := Go.Lib.hid ok5
          clear e1 ok5 hxs hW hR
          go_upto_region 26 with fail
          refine wp_region_held_drew (S := (fun w' => w'.cell? ⟨X, 2, none⟩ = some (.slice (some ⟨bl, 0, none⟩) op.l.length op.lcap) ∧ w'.cell? ⟨X, 3, none⟩ = some (.int .i64 op.n))) (by kernel_rfl) (⟨(((Keeps.refl [] w4).drew).cell hX4 (by simp)).trans d2, (((Keeps.refl [] w4).drew).cell hX4 (by simp)).trans d3⟩) (fun hHeld => ?_)
          have M5 := M4.skip (Keeps.refl [] w4).drew
          have hX5 : X < w4.drew.heap.size := hX4
          clear M4 d0 d2 d3 hX4
          generalize w4.drew = w5 at *
          have hb5 := Nat.lt_of_lt_of_le hbl M5.keeps.size
          have hrow5 : RowOf w5 (.slice (some ⟨bl, 0, none⟩) op.l.length op.lcap) op.l := .inr ⟨bl, 0, op.lcap, rfl, hb5, fun i h => (M5.keeps.cell hbl (by simp)).trans (HC1.out i h)⟩
          refine wpAnyH_take (i := 0) (oi := Oper.mk _ _ _ _ _ _) (v := ?_) rfl (by kernel_rfl) (by kernel_rfl) (by kernel_rfl) (fun _ _ _ h => h) (Or.inl ⟨by rfl, ?_⟩) hHeld ?_
          rotate_left
          · (intro w hSw; (try dsimp only at hSw); (first | (go_simp; done) | (go_simp; with_reducible rfl)))
          try simp only [Act.put, List.setIfInBounds_toArray, List.set_cons_zero, List.set_cons_succ]
          refine wpAnyH_take (i := 1) (oi := Oper.mk _ _ _ _ _ _) (v := ?_) rfl (by kernel_rfl) (by kernel_rfl) (by kernel_rfl) (fun _ _ _ h => h) (Or.inl ⟨by rfl, ?_⟩) hHeld ?_
          rotate_left
          · (intro w hSw; (try dsimp only at hSw); (first | (go_simp; done) | (go_simp; with_reducible rfl)))
          try simp only [Act.put, List.setIfInBounds_toArray, List.set_cons_zero, List.set_cons_succ]
          refine wpAnyH_take (i := 3) (oi := Oper.mk _ _ _ _ _ _) (v := ?_) rfl (by kernel_rfl) (by kernel_rfl) (by kernel_rfl) (fun _ _ _ h => h) (Or.inl ⟨by rfl, ?_⟩) hHeld ?_
          rotate_left
          · (intro w hSw; (try dsimp only at hSw); (first | (go_simp; done) | (go_simp; with_reducible rfl)))
          try simp only [Act.put, List.setIfInBounds_toArray, List.set_cons_zero, List.set_cons_succ]
          refine wpAnyH_take (i := 6) (oi := Oper.mk _ _ _ _ _ _) (v := ?_) rfl (by kernel_rfl) (by kernel_rfl) (by kernel_rfl) (fun _ _ _ h => h) (Or.inl ⟨by rfl, ?_⟩) hHeld ?_
          rotate_left
          · (intro w hSw; (try dsimp only at hSw); (first | (go_simp; done) | (go_simp; with_reducible rfl)))
          try simp only [Act.put, List.setIfInBounds_toArray, List.set_cons_zero, List.set_cons_succ]
          refine wpAnyH_take (i := 7) (oi := Oper.mk _ _ _ _ _ _) (v := ?_) rfl (by kernel_rfl) (by kernel_rfl) (by kernel_rfl) (fun _ _ _ h => h) (Or.inl ⟨by rfl, ?_⟩) hHeld ?_
          rotate_left
          · (intro w hSw; (try dsimp only at hSw); (first | (go_simp; done) | (go_simp; with_reducible rfl)))
          try simp only [Act.put, List.setIfInBounds_toArray, List.set_cons_zero, List.set_cons_succ]
          refine wpAnyH_take (i := 9) (oi := Oper.mk _ _ _ _ _ _) (v := ?_) rfl (by kernel_rfl) (by kernel_rfl) (by kernel_rfl) (fun _ _ _ h => h) (Or.inl ⟨by rfl, ?_⟩) hHeld ?_
          rotate_left
          · (intro w hSw; (try dsimp only at hSw); (first | (go_simp; done) | (go_simp; with_reducible rfl)))
          try simp only [Act.put, List.setIfInBounds_toArray, List.set_cons_zero, List.set_cons_succ]
          refine wpAnyH_take (i := 2) (oi := Oper.mk _ _ _ _ _ _) (v := ?_) rfl (by kernel_rfl) (by kernel_rfl) (by kernel_rfl) (fun _ _ _ h => h) (Or.inl ⟨by rfl, ?_⟩) hHeld ?_
          rotate_left
          · (intro w hSw; (try dsimp only at hSw); obtain ⟨e2, e3⟩ := hSw; (first | (go_simp; done) | (go_simp; with_reducible rfl)))
          try simp only [Act.put, List.setIfInBounds_toArray, List.set_cons_zero, List.set_cons_succ]
          refine wpAnyH_take (i := 4) (oi := Oper.mk _ _ _ _ _ _) (v := ?_) rfl (by kernel_rfl) (by kernel_rfl) (by kernel_rfl) (fun _ _ _ h => h) (Or.inl ⟨by rfl, ?_⟩) hHeld ?_
          rotate_left
          · (intro w hSw; (try dsimp only at hSw); obtain ⟨e2, e3⟩ := hSw; (first | (go_simp; done) | (go_simp; with_reducible rfl)))
          try simp only [Act.put, List.setIfInBounds_toArray, List.set_cons_zero, List.set_cons_succ]
          refine wpAnyH_take (i := 8) (oi := Oper.mk _ _ _ _ _ _) (v := ?_) rfl (by kernel_rfl) (by kernel_rfl) (by kernel_rfl) (fun _ _ _ h => h) (Or.inl ⟨by rfl, ?_⟩) hHeld ?_
          rotate_left
          · (intro w hSw; (try dsimp only at hSw); obtain ⟨e2, e3⟩ := hSw; (first | (go_simp; done) | (go_simp; with_reducible rfl)))
          try simp only [Act.put, List.setIfInBounds_toArray, List.set_cons_zero, List.set_cons_succ]
          refine wpAnyH_take (i := 10) (oi := Oper.mk _ _ _ _ _ _) (v := ?_) rfl (by kernel_rfl) (by kernel_rfl) (by kernel_rfl) (fun _ _ _ h => h) (Or.inl ⟨by rfl, ?_⟩) hHeld ?_
          rotate_left
          · (intro w hSw; (try dsimp only at hSw); obtain ⟨e2, e3⟩ := hSw; (first | (go_simp; done) | (go_simp; with_reducible rfl)))
          try simp only [Act.put, List.setIfInBounds_toArray, List.set_cons_zero, List.set_cons_succ]
          refine wpAnyH_ready (rs := [5]) (by kernel_rfl) (by simp) ?_
          refine AllReadyH.cons (o := Oper.mk _ _ _ _ _ _) rfl (fun K hK => ?_) AllReadyH.nil
          (go_simp; refine (AC _ M5.log M5.disk hrow5).mono ?_; rintro e w6 ⟨rfl, v6, hL6, hD6, k6, hor⟩)
          refine hK.out _ _ (⟨(k6.cell (by exact hX5) (fun hm => HXW.out X (blk_two hm) rfl)).trans hHeld.1, (k6.cell (by exact hX5) (fun hm => HXW.out X (blk_two hm) rfl)).trans hHeld.2⟩) (fun hNew => ?_)
          clear hHeld hK
          have hHeld := hNew
          clear hNew
          try simp only [Act.put, List.setIfInBounds_toArray, List.set_cons_zero, List.set_cons_succ]
          have M6 := M5.stepW k6 (fun x hx => blk_two hx) hL6 hD6 (.inl rfl) (or_fresh2 hor)
          have hX6 := Nat.lt_of_lt_of_le hX5 k6.size
          have hb6 := Nat.lt_of_lt_of_le hbl M6.keeps.size
          have hrow6 : ∀ i (h : i < op.l.length), w6.cell? ⟨bl, 0 + i, none⟩ = some (.string op.l[i]) := fun i h => (M6.keeps.cell hbl (by simp)).trans (HC1.out i h)
          clear M5 hX5 hL6 hD6 hor k6 AC hrow5 hb5
          have RC6 := RC _ M6.rlog M6.ref hb6 hrow6
          clear RC hrow6
          refine wpAnyH_ready (rs := [11]) (by kernel_rfl) (by simp) ?_
          refine AllReadyH.cons (o := Oper.mk _ _ _ _ _ _) rfl (fun K hK => ?_) AllReadyH.nil
          (go_simp; refine RC6.mono ?_; rintro e w7 ⟨rfl, v7, hL7, hD7, k7, hor⟩)
          refine hK.out _ _ (⟨(k7.cell (by exact hX6) (fun hm => HXR.out X (rblk_three hm) rfl)).trans hHeld.1, (k7.cell (by exact hX6) (fun hm => HXR.out X (rblk_three hm) rfl)).trans hHeld.2⟩) (fun hNew => ?_)
          clear hHeld hK
          have hHeld := hNew
          clear hNew
          try simp only [Act.put, List.setIfInBounds_toArray, List.set_cons_zero, List.set_cons_succ]
          have M7 := M6.stepR k7 (fun x hx => rblk_three hx) hL7 hD7 (.inl rfl) (.inl rfl) (or_fresh2 hor)
          clear M6 hX6 hL7 hD7 hor k7 RC6
          refine wpAnyH_take (i := 12) (oi := Oper.mk _ _ _ _ _ _) (v := ?_) rfl (by kernel_rfl) (by kernel_rfl) (by kernel_rfl) (fun _ _ _ h => h) (Or.inl ⟨by rfl, ?_⟩) hHeld ?_
          rotate_left
          · (intro w hSw; (try dsimp only at hSw); (first | (go_simp; done) | (go_simp; with_reducible rfl)))
          try simp only [Act.put, List.setIfInBounds_toArray, List.set_cons_zero, List.set_cons_succ]
          refine wpAnyH_take (i := 13) (oi := Oper.mk _ _ _ _ _ _) (v := ?_) rfl (by kernel_rfl) (by kernel_rfl) (by kernel_rfl) (fun _ _ _ h => h) (Or.inl ⟨by rfl, ?_⟩) hHeld ?_
          rotate_left
          · (intro w hSw; (try dsimp only at hSw); (first | (go_simp; done) | (go_simp; with_reducible rfl)))
          try simp only [Act.put, List.setIfInBounds_toArray, List.set_cons_zero, List.set_cons_succ]
          refine wpAnyH_done (by kernel_rfl) ?_ _
          clear hHeld
          go_wp2_with fail
          go_meet
          case rel => exact ⟨P, P2, B2, sure', v6, v7, hal', recs', laid', fa', fb', rfl, rfl, rfl, rfl, rfl, M7, HOK5.out, by omega, by omega⟩
        have b2 : (op.kind == 2) = false := by simpa using q2
        clear q0 q1 q2 d1 d2 d3
        have hLL := M4.lowW L (.inr (.inl rfl))
        have C := crash_any M4.disk op.ka op.kcap op.keep (IntsAt.keepP HR.out.lies.ints M4.keeps (q := (· < w1.heap.size)) (fun _ _ _ => by simp) (fun _ _ h => h)) (by show ¬ L < w1.heap.size; omega)
        go_wp2_with fail
        refine C.mono ?_
        rintro e w5 ⟨rfl, hD5, k5⟩
        have hown4 := M4.log.own
        have M5 := M4.stepW k5 (fun x hx => blk_one hx) (M4.log.keep k5 (by simp; omega) (fun g hg => by have := hown4 g hg; simp; omega)) hD5 (.inl rfl) (.inl rfl)
        have d5 := (k5.cell hX4 (fun hm => HXW.out X (blk_one hm) rfl)).trans d4
        have hLA := M5.lowR LA (.inr (.inl rfl))
        have hLB := M5.lowR LB (.inr (.inr (.inl rfl)))
        have R := r_crash M5.ref op.ka op.kcap op.keep (IntsAt.keepP HR.out.lies.ints M5.keeps (q := (· < w1.heap.size)) (fun _ _ _ => by simp) (fun _ _ h => h)) (by show ¬ LA < w1.heap.size; omega) (by show ¬ LB < w1.heap.size; omega)
        clear C M4 hD5 k5 d0 d4 hX4 hown4
        go_wp2_with fail
        refine R.mono ?_
        rintro e w6 ⟨rfl, hR6, k6⟩
        have hown5 := M5.rlog.own
        have hle5 := M5.rlog.le
        have M6 := M5.stepR k6 (fun x hx => rblk_two hx) (M5.rlog.keep k6 (by simp; omega) (fun g hg => by have := hown5 g hg; simp; omega)) hR6 (.inl rfl) (.inl rfl) (.inl rfl)
        have OC := reopen_ok M6.disk (crash_sync _ _ _)
        obtain ⟨r, fa', fb', e1, ok7, hway⟩ := HOK.out.crash op.keep
        have hrl7 : r.length ≤ k + 6 := by
          rcases hway with ⟨k', h1, h2, h3⟩ | ⟨_, h, _⟩
          · rw [h3, List.length_take]; omega
          · rw [h]; omega
        rw [e1] at OC
        dsimp only at OC
        have RO := fun w (h : RefAt w D2 LA LB [crashF op.keep 0 fa, crashF op.keep 1 fb] z) => ropen_l h
        rw [← two_crash, e1] at RO
        dsimp only at RO
        have HOK7 := Go.Lib.hid ok7
        clear R M5 hR6 k6 d5 hown5 hle5 e1 ok7 hway
        go_wp2_with fail
        refine OC.mono ?_
        rintro e w7 ⟨P7, v7, rfl, hP7, hL7, hD7, k7⟩
        have hown7 := hL7.own
        have M7 := M6.stepW k7 (fun x hx => blk_one hx) hL7 hD7 (.inr hP7) (.inr (fun g hg => by have := hown7 g hg; omega))
        clear OC M6 hL7 hD7 k7 hP7 hown7
        go_wp2_with fail
        refine (RO _ M7.ref).mono ?_
        rintro e w8 ⟨P8, v8, rfl, hL8, hR8, k8⟩
        have hown8 := hL8.own
        have M8 := M7.stepR k8 (fun x hx => rblk_two hx) hL8 hR8 (.inr hL8.le) (.inr (Nat.le_refl _)) (.inr (fun g hg => by have := hown8 g hg; omega))
        clear RO M7 hL8 hR8 k8 hown8
        go_wp2_with fail
        go_meet
        case rel => exact ⟨P7, P8, _, r.length, v7, v8, false, r, [], fa', fb', rfl, rfl, rfl, rfl, rfl, M8, HOK7.out _, by omega, by simp⟩
      case rest =>
        clear M4 d0 d1 d2 d3 d4 HXW HXR hX4 HOK HS HR
        obtain ⟨P, P2, B2, sure, v, v2, hal, recs, laid, fa, fb, rfl, rfl, rfl, rfl, rfl, M, ok, hrl2, hll2⟩ := hcut
        have HOK := Go.Lib.hid ok
        obtain ⟨a8, c8, rfl⟩ := row_len M.rlog.row.rowOf
        clear ok
        go_upto_region 27 with fail
        refine wp_region_held_drew (S := (fun w' => DMem w1 z D L P v recs sure hal [fa, fb] D2 LA LB P2 B2 (.slice a8 recs.length c8) recs sure hal [fa, fb] w')) (by kernel_rfl) (M.skip (Keeps.refl [] _).drew) (fun hHeld => ?_)
        clear M
        refine wpAnyH_take (i := 0) (oi := Oper.mk _ _ _ _ _ _) (v := ?_) rfl (by kernel_rfl) (by kernel_rfl) (by kernel_rfl) (fun _ _ _ h => h) (Or.inl ⟨by rfl, ?_⟩) hHeld ?_
        rotate_left
        · (intro w hSw; (try dsimp only at hSw); (first | (go_simp; done) | (go_simp; with_reducible rfl)))
        try simp only [Act.put, List.setIfInBounds_toArray, List.set_cons_zero, List.set_cons_succ]
        refine wpAnyH_take (i := 1) (oi := Oper.mk _ _ _ _ _ _) (v := ?_) rfl (by kernel_rfl) (by kernel_rfl) (by kernel_rfl) (fun _ _ _ h => h) (Or.inl ⟨by rfl, ?_⟩) hHeld ?_
        rotate_left
        · (intro w hSw; (try dsimp only at hSw); (first | (go_simp; done) | (go_simp; with_reducible rfl)))
        try simp only [Act.put, List.setIfInBounds_toArray, List.set_cons_zero, List.set_cons_succ]
        refine wpAnyH_take (i := 2) (oi := Oper.mk _ _ _ _ _ _) (v := ?_) rfl (by kernel_rfl) (by kernel_rfl) (by kernel_rfl) (fun _ _ _ h => h) (Or.inl ⟨by rfl, ?_⟩) hHeld ?_
        rotate_left
        · (intro w hSw; (try dsimp only at hSw); (first | (go_simp; done) | (go_simp; with_reducible rfl)))
        try simp only [Act.put, List.setIfInBounds_toArray, List.set_cons_zero, List.set_cons_succ]
        refine wpAnyH_take (i := 3) (oi := Oper.mk _ _ _ _ _ _) (v := ?_) rfl (by kernel_rfl) (by kernel_rfl) (by kernel_rfl) (fun _ _ _ h => h) (Or.inl ⟨by rfl, ?_⟩) hHeld ?_
        rotate_left
        · (intro w hSw; (try dsimp only at hSw); (first | (go_simp; done) | (go_simp; with_reducible rfl)))
        try simp only [Act.put, List.setIfInBounds_toArray, List.set_cons_zero, List.set_cons_succ]
        refine wpAnyH_take (i := 4) (oi := Oper.mk _ _ _ _ _ _) (v := ?_) rfl (by kernel_rfl) (by kernel_rfl) (by kernel_rfl) (fun _ _ _ h => h) (Or.inl ⟨by rfl, ?_⟩) hHeld ?_
        rotate_left
        · (intro w hSw; (try dsimp only at hSw); (first | (go_simp; done) | (go_simp; with_reducible rfl)))
        try simp only [Act.put, List.setIfInBounds_toArray, List.set_cons_zero, List.set_cons_succ]
        refine wpAnyH_take (i := 5) (oi := Oper.mk _ _ _ _ _ _) (v := ?_) rfl (by kernel_rfl) (by kernel_rfl) (by kernel_rfl) (fun _ _ _ h => h) (Or.inl ⟨by rfl, ?_⟩) hHeld ?_
        rotate_left
        · (intro w hSw; (try dsimp only at hSw); (first | (go_simp; done) | (go_simp; with_reducible rfl)))
        try simp only [Act.put, List.setIfInBounds_toArray, List.set_cons_zero, List.set_cons_succ]
        refine wpAnyH_take (i := 6) (oi := Oper.mk _ _ _ _ _ _) (v := ?_) rfl (by kernel_rfl) (by kernel_rfl) (by kernel_rfl) (fun _ _ _ h => h) (Or.inl ⟨by rfl, ?_⟩) hHeld ?_
        rotate_left
        · (intro w hSw; (try dsimp only at hSw); (first | (go_simp; done) | (go_simp; with_reducible rfl)))
        try simp only [Act.put, List.setIfInBounds_toArray, List.set_cons_zero, List.set_cons_succ]
        refine wpAnyH_take (i := 7) (oi := Oper.mk _ _ _ _ _ _) (v := ?_) rfl (by kernel_rfl) (by kernel_rfl) (by kernel_rfl) (fun _ _ _ h => h) (Or.inl ⟨by rfl, ?_⟩) hHeld ?_
        rotate_left
        · (intro w hSw; (try dsimp only at hSw); (first | (go_simp; done) | (go_simp; with_reducible rfl)))
        try simp only [Act.put, List.setIfInBounds_toArray, List.set_cons_zero, List.set_cons_succ]
        refine wpAnyH_take (i := 8) (oi := Oper.mk _ _ _ _ _ _) (v := ?_) rfl (by kernel_rfl) (by kernel_rfl) (by kernel_rfl) (fun _ _ _ h => h) (Or.inl ⟨by rfl, ?_⟩) hHeld ?_
        rotate_left
        · (intro w hSw; (try dsimp only at hSw); (first | (go_simp; done) | (go_simp; with_reducible rfl)))
        try simp only [Act.put, List.setIfInBounds_toArray, List.set_cons_zero, List.set_cons_succ]
        refine wpAnyH_take (i := 9) (oi := Oper.mk _ _ _ _ _ _) (v := ?_) rfl (by kernel_rfl) (by kernel_rfl) (by kernel_rfl) (fun _ _ _ h => h) (Or.inl ⟨by rfl, ?_⟩) hHeld ?_
        rotate_left
        · (intro w hSw; (try dsimp only at hSw); (first | (go_simp; done) | (go_simp; with_reducible rfl)))
        try simp only [Act.put, List.setIfInBounds_toArray, List.set_cons_zero, List.set_cons_succ]
        refine wpAnyH_take (i := 10) (oi := Oper.mk _ _ _ _ _ _) (v := ?_) rfl (by kernel_rfl) (by kernel_rfl) (by kernel_rfl) (fun _ _ _ h => h) (Or.inl ⟨by rfl, ?_⟩) hHeld ?_
        rotate_left
        · (intro w hSw; (try dsimp only at hSw); (first | (go_simp; done) | (go_simp; with_reducible rfl)))
        try simp only [Act.put, List.setIfInBounds_toArray, List.set_cons_zero, List.set_cons_succ]
        refine wpAnyH_take (i := 11) (oi := Oper.mk _ _ _ _ _ _) (v := ?_) rfl (by kernel_rfl) (by kernel_rfl) (by kernel_rfl) (fun _ _ _ h => h) (Or.inl ⟨by rfl, ?_⟩) hHeld ?_
        rotate_left
        · (intro w hSw; (try dsimp only at hSw); (first | (go_simp; done) | (go_simp; with_reducible rfl)))
        try simp only [Act.put, List.setIfInBounds_toArray, List.set_cons_zero, List.set_cons_succ]
        refine wpAnyH_take (i := 13) (oi := Oper.mk _ _ _ _ _ _) (v := ?_) rfl (by kernel_rfl) (by kernel_rfl) (by kernel_rfl) (fun _ _ _ h => h) (Or.inl ⟨by rfl, ?_⟩) hHeld ?_
        rotate_left
        · (intro w hSw; (try dsimp only at hSw); (first | (go_simp; done) | (go_simp; with_reducible rfl)))
        try simp only [Act.put, List.setIfInBounds_toArray, List.set_cons_zero, List.set_cons_succ]
        refine wpAnyH_take (i := 14) (oi := Oper.mk _ _ _ _ _ _) (v := ?_) rfl (by kernel_rfl) (by kernel_rfl) (by kernel_rfl) (fun _ _ _ h => h) (Or.inl ⟨by rfl, ?_⟩) hHeld ?_
        rotate_left
        · (intro w hSw; (try dsimp only at hSw); (first | (go_simp; done) | (go_simp; with_reducible rfl)))
        try simp only [Act.put, List.setIfInBounds_toArray, List.set_cons_zero, List.set_cons_succ]
        refine wpAnyH_take (i := 15) (oi := Oper.mk _ _ _ _ _ _) (v := ?_) rfl (by kernel_rfl) (by kernel_rfl) (by kernel_rfl) (fun _ _ _ h => h) (Or.inl ⟨by rfl, ?_⟩) hHeld ?_
        rotate_left
        · (intro w hSw; (try dsimp only at hSw); (first | (go_simp; done) | (go_simp; with_reducible rfl)))
        try simp only [Act.put, List.setIfInBounds_toArray, List.set_cons_zero, List.set_cons_succ]
        refine wpAnyH_take (i := 16) (oi := Oper.mk _ _ _ _ _ _) (v := ?_) rfl (by kernel_rfl) (by kernel_rfl) (by kernel_rfl) (fun _ _ _ h => h) (Or.inl ⟨by rfl, ?_⟩) hHeld ?_
        rotate_left
        · (intro w hSw; (try dsimp only at hSw); have e1 := hSw.rlog.c1; (first | (go_simp; done) | (go_simp; with_reducible rfl)))
        try simp only [Act.put, List.setIfInBounds_toArray, List.set_cons_zero, List.set_cons_succ]
        refine wpAnyH_ready (rs := [12]) (by kernel_rfl) (by simp) ?_
        refine AllReadyH.cons (o := Oper.mk _ _ _ _ _ _) rfl (fun K hK => ?_) AllReadyH.nil
        (go_simp; refine (records_l hHeld.log (by omega)).mono ?_; rintro e w9 ⟨u9, rfl, hu9, k9⟩)
        refine hK.out _ _ ((hHeld.skip k9)) (fun hNew => ?_)
        clear hHeld hK
        have hHeld := hNew
        clear hNew
        try simp only [Act.put, List.setIfInBounds_toArray, List.set_cons_zero, List.set_cons_succ]
        obtain ⟨a9, c9, rfl⟩ := row_len hu9.rowOf
        refine wpAnyH_ready (rs := [17]) (by kernel_rfl) (by simp) ?_
        refine AllReadyH.cons (o := Oper.mk _ _ _ _ _ _) rfl (fun K hK => ?_) AllReadyH.nil
        (go_simp; refine (same_l hu9.rowOf hHeld.rlog.row.rowOf (by omega)).mono ?_; rintro e w10 ⟨rfl, k10⟩)
        refine hK.out _ _ ((hHeld.skip k10)) (fun hNew => ?_)
        clear hHeld hK
        have hHeld := hNew
        clear hNew
        try simp only [Act.put, List.setIfInBounds_toArray, List.set_cons_zero, List.set_cons_succ]
        clear hu9 k9 k10
        refine wpAnyH_take (i := 18) (oi := Oper.mk _ _ _ _ _ _) (v := ?_) rfl (by kernel_rfl) (by kernel_rfl) (by kernel_rfl) (fun _ _ _ h => h) (Or.inl ⟨by rfl, ?_⟩) hHeld ?_
        rotate_left
        · (intro w hSw; (try dsimp only at hSw); (first | (go_simp; done) | (go_simp; with_reducible rfl)))
        try simp only [Act.put, List.setIfInBounds_toArray, List.set_cons_zero, List.set_cons_succ]
        refine wpAnyH_take (i := 19) (oi := Oper.mk _ _ _ _ _ _) (v := ?_) rfl (by kernel_rfl) (by kernel_rfl) (by kernel_rfl) (fun _ _ _ h => h) (Or.inl ⟨by rfl, ?_⟩) hHeld ?_
        rotate_left
        · (intro w hSw; (try dsimp only at hSw); (first | (go_simp; done) | (go_simp; with_reducible rfl)))
        try simp only [Act.put, List.setIfInBounds_toArray, List.set_cons_zero, List.set_cons_succ]
        refine wpAnyH_take (i := 20) (oi := Oper.mk _ _ _ _ _ _) (v := ?_) rfl (by kernel_rfl) (by kernel_rfl) (by kernel_rfl) (fun _ _ _ h => h) (Or.inl ⟨by rfl, ?_⟩) hHeld ?_
        rotate_left
        · (intro w hSw; (try dsimp only at hSw); (first | (go_simp; done) | (go_simp; with_reducible rfl)))
        try simp only [Act.put, List.setIfInBounds_toArray, List.set_cons_zero, List.set_cons_succ]
        refine wpAnyH_take (i := 21) (oi := Oper.mk _ _ _ _ _ _) (v := ?_) rfl (by kernel_rfl) (by kernel_rfl) (by kernel_rfl) (fun _ _ _ h => h) (Or.inl ⟨by rfl, ?_⟩) hHeld ?_
        rotate_left
        · (intro w hSw; (try dsimp only at hSw); (first | (go_simp; done) | (go_simp; with_reducible rfl)))
        try simp only [Act.put, List.setIfInBounds_toArray, List.set_cons_zero, List.set_cons_succ]
        refine wpAnyH_take (i := 23) (oi := Oper.mk _ _ _ _ _ _) (v := ?_) rfl (by kernel_rfl) (by kernel_rfl) (by kernel_rfl) (fun _ _ _ h => h) (Or.inl ⟨by rfl, ?_⟩) hHeld ?_
        rotate_left
        · (intro w hSw; (try dsimp only at hSw); (first | (go_simp; done) | (go_simp; with_reducible rfl)))
        try simp only [Act.put, List.setIfInBounds_toArray, List.set_cons_zero, List.set_cons_succ]
        refine wpAnyH_take (i := 24) (oi := Oper.mk _ _ _ _ _ _) (v := ?_) rfl (by kernel_rfl) (by kernel_rfl) (by kernel_rfl) (fun _ _ _ h => h) (Or.inl ⟨by rfl, ?_⟩) hHeld ?_
        rotate_left
        · (intro w hSw; (try dsimp only at hSw); (first | (go_simp; done) | (go_simp; with_reducible rfl)))
        try simp only [Act.put, List.setIfInBounds_toArray, List.set_cons_zero, List.set_cons_succ]
        refine wpAnyH_take (i := 25) (oi := Oper.mk _ _ _ _ _ _) (v := ?_) rfl (by kernel_rfl) (by kernel_rfl) (by kernel_rfl) (fun _ _ _ h => h) (Or.inl ⟨by rfl, ?_⟩) hHeld ?_
        rotate_left
        · (intro w hSw; (try dsimp only at hSw); (first | (go_simp; done) | (go_simp; with_reducible rfl)))
        try simp only [Act.put, List.setIfInBounds_toArray, List.set_cons_zero, List.set_cons_succ]
        refine wpAnyH_take (i := 26) (oi := Oper.mk _ _ _ _ _ _) (v := ?_) rfl (by kernel_rfl) (by kernel_rfl) (by kernel_rfl) (fun _ _ _ h => h) (Or.inl ⟨by rfl, ?_⟩) hHeld ?_
        rotate_left
        · (intro w hSw; (try dsimp only at hSw); have e2 := hSw.rlog.c2; (first | (go_simp; done) | (go_simp; with_reducible rfl)))
        try simp only [Act.put, List.setIfInBounds_toArray, List.set_cons_zero, List.set_cons_succ]
        refine wpAnyH_ready (rs := [22]) (by kernel_rfl) (by simp) ?_
        refine AllReadyH.cons (o := Oper.mk _ _ _ _ _ _) rfl (fun K hK => ?_) AllReadyH.nil
        (go_simp; refine (sure_l hHeld.log).mono ?_; rintro e w11 ⟨rfl, rfl⟩)
        refine hK.out _ _ (hHeld) (fun hNew => ?_)
        clear hHeld hK
        have hHeld := hNew
        clear hNew
        try simp only [Act.put, List.setIfInBounds_toArray, List.set_cons_zero, List.set_cons_succ]
        refine wpAnyH_take (i := 27) (oi := Oper.mk _ _ _ _ _ _) (v := ?_) rfl (by kernel_rfl) (by kernel_rfl) (by kernel_rfl) (fun _ _ _ h => h) (Or.inl ⟨by rfl, ?_⟩) hHeld ?_
        rotate_left
        · (intro w hSw; (try dsimp only at hSw); (first | (go_simp; done) | (go_simp; with_reducible rfl)))
        try simp only [Act.put, List.setIfInBounds_toArray, List.set_cons_zero, List.set_cons_succ]
        refine wpAnyH_take (i := 28) (oi := Oper.mk _ _ _ _ _ _) (v := ?_) rfl (by kernel_rfl) (by kernel_rfl) (by kernel_rfl) (fun _ _ _ h => h) (Or.inl ⟨by rfl, ?_⟩) hHeld ?_
        rotate_left
        · (intro w hSw; (try dsimp only at hSw); (first | (go_simp; done) | (go_simp; with_reducible rfl)))
        try simp only [Act.put, List.setIfInBounds_toArray, List.set_cons_zero, List.set_cons_succ]
        refine wpAnyH_take (i := 29) (oi := Oper.mk _ _ _ _ _ _) (v := ?_) rfl (by kernel_rfl) (by kernel_rfl) (by kernel_rfl) (fun _ _ _ h => h) (Or.inl ⟨by rfl, ?_⟩) hHeld ?_
        rotate_left
        · (intro w hSw; (try dsimp only at hSw); (first | (go_simp; done) | (go_simp; with_reducible rfl)))
        try simp only [Act.put, List.setIfInBounds_toArray, List.set_cons_zero, List.set_cons_succ]
        refine wpAnyH_take (i := 30) (oi := Oper.mk _ _ _ _ _ _) (v := ?_) rfl (by kernel_rfl) (by kernel_rfl) (by kernel_rfl) (fun _ _ _ h => h) (Or.inl ⟨by rfl, ?_⟩) hHeld ?_
        rotate_left
        · (intro w hSw; (try dsimp only at hSw); (first | (go_simp; done) | (go_simp; with_reducible rfl)))
        try simp only [Act.put, List.setIfInBounds_toArray, List.set_cons_zero, List.set_cons_succ]
        refine wpAnyH_take (i := 32) (oi := Oper.mk _ _ _ _ _ _) (v := ?_) rfl (by kernel_rfl) (by kernel_rfl) (by kernel_rfl) (fun _ _ _ h => h) (Or.inl ⟨by rfl, ?_⟩) hHeld ?_
        rotate_left
        · (intro w hSw; (try dsimp only at hSw); (first | (go_simp; done) | (go_simp; with_reducible rfl)))
        try simp only [Act.put, List.setIfInBounds_toArray, List.set_cons_zero, List.set_cons_succ]
        refine wpAnyH_take (i := 33) (oi := Oper.mk _ _ _ _ _ _) (v := ?_) rfl (by kernel_rfl) (by kernel_rfl) (by kernel_rfl) (fun _ _ _ h => h) (Or.inl ⟨by rfl, ?_⟩) hHeld ?_
        rotate_left
        · (intro w hSw; (try dsimp only at hSw); (first | (go_simp; done) | (go_simp; with_reducible rfl)))
        try simp only [Act.put, List.setIfInBounds_toArray, List.set_cons_zero, List.set_cons_succ]
        refine wpAnyH_take (i := 34) (oi := Oper.mk _ _ _ _ _ _) (v := ?_) rfl (by kernel_rfl) (by kernel_rfl) (by kernel_rfl) (fun _ _ _ h => h) (Or.inl ⟨by rfl, ?_⟩) hHeld ?_
        rotate_left
        · (intro w hSw; (try dsimp only at hSw); (first | (go_simp; done) | (go_simp; with_reducible rfl)))
        try simp only [Act.put, List.setIfInBounds_toArray, List.set_cons_zero, List.set_cons_succ]
        refine wpAnyH_take (i := 35) (oi := Oper.mk _ _ _ _ _ _) (v := ?_) rfl (by kernel_rfl) (by kernel_rfl) (by kernel_rfl) (fun _ _ _ h => h) (Or.inl ⟨by rfl, ?_⟩) hHeld ?_
        rotate_left
        · (intro w hSw; (try dsimp only at hSw); have e3 := hSw.rlog.c3; (first | (go_simp; done) | (go_simp; with_reducible rfl)))
        try simp only [Act.put, List.setIfInBounds_toArray, List.set_cons_zero, List.set_cons_succ]
        refine wpAnyH_ready (rs := [31]) (by kernel_rfl) (by simp) ?_
        refine AllReadyH.cons (o := Oper.mk _ _ _ _ _ _) rfl (fun K hK => ?_) AllReadyH.nil
        (go_simp; refine (halted_l hHeld.log).mono ?_; rintro e w11 ⟨rfl, rfl⟩)
        refine hK.out _ _ (hHeld) (fun hNew => ?_)
        clear hHeld hK
        have hHeld := hNew
        clear hNew
        try simp only [Act.put, List.setIfInBounds_toArray, List.set_cons_zero, List.set_cons_succ]
        refine wpAnyH_take (i := 36) (oi := Oper.mk _ _ _ _ _ _) (v := ?_) rfl (by kernel_rfl) (by kernel_rfl) (by kernel_rfl) (fun _ _ _ h => h) (Or.inl ⟨by rfl, ?_⟩) hHeld ?_
        rotate_left
        · (intro w hSw; (try dsimp only at hSw); (first | (go_simp; done) | (go_simp; with_reducible rfl)))
        try simp only [Act.put, List.setIfInBounds_toArray, List.set_cons_zero, List.set_cons_succ]
        refine wpAnyH_take (i := 37) (oi := Oper.mk _ _ _ _ _ _) (v := ?_) rfl (by kernel_rfl) (by kernel_rfl) (by kernel_rfl) (fun _ _ _ h => h) (Or.inl ⟨by rfl, ?_⟩) hHeld ?_
        rotate_left
        · (intro w hSw; (try dsimp only at hSw); (first | (go_simp; done) | (go_simp; with_reducible rfl)))
        try simp only [Act.put, List.setIfInBounds_toArray, List.set_cons_zero, List.set_cons_succ]
        refine wpAnyH_take (i := 38) (oi := Oper.mk _ _ _ _ _ _) (v := ?_) rfl (by kernel_rfl) (by kernel_rfl) (by kernel_rfl) (fun _ _ _ h => h) (Or.inl ⟨by rfl, ?_⟩) hHeld ?_
        rotate_left
        · (intro w hSw; (try dsimp only at hSw); (first | (go_simp; done) | (go_simp; with_reducible rfl)))
        try simp only [Act.put, List.setIfInBounds_toArray, List.set_cons_zero, List.set_cons_succ]
        refine wpAnyH_take (i := 39) (oi := Oper.mk _ _ _ _ _ _) (v := ?_) rfl (by kernel_rfl) (by kernel_rfl) (by kernel_rfl) (fun _ _ _ h => h) (Or.inl ⟨by rfl, ?_⟩) hHeld ?_
        rotate_left
        · (intro w hSw; (try dsimp only at hSw); (first | (go_simp; done) | (go_simp; with_reducible rfl)))
        try simp only [Act.put, List.setIfInBounds_toArray, List.set_cons_zero, List.set_cons_succ]
        refine wpAnyH_take (i := 41) (oi := Oper.mk _ _ _ _ _ _) (v := ?_) rfl (by kernel_rfl) (by kernel_rfl) (by kernel_rfl) (fun _ _ _ h => h) (Or.inl ⟨by rfl, ?_⟩) hHeld ?_
        rotate_left
        · (intro w hSw; (try dsimp only at hSw); (first | (go_simp; done) | (go_simp; with_reducible rfl)))
        try simp only [Act.put, List.setIfInBounds_toArray, List.set_cons_zero, List.set_cons_succ]
        refine wpAnyH_ready (rs := [40]) (by kernel_rfl) (by simp) ?_
        refine AllReadyH.cons (o := Oper.mk _ _ _ _ _ _) rfl (fun K hK => ?_) AllReadyH.nil
        (go_simp; refine (read_any hHeld.disk _).mono ?_; rintro e w11 ⟨rfl, rfl⟩)
        refine hK.out _ _ (hHeld) (fun hNew => ?_)
        clear hHeld hK
        have hHeld := hNew
        clear hNew
        try simp only [Act.put, List.setIfInBounds_toArray, List.set_cons_zero, List.set_cons_succ]
        refine wpAnyH_ready (rs := [42]) (by kernel_rfl) (by simp) ?_
        refine AllReadyH.cons (o := Oper.mk _ _ _ _ _ _) rfl (fun K hK => ?_) AllReadyH.nil
        (go_simp; refine (r_read hHeld.ref _).mono ?_; rintro e w11 ⟨rfl, m1, rfl⟩)
        refine hK.out _ _ ((hHeld.skip ((Keeps.refl [] _).drewN m1))) (fun hNew => ?_)
        clear hHeld hK
        have hHeld := hNew
        clear hNew
        try simp only [Act.put, List.setIfInBounds_toArray, List.set_cons_zero, List.set_cons_succ]
        generalize w10.drewN m1 = w12 at *
        refine wpAnyH_take (i := 43) (oi := Oper.mk _ _ _ _ _ _) (v := ?_) rfl (by kernel_rfl) (by kernel_rfl) (by kernel_rfl) (fun _ _ _ h => h) (Or.inl ⟨by rfl, ?_⟩) hHeld ?_
        rotate_left
        · (intro w hSw; (try dsimp only at hSw); (first | (go_simp; done) | (go_simp; with_reducible rfl)))
        try simp only [Act.put, List.setIfInBounds_toArray, List.set_cons_zero, List.set_cons_succ]
        refine wpAnyH_take (i := 44) (oi := Oper.mk _ _ _ _ _ _) (v := ?_) rfl (by kernel_rfl) (by kernel_rfl) (by kernel_rfl) (fun _ _ _ h => h) (Or.inl ⟨by rfl, ?_⟩) hHeld ?_
        rotate_left
        · (intro w hSw; (try dsimp only at hSw); (first | (go_simp; done) | (go_simp; with_reducible rfl)))
        try simp only [Act.put, List.setIfInBounds_toArray, List.set_cons_zero, List.set_cons_succ]
        refine wpAnyH_take (i := 45) (oi := Oper.mk _ _ _ _ _ _) (v := ?_) rfl (by kernel_rfl) (by kernel_rfl) (by kernel_rfl) (fun _ _ _ h => h) (Or.inl ⟨by rfl, ?_⟩) hHeld ?_
        rotate_left
        · (intro w hSw; (try dsimp only at hSw); (first | (go_simp; done) | (go_simp; with_reducible rfl)))
        try simp only [Act.put, List.setIfInBounds_toArray, List.set_cons_zero, List.set_cons_succ]
        refine wpAnyH_take (i := 46) (oi := Oper.mk _ _ _ _ _ _) (v := ?_) rfl (by kernel_rfl) (by kernel_rfl) (by kernel_rfl) (fun _ _ _ h => h) (Or.inl ⟨by rfl, ?_⟩) hHeld ?_
        rotate_left
        · (intro w hSw; (try dsimp only at hSw); (first | (go_simp; done) | (go_simp; with_reducible rfl)))
        try simp only [Act.put, List.setIfInBounds_toArray, List.set_cons_zero, List.set_cons_succ]
        refine wpAnyH_take (i := 48) (oi := Oper.mk _ _ _ _ _ _) (v := ?_) rfl (by kernel_rfl) (by kernel_rfl) (by kernel_rfl) (fun _ _ _ h => h) (Or.inl ⟨by rfl, ?_⟩) hHeld ?_
        rotate_left
        · (intro w hSw; (try dsimp only at hSw); (first | (go_simp; done) | (go_simp; with_reducible rfl)))
        try simp only [Act.put, List.setIfInBounds_toArray, List.set_cons_zero, List.set_cons_succ]
        refine wpAnyH_ready (rs := [47]) (by kernel_rfl) (by simp) ?_
        refine AllReadyH.cons (o := Oper.mk _ _ _ _ _ _) rfl (fun K hK => ?_) AllReadyH.nil
        (go_simp; refine (read_any hHeld.disk _).mono ?_; rintro e w11 ⟨rfl, rfl⟩)
        refine hK.out _ _ (hHeld) (fun hNew => ?_)
        clear hHeld hK
        have hHeld := hNew
        clear hNew
        try simp only [Act.put, List.setIfInBounds_toArray, List.set_cons_zero, List.set_cons_succ]
        refine wpAnyH_ready (rs := [49]) (by kernel_rfl) (by simp) ?_
        refine AllReadyH.cons (o := Oper.mk _ _ _ _ _ _) rfl (fun K hK => ?_) AllReadyH.nil
        (go_simp; refine (r_read hHeld.ref _).mono ?_; rintro e w11 ⟨rfl, m2, rfl⟩)
        refine hK.out _ _ ((hHeld.skip ((Keeps.refl [] _).drewN m2))) (fun hNew => ?_)
        clear hHeld hK
        have hHeld := hNew
        clear hNew
        try simp only [Act.put, List.setIfInBounds_toArray, List.set_cons_zero, List.set_cons_succ]
        generalize w12.drewN m2 = w13 at *
        refine wpAnyH_take (i := 50) (oi := Oper.mk _ _ _ _ _ _) (v := ?_) rfl (by kernel_rfl) (by kernel_rfl) (by kernel_rfl) (fun _ _ _ h => h) (Or.inl ⟨by rfl, ?_⟩) hHeld ?_
        rotate_left
        · (intro w hSw; (try dsimp only at hSw); (first | (go_simp; done) | (go_simp; with_reducible rfl)))
        try simp only [Act.put, List.setIfInBounds_toArray, List.set_cons_zero, List.set_cons_succ]
        refine wpAnyH_take (i := 51) (oi := Oper.mk _ _ _ _ _ _) (v := ?_) rfl (by kernel_rfl) (by kernel_rfl) (by kernel_rfl) (fun _ _ _ h => h) (Or.inl ⟨by rfl, ?_⟩) hHeld ?_
        rotate_left
        · (intro w hSw; (try dsimp only at hSw); (first | (go_simp; done) | (go_simp; with_reducible rfl)))
        try simp only [Act.put, List.setIfInBounds_toArray, List.set_cons_zero, List.set_cons_succ]
        refine wpAnyH_take (i := 52) (oi := Oper.mk _ _ _ _ _ _) (v := ?_) rfl (by kernel_rfl) (by kernel_rfl) (by kernel_rfl) (fun _ _ _ h => h) (Or.inl ⟨by rfl, ?_⟩) hHeld ?_
        rotate_left
        · (intro w hSw; (try dsimp only at hSw); (first | (go_simp; done) | (go_simp; with_reducible rfl)))
        try simp only [Act.put, List.setIfInBounds_toArray, List.set_cons_zero, List.set_cons_succ]
        refine wpAnyH_take (i := 53) (oi := Oper.mk _ _ _ _ _ _) (v := ?_) rfl (by kernel_rfl) (by kernel_rfl) (by kernel_rfl) (fun _ _ _ h => h) (Or.inl ⟨by rfl, ?_⟩) hHeld ?_
        rotate_left
        · (intro w hSw; (try dsimp only at hSw); (first | (go_simp; done) | (go_simp; with_reducible rfl)))
        try simp only [Act.put, List.setIfInBounds_toArray, List.set_cons_zero, List.set_cons_succ]
        refine wpAnyH_take (i := 55) (oi := Oper.mk _ _ _ _ _ _) (v := ?_) rfl (by kernel_rfl) (by kernel_rfl) (by kernel_rfl) (fun _ _ _ h => h) (Or.inl ⟨by rfl, ?_⟩) hHeld ?_
        rotate_left
        · (intro w hSw; (try dsimp only at hSw); (first | (go_simp; done) | (go_simp; with_reducible rfl)))
        try simp only [Act.put, List.setIfInBounds_toArray, List.set_cons_zero, List.set_cons_succ]
        refine wpAnyH_ready (rs := [54]) (by kernel_rfl) (by simp) ?_
        refine AllReadyH.cons (o := Oper.mk _ _ _ _ _ _) rfl (fun K hK => ?_) AllReadyH.nil
        (go_simp; refine (sure_any hHeld.disk _).mono ?_; rintro e w11 ⟨rfl, rfl⟩)
        refine hK.out _ _ (hHeld) (fun hNew => ?_)
        clear hHeld hK
        have hHeld := hNew
        clear hNew
        try simp only [Act.put, List.setIfInBounds_toArray, List.set_cons_zero, List.set_cons_succ]
        refine wpAnyH_ready (rs := [56]) (by kernel_rfl) (by simp) ?_
        refine AllReadyH.cons (o := Oper.mk _ _ _ _ _ _) rfl (fun K hK => ?_) AllReadyH.nil
        (go_simp; refine (r_sure hHeld.ref _).mono ?_; rintro e w11 ⟨rfl, rfl⟩)
        refine hK.out _ _ (hHeld) (fun hNew => ?_)
        clear hHeld hK
        have hHeld := hNew
        clear hNew
        try simp only [Act.put, List.setIfInBounds_toArray, List.set_cons_zero, List.set_cons_succ]
        refine wpAnyH_take (i := 57) (oi := Oper.mk _ _ _ _ _ _) (v := ?_) rfl (by kernel_rfl) (by kernel_rfl) (by kernel_rfl) (fun _ _ _ h => h) (Or.inl ⟨by rfl, ?_⟩) hHeld ?_
        rotate_left
        · (intro w hSw; (try dsimp only at hSw); (first | (go_simp; done) | (go_simp; with_reducible rfl)))
        try simp only [Act.put, List.setIfInBounds_toArray, List.set_cons_zero, List.set_cons_succ]
        refine wpAnyH_take (i := 58) (oi := Oper.mk _ _ _ _ _ _) (v := ?_) rfl (by kernel_rfl) (by kernel_rfl) (by kernel_rfl) (fun _ _ _ h => h) (Or.inl ⟨by rfl, ?_⟩) hHeld ?_
        rotate_left
        · (intro w hSw; (try dsimp only at hSw); (first | (go_simp; done) | (go_simp; with_reducible rfl)))
        try simp only [Act.put, List.setIfInBounds_toArray, List.set_cons_zero, List.set_cons_succ]
        refine wpAnyH_done (by kernel_rfl) ?_ _
        have M9 := hHeld
        clear hHeld
        go_wp2_with fail
        go_roundw
        case rel => exact ⟨k + 1, P, P2, B2, sure, v, _, hal, recs, laid, fa, fb, by omega, by omega, rfl, rfl, rfl, rfl, by go_num, M9, HOK.out, by omega, hll2⟩
        case measure => simp [intOf]; omega
    · have HKK := Go.Lib.hid M.keeps
      clear M ok
      go_wp2_with fail
      refine (fixed_c (w := wr)).mono ?_
      rintro e w10 ⟨rfl, k10⟩
      go_wp2
      go_ret
      exact ⟨rfl, ((HKW.out.trans HKK.out).trans k10).below (Nat.le_refl _) (by simp)⟩
end Go.Proofs.Ytkkbjkoikidjpaa
