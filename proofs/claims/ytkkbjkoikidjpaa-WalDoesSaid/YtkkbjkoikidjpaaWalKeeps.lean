/-
  WalKeeps: its walk.
-/
import Derived.Test.YtkkbjkoikidjpaaWalCut
import Derived.Test.YtkkbjkoikidjpaaWalKept
namespace Go.Proofs.Ytkkbjkoikidjpaa
open Go.RowKit

theorem in_own {P L : Nat} {v : Value} {x : Nat} (h : x ∈ P :: L :: v.ownBlock.toList) : x = P ∨ x = L ∨ v.ownBlock = some x := by simpa using h
theorem RowOf.take {w : World} {a : Option Addr} {n c : Nat} {l : List ByteArray} (h : RowOf w (.slice a n c) l) (k : Nat) (hk : k ≤ l.length) : RowOf w (.slice a k c) (l.take k) := by
  rcases h with ⟨e, rfl⟩ | ⟨b, o, cap, e, hb, hc⟩
  · have hk0 : k = 0 := by simpa using hk
    subst hk0
    injection e with e1 e2 e3
    exact .inl ⟨by rw [e1, e3], by simp⟩
  · injection e with e1 e2 e3
    have e4 : (l.take k).length = k := by rw [List.length_take]; omega
    refine .inr ⟨b, o, c, by rw [e1, e4], hb, fun i hi => ?_⟩
    rw [hc i (by omega)]
    simp
theorem StrRow.capLe {w : World} {base : Nat} {a : Option Addr} {n c : Nat} {l : List ByteArray} (h : StrRow w base (.slice a n c) l) : l.length ≤ c := by
  rcases h.form with ⟨_, rfl⟩ | ⟨g, cap, e, _, _, hc, _⟩
  · exact Nat.zero_le _
  · injection e with _ _ e3
    rw [e3]; exact hc
theorem in_two {P L : Nat} {v : Value} {x : Nat} (h : x ∈ [P, L]) : x = P ∨ x = L ∨ v.ownBlock = some x := by
  simp at h
  rcases h with h | h
  · exact .inl h
  · exact .inr (.inl h)
theorem or_fresh2 {v' v : Value} {n : Nat} (h : v' = v ∨ ∀ g, v'.ownBlock = some g → n ≤ g) : v'.ownBlock = v.ownBlock ∨ ∀ g, v'.ownBlock = some g → n ≤ g := by
  rcases h with h | h
  · exact .inl (by rw [h])
  · exact .inr h
theorem or_fresh {v' v : Value} {n : Nat} (h : v'.ownBlock = v.ownBlock ∨ ∃ g, v'.ownBlock = some g ∧ n ≤ g) : v'.ownBlock = v.ownBlock ∨ ∀ g, v'.ownBlock = some g → n ≤ g := by
  rcases h with h | ⟨g, h1, h2⟩
  · exact .inl h
  · exact .inr fun g' hg => by rw [h1] at hg; cases hg; exact h2

set_option maxRecDepth 100000 in
set_option maxHeartbeats 40000000 in
theorem walKeeps_walk (a : Option Addr) (cap : Nat) (l0 : List WOp) {w : World} (hl : WOpsAt w (· < w.heap.size) a l0) :
    Calls Try.prog 3 #[.slice a l0.length cap] w fun e w' => e = .returned (.bool true) ∧ Below w.heap.size w w' := by
  have CC := cut_c (w := w) a cap l0 hl
  have NC := fun w => new2_c (w := w) 1048576 (by decide)
  have OC := fun w D L (h : DiskAt w D L [eF, eF] 1048576) => open0_c h
  obtain ⟨i0, hi, hz0, hz1, hz2⟩ := info_parts infoStr
  have hsm0 := hl.small
  clear hl
  go_enter Try.func3, Try.ntmps3
  go_wp2_with fail
  refine CC.mono ?_
  rintro e w1 ⟨sa, scap, l, rfl, hops, hlen, hsm, k1⟩
  go_wp2_with fail
  refine (NC _).mono ?_
  rintro e w2 ⟨D, L, rfl, hD2, k2, hDw, hLw⟩
  go_wp2_with fail
  refine (OC _ _ _ hD2).mono ?_
  rintro e w3 ⟨P, v, rfl, hPw, hL3, hD3, k3⟩
  have hlD := hD2.ltD
  have hlL := hD2.ltL
  have hs1 := k1.size
  have hs2 := k2.size
  have K3 : Keeps [] w1 w3 := k2.new k3 (by simp; omega)
  have hBw : w.heap.size ≤ w1.heap.size := hs1
  have Kw := k1
  have M0 : KMem w1 D L P v (.slice (some ⟨w3.heap.size, 0, none⟩) 0 0) [] [] 0 false eF eF ((w3.alloc (.cells #[] 9)).alloc (.cells #[] 9)) := by
    have hL4 := hL3.keep (((Keeps.refl [] w3).alloc (.cells #[] 9)).alloc (.cells #[] 9)) (by simp) (fun _ _ => by simp)
    have hD4 := hD3.keep (((Keeps.refl [] w3).alloc (.cells #[] 9)).alloc (.cells #[] 9)) (by simp) (by simp)
    have own0 : StrRow (w3.alloc (.cells #[] 9)) (P + 1) (.slice (some ⟨w3.heap.size, 0, none⟩) 0 0) [] := World.ownsRow_made _ _ _ (by have := hL3.lt; omega) (by decide) rfl
    refine ⟨hL4, hD4, own0.keep ((Keeps.refl [] _).alloc _) (fun _ _ => by simp), ?_, (K3.alloc _).alloc _, hDw, hLw, by omega, by omega⟩
    intro g hg hx
    have := (hL3.own g hg).2
    have e : w3.heap.size = g := by simpa [Value.ownBlock] using hx
    omega
  have HSM := Go.Lib.hid hsm
  have HOPS := Go.Lib.hid hops
  have HKW := Go.Lib.hid Kw
  clear CC NC OC hD2 k1 k2 k3 K3 hL3 hD3 hsm hops Kw hPw hlD hlL hDw hLw hs1 hs2
  go_wp2_with fail
  go_loopw [6, 7, 8, 9, 10, 11, 12] (fun v6 v7 v8 v9 v10 v11 v12 wr => KRel w1 D L l.length v6 v7 v8 v9 v10 v11 v12 wr) (fun _ _ _ _ _ _ v12 _ => l.length - (intOf v12).toNat)
  case atStart => exact ⟨0, P, 0, v, false, [], [], _, _, eF, eF, Nat.zero_le _, Nat.zero_le _, rfl, rfl, rfl, rfl, rfl, rfl, M0, .inl ⟨rfl, logOk0⟩, by simp, by simp, (fun h => by simp at h)⟩
  case round =>
    clear M0
    obtain ⟨k, P, sure, v, hal, recs, laid, la, lc, fa, fb, hk, hk30, rfl, rfl, rfl, rfl, rfl, rfl, M, ok, hrl, hll, hlaid⟩ := hrel
    by_cases hin : k < l.length
    · have HOK := Go.Lib.hid ok
      have HLAID := Go.Lib.hid hlaid
      have hops2 := HOPS.out.keep M.keeps (q := (· < w1.heap.size)) (fun _ _ _ => by simp) (fun _ _ h => h)
      obtain ⟨b, o, rfl, hbB, hc⟩ := hops2.cell k hin
      have hmem := List.getElem_mem hin
      obtain ⟨op, hop⟩ : ∃ op, op = l[k] := ⟨_, rfl⟩
      rw [← hop] at hc hmem
      have c0 : wr.cell? ⟨b, o + k * 5, none⟩ = some (.int .i64 op.kind) := hc 0 (by omega)
      have c1 : wr.cell? ⟨b, o + k * 5 + 1, none⟩ = some (.string op.s) := hc 1 (by omega)
      have c2 : wr.cell? ⟨b, o + k * 5 + 2, none⟩ = some (.slice op.la op.l.length op.lcap) := hc 2 (by omega)
      have c3 : wr.cell? ⟨b, o + k * 5 + 3, none⟩ = some (.int .i64 op.n) := hc 3 (by omega)
      have c4 : wr.cell? ⟨b, o + k * 5 + 4, none⟩ = some (.slice op.ka op.keep.length op.kcap) := hc 4 (by omega)
      obtain ⟨hsmall, hrowed⟩ := HSM.out op hmem
      have HS := Go.Lib.hid hsmall
      have HR := Go.Lib.hid hrowed
      have hk300 := hsmall.s
      have hk6 := hsmall.l
      have hkc := hsmall.keep
      have hkm := hsmall.kcap
      clear hops2 hc hmem hop ok hlaid hsmall hrowed
      go_upto_region 13 with fail
      obtain ⟨X, hX⟩ : ∃ X, X = wr.heap.size := ⟨_, rfl⟩
      obtain ⟨w4, hw4⟩ : ∃ w4, w4 = wr.alloc (.cells #[.int .i64 op.kind, .string op.s, .slice op.la op.l.length op.lcap, .int .i64 op.n, .slice op.ka op.keep.length op.kcap] 34) := ⟨_, rfl⟩
      have hB4 : OpBlk w4 X op := by rw [hw4, hX]; exact heap_alloc_same
      have K4 : Keeps [] wr w4 := by rw [hw4]; exact (Keeps.refl _ _).alloc _
      have M4 := M.skip K4
      have HXN : Hid (∀ x, x = P ∨ x = L ∨ v.ownBlock = some x → ¬ x = X) := by
        intro x hx
        have := M.log.lt
        have := M.disk.ltL
        rcases hx with e | e | e
        · omega
        · omega
        · have := M.log.own x e; omega
      obtain ⟨a8, c8, rfl⟩ := row_len M.row.rowOf
      rw [← hX, ← hw4]
      have d0 : w4.cell? ⟨X, 0, none⟩ = some (.int .i64 op.kind) := (cell_of_heap hB4).trans rfl
      have d1 : w4.cell? ⟨X, 1, none⟩ = some (.string op.s) := (cell_of_heap hB4).trans rfl
      have d2 : w4.cell? ⟨X, 2, none⟩ = some (.slice op.la op.l.length op.lcap) := (cell_of_heap hB4).trans rfl
      have d3 : w4.cell? ⟨X, 3, none⟩ = some (.int .i64 op.n) := (cell_of_heap hB4).trans rfl
      have d4 : w4.cell? ⟨X, 4, none⟩ = some (.slice op.ka op.keep.length op.kcap) := (cell_of_heap hB4).trans rfl
      have HB := Go.Lib.hid hB4
      clear M K4 hw4 hX c0 c1 c2 c3 c4 hB4
      by_cases q0 : op.kind = 0
      · have b0 : (op.kind == 0) = true := by simpa using q0
        clear q0 d2 d3 d4
        have A := append_l M4.log M4.disk M4.ordDP M4.ordLP op.s (by omega) (by omega)
        rcases HOK.out.append 1048576 op.s with ⟨ec, hec, e1⟩ | ⟨rfl, fa', e1, ok5⟩
        · rw [e1] at A
          dsimp only at A
          have b5 : (ec == 0) = false := by simpa using hec
          clear e1 hec
          go_wp2_with fail
          refine A.mono ?_
          rintro e w5 ⟨rfl, v5, hL5, hD5, k5, hor⟩
          have M5 := M4.step k5 (fun x hx => in_own hx) hL5 hD5 (or_fresh hor)
          clear A M4 hL5 hD5 k5 hor d1
          go_wp2_with fail
          go_roundw
          case rel => exact ⟨k + 1, P, sure, v5, hal, recs, laid, la, lc, fa, fb, by omega, by omega, rfl, rfl, rfl, rfl, rfl, by go_num, M5, HOK.out, by omega, hll, HLAID.out⟩
          case measure => simp [intOf]; omega
        · rw [e1] at A
          dsimp only at A
          have HOK5 := Go.Lib.hid ok5
          clear e1 ok5
          go_wp2_with fail
          refine A.mono ?_
          rintro e w5 ⟨rfl, v5, hL5, hD5, k5, hor⟩
          have M5 := M4.step k5 (fun x hx => in_own hx) hL5 hD5 (or_fresh hor)
          have hB5 : OpBlk w5 X op := k5.heap (fun hm => HXN.out X (in_own hm) rfl) HB.out
          have d1 : w5.cell? ⟨X, 1, none⟩ = some (.string op.s) := (cell_of_heap hB5).trans rfl
          have hrowA : StrRow (w5.alloc (.cells #[.string op.s] 9)) (P + 1) _ recs := M5.row.keep ((Keeps.refl [] w5).alloc _) (fun _ _ => by simp)
          have hP5 := M5.log.lt
          clear A M4 hL5 hD5 k5 hor hB5
          go_wp2_with (at_builtin; refine wpList_append_str rfl (.tmp 125) (.tmp 128) rfl (P + 1) _ recs rfl hrowA ⟨w5.heap.size, 0, none⟩ op.s rfl ?c1 ?c2 ?c3 ?_)
          case c1 => simp
          case c2 => omega
          case c3 => simp; omega
          intro g cap6 w6 hg hw hor6
          have M6 := M5.push hw hg (by simpa using hor6)
          clear hrowA hg hw hor6 M5 d1
          go_wp2_with fail
          go_roundw
          case rel => exact ⟨k + 1, P, sure, v5, false, recs ++ [op.s], laid, la, lc, fa', fb, by omega, by omega, rfl, rfl, rfl, rfl, rfl, by go_num, M6, HOK5.out, by simp; omega, hll, HLAID.out⟩
          case measure => simp [intOf]; omega
      have b0 : (op.kind == 0) = false := by simpa using q0
      by_cases q1 : op.kind = 1
      · have b1 : (op.kind == 1) = true := by simpa using q1
        clear q0 q1 d1 d2 d3 d4
        have A := lsync_c M4.log M4.disk M4.ordDP M4.ordLP
        rcases HOK.out.sync with ⟨ec, hec, e1⟩ | ⟨rfl, fa', e1, ok5⟩
        · rw [e1] at A
          dsimp only at A
          have b5 : (ec == 0) = false := by simpa using hec
          clear e1 hec
          go_wp2_with fail
          refine A.mono ?_
          rintro e w5 ⟨rfl, hL5, hD5, k5⟩
          have M5 := M4.step k5 (fun x hx => in_two hx) hL5 hD5 (.inl rfl)
          clear A M4 hL5 hD5 k5
          go_wp2_with fail
          go_roundw
          case rel => exact ⟨k + 1, P, sure, v, hal, recs, laid, la, lc, fa, fb, by omega, by omega, rfl, rfl, rfl, rfl, rfl, by go_num, M5, HOK.out, by omega, hll, HLAID.out⟩
          case measure => simp [intOf]; omega
        · rw [e1] at A
          dsimp only at A
          have HOK5 := Go.Lib.hid ok5
          clear e1 ok5
          go_wp2_with fail
          refine A.mono ?_
          rintro e w5 ⟨rfl, hL5, hD5, k5⟩
          have M5 := M4.step k5 (fun x hx => in_two hx) hL5 hD5 (.inl rfl)
          clear A M4 hL5 hD5 k5
          go_wp2_with fail
          go_roundw
          case rel => exact ⟨k + 1, P, recs.length, v, false, recs, laid, la, lc, fa', fb, by omega, by omega, rfl, rfl, rfl, rfl, rfl, by go_num, M5, HOK5.out, by omega, hll, HLAID.out⟩
          case measure => simp [intOf]; omega
      have b1 : (op.kind == 1) = false := by simpa using q1
      by_cases q2 : op.kind = 2
      · have b2 : (op.kind == 2) = true := by simpa using q2
        clear q0 q1 q2 d1 d4
        obtain ⟨bl, ela, hbl, _⟩ := HR.out.row
        have hrw1 := HR.out.rowOf
        have hoL := M4.ordL
        have hoP := M4.ordLP
        have hrw4 : RowOf w4 (.slice op.la op.l.length op.lcap) op.l := hrw1.keep M4.keeps (fun _ _ _ _ _ => by simp)
        have A := rewrite_c M4.log M4.disk M4.ordDP M4.ordLP hrw4 (by omega) (fun x hx => by have := HS.out.x x hx; omega) (by
          intro b o c m e
          rw [ela] at e
          injection e with e1 _ _
          cases e1
          exact ⟨by omega, by omega⟩) op.n HS.out.n
        have HRW1 := Go.Lib.hid hrw1
        have HRW4 := Go.Lib.hid hrw4
        clear hrw1 hrw4
        rcases HOK.out.rewrite 1048576 op.l op.n with ⟨ec, hec, e1⟩ | ⟨rfl, fa', fb', e1, ok5⟩ | ⟨rfl, fa', fb', e1, ok5⟩
        · rw [e1] at A
          dsimp only at A
          have b5 : (ec == 0) = false := by simpa using hec
          clear e1 hec ela
          go_wp2_with fail
          refine A.mono ?_
          rintro e w5 ⟨rfl, v5, hL5, hD5, k5, hor⟩
          have M5 := M4.step k5 (fun x hx => in_two hx) hL5 hD5 (or_fresh2 hor)
          have H5 := halted_l hL5
          clear A M4 hL5 hD5 k5 hor d2 d3
          cases hal
          all_goals
            go_wp2_with fail
            refine H5.mono ?_
            rintro e w6 ⟨rfl, rfl⟩
            go_wp2_with fail
            go_roundw
            case rel => exact ⟨k + 1, P, sure, v5, _, recs, laid, la, lc, fa, fb, by omega, by omega, rfl, rfl, rfl, rfl, rfl, by go_num, M5, HOK.out, by omega, hll, by first | exact HLAID.out | exact fun _ => HLAID.out trivial | (intro h; simp at h)⟩
            case measure => simp [intOf]; omega
        · rw [e1] at A
          dsimp only at A
          have HOK5 := Go.Lib.hid ok5
          have HELA := Go.Lib.hid ela
          clear e1 ok5 ela
          go_wp2_with fail
          refine A.mono ?_
          rintro e w5 ⟨rfl, v5, hL5, hD5, k5, hor⟩
          have M5 := M4.step k5 (fun x hx => in_two hx) hL5 hD5 (or_fresh2 hor)
          have hB5 : OpBlk w5 X op := k5.heap (fun hm => HXN.out X ((in_two hm).elim .inl (fun h => .inr (h.imp id id))) rfl) HB.out
          clear d2
          have d2' : w5.cell? ⟨X, 2, none⟩ = some (.slice op.la op.l.length op.lcap) := (cell_of_heap hB5).trans rfl
          rw [HELA.out] at d2'
          have hrw5 := HRW1.out.keep M5.keeps (fun _ _ _ _ _ => by simp)
          rw [HELA.out] at hrw5
          have own0 : (w5.alloc (.cells #[] 9)).ownsRow w5.heap.size 9 1 (.slice (some ⟨w5.heap.size, 0, none⟩) 0 0) 0 [] := World.ownsRow_made _ _ _ (Nat.le_refl _) (by decide) rfl
          have d2 := (((Keeps.refl [] w5).alloc (.cells #[] 9)).cell (lt_of_heap hB5) (by simp)).trans d2'
          have hcells := cells_strs (w := w5.alloc (.cells #[] 9)) (b := bl) (o := 0) (l := op.l) (fun i h => by
            obtain ⟨b2, o2, e2, hb2, hc2⟩ := row_at hrw5 h
            cases e2
            exact (((Keeps.refl [] w5).alloc _).cell hb2 (by simp)).trans hc2)
          have hone := ones_strs op.l
          clear A M4 hL5 hD5 k5 hor hB5 d3 hrw5
          go_wp2_with (at_builtin; refine wpList_append_own _ rfl (.tmp 147) (.tmp 149) 31 rfl w5.heap.size 9 i0 _ 1 16 Try.underlying31 hi hz0 hz1 hz2 rfl (by decide) _ _ _ rfl own0 ⟨bl, 0, none⟩ op.l.length op.lcap (strCells op.l) rfl (by simp [strCells]) hcells hone (by unfold maxLen; omega) (by omega) (by simp) ?_)
          intro v6 w6 ho hg _
          have k6 : Keeps [] w5 w6 := ((Keeps.refl [] w5).alloc _).grown hg (fun k hk => by cases hk; exact Nat.le_refl _)
          have R : StrRow w6 w5.heap.size v6 op.l := by
            unfold StrRow
            first | exact ho | simpa using ho
          have M6 := M5.fresh k6 R
          obtain ⟨a6, c6, rfl⟩ := row_len R.rowOf
          clear ho hg own0 hcells hone M5 k6 R d2' d2
          go_wp2_with fail
          go_roundw
          case rel => exact ⟨k + 1, P, op.l.length, v5, false, op.l, laid, la, lc, fa', fb', by omega, by omega, rfl, rfl, rfl, rfl, rfl, by go_num, M6, HOK5.out, by omega, hll, HLAID.out⟩
          case measure => simp [intOf]; omega
        · rw [e1] at A
          dsimp only at A
          have HOK5 := Go.Lib.hid ok5
          clear e1 ok5 ela
          go_wp2_with fail
          refine A.mono ?_
          rintro e w5 ⟨rfl, v5, hL5, hD5, k5, hor⟩
          have M5 := M4.step k5 (fun x hx => in_two hx) hL5 hD5 (or_fresh2 hor)
          have H5 := halted_l hL5
          have hB5 : OpBlk w5 X op := k5.heap (fun hm => HXN.out X ((in_two hm).elim .inl (fun h => .inr (h.imp id id))) rfl) HB.out
          have d2' : w5.cell? ⟨X, 2, none⟩ = some (.slice op.la op.l.length op.lcap) := (cell_of_heap hB5).trans rfl
          clear A M4 hL5 hD5 k5 hor hB5 d2 d3
          go_wp2_with fail
          refine H5.mono ?_
          rintro e w6 ⟨rfl, rfl⟩
          go_wp2_with fail
          go_roundw
          case rel => exact ⟨k + 1, P, sure, v5, true, recs, op.l, op.la, op.lcap, fa', fb', by omega, by omega, rfl, rfl, rfl, rfl, rfl, by go_num, M5, HOK5.out, by omega, by omega, fun _ => HRW1.out⟩
          case measure => simp [intOf]; omega
      have b2 : (op.kind == 2) = false := by simpa using q2
      clear q0 q1 q2 d1 d2 d3
      have hoL := M4.ordL
      have C := crash_any M4.disk op.ka op.kcap op.keep (IntsAt.keepP HR.out.lies.ints M4.keeps (q := (· < w1.heap.size)) (fun _ _ _ => by simp) (fun _ _ h => h)) (by show ¬ L < w1.heap.size; omega)
      have hs4 := M4.keeps.size
      go_wp2_with fail
      refine C.mono ?_
      rintro e w5 ⟨rfl, hD5, k5⟩
      have OC := reopen_ok hD5 (crash_sync _ _ _)
      obtain ⟨r, fa', fb', e1, ok7, hway⟩ := HOK.out.crash op.keep
      rw [e1] at OC
      dsimp only at OC
      have hrl7 : r.length ≤ k + 6 := by
        rcases hway with ⟨k', h1, h2, h3⟩ | ⟨_, h, _⟩
        · rw [h3, List.length_take]; omega
        · rw [h]; omega
      have row4 := M4.row
      have HOK7 := Go.Lib.hid ok7
      have HWAY := Go.Lib.hid hway
      clear C e1 ok7 hway d4
      go_wp2_with fail
      refine OC.mono ?_
      rintro e w6 ⟨P6, v6, rfl, hP6, hL6, hD6, k6⟩
      go_wp2_with fail
      refine (records_l hL6 (by omega)).mono ?_
      rintro e w7 ⟨u7, rfl, hu7, k7⟩
      obtain ⟨a7, c7, rfl⟩ := row_len hu7.rowOf
      have KL : Keeps [L] w4 w7 := (k5.trans k6).trans (k7.sub (by simp))
      have row7 := row4.keep KL (fun g hg => by have := World.ownsRow.lt row4 g hg; have := M4.ordLP; simp; omega)
      have hw3 := hL6.lt
      have hw4 := hD6.ltL
      have M7 : KMem w1 D L P6 v6 (.slice a7 r.length c7) r r r.length false fa' fb' w7 := by
        have h1 := hD5.ltD
        have h2 := hD5.ltL
        have hown := hL6.own
        refine ⟨hL6.keep k7 (by simp) (fun _ _ => by simp), hD6.keep k7 (by simp) (by simp), hu7.base (by omega), ?_, M4.keeps.new KL (by simp; exact hoL), M4.ordD, hoL, by omega, by omega⟩
        intro g hg hu
        have := hown g hg
        have := World.ownsRow.lt hu7 g hu
        omega
      have HLA7 : Hid (hal = true → RowOf w7 (.slice la laid.length lc) laid) := fun h => (HLAID.out h).keep M7.keeps (fun _ _ _ _ _ => by simp)
      have HROW7 := Go.Lib.hid row7
      clear OC row4 KL hL6 hD6 hD5 k5 k6 hP6 M4 row7 hw3 hw4
      go_upto_region 19 with fail
      go_cut [16] (fun v16 wx => ∃ okb, v16 = .bool okb ∧ Keeps [] w7 wx ∧ (okb = false → hal = true ∧ r = laid))
      case first =>
        have hcap := HROW7.out.capLe
        rcases HWAY.out with ⟨k', hk1, hk2, hk3⟩ | ⟨hht, hrl, hne, hse⟩
        · have hr : r.length = k' := by rw [hk3, List.length_take]; omega
          have q1 : ((sure : Int) ≤ (r.length : Int)) = True := by simp; omega
          have q2 : ((r.length : Int) ≤ (recs.length : Int)) = True := by simp; omega
          have q3 : ((recs.length : Int) < (r.length : Int)) = False := by simp; omega
          have q4 : r.length ≤ c8 := by omega
          have rowT : RowOf w7 (.slice a8 r.length c8) r := by
            have h := RowOf.take HROW7.out.rowOf k' hk2
            rw [← hk3, ← hr] at h
            exact h
          have S := same_c hu7.rowOf rowT (by omega)
          rw [decide_eq_true rfl] at S
          clear hk3 rowT hu7 k7 M7 hr hk1 hk2 k' HWAY HROW7
          go_wp2_with fail
          refine S.mono ?_
          rintro e w8 ⟨rfl, k8⟩
          go_wp2_with fail
          go_meet
          case rel => exact ⟨true, rfl, k8, fun h => by simp at h⟩
        · have HB7 : Hid (hal = true ∧ r = laid) := ⟨hht, hrl⟩
          clear hht hrl
          subst hse
          by_cases g1 : recs.length ≤ r.length
          · have q1 : ((recs.length : Int) ≤ (r.length : Int)) = True := by simp; omega
            by_cases g2 : r.length ≤ recs.length
            · have q2 : ((r.length : Int) ≤ (recs.length : Int)) = True := by simp; omega
              have q3 : ((recs.length : Int) < (r.length : Int)) = False := by simp; omega
              have q4 : r.length ≤ c8 := by omega
              have rowT : RowOf w7 (.slice a8 r.length c8) recs := by
                have h := RowOf.take HROW7.out.rowOf r.length g2
                rw [List.take_of_length_le g1] at h
                exact h
              have S := same_c hu7.rowOf rowT (by omega)
              rw [decide_eq_false hne] at S
              clear rowT hu7 k7 M7 g1 g2 HWAY HROW7 hne
              go_wp2_with fail
              refine S.mono ?_
              rintro e w8 ⟨rfl, k8⟩
              go_wp2_with fail
              go_meet
              case rel => exact ⟨false, rfl, k8, fun _ => HB7.out⟩
            · have q2 : ((r.length : Int) ≤ (recs.length : Int)) = False := by simp; omega
              clear hu7 k7 M7 g1 g2 HWAY HROW7 hne hcap
              go_wp2_with fail
              go_meet
              case rel => exact ⟨false, rfl, Keeps.refl _ _, fun _ => HB7.out⟩
          · have q1 : ((recs.length : Int) ≤ (r.length : Int)) = False := by simp; omega
            clear hu7 k7 M7 g1 HWAY HROW7 hne hcap
            go_wp2_with fail
            go_meet
            case rel => exact ⟨false, rfl, Keeps.refl _ _, fun _ => HB7.out⟩
      case rest =>
        obtain ⟨okb, rfl, k8, hokb⟩ := hcut
        have M8 := M7.skip k8
        have hrow8 := M8.row
        have HL8 := sure_l M8.log
        have HH8 := halted_l M8.log
        cases okb
        · obtain ⟨rfl, rfl⟩ := hokb rfl
          have hla8 := (HLA7.out rfl).keep k8 (fun _ _ _ _ _ => by simp)
          have S := same_c hrow8.rowOf hla8 (by omega)
          rw [decide_eq_true rfl] at S
          clear hla8 hokb M7 k8 hu7 k7
          go_wp2_with fail
          refine S.mono ?_
          rintro e w9 ⟨rfl, k9⟩
          have M9 := M8.skip k9
          have HL9 := sure_l M9.log
          have HH9 := halted_l M9.log
          clear M8 hrow8 HL8 HH8
          go_wp2_with fail
          refine HL9.mono ?_
          rintro e w10 ⟨rfl, rfl⟩
          go_wp2_with fail
          refine HH9.mono ?_
          rintro e w11 ⟨rfl, rfl⟩
          go_wp2_with fail
          go_roundw
          case rel => exact ⟨k + 1, P6, _, v6, false, _, _, la, lc, fa', fb', by omega, by omega, rfl, rfl, rfl, rfl, rfl, by go_num, M9, HOK7.out _, by omega, hll, fun h => by simp at h⟩
          case measure => simp [intOf]; omega
        · clear hokb M7 k8 hu7 k7 hrow8
          go_wp2_with fail
          refine HL8.mono ?_
          rintro e w10 ⟨rfl, rfl⟩
          go_wp2_with fail
          refine HH8.mono ?_
          rintro e w11 ⟨rfl, rfl⟩
          go_wp2_with fail
          go_roundw
          case rel => exact ⟨k + 1, P6, _, v6, false, _, laid, la, lc, fa', fb', by omega, by omega, rfl, rfl, rfl, rfl, rfl, by go_num, M8, HOK7.out _, by omega, hll, fun h => by simp at h⟩
          case measure => simp [intOf]; omega
    · have HKK := Go.Lib.hid M.keeps
      clear M ok hlaid
      go_wp2_with fail
      refine (fixed_c (w := wr)).mono ?_
      rintro e w10 ⟨rfl, k10⟩
      go_wp2
      go_ret
      exact ⟨rfl, ((HKW.out.trans HKK.out).trans k10).below (Nat.le_refl _) (by simp)⟩
end Go.Proofs.Ytkkbjkoikidjpaa
