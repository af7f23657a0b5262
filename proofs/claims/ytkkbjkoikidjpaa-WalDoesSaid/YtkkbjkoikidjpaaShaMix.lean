/-
  sha: 64 bytes taken into a state.
-/
import Derived.Test.YtkkbjkoikidjpaaShaSched
namespace Go.Proofs.Ytkkbjkoikidjpaa
open Go.RowKit

/-- A hash's eight words, the bytes that are left, how many it took. -/
structure HashAt (w : World) (A : Nat) (st : List Int) (left : ByteArray) (n : Int) : Prop where
  h : w.heap[A]? = some (.cells (st.map (Value.int .u32) ++ [Value.string left, Value.int .i64 n]).toArray 107 (0, 0))
  len : st.length = 8
  rng : AllU st
namespace HashAt
variable {w : World} {A : Nat} {st : List Int} {left : ByteArray} {n : Int}
theorem word (h : HashAt w A st left n) {i : Nat} (hi : i < 8) : w.cell? ⟨A, i, none⟩ = some (.int .u32 (st[i]?.getD 0)) := by
  have hl := h.len
  rw [cell_of_heap h.h]
  rw [List.getElem?_toArray, List.getElem?_append_left (by simp; omega), List.getElem?_map, List.getElem?_eq_getElem (by omega)]
  rfl
theorem lt (h : HashAt w A st left n) : A < w.heap.size := lt_of_heap h.h
theorem fz (h : HashAt w A st left n) (o : Nat) : w.frozen? ⟨A, o, none⟩ = false := frozen_of_heap h.h
theorem keep {w' : World} {S : List Nat} (h : HashAt w A st left n) (k : Keeps S w w') (hA : A ∉ S) : HashAt w' A st left n := ⟨k.heap hA h.h, h.len, h.rng⟩
theorem left_ (h : HashAt w A st left n) : w.cell? ⟨A, 8, none⟩ = some (.string left) := by
  have hl := h.len
  rw [cell_of_heap h.h, List.getElem?_toArray, List.getElem?_append_right (by simp; omega)]; simp [hl]
theorem n_ (h : HashAt w A st left n) : w.cell? ⟨A, 9, none⟩ = some (.int .i64 n) := by
  have hl := h.len
  rw [cell_of_heap h.h, List.getElem?_toArray, List.getElem?_append_right (by simp; omega)]; simp [hl]
theorem setWord (h : HashAt w A st left n) {i : Nat} (hi : i < 8) {x : Int} (hx : U32 x) : HashAt (w.setCell ⟨A, i, none⟩ (.int .u32 x)) A (st.set i x) left n :=
  ⟨by
    have hl := h.len
    rw [heap_setCell_same h.h]
    simp only [List.setIfInBounds_toArray, List.map_set]
    rw [List.set_append_left _ _ (by simp; omega)], by simp [h.len], allU_set h.rng hx⟩
theorem setLeft (h : HashAt w A st left n) (s : ByteArray) : HashAt (w.setCell ⟨A, 8, none⟩ (.string s)) A st s n :=
  ⟨by
    have hl := h.len
    rw [heap_setCell_same h.h]
    simp only [List.setIfInBounds_toArray]
    rw [List.set_append_right _ _ (by simp; omega)]; simp [hl], h.len, h.rng⟩
theorem setN (h : HashAt w A st left n) (m : Int) : HashAt (w.setCell ⟨A, 9, none⟩ (.int .i64 m)) A st left m :=
  ⟨by
    have hl := h.len
    rw [heap_setCell_same h.h]
    simp only [List.setIfInBounds_toArray]
    rw [List.set_append_right _ _ (by simp; omega)]; simp [hl], h.len, h.rng⟩
end HashAt

structure R8 where
  a : Int
  b : Int
  c : Int
  d : Int
  e : Int
  f : Int
  g : Int
  h : Int
structure R8.Ok (r : R8) : Prop where
  a : U32 r.a
  b : U32 r.b
  c : U32 r.c
  d : U32 r.d
  e : U32 r.e
  f : U32 r.f
  g : U32 r.g
  h : U32 r.h
def sP (r : R8) (k w : Int) : Int :=
  (((r.h + bits BinOp.xor IntKind.u32 (bits BinOp.xor IntKind.u32 (sTurn r.e 6) (sTurn r.e 11)) (sTurn r.e 25) + bits BinOp.xor IntKind.u32 (bits BinOp.and IntKind.u32 r.e r.f) (bits BinOp.and IntKind.u32 (bits BinOp.xor IntKind.u32 (if IntKind.u32.signed = true then -1 else IntKind.u32.max) r.e) r.g) + k) % 4294967296 + w) % 4294967296)
def sQ (r : R8) : Int :=
  (bits BinOp.xor IntKind.u32 (bits BinOp.xor IntKind.u32 (sTurn r.a 2) (sTurn r.a 13)) (sTurn r.a 22) + bits BinOp.xor IntKind.u32 (bits BinOp.xor IntKind.u32 (bits BinOp.and IntKind.u32 r.a r.b) (bits BinOp.and IntKind.u32 r.a r.c)) (bits BinOp.and IntKind.u32 r.b r.c)) % 4294967296
def sRound (r : R8) (k w : Int) : R8 := ⟨(sP r k w + sQ r) % 4294967296, r.a, r.b, r.c, (r.d + sP r k w) % 4294967296, r.e, r.f, r.g⟩
theorem sRound_ok {r : R8} (h : r.Ok) (k w : Int) : (sRound r k w).Ok :=
  ⟨by unfold U32 sRound; dsimp only; omega, h.a, h.b, h.c, by unfold U32 sRound; dsimp only; omega, h.e, h.f, h.g⟩
def sRounds (ws : List Int) (r : R8) : Nat → R8
  | 0 => r
  | t + 1 => sRound (sRounds ws r t) (keysL[t]?.getD 0) (ws[t]?.getD 0)
theorem sRounds_ok (ws : List Int) {r : R8} (h : r.Ok) : ∀ t, (sRounds ws r t).Ok
  | 0 => h
  | t + 1 => sRound_ok (sRounds_ok ws h t) _ _

/-- What stands while 64 bytes are taken in. -/
structure MixS (w0 : World) (A W KK : Nat) (st ws : List Int) (left : ByteArray) (n : Int) (w : World) : Prop where
  h : HashAt w A st left n
  ws : WordsAt 115 w W ws
  ks : WordsAt 115 w KK keysL
  k : Keeps [] w0 w
theorem MixS.keep {w0 w w' : World} {A W KK : Nat} {st ws : List Int} {left : ByteArray} {n : Int} (h : MixS w0 A W KK st ws left n w) (k : Keeps [] w w') : MixS w0 A W KK st ws left n w' :=
  ⟨h.h.keep k (by simp), h.ws.keep k (by simp), h.ks.keep k (by simp), h.k.trans k⟩
def R8.at (r : R8) : Nat → Int
  | 0 => r.a | 1 => r.b | 2 => r.c | 3 => r.d | 4 => r.e | 5 => r.f | 6 => r.g | _ => r.h
def sAdd (st : List Int) (r : R8) : Nat → List Int
  | 0 => st
  | i + 1 => (sAdd st r i).set i (((sAdd st r i)[i]?.getD 0 + r.at i) % 4294967296)
def FinRel (w0 : World) (A : Nat) (st : List Int) (r : R8) (left : ByteArray) (n : Int) (v : Value) (wr : World) : Prop :=
  ∃ i : Nat, i ≤ 8 ∧ v = .int .i64 i ∧ HashAt wr A (sAdd st r i) left n ∧ Keeps [A] w0 wr
def MixRel (w0 : World) (A W KK : Nat) (st ws : List Int) (left : ByteArray) (n : Int) (r0 : R8) (va vb vc vd ve vf vg vh v : Value) (wr : World) : Prop :=
  ∃ (t : Nat) (r : R8), t ≤ 64 ∧ r = sRounds ws r0 t ∧ v = .int .i64 t ∧ va = .int .u32 r.a ∧ vb = .int .u32 r.b ∧ vc = .int .u32 r.c ∧ vd = .int .u32 r.d ∧ ve = .int .u32 r.e ∧ vf = .int .u32 r.f ∧ vg = .int .u32 r.g ∧ vh = .int .u32 r.h ∧
    MixS w0 A W KK st ws left n wr

theorem idx8 (r : R8) (i : Nat) (hi : i < 8) (w : World) : Sem.run Try.prog (Instr.index 103 (.agg #[.int .u32 r.a, .int .u32 r.b, .int .u32 r.c, .int .u32 r.d, .int .u32 r.e, .int .u32 r.f, .int .u32 r.g, .int .u32 r.h]) (.int .i64 (i : Int))) w = .ok (.int .u32 (r.at i)) w := by
  have h := Try.underlying103
  match i, hi with
  | 0, _ => simp [Instr.index, run_underlying h, asIntOf, go_sem, R8.at]
  | 1, _ => simp [Instr.index, run_underlying h, asIntOf, go_sem, R8.at]
  | 2, _ => simp [Instr.index, run_underlying h, asIntOf, go_sem, R8.at]
  | 3, _ => simp [Instr.index, run_underlying h, asIntOf, go_sem, R8.at]
  | 4, _ => simp [Instr.index, run_underlying h, asIntOf, go_sem, R8.at]
  | 5, _ => simp [Instr.index, run_underlying h, asIntOf, go_sem, R8.at]
  | 6, _ => simp [Instr.index, run_underlying h, asIntOf, go_sem, R8.at]
  | 7, _ => simp [Instr.index, run_underlying h, asIntOf, go_sem, R8.at]
theorem turn_z {w : World} (x n : Int) (hx : U32 x) (hn : 0 < n) (hn2 : n < 32) :
    Calls Try.prog 82 #[.int .u32 x, .int .i64 n] w fun e w' => e = .returned (.int .u32 (sTurn x n.toNat)) ∧ ∃ m, w' = w.drewN m := by
  have h := turn_q (w := w) x n.toNat hx (by omega) (by omega)
  rwa [Int.toNat_of_nonneg (by omega)] at h
theorem list8 {st : List Int} (h : st.length = 8) : st = [st[0]?.getD 0, st[1]?.getD 0, st[2]?.getD 0, st[3]?.getD 0, st[4]?.getD 0, st[5]?.getD 0, st[6]?.getD 0, st[7]?.getD 0] := by
  match st, h with
  | [_, _, _, _, _, _, _, _], _ => rfl
def r8 (st : List Int) : R8 := ⟨st[0]?.getD 0, st[1]?.getD 0, st[2]?.getD 0, st[3]?.getD 0, st[4]?.getD 0, st[5]?.getD 0, st[6]?.getD 0, st[7]?.getD 0⟩
/-- A state behind 64 bytes. -/
def sMix (st : List Int) (s : ByteArray) : List Int := sAdd st (sRounds (sSched s) (r8 st) 64) 8

set_option maxRecDepth 100000 in
set_option maxHeartbeats 8000000 in
theorem mix_c {w : World} {A : Nat} {st : List Int} {left : ByteArray} {n : Int} (hA : HashAt w A st left n) (s : ByteArray) (hs : s.size = 64) :
    Calls Try.prog 76 #[.pointer (some ⟨A, 0, none⟩), .string s] w fun e w' => e = .returned (.tuple #[]) ∧ HashAt w' A (sMix st s) left n ∧ Keeps [A] w w' := by
  obtain ⟨r0, hr0⟩ : ∃ r0, r0 = r8 st := ⟨_, rfl⟩
  have hok : r0.Ok := by rw [hr0]; exact ⟨hA.rng _, hA.rng _, hA.rng _, hA.rng _, hA.rng _, hA.rng _, hA.rng _, hA.rng _⟩
  have hwl := sSched_len s
  have hwr := sSched_rng s
  have hsch := fun w => schedule_c (w := w) s hs
  obtain ⟨ws, hws⟩ : ∃ ws, ws = sSched s := ⟨_, rfl⟩
  rw [← hws] at hwl hwr hsch
  have HWS := Go.Lib.hid hws
  clear hws hs
  have cells : ∀ w' : World, HashAt w' A st left n → w'.cell? ⟨A, 0, none⟩ = some (.int .u32 r0.a) ∧ w'.cell? ⟨A, 1, none⟩ = some (.int .u32 r0.b) ∧ w'.cell? ⟨A, 2, none⟩ = some (.int .u32 r0.c) ∧ w'.cell? ⟨A, 3, none⟩ = some (.int .u32 r0.d) ∧
      w'.cell? ⟨A, 4, none⟩ = some (.int .u32 r0.e) ∧ w'.cell? ⟨A, 5, none⟩ = some (.int .u32 r0.f) ∧ w'.cell? ⟨A, 6, none⟩ = some (.int .u32 r0.g) ∧ w'.cell? ⟨A, 7, none⟩ = some (.int .u32 r0.h) := fun _ h => by
    rw [hr0]; exact ⟨h.word (by omega), h.word (by omega), h.word (by omega), h.word (by omega), h.word (by omega), h.word (by omega), h.word (by omega), h.word (by omega)⟩
  have HC := Go.Lib.hid cells
  have HR0 := Go.Lib.hid hr0
  clear hr0 cells
  have lA := hA.lt
  go_enter Try.func76, Try.ntmps76
  go_wp2_with fail
  refine (hsch _).mono ?_
  rintro e w1 ⟨W, rfl, hW, hw1, k1⟩
  have hA1 := hA.keep k1 (by simp)
  clear hA hsch
  go_wp2_with fail
  refine (keys_c).mono ?_
  rintro e w2 ⟨KK, rfl, hK, hk2, k2⟩
  have hS : MixS w A W KK st ws left n w2 := ⟨hA1.keep k2 (by simp), hw1.keep k2 (by simp), hk2, k1.trans k2⟩
  have hAW : A ≠ W := by omega
  have hAK : A ≠ KK := by have := k1.size; omega
  clear hA1 hw1 k1 k2 hk2
  obtain ⟨c0, c1, c2, c3, c4, c5, c6, c7⟩ := HC.out _ hS.h
  go_upto_region 1 with fail
  go_quiet (fail)
  go_upto_region 2 with fail
  go_quiet (fail)
  clear c0 c1 c2 c3 c4 c5 c6 c7
  go_wp2_with fail
  go_loopw [6, 7, 8, 9, 10, 11, 12, 13, 54] (fun va vb vc vd ve vf vg vh v wr => MixRel w A W KK st ws left n r0 va vb vc vd ve vf vg vh v wr) (fun _ _ _ _ _ _ _ _ v _ => 64 - (intOf v).toNat)
  case atStart => exact ⟨0, r0, by omega, rfl, rfl, rfl, rfl, rfl, rfl, rfl, rfl, rfl, rfl, hS.keep ((Keeps.refl [] _).drewN _ |>.drewN _)⟩
  case round =>
    clear hS
    obtain ⟨t, r, ht, hr, rfl, rfl, rfl, rfl, rfl, rfl, rfl, rfl, rfl, hS⟩ := hrel
    have hro : r.Ok := by rw [hr]; exact sRounds_ok ws hok t
    have HR := Go.Lib.hid hr
    clear hr
    by_cases hlt : t < 64
    · obtain ⟨a, b, c, d, e, f, g, hv⟩ := r
      obtain ⟨ha, hb, hc, hd, he, hf, hg, hh⟩ := hro
      dsimp only at ha hb hc hd he hf hg hh ⊢
      have hlt2 : (t : Int) < 64 := by omega
      obtain ⟨kk, hkk⟩ : ∃ x, x = keysL[t]?.getD 0 := ⟨_, rfl⟩
      obtain ⟨ww, hww⟩ : ∃ x, x = ws[t]?.getD 0 := ⟨_, rfl⟩
      have hkr := keysL_rng t
      have hwt := hwr t
      have e0 := hS.ks.cell (i := t) (by show t < 64; exact hlt)
      have e1 := hS.ws.cell (i := t) (by rw [hwl]; exact hlt)
      rw [← hkk] at hkr e0
      rw [← hww] at hwt e1
      have HKW := Go.Lib.hid (And.intro hkk hww)
      clear hkk hww
      have wt : IntKind.i64.wrap (t : Int) = t := by rw [IntKind.wrap_i64]; omega
      obtain ⟨ha1, ha2⟩ := ha
      obtain ⟨hb1, hb2⟩ := hb
      obtain ⟨hc1, hc2⟩ := hc
      obtain ⟨hd1, hd2⟩ := hd
      obtain ⟨he1, he2⟩ := he
      obtain ⟨hf1, hf2⟩ := hf
      obtain ⟨hg1, hg2⟩ := hg
      obtain ⟨hh1, hh2⟩ := hh
      obtain ⟨hk1, hk2⟩ := hkr
      obtain ⟨hw1, hw2⟩ := hwt
      go_upto_region 6 with fail
      go_quiet (first
        | (go_at_call 82; exact Calls.quiet_of (turn_z _ _ ⟨by assumption, by assumption⟩ (by decide) (by decide))))
      obtain ⟨p, hp⟩ : ∃ p, p = (((hv + bits BinOp.xor IntKind.u32 (bits BinOp.xor IntKind.u32 (sTurn e 6) (sTurn e 11)) (sTurn e 25) + bits BinOp.xor IntKind.u32 (bits BinOp.and IntKind.u32 e f) (bits BinOp.and IntKind.u32 (bits BinOp.xor IntKind.u32 (if IntKind.u32.signed = true then -1 else IntKind.u32.max) e) g) + kk) % 4294967296 + ww) % 4294967296) := ⟨_, rfl⟩
      rw [← hp]
      have hp1 : 0 ≤ p ∧ p ≤ 4294967295 := by rw [hp]; omega
      obtain ⟨hp1, hp2⟩ := hp1
      have HP := Go.Lib.hid hp
      clear hp e0 e1
      go_wp2_with fail
      refine (turn_z _ _ ⟨by assumption, by assumption⟩ (by decide) (by decide)).mono ?_
      rintro _ _ ⟨rfl, m6, rfl⟩
      go_wp2_with fail
      refine (turn_z _ _ ⟨by assumption, by assumption⟩ (by decide) (by decide)).mono ?_
      rintro _ _ ⟨rfl, m7, rfl⟩
      go_wp2_with fail
      refine (turn_z _ _ ⟨by assumption, by assumption⟩ (by decide) (by decide)).mono ?_
      rintro _ _ ⟨rfl, m8, rfl⟩
      go_wp2_with fail
      go_roundw
      case rel =>
        have e1 := HP.out
        have e2 := HR.out
        obtain ⟨f1, f2⟩ := HKW.out
        refine ⟨t + 1, sRound ⟨a, b, c, d, e, f, g, hv⟩ kk ww, by omega, by rw [sRounds, ← e2, ← f1, ← f2], by go_num, ?_, rfl, rfl, rfl, ?_, rfl, rfl, rfl, hS.keep ((Keeps.refl [] _).drewN _)⟩
        · rw [e1]; rfl
        · rw [e1]; rfl
      case measure => simp [intOf]; omega
    · obtain rfl : t = 64 := by omega
      have hl := hS.h.len
      have K := hS.k
      have hH := hS.h
      clear hS hwr hwl HC
      go_wp2_with fail
      rw [show ((64 : Nat) : Int) = 64 from rfl]
      go_loopw [130] (fun v wr => FinRel w A st r left n v wr) (fun v _ => 8 - (intOf v).toNat)
      case atStart => exact ⟨0, by omega, rfl, hH, K.sub (by simp)⟩
      case round =>
        clear hH K
        obtain ⟨i, hi, rfl, hH, K⟩ := hrel
        by_cases hlt : i < 8
        · have hlt2 : (i : Int) < 8 := by omega
          have hx := hH.word hlt
          have hz := hH.fz i
          have hu := hH.rng i
          obtain ⟨x, hxx⟩ : ∃ x, x = (sAdd st r i)[i]?.getD 0 := ⟨_, rfl⟩
          rw [← hxx] at hx hu
          have HX := Go.Lib.hid hxx
          clear hxx
          have hidx := fun w => idx8 r i hlt w
          go_wp2_with fail
          go_still_tail 9, (by kernel_rfl)
          change wpList _ _ _ _ _ wr.drew
          go_wp2_with fail
          refine ⟨⟨i + 1, by omega, by go_num, ?_, (K.setCell (.inl (by simp)) _).drew⟩, by simp [intOf]; omega⟩
          rw [sAdd, ← HX.out]
          exact (hH.setWord hlt (by unfold U32; omega)).keep (S := []) (Keeps.refl _ _).drew (by simp)
        · obtain rfl : i = 8 := by omega
          go_wp2_with fail
          go_end0
          refine ⟨rfl, ?_, K⟩
          have e1 := HR.out
          have e2 := HR0.out
          have e3 := HWS.out
          unfold sMix
          rw [← e3, ← e2, ← e1]
          exact hH
end Go.Proofs.Ytkkbjkoikidjpaa
