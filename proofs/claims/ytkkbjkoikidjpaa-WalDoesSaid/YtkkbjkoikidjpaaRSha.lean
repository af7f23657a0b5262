/-
  The reference's sha: its words.
-/
import Derived.Test.YtkkbjkoikidjpaaShaTag
namespace Go.Proofs.Ytkkbjkoikidjpaa
open Go.RowKit

theorem r_q {w : World} (x : Int) (n : Nat) (hx : U32 x) (hn : 0 < n) (hn2 : n < 32) :
    Calls Try.prog 79 #[.int .u32 x, .int .i64 n] w fun e w' => e = .returned (.int .u32 (sTurn x n)) ∧ ∃ m, w' = w.drewN m := by
  obtain ⟨h1, h2⟩ := hx
  have R : Hid (sTurn x n = bits BinOp.or IntKind.u32 (x / 2 ^ n) (x * 2 ^ (32 - n) % 4294967296)) := rfl
  generalize sTurn x n = z at *
  go_enter Try.func79, Try.ntmps79
  go_wp2
  go_quiet (fail)
  go_wp2
  go_ret
  exact ⟨by rw [R.out]; rfl, _, rfl⟩
theorem r_z {w : World} (x n : Int) (hx : U32 x) (hn : 0 < n) (hn2 : n < 32) :
    Calls Try.prog 79 #[.int .u32 x, .int .i64 n] w fun e w' => e = .returned (.int .u32 (sTurn x n.toNat)) ∧ ∃ m, w' = w.drewN m := by
  have h := r_q (w := w) x n.toNat hx (by omega) (by omega)
  rwa [Int.toNat_of_nonneg (by omega)] at h

theorem r_c {w : World} (x : Int) (n : Nat) (hx : U32 x) (hn : 0 < n) (hn2 : n < 32) :
    Calls Try.prog 79 #[.int .u32 x, .int .i64 n] w fun e w' => e = .returned (.int .u32 (sTurn x n)) ∧ Keeps [] w w' :=
  (r_q x n hx hn hn2).mono fun _ _ h => by
    obtain ⟨h1, m, rfl⟩ := h
    exact ⟨h1, (Keeps.refl _ _).drewN m⟩

/-- Words that a row begins with. -/
structure RowU (w : World) (W : Nat) (l : List Int) : Prop where
  h : ∃ rest : List Value, w.heap[W]? = some (.cells (l.map (Value.int .u32) ++ rest).toArray 98 (0, 0))
namespace RowU
variable {w : World} {W : Nat} {l : List Int}
theorem cell (h : RowU w W l) {i : Nat} (hi : i < l.length) : w.cell? ⟨W, i, none⟩ = some (.int .u32 (l[i]?.getD 0)) := by
  obtain ⟨rest, h⟩ := h.h
  rw [cell_of_heap h]
  simp only [List.getElem?_toArray]
  rw [List.getElem?_append_left (by simpa using hi)]
  simp [hi]
theorem fz (h : RowU w W l) (o : Nat) : w.frozen? ⟨W, o, none⟩ = false := by
  obtain ⟨rest, h⟩ := h.h
  exact frozen_of_heap h
theorem lt (h : RowU w W l) : W < w.heap.size := by
  obtain ⟨rest, h⟩ := h.h
  exact lt_of_heap h
theorem keep {w' : World} {S : List Nat} (h : RowU w W l) (k : Keeps S w w') (hW : W ∉ S) : RowU w' W l := by
  obtain ⟨rest, h⟩ := h.h
  exact ⟨rest, k.heap hW h⟩
theorem set (h : RowU w W l) {i : Nat} (hi : i < l.length) (x : Int) : RowU (w.setCell ⟨W, i, none⟩ (.int .u32 x)) W (l.set i x) := by
  obtain ⟨rest, h⟩ := h.h
  refine ⟨rest, ?_⟩
  rw [heap_setCell_same h]
  simp only [List.setIfInBounds_toArray]
  rw [List.set_append_left _ _ (by simpa using hi)]
  simp [List.map_set]
theorem setEq (h : RowU w W l) {i : Nat} (hi : i < l.length) {x y : Int} (e : x = y) : RowU (w.setCell ⟨W, i, none⟩ (.int .u32 x)) W (l.set i y) := e ▸ h.set hi x
end RowU

set_option maxRecDepth 100000 in
set_option maxHeartbeats 4000000 in
theorem keys_r {w : World} : Calls Try.prog 73 #[] w fun e w' => ∃ A, e = .returned (.slice (some ⟨A, 0, none⟩) 64 64) ∧ w.heap.size ≤ A ∧ RowU w' A keysL ∧ Keeps [] w w' := by
  go_enter Try.func73, Try.ntmps73
  go_wp2
  go_ret
  exact ⟨w.heap.size, rfl, Nat.le_refl _, ⟨[], by rw [List.append_nil]; exact heap_alloc_same⟩, (Keeps.refl _ _).alloc _⟩

theorem bits_or_nat (a b : Nat) (ha : a < 4294967296) (hb : b < 4294967296) : bits .or .u32 (a : Int) (b : Int) = ((a ||| b : Nat) : Int) := by
  have hm : a ||| b < 4294967296 := Nat.or_lt_two_pow (n := 32) ha hb
  have h1 : (BitVec.ofInt 32 (a : Int)).toNat = a := by
    rw [BitVec.ofInt_natCast, BitVec.toNat_ofNat]; exact Nat.mod_eq_of_lt (by omega)
  have h2 : (BitVec.ofInt 32 (b : Int)).toNat = b := by
    rw [BitVec.ofInt_natCast, BitVec.toNat_ofNat]; exact Nat.mod_eq_of_lt (by omega)
  show IntKind.u32.wrap ((BitVec.ofInt 32 (a : Int) ||| BitVec.ofInt 32 (b : Int)).toNat : Int) = _
  rw [BitVec.toNat_or, h1, h2, IntKind.wrap_u32]
  omega
theorem bits_or_add (v c : Nat) (hv : v < 16777216) (hc : c < 256) : bits .or .u32 ((v : Int) * 256 % 4294967296) (c : Int) = (v : Int) * 256 + c := by
  have e : ((v : Int) * 256 % 4294967296) = ((v * 256 : Nat) : Int) := by omega
  rw [e, bits_or_nat _ _ (by omega) (by omega)]
  have h := Nat.shiftLeft_add_eq_or_of_lt (i := 8) (b := c) (by omega) v
  rw [Nat.shiftLeft_eq] at h
  rw [show v * 256 ||| c = v * 256 + c from by rw [← h]]
  omega
theorem bits_not (e : Int) (he : U32 e) : bits .xor .u32 (4294967295 : Int) e = 4294967295 - e := by
  obtain ⟨n, rfl⟩ : ∃ n : Nat, e = n := ⟨e.toNat, by have := he.1; omega⟩
  have hn := he.2
  have h1 : (BitVec.ofInt 32 (n : Int)).toNat = n := by
    rw [BitVec.ofInt_natCast, BitVec.toNat_ofNat]; exact Nat.mod_eq_of_lt (by omega)
  show IntKind.u32.wrap ((BitVec.allOnes 32 ^^^ BitVec.ofInt 32 (n : Int)).toNat : Int) = _
  rw [BitVec.allOnes_xor, BitVec.toNat_not, h1, IntKind.wrap_u32]
  omega
theorem sByte_add (v c : Int) (h1 : 0 ≤ v) (h2 : v < 16777216) (h3 : 0 ≤ c) (h4 : c ≤ 255) : sByte v c = v * 256 + c := by
  obtain ⟨n, rfl⟩ : ∃ n : Nat, v = n := ⟨v.toNat, by omega⟩
  obtain ⟨m, rfl⟩ : ∃ n : Nat, c = n := ⟨c.toNat, by omega⟩
  exact bits_or_add n m (by omega) (by omega)
/-- A word as four bytes give it. -/
def fourB (s : ByteArray) (t : Nat) : Int := strByte s (4 * t) * 16777216 + strByte s (4 * t + 1) * 65536 + strByte s (4 * t + 2) * 256 + strByte s (4 * t + 3)
theorem sIn_four (s : ByteArray) (t : Nat) (l : List Int) (ht : t < l.length) (h0 : l[t]?.getD 0 = 0) : sIn s t 4 l = l.set t (fourB s t) := by
  have b0 := strByte_rng s (4 * t)
  have b1 := strByte_rng s (4 * t + 1)
  have b2 := strByte_rng s (4 * t + 2)
  have b3 := strByte_rng s (4 * t + 3)
  have e1 : sIn s t 1 l = l.set t (strByte s (4 * t)) := by
    show l.set t (sByte (l[t]?.getD 0) (strByte s (4 * t + 0))) = _
    rw [h0, sByte_add 0 (strByte s (4 * t + 0)) (by decide) (by decide) (by exact b0.1) (by exact b0.2)]
    rw [show (0 : Int) * 256 + strByte s (4 * t + 0) = strByte s (4 * t) from by rw [Nat.add_zero]; omega]
  have g : ∀ x : Int, (l.set t x)[t]?.getD 0 = x := fun x => by rw [List.getElem?_set_self ht]; rfl
  have e2 : sIn s t 2 l = l.set t (strByte s (4 * t) * 256 + strByte s (4 * t + 1)) := by
    show (sIn s t 1 l).set t (sByte ((sIn s t 1 l)[t]?.getD 0) (strByte s (4 * t + 1))) = _
    rw [e1, g, sByte_add _ _ (by omega) (by omega) b1.1 b1.2, List.set_set]
  have e3 : sIn s t 3 l = l.set t ((strByte s (4 * t) * 256 + strByte s (4 * t + 1)) * 256 + strByte s (4 * t + 2)) := by
    show (sIn s t 2 l).set t (sByte ((sIn s t 2 l)[t]?.getD 0) (strByte s (4 * t + 2))) = _
    rw [e2, g, sByte_add _ _ (by omega) (by omega) b2.1 b2.2, List.set_set]
  show (sIn s t 3 l).set t (sByte ((sIn s t 3 l)[t]?.getD 0) (strByte s (4 * t + 3))) = _
  rw [e3, g, sByte_add _ _ (by omega) (by omega) b3.1 b3.2, List.set_set]
  rw [show (((strByte s (4 * t) * 256 + strByte s (4 * t + 1)) * 256 + strByte s (4 * t + 2)) * 256 + strByte s (4 * t + 3)) = fourB s t from by unfold fourB; omega]
theorem sIn_other (s : ByteArray) (t u : Nat) (hu : ¬ t = u) : ∀ (j : Nat) (l : List Int), (sIn s t j l)[u]? = l[u]?
  | 0, _ => rfl
  | j + 1, l => by rw [sIn, List.getElem?_set_ne hu, sIn_other s t u hu j l]
theorem sRows_zero (s : ByteArray) : ∀ (t u : Nat), t ≤ u → (sRows s t)[u]?.getD 0 = 0
  | 0, u, _ => by
    show (List.replicate 64 (0 : Int))[u]?.getD 0 = 0
    rw [List.getElem?_replicate]
    split <;> rfl
  | t + 1, u, h => by rw [sRows, sIn_other s t u (by omega)]; exact sRows_zero s t u (by omega)
theorem sRows_four (s : ByteArray) (t : Nat) (ht : t < 64) : sRows s (t + 1) = (sRows s t).set t (fourB s t) := by
  rw [sRows, sIn_four s t _ (by rw [sRows_len]; exact ht) (sRows_zero s t t (Nat.le_refl _))]

/-- Bytes that lie in a row. -/
def BytesAt (w : World) (B o : Nat) (s : ByteArray) : Prop := ∀ j, j < s.size → w.cell? ⟨B, o + j, none⟩ = some (.int .u8 (strByte s j))
theorem BytesAt.keep {w w' : World} {B o : Nat} {s : ByteArray} {S : List Nat} (h : BytesAt w B o s) (hB : B < w.heap.size) (k : Keeps S w w') (hS : B ∉ S) : BytesAt w' B o s := fun j hj => (k.cell hB hS).trans (h j hj)

theorem infoU32 : (Try.prog.info? 98).map (fun i => (i.zero, i.size, i.bytes)) = some (some (.int .u32 0), 1, 4) := by kernel_rfl
theorem madeU32 (n : Nat) : madeCells #[.int .u32 0] (n * 1) = ((List.replicate n (0 : Int)).map (Value.int .u32)).toArray := by
  rw [Nat.mul_one, List.map_replicate]; exact Array.toList_inj.1 (toList_madeCells_one _ _)
def RWRel (w0 : World) (s : ByteArray) (W : Nat) (v : Value) (wr : World) : Prop := ∃ k : Nat, k ≤ 16 ∧ v = .int .i64 k ∧ RowU wr W (sRows s k) ∧ Keeps [] w0 wr
def RMRel (w0 : World) (W : Nat) (l : List Int) (v : Value) (wr : World) : Prop := ∃ k : Nat, 16 ≤ k ∧ k ≤ 64 ∧ v = .int .i64 k ∧ RowU wr W (sMore (k - 16) l) ∧ Keeps [] w0 wr

set_option maxRecDepth 100000 in
set_option maxHeartbeats 4000000 in
theorem words_r {w : World} (B o cap : Nat) (s : ByteArray) (hs : s.size = 64) (hB : B < w.heap.size) (hc : BytesAt w B o s) :
    Calls Try.prog 78 #[.slice (some ⟨B, o, none⟩) 64 cap] w fun e w' => ∃ W, e = .returned (.slice (some ⟨W, 0, none⟩) 64 64) ∧ w.heap.size ≤ W ∧ RowU w' W (sSched s) ∧ Keeps [] w w' := by
  obtain ⟨i0, hi, hz0, hz1, hz2⟩ := info_parts infoU32
  have hmk : ∀ u : World, (Instr.makeSlice 99 (.int .i64 64) (.int .i64 64)).run Try.prog u = .ok (.slice (some ⟨u.heap.size, 0, none⟩) 64 64) (u.alloc (.cells ((List.replicate 64 (0 : Int)).map (Value.int .u32)).toArray 98)) := fun u => by
    have h := run_make (P := Try.prog) u 99 98 i0 _ Try.underlying99 hi hz0 .i64 .i64 64 64 (by decide) (Int.le_refl _) (by rw [hz2]; decide) (by decide)
    rw [hz1] at h
    rw [h, ← madeU32]; rfl
  obtain ⟨cs, hcs⟩ : ∃ cs, cs = ((List.replicate 64 (0 : Int)).map (Value.int .u32)).toArray := ⟨_, rfl⟩
  rw [← hcs] at hmk
  have H := Lib.hid hcs
  clear hi hz0 hz1 hz2 hcs
  go_enter Try.func78, Try.ntmps78
  go_wp2
  obtain ⟨w1, hw1⟩ : ∃ w1, w1 = w.alloc (.cells cs 98) := ⟨_, rfl⟩
  have h1 : RowU w1 w.heap.size (sRows s 0) := ⟨[], by rw [hw1, List.append_nil, H.out]; exact heap_alloc_same⟩
  have K1 : Keeps [] w w1 := by rw [hw1]; exact (Keeps.refl _ _).alloc _
  rw [← hw1]
  obtain ⟨W, hW⟩ : ∃ W, W = w.heap.size := ⟨_, rfl⟩
  have hWw : w.heap.size ≤ W := by omega
  have hBW : ¬ B = W := by omega
  rw [← hW] at h1 ⊢
  clear hW hw1 hmk
  go_loopw [4] (fun v wr => RWRel w s W v wr) (fun v _ => 16 - (intOf v).toNat)
  case atStart => exact ⟨0, by omega, rfl, h1, K1⟩
  case round =>
    clear h1 K1
    obtain ⟨t, ht, rfl, h, K⟩ := hrel
    by_cases hlt : t < 16
    · have hBr := K.size
      have hC := hc.keep hB K (by simp)
      have e0 := hC (4 * t) (by omega)
      have e1 := hC (4 * t + 1) (by omega)
      have e2 := hC (4 * t + 2) (by omega)
      have e3 := hC (4 * t + 3) (by omega)
      obtain ⟨b01, b02⟩ := strByte_rng s (4 * t)
      obtain ⟨b11, b12⟩ := strByte_rng s (4 * t + 1)
      obtain ⟨b21, b22⟩ := strByte_rng s (4 * t + 2)
      obtain ⟨b31, b32⟩ := strByte_rng s (4 * t + 3)
      have HF : Hid (fourB s t = strByte s (4 * t) * 16777216 + strByte s (4 * t + 1) * 65536 + strByte s (4 * t + 2) * 256 + strByte s (4 * t + 3)) := rfl
      generalize strByte s (4 * t) = y0 at *
      generalize strByte s (4 * t + 1) = y1 at *
      generalize strByte s (4 * t + 2) = y2 at *
      generalize strByte s (4 * t + 3) = y3 at *
      obtain ⟨a0, ha0⟩ : ∃ a0, a0 = 4 * t := ⟨_, rfl⟩
      obtain ⟨a1, ha1⟩ : ∃ a1, a1 = 4 * t + 1 := ⟨_, rfl⟩
      obtain ⟨a2, ha2⟩ : ∃ a2, a2 = 4 * t + 2 := ⟨_, rfl⟩
      obtain ⟨a3, ha3⟩ : ∃ a3, a3 = 4 * t + 3 := ⟨_, rfl⟩
      rw [← ha0] at e0
      rw [← ha1] at e1
      rw [← ha2] at e2
      rw [← ha3] at e3
      have w0 : IntKind.i64.wrap (4 * (t : Int)) = (a0 : Int) := by rw [IntKind.wrap_i64]; omega
      have w1' : IntKind.i64.wrap ((a0 : Int) + 1) = (a1 : Int) := by rw [IntKind.wrap_i64]; omega
      have w2' : IntKind.i64.wrap ((a0 : Int) + 2) = (a2 : Int) := by rw [IntKind.wrap_i64]; omega
      have w3' : IntKind.i64.wrap ((a0 : Int) + 3) = (a3 : Int) := by rw [IntKind.wrap_i64]; omega
      have l0 : (a0 : Int) < 64 := by omega
      have l1 : (a1 : Int) < 64 := by omega
      have l2 : (a2 : Int) < 64 := by omega
      have l3 : (a3 : Int) < 64 := by omega
      have l4 : (t : Int) < 64 := by omega
      clear ha0 ha1 ha2 ha3
      have hlen := sRows_len s t
      have ec := h.cell (i := t) (by omega)
      have ez := h.fz t
      have h2 := h.keep ((Keeps.refl [] wr).drew) (by simp)
      clear hC
      go_upto_region 5 with fail
      go_still_tail 36, (by kernel_rfl)
      change wpList _ _ _ _ _ wr.drew
      clear e0 e1 e2 e3
      go_wp2_with fail
      go_roundw
      case rel =>
        refine ⟨t + 1, by omega, by go_num, ?_, (K.drew).setCell (.inr hWw) _⟩
        rw [sRows_four s t (by omega)]
        refine h2.setEq (by omega) ?_
        exact HF.out.symm
      case measure => simp [intOf]; omega
    · obtain rfl : t = 16 := by omega
      clear hc
      generalize hl : sRows s 16 = l0 at *
      have hlen : l0.length = 64 := by rw [← hl]; exact sRows_len s 16
      have hrng : AllU l0 := by rw [← hl]; exact sRows_rng s 16
      have HL := Go.Lib.hid hl
      clear hl
      go_wp2_with fail
      rw [show ((16 : Nat) : Int) = 16 from rfl]
      go_loopw [5] (fun v wr => RMRel w W l0 v wr) (fun v _ => 64 - (intOf v).toNat)
      case atStart => exact ⟨16, by omega, by omega, rfl, h, K⟩
      case round =>
        clear h K
        obtain ⟨k, hk1, hk2, rfl, h, K⟩ := hrel
        by_cases hlt : k < 64
        · have hlen2 := sMore_len (k - 16) l0
          have hrng2 := sMore_rng (k - 16) l0 hrng
          rw [hlen] at hlen2
          generalize hm : sMore (k - 16) l0 = l at *
          have HM := Go.Lib.hid hm
          clear hm hlen hrng
          obtain ⟨a, ea, ea2⟩ : ∃ a : Nat, (k : Int) - 15 = (a : Int) ∧ a + 15 = k := ⟨k - 15, by omega, by omega⟩
          obtain ⟨b, eb, eb2⟩ : ∃ a : Nat, (k : Int) - 2 = (a : Int) ∧ a + 2 = k := ⟨k - 2, by omega, by omega⟩
          obtain ⟨c, ec, ec2⟩ : ∃ a : Nat, (k : Int) - 7 = (a : Int) ∧ a + 7 = k := ⟨k - 7, by omega, by omega⟩
          obtain ⟨d, ed, ed2⟩ : ∃ a : Nat, (k : Int) - 16 = (a : Int) ∧ a + 16 = k := ⟨k - 16, by omega, by omega⟩
          have ha := h.cell (i := a) (by omega)
          have hb := h.cell (i := b) (by omega)
          have hcc := h.cell (i := c) (by omega)
          have hdd := h.cell (i := d) (by omega)
          have hkk := h.cell (i := k) (by omega)
          have hz := h.fz k
          obtain ⟨hx1, hx2⟩ := hrng2 a
          obtain ⟨hy1, hy2⟩ := hrng2 b
          obtain ⟨hp1, hp2⟩ := hrng2 c
          obtain ⟨hq1, hq2⟩ := hrng2 d
          generalize hx : l[a]?.getD 0 = x at *
          generalize hy : l[b]?.getD 0 = y at *
          generalize hp : l[c]?.getD 0 = p at *
          generalize hq : l[d]?.getD 0 = q at *
          have HW := Go.Lib.hid (And.intro hx (And.intro hy (And.intro hp hq)))
          clear hx hy hp hq
          have hkl : (k : Int) < 64 := by omega
          have hal : (a : Int) < 64 := by omega
          have hbl : (b : Int) < 64 := by omega
          have hcl : (c : Int) < 64 := by omega
          have hdl : (d : Int) < 64 := by omega
          have HI := Go.Lib.hid (And.intro ea2 (And.intro eb2 (And.intro ec2 ed2)))
          clear ea2 eb2 ec2 ed2 hrng2
          go_upto_region 11 with fail
          have wc : IntKind.i64.wrap (c : Int) = c := by rw [IntKind.wrap_i64]; omega
          have wd : IntKind.i64.wrap (d : Int) = d := by rw [IntKind.wrap_i64]; omega
          have T17 := fun w => r_c (w := w) y 17 ⟨hy1, hy2⟩ (by decide) (by decide)
          have T19 := fun w => r_c (w := w) y 19 ⟨hy1, hy2⟩ (by decide) (by decide)
          have T7 := fun w => r_c (w := w) x 7 ⟨hx1, hx2⟩ (by decide) (by decide)
          have T18 := fun w => r_c (w := w) x 18 ⟨hx1, hx2⟩ (by decide) (by decide)
          obtain ⟨y17, g17⟩ : ∃ z, z = sTurn y 17 := ⟨_, rfl⟩
          obtain ⟨y19, g19⟩ : ∃ z, z = sTurn y 19 := ⟨_, rfl⟩
          obtain ⟨x7, g7⟩ : ∃ z, z = sTurn x 7 := ⟨_, rfl⟩
          obtain ⟨x18, g18⟩ : ∃ z, z = sTurn x 18 := ⟨_, rfl⟩
          rw [← g17] at T17
          rw [← g19] at T19
          rw [← g7] at T7
          rw [← g18] at T18
          have HG := Go.Lib.hid (And.intro g17 (And.intro g19 (And.intro g7 g18)))
          clear g17 g19 g7 g18
          go_wp2_with fail
          refine (T7 _).mono ?_
          rintro _ w2 ⟨rfl, k2⟩
          go_wp2_with fail
          refine (T18 _).mono ?_
          rintro _ w3 ⟨rfl, k3⟩
          have hb3 := (k3.cell (by have := h.lt; have := k2.size; omega) (by simp)).trans ((k2.cell h.lt (by simp)).trans hb)
          go_wp2_with fail
          refine (T17 _).mono ?_
          rintro _ w4 ⟨rfl, k4⟩
          go_wp2_with fail
          refine (T19 _).mono ?_
          rintro _ w5 ⟨rfl, k5⟩
          go_upto_region 13 with fail
          have k25 := ((k2.trans k3).trans k4).trans k5
          clear T17 T19 T7 T18 ha hb hcc hdd hkk hz hb3
          have h5 : RowU w5 W l := h.keep k25 (by simp)
          have K5 : Keeps [] w w5 := K.trans k25
          clear k2 k3 k4 k5 k25 h K
          have hcc := h5.cell (i := c) (by omega)
          have hdd := h5.cell (i := d) (by omega)
          rw [HW.out.2.2.1] at hcc
          rw [HW.out.2.2.2] at hdd
          have hkk := h5.cell (i := k) (by omega)
          have hz := h5.fz k
          have h6 := h5.keep (Keeps.refl [] _).drew (by simp)
          go_still_tail 18, (by kernel_rfl)
          change wpList _ _ _ _ _ (World.drew _)
          clear hcc hdd
          go_wp2_with fail
          go_roundw
          case rel =>
            obtain ⟨g17, g19, g7, g18⟩ := HG.out
            obtain ⟨f1, f2, f3, f4⟩ := HW.out
            obtain ⟨i1, i2, i3, i4⟩ := HI.out
            refine ⟨k + 1, by omega, by omega, by go_num, ?_, K5.drew.setCell (.inr hWw) _⟩
            rw [show k + 1 - 16 = (k - 16) + 1 from by omega, sMore, HM.out, show 16 + (k - 16) = k from by omega]
            refine h6.setEq (by omega) ?_
            unfold sNext sWord
            rw [show k - 15 = a from by omega, show k - 2 = b from by omega, show k - 7 = c from by omega, show k - 16 = d from by omega, f1, f2, f3, f4, ← g17, ← g19, ← g7, ← g18]
            simp only [IntKind.wrap_u32]
            omega
          case measure => simp [intOf]; omega
        · obtain rfl : k = 64 := by omega
          go_wp2_with fail
          go_ret
          refine ⟨W, rfl, hWw, ?_, K⟩
          rw [sSched, HL.out]
          exact h
end Go.Proofs.Ytkkbjkoikidjpaa
