/-
  The helpers of the codec laws: 'cut' (a row of parts of the call's own), 'put', 'right'.
-/
import Derived.Test.YtkmpefgaoagjjaaCodecParts
import Derived.Test.YtkmpefgaoagjjaaWriter
import Derived.OwnWalk
import Derived.Laws.AppendOwn
namespace Go.Proofs.Ytkmpefgaoagjjaa
open Go.RowKit

theorem infoPart : (Try.prog.info? 32).map (fun i => (i.zero, i.size, i.bytes)) = some (some (.agg #[.int .i64 0, .int .i64 0, .string ⟨#[]⟩]), 3, 32) := by kernel_rfl

def DPart.cells (p : DPart) : List Value := [.int .i64 p.kind, .int .i64 p.n, .string p.s]
def DPart.cut (p : DPart) : DPart := { p with s := cutS 5000 p.s }
def cellsOf (l : List DPart) : List Value := l.flatMap DPart.cells
/-- What 'cut' hands back. -/
def cutL (l : List DPart) : List DPart := (l.map DPart.cut).take 20

theorem length_cellsOf (l : List DPart) : (cellsOf l).length = l.length * 3 := by
  induction l with
  | nil => rfl
  | cons p l ih => simp only [cellsOf, List.flatMap_cons, List.length_append, List.length_cons] at *; rw [ih]; simp [DPart.cells]; omega
theorem cellsOf_snoc (l : List DPart) (p : DPart) : cellsOf (l ++ [p]) = cellsOf l ++ p.cells := by simp [cellsOf, List.flatMap_append]
theorem cellsOf_at (l : List DPart) (i : Nat) (hi : i < l.length) (j : Nat) (hj : j < 3) : (cellsOf l)[i * 3 + j]? = l[i].cells[j]? := by
  induction l generalizing i with
  | nil => simp at hi
  | cons p l ih =>
    simp only [cellsOf, List.flatMap_cons]
    have hp : p.cells.length = 3 := rfl
    match i with
    | 0 => rw [List.getElem?_append_left (by rw [hp]; omega)]; simp
    | i + 1 =>
      rw [List.getElem?_append_right (by rw [hp]; omega), hp]
      have := ih i (by simpa using hi)
      simp only [cellsOf] at this
      rw [show (i + 1) * 3 + j - 3 = i * 3 + j from by omega, this]
      simp

theorem Keeps.grown {B : Nat} {a w w' : World} {S : List Nat} {row : Option Nat} (h : Keeps S a w) (g : w.grownBy w' row) (hr : ∀ k, row = some k → a.heap.size ≤ k) (_hB : B = 0) : Keeps S a w' :=
  ⟨g.os.trans h.os, g.tape.trans h.tape, g.output.trans h.output, Nat.le_trans h.size g.size, fun k hk hn =>
    (g.block k (Nat.lt_of_lt_of_le hk h.size) (fun e => by have := hr k e.symm; omega)).trans (h.block k hk hn)⟩

/-- An owned row of parts reads as a row of parts. -/
theorem partsAt_of_own {w : World} {base : Nat} {v : Value} {l : List DPart} (h : w.ownsRow base 32 3 v l.length (cellsOf l)) (hr : ∀ p ∈ l, inI64 p.kind ∧ inI64 p.n ∧ p.s.size ≤ 9223372036854775807) (hs : l.length ≤ 9223372036854775807) :
    ∃ a cap, v = .slice a l.length cap ∧ PartsAt w w.heap.size a l := by
  obtain ⟨_, hv⟩ := id h
  rcases hv with ⟨rfl, h0⟩ | ⟨g, cap, cur, rfl, _, hg, _⟩
  · refine ⟨none, 0, by rw [h0], ⟨fun i hi => by omega, fun i hi => hr _ (List.getElem_mem hi), hs⟩⟩
  · refine ⟨_, cap, rfl, ⟨fun i hi => ⟨g, 0, rfl, lt_of_heap hg, ?_, ?_, ?_⟩, fun i hi => hr _ (List.getElem_mem hi), hs⟩⟩
    · rw [Nat.zero_add, h.cellAt _ (by omega)]; exact cellsOf_at l i hi 0 (by omega)
    · rw [Nat.zero_add, h.cellAt _ (by omega)]; exact cellsOf_at l i hi 1 (by omega)
    · rw [Nat.zero_add, h.cellAt _ (by omega)]; exact cellsOf_at l i hi 2 (by omega)

def CutRel (w0 : World) (l : List DPart) (v i : Value) (wr : World) : Prop :=
  ∃ k : Nat, k ≤ l.length ∧ k ≤ 20 ∧ i = .int .i64 k ∧ wr.ownsRow w0.heap.size 32 3 v k (cellsOf ((l.map DPart.cut).take k)) ∧ Keeps [] w0 wr

theorem cut_step {w1 : World} {B k : Nat} {v' : Value} {l : List DPart} (hk : k < l.length) {s' : ByteArray} (e : s' = cutS 5000 l[k].s)
    (h : w1.ownsRow B 32 3 v' (k + 1) (cellsOf ((l.map DPart.cut).take k) ++ [.int .i64 l[k].kind, .int .i64 l[k].n, .string s'])) :
    w1.ownsRow B 32 3 v' (k + 1) (cellsOf ((l.map DPart.cut).take (k + 1))) := by
  rw [List.take_succ_eq_append_getElem (by simpa using hk), cellsOf_snoc, List.getElem_map]
  subst e
  exact h
theorem length_cutL (l : List DPart) : (cutL l).length = min 20 l.length := by simp [cutL]
theorem cutL_of {k : Nat} {l : List DPart} (hk : k ≤ l.length) (hk20 : k ≤ 20) (hout : ¬ (k < l.length ∧ k < 20)) : (l.map DPart.cut).take k = cutL l := by
  unfold cutL
  by_cases h : k < l.length
  · have : k = 20 := by omega
    rw [this]
  · have e : k = l.length := by omega
    rw [List.take_of_length_le (by simp; omega), List.take_of_length_le (by simp; omega)]
theorem cutL_rng {l : List DPart} (hr : ∀ i (h : i < l.length), inI64 l[i].kind ∧ inI64 l[i].n ∧ l[i].s.size ≤ 9223372036854775807) :
    ∀ p ∈ cutL l, inI64 p.kind ∧ inI64 p.n ∧ p.s.size ≤ 9223372036854775807 := by
  intro p hp
  obtain ⟨q, hq, rfl⟩ := List.mem_map.1 (List.mem_of_mem_take hp)
  obtain ⟨i, hi, rfl⟩ := List.mem_iff_getElem.1 hq
  have := hr i hi
  exact ⟨this.1, this.2.1, by show (cutS 5000 l[i].s).size ≤ _; rw [size_cutS]; omega⟩

theorem cutL_small {l : List DPart} : ∀ p ∈ cutL l, p.s.size ≤ 5000 := by
  intro p hp
  obtain ⟨q, _, rfl⟩ := List.mem_map.1 (List.mem_of_mem_take hp)
  show (cutS 5000 q.s).size ≤ _; rw [size_cutS]; omega

set_option maxRecDepth 100000 in
set_option maxHeartbeats 4000000 in
theorem cut_c {w : World} (a : Option Addr) (cap : Nat) (l : List DPart) (hl : PartsAt w w.heap.size a l) :
    Calls Try.prog 10 #[.slice a l.length cap, .int .i64 20] w fun e w' => ∃ a' cap', e = .returned (.slice a' (cutL l).length cap') ∧ PartsAt w' w'.heap.size a' (cutL l) ∧ Keeps [] w w' := by
  have hsm := hl.small
  obtain ⟨i0, hi, hz0, hz1, hz2⟩ := info_parts infoPart
  go_enter Try.func10, Try.ntmps10
  go_wp2_with fail
  go_loopw [5, 6] (fun v i wr => CutRel w l v i wr) (fun _ i _ => l.length - (intOf i).toNat)
  case atStart => exact ⟨0, by omega, by omega, rfl, World.ownsRow_made _ _ _ (Nat.le_refl _) (by decide) rfl, (Keeps.refl _ _).alloc _⟩
  case round =>
    obtain ⟨k, hk, hk20, rfl, hown, hkp⟩ := hrel
    by_cases hin : k < l.length ∧ k < 20
    · obtain ⟨hlt, hlt20⟩ := hin
      have hb : Below w.heap.size w wr := hkp.below (Nat.le_refl _) (by simp)
      obtain ⟨b, o, rfl, hbB, c0, c1, c2⟩ := (hl.below hb).cell k hlt
      have hsz := (hl.rng k hlt).2.2
      have hsize := hkp.size
      by_cases h5 : l[k].s.size ≤ 5000
      · have ecut := cutS_small h5
        obtain ⟨s', hs', hcut'⟩ : ∃ s', l[k].s = s' ∧ s' = cutS 5000 l[k].s := ⟨_, rfl, ecut⟩
        clear ecut
        have hq : s'.size ≤ 5000 := by rw [← hs']; exact h5
        rw [hs'] at c2
        have HC := Go.Lib.hid hcut'
        clear hs' h5 hcut' hsz
        go_wp2_with (at_builtin; refine wpList_append_own _ rfl (.tmp 32) (.tmp 34) 22 rfl w.heap.size 32 i0 _ 3 32 Try.underlying22 hi hz0 hz1 hz2 rfl (by decide) _ _ _ rfl ((hown.alloc _).alloc _) ⟨wr.heap.size + 1, 0, none⟩ 1 1 [.int .i64 l[k].kind, .int .i64 l[k].n, .string s'] rfl rfl ?c1 ?c2 ?c3 ?c4 ?c5 ?_)
        case c1 =>
          intro j u hj
          match j, hj with
          | 0, hj => simp at hj; subst hj; simp [Addr.add]
          | 1, hj => simp at hj; subst hj; simp [Addr.add]
          | 2, hj => simp at hj; subst hj; simp [Addr.add]
        case c2 => intro u hu; simp at hu; rcases hu with rfl | rfl | rfl <;> rfl
        case c3 => unfold maxLen; omega
        case c4 => omega
        case c5 => simp; omega
        · intro v' w1 hown' hgrow _
          have R := cut_step hlt HC.out hown'
          have K1 : Keeps [] w w1 := ((hkp.alloc _).alloc _).grown hgrow (fun k hk => (hown.lt k hk).1) rfl
          clear hown' hgrow hown hkp
          go_wp2
          go_roundw
          case rel => exact ⟨k + 1, by omega, by omega, by go_num, R, K1⟩
          case measure => simp [intOf]; omega
      · have hq : 5000 < l[k].s.size := by omega
        have HC := Go.Lib.hid (cutS_big h5)
        go_wp2_with (at_builtin; refine wpList_append_own _ rfl (.tmp 32) (.tmp 34) 22 rfl w.heap.size 32 i0 _ 3 32 Try.underlying22 hi hz0 hz1 hz2 rfl (by decide) _ _ _ rfl ((hown.alloc _).alloc _) ⟨wr.heap.size + 1, 0, none⟩ 1 1 [.int .i64 l[k].kind, .int .i64 l[k].n, .string (l[k].s.extract 0 5000)] rfl rfl ?c1 ?c2 ?c3 ?c4 ?c5 ?_)
        case c1 =>
          intro j u hj
          match j, hj with
          | 0, hj => simp at hj; subst hj; simp [Addr.add]
          | 1, hj => simp at hj; subst hj; simp [Addr.add]
          | 2, hj => simp at hj; subst hj; simp [Addr.add]
        case c2 => intro u hu; simp at hu; rcases hu with rfl | rfl | rfl <;> rfl
        case c3 => unfold maxLen; omega
        case c4 => omega
        case c5 => simp; omega
        · intro v' w1 hown' hgrow _
          have R := cut_step hlt HC.out hown'
          have K1 : Keeps [] w w1 := ((hkp.alloc _).alloc _).grown hgrow (fun k hk => (hown.lt k hk).1) rfl
          clear hown' hgrow hown hkp
          go_wp2
          go_roundw
          case rel => exact ⟨k + 1, by omega, by omega, by go_num, R, K1⟩
          case measure => simp [intOf]; omega
    · have hend := cutL_of hk hk20 hin
      obtain ⟨a', cap', rfl, hp⟩ := partsAt_of_own (l := cutL l) (by have h := hown; rw [hend] at h; rwa [show k = (cutL l).length from by rw [← hend]; simp; omega] at h) (cutL_rng hl.rng) (by rw [length_cutL]; omega)
      have hkl : k = (cutL l).length := by rw [← hend]; simp; omega
      clear hend hown
      by_cases hlt : k < l.length
      · have h20 : ¬ k < 20 := fun h => hin ⟨hlt, h⟩
        clear hin
        clear hkl
        go_wp2
        go_ret
        exact ⟨a', cap', rfl, hp, hkp⟩
      · clear hin
        clear hkl
        go_wp2
        go_ret
        exact ⟨a', cap', rfl, hp, hkp⟩

/-- A number as it is written: modulo 2^64. -/
def uOf (n : Int) : Nat := (n % 18446744073709551616).toNat
theorem uOf_eq (n : Int) : IntKind.u64.wrap n = (uOf n : Int) := by rw [IntKind.wrap_u64]; unfold uOf; omega
theorem uOf_le (n : Int) : uOf n ≤ 18446744073709551615 := by unfold uOf; omega
/-- What 'put' does. -/
def wPart (st : ByteArray × Int) (p : DPart) : ByteArray × Int :=
  if p.kind = 0 then wByte st p.n else if p.kind = 1 then wNum st (uOf p.n) else if p.kind = 2 then wBlob st p.s else wHash st p.s
def DPart.agg (p : DPart) : Value := .agg #[.int .i64 p.kind, .int .i64 p.n, .string p.s]

set_option maxRecDepth 100000 in
set_option maxHeartbeats 4000000 in
theorem put_p {w : World} {A : Nat} {st : ByteArray × Int} (h : WAt 27 w A st) (p : DPart) (hs : st.1.size ≤ 1099511627776) (ht : p.s.size ≤ 549755813888) :
    Calls Try.prog 11 #[.pointer (some ⟨A, 0, none⟩), .agg #[.int .i64 p.kind, .int .i64 p.n, .string p.s]] w fun e w' => e = .returned (.tuple #[]) ∧ WAt 27 w' A (wPart st p) ∧ Keeps [A] w w' := by
  obtain ⟨q, n, s⟩ := p
  dsimp only at *
  have hA := h.lt
  have K1 : Keeps [A] w (w.alloc (.cells #[.int .i64 q, .int .i64 n, .string s] 32)) := (Keeps.refl _ _).alloc _
  have K0 : Keeps [] w (w.alloc (.cells #[.int .i64 q, .int .i64 n, .string s] 32)) := (Keeps.refl _ _).alloc _
  have h1 := h.keep K0 (by simp)
  by_cases q0 : q = 0
  · have R : Hid (wPart st ⟨q, n, s⟩ = wByte st n) := by simp [Hid, wPart, q0]
    have b0 : (q == 0) = true := by simpa using q0
    clear q0
    go_enter Try.func11, Try.ntmps11
    go_wp2_with fail
    refine (byte_w h1 n hs).mono ?_
    rintro e w1 ⟨rfl, h2, k2⟩
    go_wp2
    go_end0
    exact ⟨rfl, by rw [R.out]; exact h2, K1.trans k2⟩
  have b0 : (q == 0) = false := by simpa using q0
  by_cases q1 : q = 1
  · have R : Hid (wPart st ⟨q, n, s⟩ = wNum st (uOf n)) := by simp [Hid, wPart, q1]
    have b1 : (q == 1) = true := by simpa using q1
    clear q1 q0
    go_enter Try.func11, Try.ntmps11
    go_wp2_with fail
    rw [uOf_eq]
    refine (num_w h1 (uOf n) (uOf_le n) hs).mono ?_
    rintro e w1 ⟨rfl, h2, k2⟩
    go_wp2
    go_end0
    exact ⟨rfl, by rw [R.out]; exact h2, K1.trans k2⟩
  have b1 : (q == 1) = false := by simpa using q1
  by_cases q2 : q = 2
  · have R : Hid (wPart st ⟨q, n, s⟩ = wBlob st s) := by simp [Hid, wPart, q2]
    have b2 : (q == 2) = true := by simpa using q2
    clear q1 q0 q2
    go_enter Try.func11, Try.ntmps11
    go_wp2_with fail
    refine (blob_w h1 s hs ht).mono ?_
    rintro e w1 ⟨rfl, h2, k2⟩
    go_wp2
    go_end0
    exact ⟨rfl, by rw [R.out]; exact h2, K1.trans k2⟩
  · have R : Hid (wPart st ⟨q, n, s⟩ = wHash st s) := by simp [Hid, wPart, q0, q1, q2]
    have b2 : (q == 2) = false := by simpa using q2
    clear q1 q0 q2
    go_enter Try.func11, Try.ntmps11
    go_wp2_with fail
    refine (hash_w h1 s hs (by omega)).mono ?_
    rintro e w1 ⟨rfl, h2, k2⟩
    go_wp2
    go_end0
    exact ⟨rfl, by rw [R.out]; exact h2, K1.trans k2⟩

/-- Can a part be written? -/
def DPart.okB (p : DPart) : Bool :=
  if p.kind = 0 then decide (0 ≤ p.n) && decide (p.n ≤ 255) else if p.kind = 1 then true else if p.kind = 2 then decide ((p.s.size : Int) ≤ 4096) else (p.s.size : Int) == 16

set_option maxRecDepth 100000 in
set_option maxHeartbeats 4000000 in
theorem right_p {w : World} (p : DPart) (hs : p.s.size ≤ 9223372036854775807) :
    Calls Try.prog 35 #[.agg #[.int .i64 p.kind, .int .i64 p.n, .string p.s]] w fun e w' => e = .returned (.bool p.okB) ∧ Keeps [] w w' := by
  obtain ⟨q, n, s⟩ := p
  dsimp only at *
  have K0 : Keeps [] w (w.alloc (.cells #[.int .i64 q, .int .i64 n, .string s] 32)) := (Keeps.refl _ _).alloc _
  by_cases q0 : q = 0
  · by_cases hn : 0 ≤ n
    · have R : Hid (DPart.okB ⟨q, n, s⟩ = decide (n ≤ 255)) := by simp [Hid, DPart.okB, q0, hn]
      have b0 : (q == 0) = true := by simpa using q0
      clear q0
      go_enter Try.func35, Try.ntmps35
      go_wp2
      go_ret
      exact ⟨ret_bool R.out.symm, K0⟩
    · have R : Hid (DPart.okB ⟨q, n, s⟩ = false) := by simp [Hid, DPart.okB, q0, hn]
      have b0 : (q == 0) = true := by simpa using q0
      clear q0
      go_enter Try.func35, Try.ntmps35
      go_wp2
      go_ret
      exact ⟨ret_bool R.out.symm, K0⟩
  have b0 : (q == 0) = false := by simpa using q0
  by_cases q1 : q = 1
  · have R : Hid (DPart.okB ⟨q, n, s⟩ = true) := by simp [Hid, DPart.okB, q1]
    have b1 : (q == 1) = true := by simpa using q1
    clear q1 q0
    go_enter Try.func35, Try.ntmps35
    go_wp2
    go_ret
    exact ⟨ret_bool R.out.symm, K0⟩
  have b1 : (q == 1) = false := by simpa using q1
  by_cases q2 : q = 2
  · have R : Hid (DPart.okB ⟨q, n, s⟩ = decide ((s.size : Int) ≤ 4096)) := by simp [Hid, DPart.okB, q2]
    have b2 : (q == 2) = true := by simpa using q2
    clear q1 q0 q2
    go_enter Try.func35, Try.ntmps35
    go_wp2
    go_ret
    exact ⟨ret_bool R.out.symm, K0⟩
  · have R : Hid (DPart.okB ⟨q, n, s⟩ = ((s.size : Int) == 16)) := by simp [Hid, DPart.okB, q0, q1, q2]
    have b2 : (q == 2) = false := by simpa using q2
    clear q1 q0 q2
    go_enter Try.func35, Try.ntmps35
    go_wp2
    go_ret
    exact ⟨ret_bool R.out.symm, K0⟩
end Go.Proofs.Ytkmpefgaoagjjaa
