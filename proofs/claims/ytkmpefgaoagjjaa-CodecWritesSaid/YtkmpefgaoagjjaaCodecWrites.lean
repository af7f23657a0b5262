/-
  CodecWrites: its walk.
-/
import Derived.Test.YtkmpefgaoagjjaaCodecCut
import Derived.Test.YtkmpefgaoagjjaaRefWriter
import Derived.Test.YtkmpefgaoagjjaaCodecFixed
namespace Go.Proofs.Ytkmpefgaoagjjaa
open Go.RowKit

theorem size_wPut {st : ByteArray × Int} {t : ByteArray} {right : Bool} {err : Int} : (wPut st t right err).1.size ≤ st.1.size + t.size := by
  unfold wPut; split
  · simp
  · simp
theorem size_wPart {st : ByteArray × Int} {p : DPart} (h : p.s.size ≤ 5000) : (wPart st p).1.size ≤ st.1.size + 5002 := by
  unfold wPart
  split
  · have := @size_wPut st (byteB p.n) (decide (0 ≤ p.n) && decide (p.n ≤ 255)) 1
    have e : (byteB p.n).size = 1 := by rw [byteB, size_strOfNums]; rfl
    unfold wByte; omega
  split
  · have := @size_wPut st (putB (uOf p.n)) true 0
    have e := size_putB (uOf p.n)
    unfold wNum; omega
  split
  · have := @size_wPut st (blobB p.s) (decide ((p.s.size : Int) ≤ 4096)) 5
    have e : (blobB p.s).size = 2 + p.s.size := by rw [blobB, ByteArray.size_append, size_strOfNums]; rfl
    unfold wBlob; omega
  · have := @size_wPut st p.s ((p.s.size : Int) == 16) 1
    unfold wHash; omega
theorem cutL_small {l : List DPart} : ∀ p ∈ cutL l, p.s.size ≤ 5000 := by
  intro p hp
  obtain ⟨q, _, rfl⟩ := List.mem_map.1 (List.mem_of_mem_take hp)
  show (cutS 5000 q.s).size ≤ _; rw [size_cutS]; omega

def BothAt (w0 : World) (tW tX : TypeId) (W X : Nat) (most : Nat) (w : World) : Prop :=
  ∃ st, WAt tW w W st ∧ WAt tX w X st ∧ st.1.size ≤ most ∧ Keeps [] w0 w
def WritesRel (w0 : World) (tW tX : TypeId) (W X : Nat) (len : Nat) (i : Value) (wr : World) : Prop :=
  ∃ k : Nat, k ≤ len ∧ i = .int .i64 k ∧ BothAt w0 tW tX W X (k * 6000) wr

set_option maxRecDepth 100000 in
set_option maxHeartbeats 40000000 in
theorem codecWrites_walk {w : World} (a : Option Addr) (cap : Nat) (l : List DPart) (hl : PartsAt w w.heap.size a l) :
    Calls Try.prog 3 #[.slice a l.length cap] w fun e w' => e = .returned (.bool true) ∧ Below w.heap.size w w' := by
  go_enter Try.func3, Try.ntmps3
  go_wp2_with fail
  refine (cut_c a cap l hl).mono ?_
  rintro e w1 ⟨a1, cap1, rfl, hp, K1⟩
  have hmlen : (cutL l).length ≤ 20 := by rw [length_cutL]; omega
  have hms := @cutL_small l
  generalize cutL l = m at *
  have hB1 : Below w.heap.size w w1 := K1.below (Nat.le_refl _) (by simp)
  have hw1 := K1.size
  clear K1
  go_wp2_with fail
  obtain ⟨w2, hw2⟩ : ∃ w2, w2 = (w1.alloc (.cells #[.string ⟨#[]⟩, .int .i64 0] 27)).alloc (.cells #[.string ⟨#[]⟩, .int .i64 0] 30) := ⟨_, rfl⟩
  rw [← hw2]
  have K2 : Keeps [] w1 w2 := by rw [hw2]; exact ((Keeps.refl _ _).alloc _).alloc _
  obtain ⟨W, hW⟩ : ∃ W, W = w1.heap.size := ⟨_, rfl⟩
  rw [← hW]
  have T2 : BothAt w1 27 30 W (W + 1) (0 * 6000) w2 :=
    ⟨(⟨#[]⟩, 0), ⟨by rw [hw2, hW, heap_alloc_old (by simp)]; exact heap_alloc_same⟩, ⟨by rw [hw2]; exact heap_alloc_at (by simp; omega)⟩, Nat.zero_le _, K2⟩
  have hWw : w1.heap.size ≤ W := by omega
  clear hw2 hW K2
  obtain ⟨X, hX⟩ : ∃ X, X = W + 1 := ⟨_, rfl⟩
  rw [← hX] at T2 ⊢
  have hWX : W < X := by omega
  clear hX
  have hms1 := hp.small
  go_loopw [5] (fun i wr => WritesRel w1 27 30 W X m.length i wr) (fun i _ => m.length - (intOf i).toNat)
  case atStart => exact ⟨0, by omega, rfl, T2⟩
  case round =>
    obtain ⟨k, hk, rfl, st, g1, g2, hsz, hkp⟩ := hrel
    by_cases hlt : k < m.length
    · have hb := hkp.below (Nat.le_refl _) (by simp)
      obtain ⟨b, o, rfl, hbB, c0, c1, c2⟩ := (hp.below hb).cell k hlt
      have hps := hms _ (List.getElem_mem hlt)
      clear hb
      generalize m[k] = p at *
      have hWd := g1.lt
      have hXd := g2.lt
      obtain ⟨P, hP⟩ : ∃ P, P = wr.heap.size := ⟨_, rfl⟩
      obtain ⟨wa, hwa⟩ : ∃ wa, wa = wr.alloc (.cells #[.int .i64 p.kind, .int .i64 p.n, .string p.s] 32) := ⟨_, rfl⟩
      have Ka : Keeps [] wr wa := by rw [hwa]; exact (Keeps.refl _ _).alloc _
      have hPa : P < wa.heap.size := by rw [hwa, hP]; simp
      have pa : ∀ i v, #[Value.int .i64 p.kind, .int .i64 p.n, .string p.s][i]? = some v → wa.cell? ⟨P, i, none⟩ = some v := by
        intro i v h
        rw [cell_of_heap (by rw [hwa]; exact heap_alloc_at hP)]; exact h
      have d0 := pa 0 _ rfl
      have d1 := pa 1 _ rfl
      have d2 := pa 2 _ rfl
      have hPW : P ∉ [W] := by simp; omega
      have hWP : W < P := by omega
      have hXP : X < P := by omega
      clear pa
      go_upto_region 7 with fail
      rw [← hwa, ← hP]
      clear hwa hP
      have ga := g1.keep Ka (by simp)
      have xa := g2.keep Ka (by simp)
      have Kx := hkp.trans Ka
      clear g1 g2 Ka hkp c0 c1 c2
      go_wp2_with fail
      refine (put_p ga p (by omega) (by omega)).mono ?_
      rintro e w3 ⟨rfl, g3, k3⟩
      have x3 := xa.keep k3 (by simp; omega)
      have e0 := (k3.cell (b := P) (o := 0) hPa hPW).trans d0
      have e1 := (k3.cell (b := P) (o := 1) hPa hPW).trans d1
      have e2 := (k3.cell (b := P) (o := 2) hPa hPW).trans d2
      have K3 := Kx.step k3 hWw
      have hz : (wPart st p).1.size ≤ (k + 1) * 6000 := by have := @size_wPart st p hps; omega
      clear ga xa k3 Kx d0 d1 d2
      go_upto_block 2 with fail
      go_cut [27] (fun _ wx => BothAt w1 27 30 W X ((k + 1) * 6000) wx)
      case first =>
        by_cases q0 : p.kind = 0
        · have R : wPart st p = wByte st p.n := by simp [wPart, q0]
          rw [R] at g3
          have b0 : (p.kind == 0) = true := by simpa using q0
          have R' := Go.Lib.hid R
          clear q0 R
          go_wp2_with fail
          refine (byte_r x3 p.n (by omega)).mono ?_
          rintro e w4 ⟨rfl, x4, k4⟩
          have g4 := g3.keep k4 (by simp; omega)
          rw [← R'.out] at g4 x4
          go_wp2_with fail
          go_meet
          case rel => exact ⟨_, g4, x4, hz, K3.step k4 (by omega)⟩
        have b0 : (p.kind == 0) = false := by simpa using q0
        by_cases q1 : p.kind = 1
        · have R : wPart st p = wNum st (uOf p.n) := by simp [wPart, q1]
          rw [R] at g3
          have b1 : (p.kind == 1) = true := by simpa using q1
          have R' := Go.Lib.hid R
          clear q0 q1 R
          go_wp2_with fail
          rw [uOf_eq]
          refine (num_r x3 (uOf p.n) (uOf_le p.n) (by omega)).mono ?_
          rintro e w4 ⟨rfl, x4, k4⟩
          have g4 := g3.keep k4 (by simp; omega)
          rw [← R'.out] at g4 x4
          go_wp2_with fail
          go_meet
          case rel => exact ⟨_, g4, x4, hz, K3.step k4 (by omega)⟩
        have b1 : (p.kind == 1) = false := by simpa using q1
        by_cases q2 : p.kind = 2
        · have R : wPart st p = wBlob st p.s := by simp [wPart, q2]
          rw [R] at g3
          have b2 : (p.kind == 2) = true := by simpa using q2
          have R' := Go.Lib.hid R
          clear q0 q1 q2 R
          go_wp2_with fail
          refine (blob_r x3 p.s (by omega) (by omega)).mono ?_
          rintro e w4 ⟨rfl, x4, k4⟩
          have g4 := g3.keep k4 (by simp; omega)
          rw [← R'.out] at g4 x4
          go_wp2_with fail
          go_meet
          case rel => exact ⟨_, g4, x4, hz, K3.step k4 (by omega)⟩
        · have R : wPart st p = wHash st p.s := by simp [wPart, q0, q1, q2]
          rw [R] at g3
          have b2 : (p.kind == 2) = false := by simpa using q2
          have R' := Go.Lib.hid R
          clear q0 q1 q2 R
          go_wp2_with fail
          refine (hash_r x3 p.s (by omega) (by omega)).mono ?_
          rintro e w4 ⟨rfl, x4, k4⟩
          have g4 := g3.keep k4 (by simp; omega)
          rw [← R'.out] at g4 x4
          go_wp2_with fail
          go_meet
          case rel => exact ⟨_, g4, x4, hz, K3.step k4 (by omega)⟩
      case rest =>
        clear g3 x3 e0 e1 e2 K3 hz
        obtain ⟨st1, g4, x4, hz, K4⟩ := hcut
        have xc := x4.c1
        go_wp2_with fail
        go_quiet (first
          | (go_at_call 16; exact Calls.quiet_of_same ((text_w (g4.keep ((Keeps.refl [] _).drewN _) (by simp))).mono (fun _ _ h => ⟨h.1, h.2.symm⟩)))
          | (go_at_call 17; exact Calls.quiet_of_same ((text_r (x4.keep ((Keeps.refl [] _).drewN _) (by simp))).mono (fun _ _ h => ⟨h.1, h.2.symm⟩)))
          | (go_at_call 18; exact Calls.quiet_of_same ((err_w (g4.keep ((Keeps.refl [] _).drewN _) (by simp))).mono (fun _ _ h => ⟨h.1, h.2.symm⟩))))
        go_wp2_with fail
        go_roundw
        case rel => exact ⟨k + 1, by omega, by go_num, st1, g4.keep ((Keeps.refl [] _).drewN _) (by simp), x4.keep ((Keeps.refl [] _).drewN _) (by simp), hz, K4.drewN _⟩
        case measure => simp [intOf]; omega
    · go_wp2_with fail
      refine (fixed_c (w := wr)).mono ?_
      rintro e w3 ⟨rfl, k3⟩
      go_wp2
      go_ret
      exact ⟨rfl, hB1.trans ((hkp.trans k3).below (by omega) (by simp))⟩
end Go.Proofs.Ytkmpefgaoagjjaa
