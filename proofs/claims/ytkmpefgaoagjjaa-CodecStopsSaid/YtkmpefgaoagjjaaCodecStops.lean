/-
  CodecStops: its walk.
-/
import Derived.Test.YtkmpefgaoagjjaaCodecFixed
import Derived.Test.YtkmpefgaoagjjaaCodecParts
namespace Go.Proofs.Ytkmpefgaoagjjaa
open Go.RowKit

def StopsRel (w0 : World) (tR : TypeId) (R : Nat) (st : ByteArray × Int) (len : Nat) (i : Value) (wr : World) : Prop :=
  ∃ k : Nat, k ≤ len ∧ k ≤ 20 ∧ i = .int .i64 k ∧ WAt tR wr R st ∧ Keeps [] w0 wr

theorem rByte_bad {st : ByteArray × Int} (h : st.2 ≠ 0) : rByte st = 0 := by rw [rByte, rGet_no (rHas_bad h)]; rfl
theorem rNum_bad {st : ByteArray × Int} (h : st.2 ≠ 0) : rNum st = 0 := by rw [rNum, rGet_no (rHas_bad h)]; rfl
theorem rGo_bad {n : Nat} {st : ByteArray × Int} (h : st.2 ≠ 0) : rGo n st = st := by rw [rGo_no (rHas_bad h), rFail_same h]
theorem rBad_bad {m : Int} {st : ByteArray × Int} (h : st.2 ≠ 0) : rBad m st = st.2 := by simp [rBad, rHas_bad h, rFail_same h]
theorem rBlob_bad {m : Int} {st : ByteArray × Int} (h : st.2 ≠ 0) : rBlob m st = ByteArray.empty := by simp [rBlob, rBad_bad h, h]
theorem rBlobGo_bad {m : Int} {st : ByteArray × Int} (h : st.2 ≠ 0) : rBlobGo m st = st := by simp [rBlobGo, rBad_bad h, h]
theorem rEnd_bad {st : ByteArray × Int} (h : st.2 ≠ 0) : rEnd st = st.2 := by simp [rEnd, h]

set_option maxRecDepth 100000 in
set_option maxHeartbeats 40000000 in
theorem codecStops_walk {w : World} (s : ByteArray) (hs : s.size ≤ 9223372036854775807) (u : Nat) (hu : u ≤ 255) (a : Option Addr) (cap : Nat) (l : List DPart) (hl : PartsAt w w.heap.size a l) :
    Calls Try.prog 7 #[.string s, .int .u8 u, .slice a l.length cap] w fun e w' => e = .returned (.bool true) ∧ Below w.heap.size w w' := by
  have hsm := hl.small
  go_enter Try.func7, Try.ntmps7
  go_upto_region 1 with fail
  go_cut [0] (fun v wx => v = .string (cutS 300 s) ∧ wx = w)
  case first =>
    by_cases h6 : s.size ≤ 300
    · go_wp2_with fail
      go_meet
      case rel => exact ⟨ret_string_eq (cutS_small h6), rfl⟩
    · go_wp2_with fail
      go_meet
      case rel => exact ⟨ret_string_eq (cutS_big h6), rfl⟩
  case rest =>
    obtain ⟨rfl, hwx⟩ := hcut
    rw [hwx]
    clear hwx
    generalize cutS 300 s = t at *
    go_wp2_with fail
    refine (read_c t).mono ?_
    rintro e w1 ⟨rfl, h1, k1⟩
    obtain ⟨R, hR⟩ : ∃ R, R = w.heap.size := ⟨_, rfl⟩
    rw [← hR] at h1 ⊢
    have hRw : w.heap.size ≤ R := by omega
    clear hR
    go_upto_region 5 with fail
    go_cut [8] (fun v wx => (∃ q : Nat, v = .int .i64 q ∧ 1 ≤ q ∧ q ≤ 15) ∧ wx = w1)
    case first =>
      go_wp2_with fail
      go_meet
      case rel => exact ⟨⟨1 + u % 15, by go_num, by omega, by omega⟩, rfl⟩
    case rest =>
      obtain ⟨⟨q, rfl, hq1, hq2⟩, hwx⟩ := hcut
      rw [hwx]
      clear hwx
      go_wp2_with fail
      refine (fail_c h1 0).mono ?_
      rintro e w2 ⟨rfl, h2, k2⟩
      have e2 : rFail (t, 0) 0 = (t, 0) := rfl
      rw [e2] at h2
      clear e2
      go_wp2_with fail
      refine (fail_c h2 _).mono ?_
      rintro e w3 ⟨rfl, h3, k3⟩
      have e3 : rFail (t, 0) (q : Int) = (t, (q : Int)) := rfl
      rw [e3] at h3
      clear e3
      have K3 := (k1.step k2 hRw).step k3 hRw
      have hne : ((t, (q : Int)) : ByteArray × Int).2 ≠ 0 := by show (q : Int) ≠ 0; omega
      clear k1 k2 k3 h1 h2
      go_wp2_with fail
      go_loopw [9] (fun i wr => StopsRel w 61 R (t, (q : Int)) l.length i wr) (fun i _ => l.length - (intOf i).toNat)
      case atStart => exact ⟨0, by omega, by omega, rfl, h3, K3⟩
      case round =>
        obtain ⟨k, hk, hk20, rfl, g, hkp⟩ := hrel
        by_cases hin : k < l.length ∧ k < 20
        · obtain ⟨hlt, hlt20⟩ := hin
          have hb : Below w.heap.size w wr := hkp.below (Nat.le_refl _) (by simp)
          obtain ⟨b, o, rfl, hbB, c0, c1, c2⟩ := (hl.below hb).cell k hlt
          have hRd : R < wr.heap.size := g.lt
          clear c0 c2 hb
          have hbR : b ∉ [R] := by simp; omega
          have r1 := byte_c g
          rw [rByte_bad hne, rGo_bad hne] at r1
          go_wp2_with fail
          refine r1.mono ?_
          rintro e w4 ⟨rfl, g4, k4⟩
          have d4 := (k4.cell (b := b) (o := o + k * 3 + 1) (by omega) hbR).trans c1
          have s4 := k4.size
          have r4 := num_c g4
          rw [rNum_bad hne, rGo_bad hne] at r4
          go_wp2_with fail
          refine r4.mono ?_
          rintro e w5 ⟨rfl, g5, k5⟩
          have d5 := (k5.cell (b := b) (o := o + k * 3 + 1) (by omega) hbR).trans d4
          have s5 := k5.size
          have r5 := blob_c g5 l[k].n
          rw [rBlob_bad hne, rBlobGo_bad hne] at r5
          go_wp2_with fail
          refine r5.mono ?_
          rintro e w6 ⟨rfl, g6, k6⟩
          have d6 := (k6.cell (b := b) (o := o + k * 3 + 1) (by omega) hbR).trans d5
          have s6 := k6.size
          have r6 := hash_c g6
          rw [rGet_no (rHas_bad hne), rGo_bad hne] at r6
          go_wp2_with fail
          refine r6.mono ?_
          rintro e w7 ⟨rfl, g7, k7⟩
          have d7 := (k7.cell (b := b) (o := o + k * 3 + 1) (by omega) hbR).trans d6
          have s7 := k7.size
          go_wp2_with fail
          refine (left_c g7).mono ?_
          rintro e w8 ⟨rfl, rfl⟩
          have r8 := end_c g7
          rw [rEnd_bad hne] at r8
          go_wp2_with fail
          refine r8.mono ?_
          rintro e w9 ⟨rfl, k9⟩
          have g9 := g7.keep k9 (by simp)
          have d9 := (k9.cell (b := b) (o := o + k * 3 + 1) (by omega) (by simp)).trans d7
          go_wp2_with fail
          refine (fail_c g9 _).mono ?_
          rintro e w10 ⟨rfl, g10, k10⟩
          rw [rFail_same hne] at g10
          go_wp2_with fail
          go_roundw
          case rel => exact ⟨k + 1, by omega, by omega, by go_num, g10, (((((hkp.step k4 hRw).step k5 hRw).step k6 hRw).step k7 hRw).trans k9).step k10 hRw⟩
          case measure => simp [intOf]; omega
        · have r8 := end_c g
          rw [rEnd_bad hne] at r8
          by_cases hlt : k < l.length
          · have h20 : ¬ k < 20 := fun h => hin ⟨hlt, h⟩
            clear hin
            go_wp2_with fail
            refine r8.mono ?_
            rintro e w9 ⟨rfl, k9⟩
            go_wp2_with fail
            refine (fixed_c (w := w9)).mono ?_
            rintro e w10 ⟨rfl, k10⟩
            go_wp2
            go_ret
            exact ⟨rfl, ((hkp.trans k9).trans k10).below (Nat.le_refl _) (by simp)⟩
          · clear hin
            go_wp2_with fail
            refine r8.mono ?_
            rintro e w9 ⟨rfl, k9⟩
            go_wp2_with fail
            refine (fixed_c (w := w9)).mono ?_
            rintro e w10 ⟨rfl, k10⟩
            go_wp2
            go_ret
            exact ⟨rfl, ((hkp.trans k9).trans k10).below (Nat.le_refl _) (by simp)⟩
end Go.Proofs.Ytkmpefgaoagjjaa
