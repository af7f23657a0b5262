/-
  CodecHalf: its walk.
-/
import Derived.Test.YtkmpefgaoagjjaaCodecFixed
import Derived.Test.YtkmpefgaoagjjaaCodecParts
import Derived.Deep.RegionHeld3
namespace Go.Proofs.Ytkmpefgaoagjjaa
open Go.RowKit

/-- What is left of t: its last n bytes; nothing is wrong but a text that is short, or too big. -/
structure Rest (t : ByteArray) (st : ByteArray × Int) : Prop where
  le : st.1.size ≤ t.size
  eq : st.1 = t.extract (t.size - st.1.size) t.size
  err : st.2 = 0 ∨ st.2 = 3 ∨ st.2 = 5

theorem rest_start (t : ByteArray) : Rest t (t, 0) := ⟨Nat.le_refl _, by simp, .inl rfl⟩
theorem Rest.fail {t : ByteArray} {st : ByteArray × Int} (h : Rest t st) : Rest t (rFail st 3) :=
  ⟨h.le, h.eq, by unfold rFail; rcases h.err with e | e | e <;> simp [e]⟩
theorem Rest.go {t : ByteArray} {st : ByteArray × Int} (h : Rest t st) (n : Nat) : Rest t (rGo n st) := by
  cases hh : rHas n st with
  | false => rw [rGo_no hh]; exact h.fail
  | true =>
    obtain ⟨_, hn⟩ := (rHas_iff n st).1 hh
    have e1 : rGo n st = (st.1.extract n st.1.size, 0) := by simp [rGo, hh]
    have e2 : (st.1.extract n st.1.size).size = st.1.size - n := by rw [ByteArray.size_extract]; omega
    rw [e1]
    have hle := h.le
    refine ⟨by rw [e2]; omega, ?_, .inl rfl⟩
    show st.1.extract n st.1.size = t.extract (t.size - (st.1.extract n st.1.size).size) t.size
    rw [e2]
    have hs := h.eq
    generalize st.1.size = m at *
    rw [hs, ByteArray.extract_extract]
    congr 1 <;> omega
theorem Rest.blobGo {t : ByteArray} {st : ByteArray × Int} (h : Rest t st) (m : Int) : Rest t (rBlobGo m st) := by
  unfold rBlobGo
  by_cases hb : rBad m st = 0
  · rw [if_pos hb]; exact (h.go 2).go _
  · rw [if_neg hb]
    refine ⟨h.le, h.eq, ?_⟩
    show rBad m st = 0 ∨ rBad m st = 3 ∨ rBad m st = 5
    unfold rBad
    have hf := h.fail.err
    split
    · exact hf
    · split
      · exact .inr (.inr rfl)
      · split
        · exact .inr (.inl rfl)
        · exact .inl rfl

def HalfRel (w0 : World) (tR : TypeId) (R : Nat) (t : ByteArray) (len : Nat) (i : Value) (wr : World) : Prop :=
  ∃ k : Nat, k ≤ len ∧ k ≤ 10 ∧ i = .int .i64 k ∧ ∃ st, WAt tR wr R st ∧ Rest t st ∧ Keeps [] w0 wr
def HalfCut (w0 : World) (tR : TypeId) (R C : Nat) (t : ByteArray) (ok : Value) (wx : World) : Prop :=
  ok = .bool true ∧ ∃ st, WAt tR wx R st ∧ WAt tR wx C st ∧ Rest t st ∧ Keeps [] w0 wx

set_option maxRecDepth 100000 in
set_option maxHeartbeats 40000000 in
theorem codecHalf_walk {w : World} (s : ByteArray) (hs : s.size ≤ 9223372036854775807) (a : Option Addr) (cap : Nat) (l : List DPart) (hl : PartsAt w w.heap.size a l) :
    Calls Try.prog 9 #[.string s, .slice a l.length cap] w fun e w' => e = .returned (.bool true) ∧ Below w.heap.size w w' := by
  have hsm := hl.small
  have hS3 : (cutS 300 s).size ≤ 300 := by rw [size_cutS]; omega
  go_enter Try.func9, Try.ntmps9
  go_upto_region 1 with fail
  go_cut [5] (fun v wx => v = .string (cutS 300 s) ∧ wx = w)
  case first =>
    by_cases h6 : s.size ≤ 300
    · go_wp2_with fail
      go_meet
      case rel => exact ⟨ret_string_eq (cutS_small h6), rfl⟩
    · go_wp2_with fail
      go_meet
      case rel => exact ⟨ret_string_eq (cutS_big h6), rfl⟩
  case rest =>
    obtain ⟨rfl, hwx⟩ := hcut
    rw [hwx]
    clear hwx
    generalize cutS 300 s = t at *
    go_wp2_with fail
    refine (read_c t).mono ?_
    rintro e w1 ⟨rfl, h1, k1⟩
    obtain ⟨R, hR⟩ : ∃ R, R = w.heap.size := ⟨_, rfl⟩
    rw [← hR] at h1 ⊢
    have hRw : w.heap.size ≤ R := by omega
    clear hR
    go_wp2_with fail
    go_loopw [7] (fun i wr => HalfRel w 61 R t l.length i wr) (fun i _ => l.length - (intOf i).toNat)
    case atStart => exact ⟨0, by omega, by omega, rfl, _, h1, rest_start t, k1⟩
    case round =>
      obtain ⟨k, hk, hk20, rfl, st, g, hst, hkp⟩ := hrel
      by_cases hin : k < l.length ∧ k < 10
      · obtain ⟨hlt, hlt20⟩ := hin
        have hle := hst.le
        have hRd : R < wr.heap.size := g.lt
        go_wp2_with fail
        refine (left_c g).mono ?_
        rintro e w2 ⟨rfl, rfl⟩
        have hz : (t.size : Int) - st.1.size = ((t.size - st.1.size : Nat) : Int) := by omega
        go_wp2_with fail
        clear hz
        rw [← hst.eq]
        obtain ⟨q, z⟩ := st
        dsimp only at *
        refine (read_c q).mono ?_
        rintro e w3 ⟨rfl, h3, k3⟩
        obtain ⟨C, hC⟩ : ∃ C, C = wr.heap.size := ⟨_, rfl⟩
        rw [← hC] at h3 ⊢
        have hRC : R < C := by omega
        have hCw : w.heap.size ≤ C := by omega
        clear hC
        have g3 := g.keep k3 (by simp)
        have K3 := hkp.trans k3
        by_cases hz : z = 0
        · subst hz
          obtain ⟨x, e4, hx4⟩ : ∃ x : Int, (∀ w', WAt 61 w' R (q, 0) → Calls Try.prog 33 #[.pointer (some ⟨R, 0, none⟩)] w' fun e w'' => e = .returned (.int .i64 x) ∧ Keeps [] w' w'') ∧ (x = 0 ∨ x = 4) :=
            ⟨rEnd (q, 0), fun _ h => end_c h, by rw [rEnd, if_pos rfl]; split <;> simp⟩
          go_upto_region 12 with fail
          go_cut [58] (fun v wx => v = .bool false ∧ WAt 61 wx R (q, 0) ∧ WAt 61 wx C (q, 0) ∧ Keeps [] w wx)
          case first =>
            rcases hx4 with rfl | rfl
            · go_wp2_with fail
              refine (e4 _ g3).mono ?_
              rintro e w4 ⟨rfl, k4⟩
              go_wp2_with fail
              go_meet
              case rel => exact ⟨rfl, g3.keep k4 (by simp), h3.keep k4 (by simp), K3.trans k4⟩
            · go_wp2_with fail
              refine (e4 _ g3).mono ?_
              rintro e w4 ⟨rfl, k4⟩
              have g4 := g3.keep k4 (by simp)
              have h4 := h3.keep k4 (by simp)
              go_wp2_with fail
              refine (e4 _ g4).mono ?_
              rintro e w5 ⟨rfl, k5⟩
              go_wp2_with fail
              go_meet
              case rel => exact ⟨rfl, g4.keep k5 (by simp), h4.keep k5 (by simp), (K3.trans k4).trans k5⟩
          case rest =>
            obtain ⟨rfl, g4, c4, K4⟩ := hcut
            clear e4 hx4 g g3 h3 K3 k3 hkp
            generalize ((q, 0) : ByteArray × Int) = st at *
            have hb := K4.below (Nat.le_refl _) (by simp)
            obtain ⟨b, o, rfl, hbB, d0, d1, d2⟩ := (hl.below hb).cell k hlt
            have hRd4 := g4.lt
            have hCd4 := c4.lt
            have hbR : b < R := by omega
            clear d2 hb
            go_upto_block 2 with fail
            go_cut [10] (fun ok wx => HalfCut w 61 R C t ok wx)
            case first =>
              generalize l[k].kind = p at *
              by_cases q0 : p = 0
              · have b0 : (p == 0) = true := by simpa using q0
                clear q0
                go_wp2_with fail
                refine (byte_c g4).mono ?_
                rintro e w5 ⟨rfl, g5, k5⟩
                have x5 := c4.keep k5 (by simp; omega)
                go_wp2_with fail
                refine (byte_c x5).mono ?_
                rintro e w6 ⟨rfl, x6, k6⟩
                have g6 := g5.keep k6 (by simp; omega)
                go_wp2_with fail
                go_meet
                case rel => exact ⟨rfl, _, g6, x6, hst.go _, (K4.step k5 hRw).step k6 hCw⟩
              have b0 : (p == 0) = false := by simpa using q0
              clear q0
              by_cases q1 : p = 1
              · have b1 : (p == 1) = true := by simpa using q1
                clear q1
                go_wp2_with fail
                refine (num_c g4).mono ?_
                rintro e w5 ⟨rfl, g5, k5⟩
                have x5 := c4.keep k5 (by simp; omega)
                go_wp2_with fail
                refine (num_c x5).mono ?_
                rintro e w6 ⟨rfl, x6, k6⟩
                have g6 := g5.keep k6 (by simp; omega)
                go_wp2_with fail
                go_meet
                case rel => exact ⟨rfl, _, g6, x6, hst.go _, (K4.step k5 hRw).step k6 hCw⟩
              have b1 : (p == 1) = false := by simpa using q1
              clear q1
              by_cases q2 : p = 2
              · have b2 : (p == 2) = true := by simpa using q2
                clear q2
                have hbw := Nat.lt_trans hbR hRd4
                have hbRn : b ∉ [R] := by simp; omega
                have hbCn : b ∉ [C] := by simp; omega
                go_wp2_with fail
                go_region_held3 (fun w' => w'.cell? ⟨b, o + k * 3 + 1, none⟩ = some (.int .i64 l[k].n)) (first | exact d1 | exact (k5.cell hbw hbRn).trans d1 | exact (k6.cell (Nat.lt_of_lt_of_le hbw k5.size) hbCn).trans ((k5.cell hbw hbRn).trans d1) | go_keep)
                  (first
                    | (go_at_call 25; (fail_if_success have z5 := k5); refine (blob_c (g4.keep (S := []) (by repeat (first | exact Keeps.refl _ _ | apply Keeps.drew | apply Keeps.drewN)) (by simp)) _).mono ?_; rintro e w5 ⟨rfl, g5, k5⟩)
                    | (go_at_call 25; have z5 := k5; refine (blob_c (c4.keep (S := [R]) (((Keeps.refl [R] _).drew).trans z5) (by simp; omega)) _).mono ?_; rintro e w6 ⟨rfl, x6, k6⟩))
                have g6 := g5.keep k6 (by simp; omega)
                go_wp2_with fail
                go_meet
                case rel => exact ⟨rfl, _, g6, x6, hst.blobGo _, ((K4.drew).step k5 hRw).step k6 hCw⟩
              have b2 : (p == 2) = false := by simpa using q2
              clear q2
              go_wp2_with fail
              refine (hash_c g4).mono ?_
              rintro e w5 ⟨rfl, g5, k5⟩
              have x5 := c4.keep k5 (by simp; omega)
              go_wp2_with fail
              refine (hash_c x5).mono ?_
              rintro e w6 ⟨rfl, x6, k6⟩
              have g6 := g5.keep k6 (by simp; omega)
              go_wp2_with fail
              go_meet
              case rel => exact ⟨rfl, _, g6, x6, hst.go _, (K4.step k5 hRw).step k6 hCw⟩
            case rest =>
              clear g4 c4 K4 d0 d1
              obtain ⟨rfl, st, g1, c1, hst1, hkp⟩ := hcut
              go_wp2_with fail
              refine (left_c g1).mono ?_
              rintro e w5 ⟨rfl, rfl⟩
              go_wp2_with fail
              refine (left_c c1).mono ?_
              rintro e w6 ⟨rfl, rfl⟩
              go_wp2_with fail
              refine (end_c g1).mono ?_
              rintro e w7 ⟨rfl, k7⟩
              have g7 := g1.keep k7 (by simp)
              have c7 := c1.keep k7 (by simp)
              go_wp2_with fail
              refine (end_c c7).mono ?_
              rintro e w8 ⟨rfl, k8⟩
              have g8 := g7.keep k8 (by simp)
              go_wp2_with fail
              go_roundw
              case rel => exact ⟨k + 1, by omega, by omega, by go_num, _, g8, hst1, (hkp.trans k7).trans k8⟩
              case measure => simp [intOf]; omega
        · have e4 := end_c g3
          have hx : rEnd (q, z) = z := by simp [rEnd, hz]
          rw [hx] at e4
          clear hx
          have b0 : (z != 0) = true := by simpa using hz
          have b4 : (z != 4) = true := by have := hst.err; simp only at this; simp; omega
          clear hz
          go_wp2_with fail
          refine e4.mono ?_
          rintro e w4 ⟨rfl, k4⟩
          have g4 := g3.keep k4 (by simp)
          have hx : rEnd (q, z) = z := by have : z ≠ 0 := by simpa using b0
                                          simp [rEnd, this]
          have e5 := end_c g4
          rw [hx] at e5
          clear hx
          go_wp2_with fail
          refine e5.mono ?_
          rintro e w5 ⟨rfl, k5⟩
          go_wp2_with fail
          refine (fixed_c (w := w5)).mono ?_
          rintro e w6 ⟨rfl, k6⟩
          go_wp2
          go_ret
          exact ⟨rfl, (((K3.trans k4).trans k5).trans k6).below (Nat.le_refl _) (by simp)⟩
      · by_cases hlt : k < l.length
        · have h20 : ¬ k < 10 := fun h => hin ⟨hlt, h⟩
          clear hin
          go_wp2_with fail
          refine (fixed_c (w := wr)).mono ?_
          rintro e w3 ⟨rfl, k3⟩
          go_wp2
          go_ret
          exact ⟨rfl, (hkp.trans k3).below (Nat.le_refl _) (by simp)⟩
        · clear hin
          go_wp2_with fail
          refine (fixed_c (w := wr)).mono ?_
          rintro e w3 ⟨rfl, k3⟩
          go_wp2
          go_ret
          exact ⟨rfl, (hkp.trans k3).below (Nat.le_refl _) (by simp)⟩
end Go.Proofs.Ytkmpefgaoagjjaa
