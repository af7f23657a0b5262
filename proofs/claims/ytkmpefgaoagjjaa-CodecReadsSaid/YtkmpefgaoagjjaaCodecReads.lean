/-
  CodecReads: its walk.
-/
import Derived.Test.YtkmpefgaoagjjaaRefReader
import Derived.Test.YtkmpefgaoagjjaaCodecFixed
import Derived.Test.YtkmpefgaoagjjaaCodecParts
import Derived.Deep.RegionHeld3
namespace Go.Proofs.Ytkmpefgaoagjjaa
open Go.RowKit

/-- Both readers, in one state. -/
def TwoAt (w0 : World) (R X : Nat) (S : ByteArray) (w : World) : Prop :=
  ∃ a e, WAt 61 w R (xst S a e) ∧ XAt w X S a e ∧ Keeps [] w0 w
def ReadsRel (w0 : World) (R X : Nat) (S : ByteArray) (len : Nat) (i : Value) (wr : World) : Prop :=
  ∃ k : Nat, k ≤ len ∧ k ≤ 20 ∧ i = .int .i64 k ∧ TwoAt w0 R X S wr
def ReadsCut (w0 : World) (R X : Nat) (S : ByteArray) (ok : Value) (wx : World) : Prop := ok = .bool true ∧ TwoAt w0 R X S wx

set_option maxRecDepth 100000 in
set_option maxHeartbeats 40000000 in
theorem codecReads_walk (s : ByteArray) (hs : s.size ≤ 9223372036854775807) (a : Option Addr) (cap : Nat) (l : List DPart) (w : World) (hl : PartsAt w w.heap.size a l) :
    Calls Try.prog 4 #[.string s, .slice a l.length cap] w fun e w' => e = .returned (.bool true) ∧ Below w.heap.size w w' := by
  have hsm := hl.small
  have hS6 : (cutS 6000 s).size ≤ 6000 := by rw [size_cutS]; omega
  go_enter Try.func4, Try.ntmps4
  go_upto_region 1 with fail
  go_cut [0] (fun v wx => v = .string (cutS 6000 s) ∧ wx = w)
  case first =>
    by_cases h6 : s.size ≤ 6000
    · go_wp2_with fail
      go_meet
      case rel => exact ⟨ret_string_eq (cutS_small h6), rfl⟩
    · go_wp2_with fail
      go_meet
      case rel => exact ⟨ret_string_eq (cutS_big h6), rfl⟩
  case rest =>
    obtain ⟨rfl, rfl⟩ := hcut
    generalize cutS 6000 s = t at *
    go_wp2_with fail
    refine (read_c t).mono ?_
    rintro e w1 ⟨rfl, h1, k1⟩
    rename_i wc _
    go_wp2_with fail
    obtain ⟨w2, hw2⟩ : ∃ w2, w2 = w1.alloc (.cells #[.string t, .int .i64 0, .int .i64 0] 46) := ⟨_, rfl⟩
    rw [← hw2]
    obtain ⟨X, hX⟩ : ∃ X, X = w1.heap.size := ⟨_, rfl⟩
    rw [← hX]
    have hRX := h1.lt
    obtain ⟨R, hR⟩ : ∃ R, R = wc.heap.size := ⟨_, rfl⟩
    rw [← hR]
    have T2 : TwoAt wc R X t w2 := by
      have k2 : Keeps [] w1 w2 := by rw [hw2]; exact (Keeps.refl _ _).alloc _
      have e0 : xst t 0 0 = (t, 0) := by rw [xst, ByteArray.extract_zero_size]
      exact ⟨0, 0, by rw [e0, hR]; exact h1.keep k2 (by simp), ⟨by rw [hw2, hX]; exact heap_alloc_same, Nat.zero_le _, by omega⟩, k1.trans k2⟩
    have hRX' : R < X := by rw [hR, hX]; exact hRX
    have hRw : wc.heap.size ≤ R := by omega
    clear hw2 hX hRX h1 k1
    clear hR
    go_loopw [7] (fun i wr => ReadsRel wc R X t l.length i wr) (fun i _ => l.length - (intOf i).toNat)
    case atStart => exact ⟨0, by omega, by omega, rfl, T2⟩
    case round =>
      obtain ⟨k, hk, hk20, rfl, g⟩ := hrel
      by_cases hin : k < l.length ∧ k < 20
      · obtain ⟨hlt, hlt20⟩ := hin
        obtain ⟨at0', e0, g1, g2, hkp⟩ := g
        have hb : Below wc.heap.size wc wr := hkp.below (Nat.le_refl _) (by simp)
        obtain ⟨b, o, rfl, hbB, c0, c1, c2⟩ := (hl.below hb).cell k hlt
        have hRd : R < wr.heap.size := g1.lt
        have hbR : b < R := by omega
        clear c2 hb
        go_upto_block 2 with fail
        go_cut [8] (fun ok wx => ReadsCut wc R X t ok wx)
        case first =>
          generalize l[k].kind = q at *
          by_cases q0 : q = 0
          · have b0 : (q == 0) = true := by simpa using q0
            clear q0
            go_wp2_with fail
            refine (byte_c g1).mono ?_
            rintro e w3 ⟨rfl, g3, k3⟩
            have x3 := g2.keep k3 (by simp; omega)
            go_wp2_with fail
            refine (byte_x x3).mono ?_
            rintro e w4 ⟨rfl, ⟨a', e', E, x4⟩, k4⟩
            have g4 := g3.keep k4 (by simp; omega)
            rw [E] at g4
            clear E
            go_wp2_with fail
            go_meet
            case rel => exact ⟨rfl, a', e', g4, x4, (hkp.step k3 hRw).step k4 (by omega)⟩
          have b0 : (q == 0) = false := by simpa using q0
          clear q0
          by_cases q1 : q = 1
          · have b1 : (q == 1) = true := by simpa using q1
            clear q1
            go_wp2_with fail
            refine (num_c g1).mono ?_
            rintro e w3 ⟨rfl, g3, k3⟩
            have x3 := g2.keep k3 (by simp; omega)
            go_wp2_with fail
            refine (num_x x3).mono ?_
            rintro e w4 ⟨rfl, ⟨a', e', E, x4⟩, k4⟩
            have g4 := g3.keep k4 (by simp; omega)
            rw [E] at g4
            clear E
            go_wp2_with fail
            go_meet
            case rel => exact ⟨rfl, a', e', g4, x4, (hkp.step k3 hRw).step k4 (by omega)⟩
          have b1 : (q == 1) = false := by simpa using q1
          clear q1
          by_cases q2 : q = 2
          · have b2 : (q == 2) = true := by simpa using q2
            clear q2
            have hbw : b < wr.heap.size := by omega
            have hbRn : b ∉ [R] := by simp; omega
            have hbXn : b ∉ [X] := by simp; omega
            go_wp2_with fail
            go_region_held3 (fun w' => w'.cell? ⟨b, o + k * 3 + 1, none⟩ = some (.int .i64 l[k].n)) (first | exact c1 | exact (k1.cell hbw hbRn).trans c1 | exact (k2.cell (Nat.lt_of_lt_of_le hbw k1.size) hbXn).trans ((k1.cell hbw hbRn).trans c1) | go_keep)
              (first
                | (go_at_call 25; refine (blob_c (g1.keep (S := []) (by repeat (first | exact Keeps.refl _ _ | apply Keeps.drew | apply Keeps.drewN)) (by simp)) _).mono ?_; rintro e w3 ⟨rfl, g3, k1⟩)
                | (go_at_call 26; refine (blob_x (g2.keep (T := [R]) (((Keeps.refl [R] _).drew).trans k1) (by simp; omega)) _).mono ?_; rintro e w4 ⟨rfl, ⟨a', e', E, x4⟩, k2⟩))
            have g4 := g3.keep k2 (by simp; omega)
            rw [E] at g4
            go_wp2_with fail
            go_meet
            case rel => exact ⟨rfl, a', e', g4, x4, ((hkp.drew).step k1 hRw).step k2 (by omega)⟩
          have b2 : (q == 2) = false := by simpa using q2
          clear q2
          by_cases q3 : q = 3
          · have b3 : (q == 3) = true := by simpa using q3
            clear q3
            go_wp2_with fail
            refine (hash_c g1).mono ?_
            rintro e w3 ⟨rfl, g3, k3⟩
            have x3 := g2.keep k3 (by simp; omega)
            go_wp2_with fail
            refine (hash_x x3).mono ?_
            rintro e w4 ⟨rfl, ⟨a', e', E, x4⟩, k4⟩
            have g4 := g3.keep k4 (by simp; omega)
            rw [E] at g4
            clear E
            go_wp2_with fail
            go_meet
            case rel => exact ⟨rfl, a', e', g4, x4, (hkp.step k3 hRw).step k4 (by omega)⟩
          have b3 : (q == 3) = false := by simpa using q3
          clear q3
          obtain ⟨z, hz, _⟩ := i64_and l[k].n 15 (by decide)
          go_wp2_with fail
          refine (fail_c g1 _).mono ?_
          rintro e w3 ⟨rfl, g3, k3⟩
          have x3 := g2.keep k3 (by simp; omega)
          have d1 := (k3.cell (b := b) (o := o + k * 3 + 1) (by omega) (by simp; omega)).trans c1
          go_wp2_with fail
          refine (fail_x x3 _).mono ?_
          rintro e w4 ⟨rfl, x4, k4⟩
          have g4 := g3.keep k4 (by simp; omega)
          go_wp2_with fail
          go_meet
          case rel => exact ⟨rfl, _, _, g4, x4, (hkp.step k3 hRw).step k4 (by omega)⟩
        case rest =>
          clear g1 g2 hkp c0 c1
          obtain ⟨rfl, at1', e1, g1, g2, hkp⟩ := hcut
          have E1 := end_c g1
          go_wp2_with fail
          refine (left_c g1).mono ?_
          rintro e w3 ⟨rfl, rfl⟩
          go_wp2_with fail
          refine (left_x g2).mono ?_
          rintro e w4 ⟨rfl, k4⟩
          have g14 := g1.keep k4 (by simp)
          have g24 := g2.keep k4 (by simp)
          go_wp2_with fail
          refine (end_c g14).mono ?_
          rintro e w5 ⟨rfl, k5⟩
          have g15 := g14.keep k5 (by simp)
          have g25 := g24.keep k5 (by simp)
          go_wp2_with fail
          refine (end_x g25).mono ?_
          rintro e w6 ⟨rfl, k6⟩
          have g16 := g15.keep k6 (by simp)
          have g26 := g25.keep k6 (by simp)
          go_wp2_with fail
          go_roundw
          case rel => exact ⟨k + 1, by omega, by omega, by go_num, _, _, g16, g26, ((hkp.trans k4).trans k5).trans k6⟩
          case measure => simp [intOf]; omega
      · obtain ⟨at0', e0, g1, g2, hkp⟩ := g
        by_cases hlt : k < l.length
        · have h20 : ¬ k < 20 := fun h => hin ⟨hlt, h⟩
          clear hin
          go_wp2_with fail
          refine (fixed_c (w := wr)).mono ?_
          rintro e w3 ⟨rfl, k3⟩
          go_wp2
          go_ret
          exact ⟨rfl, (hkp.trans k3).below (Nat.le_refl _) (by simp)⟩
        · clear hin
          go_wp2_with fail
          refine (fixed_c (w := wr)).mono ?_
          rintro e w3 ⟨rfl, k3⟩
          go_wp2
          go_ret
          exact ⟨rfl, (hkp.trans k3).below (Nat.le_refl _) (by simp)⟩
end Go.Proofs.Ytkmpefgaoagjjaa
