/-
  NumSums: its walk.
-/
import Derived.Test.YtilkeijoppafcaaNumFixed
import Derived.Test.YtilkeijoppafcaaRefSum
import Derived.Deep.DeepCutAuto
import Derived.Deep.CutBlock
namespace Go.Proofs.Ytilkeijoppafcaa
open Go.RowKit

/-- The number with which bytes begin. -/
def nGet (s : ByteArray) : Nat × Int := if 8 ≤ s.size then (val (s.data.toList.take 8), 0) else (0, 3)
theorem get_any {w : World} (s : ByteArray) : Calls Try.prog 12 #[.string s] w fun e w' => e = .returned (.tuple #[.int .u64 (nGet s).1, .int .i64 (nGet s).2]) ∧ w = w' := by
  by_cases h : 8 ≤ s.size
  · rw [nGet, if_pos h]; exact get_ok s h
  · rw [nGet, if_neg h]; exact get_short s (by omega)
theorem rget_any {w : World} (s : ByteArray) : Calls Try.prog 13 #[.string s] w fun e w' => e = .returned (.tuple #[.int .u64 (nGet s).1, .int .i64 (nGet s).2]) ∧ w = w' := by
  by_cases h : 8 ≤ s.size
  · rw [nGet, if_pos h]; exact rget_ok s h
  · rw [nGet, if_neg h]; exact rget_short s (by omega)

def SumsRel (w0 : World) (len : Nat) (i : Value) (wr : World) : Prop := ∃ k : Nat, k ≤ len ∧ i = .int .i64 k ∧ Keeps [] w0 wr

set_option maxRecDepth 100000 in
set_option maxHeartbeats 10000000 in
theorem numSums_walk {w : World} (a : Option Addr) (cap : Nat) (l : List Nat) (hl : NumsAt w (· < w.heap.size) a l) (hlc : l.length ≤ cap) (hcap : cap ≤ 9223372036854775807) (s : ByteArray) (hs : s.size ≤ 9223372036854775807) (n : Int) (hn : inI64 n) :
    Calls Try.prog 3 #[.slice a l.length cap, .string s, .int .i64 n] w fun e w' => e = .returned (.bool true) ∧ Below w.heap.size w w' := by
  have hsm := hl.small
  go_enter Try.func3, Try.ntmps3
  go_upto_region 1 with fail
  go_cut [0] (fun v0 wx => v0 = .slice a (l.take 60).length cap ∧ wx = w)
  case first =>
    by_cases h : l.length ≤ 60
    · have e : Hid ((l.take 60).length = l.length) := by show _ = _; simp; omega
      go_wp2_with fail
      go_meet
      case rel => exact ⟨by rw [e.out], rfl⟩
    · have e : Hid ((l.take 60).length = 60) := by show _ = _; simp; omega
      go_wp2_with fail
      go_meet
      case rel => exact ⟨by rw [e.out], rfl⟩
  case rest =>
    obtain ⟨rfl, hwx⟩ := hcut
    rw [hwx]
    clear hwx
    have hm := hl.take 60
    have hmc : (l.take 60).length ≤ cap := by simp; omega
    generalize l.take 60 = m at *
    have hms := hm.small
    have S := fun (hx : NumsAt w (· < w.heap.size) a m) => sum_c a cap m hx
    have R := fun (hx : NumsAt w (· < w.heap.size) a m) => rsum_c a cap m hx
    have G := fun w => get_any (w := w) s
    have G' := fun w => rget_any (w := w) s
    have O := fun w => of_c (w := w) n hn
    have Z : (n = ((nOf n).1 : Int) ∧ (nOf n).2 = 0) ∨ (n < 0 ∧ (nOf n).1 = 0 ∧ (nOf n).2 = 2) := by
      by_cases h : 0 ≤ n
      · left; rw [nOf, if_pos h]; exact ⟨(Int.toNat_of_nonneg h).symm, rfl⟩
      · right; rw [nOf, if_neg h]; exact ⟨by omega, rfl, rfl⟩
    generalize (nOf n).1 = z at *
    generalize (nOf n).2 = ze at *
    have hn1 := hn.1
    have hn2 := hn.2
    generalize (nSum m).1 = x at *
    generalize (nSum m).2 = xe at *
    generalize (nGet s).1 = y at *
    generalize (nGet s).2 = ye at *
    go_wp2_with fail
    refine (S hm).mono ?_
    rintro e w' ⟨rfl, rfl⟩
    go_wp2_with fail
    refine (R hm).mono ?_
    rintro e w1 ⟨rfl, k1⟩
    go_wp2_with fail
    refine (G _).mono ?_
    rintro e w' ⟨rfl, rfl⟩
    go_wp2_with fail
    refine (G' _).mono ?_
    rintro e w' ⟨rfl, rfl⟩
    go_wp2_with fail
    refine (O _).mono ?_
    rintro e w' ⟨rfl, rfl⟩
    clear S R G G' O
    go_upto_region 7 with fail
    go_cut [96] (fun v wx => v = .bool false ∧ wx = w1)
    case first =>
      rcases Z with ⟨rfl, rfl⟩ | ⟨h, rfl, rfl⟩
      · have e4 : IntKind.u64.wrap (z : Int) = z := by rw [IntKind.wrap_u64]; omega
        go_wp2_with fail
        go_meet
        case rel => exact ⟨rfl, rfl⟩
      · go_wp2_with fail
        go_meet
        case rel => exact ⟨rfl, rfl⟩
    case rest =>
      obtain ⟨rfl, hwx⟩ := hcut
      rw [hwx]
      clear hwx
      clear Z
      go_wp2_with fail
      go_loopw [17] (fun i wr => SumsRel w m.length i wr) (fun i _ => m.length - (intOf i).toNat)
      case atStart => exact ⟨0, by omega, rfl, k1⟩
      case round =>
        clear k1
        obtain ⟨k, hk, rfl, K⟩ := hrel
        by_cases hlt : k < m.length
        · obtain ⟨b, o, rfl, hp, hc⟩ := (hm.keep K (fun _ _ => by simp)).cell k hlt
          have hv := hm.bound k hlt
          have hsz := K.size
          have hbw : b < wr.heap.size := by omega
          generalize m[k] = v at *
          have I := fun w => int_c (w := w) v hv
          have J : (v < 9223372036854775808 ∧ v = (nInt v).1 ∧ (nInt v).2 = 0) ∨ (9223372036854775808 ≤ v ∧ (nInt v).1 = 0 ∧ (nInt v).2 = 2) := by
            by_cases h : v < 9223372036854775808
            · left; rw [nInt, if_pos h]; exact ⟨h, rfl, rfl⟩
            · right; rw [nInt, if_neg h]; exact ⟨by omega, rfl, rfl⟩
          generalize (nInt v).1 = j at *
          generalize (nInt v).2 = je at *
          have hmz : m.length ≤ 9223372036854775807 := hms
          go_wp2_with fail
          refine (I _).mono ?_
          rintro e w' ⟨rfl, rfl⟩
          clear I
          go_upto_region 13 with fail
          go_cut [144] (fun t wx => t = .bool false ∧ Keeps [] w wx)
          case first =>
            rcases J with ⟨h, rfl, rfl⟩ | ⟨h, rfl, hje⟩
            · have e4 : decide ((v : Int) ≤ 9223372036854775807) = true := by simp; omega
              have e5 : v ≤ 9223372036854775807 := by omega
              have e6 : IntKind.u64.wrap (v : Int) = v := wrap_nat v (by omega)
              go_region_held3 (fun w' => w'.cell? ⟨b, o + k, none⟩ = some (.int .u64 v)) (first | exact hc | exact (k5.cell (by exact hbw) (by simp)).trans hc | exact (k6.cell (Nat.lt_of_lt_of_le hbw k5.size) (by simp)).trans ((k5.cell (by exact hbw) (by simp)).trans hc) | go_keep)
                (first
                  | (go_at_call 16; refine (put_any v hv).mono ?_; rintro e w5 ⟨rfl, k5⟩)
                  | (go_at_call 17; refine (rput_any v hv).mono ?_; rintro e w6 ⟨rfl, k6⟩))
              go_wp2_with fail
              go_meet
              case rel => exact ⟨rfl, (((K.drew).trans k5).trans k6)⟩
            · have e4 : decide ((v : Int) ≤ 9223372036854775807) = false := by simp; omega
              have e5 : 9223372036854775807 < v := by omega
              have e7 : (je == 0) = false := by rw [hje]; rfl
              clear hje
              first
              | (go_region_held3 (fun w' => w'.cell? ⟨b, o + k, none⟩ = some (.int .u64 v)) (first | exact hc | exact (k5.cell (by exact hbw) (by simp)).trans hc | exact (k6.cell (Nat.lt_of_lt_of_le hbw k5.size) (by simp)).trans ((k5.cell (by exact hbw) (by simp)).trans hc) | go_keep)
                (first
                  | (go_at_call 16; refine (put_any v hv).mono ?_; rintro e w5 ⟨rfl, k5⟩)
                  | (go_at_call 17; refine (rput_any v hv).mono ?_; rintro e w6 ⟨rfl, k6⟩)))
              | fail
              all_goals
                first | (go_meet; case rel => exact ⟨rfl, (((K.drew).trans k5).trans k6)⟩) | (go_wp2_with fail; go_meet; case rel => exact ⟨rfl, (((K.drew).trans k5).trans k6)⟩)
          case rest =>
            obtain ⟨rfl, K2⟩ := hcut
            go_wp2_with fail
            go_roundw
            case rel => exact ⟨k + 1, by omega, by go_num, K2⟩
            case measure => simp [intOf]; omega
        · go_wp2_with fail
          refine (fixed_c (w := wr)).mono ?_
          rintro e w3 ⟨rfl, k3⟩
          go_wp2
          go_ret
          exact ⟨rfl, (K.trans k3).below (Nat.le_refl _) (by simp)⟩
end Go.Proofs.Ytilkeijoppafcaa
