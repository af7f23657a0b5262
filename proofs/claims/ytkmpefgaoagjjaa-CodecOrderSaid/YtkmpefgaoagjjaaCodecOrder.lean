/-
  CodecOrder: its walk.
-/
import Derived.Test.YtkmpefgaoagjjaaOrderPlain
import Derived.Test.YtkmpefgaoagjjaaCodecFixed
import Derived.Test.YtkmpefgaoagjjaaCodecParts
namespace Go.Proofs.Ytkmpefgaoagjjaa
open Go.RowKit

theorem wNum0 (n : Nat) : wNum (⟨#[]⟩, 0) n = (putB n, 0) := by
  show (ByteArray.empty ++ putB n, (0 : Int)) = _
  rw [ByteArray.empty_append]
theorem wBlob0 (z : ByteArray) (h : z.size ≤ 300) : wBlob (⟨#[]⟩, 0) z = (blobB z, 0) := by
  have e : decide ((z.size : Int) ≤ 4096) = true := by simp; omega
  unfold wBlob wPut
  rw [e, if_pos rfl]
  show (ByteArray.empty ++ blobB z, (0 : Int)) = _
  rw [ByteArray.empty_append]
def lessB (p q : ByteArray) : Bool := decide (p.size < q.size) || (decide (p.size = q.size) && Op.bytesLess p.toList q.toList)
theorem blobB_be (p : ByteArray) : (blobB p).toList = be 2 p.size ++ p.toList := by
  rw [ByteArray.toList_eq, ByteArray.toList_eq, blobB, ByteArray.toList_data_append, strOfNums_data]
  have e : ∀ n : Nat, (((n : Int) / 256 % 256).toNat) = n / 256 % 256 := fun n => by omega
  have e' : ∀ n : Nat, (((n : Int) % 256).toNat) = n % 256 := fun n => by omega
  simp only [List.map_cons, List.map_nil, be, Nat.pow_one, Nat.pow_zero, Nat.div_one, e, e', ofNat_mod]
theorem blobB_less (p q : ByteArray) (hp : p.size ≤ 300) (hq : q.size ≤ 300) : Op.bytesLess (blobB p).toList (blobB q).toList = lessB p q := by
  rw [blobB_be, blobB_be, bytesLess_be, lessB, Nat.mod_eq_of_lt (by omega), Nat.mod_eq_of_lt (by omega)]

set_option maxRecDepth 100000 in
set_option maxHeartbeats 40000000 in
theorem codecOrder_walk {w : World} (a b : Nat) (ha : a ≤ 18446744073709551615) (hb : b ≤ 18446744073709551615) (s t : ByteArray) (hs : s.size ≤ 9223372036854775807) (ht : t.size ≤ 9223372036854775807) :
    Calls Try.prog 8 #[.agg #[.int .u64 a, .int .u64 b], .agg #[.string s, .string t]] w fun e w' => e = .returned (.bool true) ∧ Below w.heap.size w w' := by
  go_enter Try.func8, Try.ntmps8
  go_upto_region 1 with fail
  go_cut [5, 6, 7, 8] (fun v5 v6 v7 v8 wx => v5 = .int .u64 a ∧ v6 = .int .u64 b ∧ v7 = .string s ∧ v8 = .string t ∧ Keeps [] w wx)
  case first =>
    go_region
    go_wp2_with fail
    go_meet
    case rel => exact ⟨rfl, rfl, rfl, rfl, (((Keeps.refl _ _).alloc _).alloc _).drew⟩
  case rest =>
    obtain ⟨rfl, rfl, rfl, rfl, K1⟩ := hcut
    go_upto_region 3 with fail
    obtain ⟨w2, hw2⟩ : ∃ w2, w2 = (((wc.alloc (.cells #[.string ⟨#[]⟩, .int .i64 0] 27)).alloc (.cells #[.string ⟨#[]⟩, .int .i64 0] 27)).alloc (.cells #[.string ⟨#[]⟩, .int .i64 0] 27)).alloc (.cells #[.string ⟨#[]⟩, .int .i64 0] 27) := ⟨_, rfl⟩
    rw [← hw2]
    have K2 : Keeps [] w w2 := by rw [hw2]; exact (((K1.alloc _).alloc _).alloc _).alloc _
    obtain ⟨X, hX⟩ : ∃ X, X = wc.heap.size := ⟨_, rfl⟩
    rw [← hX]
    have hXw : w.heap.size ≤ X := by have := K1.size; omega
    have x2 : WAt 27 w2 X (⟨#[]⟩, 0) := ⟨by rw [hw2, heap_alloc_old (by simp; omega), heap_alloc_old (by simp; omega), heap_alloc_old (by simp; omega)]; exact heap_alloc_at hX⟩
    have y2 : WAt 27 w2 (X + 1) (⟨#[]⟩, 0) := ⟨by rw [hw2, heap_alloc_old (by simp; omega), heap_alloc_old (by simp; omega)]; exact heap_alloc_at (by simp; omega)⟩
    have u2 : WAt 27 w2 (X + 2) (⟨#[]⟩, 0) := ⟨by rw [hw2, heap_alloc_old (by simp; omega)]; exact heap_alloc_at (by simp; omega)⟩
    have v2 : WAt 27 w2 (X + 3) (⟨#[]⟩, 0) := ⟨by rw [hw2]; exact heap_alloc_at (by simp; omega)⟩
    clear hw2 hX K1
    go_cut [13, 14] (fun v13 v14 wx => v13 = .string (cutS 300 s) ∧ v14 = .string (cutS 300 t) ∧ Keeps [] w2 wx)
    case first =>
      have arm : ∀ (x : ByteArray), x.size ≤ 300 → Hid (x = cutS 300 x) := fun x h => cutS_small h
      have arm2 : ∀ (x : ByteArray), ¬ x.size ≤ 300 → Hid (x.extract 0 300 = cutS 300 x) := fun x h => cutS_big h
      by_cases h1 : s.size ≤ 300
      · have E1 := arm s h1
        by_cases h2 : t.size ≤ 300
        · have E2 := arm t h2
          go_region
          go_wp2_with fail
          go_meet
          case rel => exact ⟨ret_string_eq E1.out, ret_string_eq E2.out, (Keeps.refl _ _).drew⟩
        · have E2 := arm2 t h2
          have h2' : 300 < t.size := by omega
          go_region
          go_wp2_with fail
          go_meet
          case rel => exact ⟨ret_string_eq E1.out, ret_string_eq E2.out, (Keeps.refl _ _).drew⟩
      · have E1 := arm2 s h1
        have h1' : 300 < s.size := by omega
        by_cases h2 : t.size ≤ 300
        · have E2 := arm t h2
          go_region
          go_wp2_with fail
          go_meet
          case rel => exact ⟨ret_string_eq E1.out, ret_string_eq E2.out, (Keeps.refl _ _).drew⟩
        · have E2 := arm2 t h2
          have h2' : 300 < t.size := by omega
          go_region
          go_wp2_with fail
          go_meet
          case rel => exact ⟨ret_string_eq E1.out, ret_string_eq E2.out, (Keeps.refl _ _).drew⟩
    case rest =>
      obtain ⟨rfl, rfl, K3⟩ := hcut
      have hp3 : (cutS 300 s).size ≤ 300 := by rw [size_cutS]; omega
      have hq3 : (cutS 300 t).size ≤ 300 := by rw [size_cutS]; omega
      generalize cutS 300 s = p at *
      generalize cutS 300 t = q at *
      have eN := wNum0
      have eB := wBlob0
      have x3 := x2.keep K3 (by simp)
      have y3 := y2.keep K3 (by simp)
      have u3 := u2.keep K3 (by simp)
      have v3 := v2.keep K3 (by simp)
      have M3 := K2.trans K3
      clear x2 y2 u2 v2 K2 K3
      have r4 := num_w x3 a ha (by decide)
      rw [eN] at r4
      go_wp2_with fail
      refine r4.mono ?_
      rintro e w4 ⟨rfl, x4, k4⟩
      have y4 := y3.keep k4 (by simp)
      have u4 := u3.keep k4 (by simp)
      have v4 := v3.keep k4 (by simp)
      have M4 := M3.step k4 hXw
      clear x3 y3 u3 v3 M3 k4 r4
      have r5 := num_w y4 b hb (by decide)
      rw [eN] at r5
      go_wp2_with fail
      refine r5.mono ?_
      rintro e w5 ⟨rfl, y5, k5⟩
      have x5 := x4.keep k5 (by simp)
      have u5 := u4.keep k5 (by simp)
      have v5 := v4.keep k5 (by simp)
      have M5 := M4.step k5 (by omega)
      clear x4 y4 u4 v4 M4 k5 r5
      have r6 := blob_w u5 p (by decide) (by omega)
      rw [eB p hp3] at r6
      go_wp2_with fail
      refine r6.mono ?_
      rintro e w6 ⟨rfl, u6, k6⟩
      have x6 := x5.keep k6 (by simp)
      have y6 := y5.keep k6 (by simp)
      have v6 := v5.keep k6 (by simp)
      have M6 := M5.step k6 (by omega)
      clear x5 y5 u5 v5 M5 k6 r6
      have r7 := blob_w v6 q (by decide) (by omega)
      rw [eB q hq3] at r7
      go_wp2_with fail
      refine r7.mono ?_
      rintro e w7 ⟨rfl, v7, k7⟩
      have x7 := x6.keep k7 (by simp)
      have y7 := y6.keep k7 (by simp)
      have u7 := u6.keep k7 (by simp)
      have M7 := M6.step k7 (by omega)
      clear x6 y6 u6 v6 M6 k7 r7 eN eB
      go_upto_region 8 with fail
      go_cut [15] (fun v15 wx => v15 = .bool (lessB p q) ∧ wx = w7)
      case first =>
        rcases Nat.lt_trichotomy p.size q.size with h | h | h
        · have R : Hid (lessB p q = true) := by simp [Hid, lessB, h]
          go_wp2_with fail
          go_meet
          case rel => exact ⟨by rw [R.out], rfl⟩
        · have R : Hid (lessB p q = Op.bytesLess p.toList q.toList) := by simp [Hid, lessB, h]
          have h1 : ((p.size : Int) == (q.size : Int)) = true := by simp [h]
          have h2 : ¬ p.size < q.size := by omega
          clear h
          go_wp2_with fail
          go_meet
          case rel => exact ⟨by rw [R.out], rfl⟩
        · have R : Hid (lessB p q = false) := by
            have h1 : ¬ p.size < q.size := by omega
            have h2 : ¬ p.size = q.size := by omega
            simp [Hid, lessB, h1, h2]
          have h1 : ((p.size : Int) == (q.size : Int)) = false := by simp; omega
          have h3 : decide (p.size < q.size) = false := by simp; omega
          go_wp2_with fail
          go_meet
          case rel => exact ⟨by rw [R.out], rfl⟩
      case rest =>
        obtain ⟨rfl, hwx⟩ := hcut
        rw [hwx]
        clear hwx
        have cl := blobB_less p q hp3 hq3
        have cn := putB_less a b ha hb
        have ce := putB_same a b ha hb
        have rx := text_w x7
        have ry := text_w y7
        have ru := text_w u7
        have rv := text_w v7
        have re := err_w u7
        rw [show wText (putB a, 0) = putB a from rfl] at rx
        rw [show wText (putB b, 0) = putB b from rfl] at ry
        rw [show wText (blobB p, 0) = blobB p from rfl] at ru
        rw [show wText (blobB q, 0) = blobB q from rfl] at rv
        generalize putB a = A at *
        generalize putB b = B at *
        generalize blobB p = P at *
        generalize blobB q = Q at *
        generalize lessB p q = L at *
        go_wp2_with fail
        refine rx.mono ?_
        rintro e w8 ⟨rfl, rfl⟩
        go_wp2_with fail
        refine ry.mono ?_
        rintro e w8 ⟨rfl, rfl⟩
        go_wp2_with fail
        refine ru.mono ?_
        rintro e w8 ⟨rfl, rfl⟩
        go_wp2_with fail
        refine rv.mono ?_
        rintro e w8 ⟨rfl, rfl⟩
        go_wp2_with fail
        refine rx.mono ?_
        rintro e w8 ⟨rfl, rfl⟩
        go_wp2_with fail
        refine ry.mono ?_
        rintro e w8 ⟨rfl, rfl⟩
        go_wp2_with fail
        refine re.mono ?_
        rintro e w8 ⟨rfl, rfl⟩
        go_wp2_with fail
        refine (fixed_c (w := w7)).mono ?_
        rintro e w9 ⟨rfl, k9⟩
        go_wp2
        go_ret
        exact ⟨rfl, (M7.trans k9).below (Nat.le_refl _) (by simp)⟩
end Go.Proofs.Ytkmpefgaoagjjaa
