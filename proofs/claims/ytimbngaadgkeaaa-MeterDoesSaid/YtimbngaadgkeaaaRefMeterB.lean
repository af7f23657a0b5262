/-
  The reference's Mul, Due and Owed.
-/
import Derived.Test.YtimbngaadgkeaaaRefMeter
namespace Go.Proofs.Ytimbngaadgkeaaa
open Go.RowKit

theorem rmul_c {w : World} (a b : Nat) (ha : a ≤ 18446744073709551615) (_hb : b ≤ 18446744073709551615) :
    Calls Try.prog 32 #[.int .u64 a, .int .u64 b] w fun e w' => e = .returned (.tuple #[.int .u64 (nMul a b).1, .int .i64 (nMul a b).2]) ∧ w = w' := by
  by_cases h0 : a = 0
  · have R : nMul a b = (0, 0) := by rw [nMul, h0, Nat.zero_mul]; rfl
    rw [R]
    subst h0
    clear R
    go_enter Try.func32, Try.ntmps32
    go_wp2
    go_ret2
    exact ⟨rfl, rfl⟩
  · have hp : 0 < a := Nat.pos_of_ne_zero h0
    obtain ⟨d, hd, hd1⟩ : ∃ d : Nat, (18446744073709551615 : Int) / (a : Int) = (d : Int) ∧ d = 18446744073709551615 / a := ⟨18446744073709551615 / a, rfl, rfl⟩
    have hda : a * b < 18446744073709551616 ↔ b ≤ d := by rw [hd1, Nat.le_div_iff_mul_le hp, Nat.mul_comm b a]; omega
    have hn0 : ((a : Int) == 0) = false := by rw [beq_eq_false_iff_ne]; omega
    by_cases h : a * b < 18446744073709551616
    · have R : nMul a b = (a * b, 0) := if_pos h
      have e1 : IntKind.u64.wrap ((a : Int) * (b : Int)) = ((a * b : Nat) : Int) := wrap_nat (a * b) h
      have e2 : b ≤ d := hda.1 h
      have e3 : decide (d < b) = false := by simp; omega
      rw [R]
      clear R hd1 hda h0 h
      generalize a * b = p at *
      go_enter Try.func32, Try.ntmps32
      go_wp2_with fail
      refine (top_c).mono ?_
      rintro e w' ⟨rfl, rfl⟩
      go_wp2
      go_ret2
      exact ⟨rfl, rfl⟩
    · have R : nMul a b = (0, 2) := if_neg h
      have e2 : d < b := by rw [hda] at h; omega
      rw [R]
      clear R hd1 hda h0 h
      go_enter Try.func32, Try.ntmps32
      go_wp2_with fail
      refine (top_c).mono ?_
      rintro e w' ⟨rfl, rfl⟩
      go_wp2
      go_ret2
      exact ⟨rfl, rfl⟩

theorem rdue_c {w : World} (s : Sess) (hs : s.Ok) : Calls Try.prog 16 #[.agg #[.int .u64 s.price, .int .u64 s.limit, .int .u64 s.quota, .int .i64 s.idle, .int .i64 s.state, .int .u64 s.units, .int .i64 s.last]] w fun e w' => e = .returned (.int .u64 (mDue s)) ∧ Keeps [] w w' := by
  have M := fun w => rmul_c (w := w) s.price s.units hs.price hs.units
  have hD : Hid (mDue s = if (nMul s.price s.units).2 = 0 then (nMul s.price s.units).1 else 18446744073709551615) := rfl
  generalize mDue s = z at *
  generalize (nMul s.price s.units).1 = x at *
  generalize (nMul s.price s.units).2 = y at *
  by_cases h : y = 0
  · subst h
    have e : z = x := by rw [hD.out, if_pos rfl]
    subst e
    clear hD
    go_enter Try.func16, Try.ntmps16
    go_wp2_with fail
    refine (M _).mono ?_
    rintro e w' ⟨rfl, rfl⟩
    go_wp2
    go_ret
    exact ⟨rfl, keeps_alloc _ _⟩
  · have e : z = 18446744073709551615 := by rw [hD.out, if_neg h]
    have hb : (y != 0) = true := by simpa using h
    subst e
    clear hD h
    go_enter Try.func16, Try.ntmps16
    go_wp2_with fail
    refine (M _).mono ?_
    rintro e w' ⟨rfl, rfl⟩
    go_wp2
    go_ret
    exact ⟨rfl, keeps_alloc _ _⟩

theorem rowed_c {w : World} (s : Sess) (credit : Nat) (hs : s.Ok) (hc : credit ≤ 18446744073709551615) :
    Calls Try.prog 18 #[.agg #[.int .u64 s.price, .int .u64 s.limit, .int .u64 s.quota, .int .i64 s.idle, .int .i64 s.state, .int .u64 s.units, .int .i64 s.last], .int .u64 credit] w fun e w' => e = .returned (.int .u64 (mOwed s credit)) ∧ Keeps [] w w' := by
  have D := fun w => rdue_c (w := w) s hs
  have hle := mDue_le s
  have hO : Hid (mOwed s credit = mDue s - credit) := rfl
  generalize mOwed s credit = z at *
  generalize mDue s = x at *
  by_cases h : x < credit
  · have e : z = 0 := by rw [hO.out]; omega
    subst e
    clear hO
    go_enter Try.func18, Try.ntmps18
    go_wp2_with fail
    refine (D _).mono ?_
    rintro e w1 ⟨rfl, k1⟩
    go_wp2
    go_ret
    exact ⟨rfl, (keeps_alloc _ _).trans k1⟩
  · obtain ⟨y, hy, hy1⟩ : ∃ y : Nat, (x : Int) - (credit : Int) = (y : Int) ∧ y = x - credit := ⟨x - credit, by omega, rfl⟩
    have e : z = y := by rw [hO.out, hy1]
    have e2 : decide (x < credit) = false := by simp; omega
    subst e
    clear hO hy1
    go_enter Try.func18, Try.ntmps18
    go_wp2_with fail
    refine (D _).mono ?_
    rintro e w1 ⟨rfl, k1⟩
    have h1 := k1.heap (by simp) (heap_alloc_same (w := w))
    obtain ⟨c0, c1, c2, c3, c4, c5, c6⟩ := (⟨(cell_of_heap h1).trans rfl, (cell_of_heap h1).trans rfl, (cell_of_heap h1).trans rfl, (cell_of_heap h1).trans rfl, (cell_of_heap h1).trans rfl, (cell_of_heap h1).trans rfl, (cell_of_heap h1).trans rfl⟩ :
      w1.cell? ⟨w.heap.size, 0, none⟩ = some (.int .u64 s.price) ∧ w1.cell? ⟨w.heap.size, 1, none⟩ = some (.int .u64 s.limit) ∧ w1.cell? ⟨w.heap.size, 2, none⟩ = some (.int .u64 s.quota) ∧ w1.cell? ⟨w.heap.size, 3, none⟩ = some (.int .i64 s.idle) ∧
      w1.cell? ⟨w.heap.size, 4, none⟩ = some (.int .i64 s.state) ∧ w1.cell? ⟨w.heap.size, 5, none⟩ = some (.int .u64 s.units) ∧ w1.cell? ⟨w.heap.size, 6, none⟩ = some (.int .i64 s.last))
    go_wp2_with fail
    refine (D _).mono ?_
    rintro e w2 ⟨rfl, k2⟩
    go_wp2
    go_ret
    exact ⟨rfl, ((keeps_alloc _ _).trans k1).trans k2⟩
end Go.Proofs.Ytimbngaadgkeaaa
