/-
  A session that can be: the laws' own helper.
-/
import Derived.Test.YtimbngaadgkeaaaMeterMostC
namespace Go.Proofs.Ytimbngaadgkeaaa
open Go.RowKit

structure Tame (t : Sess) : Prop where
  p1 : 1 ≤ t.price
  p2 : t.price ≤ 4294967296
  l2 : t.limit ≤ 4611686018427387904
  q1 : 1 ≤ t.quota
  q2 : t.quota ≤ 4294967296
  i1 : 1 ≤ t.idle
  i2 : t.idle ≤ 65536
  u2 : t.units ≤ t.quota
  n1 : 0 ≤ t.last
  n2 : t.last ≤ 4294967295
  st : inI64 t.state
theorem Tame.ok {t : Sess} (h : Tame t) : t.Ok := by
  obtain ⟨h1, h2, h3, h4, h5, h6, h7, h8, h9, h10, h11⟩ := h
  exact ⟨by omega, by omega, by omega, ⟨by omega, by omega⟩, h11, by omega, ⟨by omega, by omega⟩⟩

set_option maxHeartbeats 4000000 in
theorem tame_c {w : World} (s : Sess) (hs : s.Ok) :
    Calls Try.prog 20 #[.agg #[.int .u64 s.price, .int .u64 s.limit, .int .u64 s.quota, .int .i64 s.idle, .int .i64 s.state, .int .u64 s.units, .int .i64 s.last]] w fun e w' => ∃ t : Sess, e = .returned (.agg #[.int .u64 t.price, .int .u64 t.limit, .int .u64 t.quota, .int .i64 t.idle, .int .i64 t.state, .int .u64 t.units, .int .i64 t.last]) ∧ Tame t ∧ t.state = s.state ∧ Keeps [] w w' := by
  obtain ⟨h1, h2, h3, h4, h5, h6, h7⟩ := hs
  obtain ⟨price, limit, quota, idle, state, units, last⟩ := s
  dsimp only at *
  obtain ⟨pm, e1, b1⟩ : ∃ x : Nat, (price : Int) % 4294967296 = (x : Int) ∧ x < 4294967296 := ⟨price % 4294967296, rfl, Nat.mod_lt _ (by decide)⟩
  obtain ⟨p, e2, b2⟩ : ∃ x : Nat, (1 : Int) + (pm : Int) = (x : Int) ∧ x = 1 + pm := ⟨1 + pm, by omega, rfl⟩
  obtain ⟨lm, e3, b3⟩ : ∃ x : Nat, (limit : Int) % 4611686018427387905 = (x : Int) ∧ x < 4611686018427387905 := ⟨limit % 4611686018427387905, rfl, Nat.mod_lt _ (by decide)⟩
  obtain ⟨qm, e4, b4⟩ : ∃ x : Nat, (quota : Int) % 4294967296 = (x : Int) ∧ x < 4294967296 := ⟨quota % 4294967296, rfl, Nat.mod_lt _ (by decide)⟩
  obtain ⟨q, e5, b5⟩ : ∃ x : Nat, (1 : Int) + (qm : Int) = (x : Int) ∧ x = 1 + qm := ⟨1 + qm, by omega, rfl⟩
  obtain ⟨im, e6, b6⟩ := i64_and idle 65535 (by decide)
  have e6' : bits BinOp.and IntKind.i64 idle 65535 = (im : Int) := e6
  obtain ⟨i, e7, b7⟩ : ∃ x : Int, (1 : Int) + (im : Int) = x ∧ x = 1 + (im : Int) := ⟨_, rfl, rfl⟩
  obtain ⟨qq, e8, b8⟩ : ∃ x : Nat, (q : Int) + 1 = (x : Int) ∧ x = q + 1 := ⟨q + 1, by omega, rfl⟩
  obtain ⟨u, e9, b9⟩ : ∃ x : Nat, (units : Int) % (qq : Int) = (x : Int) ∧ x < qq := ⟨units % qq, rfl, Nat.mod_lt _ (by omega)⟩
  obtain ⟨n, e10, b10⟩ := i64_and last 4294967295 (by decide)
  have e10' : bits BinOp.and IntKind.i64 last 4294967295 = (n : Int) := e10
  have hqq : ((qq : Int) == 0) = false := by rw [beq_eq_false_iff_ne]; omega
  have hqp : 0 < qq := by omega
  have T : Hid (Tame ⟨p, lm, q, i, state, u, n⟩) := ⟨by show 1 ≤ p; omega, by show p ≤ _; omega, by show lm ≤ _; omega, by show 1 ≤ q; omega, by show q ≤ _; omega, by show 1 ≤ i; omega, by show i ≤ _; omega, by show u ≤ q; omega, by show (0 : Int) ≤ n; omega, by show (n : Int) ≤ _; omega, h5⟩
  have m1 : p < 18446744073709551616 := by omega
  have m2 : q < 18446744073709551615 := by omega
  clear e6 e10 b2 b5 b7 b8
  go_enter Try.func20, Try.ntmps20
  go_wp2
  refine bodyPost_ret (v := .agg #[.int .u64 p, .int .u64 lm, .int .u64 q, .int .i64 i, .int .i64 state, .int .u64 u, .int .i64 n]) (by simp [results, Try.results20, go_sem]) rfl ⟨⟨p, lm, q, i, state, u, n⟩, rfl, T.out, rfl, ?_⟩
  exact ((Keeps.refl _ _).alloc _).alloc _
end Go.Proofs.Ytimbngaadgkeaaa
