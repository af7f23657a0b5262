/-
  A session, and pairs, read off a law's argument.
-/
import Derived.Test.YtimbngaadgkeaaaLiftPair
import Derived.Test.YtimbngaadgkeaaaSess
namespace Go.Proofs.Ytimbngaadgkeaaa
open Go.ChangeShapes Go.WideShapes Go.ChangeAt Go.RowKit Go.Deep

section
variable {H : Type} {enc : TypeId × Value → H} {W : World}
theorem inU64_of_wf {n : Int} (h : (Lit.int .u64 n).wf = true) : 0 ≤ n ∧ n ≤ 18446744073709551615 := by
  simpa [Lit.wf, IntKind.min, IntKind.max, IntKind.signed, IntKind.bits] using h
theorem inU16_of_wf {n : Int} (h : (Lit.int .u16 n).wf = true) : 0 ≤ n ∧ n ≤ 65535 := by
  simpa [Lit.wf, IntKind.min, IntKind.max, IntKind.signed, IntKind.bits] using h
theorem inU32_of_wf {n : Int} (h : (Lit.int .u32 n).wf = true) : 0 ≤ n ∧ n ≤ 4294967295 := by
  simpa [Lit.wf, IntKind.min, IntKind.max, IntKind.signed, IntKind.bits] using h
theorem arg_u64 {v : Value} {d : DataW H} {ps : List MemPlace} (hok : ∃ base, Value.okWide Try.prog W .any base 22 v) (h : DataW.Trod enc Try.prog W 0 (fun _ => true) true 22 v d ps) : ∃ n : Nat, v = .int .u64 n ∧ n ≤ 18446744073709551615 := by
  obtain ⟨base, hok⟩ := hok
  obtain ⟨a0, rfl, rfl, rfl, w0⟩ := open_int Try.underlying22 hok h
  have hx := inU64_of_wf w0
  exact ⟨a0.toNat, by rw [Int.toNat_of_nonneg hx.1], by omega⟩

theorem sessFields : ∃ fs : Array Field, Try.prog.underlying 24 = some (.struct fs) ∧ oneCellFields Try.prog fs = true ∧ fs.size = 7 ∧ Try.prog.cellsOf 24 = 7 ∧ (fs[0]?).map (·.type) = some 22 ∧ (fs[1]?).map (·.type) = some 22 ∧ (fs[2]?).map (·.type) = some 22 ∧
    (fs[3]?).map (·.type) = some 3 ∧ (fs[4]?).map (·.type) = some 3 ∧ (fs[5]?).map (·.type) = some 22 ∧ (fs[6]?).map (·.type) = some 3 :=
  ⟨_, Try.underlying24, by kernel_rfl, by kernel_rfl, by kernel_rfl, by kernel_rfl, by kernel_rfl, by kernel_rfl, by kernel_rfl, by kernel_rfl, by kernel_rfl, by kernel_rfl⟩

theorem arg_sess {v : Value} {d : DataW H} {ps : List MemPlace} (hok : ∃ base, Value.okWide Try.prog W .any base 24 v) (h : DataW.Trod enc Try.prog W 0 (fun _ => true) true 24 v d ps) :
    ∃ s : Sess, v = .agg #[.int .u64 s.price, .int .u64 s.limit, .int .u64 s.quota, .int .i64 s.idle, .int .i64 s.state, .int .u64 s.units, .int .i64 s.last] ∧ s.Ok := by
  obtain ⟨base, hok⟩ := hok
  obtain ⟨fs, hu, hone, hsz, hc, f0, f1, f2, f3, f4, f5, f6⟩ := sessFields
  obtain ⟨cs, rfl, hcs⟩ := okWide_struct hu hok
  rw [hc] at hcs
  obtain ⟨fuel, hf⟩ := h
  obtain ⟨ys, k, _, _, hlen, _, hfield⟩ := DataW.trod_struct hu hf
  have get : ∀ (j : Nat) t (hj : j < 7), (fs[j]?).map (·.type) = some t → ∃ y, DataW.trod enc Try.prog W 0 (fun _ => true) true k t [cs[j]'(by omega)] = some y := by
    intro j t hj ht
    obtain ⟨f, hfj, rfl⟩ := Option.map_eq_some_iff.1 ht
    obtain ⟨hoff, hcnt⟩ := hone_of hone j f hfj
    have hread := hfield j f hfj
    have hjc : j < (Value.agg cs).cells.toList.length := by simp [Value.cells]; omega
    have hcut : (((Value.agg cs).cells.toList).drop f.offset).take (Try.prog.cellsOf f.type) = [cs[j]'(by omega)] := by
      rw [hoff, hcnt, List.drop_eq_getElem_cons hjc, List.take_succ_cons, List.take_zero]
      simp [Value.cells]
    rw [hcut] at hread
    have hyj : j < ys.length := by omega
    exact ⟨ys[j], by rw [hread]; exact List.getElem?_eq_getElem hyj⟩
  obtain ⟨y0, t0⟩ := get 0 _ (by omega) f0
  obtain ⟨y1, t1⟩ := get 1 _ (by omega) f1
  obtain ⟨y2, t2⟩ := get 2 _ (by omega) f2
  obtain ⟨y3, t3⟩ := get 3 _ (by omega) f3
  obtain ⟨y4, t4⟩ := get 4 _ (by omega) f4
  obtain ⟨y5, t5⟩ := get 5 _ (by omega) f5
  obtain ⟨y6, t6⟩ := get 6 _ (by omega) f6
  obtain ⟨x0, e0, _, w0⟩ := DataW.trod_int Try.underlying22 t0
  obtain ⟨x1, e1, _, w1⟩ := DataW.trod_int Try.underlying22 t1
  obtain ⟨x2, e2, _, w2⟩ := DataW.trod_int Try.underlying22 t2
  obtain ⟨x3, e3, _, w3⟩ := DataW.trod_int Try.underlying3 t3
  obtain ⟨x4, e4, _, w4⟩ := DataW.trod_int Try.underlying3 t4
  obtain ⟨x5, e5, _, w5⟩ := DataW.trod_int Try.underlying22 t5
  obtain ⟨x6, e6, _, w6⟩ := DataW.trod_int Try.underlying3 t6
  simp only [List.cons.injEq, and_true] at e0 e1 e2 e3 e4 e5 e6
  have b0 := inU64_of_wf w0
  have b1 := inU64_of_wf w1
  have b2 := inU64_of_wf w2
  have b5 := inU64_of_wf w5
  refine ⟨⟨x0.toNat, x1.toNat, x2.toNat, x3, x4, x5.toNat, x6⟩, ?_, ⟨by show x0.toNat ≤ _; omega, by show x1.toNat ≤ _; omega, by show x2.toNat ≤ _; omega, inI64_of_wf w3, inI64_of_wf w4, by show x5.toNat ≤ _; omega, inI64_of_wf w6⟩⟩
  dsimp only
  rw [Int.toNat_of_nonneg b0.1, Int.toNat_of_nonneg b1.1, Int.toNat_of_nonneg b2.1, Int.toNat_of_nonneg b5.1, ← e0, ← e1, ← e2, ← e3, ← e4, ← e5, ← e6]
  congr 1
  apply Array.ext
  · simpa using hcs
  · intro i h1 h2
    match i, h2 with
    | 0, _ => rfl
    | 1, _ => rfl
    | 2, _ => rfl
    | 3, _ => rfl
    | 4, _ => rfl
    | 5, _ => rfl
    | 6, _ => rfl

theorem arg_u16x2 {v : Value} {d : DataW H} {ps : List MemPlace} (hok : ∃ base, Value.okWide Try.prog W .any base 57 v) (h : DataW.Trod enc Try.prog W 0 (fun _ => true) true 57 v d ps) :
    ∃ a b : Nat, v = .agg #[.int .u16 a, .int .u16 b] ∧ a ≤ 65535 ∧ b ≤ 65535 := by
  obtain ⟨c0, c1, n, y0, y1, rfl, h0, h1⟩ := arg_pair Try.underlying57 (by kernel_rfl) (by kernel_rfl) hok h
  obtain ⟨x0, e0, _, w0⟩ := DataW.trod_int Try.underlying56 h0
  obtain ⟨x1, e1, _, w1⟩ := DataW.trod_int Try.underlying56 h1
  simp only [List.cons.injEq, and_true] at e0 e1
  subst e0 e1
  have b0 := inU16_of_wf w0
  have b1 := inU16_of_wf w1
  exact ⟨x0.toNat, x1.toNat, by rw [Int.toNat_of_nonneg b0.1, Int.toNat_of_nonneg b1.1], by omega, by omega⟩
theorem arg_u64x2 {v : Value} {d : DataW H} {ps : List MemPlace} (hok : ∃ base, Value.okWide Try.prog W .any base 25 v) (h : DataW.Trod enc Try.prog W 0 (fun _ => true) true 25 v d ps) :
    ∃ a b : Nat, v = .agg #[.int .u64 a, .int .u64 b] ∧ a ≤ 18446744073709551615 ∧ b ≤ 18446744073709551615 := by
  obtain ⟨c0, c1, n, y0, y1, rfl, h0, h1⟩ := arg_pair Try.underlying25 (by kernel_rfl) (by kernel_rfl) hok h
  obtain ⟨x0, e0, _, w0⟩ := DataW.trod_int Try.underlying22 h0
  obtain ⟨x1, e1, _, w1⟩ := DataW.trod_int Try.underlying22 h1
  simp only [List.cons.injEq, and_true] at e0 e1
  subst e0 e1
  have b0 := inU64_of_wf w0
  have b1 := inU64_of_wf w1
  exact ⟨x0.toNat, x1.toNat, by rw [Int.toNat_of_nonneg b0.1, Int.toNat_of_nonneg b1.1], by omega, by omega⟩
end
end Go.Proofs.Ytimbngaadgkeaaa
