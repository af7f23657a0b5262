/-
  The contract of package meter's Most.
-/
import Derived.Test.YtimbngaadgkeaaaMeterGrant
import Derived.Test.YtimbngaadgkeaaaMeterPlain
import Derived.WalkMore
import Derived.ScopeJumps
namespace Go.Proofs.Ytimbngaadgkeaaa
open Go.RowKit

theorem mMost_le (s : Sess) (credit : Nat) : mMost s credit ≤ 4294967296 := by
  unfold mMost
  split
  · omega
  split
  · omega
  split
  · omega
  · omega

theorem most_step {w w1 w2 : World} {s : Sess} {o : Obj} (K : Keeps [] w w1) (hB : w1.heap[w.heap.size]? = some (.cells #[.int .u64 s.price, .int .u64 s.limit, .int .u64 s.quota, .int .i64 s.idle, .int .i64 s.state, .int .u64 s.units, .int .i64 s.last] 24 (0, 0))) (k : Keeps [] w1 w2) : Keeps [] w (w2.alloc o) ∧ (w2.alloc o).heap[w.heap.size]? = some (.cells #[.int .u64 s.price, .int .u64 s.limit, .int .u64 s.quota, .int .i64 s.idle, .int .i64 s.state, .int .u64 s.units, .int .i64 s.last] 24 (0, 0)) :=
  ⟨(K.trans k).alloc _, by have h := k.heap (by simp) hB; rw [heap_alloc_old (lt_of_heap h)]; exact h⟩
theorem sess_facts {w : World} {B : Nat} {s : Sess} (h : w.heap[B]? = some (.cells #[.int .u64 s.price, .int .u64 s.limit, .int .u64 s.quota, .int .i64 s.idle, .int .i64 s.state, .int .u64 s.units, .int .i64 s.last] 24 (0, 0))) :
    w.cell? ⟨B, 0, none⟩ = some (.int .u64 s.price) ∧ w.cell? ⟨B, 1, none⟩ = some (.int .u64 s.limit) ∧ w.cell? ⟨B, 2, none⟩ = some (.int .u64 s.quota) ∧ w.cell? ⟨B, 3, none⟩ = some (.int .i64 s.idle) ∧
    w.cell? ⟨B, 4, none⟩ = some (.int .i64 s.state) ∧ w.cell? ⟨B, 5, none⟩ = some (.int .u64 s.units) ∧ w.cell? ⟨B, 6, none⟩ = some (.int .i64 s.last) :=
  ⟨(cell_of_heap h).trans rfl, (cell_of_heap h).trans rfl, (cell_of_heap h).trans rfl, (cell_of_heap h).trans rfl, (cell_of_heap h).trans rfl, (cell_of_heap h).trans rfl, (cell_of_heap h).trans rfl⟩

/-- The search between two numbers. -/
def MostAt (w : World) (s : Sess) (credit : Nat) (a : Act) (w' : World) : Prop :=
  Keeps [] w w' ∧ w'.heap[w.heap.size]? = some (.cells #[.int .u64 s.price, .int .u64 s.limit, .int .u64 s.quota, .int .i64 s.idle, .int .i64 s.state, .int .u64 s.units, .int .i64 s.last] 24 (0, 0)) ∧ ∃ (lo hi : Nat) (u3 u7 u8 u9 u10 u11 u12 u13 u14 u15 u16 u17 u18 u19 u20 u21 u22 u23 u24 u25 u26 u27 u28 u29 u30 u31 u32 u33 : Value), lo ≤ mMost s credit ∧ mMost s credit < hi ∧ hi ≤ 4294967297 ∧
    a = { tmps := #[.agg #[.int .u64 s.price, .int .u64 s.limit, .int .u64 s.quota, .int .i64 s.idle, .int .i64 s.state, .int .u64 s.units, .int .i64 s.last], .int .u64 credit, .pointer (some ⟨w.heap.size, 0, none⟩), u3, .int .u64 0, .int .u64 lo, .int .u64 hi, u7, u8, u9, u10, u11, u12, u13, u14, u15, u16, u17, u18, u19, u20, u21, u22, u23, u24, u25, u26, u27, u28, u29, u30, u31, u32, u33], defers := [] }

set_option maxRecDepth 100000 in
set_option maxHeartbeats 4000000 in
theorem most_c {w : World} (s : Sess) (credit : Nat) (hs : s.Ok) (hc : credit ≤ 18446744073709551615) :
    Calls Try.prog 21 #[.agg #[.int .u64 s.price, .int .u64 s.limit, .int .u64 s.quota, .int .i64 s.idle, .int .i64 s.state, .int .u64 s.units, .int .i64 s.last], .int .u64 credit] w fun e w' => e = .returned (.int .u64 (mMost s credit)) ∧ Keeps [] w w' := by
  have hX := mMost_le s credit
  have hI := fun n => (grant_iff s n credit s.last).trans (most_iff s n credit hs.quota)
  go_enter Try.func21, Try.ntmps21
  go_wp2
  refine wp_scope_jumps 0 (fun a' w' => MostAt w s credit a' w') (fun a' _ => (intOf (a'.tmps.getD 6 undef) - intOf (a'.tmps.getD 5 undef)).toNat) rfl ?_ ?_
  · have G := fun w => grant_c (w := w) s 2147483648 credit s.last hs (by decide) hc hs.last
    have hg := hI 2147483648
    generalize (mGrant s 2147483648 credit s.last).1 = r at *
    generalize hge : (mGrant s 2147483648 credit s.last).2 = ge at *
    clear hge
    by_cases hm : 2147483648 ≤ mMost s credit
    · obtain rfl : ge = 0 := hg.2 ⟨by omega, hm⟩
      clear hg
      go_wp2
      go_step3
      go_wp2_with fail
      refine (G _).mono ?_
      rintro e w1 ⟨rfl, k1⟩
      go_wp2_with fail
      go_step3
      have S := most_step (o := .cells #[.int .u64 r.price, .int .u64 r.limit, .int .u64 r.quota, .int .i64 r.idle, .int .i64 r.state, .int .u64 r.units, .int .i64 r.last] 24) (keeps_alloc w (.cells #[.int .u64 s.price, .int .u64 s.limit, .int .u64 s.quota, .int .i64 s.idle, .int .i64 s.state, .int .u64 s.units, .int .i64 s.last] 24)) heap_alloc_same k1
      exact ⟨rfl, S.1, S.2, 2147483648, 4294967297, _, _, _, _, _, _, _, _, _, _, _, _, _, _, _, _, _, _, _, _, _, _, _, _, _, _, _, _, hm, by omega, by omega, rfl⟩
    · have hne : ge ≠ 0 := fun h => hm (hg.1 h).2
      have hb : (ge == 0) = false := by simpa using hne
      clear hg hne
      go_wp2
      go_step3
      go_wp2_with fail
      refine (G _).mono ?_
      rintro e w1 ⟨rfl, k1⟩
      go_wp2_with fail
      go_step3
      have S := most_step (o := .cells #[.int .u64 r.price, .int .u64 r.limit, .int .u64 r.quota, .int .i64 r.idle, .int .i64 r.state, .int .u64 r.units, .int .i64 r.last] 24) (keeps_alloc w (.cells #[.int .u64 s.price, .int .u64 s.limit, .int .u64 s.quota, .int .i64 s.idle, .int .i64 s.state, .int .u64 s.units, .int .i64 s.last] 24)) heap_alloc_same k1
      exact ⟨rfl, S.1, S.2, 0, 2147483648, _, _, _, _, _, _, _, _, _, _, _, _, _, _, _, _, _, _, _, _, _, _, _, _, _, _, _, _, by omega, by omega, by omega, rfl⟩
  · rintro a' w' ⟨K, hB, lo, hi, u3, u7, u8, u9, u10, u11, u12, u13, u14, u15, u16, u17, u18, u19, u20, u21, u22, u23, u24, u25, u26, u27, u28, u29, u30, u31, u32, u33, h1, h2, h3, rfl⟩
    obtain ⟨c0, c1, c2, c3, c4, c5, c6⟩ := sess_facts hB
    obtain ⟨d, hd, hd1⟩ : ∃ d : Nat, (hi : Int) - (lo : Int) = (d : Int) ∧ d = hi - lo := ⟨hi - lo, by omega, rfl⟩
    by_cases hfin : d ≤ 1
    · have hx : mMost s credit = lo := by omega
      have HX := Go.Lib.hid hx
      clear hx hI hX h1 h2 hd1
      go_wp2
      simp only [Exit.jump]
      go_ret
      exact ⟨by rw [HX.out]; rfl, K⟩
    · obtain ⟨h, hh, hh1⟩ : ∃ h : Nat, (d : Int) / 2 = (h : Int) ∧ h = d / 2 := ⟨d / 2, rfl, rfl⟩
      obtain ⟨m, hm, hm1⟩ : ∃ m : Nat, (lo : Int) + (h : Int) = (m : Int) ∧ m = lo + h := ⟨lo + h, by omega, rfl⟩
      have hm2 : lo < m := by omega
      have hm3 : m < hi := by omega
      have G := fun w => grant_c (w := w) s m credit s.last hs (by omega) hc hs.last
      have hg := hI m
      generalize (mGrant s m credit s.last).1 = r at *
      generalize hge : (mGrant s m credit s.last).2 = ge at *
      clear hge hI
      have hd2 : 1 < d := by omega
      by_cases hmx : m ≤ mMost s credit
      · obtain rfl : ge = 0 := hg.2 ⟨by omega, hmx⟩
        have X1 := Go.Lib.hid hm1
        clear hg hm1 hh1 hd1 hfin
        go_wp2_with fail
        refine (G _).mono ?_
        rintro e w1 ⟨rfl, k1⟩
        go_wp2_with fail
        go_step3
        have S := most_step (o := .cells #[.int .u64 r.price, .int .u64 r.limit, .int .u64 r.quota, .int .i64 r.idle, .int .i64 r.state, .int .u64 r.units, .int .i64 r.last] 24) K hB k1
        refine ⟨rfl, ⟨S.1, S.2, m, hi, _, _, _, _, _, _, _, _, _, _, _, _, _, _, _, _, _, _, _, _, _, _, _, _, _, _, _, _, hmx, h2, h3, rfl⟩, ?_⟩
        simp [intOf]
        omega
      · have hne : ge ≠ 0 := fun h => hmx (hg.1 h).2
        have hb : (ge == 0) = false := by simpa using hne
        clear hg hne hm1 hh1 hd1 hfin
        go_wp2_with fail
        refine (G _).mono ?_
        rintro e w1 ⟨rfl, k1⟩
        go_wp2_with fail
        go_step3
        have S := most_step (o := .cells #[.int .u64 r.price, .int .u64 r.limit, .int .u64 r.quota, .int .i64 r.idle, .int .i64 r.state, .int .u64 r.units, .int .i64 r.last] 24) K hB k1
        refine ⟨rfl, ⟨S.1, S.2, lo, m, _, _, _, _, _, _, _, _, _, _, _, _, _, _, _, _, _, _, _, _, _, _, _, _, _, _, _, _, h1, by omega, by omega, rfl⟩, ?_⟩
        simp [intOf]
        omega
end Go.Proofs.Ytimbngaadgkeaaa
