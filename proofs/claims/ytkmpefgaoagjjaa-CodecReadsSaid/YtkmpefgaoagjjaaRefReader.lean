/-
  The contracts of the reference's Reader: it reads what package codec's reads.
-/
import Derived.Test.YtkmpefgaoagjjaaReader
namespace Go.Proofs.Ytkmpefgaoagjjaa
open Go.RowKit

/-- The reference's reader at block A: its bytes, its place, its error. -/
structure XAt (w : World) (A : Nat) (S : ByteArray) (at' : Nat) (e : Int) : Prop where
  h : w.heap[A]? = some (.cells #[.string S, .int .i64 at', .int .i64 e] 46 (0, 0))
  le : at' ≤ S.size
  hS : S.size ≤ 1099511627776
namespace XAt
variable {w : World} {A : Nat} {S : ByteArray} {at' : Nat} {e : Int}
theorem c0 (h : XAt w A S at' e) : w.cell? ⟨A, 0, none⟩ = some (.string S) := by rw [cell_of_heap h.h]; rfl
theorem c1 (h : XAt w A S at' e) : w.cell? ⟨A, 1, none⟩ = some (.int .i64 at') := by rw [cell_of_heap h.h]; rfl
theorem c2 (h : XAt w A S at' e) : w.cell? ⟨A, 2, none⟩ = some (.int .i64 e) := by rw [cell_of_heap h.h]; rfl
theorem fz (h : XAt w A S at' e) (o : Nat) : w.frozen? ⟨A, o, none⟩ = false := frozen_of_heap h.h
theorem lt (h : XAt w A S at' e) : A < w.heap.size := lt_of_heap h.h
theorem keep {w' : World} {T : List Nat} (h : XAt w A S at' e) (k : Keeps T w w') (hA : A ∉ T) : XAt w' A S at' e := ⟨k.heap hA h.h, h.le, h.hS⟩
theorem put1 (h : XAt w A S at' e) (m : Nat) (hm : m ≤ S.size) : XAt (w.setCell ⟨A, 1, none⟩ (.int .i64 m)) A S m e := ⟨by rw [heap_setCell_same h.h]; rfl, hm, h.hS⟩
theorem put2 (h : XAt w A S at' e) (x : Int) : XAt (w.setCell ⟨A, 2, none⟩ (.int .i64 x)) A S at' x := ⟨by rw [heap_setCell_same h.h]; rfl, h.le, h.hS⟩
end XAt
/-- The state that it stands for. -/
def xst (S : ByteArray) (at' : Nat) (e : Int) : ByteArray × Int := (S.extract at' S.size, e)
theorem size_xst (S : ByteArray) (at' : Nat) (e : Int) : (xst S at' e).1.size = S.size - at' := by simp [xst, ByteArray.size_extract]
theorem xst_go {S : ByteArray} {at' n : Nat} (hle : at' ≤ S.size) (h : rHas n (xst S at' 0) = true) : rGo n (xst S at' 0) = xst S (at' + n) 0 := by
  rw [rGo, h]
  have h2 := ((rHas_iff _ _).1 h).2
  rw [size_xst] at h2
  show ((S.extract at' S.size).extract n _, (0 : Int)) = (S.extract (at' + n) S.size, 0)
  have := size_xst S at' 0
  rw [this, ByteArray.extract_extract]
  congr 2
  omega
theorem xst_get {S : ByteArray} {at' n : Nat} (hle : at' ≤ S.size) (h : rHas n (xst S at' 0) = true) : rGet n (xst S at' 0) = S.extract at' (at' + n) := by
  rw [rGet_ok h]
  have h2 := ((rHas_iff _ _).1 h).2
  rw [size_xst] at h2
  show (S.extract at' S.size).extract 0 n = _
  rw [ByteArray.extract_extract]
  congr 1
  omega

set_option maxHeartbeats 1000000 in
theorem fail_x {w : World} {A : Nat} {S : ByteArray} {a : Nat} {e0 : Int} (h : XAt w A S a e0) (err : Int) :
    Calls Try.prog 30 #[.pointer (some ⟨A, 0, none⟩), .int .i64 err] w fun e w' => e = .returned (.tuple #[]) ∧ XAt w' A S a (rFail (xst S a e0) err).2 ∧ Keeps [A] w w' := by
  have h1 := h.c2
  have z1 := h.fz 2
  by_cases he : e0 = 0
  · subst he
    go_enter Try.func30, Try.ntmps30
    go_wp2
    go_end0
    exact ⟨rfl, h.put2 _, (Keeps.refl _ _).setCell (.inl (by simp)) _⟩
  · have hb : (e0 == 0) = false := by simpa using he
    go_enter Try.func30, Try.ntmps30
    go_wp2
    go_end0
    exact ⟨rfl, by simpa [rFail, xst, he] using h, Keeps.refl _ _⟩

theorem left_x {w : World} {A : Nat} {S : ByteArray} {a : Nat} {e0 : Int} (h : XAt w A S a e0) :
    Calls Try.prog 32 #[.pointer (some ⟨A, 0, none⟩)] w fun e w' => e = .returned (.int .i64 (xst S a e0).1.size) ∧ Keeps [] w w' := by
  have h0 := h.c0
  have h1 := h.c1
  have hle := h.le
  have hS := h.hS
  have R : Hid (((xst S a e0).1.size : Int) = (S.size : Int) - a) := by rw [size_xst]; show _ = _; omega
  go_enter Try.func32, Try.ntmps32
  go_wp2
  go_region
  go_wp2
  go_ret
  exact ⟨ret_int R.out.symm, (Keeps.refl _ _).drew⟩

set_option maxHeartbeats 1000000 in
theorem take_no {w : World} {A : Nat} {S : ByteArray} {a : Nat} {e0 : Int} (h : XAt w A S a e0) (n : Nat) (_hn : n ≤ 65535) (hno : rHas n (xst S a e0) = false) :
    Calls Try.prog 44 #[.pointer (some ⟨A, 0, none⟩), .int .i64 n] w fun e w' => e = .returned (.string ByteArray.empty) ∧ XAt w' A S a (rFail (xst S a e0) 3).2 ∧ Keeps [A] w w' := by
  have h0 := h.c0
  have h1 := h.c1
  have h2 := h.c2
  have z2 := h.fz 2
  have hle := h.le
  have hS := h.hS
  rcases (rHas_no _ _).1 hno with ⟨he, hlt⟩ | he
  · have he' : e0 = 0 := he
    subst he'
    rw [size_xst] at hlt
    have hlt' : decide ((S.size : Int) - a < n) = true := by simp only [decide_eq_true_eq]; omega
    have g := (h.keep ((Keeps.refl [] w).drew) (by simp)).put2 3
    clear he hno
    go_enter Try.func44, Try.ntmps44
    go_wp2
    go_region
    go_wp2
    go_ret
    exact ⟨rfl, g, ((Keeps.refl _ _).drew).setCell (.inl (by simp)) _⟩
  · have he' : e0 ≠ 0 := he
    have hb : (e0 == 0) = false := by simpa using he'
    have hb2 : (e0 != 0) = true := by simpa using he'
    have R : Hid ((rFail (xst S a e0) 3).2 = e0) := by simp [Hid, rFail, xst, he']
    clear he he' hno
    go_enter Try.func44, Try.ntmps44
    go_wp2
    go_region
    go_wp2
    go_ret
    exact ⟨rfl, by rw [R.out]; exact h.keep ((Keeps.refl [] w).drew) (by simp), (Keeps.refl _ _).drew⟩

set_option maxHeartbeats 1000000 in
theorem take_ok {w : World} {A : Nat} {S : ByteArray} {a : Nat} (h : XAt w A S a 0) (n : Nat) (_hn : n ≤ 65535) (hok : rHas n (xst S a 0) = true) :
    Calls Try.prog 44 #[.pointer (some ⟨A, 0, none⟩), .int .i64 n] w fun e w' => e = .returned (.string (S.extract a (a + n))) ∧ XAt w' A S (a + n) 0 ∧ Keeps [A] w w' := by
  have h0 := h.c0
  have h1 := h.c1
  have h2 := h.c2
  have z1 := h.fz 1
  have hle := h.le
  have hS := h.hS
  have hlt := ((rHas_iff _ _).1 hok).2
  rw [size_xst] at hlt
  have hlt' : decide ((S.size : Int) - a < n) = false := by simp only [decide_eq_false_iff_not]; omega
  have g := (h.keep ((Keeps.refl [] w).drew) (by simp)).put1 (a + n) (by omega)
  clear hok
  go_enter Try.func44, Try.ntmps44
  go_wp2
  go_region
  go_wp2
  go_region
  go_wp2
  go_ret
  exact ⟨rfl, g.keep ((Keeps.refl [] _).drew) (by simp), (((Keeps.refl _ _).drew).setCell (.inl (by simp)) _).drew⟩

theorem rGo_no2 {n : Nat} {S : ByteArray} {a : Nat} {e0 : Int} (h : rHas n (xst S a e0) = false) : rGo n (xst S a e0) = xst S a (rFail (xst S a e0) 3).2 := by rw [rGo_no h]; rfl
theorem e_of_has {n : Nat} {S : ByteArray} {a : Nat} {e0 : Int} (h : rHas n (xst S a e0) = true) : e0 = 0 := ((rHas_iff _ _).1 h).1

/-- 'take', in either case. -/
theorem take_x {w : World} {A : Nat} {S : ByteArray} {a : Nat} {e0 : Int} (h : XAt w A S a e0) (n : Nat) (hn : n ≤ 65535) :
    Calls Try.prog 44 #[.pointer (some ⟨A, 0, none⟩), .int .i64 n] w fun e w' => e = .returned (.string (rGet n (xst S a e0))) ∧ (∃ a' e', rGo n (xst S a e0) = xst S a' e' ∧ XAt w' A S a' e') ∧ Keeps [A] w w' := by
  cases hh : rHas n (xst S a e0) with
  | true =>
    have e1 := e_of_has hh
    subst e1
    refine (take_ok h n hn hh).mono ?_
    rintro e w1 ⟨rfl, h1, k1⟩
    exact ⟨ret_str (xst_get h.le hh).symm, ⟨_, _, xst_go h.le hh, h1⟩, k1⟩
  | false =>
    refine (take_no h n hn hh).mono ?_
    rintro e w1 ⟨rfl, h1, k1⟩
    exact ⟨ret_str (rGet_no hh).symm, ⟨_, _, rGo_no2 hh, h1⟩, k1⟩

theorem hash_x {w : World} {A : Nat} {S : ByteArray} {a : Nat} {e0 : Int} (h : XAt w A S a e0) :
    Calls Try.prog 28 #[.pointer (some ⟨A, 0, none⟩)] w fun e w' => e = .returned (.string (rGet 16 (xst S a e0))) ∧ (∃ a' e', rGo 16 (xst S a e0) = xst S a' e' ∧ XAt w' A S a' e') ∧ Keeps [A] w w' := by
  have hc := take_x h 16 (by omega)
  generalize rGet 16 (xst S a e0) = x at *
  go_enter Try.func28, Try.ntmps28
  go_wp2_with fail
  refine hc.mono ?_
  rintro e w1 ⟨rfl, h1, k1⟩
  go_wp2
  go_ret
  exact ⟨rfl, h1, k1⟩

set_option maxHeartbeats 1000000 in
theorem num_x {w : World} {A : Nat} {S : ByteArray} {a : Nat} {e0 : Int} (h : XAt w A S a e0) :
    Calls Try.prog 24 #[.pointer (some ⟨A, 0, none⟩)] w fun e w' => e = .returned (.int .u64 (rNum (xst S a e0) : Nat)) ∧ (∃ a' e', rGo 8 (xst S a e0) = xst S a' e' ∧ XAt w' A S a' e') ∧ Keeps [A] w w' := by
  have hc := take_x h 8 (by omega)
  cases hh : rHas 8 (xst S a e0) with
  | true =>
    have hz := size_rGet hh
    have e1 : rNum (xst S a e0) = val ((rGet 8 (xst S a e0)).data.toList.take 8) := by
      rw [rNum, List.take_of_length_le]
      have : (rGet 8 (xst S a e0)).data.toList.length = 8 := by rw [Array.length_toList]; exact hz
      omega
    have hg := fun w => rget_ok (w := w) (rGet 8 (xst S a e0)) (by omega)
    rw [← e1] at hg
    generalize rNum (xst S a e0) = y at *
    clear e1 hz
    generalize rGet 8 (xst S a e0) = x at *
    go_enter Try.func24, Try.ntmps24
    go_wp2_with fail
    refine hc.mono ?_
    rintro e w1 ⟨rfl, h1, k1⟩
    go_wp2_with fail
    refine (hg _).mono ?_
    rintro e w2 ⟨rfl, rfl⟩
    go_wp2
    go_ret
    exact ⟨rfl, h1, k1⟩
  | false =>
    have e1 : rNum (xst S a e0) = 0 := by rw [rNum, rGet_no hh]; rfl
    have hg := fun w => rget_short (w := w) (rGet 8 (xst S a e0)) (by rw [rGet_no hh]; decide)
    rw [e1]
    generalize rGet 8 (xst S a e0) = x at *
    go_enter Try.func24, Try.ntmps24
    go_wp2_with fail
    refine hc.mono ?_
    rintro e w1 ⟨rfl, h1, k1⟩
    go_wp2_with fail
    refine (hg _).mono ?_
    rintro e w2 ⟨rfl, rfl⟩
    go_wp2
    go_ret
    exact ⟨rfl, h1, k1⟩

theorem ne_nil_of {s : ByteArray} (h : 0 < s.size) : ¬ s.toList = [] := by
  intro e
  have : s.size = 0 := by simpa [ByteArray.toList_eq] using congrArg List.length e
  omega
theorem isE_of {s : ByteArray} (h : 0 < s.size) : s.toList.isEmpty = false := by simpa using ne_nil_of h

set_option maxHeartbeats 1000000 in
theorem byte_x {w : World} {A : Nat} {S : ByteArray} {a : Nat} {e0 : Int} (h : XAt w A S a e0) :
    Calls Try.prog 22 #[.pointer (some ⟨A, 0, none⟩)] w fun e w' => e = .returned (.int .i64 (rByte (xst S a e0) : Nat)) ∧ (∃ a' e', rGo 1 (xst S a e0) = xst S a' e' ∧ XAt w' A S a' e') ∧ Keeps [A] w w' := by
  have hc := take_x h 1 (by omega)
  cases hh : rHas 1 (xst S a e0) with
  | true =>
    have hz := size_rGet hh
    have e1 : rByte (xst S a e0) = at0 (rGet 1 (xst S a e0)) 0 := rfl
    rw [e1]
    clear e1
    generalize rGet 1 (xst S a e0) = x at *
    rw [at0_of x 0 (by omega)]
    have hz1 : 0 < x.size := by omega
    have n1 := ne_nil_of hz1
    have n2 := isE_of hz1
    have hb : x[0].toNat < 256 := x[0].toNat_lt
    go_enter Try.func22, Try.ntmps22
    go_wp2_with fail
    refine hc.mono ?_
    rintro e w1 ⟨rfl, h1, k1⟩
    go_wp2
    go_ret
    exact ⟨rfl, h1, k1⟩
  | false =>
    have e1 : rByte (xst S a e0) = 0 := by rw [rByte, rGet_no hh]; rfl
    rw [e1]
    rw [rGet_no hh] at hc
    go_enter Try.func22, Try.ntmps22
    go_wp2_with fail
    refine hc.mono ?_
    rintro e w1 ⟨rfl, h1, k1⟩
    go_wp2
    go_ret
    exact ⟨rfl, h1, k1⟩

set_option maxHeartbeats 1000000 in
theorem end_x {w : World} {A : Nat} {S : ByteArray} {a : Nat} {e0 : Int} (h : XAt w A S a e0) :
    Calls Try.prog 34 #[.pointer (some ⟨A, 0, none⟩)] w fun e w' => e = .returned (.int .i64 (rEnd (xst S a e0))) ∧ Keeps [] w w' := by
  have h2 := h.c2
  have hc := left_x h
  by_cases he : e0 = 0
  · have hb : (e0 != 0) = false := by simpa using he
    by_cases hz : (xst S a e0).1.size = 0
    · have R : Hid (rEnd (xst S a e0) = 0) := by simp [Hid, rEnd, hz, show (xst S a e0).2 = 0 from he]
      rw [hz] at hc
      clear he hz
      go_enter Try.func34, Try.ntmps34
      go_wp2_with fail
      refine hc.mono ?_
      rintro e w1 ⟨rfl, k1⟩
      go_wp2
      go_ret
      exact ⟨ret_int R.out.symm, k1⟩
    · have R : Hid (rEnd (xst S a e0) = 4) := by simp [Hid, rEnd, hz, show (xst S a e0).2 = 0 from he]
      have hp : 0 < (xst S a e0).1.size := by omega
      generalize (xst S a e0).1.size = z at *
      clear he hz
      go_enter Try.func34, Try.ntmps34
      go_wp2_with fail
      refine hc.mono ?_
      rintro e w1 ⟨rfl, k1⟩
      go_wp2
      go_ret
      exact ⟨ret_int R.out.symm, k1⟩
  · have hb : (e0 != 0) = true := by simpa using he
    have R : Hid (rEnd (xst S a e0) = e0) := by simp [Hid, rEnd, xst, he]
    clear he
    go_enter Try.func34, Try.ntmps34
    go_wp2
    go_ret
    exact ⟨ret_int R.out.symm, Keeps.refl _ _⟩

set_option maxHeartbeats 2000000 in
theorem blob_x {w : World} {A : Nat} {S : ByteArray} {a : Nat} {e0 : Int} (h : XAt w A S a e0) (most : Int) :
    Calls Try.prog 26 #[.pointer (some ⟨A, 0, none⟩), .int .i64 most] w fun e w' => e = .returned (.string (rBlob most (xst S a e0))) ∧ (∃ a' e', rBlobGo most (xst S a e0) = xst S a' e' ∧ XAt w' A S a' e') ∧ Keeps [A] w w' := by
  have h0 := h.c1
  have hle := h.le
  cases hh : rHas 2 (xst S a e0) with
  | false =>
    have e0' : rBad most (xst S a e0) = (rFail (xst S a e0) 3).2 := by simp [rBad, hh]
    have e1 : rBlob most (xst S a e0) = ByteArray.empty := by simp [rBlob, e0', rFail_ne (xst S a e0) 3 (by decide)]
    have e2 : rBlobGo most (xst S a e0) = xst S a (rFail (xst S a e0) 3).2 := by simp only [rBlobGo, e0', rFail_ne (xst S a e0) 3 (by decide), if_false]; rfl
    have hc := take_no h 2 (by omega) hh
    rw [e1]
    go_enter Try.func26, Try.ntmps26
    go_wp2_with fail
    refine hc.mono ?_
    rintro e w1 ⟨rfl, h1, k1⟩
    go_wp2
    go_ret
    exact ⟨rfl, ⟨_, _, e2, h1⟩, k1⟩
  | true =>
    have ee := e_of_has hh
    subst ee
    have hz := size_rGet hh
    have hc := take_ok h 2 (by omega) hh
    have eG := xst_go hle hh
    have hle2 : a + 2 ≤ S.size := by have := ((rHas_iff _ _).1 hh).2; rw [size_xst] at this; omega
    have e0' : rLen (xst S a 0) = at0 (S.extract a (a + 2)) 0 * 256 + at0 (S.extract a (a + 2)) 1 := by rw [rLen, xst_get hle hh]
    rw [xst_get hle hh] at hz
    have hlen : rLen (xst S a 0) ≤ 65535 := by rw [e0']; have := at0_lt (S.extract a (a + 2)) 0; have := at0_lt (S.extract a (a + 2)) 1; omega
    generalize hx : S.extract a (a + 2) = x at *
    clear hx
    have b0 : x[0].toNat < 256 := x[0].toNat_lt
    have b1 : x[1].toNat < 256 := x[1].toNat_lt
    have eL : Hid ((x[0].toNat : Int) * 256 + x[1].toNat = (rLen (xst S a 0) : Nat)) := by
      rw [e0', at0_of x 0 (by omega), at0_of x 1 (by omega)]; show _ = _; omega
    have z1 : 0 < x.size := by omega
    have z2 : (1 : Int) < (x.size : Int) := by omega
    have n1 := ne_nil_of z1
    have n2 := isE_of z1
    have hgo : ∀ w', Keeps [A] w w' → XAt w' A S (a + 2) 0 → XAt (w'.setCell ⟨A, 1, none⟩ (.int .i64 a)) A S a 0 := fun w' _ h' => h'.put1 a hle
    by_cases hbad : most < rLen (xst S a 0) ∨ 4096 < rLen (xst S a 0)
    · have eB : rBad most (xst S a 0) = 5 := by simp [rBad, hh, hbad]
      have e1 : rBlob most (xst S a 0) = ByteArray.empty := by simp [rBlob, eB]
      have e2 : rBlobGo most (xst S a 0) = xst S a 5 := by simp [rBlobGo, eB]; rfl
      rw [e1, e2]
      clear e1 e2
      have hor : most < (rLen (xst S a 0) : Int) ∨ (¬ most < (rLen (xst S a 0) : Int) ∧ (4096 : Int) < rLen (xst S a 0)) := by omega
      clear hbad
      rw [← eL.out] at hor
      rcases hor with t1 | ⟨t1, t2⟩
      all_goals
        go_enter Try.func26, Try.ntmps26
        go_wp2_with fail
        refine hc.mono ?_
        rintro e w1 ⟨rfl, h1, k1⟩
        have c1 := (h1.keep ((Keeps.refl [] w1).drew) (by simp)).c2
        have c2 := h1.c2
        have y1 := h1.fz 1
        have y2 := h1.fz 2
        have d1 := h1.c1
        have g := ((h1.keep ((Keeps.refl [] w1).drew) (by simp)).put2 5).put1 a hle
        go_wp2
        go_region
        go_wp2
        go_ret
        exact ⟨rfl, ⟨_, _, rfl, g⟩, (((k1.drew).setCell (.inl (by simp)) _).setCell (.inl (by simp)) _)⟩
    · have t1 : ¬ most < (rLen (xst S a 0) : Int) := by omega
      have t2 : ¬ (4096 : Int) < rLen (xst S a 0) := by omega
      rw [← eL.out] at t1 t2
      have hc2 := fun (w1 : World) (h1 : XAt w1 A S (a + 2) 0) => take_x h1 (rLen (xst S a 0)) (by omega)
      rw [← eL.out] at hc2
      cases h4 : rHas (rLen (xst S a 0)) (rGo 2 (xst S a 0)) with
      | false =>
        have hlt : (rGo 2 (xst S a 0)).1.size < rLen (xst S a 0) := by
          rcases (rHas_no _ _).1 h4 with h | h
          · exact h.2
          · exact absurd (by rw [eG]; rfl) h
        have eB : rBad most (xst S a 0) = 3 := by simp [rBad, hh, hbad, hlt]
        have e1 : rBlob most (xst S a 0) = ByteArray.empty := by simp [rBlob, eB]
        have e2 : rBlobGo most (xst S a 0) = xst S a 3 := by simp [rBlobGo, eB]; rfl
        rw [eG] at h4
        have hc3 := fun (w1 : World) (h1 : XAt w1 A S (a + 2) 0) => take_no h1 (rLen (xst S a 0)) (by omega) h4
        rw [← eL.out] at hc3
        rw [e1, e2]
        clear hbad eB e1 e2 hlt hc2 eG
        have hC := Lib.hid hc3
        clear hc3 h4 hh e0' hlen eL
        generalize rLen (xst S a 0) = n at *
        go_enter Try.func26, Try.ntmps26
        go_wp2_with fail
        refine hc.mono ?_
        rintro e w1 ⟨rfl, h1, k1⟩
        have c2 := h1.c2
        go_wp2
        go_region
        go_wp2_with fail
        refine (hC.out _ (h1.keep ((Keeps.refl [] w1).drew) (by simp))).mono ?_
        rintro e w2 ⟨rfl, h2, k2⟩
        have e5 : (rFail (xst S (a + 2) 0) 3).2 = 3 := rfl
        rw [e5] at h2
        have c3 := h2.c2
        have d3 := h2.c1
        have y1 := h2.fz 1
        have g := h2.put1 a hle
        go_wp2
        go_ret
        exact ⟨rfl, ⟨_, _, rfl, g⟩, ((k1.drew).trans k2).setCell (.inl (by simp)) _⟩
      | true =>
        have hle3 := ((rHas_iff _ _).1 h4).2
        have eB : rBad most (xst S a 0) = 0 := by
          have : ¬ (rGo 2 (xst S a 0)).1.size < rLen (xst S a 0) := by omega
          simp [rBad, hh, hbad, this]
        have e1 : rBlob most (xst S a 0) = rGet (rLen (xst S a 0)) (xst S (a + 2) 0) := by simp [rBlob, eB, eG]
        have e2 : rBlobGo most (xst S a 0) = rGo (rLen (xst S a 0)) (rGo 2 (xst S a 0)) := by simp [rBlobGo, eB]
        rw [eG] at h4 e2
        have hc3 := fun (w1 : World) (h1 : XAt w1 A S (a + 2) 0) => take_ok h1 (rLen (xst S a 0)) (by omega) h4
        rw [← eL.out] at hc3
        rw [e1, e2, xst_get hle2 h4, xst_go hle2 h4]
        clear hbad eB e1 hc2 eG e2 hle3
        have hC := Lib.hid hc3
        clear hc3 h4 hh e0' hlen eL
        generalize rLen (xst S a 0) = n at *
        go_enter Try.func26, Try.ntmps26
        go_wp2_with fail
        refine hc.mono ?_
        rintro e w1 ⟨rfl, h1, k1⟩
        have c2 := h1.c2
        go_wp2
        go_region
        go_wp2_with fail
        refine (hC.out _ (h1.keep ((Keeps.refl [] w1).drew) (by simp))).mono ?_
        rintro e w2 ⟨rfl, h2, k2⟩
        have c3 := h2.c2
        go_wp2
        go_ret
        exact ⟨rfl, ⟨_, _, rfl, h2⟩, (k1.drew).trans k2⟩
end Go.Proofs.Ytkmpefgaoagjjaa
