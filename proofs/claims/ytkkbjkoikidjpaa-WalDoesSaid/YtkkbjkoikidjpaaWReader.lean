/-
  The contracts of package codec's Reader: what is left, and the first error.
-/
import Derived.Test.YtkkbjkoikidjpaaWWriter
namespace Go.Proofs.Ytkkbjkoikidjpaa
open Go.RowKit

/-- A reader's state: what is left, the first error. -/
def rFail (st : ByteArray × Int) (err : Int) : ByteArray × Int := (st.1, if st.2 = 0 then err else st.2)
/-- Can so many bytes be read? -/
def rHas (n : Nat) (st : ByteArray × Int) : Bool := st.2 == 0 && decide (n ≤ st.1.size)
/-- The bytes that are read: none where they can not be. -/
def rGet (n : Nat) (st : ByteArray × Int) : ByteArray := if rHas n st then st.1.extract 0 n else ByteArray.empty
/-- The state behind it. -/
def rGo (n : Nat) (st : ByteArray × Int) : ByteArray × Int := if rHas n st then (st.1.extract n st.1.size, 0) else rFail st 3
/-- A byte's number; none: 0. -/
def at0 (s : ByteArray) (i : Nat) : Nat := (s.data.toList.getD i 0).toNat
def rLen (st : ByteArray × Int) : Nat := at0 (rGet 2 st) 0 * 256 + at0 (rGet 2 st) 1
/-- What is wrong with a blob ahead: 0: nothing. -/
def rBad (most : Int) (st : ByteArray × Int) : Int :=
  if ¬ rHas 2 st then (rFail st 3).2 else if most < rLen st ∨ 4096 < rLen st then 5 else if (rGo 2 st).1.size < rLen st then 3 else 0
def rBlob (most : Int) (st : ByteArray × Int) : ByteArray := if rBad most st = 0 then rGet (rLen st) (rGo 2 st) else ByteArray.empty
def rBlobGo (most : Int) (st : ByteArray × Int) : ByteArray × Int := if rBad most st = 0 then rGo (rLen st) (rGo 2 st) else (st.1, rBad most st)
theorem rHas_iff (n : Nat) (st : ByteArray × Int) : rHas n st = true ↔ st.2 = 0 ∧ n ≤ st.1.size := by simp [rHas]
theorem rHas_no (n : Nat) (st : ByteArray × Int) : rHas n st = false ↔ (st.2 = 0 ∧ st.1.size < n) ∨ st.2 ≠ 0 := by
  simp only [rHas, Bool.and_eq_false_iff, beq_eq_false_iff_ne, decide_eq_false_iff_not]
  omega

set_option maxHeartbeats 1000000 in
theorem fail_c {w : World} {A : Nat} {st : ByteArray × Int} (h : WAt 91 w A st) (err : Int) :
    Calls Try.prog 64 #[.pointer (some ⟨A, 0, none⟩), .int .i64 err] w fun e w' => e = .returned (.tuple #[]) ∧ WAt 91 w' A (rFail st err) ∧ Keeps [A] w w' := by
  have h1 := h.c1
  have z1 := h.fz 1
  obtain ⟨s, e⟩ := st
  dsimp only at h1
  by_cases he : e = 0
  · subst he
    go_enter Try.func64, Try.ntmps64
    go_wp2
    go_end0
    exact ⟨rfl, h.put1 _, (Keeps.refl _ _).setCell (.inl (by simp)) _⟩
  · have hb : (e == 0) = false := by simpa using he
    go_enter Try.func64, Try.ntmps64
    go_wp2
    go_end0
    exact ⟨rfl, by simpa [rFail, he] using h, Keeps.refl _ _⟩

theorem read_c {w : World} (s : ByteArray) :
    Calls Try.prog 56 #[.string s] w fun e w' => e = .returned (.pointer (some ⟨w.heap.size, 0, none⟩)) ∧ WAt 91 w' w.heap.size (s, 0) ∧ Keeps [] w w' := by
  go_enter Try.func56, Try.ntmps56
  go_wp2
  go_ret
  exact ⟨rfl, ⟨heap_alloc_same⟩, (Keeps.refl _ _).alloc _⟩

set_option maxHeartbeats 1000000 in
theorem takeI_no {w : World} {A : Nat} {st : ByteArray × Int} (h : WAt 91 w A st) (n : Nat) (_hn : n ≤ 65535) (hno : rHas n st = false) (f : Value) :
    Calls Try.prog 62 #[.pointer (some ⟨A, 0, none⟩), .int .i64 n, f] w fun e w' => e = .returned (.int .i64 0) ∧ WAt 91 w' A (rFail st 3) ∧ Keeps [A] w w' := by
  have h0 := h.c0
  by_cases hs : st.1.size < n
  · go_enter Try.func62, Try.ntmps62
    go_wp2_with fail
    refine (fail_c h 3).mono ?_
    rintro e w1 ⟨rfl, g1, k1⟩
    have c1 := g1.c1
    have hne : ((rFail st 3).2 != 0) = true := by
      unfold rFail
      by_cases he : st.2 = 0 <;> simp [he]
    go_wp2
    go_ret
    exact ⟨rfl, g1, k1⟩
  · have he : st.2 ≠ 0 := by
      rcases (rHas_no n st).1 hno with h | h
      · omega
      · exact h
    have h1 := h.c1
    have hne : (st.2 != 0) = true := by simpa using he
    have R : Hid (rFail st 3 = st) := by simp [Hid, rFail, he]
    clear he
    go_enter Try.func62, Try.ntmps62
    go_wp2
    go_ret
    exact ⟨rfl, by rw [R.out]; exact h, Keeps.refl _ _⟩

set_option maxHeartbeats 1000000 in
theorem takeS_no {w : World} {A : Nat} {st : ByteArray × Int} (h : WAt 91 w A st) (n : Nat) (_hn : n ≤ 65535) (hno : rHas n st = false) (f : Value) :
    Calls Try.prog 65 #[.pointer (some ⟨A, 0, none⟩), .int .i64 n, f] w fun e w' => e = .returned (.string ByteArray.empty) ∧ WAt 91 w' A (rFail st 3) ∧ Keeps [A] w w' := by
  have h0 := h.c0
  by_cases hs : st.1.size < n
  · go_enter Try.func65, Try.ntmps65
    go_wp2_with fail
    refine (fail_c h 3).mono ?_
    rintro e w1 ⟨rfl, g1, k1⟩
    have c1 := g1.c1
    have hne : ((rFail st 3).2 != 0) = true := by
      unfold rFail
      by_cases he : st.2 = 0 <;> simp [he]
    go_wp2
    go_ret
    exact ⟨rfl, g1, k1⟩
  · have he : st.2 ≠ 0 := by
      rcases (rHas_no n st).1 hno with h | h
      · omega
      · exact h
    have h1 := h.c1
    have hne : (st.2 != 0) = true := by simpa using he
    have R : Hid (rFail st 3 = st) := by simp [Hid, rFail, he]
    clear he
    go_enter Try.func65, Try.ntmps65
    go_wp2
    go_ret
    exact ⟨rfl, by rw [R.out]; exact h, Keeps.refl _ _⟩

set_option maxHeartbeats 1000000 in
theorem blob1_take {w : World} {A : Nat} {st : ByteArray × Int} (h : WAt 91 w A st) (n : Nat) (_hn : n ≤ 65535) (hok : rHas n st = true) (x : Int)
    (hf : ∀ w, Calls Try.prog 63 #[.string (st.1.extract 0 n)] w fun e w' => e = .returned (.int .i64 x) ∧ Keeps [] w w') :
    Calls Try.prog 62 #[.pointer (some ⟨A, 0, none⟩), .int .i64 n, .func (.func 63) #[] #[]] w fun e w' => e = .returned (.int .i64 x) ∧ WAt 91 w' A (rGo n st) ∧ Keeps [A] w w' := by
  have h0 := h.c0
  have h1 := h.c1
  have z0 := h.fz 0
  have hA := h.lt
  obtain ⟨e0, hle⟩ := (rHas_iff n st).1 hok
  have R : Hid (rGo n st = (st.1.extract n st.1.size, st.2)) := by simp [Hid, rGo, hok, e0]
  have g := h.put0 (st.1.extract n st.1.size)
  obtain ⟨s, e⟩ := st
  dsimp only at *
  subst e0
  go_enter Try.func62, Try.ntmps62
  go_wp2_with fail
  refine (hf _).mono ?_
  rintro e w1 ⟨rfl, k1⟩
  go_wp2
  go_ret
  exact ⟨rfl, by rw [R.out]; exact g.keep k1 (by simp), ((Keeps.refl _ _).setCell (.inl (by simp)) _).trans (k1.sub (by simp))⟩

set_option maxHeartbeats 1000000 in
theorem blob2_take {w : World} {A : Nat} {st : ByteArray × Int} (h : WAt 91 w A st) (n : Nat) (_hn : n ≤ 65535) (hok : rHas n st = true) (x : ByteArray)
    (hf : ∀ w, Calls Try.prog 66 #[.string (st.1.extract 0 n)] w fun e w' => e = .returned (.string x) ∧ Keeps [] w w') :
    Calls Try.prog 65 #[.pointer (some ⟨A, 0, none⟩), .int .i64 n, .func (.func 66) #[] #[]] w fun e w' => e = .returned (.string x) ∧ WAt 91 w' A (rGo n st) ∧ Keeps [A] w w' := by
  have h0 := h.c0
  have h1 := h.c1
  have z0 := h.fz 0
  have hA := h.lt
  obtain ⟨e0, hle⟩ := (rHas_iff n st).1 hok
  have R : Hid (rGo n st = (st.1.extract n st.1.size, st.2)) := by simp [Hid, rGo, hok, e0]
  have g := h.put0 (st.1.extract n st.1.size)
  obtain ⟨s, e⟩ := st
  dsimp only at *
  subst e0
  go_enter Try.func65, Try.ntmps65
  go_wp2_with fail
  refine (hf _).mono ?_
  rintro e w1 ⟨rfl, k1⟩
  go_wp2
  go_ret
  exact ⟨rfl, by rw [R.out]; exact g.keep k1 (by simp), ((Keeps.refl _ _).setCell (.inl (by simp)) _).trans (k1.sub (by simp))⟩

theorem at0_lt (s : ByteArray) (i : Nat) : at0 s i < 256 := (s.data.toList.getD i 0).toNat_lt
theorem at0_of (s : ByteArray) (i : Nat) (h : i < s.size) : at0 s i = s[i].toNat := by
  unfold at0
  rw [List.getD_eq_getElem?_getD, List.getElem?_eq_getElem (by simpa using h)]
  rfl

theorem i64_or_small (a b : Nat) (ha : a < 65536) (hb : b < 65536) : bits .or .i64 (a : Int) (b : Int) = ((a ||| b : Nat) : Int) := by
  show IntKind.i64.wrap ((BitVec.ofInt 64 (a : Int) ||| BitVec.ofInt 64 (b : Int)).toNat : Int) = _
  have h1 : (BitVec.ofInt 64 (a : Int) ||| BitVec.ofInt 64 (b : Int)).toNat = a ||| b := by
    rw [BitVec.toNat_or, BitVec.ofInt_natCast, BitVec.ofInt_natCast, BitVec.toNat_ofNat, BitVec.toNat_ofNat, Nat.mod_eq_of_lt (by omega), Nat.mod_eq_of_lt (by omega)]
  have h2 : a ||| b < 2 ^ 16 := Nat.or_lt_two_pow (by omega) (by omega)
  rw [h1, IntKind.wrap_i64]
  omega

set_option maxHeartbeats 1000000 in
theorem blob1_c {w : World} (s : ByteArray) (hs : 2 ≤ s.size) :
    Calls Try.prog 63 #[.string s] w fun e w' => e = .returned (.int .i64 (at0 s 0 * 256 + at0 s 1 : Nat)) ∧ Keeps [] w w' := by
  have h0 := at0_lt s 0
  have h1 := at0_lt s 1
  have R : Hid (bits .or .i64 ((at0 s 0 : Int) * 256) (at0 s 1) = ((at0 s 0 * 256 + at0 s 1 : Nat) : Int)) := by
    have := i64_or_small (at0 s 0 * 256) (at0 s 1) (by omega) (by omega)
    rw [show ((at0 s 0 * 256 : Nat) : Int) = (at0 s 0 : Int) * 256 from by omega] at this
    exact this.trans (by rw [nat_join 8 _ _ (by omega) (by omega)])
  have e0 := at0_of s 0 (by omega)
  have e1 := at0_of s 1 (by omega)
  rw [e0, e1] at R ⊢
  rw [e0] at h0
  rw [e1] at h1
  clear e0 e1
  have z1 : 0 < s.size := by omega
  have z2 : (1 : Int) < (s.size : Int) := by omega
  go_enter Try.func63, Try.ntmps63
  go_wp2
  go_region
  go_wp2
  go_ret
  exact ⟨ret_int R.out, (Keeps.refl _ _).drew⟩

theorem blob2_c {w : World} (s : ByteArray) :
    Calls Try.prog 66 #[.string s] w fun e w' => e = .returned (.string s) ∧ Keeps [] w w' := by
  go_enter Try.func66, Try.ntmps66
  go_wp2
  go_ret
  exact ⟨rfl, Keeps.refl _ _⟩

theorem rGet_ok {n : Nat} {st : ByteArray × Int} (h : rHas n st = true) : rGet n st = st.1.extract 0 n := by simp [rGet, h]
theorem rGet_no {n : Nat} {st : ByteArray × Int} (h : rHas n st = false) : rGet n st = ByteArray.empty := by simp [rGet, h]
theorem rGo_no {n : Nat} {st : ByteArray × Int} (h : rHas n st = false) : rGo n st = rFail st 3 := by simp [rGo, h]
theorem size_rGet {n : Nat} {st : ByteArray × Int} (h : rHas n st = true) : (rGet n st).size = n := by
  rw [rGet_ok h, ByteArray.size_extract]; have := ((rHas_iff n st).1 h).2; omega

theorem rHas_bad {n : Nat} {st : ByteArray × Int} (h : st.2 ≠ 0) : rHas n st = false := by simp [rHas, h]
theorem rFail_ne (st : ByteArray × Int) (e : Int) (he : e ≠ 0) : (rFail st e).2 ≠ 0 := by
  unfold rFail
  by_cases h : st.2 = 0 <;> simp [h, he]
theorem rFail_same {st : ByteArray × Int} (h : st.2 ≠ 0) (e : Int) : rFail st e = st := by simp [rFail, h]

set_option maxHeartbeats 2000000 in
theorem blob_c {w : World} {A : Nat} {st : ByteArray × Int} (h : WAt 91 w A st) (most : Int) :
    Calls Try.prog 57 #[.pointer (some ⟨A, 0, none⟩), .int .i64 most] w fun e w' => e = .returned (.string (rBlob most st)) ∧ WAt 91 w' A (rBlobGo most st) ∧ Keeps [A] w w' := by
  have h0 := h.c0
  have hA := h.lt
  cases hh : rHas 2 st with
  | false =>
    have hne : ((rFail st 3).2 != 0) = true := by simpa using rFail_ne st 3 (by decide)
    have e0 : rBad most st = (rFail st 3).2 := by simp [rBad, hh]
    have e1 : rBlob most st = ByteArray.empty := by simp [rBlob, e0, rFail_ne st 3 (by decide)]
    have e2 : rBlobGo most st = rFail st 3 := by simp only [rBlobGo, e0, rFail_ne st 3 (by decide), if_false]; rfl
    rw [e1, e2]
    go_enter Try.func57, Try.ntmps57
    go_wp2_with fail
    refine (takeI_no h 2 (by omega) hh _).mono ?_
    rintro e w1 ⟨rfl, h1, k1⟩
    have c1 := h1.c1
    go_wp2
    go_ret
    exact ⟨rfl, h1, k1⟩
  | true =>
    have hz : (st.1.extract 0 2).size = 2 := by rw [← rGet_ok hh, size_rGet hh]
    have hc := fun w => blob1_c (w := w) (st.1.extract 0 2) (by omega)
    have e0 : at0 (st.1.extract 0 2) 0 * 256 + at0 (st.1.extract 0 2) 1 = rLen st := by rw [rLen, rGet_ok hh]
    have hlen : rLen st ≤ 65535 := by rw [← e0]; have := at0_lt (st.1.extract 0 2) 0; have := at0_lt (st.1.extract 0 2) 1; omega
    rw [e0] at hc
    clear e0
    by_cases hbad : most < rLen st ∨ 4096 < rLen st
    · have eB : rBad most st = 5 := by simp [rBad, hh, hbad]
      have e1 : rBlob most st = ByteArray.empty := by simp [rBlob, eB]
      have e2 : rBlobGo most st = (st.1, 5) := by simp [rBlobGo, eB]
      rw [e1, e2]
      have e3 : (rGo 2 st).2 = 0 := by simp [rGo, hh]
      have e4 : (rFail (rGo 2 st) 5).2 = 5 := by simp [rFail, e3]
      have e5 : rFail (rFail (rGo 2 st) 5) 3 = rFail (rGo 2 st) 5 := rFail_same (by rw [e4]; decide) 3
      have hor : (decide (most < (rLen st : Int)) = true) ∨ (decide (most < (rLen st : Int)) = false ∧ decide ((4096 : Int) < rLen st) = true) := by
        simp only [decide_eq_true_eq, decide_eq_false_iff_not]; omega
      have e3' : (rGo 2 st).2 ≠ 0 → False := fun h => h e3
      generalize rLen st = n at *
      clear hbad eB e1 e2
      rcases hor with t1 | ⟨t1, t2⟩
      all_goals
        go_enter Try.func57, Try.ntmps57
        go_wp2_with fail
        refine (blob1_take h 2 (by omega) hh _ hc).mono ?_
        rintro e w1 ⟨rfl, h1, k1⟩
        have c1 := h1.c1
        rw [e3] at c1
        go_wp2_with fail
        refine (fail_c h1 5).mono ?_
        rintro e w2 ⟨rfl, h2, k2⟩
        go_wp2_with fail
        refine (takeS_no h2 n (by omega) (rHas_bad (by rw [e4]; decide)) _).mono ?_
        rintro e w3 ⟨rfl, h3, k3⟩
        rw [e5] at h3
        have c3 := h3.c1
        have z3 := h3.fz 0
        have c30 := h3.c0
        have g := h3.put0 st.1
        rw [e4] at c3 g
        go_wp2
        go_ret
        exact ⟨rfl, g, ((k1.trans k2).trans k3).setCell (.inl (by simp)) _⟩
    · have t1 : decide (most < (rLen st : Int)) = false := by simp only [decide_eq_false_iff_not]; omega
      have t2 : decide ((4096 : Int) < rLen st) = false := by simp only [decide_eq_false_iff_not]; omega
      have e3 : (rGo 2 st).2 = 0 := by simp [rGo, hh]
      cases h4 : rHas (rLen st) (rGo 2 st) with
      | false =>
        have hlt : (rGo 2 st).1.size < rLen st := by
          rcases (rHas_no _ _).1 h4 with h | h
          · exact h.2
          · exact absurd e3 h
        have eB : rBad most st = 3 := by simp [rBad, hh, hbad, hlt]
        have e1 : rBlob most st = ByteArray.empty := by simp [rBlob, eB]
        have e2 : rBlobGo most st = (st.1, 3) := by simp [rBlobGo, eB]
        have e4 : (rFail (rGo 2 st) 3).2 = 3 := by simp [rFail, e3]
        rw [e1, e2]
        generalize rLen st = n at *
        clear hbad eB e1 e2 hlt
        go_enter Try.func57, Try.ntmps57
        go_wp2_with fail
        refine (blob1_take h 2 (by omega) hh _ hc).mono ?_
        rintro e w1 ⟨rfl, h1, k1⟩
        have c1 := h1.c1
        rw [e3] at c1
        go_wp2_with fail
        refine (takeS_no h1 n (by omega) h4 _).mono ?_
        rintro e w3 ⟨rfl, h3, k3⟩
        have c3 := h3.c1
        have z3 := h3.fz 0
        have c30 := h3.c0
        have g := h3.put0 st.1
        rw [e4] at c3 g
        go_wp2
        go_ret
        exact ⟨rfl, g, (k1.trans k3).setCell (.inl (by simp)) _⟩
      | true =>
        have hle := ((rHas_iff _ _).1 h4).2
        have eB : rBad most st = 0 := by
          have : ¬ (rGo 2 st).1.size < rLen st := by omega
          simp [rBad, hh, hbad, this]
        have e1 : rBlob most st = (rGo 2 st).1.extract 0 (rLen st) := by simp [rBlob, eB, rGet_ok h4]
        have e2 : rBlobGo most st = rGo (rLen st) (rGo 2 st) := by simp [rBlobGo, eB]
        have e4 : (rGo (rLen st) (rGo 2 st)).2 = 0 := by rw [rGo, h4]; rfl
        rw [e1, e2]
        generalize rLen st = n at *
        clear hbad eB e1 e2
        go_enter Try.func57, Try.ntmps57
        go_wp2_with fail
        refine (blob1_take h 2 (by omega) hh _ hc).mono ?_
        rintro e w1 ⟨rfl, h1, k1⟩
        have c1 := h1.c1
        rw [e3] at c1
        go_wp2_with fail
        refine (blob2_take h1 n (by omega) h4 _ (fun w => blob2_c _)).mono ?_
        rintro e w3 ⟨rfl, h3, k3⟩
        have c3 := h3.c1
        rw [e4] at c3
        go_wp2
        go_ret
        exact ⟨rfl, h3, k1.trans k3⟩
end Go.Proofs.Ytkkbjkoikidjpaa
