/-
  The contracts of package codec's Writer, and of the reference's: what was written, and the first error.
-/
import Derived.Test.YtkmpefgaoagjjaaNum
namespace Go.Proofs.Ytkmpefgaoagjjaa
open Go.RowKit

/-- A writer at block A (of type t): what was written, the first error. -/
structure WAt (t : TypeId) (w : World) (A : Nat) (st : ByteArray × Int) : Prop where
  h : w.heap[A]? = some (.cells #[.string st.1, .int .i64 st.2] t (0, 0))
namespace WAt
variable {t : TypeId} {w : World} {A : Nat} {st : ByteArray × Int}
theorem c0 (h : WAt t w A st) : w.cell? ⟨A, 0, none⟩ = some (.string st.1) := by rw [cell_of_heap h.h]; rfl
theorem c1 (h : WAt t w A st) : w.cell? ⟨A, 1, none⟩ = some (.int .i64 st.2) := by rw [cell_of_heap h.h]; rfl
theorem fz (h : WAt t w A st) (o : Nat) : w.frozen? ⟨A, o, none⟩ = false := frozen_of_heap h.h
theorem lt (h : WAt t w A st) : A < w.heap.size := lt_of_heap h.h
theorem keep {w' : World} {S : List Nat} (h : WAt t w A st) (k : Keeps S w w') (hA : A ∉ S) : WAt t w' A st := ⟨k.heap hA h.h⟩
theorem put0 (h : WAt t w A st) (s : ByteArray) : WAt t (w.setCell ⟨A, 0, none⟩ (.string s)) A (s, st.2) := ⟨by rw [heap_setCell_same h.h]; rfl⟩
theorem put1 (h : WAt t w A st) (e : Int) : WAt t (w.setCell ⟨A, 1, none⟩ (.int .i64 e)) A (st.1, e) := ⟨by rw [heap_setCell_same h.h]; rfl⟩
end WAt

def wPut (st : ByteArray × Int) (t : ByteArray) (right : Bool) (err : Int) : ByteArray × Int := if right then (st.1 ++ t, st.2) else (st.1, if st.2 = 0 then err else st.2)
def byteB (n : Int) : ByteArray := strOfNums [n % 256]
def blobB (t : ByteArray) : ByteArray := strOfNums [(t.size : Int) / 256 % 256, (t.size : Int) % 256] ++ t
def wByte (st : ByteArray × Int) (n : Int) : ByteArray × Int := wPut st (byteB n) (decide (0 ≤ n) && decide (n ≤ 255)) 1
def wNum (st : ByteArray × Int) (n : Nat) : ByteArray × Int := wPut st (putB n) true 0
def wBlob (st : ByteArray × Int) (t : ByteArray) : ByteArray × Int := wPut st (blobB t) (decide ((t.size : Int) ≤ 4096)) 5
def wHash (st : ByteArray × Int) (t : ByteArray) : ByteArray × Int := wPut st t ((t.size : Int) == 16) 1
def wText (st : ByteArray × Int) : ByteArray := if st.2 = 0 then st.1 else ByteArray.empty

set_option maxHeartbeats 1000000 in
theorem put_w {w : World} {A : Nat} {st : ByteArray × Int} (h : WAt 27 w A st) (t : ByteArray) (right : Bool) (err : Int) (hs : st.1.size ≤ 1099511627776) (ht : t.size ≤ 1099511627776) :
    Calls Try.prog 53 #[.pointer (some ⟨A, 0, none⟩), .string t, .bool right, .int .i64 err] w fun e w' => e = .returned (.tuple #[]) ∧ WAt 27 w' A (wPut st t right err) ∧ Keeps [A] w w' := by
  have h0 := h.c0
  have h1 := h.c1
  have z0 := h.fz 0
  have z1 := h.fz 1
  obtain ⟨s, e⟩ := st
  dsimp only at hs h0 h1
  cases right with
  | true =>
    have hz : s.size + t.size ≤ 9223372036854775807 := by omega
    go_enter Try.func53, Try.ntmps53
    go_wp2
    go_end0
    exact ⟨rfl, h.put0 _, (Keeps.refl _ _).setCell (.inl (by simp)) _⟩
  | false =>
    by_cases he : e = 0
    · subst he
      go_enter Try.func53, Try.ntmps53
      go_wp2
      go_end0
      exact ⟨rfl, h.put1 _, (Keeps.refl _ _).setCell (.inl (by simp)) _⟩
    · have hb : (e == 0) = false := by simpa using he
      go_enter Try.func53, Try.ntmps53
      go_wp2
      go_end0
      exact ⟨rfl, by simpa [wPut, he] using h, Keeps.refl _ _⟩

theorem size_strOfNums (l : List Int) : (strOfNums l).size = l.length := strOfNums_size l

set_option maxHeartbeats 1000000 in
theorem byte_w {w : World} {A : Nat} {st : ByteArray × Int} (h : WAt 27 w A st) (n : Int) (hs : st.1.size ≤ 1099511627776) :
    Calls Try.prog 38 #[.pointer (some ⟨A, 0, none⟩), .int .i64 n] w fun e w' => e = .returned (.tuple #[]) ∧ WAt 27 w' A (wByte st n) ∧ Keeps [A] w w' := by
  have hcv := conv1
  have hsz : (byteB n).size ≤ 1099511627776 := by unfold byteB; rw [strOfNums_size]; simp
  have hA := h.lt
  have g := h.keep ((Keeps.refl [] w).alloc (.cells #[.int .u8 (n % 256)] 5)) (by simp)
  by_cases h0 : 0 ≤ n
  · have hd : decide (0 ≤ n) = true := by simpa using h0
    have R : Hid (wByte st n = wPut st (byteB n) (decide (n ≤ 255)) 1) := by simp [Hid, wByte, hd]
    go_enter Try.func38, Try.ntmps38
    go_wp2_with fail
    refine (put_w g (byteB n) (decide (n ≤ 255)) 1 hs hsz).mono ?_
    rintro e w' ⟨rfl, h1, k1⟩
    go_wp2
    go_end0
    exact ⟨rfl, by rw [R.out]; exact h1, ((Keeps.refl _ _).alloc _).trans k1⟩
  · have hd : decide (0 ≤ n) = false := by simpa using h0
    have R : Hid (wByte st n = wPut st (byteB n) false 1) := by simp [Hid, wByte, hd]
    go_enter Try.func38, Try.ntmps38
    go_wp2_with fail
    refine (put_w g (byteB n) false 1 hs hsz).mono ?_
    rintro e w' ⟨rfl, h1, k1⟩
    go_wp2
    go_end0
    exact ⟨rfl, by rw [R.out]; exact h1, ((Keeps.refl _ _).alloc _).trans k1⟩

set_option maxHeartbeats 1000000 in
theorem num_w {w : World} {A : Nat} {st : ByteArray × Int} (h : WAt 27 w A st) (n : Nat) (hn : n ≤ 18446744073709551615) (hs : st.1.size ≤ 1099511627776) :
    Calls Try.prog 36 #[.pointer (some ⟨A, 0, none⟩), .int .u64 n] w fun e w' => e = .returned (.tuple #[]) ∧ WAt 27 w' A (wNum st n) ∧ Keeps [A] w w' := by
  go_enter Try.func36, Try.ntmps36
  go_wp2_with fail
  refine (put_any n hn).mono ?_
  rintro e w1 ⟨rfl, k1⟩
  go_wp2_with fail
  refine (put_w (h.keep k1 (by simp)) (putB n) true 0 hs (by rw [size_putB]; omega)).mono ?_
  rintro e w' ⟨rfl, h1, k2⟩
  go_wp2
  go_end0
  exact ⟨rfl, h1, (k1.sub (by simp)).trans k2⟩

set_option maxHeartbeats 1000000 in
theorem blob_w {w : World} {A : Nat} {st : ByteArray × Int} (h : WAt 27 w A st) (t : ByteArray) (hs : st.1.size ≤ 1099511627776) (ht : t.size ≤ 549755813888) :
    Calls Try.prog 37 #[.pointer (some ⟨A, 0, none⟩), .string t] w fun e w' => e = .returned (.tuple #[]) ∧ WAt 27 w' A (wBlob st t) ∧ Keeps [A] w w' := by
  have hcv := conv2
  have hz : (strOfNums [(t.size : Int) / 256 % 256, (t.size : Int) % 256]).size + t.size ≤ 9223372036854775807 := by rw [strOfNums_size]; simp; omega
  go_enter Try.func37, Try.ntmps37
  go_wp2_with fail
  have g := h.keep ((Keeps.refl [] w).alloc (.cells #[.int .u8 ((t.size : Int) / 256 % 256), .int .u8 ((t.size : Int) % 256)] 5)) (by simp)
  refine (put_w g (blobB t) (decide ((t.size : Int) ≤ 4096)) 5 hs (by unfold blobB; rw [ByteArray.size_append, strOfNums_size]; simp; omega)).mono ?_
  rintro e w' ⟨rfl, h1, k1⟩
  go_wp2
  go_end0
  exact ⟨rfl, h1, ((Keeps.refl _ _).alloc _).trans k1⟩

theorem hash_w {w : World} {A : Nat} {st : ByteArray × Int} (h : WAt 27 w A st) (t : ByteArray) (hs : st.1.size ≤ 1099511627776) (ht : t.size ≤ 1099511627776) :
    Calls Try.prog 39 #[.pointer (some ⟨A, 0, none⟩), .string t] w fun e w' => e = .returned (.tuple #[]) ∧ WAt 27 w' A (wHash st t) ∧ Keeps [A] w w' := by
  go_enter Try.func39, Try.ntmps39
  go_wp2_with fail
  refine (put_w h t ((t.size : Int) == 16) 1 hs ht).mono ?_
  rintro e w' ⟨rfl, h1, k1⟩
  go_wp2
  go_end0
  exact ⟨rfl, h1, k1⟩

set_option maxHeartbeats 1000000 in
theorem text_w {w : World} {A : Nat} {st : ByteArray × Int} (h : WAt 27 w A st) :
    Calls Try.prog 16 #[.pointer (some ⟨A, 0, none⟩)] w fun e w' => e = .returned (.string (wText st)) ∧ w = w' := by
  have h0 := h.c0
  have h1 := h.c1
  by_cases he : st.2 = 0
  · have hb : (st.2 != 0) = false := by simpa using he
    have R : Hid (wText st = st.1) := by simp [Hid, wText, he]
    clear he
    go_enter Try.func16, Try.ntmps16
    go_wp2
    go_ret
    exact ⟨ret_str R.out.symm, rfl⟩
  · have hb : (st.2 != 0) = true := by simpa using he
    have R : Hid (wText st = ByteArray.empty) := by simp [Hid, wText, he]
    clear he
    go_enter Try.func16, Try.ntmps16
    go_wp2
    go_ret
    exact ⟨ret_str R.out.symm, rfl⟩

theorem err_w {w : World} {A : Nat} {st : ByteArray × Int} (h : WAt 27 w A st) :
    Calls Try.prog 18 #[.pointer (some ⟨A, 0, none⟩)] w fun e w' => e = .returned (.int .i64 st.2) ∧ w = w' := by
  have h1 := h.c1
  go_enter Try.func18, Try.ntmps18
  go_wp2
  go_ret
  exact ⟨rfl, rfl⟩
end Go.Proofs.Ytkmpefgaoagjjaa
