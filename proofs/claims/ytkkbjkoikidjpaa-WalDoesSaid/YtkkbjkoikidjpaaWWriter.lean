/-
  The contracts of package codec's Writer, and of the reference's: what was written, and the first error.
-/
import Derived.Test.YtkkbjkoikidjpaaWConv
namespace Go.Proofs.Ytkkbjkoikidjpaa
open Go.RowKit

/-- A writer at block A (of type t): what was written, the first error. -/
structure WAt (t : TypeId) (w : World) (A : Nat) (st : ByteArray × Int) : Prop where
  h : w.heap[A]? = some (.cells #[.string st.1, .int .i64 st.2] t (0, 0))
namespace WAt
variable {t : TypeId} {w : World} {A : Nat} {st : ByteArray × Int}
theorem c0 (h : WAt t w A st) : w.cell? ⟨A, 0, none⟩ = some (.string st.1) := by rw [cell_of_heap h.h]; rfl
theorem c1 (h : WAt t w A st) : w.cell? ⟨A, 1, none⟩ = some (.int .i64 st.2) := by rw [cell_of_heap h.h]; rfl
theorem fz (h : WAt t w A st) (o : Nat) : w.frozen? ⟨A, o, none⟩ = false := frozen_of_heap h.h
theorem lt (h : WAt t w A st) : A < w.heap.size := lt_of_heap h.h
theorem keep {w' : World} {S : List Nat} (h : WAt t w A st) (k : Keeps S w w') (hA : A ∉ S) : WAt t w' A st := ⟨k.heap hA h.h⟩
theorem put0 (h : WAt t w A st) (s : ByteArray) : WAt t (w.setCell ⟨A, 0, none⟩ (.string s)) A (s, st.2) := ⟨by rw [heap_setCell_same h.h]; rfl⟩
theorem put1 (h : WAt t w A st) (e : Int) : WAt t (w.setCell ⟨A, 1, none⟩ (.int .i64 e)) A (st.1, e) := ⟨by rw [heap_setCell_same h.h]; rfl⟩
end WAt

def wPut (st : ByteArray × Int) (t : ByteArray) (right : Bool) (err : Int) : ByteArray × Int := if right then (st.1 ++ t, st.2) else (st.1, if st.2 = 0 then err else st.2)
def blobB (t : ByteArray) : ByteArray := strOfNums [(t.size : Int) / 256 % 256, (t.size : Int) % 256] ++ t
def wBlob (st : ByteArray × Int) (t : ByteArray) : ByteArray × Int := wPut st (blobB t) (decide ((t.size : Int) ≤ 4096)) 5
def wText (st : ByteArray × Int) : ByteArray := if st.2 = 0 then st.1 else ByteArray.empty

set_option maxHeartbeats 1000000 in
theorem put_w {w : World} {A : Nat} {st : ByteArray × Int} (h : WAt 80 w A st) (t : ByteArray) (right : Bool) (err : Int) (hs : st.1.size ≤ 1099511627776) (ht : t.size ≤ 1099511627776) :
    Calls Try.prog 59 #[.pointer (some ⟨A, 0, none⟩), .string t, .bool right, .int .i64 err] w fun e w' => e = .returned (.tuple #[]) ∧ WAt 80 w' A (wPut st t right err) ∧ Keeps [A] w w' := by
  have h0 := h.c0
  have h1 := h.c1
  have z0 := h.fz 0
  have z1 := h.fz 1
  obtain ⟨s, e⟩ := st
  dsimp only at hs h0 h1
  cases right with
  | true =>
    have hz : s.size + t.size ≤ 9223372036854775807 := by omega
    go_enter Try.func59, Try.ntmps59
    go_wp2
    go_end0
    exact ⟨rfl, h.put0 _, (Keeps.refl _ _).setCell (.inl (by simp)) _⟩
  | false =>
    by_cases he : e = 0
    · subst he
      go_enter Try.func59, Try.ntmps59
      go_wp2
      go_end0
      exact ⟨rfl, h.put1 _, (Keeps.refl _ _).setCell (.inl (by simp)) _⟩
    · have hb : (e == 0) = false := by simpa using he
      go_enter Try.func59, Try.ntmps59
      go_wp2
      go_end0
      exact ⟨rfl, by simpa [wPut, he] using h, Keeps.refl _ _⟩

theorem size_strOfNums (l : List Int) : (strOfNums l).size = l.length := strOfNums_size l

set_option maxHeartbeats 1000000 in
theorem blob_w {w : World} {A : Nat} {st : ByteArray × Int} (h : WAt 80 w A st) (t : ByteArray) (hs : st.1.size ≤ 1099511627776) (ht : t.size ≤ 549755813888) :
    Calls Try.prog 52 #[.pointer (some ⟨A, 0, none⟩), .string t] w fun e w' => e = .returned (.tuple #[]) ∧ WAt 80 w' A (wBlob st t) ∧ Keeps [A] w w' := by
  have hcv := conv2
  have hz : (strOfNums [(t.size : Int) / 256 % 256, (t.size : Int) % 256]).size + t.size ≤ 9223372036854775807 := by rw [strOfNums_size]; simp; omega
  go_enter Try.func52, Try.ntmps52
  go_wp2_with fail
  have g := h.keep ((Keeps.refl [] w).alloc (.cells #[.int .u8 ((t.size : Int) / 256 % 256), .int .u8 ((t.size : Int) % 256)] 5)) (by simp)
  refine (put_w g (blobB t) (decide ((t.size : Int) ≤ 4096)) 5 hs (by unfold blobB; rw [ByteArray.size_append, strOfNums_size]; simp; omega)).mono ?_
  rintro e w' ⟨rfl, h1, k1⟩
  go_wp2
  go_end0
  exact ⟨rfl, h1, ((Keeps.refl _ _).alloc _).trans k1⟩

set_option maxHeartbeats 1000000 in
theorem text_w {w : World} {A : Nat} {st : ByteArray × Int} (h : WAt 80 w A st) :
    Calls Try.prog 53 #[.pointer (some ⟨A, 0, none⟩)] w fun e w' => e = .returned (.string (wText st)) ∧ w = w' := by
  have h0 := h.c0
  have h1 := h.c1
  by_cases he : st.2 = 0
  · have hb : (st.2 != 0) = false := by simpa using he
    have R : Hid (wText st = st.1) := by simp [Hid, wText, he]
    clear he
    go_enter Try.func53, Try.ntmps53
    go_wp2
    go_ret
    exact ⟨ret_str R.out.symm, rfl⟩
  · have hb : (st.2 != 0) = true := by simpa using he
    have R : Hid (wText st = ByteArray.empty) := by simp [Hid, wText, he]
    clear he
    go_enter Try.func53, Try.ntmps53
    go_wp2
    go_ret
    exact ⟨ret_str R.out.symm, rfl⟩

end Go.Proofs.Ytkkbjkoikidjpaa
