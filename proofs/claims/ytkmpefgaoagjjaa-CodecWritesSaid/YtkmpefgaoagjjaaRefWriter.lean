/-
  The contracts of the reference's Writer: it writes what package codec's writes.
-/
import Derived.Test.YtkmpefgaoagjjaaWriter
import Derived.Deep.RegionHeld3
namespace Go.Proofs.Ytkmpefgaoagjjaa
open Go.RowKit

theorem conv_newd {w : World} {n : Nat} (xs : List Int) (hn : n = w.heap.size) (cap : Nat) :
    (convert 59 9 (.slice (some ⟨n, 0, none⟩) xs.length cap)).run Try.prog (w.alloc (.cells (xs.map (Value.int .u8)).toArray 5)).drew = .ok (.string (strOfNums xs)) (w.alloc (.cells (xs.map (Value.int .u8)).toArray 5)).drew := by
  subst hn
  refine run_convert_bytes_arg _ 59 5 Try.underlying59 Try.underlying5 _ _ _ _ xs rfl (fun i hi => ?_) 9 Try.underlying9
  rw [Nat.zero_add, World.cell?_drew, World.cell?_alloc_new]
  simp [List.getD, List.getElem?_eq_getElem hi]
theorem conv1d (w : World) (n : Nat) (x : Int) (hn : n = w.heap.size) : (convert 59 9 (.slice (some ⟨n, 0, none⟩) 1 1)).run Try.prog (w.alloc (.cells #[.int .u8 x] 5)).drew = .ok (.string (strOfNums [x])) (w.alloc (.cells #[.int .u8 x] 5)).drew :=
  conv_newd [x] hn 1
theorem conv2d (w : World) (n : Nat) (x y : Int) (hn : n = w.heap.size) : (convert 59 9 (.slice (some ⟨n, 0, none⟩) 2 2)).run Try.prog (w.alloc (.cells #[.int .u8 x, .int .u8 y] 5)).drew = .ok (.string (strOfNums [x, y])) (w.alloc (.cells #[.int .u8 x, .int .u8 y] 5)).drew :=
  conv_newd [x, y] hn 2

def wFail (st : ByteArray × Int) (err : Int) : ByteArray × Int := (st.1, if st.2 = 0 then err else st.2)

set_option maxHeartbeats 1000000 in
theorem fail_r {w : World} {A : Nat} {st : ByteArray × Int} (h : WAt 30 w A st) (err : Int) :
    Calls Try.prog 40 #[.pointer (some ⟨A, 0, none⟩), .int .i64 err] w fun e w' => e = .returned (.tuple #[]) ∧ WAt 30 w' A (wFail st err) ∧ Keeps [A] w w' := by
  have h1 := h.c1
  have z1 := h.fz 1
  obtain ⟨s, e⟩ := st
  dsimp only at h1
  by_cases he : e = 0
  · subst he
    go_enter Try.func40, Try.ntmps40
    go_wp2
    go_end0
    exact ⟨rfl, h.put1 _, (Keeps.refl _ _).setCell (.inl (by simp)) _⟩
  · have hb : (e == 0) = false := by simpa using he
    go_enter Try.func40, Try.ntmps40
    go_wp2
    go_end0
    exact ⟨rfl, by simpa [wFail, he] using h, Keeps.refl _ _⟩

set_option maxHeartbeats 1000000 in
theorem byte_r {w : World} {A : Nat} {st : ByteArray × Int} (h : WAt 30 w A st) (n : Int) (hs : st.1.size ≤ 1099511627776) :
    Calls Try.prog 12 #[.pointer (some ⟨A, 0, none⟩), .int .i64 n] w fun e w' => e = .returned (.tuple #[]) ∧ WAt 30 w' A (wByte st n) ∧ Keeps [A] w w' := by
  have hcv := conv1
  have hcvd := conv1d
  have hA := h.lt
  have h0 := h.c0
  have z0 := h.fz 0
  by_cases hin : 0 ≤ n ∧ n ≤ 255
  · have R : Hid (wByte st n = (st.1 ++ strOfNums [n], st.2)) := by
      have e : n % 256 = n := by omega
      simp [Hid, wByte, wPut, hin, byteB, e]
    obtain ⟨hn0, hn1⟩ := hin
    have hzz : ¬ 9223372036854775807 < st.1.size + (strOfNums [n]).size := by rw [strOfNums_size]; simp; omega
    go_enter Try.func12, Try.ntmps12
    go_wp2
    go_region
    go_wp2
    go_end0
    exact ⟨rfl, by rw [R.out]; exact (h.put0 _).keep (S := []) (((Keeps.refl _ _).alloc _).drew) (by simp), (((Keeps.refl _ _).setCell (.inl (by simp)) _).alloc _).drew⟩
  · have R : Hid (wByte st n = wFail st 1) := by
      have : (decide (0 ≤ n) && decide (n ≤ 255)) = false := by simpa using hin
      simp [Hid, wByte, wPut, this, wFail]
    have hor : n < 0 ∨ (¬ n < 0 ∧ 255 < n) := by omega
    clear hin
    rcases hor with h1 | ⟨h1, h2⟩
    all_goals
      go_enter Try.func12, Try.ntmps12
      go_wp2_with fail
      refine (fail_r h 1).mono ?_
      rintro e w' ⟨rfl, g1, k1⟩
      go_wp2
      refine bodyPost_ret (results_none rfl _ _ _) rfl ?_
      exact ⟨rfl, by rw [R.out]; exact g1, k1⟩

set_option maxHeartbeats 1000000 in
theorem num_r {w : World} {A : Nat} {st : ByteArray × Int} (h : WAt 30 w A st) (n : Nat) (hn : n ≤ 18446744073709551615) (hs : st.1.size ≤ 1099511627776) :
    Calls Try.prog 13 #[.pointer (some ⟨A, 0, none⟩), .int .u64 n] w fun e w' => e = .returned (.tuple #[]) ∧ WAt 30 w' A (wNum st n) ∧ Keeps [A] w w' := by
  have hA := h.lt
  have h0 := h.c0
  have z0 := h.fz 0
  have hz2 : st.1.size + (putB n).size ≤ 9223372036854775807 := by rw [size_putB]; omega
  have hzz : ¬ 9223372036854775807 < st.1.size + (putB n).size := by omega
  go_enter Try.func13, Try.ntmps13
  go_wp2
  go_region_with (go_at_call 41; refine (rput_any n hn).mono ?_; rintro e w1 ⟨rfl, k1⟩; have c1 := (k1.cell hA (by simp)).trans h0; have z1 := (k1.frozen hA (by simp)).trans z0)
  all_goals go_wp2
  all_goals go_end0
  all_goals first
    | exact ⟨rfl, (h.keep (((Keeps.refl [] w).drew).trans k1) (by simp)).put0 _, ((((Keeps.refl _ _).drew).trans (k1.sub (by simp))).setCell (.inl (by simp)) _)⟩
    | exact ⟨rfl, (h.keep k1 (by simp)).put0 _, ((k1.sub (by simp)).setCell (.inl (by simp)) _)⟩
    | exact ⟨rfl, (h.keep ((k1).drew) (by simp)).put0 _, (((k1.sub (by simp)).drew).setCell (.inl (by simp)) _)⟩

set_option maxHeartbeats 1000000 in
theorem blob_r {w : World} {A : Nat} {st : ByteArray × Int} (h : WAt 30 w A st) (t : ByteArray) (hs : st.1.size ≤ 1099511627776) (ht : t.size ≤ 549755813888) :
    Calls Try.prog 14 #[.pointer (some ⟨A, 0, none⟩), .string t] w fun e w' => e = .returned (.tuple #[]) ∧ WAt 30 w' A (wBlob st t) ∧ Keeps [A] w w' := by
  have hcv := conv2
  have hcvd := conv2d
  have hA := h.lt
  have h0 := h.c0
  have z0 := h.fz 0
  by_cases h4 : t.size ≤ 4096
  · have R : Hid (wBlob st t = (st.1 ++ (strOfNums [(t.size : Int) / 256, (t.size : Int) % 256] ++ t), st.2)) := by
      have e : (t.size : Int) / 256 % 256 = (t.size : Int) / 256 := by omega
      have h4' : (t.size : Int) ≤ 4096 := by omega
      simp [Hid, wBlob, wPut, blobB, e, h4']
    have hz1 : ¬ 9223372036854775807 < (strOfNums [(t.size : Int) / 256, (t.size : Int) % 256]).size + t.size := by rw [strOfNums_size]; simp; omega
    have hz2 : ¬ 9223372036854775807 < st.1.size + (strOfNums [(t.size : Int) / 256, (t.size : Int) % 256] ++ t).size := by rw [ByteArray.size_append, strOfNums_size]; simp; omega
    go_enter Try.func14, Try.ntmps14
    go_wp2
    go_region
    go_wp2
    go_end0
    exact ⟨rfl, by rw [R.out]; exact (h.put0 _).keep (S := []) (((Keeps.refl _ _).alloc _).drew) (by simp), (((Keeps.refl _ _).setCell (.inl (by simp)) _).alloc _).drew⟩
  · have R : Hid (wBlob st t = wFail st 5) := by
      have h4' : ¬ (t.size : Int) ≤ 4096 := by omega
      simp [Hid, wBlob, wPut, h4', wFail]
    go_enter Try.func14, Try.ntmps14
    go_wp2_with fail
    refine (fail_r h 5).mono ?_
    rintro e w' ⟨rfl, g1, k1⟩
    go_wp2
    refine bodyPost_ret (results_none rfl _ _ _) rfl ?_
    exact ⟨rfl, by rw [R.out]; exact g1, k1⟩

set_option maxHeartbeats 1000000 in
theorem hash_r {w : World} {A : Nat} {st : ByteArray × Int} (h : WAt 30 w A st) (t : ByteArray) (hs : st.1.size ≤ 1099511627776) (ht : t.size ≤ 1099511627776) :
    Calls Try.prog 15 #[.pointer (some ⟨A, 0, none⟩), .string t] w fun e w' => e = .returned (.tuple #[]) ∧ WAt 30 w' A (wHash st t) ∧ Keeps [A] w w' := by
  have h0 := h.c0
  have z0 := h.fz 0
  have hz : st.1.size + t.size ≤ 9223372036854775807 := by omega
  by_cases h4 : (t.size : Int) = 16
  · have hb : ((t.size : Int) != 16) = false := by simpa using h4
    have R : Hid (wHash st t = (st.1 ++ t, st.2)) := by simp [Hid, wHash, wPut, h4]
    clear h4
    go_enter Try.func15, Try.ntmps15
    go_wp2
    go_end0
    exact ⟨rfl, by rw [R.out]; exact h.put0 _, (Keeps.refl _ _).setCell (.inl (by simp)) _⟩
  · have hb : ((t.size : Int) != 16) = true := by simpa using h4
    have R : Hid (wHash st t = wFail st 1) := by simp [Hid, wHash, wPut, h4, wFail]
    clear h4
    go_enter Try.func15, Try.ntmps15
    go_wp2_with fail
    refine (fail_r h 1).mono ?_
    rintro e w' ⟨rfl, g1, k1⟩
    go_wp2
    refine bodyPost_ret (results_none rfl _ _ _) rfl ?_
    exact ⟨rfl, by rw [R.out]; exact g1, k1⟩

set_option maxHeartbeats 1000000 in
theorem text_r {w : World} {A : Nat} {st : ByteArray × Int} (h : WAt 30 w A st) :
    Calls Try.prog 17 #[.pointer (some ⟨A, 0, none⟩)] w fun e w' => e = .returned (.string (wText st)) ∧ w = w' := by
  have h0 := h.c0
  have h1 := h.c1
  by_cases he : st.2 = 0
  · have hb : (st.2 != 0) = false := by simpa using he
    have R : Hid (wText st = st.1) := by simp [Hid, wText, he]
    clear he
    go_enter Try.func17, Try.ntmps17
    go_wp2
    go_ret
    exact ⟨ret_str R.out.symm, rfl⟩
  · have hb : (st.2 != 0) = true := by simpa using he
    have R : Hid (wText st = ByteArray.empty) := by simp [Hid, wText, he]
    clear he
    go_enter Try.func17, Try.ntmps17
    go_wp2
    go_ret
    exact ⟨ret_str R.out.symm, rfl⟩
end Go.Proofs.Ytkmpefgaoagjjaa
