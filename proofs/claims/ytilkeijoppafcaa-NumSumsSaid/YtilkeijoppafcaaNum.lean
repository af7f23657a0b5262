/-
  The contracts of package num's Put and Get, and of the reference's: a number's bytes.
-/
import Derived.Test.YtilkeijoppafcaaBase
namespace Go.Proofs.Ytilkeijoppafcaa
open Go.RowKit

/-- The bytes of a number, the highest first: k of them. -/
def be : Nat → Nat → List UInt8
  | 0, _ => []
  | k + 1, n => UInt8.ofNat (n / 256 ^ k) :: be k n
/-- A number's eight bytes. -/
def putB (n : Nat) : ByteArray := ⟨(be 8 n).toArray⟩
/-- The number that bytes are. -/
def val : List UInt8 → Nat := List.foldl (fun n b => n * 256 + b.toNat) 0

theorem length_be (k n : Nat) : (be k n).length = k := by induction k <;> simp [be, *]
theorem size_putB (n : Nat) : (putB n).size = 8 := rfl
theorem val_snoc (l : List UInt8) (b : UInt8) : val (l ++ [b]) = val l * 256 + b.toNat := by simp [val]
theorem val_lt (l : List UInt8) : val l < 256 ^ l.length := by
  rw [← l.reverse_reverse]
  induction l.reverse with
  | nil => simp [val]
  | cons b r ih =>
    rw [List.reverse_cons, val_snoc, List.length_append, List.length_cons, List.length_nil, Nat.zero_add, Nat.pow_succ]
    have : b.toNat < 256 := b.toNat_lt
    omega

/-- 'string(b)' of a new row. -/
theorem conv_new {w : World} {n : Nat} (xs : List Int) (hn : n = w.heap.size) (cap : Nat) :
    (convert 45 9 (.slice (some ⟨n, 0, none⟩) xs.length cap)).run Try.prog (w.alloc (.cells (xs.map (Value.int .u8)).toArray 5)) = .ok (.string (strOfNums xs)) (w.alloc (.cells (xs.map (Value.int .u8)).toArray 5)) := by
  subst hn
  refine run_convert_bytes_arg _ 45 5 Try.underlying45 Try.underlying5 _ _ _ _ xs rfl (fun i hi => ?_) 9 Try.underlying9
  rw [Nat.zero_add, World.cell?_alloc_new]
  simp [List.getD, List.getElem?_eq_getElem hi]
theorem conv1 (w : World) (n : Nat) (x : Int) (hn : n = w.heap.size) : (convert 45 9 (.slice (some ⟨n, 0, none⟩) 1 1)).run Try.prog (w.alloc (.cells #[.int .u8 x] 5)) = .ok (.string (strOfNums [x])) (w.alloc (.cells #[.int .u8 x] 5)) :=
  conv_new [x] hn 1
theorem conv2 (w : World) (n : Nat) (x y : Int) (hn : n = w.heap.size) : (convert 45 9 (.slice (some ⟨n, 0, none⟩) 2 2)).run Try.prog (w.alloc (.cells #[.int .u8 x, .int .u8 y] 5)) = .ok (.string (strOfNums [x, y])) (w.alloc (.cells #[.int .u8 x, .int .u8 y] 5)) :=
  conv_new [x, y] hn 2
theorem conv8 (w : World) (n : Nat) (a b c d e f g h : Int) (hn : n = w.heap.size) : (convert 45 9 (.slice (some ⟨n, 0, none⟩) 8 8)).run Try.prog (w.alloc (.cells #[.int .u8 a, .int .u8 b, .int .u8 c, .int .u8 d, .int .u8 e, .int .u8 f, .int .u8 g, .int .u8 h] 5)) =
    .ok (.string (strOfNums [a, b, c, d, e, f, g, h])) (w.alloc (.cells #[.int .u8 a, .int .u8 b, .int .u8 c, .int .u8 d, .int .u8 e, .int .u8 f, .int .u8 g, .int .u8 h] 5)) :=
  conv_new [a, b, c, d, e, f, g, h] hn 8

theorem ofNat_mod (n : Nat) : UInt8.ofNat (n % 256) = UInt8.ofNat n := by
  apply UInt8.toNat_inj.1; simp

set_option maxHeartbeats 1000000 in
theorem put_any {w : World} (n : Nat) (hn : n ≤ 18446744073709551615) :
    Calls Try.prog 16 #[.int .u64 n] w fun e w' => e = .returned (.string (putB n)) ∧ Keeps [] w w' := by
  have hmk : ∀ w : World, (Instr.makeSlice 45 (.int .i64 8) (.int .i64 8)).run Try.prog w = .ok (.slice (some ⟨w.heap.size, 0, none⟩) 8 8) (w.alloc (.cells #[.int .u8 0, .int .u8 0, .int .u8 0, .int .u8 0, .int .u8 0, .int .u8 0, .int .u8 0, .int .u8 0] 5)) := fun _ => by kernel_rfl
  have hcv := conv8
  go_enter Try.func16, Try.ntmps16
  go_wp2
  refine wp_loop_rounds 9 ?_
  iterate 8 (rw [rounds_succ]; go_wp2)
  rw [rounds_succ]
  go_wp2
  go_ret
  refine ⟨ret_str ?_, (Keeps.refl _ _).alloc _⟩
  simp only [strOfNums, putB, List.map_cons, List.map_nil]
  congr 2
  have e : ∀ k : Nat, ((n : Int) / k % 256).toNat = n / k % 256 := fun k => by omega
  have e0 : ((n : Int) / 72057594037927936).toNat = n / 72057594037927936 := by omega
  have e8 : ((n : Int) % 256).toNat = n % 256 := by omega
  rw [e0, show ((n : Int) / 281474976710656 % 256).toNat = n / 281474976710656 % 256 from e 281474976710656, show ((n : Int) / 1099511627776 % 256).toNat = n / 1099511627776 % 256 from e 1099511627776,
    show ((n : Int) / 4294967296 % 256).toNat = n / 4294967296 % 256 from e 4294967296, show ((n : Int) / 16777216 % 256).toNat = n / 16777216 % 256 from e 16777216,
    show ((n : Int) / 65536 % 256).toNat = n / 65536 % 256 from e 65536, show ((n : Int) / 256 % 256).toNat = n / 256 % 256 from e 256, e8]
  simp only [ofNat_mod, be, Nat.reducePow, Nat.div_one]

/-- What holds at a round's head of Get's loop. -/
def GetRel (s : ByteArray) (w : World) (n i : Value) (wr : World) : Prop :=
  ∃ k : Nat, k ≤ 8 ∧ i = .int .i64 k ∧ n = .int .u64 (val (s.data.toList.take k)) ∧ w = wr

theorem take_snoc (s : ByteArray) (k : Nat) (h : k < s.size) : s.data.toList.take (k + 1) = s.data.toList.take k ++ [s[k]] := by
  rw [List.take_succ_eq_append_getElem (by simpa using h)]; rfl

theorem val_take_lt (s : ByteArray) (k : Nat) (h : k ≤ s.size) : val (s.data.toList.take k) < 256 ^ k := by
  have := val_lt (s.data.toList.take k)
  rw [List.length_take, Nat.min_eq_left (by simpa using h)] at this
  exact this

theorem or_byte (n b : Nat) (hb : b < 256) (hn : n < 72057594037927936) : bits .or .u64 (n * 256 : Int) b = ((n * 256 + b : Nat) : Int) := by
  have := u64_or_nat (n * 256) b (by omega) (by omega)
  rw [show ((n * 256 : Nat) : Int) = (n : Int) * 256 from by omega] at this
  rw [this, nat_join 8 _ _ (by omega) (by omega)]

set_option maxHeartbeats 1000000 in
theorem get_ok {w : World} (s : ByteArray) (hs : 8 ≤ s.size) :
    Calls Try.prog 12 #[.string s] w fun e w' => e = .returned (.tuple #[.int .u64 (val (s.data.toList.take 8)), .int .i64 0]) ∧ w = w' := by
  go_enter Try.func12, Try.ntmps12
  go_wp2
  go_loopw [4, 9] (fun n i wr => GetRel s w n i wr) (fun _ i _ => 8 - (intOf i).toNat)
  case atStart => exact ⟨0, by omega, rfl, rfl, rfl⟩
  case round =>
    obtain ⟨k, hk, rfl, rfl, rfl⟩ := hrel
    by_cases hlt : k < 8
    · have hks : k < s.size := by omega
      have h1 := val_take_lt s k (by omega)
      have h2 : 256 ^ k ≤ 72057594037927936 := by
        calc 256 ^ k ≤ 256 ^ 7 := Nat.pow_le_pow_right (by omega) (by omega)
          _ = 72057594037927936 := by decide
      have h3 : val (s.data.toList.take k) < 72057594037927936 := by omega
      have hb : s[k].toNat < 256 := s[k].toNat_lt
      have e1 := or_byte (val (s.data.toList.take k)) s[k].toNat hb h3
      have E : Hid (val (s.data.toList.take (k + 1)) = val (s.data.toList.take k) * 256 + s[k].toNat) := by
        show _ = _
        rw [take_snoc s k hks, val_snoc]
      clear h1 h2
      go_wp2
      go_roundw
      case rel => exact ⟨k + 1, by omega, by go_num, by rw [E.out]; first | rfl | rw [e1], rfl⟩
      case measure => simp [intOf]; omega
    · go_wp2
      go_ret2
      have : k = 8 := by omega
      subst this
      exact ⟨rfl, rfl⟩

set_option maxHeartbeats 1000000 in
theorem get_short {w : World} (s : ByteArray) (hs : s.size < 8) :
    Calls Try.prog 12 #[.string s] w fun e w' => e = .returned (.tuple #[.int .u64 0, .int .i64 3]) ∧ w = w' := by
  go_enter Try.func12, Try.ntmps12
  go_wp2
  go_ret2
  exact ⟨rfl, rfl⟩

set_option maxHeartbeats 1000000 in
theorem rget_short {w : World} (s : ByteArray) (hs : s.size < 8) :
    Calls Try.prog 13 #[.string s] w fun e w' => e = .returned (.tuple #[.int .u64 0, .int .i64 3]) ∧ w = w' := by
  go_enter Try.func13, Try.ntmps13
  go_wp2
  go_ret2
  exact ⟨rfl, rfl⟩

set_option maxHeartbeats 1000000 in
theorem rget_ok {w : World} (s : ByteArray) (hs : 8 ≤ s.size) :
    Calls Try.prog 13 #[.string s] w fun e w' => e = .returned (.tuple #[.int .u64 (val (s.data.toList.take 8)), .int .i64 0]) ∧ w = w' := by
  go_enter Try.func13, Try.ntmps13
  go_wp2
  go_loopw [4, 5] (fun n i wr => GetRel s w n i wr) (fun _ i _ => 8 - (intOf i).toNat)
  case atStart => exact ⟨0, by omega, rfl, rfl, rfl⟩
  case round =>
    obtain ⟨k, hk, rfl, rfl, rfl⟩ := hrel
    by_cases hlt : k < 8
    · have hks : k < s.size := by omega
      have h1 := val_take_lt s k (by omega)
      have h2 : 256 ^ k ≤ 72057594037927936 := by
        calc 256 ^ k ≤ 256 ^ 7 := Nat.pow_le_pow_right (by omega) (by omega)
          _ = 72057594037927936 := by decide
      have h3 : val (s.data.toList.take k) < 72057594037927936 := by omega
      have hb : s[k].toNat < 256 := s[k].toNat_lt
      have E : Hid (val (s.data.toList.take (k + 1)) = val (s.data.toList.take k) * 256 + s[k].toNat) := by
        show _ = _
        rw [take_snoc s k hks, val_snoc]
      clear h1 h2
      go_wp2
      go_roundw
      case rel => exact ⟨k + 1, by omega, by go_num, by rw [E.out]; first | rfl | go_num, rfl⟩
      case measure => simp [intOf]; omega
    · go_wp2
      go_ret2
      have : k = 8 := by omega
      subst this
      exact ⟨rfl, rfl⟩

/-- What holds at a round's head of the reference's Put. -/
def RPutRel (n0 : Nat) (w : World) (n s i : Value) (wr : World) : Prop :=
  ∃ k : Nat, k ≤ 8 ∧ i = .int .i64 k ∧ n = .int .u64 (n0 / 256 ^ k : Nat) ∧ s = .string ⟨(be k n0).toArray⟩ ∧ Keeps [] w wr

set_option maxHeartbeats 1000000 in
theorem rput_any {w : World} (n : Nat) (hn : n ≤ 18446744073709551615) :
    Calls Try.prog 17 #[.int .u64 n] w fun e w' => e = .returned (.string (putB n)) ∧ Keeps [] w w' := by
  have hcv := conv1
  go_enter Try.func17, Try.ntmps17
  go_wp2
  go_loopw [0, 3, 4] (fun m s i wr => RPutRel n w m s i wr) (fun _ _ i _ => 8 - (intOf i).toNat)
  case atStart => exact ⟨0, by omega, rfl, by rw [Nat.pow_zero, Nat.div_one], rfl, Keeps.refl _ _⟩
  case round =>
    obtain ⟨k, hk, rfl, rfl, rfl, hkp⟩ := hrel
    by_cases hlt : k < 8
    · have hsz : ({ data := (be k n).toArray } : ByteArray).size = k := by show (be k n).toArray.size = k; simp [length_be]
      have hle : n / 256 ^ k ≤ 18446744073709551615 := Nat.le_trans (Nat.div_le_self _ _) hn
      have hx : (strOfNums [((n / 256 ^ k : Nat) : Int) % 256]).size + ({ data := (be k n).toArray } : ByteArray).size ≤ 9223372036854775807 := by rw [strOfNums_size, hsz]; simp; omega
      have E1 : Hid (strOfNums [((n / 256 ^ k : Nat) : Int) % 256] ++ ({ data := (be k n).toArray } : ByteArray) = ⟨(be (k + 1) n).toArray⟩) := by
        show _ = _
        apply ba_ext
        rw [ByteArray.data_append, Array.toList_append, strOfNums_data]
        simp only [List.map_cons, List.map_nil, be, List.cons_append, List.nil_append]
        rw [show (((n / 256 ^ k : Nat) : Int) % 256).toNat = n / 256 ^ k % 256 from by omega, ofNat_mod]
      have E2 : Hid (n / 256 ^ k / 256 = n / 256 ^ (k + 1)) := by
        show _ = _
        rw [Nat.div_div_eq_div_mul, Nat.pow_succ]
      clear hsz
      generalize ({ data := (be k n).toArray } : ByteArray) = bs at *
      generalize n / 256 ^ k = m at *
      go_wp2
      go_roundw
      case rel => exact ⟨k + 1, by omega, by go_num, by rw [← E2.out]; rfl, by rw [← E1.out], hkp.alloc _⟩
      case measure => simp [intOf]; omega
    · go_wp2
      go_ret
      have : k = 8 := by omega
      subst this
      exact ⟨rfl, hkp⟩
end Go.Proofs.Ytilkeijoppafcaa
