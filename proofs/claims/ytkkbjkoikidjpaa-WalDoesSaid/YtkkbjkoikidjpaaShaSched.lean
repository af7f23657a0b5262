/-
  schedule.
-/
import Derived.Test.YtkkbjkoikidjpaaSha
import Derived.Deep.DeepCutAuto
import Derived.Deep.CutBlock
import Derived.Deep.RegionHeld3
import Derived.Laws.IdiomStrings
namespace Go.Proofs.Ytkkbjkoikidjpaa
open Go.RowKit

def sByte (v c : Int) : Int := bits .or .u32 (v * 256 % 4294967296) c
def strByte (s : ByteArray) (i : Nat) : Int := ((s.data[i]?.getD 0).toNat : Int)
/-- Word t, behind so many of its bytes. -/
def sIn (s : ByteArray) (t : Nat) : Nat → List Int → List Int
  | 0, l => l
  | j + 1, l => (sIn s t j l).set t (sByte ((sIn s t j l)[t]?.getD 0) (strByte s (4 * t + j)))
def sRows (s : ByteArray) : Nat → List Int
  | 0 => List.replicate 64 0
  | t + 1 => sIn s t 4 (sRows s t)
theorem sIn_len (s : ByteArray) (t : Nat) : ∀ (j : Nat) (l : List Int), (sIn s t j l).length = l.length
  | 0, _ => rfl
  | j + 1, l => by rw [sIn, List.length_set, sIn_len s t j l]
theorem sRows_len (s : ByteArray) : ∀ t, (sRows s t).length = 64
  | 0 => by simp [sRows]
  | t + 1 => by rw [sRows, sIn_len, sRows_len s t]
theorem sIn_rng (s : ByteArray) (t : Nat) : ∀ (j : Nat) (l : List Int), AllU l → AllU (sIn s t j l)
  | 0, _, h => h
  | j + 1, l, h => allU_set (sIn_rng s t j l h) (bits_rng _ _ _)
theorem allU_zeros (n : Nat) : AllU (List.replicate n 0) := by
  intro i
  by_cases h : i < n
  · simp [h, U32]
  · rw [List.getElem?_eq_none (by simp; omega)]; exact ⟨by decide, by decide⟩
theorem sRows_rng (s : ByteArray) : ∀ t, AllU (sRows s t)
  | 0 => allU_zeros 64
  | t + 1 => sIn_rng s t 4 _ (sRows_rng s t)

theorem Keeps.new {a b c : World} {S : List Nat} (h : Keeps [] a b) (k : Keeps S b c) (hS : ∀ x ∈ S, a.heap.size ≤ x) : Keeps [] a c :=
  ⟨k.os.trans h.os, k.tape.trans h.tape, k.output.trans h.output, Nat.le_trans h.size k.size, fun j hj hn => (k.block j (Nat.lt_of_lt_of_le hj h.size) (fun hm => by have := hS j hm; omega)).trans (h.block j hj hn)⟩

/-- '[]byte(s)'. -/
theorem bytes_conv (w : World) (s : ByteArray) :
    ∃ (cap : Nat) (w' : World), Sem.run Try.prog (convert 9 84 (.string s)) w = .ok (.slice (some ⟨w.heap.size, 0, none⟩) s.size cap) w' ∧ Keeps [] w w' ∧ w.heap.size < w'.heap.size ∧
      ∀ j, j < s.size → w'.cell? ⟨w.heap.size, j, none⟩ = some (.int .u8 (strByte s j)) := by
  refine ⟨_, _, run_bytes_of_string w 9 84 5 s Try.underlying9 Try.underlying84 Try.underlying5, ((Keeps.refl _ _).drew).alloc _, by simp, fun j hj => ?_⟩
  refine (cell_of_heap (w := w.drew.alloc _) (b := w.drew.heap.size) heap_alloc_same).trans ?_
  unfold bytesRow strByte
  rw [Array.getElem?_append_left (by simpa using hj)]
  have hj2 : j < s.data.size := hj
  rw [Array.getElem?_map, Array.getElem?_eq_getElem hj2]
  rfl
theorem strByte_part (s : ByteArray) (a b j : Nat) (h : a + j < b) (hb : b ≤ s.size) : strByte (s.extract a b) j = strByte s (a + j) := by
  unfold strByte
  rw [ByteArray.data_extract, Array.getElem?_extract]
  rw [if_pos (by have : s.data.size = s.size := rfl; omega)]
theorem strByte_rng (s : ByteArray) (i : Nat) : 0 ≤ strByte s i ∧ strByte s i ≤ 255 := by
  unfold strByte
  have := (s.data[i]?.getD 0).toNat_lt
  omega

def SchedRel (w0 : World) (s : ByteArray) (W : Nat) (v : Value) (wr : World) : Prop := ∃ k : Nat, k ≤ 16 ∧ v = .int .i64 k ∧ WordsAt 115 wr W (sRows s k) ∧ Keeps [] w0 wr
def InRel (w0 : World) (s : ByteArray) (W t : Nat) (l : List Int) (v : Value) (wr : World) : Prop := ∃ j : Nat, j ≤ 4 ∧ v = .int .i64 j ∧ WordsAt 115 wr W (sIn s t j l) ∧ Keeps [W] w0 wr

def sWord (x y p q : Int) : Int :=
  IntKind.u32.wrap (IntKind.u32.wrap (IntKind.u32.wrap (bits .xor .u32 (bits .xor .u32 (sTurn y 17) (sTurn y 19)) (y / 1024) + p) + bits .xor .u32 (bits .xor .u32 (sTurn x 7) (sTurn x 18)) (x / 8)) + q)
def sNext (l : List Int) (t : Nat) : Int := sWord (l[t - 15]?.getD 0) (l[t - 2]?.getD 0) (l[t - 7]?.getD 0) (l[t - 16]?.getD 0)
def sMore : Nat → List Int → List Int
  | 0, l => l
  | n + 1, l => (sMore n l).set (16 + n) (sNext (sMore n l) (16 + n))
theorem sWord_rng (x y p q : Int) : U32 (sWord x y p q) := bounds_u32 (wf_wrap .u32 _)
theorem sMore_len : ∀ (n : Nat) (l : List Int), (sMore n l).length = l.length
  | 0, _ => rfl
  | n + 1, l => by rw [sMore, List.length_set, sMore_len n l]
theorem sMore_rng : ∀ (n : Nat) (l : List Int), AllU l → AllU (sMore n l)
  | 0, _, h => h
  | n + 1, l, h => allU_set (sMore_rng n l h) (sWord_rng _ _ _ _)
def sSched (s : ByteArray) : List Int := sMore 48 (sRows s 16)
theorem sSched_len (s : ByteArray) : (sSched s).length = 64 := by rw [sSched, sMore_len, sRows_len]
theorem sSched_rng (s : ByteArray) : AllU (sSched s) := sMore_rng _ _ (sRows_rng s 16)
def MoreRel (w0 : World) (W : Nat) (l : List Int) (v : Value) (wr : World) : Prop := ∃ k : Nat, 16 ≤ k ∧ k ≤ 64 ∧ v = .int .i64 k ∧ WordsAt 115 wr W (sMore (k - 16) l) ∧ Keeps [] w0 wr

set_option maxRecDepth 100000 in
set_option maxHeartbeats 4000000 in
theorem schedule_c {w : World} (s : ByteArray) (hs : s.size = 64) : Calls Try.prog 80 #[.string s] w fun e w' => ∃ W, e = .returned (.pointer (some ⟨W, 0, none⟩)) ∧ w.heap.size ≤ W ∧ WordsAt 115 w' W (sSched s) ∧ Keeps [] w w' := by
  go_enter Try.func80, Try.ntmps80
  go_wp2
  obtain ⟨w1, hw1⟩ : ∃ w1, w1 = w.alloc (.cells ((List.replicate 64 0).map (Value.int .u32)).toArray 115) := ⟨_, rfl⟩
  have h1 : WordsAt 115 w1 w.heap.size (sRows s 0) := ⟨by rw [hw1]; exact heap_alloc_same⟩
  have K1 : Keeps [] w w1 := by rw [hw1]; exact (Keeps.refl _ _).alloc _
  rw [show (List.map (Value.int IntKind.u32) (List.replicate 64 0)).toArray = #[.int .u32 0, .int .u32 0, .int .u32 0, .int .u32 0, .int .u32 0, .int .u32 0, .int .u32 0, .int .u32 0, .int .u32 0, .int .u32 0, .int .u32 0, .int .u32 0, .int .u32 0, .int .u32 0, .int .u32 0, .int .u32 0, .int .u32 0, .int .u32 0, .int .u32 0, .int .u32 0, .int .u32 0, .int .u32 0, .int .u32 0, .int .u32 0, .int .u32 0, .int .u32 0, .int .u32 0, .int .u32 0, .int .u32 0, .int .u32 0, .int .u32 0, .int .u32 0, .int .u32 0, .int .u32 0, .int .u32 0, .int .u32 0, .int .u32 0, .int .u32 0, .int .u32 0, .int .u32 0, .int .u32 0, .int .u32 0, .int .u32 0, .int .u32 0, .int .u32 0, .int .u32 0, .int .u32 0, .int .u32 0, .int .u32 0, .int .u32 0, .int .u32 0, .int .u32 0, .int .u32 0, .int .u32 0, .int .u32 0, .int .u32 0, .int .u32 0, .int .u32 0, .int .u32 0, .int .u32 0, .int .u32 0, .int .u32 0, .int .u32 0, .int .u32 0] from rfl] at hw1
  rw [← hw1]
  obtain ⟨W, hW⟩ : ∃ W, W = w.heap.size := ⟨_, rfl⟩
  have hWw : w.heap.size ≤ W := by omega
  rw [← hW] at h1 ⊢
  clear hW hw1
  go_loopw [10] (fun v wr => SchedRel w s W v wr) (fun v _ => 16 - (intOf v).toNat)
  case atStart => exact ⟨0, by omega, rfl, h1, K1⟩
  case round =>
    clear h1 K1
    obtain ⟨t, ht, rfl, h, K⟩ := hrel
    by_cases hlt : t < 16
    · have hsz : (s.extract (4 * t) (4 * t + 4)).size = 4 := by rw [ByteArray.size_extract]; omega
      obtain ⟨cap, w5, hconv, k5, hg, hc⟩ := bytes_conv wr (s.extract (4 * t) (4 * t + 4))
      have hsz2 : s.size = 64 := hs
      rw [hsz] at hconv hc
      have hc2 : ∀ j, j < 4 → w5.cell? ⟨wr.heap.size, j, none⟩ = some (.int .u8 (strByte s (4 * t + j))) := fun j hj => by
        rw [hc j hj, strByte_part s _ _ _ (by omega) (by omega)]
      clear hc hsz
      have h5 := h.keep k5 (by simp)
      have hWg := h.lt
      have K5 := K.trans k5
      have hlen := sRows_len s t
      have hrng := sRows_rng s t
      obtain ⟨g, hgg⟩ : ∃ g, g = wr.heap.size := ⟨_, rfl⟩
      rw [← hgg] at hconv hc2 hWg hg
      clear hgg h K k5
      go_wp2_with fail
      go_loopw [22] (fun v wr => InRel w5 s W t (sRows s t) v wr) (fun v _ => 4 - (intOf v).toNat)
      case atStart => exact ⟨0, by omega, rfl, h5, Keeps.refl _ _⟩
      case round =>
        clear hconv
        obtain ⟨j, hj, rfl, h6, K6⟩ := hrel
        by_cases hlj : j < 4
        · have e1 := (K6.cell hg (by simp; omega)).trans (hc2 j hlj)
          have e2 := h6.cell (i := t) (by rw [sIn_len, hlen]; omega)
          have e3 := h6.fz t
          have hb := strByte_rng s (4 * t + j)
          have hl6 := sIn_rng s t j _ hrng t
          generalize hx : (sIn s t j (sRows s t))[t]?.getD 0 = x at *
          generalize hy : strByte s (4 * t + j) = y at *
          have HX := Go.Lib.hid hx
          have HY := Go.Lib.hid hy
          clear hx hy
          obtain ⟨hb1, hb2⟩ := hb
          obtain ⟨hl1, hl2⟩ := hl6
          go_wp2_with fail
          refine ⟨⟨j + 1, by omega, by go_num, ?_, K6.setCell (.inl (by simp)) _⟩, by simp [intOf]; omega⟩
          rw [sIn, HX.out, HY.out]
          exact h6.set (sByte x y)
        · obtain rfl : j = 4 := by omega
          go_wp2_with fail
          refine ⟨⟨t + 1, by omega, by go_num, h6, K5.new K6 (by simp; omega)⟩, by simp [intOf]; omega⟩
    · obtain rfl : t = 16 := by omega
      generalize hl : sRows s 16 = l0 at *
      have hlen : l0.length = 64 := by rw [← hl]; exact sRows_len s 16
      have hrng : AllU l0 := by rw [← hl]; exact sRows_rng s 16
      have HL := Go.Lib.hid hl
      clear hl
      go_wp2_with fail
      rw [show ((16 : Nat) : Int) = 16 from rfl]
      go_loopw [7] (fun v wr => MoreRel w W l0 v wr) (fun v _ => 64 - (intOf v).toNat)
      case atStart => exact ⟨16, by omega, by omega, rfl, h, K⟩
      case round =>
        clear h K
        obtain ⟨k, hk1, hk2, rfl, h, K⟩ := hrel
        by_cases hlt : k < 64
        · have hlen2 := sMore_len (k - 16) l0
          have hrng2 := sMore_rng (k - 16) l0 hrng
          rw [hlen] at hlen2
          generalize hm : sMore (k - 16) l0 = l at *
          have HM := Go.Lib.hid hm
          clear hm hlen hrng
          obtain ⟨a, ea, ea2⟩ : ∃ a : Nat, (k : Int) - 15 = (a : Int) ∧ a + 15 = k := ⟨k - 15, by omega, by omega⟩
          obtain ⟨b, eb, eb2⟩ : ∃ a : Nat, (k : Int) - 2 = (a : Int) ∧ a + 2 = k := ⟨k - 2, by omega, by omega⟩
          obtain ⟨c, ec, ec2⟩ : ∃ a : Nat, (k : Int) - 7 = (a : Int) ∧ a + 7 = k := ⟨k - 7, by omega, by omega⟩
          obtain ⟨d, ed, ed2⟩ : ∃ a : Nat, (k : Int) - 16 = (a : Int) ∧ a + 16 = k := ⟨k - 16, by omega, by omega⟩
          have ha := h.cell (i := a) (by omega)
          have hb := h.cell (i := b) (by omega)
          obtain ⟨hx1, hx2⟩ := hrng2 a
          obtain ⟨hy1, hy2⟩ := hrng2 b
          obtain ⟨hp1, hp2⟩ := hrng2 c
          obtain ⟨hq1, hq2⟩ := hrng2 d
          have HC := Go.Lib.hid (show ∀ (w' : World) (v : Int), WordsAt 115 w' W (l.set k v) → w'.cell? ⟨W, c, none⟩ = some (.int .u32 (l[c]?.getD 0)) from fun w' v h => by
            have := h.cell (i := c) (by simp; omega)
            rw [List.getElem?_set_ne (by omega)] at this; exact this)
          have HD := Go.Lib.hid (show ∀ (w' : World) (v : Int), WordsAt 115 w' W (l.set k v) → w'.cell? ⟨W, d, none⟩ = some (.int .u32 (l[d]?.getD 0)) from fun w' v h => by
            have := h.cell (i := d) (by simp; omega)
            rw [List.getElem?_set_ne (by omega)] at this; exact this)
          have HE := Go.Lib.hid (show ∀ (w' : World) (v : Int), WordsAt 115 w' W (l.set k v) → w'.cell? ⟨W, k, none⟩ = some (.int .u32 v) from fun w' v h => by
            have := h.cell (i := k) (by simp; omega)
            rw [List.getElem?_set_self (by omega)] at this; exact this)
          generalize hx : l[a]?.getD 0 = x at *
          generalize hy : l[b]?.getD 0 = y at *
          generalize hp : l[c]?.getD 0 = p at *
          generalize hq : l[d]?.getD 0 = q at *
          have hset : l = l.set k (l[k]?.getD 0) := (set_same (by rw [List.getElem?_eq_getElem (by omega)]; rfl)).symm
          replace h : WordsAt 115 wr W (l.set k (l[k]?.getD 0)) := hset ▸ h
          clear hset
          have HW := Go.Lib.hid (And.intro hx (And.intro hy (And.intro hp hq)))
          clear hx hy hp hq
          have hkl : (k : Int) < 64 := by omega
          have hal : (a : Int) < 64 := by omega
          have hbl : (b : Int) < 64 := by omega
          have hcl : (c : Int) < 64 := by omega
          have hdl : (d : Int) < 64 := by omega
          have HI := Go.Lib.hid (And.intro ea2 (And.intro eb2 (And.intro ec2 ed2)))
          clear ea2 eb2 ec2 ed2 hrng2
          go_upto_region 14 with fail
          go_region
          clear ha hb
          go_upto_region 15 with fail
          have wc : IntKind.i64.wrap (c : Int) = c := by rw [IntKind.wrap_i64]; omega
          have wd : IntKind.i64.wrap (d : Int) = d := by rw [IntKind.wrap_i64]; omega
          have T17 := fun w => turn_c (w := w) y 17 ⟨hy1, hy2⟩ (by decide) (by decide)
          have T19 := fun w => turn_c (w := w) y 19 ⟨hy1, hy2⟩ (by decide) (by decide)
          have T7 := fun w => turn_c (w := w) x 7 ⟨hx1, hx2⟩ (by decide) (by decide)
          have T18 := fun w => turn_c (w := w) x 18 ⟨hx1, hx2⟩ (by decide) (by decide)
          obtain ⟨y17, g17⟩ : ∃ z, z = sTurn y 17 := ⟨_, rfl⟩
          obtain ⟨y19, g19⟩ : ∃ z, z = sTurn y 19 := ⟨_, rfl⟩
          obtain ⟨x7, g7⟩ : ∃ z, z = sTurn x 7 := ⟨_, rfl⟩
          obtain ⟨x18, g18⟩ : ∃ z, z = sTurn x 18 := ⟨_, rfl⟩
          rw [← g17] at T17
          rw [← g19] at T19
          rw [← g7] at T7
          rw [← g18] at T18
          have HG := Go.Lib.hid (And.intro g17 (And.intro g19 (And.intro g7 g18)))
          clear g17 g19 g7 g18
          refine wp_region_held_drew (S := (fun w' => ∃ v, WordsAt 115 w' W (l.set k v) ∧ Keeps [] w w')) (by kernel_rfl) (⟨_, h.keep (S := []) (Keeps.refl [] _).drew.drew (by simp), K.drew.drew⟩) (fun hHeld => ?_)
          clear h K
          refine wpAnyH_take (i := 0) (oi := Oper.mk _ _ _ _ _ _) (v := ?_) rfl (by kernel_rfl) (by kernel_rfl) (by kernel_rfl) (fun _ _ _ h => h) (Or.inl ⟨by rfl, ?_⟩) hHeld ?_
          rotate_left
          · (intro w hSw; (try dsimp only at hSw); (first | (go_simp; done) | (go_simp; with_reducible rfl)))
          try simp only [Act.put, List.setIfInBounds_toArray, List.set_cons_zero, List.set_cons_succ]
          refine wpAnyH_take (i := 1) (oi := Oper.mk _ _ _ _ _ _) (v := ?_) rfl (by kernel_rfl) (by kernel_rfl) (by kernel_rfl) (fun _ _ _ h => h) (Or.inl ⟨by rfl, ?_⟩) hHeld ?_
          rotate_left
          · (intro w hSw; (try dsimp only at hSw); (first | (go_simp; done) | (go_simp; with_reducible rfl)))
          try simp only [Act.put, List.setIfInBounds_toArray, List.set_cons_zero, List.set_cons_succ]
          refine wpAnyH_take (i := 3) (oi := Oper.mk _ _ _ _ _ _) (v := ?_) rfl (by kernel_rfl) (by kernel_rfl) (by kernel_rfl) (fun _ _ _ h => h) (Or.inl ⟨by rfl, ?_⟩) hHeld ?_
          rotate_left
          · (intro w hSw; (try dsimp only at hSw); (first | (go_simp; done) | (go_simp; with_reducible rfl)))
          try simp only [Act.put, List.setIfInBounds_toArray, List.set_cons_zero, List.set_cons_succ]
          refine wpAnyH_take (i := 6) (oi := Oper.mk _ _ _ _ _ _) (v := ?_) rfl (by kernel_rfl) (by kernel_rfl) (by kernel_rfl) (fun _ _ _ h => h) (Or.inl ⟨by rfl, ?_⟩) hHeld ?_
          rotate_left
          · (intro w hSw; (try dsimp only at hSw); (first | (go_simp; done) | (go_simp; with_reducible rfl)))
          try simp only [Act.put, List.setIfInBounds_toArray, List.set_cons_zero, List.set_cons_succ]
          refine wpAnyH_take (i := 7) (oi := Oper.mk _ _ _ _ _ _) (v := ?_) rfl (by kernel_rfl) (by kernel_rfl) (by kernel_rfl) (fun _ _ _ h => h) (Or.inl ⟨by rfl, ?_⟩) hHeld ?_
          rotate_left
          · (intro w hSw; (try dsimp only at hSw); (first | (go_simp; done) | (go_simp; with_reducible rfl)))
          try simp only [Act.put, List.setIfInBounds_toArray, List.set_cons_zero, List.set_cons_succ]
          refine wpAnyH_take (i := 9) (oi := Oper.mk _ _ _ _ _ _) (v := ?_) rfl (by kernel_rfl) (by kernel_rfl) (by kernel_rfl) (fun _ _ _ h => h) (Or.inl ⟨by rfl, ?_⟩) hHeld ?_
          rotate_left
          · (intro w hSw; (try dsimp only at hSw); (first | (go_simp; done) | (go_simp; with_reducible rfl)))
          try simp only [Act.put, List.setIfInBounds_toArray, List.set_cons_zero, List.set_cons_succ]
          refine wpAnyH_take (i := 10) (oi := Oper.mk _ _ _ _ _ _) (v := ?_) rfl (by kernel_rfl) (by kernel_rfl) (by kernel_rfl) (fun _ _ _ h => h) (Or.inl ⟨by rfl, ?_⟩) hHeld ?_
          rotate_left
          · (intro w hSw; (try dsimp only at hSw); (first | (go_simp; done) | (go_simp; with_reducible rfl)))
          try simp only [Act.put, List.setIfInBounds_toArray, List.set_cons_zero, List.set_cons_succ]
          refine wpAnyH_take (i := 11) (oi := Oper.mk _ _ _ _ _ _) (v := ?_) rfl (by kernel_rfl) (by kernel_rfl) (by kernel_rfl) (fun _ _ _ h => h) (Or.inl ⟨by rfl, ?_⟩) hHeld ?_
          rotate_left
          · (intro w hSw; (try dsimp only at hSw); (first | (go_simp; done) | (go_simp; with_reducible rfl)))
          try simp only [Act.put, List.setIfInBounds_toArray, List.set_cons_zero, List.set_cons_succ]
          refine wpAnyH_take (i := 14) (oi := Oper.mk _ _ _ _ _ _) (v := ?_) rfl (by kernel_rfl) (by kernel_rfl) (by kernel_rfl) (fun _ _ _ h => h) (Or.inl ⟨by rfl, ?_⟩) hHeld ?_
          rotate_left
          · (intro w hSw; (try dsimp only at hSw); (first | (go_simp; done) | (go_simp; with_reducible rfl)))
          try simp only [Act.put, List.setIfInBounds_toArray, List.set_cons_zero, List.set_cons_succ]
          refine wpAnyH_take (i := 16) (oi := Oper.mk _ _ _ _ _ _) (v := ?_) rfl (by kernel_rfl) (by kernel_rfl) (by kernel_rfl) (fun _ _ _ h => h) (Or.inl ⟨by rfl, ?_⟩) hHeld ?_
          rotate_left
          · (intro w hSw; (try dsimp only at hSw); (first | (go_simp; done) | (go_simp; with_reducible rfl)))
          try simp only [Act.put, List.setIfInBounds_toArray, List.set_cons_zero, List.set_cons_succ]
          refine wpAnyH_take (i := 19) (oi := Oper.mk _ _ _ _ _ _) (v := ?_) rfl (by kernel_rfl) (by kernel_rfl) (by kernel_rfl) (fun _ _ _ h => h) (Or.inl ⟨by rfl, ?_⟩) hHeld ?_
          rotate_left
          · (intro w hSw; (try dsimp only at hSw); (first | (go_simp; done) | (go_simp; with_reducible rfl)))
          try simp only [Act.put, List.setIfInBounds_toArray, List.set_cons_zero, List.set_cons_succ]
          refine wpAnyH_take (i := 20) (oi := Oper.mk _ _ _ _ _ _) (v := ?_) rfl (by kernel_rfl) (by kernel_rfl) (by kernel_rfl) (fun _ _ _ h => h) (Or.inl ⟨by rfl, ?_⟩) hHeld ?_
          rotate_left
          · (intro w hSw; (try dsimp only at hSw); (first | (go_simp; done) | (go_simp; with_reducible rfl)))
          try simp only [Act.put, List.setIfInBounds_toArray, List.set_cons_zero, List.set_cons_succ]
          refine wpAnyH_take (i := 23) (oi := Oper.mk _ _ _ _ _ _) (v := ?_) rfl (by kernel_rfl) (by kernel_rfl) (by kernel_rfl) (fun _ _ _ h => h) (Or.inl ⟨by rfl, ?_⟩) hHeld ?_
          rotate_left
          · (intro w hSw; (try dsimp only at hSw); (first | (go_simp; done) | (go_simp; with_reducible rfl)))
          try simp only [Act.put, List.setIfInBounds_toArray, List.set_cons_zero, List.set_cons_succ]
          refine wpAnyH_take (i := 24) (oi := Oper.mk _ _ _ _ _ _) (v := ?_) rfl (by kernel_rfl) (by kernel_rfl) (by kernel_rfl) (fun _ _ _ h => h) (Or.inl ⟨by rfl, ?_⟩) hHeld ?_
          rotate_left
          · (intro w hSw; (try dsimp only at hSw); (first | (go_simp; done) | (go_simp; with_reducible rfl)))
          try simp only [Act.put, List.setIfInBounds_toArray, List.set_cons_zero, List.set_cons_succ]
          refine wpAnyH_take (i := 25) (oi := Oper.mk _ _ _ _ _ _) (v := ?_) rfl (by kernel_rfl) (by kernel_rfl) (by kernel_rfl) (fun _ _ _ h => h) (Or.inl ⟨by rfl, ?_⟩) hHeld ?_
          rotate_left
          · (intro w hSw; (try dsimp only at hSw); (first | (go_simp; done) | (go_simp; with_reducible rfl)))
          try simp only [Act.put, List.setIfInBounds_toArray, List.set_cons_zero, List.set_cons_succ]
          refine wpAnyH_take (i := 12) (oi := Oper.mk _ _ _ _ _ _) (v := ?_) rfl (by kernel_rfl) (by kernel_rfl) (by kernel_rfl) (fun _ _ _ h => h) (Or.inl ⟨by rfl, ?_⟩) hHeld ?_
          rotate_left
          · (intro w hSw; (try dsimp only at hSw); have e0 := hSw.elim fun v hv => HC.out _ v hv.1; (first | (go_simp; done) | (go_simp; with_reducible rfl)))
          try simp only [Act.put, List.setIfInBounds_toArray, List.set_cons_zero, List.set_cons_succ]
          refine wpAnyH_take (i := 26) (oi := Oper.mk _ _ _ _ _ _) (v := ?_) rfl (by kernel_rfl) (by kernel_rfl) (by kernel_rfl) (fun _ _ _ h => h) (Or.inl ⟨by rfl, ?_⟩) hHeld ?_
          rotate_left
          · (intro w hSw; (try dsimp only at hSw); have e0 := hSw.elim fun v hv => HD.out _ v hv.1; (first | (go_simp; done) | (go_simp; with_reducible rfl)))
          try simp only [Act.put, List.setIfInBounds_toArray, List.set_cons_zero, List.set_cons_succ]
          refine wpAnyH_ready (rs := [2]) (by kernel_rfl) (by simp) ?_
          refine AllReadyH.cons (o := Oper.mk _ _ _ _ _ _) rfl (fun K hK => ?_) AllReadyH.nil
          (go_simp; refine (T17 _).mono ?_; rintro e w6 ⟨rfl, k6⟩)
          refine hK.out _ _ (hHeld.elim fun v hv => ⟨v, hv.1.keep k6 (by simp), hv.2.trans k6⟩) (fun hNew => ?_)
          clear hHeld hK
          have hHeld := hNew
          clear hNew
          try simp only [Act.put, List.setIfInBounds_toArray, List.set_cons_zero, List.set_cons_succ]
          clear k6
          refine wpAnyH_ready (rs := [4]) (by kernel_rfl) (by simp) ?_
          refine AllReadyH.cons (o := Oper.mk _ _ _ _ _ _) rfl (fun K hK => ?_) AllReadyH.nil
          (go_simp; refine (T19 _).mono ?_; rintro e w6 ⟨rfl, k6⟩)
          refine hK.out _ _ (hHeld.elim fun v hv => ⟨v, hv.1.keep k6 (by simp), hv.2.trans k6⟩) (fun hNew => ?_)
          clear hHeld hK
          have hHeld := hNew
          clear hNew
          try simp only [Act.put, List.setIfInBounds_toArray, List.set_cons_zero, List.set_cons_succ]
          clear k6
          refine wpAnyH_take (i := 5) (oi := Oper.mk _ _ _ _ _ _) (v := ?_) rfl (by kernel_rfl) (by kernel_rfl) (by kernel_rfl) (fun _ _ _ h => h) (Or.inl ⟨by rfl, ?_⟩) hHeld ?_
          rotate_left
          · (intro w hSw; (try dsimp only at hSw); (first | (go_simp; done) | (go_simp; with_reducible rfl)))
          try simp only [Act.put, List.setIfInBounds_toArray, List.set_cons_zero, List.set_cons_succ]
          refine wpAnyH_take (i := 8) (oi := Oper.mk _ _ _ _ _ _) (v := ?_) rfl (by kernel_rfl) (by kernel_rfl) (by kernel_rfl) (fun _ _ _ h => h) (Or.inl ⟨by rfl, ?_⟩) hHeld ?_
          rotate_left
          · (intro w hSw; (try dsimp only at hSw); (first | (go_simp; done) | (go_simp; with_reducible rfl)))
          try simp only [Act.put, List.setIfInBounds_toArray, List.set_cons_zero, List.set_cons_succ]
          refine wpAnyH_take (i := 13) (oi := Oper.mk _ _ _ _ _ _) (v := ?_) rfl (by kernel_rfl) (by kernel_rfl) (by kernel_rfl) (fun _ _ _ h => h) (Or.inl ⟨by rfl, ?_⟩) hHeld ?_
          rotate_left
          · (intro w hSw; (try dsimp only at hSw); (first | (go_simp; done) | (go_simp; with_reducible rfl)))
          try simp only [Act.put, List.setIfInBounds_toArray, List.set_cons_zero, List.set_cons_succ]
          refine wpAnyH_ready (rs := [15]) (by kernel_rfl) (by simp) ?_
          refine AllReadyH.cons (o := Oper.mk _ _ _ _ _ _) rfl (fun K hK => ?_) AllReadyH.nil
          (go_simp; refine (T7 _).mono ?_; rintro e w6 ⟨rfl, k6⟩)
          refine hK.out _ _ (hHeld.elim fun v hv => ⟨v, hv.1.keep k6 (by simp), hv.2.trans k6⟩) (fun hNew => ?_)
          clear hHeld hK
          have hHeld := hNew
          clear hNew
          try simp only [Act.put, List.setIfInBounds_toArray, List.set_cons_zero, List.set_cons_succ]
          clear k6
          refine wpAnyH_ready (rs := [17]) (by kernel_rfl) (by simp) ?_
          refine AllReadyH.cons (o := Oper.mk _ _ _ _ _ _) rfl (fun K hK => ?_) AllReadyH.nil
          (go_simp; refine (T18 _).mono ?_; rintro e w6 ⟨rfl, k6⟩)
          refine hK.out _ _ (hHeld.elim fun v hv => ⟨v, hv.1.keep k6 (by simp), hv.2.trans k6⟩) (fun hNew => ?_)
          clear hHeld hK
          have hHeld := hNew
          clear hNew
          try simp only [Act.put, List.setIfInBounds_toArray, List.set_cons_zero, List.set_cons_succ]
          clear k6
          refine wpAnyH_take (i := 18) (oi := Oper.mk _ _ _ _ _ _) (v := ?_) rfl (by kernel_rfl) (by kernel_rfl) (by kernel_rfl) (fun _ _ _ h => h) (Or.inl ⟨by rfl, ?_⟩) hHeld ?_
          rotate_left
          · (intro w hSw; (try dsimp only at hSw); (first | (go_simp; done) | (go_simp; with_reducible rfl)))
          try simp only [Act.put, List.setIfInBounds_toArray, List.set_cons_zero, List.set_cons_succ]
          refine wpAnyH_take (i := 21) (oi := Oper.mk _ _ _ _ _ _) (v := ?_) rfl (by kernel_rfl) (by kernel_rfl) (by kernel_rfl) (fun _ _ _ h => h) (Or.inl ⟨by rfl, ?_⟩) hHeld ?_
          rotate_left
          · (intro w hSw; (try dsimp only at hSw); (first | (go_simp; done) | (go_simp; with_reducible rfl)))
          try simp only [Act.put, List.setIfInBounds_toArray, List.set_cons_zero, List.set_cons_succ]
          refine wpAnyH_take (i := 22) (oi := Oper.mk _ _ _ _ _ _) (v := ?_) rfl (by kernel_rfl) (by kernel_rfl) (by kernel_rfl) (fun _ _ _ h => h) (Or.inl ⟨by rfl, ?_⟩) hHeld ?_
          rotate_left
          · (intro w hSw; (try dsimp only at hSw); (first | (go_simp; done) | (go_simp; with_reducible rfl)))
          try simp only [Act.put, List.setIfInBounds_toArray, List.set_cons_zero, List.set_cons_succ]
          refine wpAnyH_take (i := 27) (oi := Oper.mk _ _ _ _ _ _) (v := ?_) rfl (by kernel_rfl) (by kernel_rfl) (by kernel_rfl) (fun _ _ _ h => h) (Or.inl ⟨by rfl, ?_⟩) hHeld ?_
          rotate_left
          · (intro w hSw; (try dsimp only at hSw); (first | (go_simp; done) | (go_simp; with_reducible rfl)))
          try simp only [Act.put, List.setIfInBounds_toArray, List.set_cons_zero, List.set_cons_succ]
          refine wpAnyH_take (i := 28) (oi := Oper.mk _ _ _ _ _ _) (v := ?_) rfl (by kernel_rfl) (by kernel_rfl) (by kernel_rfl) (fun _ _ _ h => h) (Or.inl ⟨by rfl, ?_⟩) hHeld ?_
          rotate_left
          · (intro w hSw; (try dsimp only at hSw); (first | (go_simp; done) | (go_simp; with_reducible rfl)))
          try simp only [Act.put, List.setIfInBounds_toArray, List.set_cons_zero, List.set_cons_succ]
          obtain ⟨v0, h7, K7⟩ := hHeld
          have e0 := HE.out _ v0 h7
          have e1 := h7.fz k
          obtain ⟨z, hz⟩ : ∃ z, z = IntKind.u32.wrap (IntKind.u32.wrap (IntKind.u32.wrap (bits .xor .u32 (bits .xor .u32 y17 y19) (y / 1024) + p) + bits .xor .u32 (bits .xor .u32 x7 x18) (x / 8)) + q) := ⟨_, rfl⟩
          have h8 : WordsAt 115 (w6.setCell ⟨W, k, none⟩ (.int .u32 z)) W (l.set k z) := by
            have := h7.set (i := k) z
            rwa [List.set_set] at this
          have K8 := K7.setCell (p := ⟨W, k, none⟩) (.inr hWw) (.int .u32 z)
          have hHeld := True.intro
          refine wpAnyH_ready (rs := [29]) (by kernel_rfl) (by simp) ?_
          refine AllReadyH.cons (o := Oper.mk _ _ _ _ _ _) rfl (fun K hK => ?_) AllReadyH.nil
          go_simp
          rw [← hz]
          refine hK.out _ _ (⟨z, h8, K8⟩) (fun hNew => ?_)
          clear hHeld hK
          have hHeld := hNew
          clear hNew
          try simp only [Act.put, List.setIfInBounds_toArray, List.set_cons_zero, List.set_cons_succ]
          refine wpAnyH_done (by kernel_rfl) ?_ _
          have HZ := Go.Lib.hid hz
          clear hz e0 e1 h7 K7
          go_wp2_with fail
          go_roundw
          case rel =>
            obtain ⟨g17, g19, g7, g18⟩ := HG.out
            obtain ⟨f1, f2, f3, f4⟩ := HW.out
            obtain ⟨i1, i2, i3, i4⟩ := HI.out
            refine ⟨k + 1, by omega, by omega, by go_num, ?_, K8⟩
            have ez : z = sNext (sMore (k - 16) l0) (16 + (k - 16)) := by
              rw [HM.out]
              unfold sNext sWord
              rw [show 16 + (k - 16) - 15 = a from by omega, show 16 + (k - 16) - 2 = b from by omega, show 16 + (k - 16) - 7 = c from by omega, show 16 + (k - 16) - 16 = d from by omega, f1, f2, f3, f4, ← g17, ← g19, ← g7, ← g18]
              exact HZ.out
            rw [show k + 1 - 16 = (k - 16) + 1 from by omega, sMore, ← ez, HM.out, show 16 + (k - 16) = k from by omega]
            exact h8
          case measure => simp [intOf]; omega
        · obtain rfl : k = 64 := by omega
          go_wp2_with fail
          go_ret
          refine ⟨W, rfl, hWw, ?_, K⟩
          rw [sSched, HL.out]
          exact h
end Go.Proofs.Ytkkbjkoikidjpaa
