/-
  The contracts of package sha: its words.
-/
import Derived.Test.YtkkbjkoikidjpaaBase
import Derived.OpenShut
namespace Go.Proofs.Ytkkbjkoikidjpaa
open Go.RowKit

def U32 (x : Int) : Prop := 0 ≤ x ∧ x ≤ 4294967295
theorem bits_rng (op : BinOp) (x y : Int) : U32 (bits op .u32 x y) := bounds_u32 (wf_bits op .u32 x y)

def sTurn (x : Int) (n : Nat) : Int := bits BinOp.or IntKind.u32 (x / 2 ^ n) (x * 2 ^ (32 - n) % 4294967296)
theorem sTurn_rng (x : Int) (n : Nat) : U32 (sTurn x n) := bits_rng _ _ _

theorem turn_c {w : World} (x : Int) (n : Nat) (hx : U32 x) (hn : 0 < n) (hn2 : n < 32) :
    Calls Try.prog 82 #[.int .u32 x, .int .i64 n] w fun e w' => e = .returned (.int .u32 (sTurn x n)) ∧ Keeps [] w w' := by
  obtain ⟨h1, h2⟩ := hx
  have R : Hid (sTurn x n = bits BinOp.or IntKind.u32 (x / 2 ^ n) (x * 2 ^ (32 - n) % 4294967296)) := rfl
  generalize sTurn x n = z at *
  go_enter Try.func82, Try.ntmps82
  go_wp2
  go_region
  go_wp2
  go_ret
  exact ⟨by rw [R.out]; rfl, (Keeps.refl _ _).drew⟩

/-- It reads alone. -/
theorem turn_q {w : World} (x : Int) (n : Nat) (hx : U32 x) (hn : 0 < n) (hn2 : n < 32) :
    Calls Try.prog 82 #[.int .u32 x, .int .i64 n] w fun e w' => e = .returned (.int .u32 (sTurn x n)) ∧ ∃ m, w' = w.drewN m := by
  obtain ⟨h1, h2⟩ := hx
  have R : Hid (sTurn x n = bits BinOp.or IntKind.u32 (x / 2 ^ n) (x * 2 ^ (32 - n) % 4294967296)) := rfl
  generalize sTurn x n = z at *
  go_enter Try.func82, Try.ntmps82
  go_wp2
  go_quiet (fail)
  go_wp2
  go_ret
  exact ⟨by rw [R.out]; rfl, _, rfl⟩

theorem begin_c {w : World} : Calls Try.prog 75 #[] w fun e w' => e = .returned (.agg #[.int .u32 1779033703, .int .u32 3144134277, .int .u32 1013904242, .int .u32 2773480762, .int .u32 1359893119, .int .u32 2600822924, .int .u32 528734635, .int .u32 1541459225]) ∧ Keeps [] w w' := by
  go_enter Try.func75, Try.ntmps75
  go_wp2
  refine bodyPost_ret (v := .agg #[.int .u32 1779033703, .int .u32 3144134277, .int .u32 1013904242, .int .u32 2773480762, .int .u32 1359893119, .int .u32 2600822924, .int .u32 528734635, .int .u32 1541459225]) (by simp [results, Try.results75, go_sem]) rfl ⟨rfl, ?_⟩
  exact (Keeps.refl _ _).alloc _

/-- One that took nothing. -/
theorem new_c {w : World} : Calls Try.prog 69 #[] w fun e w' => ∃ A, e = .returned (.pointer (some ⟨A, 0, none⟩)) ∧ w.heap.size ≤ A ∧ w'.heap[A]? = some (.cells #[.int .u32 1779033703, .int .u32 3144134277, .int .u32 1013904242, .int .u32 2773480762, .int .u32 1359893119, .int .u32 2600822924, .int .u32 528734635, .int .u32 1541459225, .string .empty, .int .i64 0] 107 (0, 0)) ∧ Keeps [] w w' := by
  go_enter Try.func69, Try.ntmps69
  go_wp2_with fail
  refine (begin_c).mono ?_
  rintro e w1 ⟨rfl, k1⟩
  go_wp2
  go_ret
  exact ⟨w1.heap.size, rfl, k1.size, heap_alloc_same, k1.alloc _⟩

/-- Words in a block. -/
structure WordsAt (t : TypeId) (w : World) (W : Nat) (l : List Int) : Prop where
  h : w.heap[W]? = some (.cells (l.map (Value.int .u32)).toArray t (0, 0))
namespace WordsAt
variable {t : TypeId} {w : World} {W : Nat} {l : List Int}
theorem cell (h : WordsAt t w W l) {i : Nat} (hi : i < l.length) : w.cell? ⟨W, i, none⟩ = some (.int .u32 (l[i]?.getD 0)) := by
  rw [cell_of_heap h.h]; simp [hi]
theorem fz (h : WordsAt t w W l) (o : Nat) : w.frozen? ⟨W, o, none⟩ = false := frozen_of_heap h.h
theorem lt (h : WordsAt t w W l) : W < w.heap.size := lt_of_heap h.h
theorem keep {w' : World} {S : List Nat} (h : WordsAt t w W l) (k : Keeps S w w') (hW : W ∉ S) : WordsAt t w' W l := ⟨k.heap hW h.h⟩
theorem set (h : WordsAt t w W l) {i : Nat} (x : Int) : WordsAt t (w.setCell ⟨W, i, none⟩ (.int .u32 x)) W (l.set i x) := ⟨by
  rw [heap_setCell_same h.h]; simp [List.map_set]⟩
theorem far (h : WordsAt t w W l) {b i : Nat} {v : Value} (hb : W ≠ b) : WordsAt t (w.setCell ⟨b, i, none⟩ v) W l := ⟨by
  rw [heap_setCell_other hb]; exact h.h⟩
end WordsAt
def AllU (l : List Int) : Prop := ∀ i : Nat, U32 (l[i]?.getD 0)
theorem allU_set {l : List Int} (h : AllU l) {i : Nat} {x : Int} (hx : U32 x) : AllU (l.set i x) := by
  intro j
  by_cases hj : j = i
  · subst hj
    by_cases hl : j < l.length
    · rw [List.getElem?_set_self hl]; exact hx
    · rw [List.getElem?_eq_none (by simp; omega)]; exact ⟨by decide, by decide⟩
  · rw [List.getElem?_set_ne (Ne.symm hj)]; exact h j

def keysL : List Int := [
  1116352408, 1899447441, 3049323471, 3921009573, 961987163, 1508970993, 2453635748, 2870763221,
  3624381080, 310598401, 607225278, 1426881987, 1925078388, 2162078206, 2614888103, 3248222580,
  3835390401, 4022224774, 264347078, 604807628, 770255983, 1249150122, 1555081692, 1996064986,
  2554220882, 2821834349, 2952996808, 3210313671, 3336571891, 3584528711, 113926993, 338241895,
  666307205, 773529912, 1294757372, 1396182291, 1695183700, 1986661051, 2177026350, 2456956037,
  2730485921, 2820302411, 3259730800, 3345764771, 3516065817, 3600352804, 4094571909, 275423344,
  430227734, 506948616, 659060556, 883997877, 958139571, 1322822218, 1537002063, 1747873779,
  1955562222, 2024104815, 2227730452, 2361852424, 2428436474, 2756734187, 3204031479, 3329325298]
theorem keysL_rng : AllU keysL := by
  intro i
  by_cases h : i < 64
  · have : ∀ i : Fin 64, 0 ≤ (keysL[i.1]?.getD 0) ∧ (keysL[i.1]?.getD 0) ≤ 4294967295 := by decide
    exact this ⟨i, h⟩
  · rw [List.getElem?_eq_none (by show keysL.length ≤ i; exact Nat.not_lt.1 h)]; exact ⟨by decide, by decide⟩

set_option maxRecDepth 100000 in
set_option maxHeartbeats 4000000 in
theorem keys_c {w : World} : Calls Try.prog 81 #[] w fun e w' => ∃ A, e = .returned (.pointer (some ⟨A, 0, none⟩)) ∧ w.heap.size ≤ A ∧ WordsAt 115 w' A keysL ∧ Keeps [] w w' := by
  go_enter Try.func81, Try.ntmps81
  go_wp2
  go_ret
  exact ⟨w.heap.size, rfl, Nat.le_refl _, ⟨heap_alloc_same⟩, (Keeps.refl _ _).alloc _⟩
end Go.Proofs.Ytkkbjkoikidjpaa
