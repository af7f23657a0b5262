/-
  The reference's sha: Short, Tag.
-/
import Derived.Test.YtkkbjkoikidjpaaRSum
import Derived.Deep.RegionHeld3
namespace Go.Proofs.Ytkkbjkoikidjpaa
open Go.RowKit

theorem conv_newd {w : World} {n : Nat} (xs : List Int) (hn : n = w.heap.size) (cap : Nat) :
    (convert 84 9 (.slice (some ⟨n, 0, none⟩) xs.length cap)).run Try.prog (w.alloc (.cells (xs.map (Value.int .u8)).toArray 5)).drew = .ok (.string (strOfNums xs)) (w.alloc (.cells (xs.map (Value.int .u8)).toArray 5)).drew := by
  subst hn
  refine run_convert_bytes_arg _ 84 5 Try.underlying84 Try.underlying5 _ _ _ _ xs rfl (fun i hi => ?_) 9 Try.underlying9
  rw [Nat.zero_add, World.cell?_drew, World.cell?_alloc_new]
  simp [List.getD, List.getElem?_eq_getElem hi]
theorem conv2d (w : World) (n : Nat) (x y : Int) (hn : n = w.heap.size) : (convert 84 9 (.slice (some ⟨n, 0, none⟩) 2 2)).run Try.prog (w.alloc (.cells #[.int .u8 x, .int .u8 y] 5)).drew = .ok (.string (strOfNums [x, y])) (w.alloc (.cells #[.int .u8 x, .int .u8 y] 5)).drew :=
  conv_newd [x, y] hn 2

theorem rshort_c {w : World} (s : ByteArray) (hs : s.size ≤ 1073741824) :
    Calls Try.prog 61 #[.string s] w fun e w' => e = .returned (.string (sShort s)) ∧ Keeps [] w w' := by
  have C := fun w => rsum_c (w := w) s hs
  have hz := sAll_size s
  have H : Hid (sShort s = (sAll s).extract 0 16) := rfl
  generalize sAll s = z at *
  go_enter Try.func61, Try.ntmps61
  go_wp2_with fail
  refine (C _).mono ?_
  rintro e w1 ⟨rfl, k1⟩
  have hz2 : (16 : Int) ≤ (z.size : Int) := by omega
  go_wp2
  go_ret
  exact ⟨by rw [H.out]; rfl, k1⟩

set_option maxRecDepth 10000 in
set_option maxHeartbeats 1000000 in
theorem rtag_c {w : World} (word p : ByteArray) {b o cap : Nat} (hw : word.size ≤ 1048576) (hp : p.size ≤ 1048576) (hb : b < w.heap.size) (hc : w.cell? ⟨b, o, none⟩ = some (.string p)) :
    Calls Try.prog 55 #[.string word, .slice (some ⟨b, o, none⟩) 1 cap] w fun e w' => e = .returned (.string (sTag word p)) ∧ Keeps [] w w' := by
  have hcv := conv1
  have hcv2 := conv2d
  have hz := strOfNums_size [(word.size : Int) % 256]
  have hz2 := strOfNums_size [(p.size : Int) / 256 % 256, (p.size : Int) % 256]
  simp only [List.length_cons, List.length_nil, Nat.zero_add] at hz hz2
  have hsum : (strOfNums [(word.size : Int) % 256]).size + word.size ≤ 9223372036854775807 := by omega
  have hsum2 : (strOfNums [(p.size : Int) / 256 % 256, (p.size : Int) % 256]).size + p.size ≤ 9223372036854775807 := by omega
  have hsum3 : (strOfNums [(word.size : Int) % 256] ++ word).size + (strOfNums [(p.size : Int) / 256 % 256, (p.size : Int) % 256] ++ p).size ≤ 9223372036854775807 := by rw [ByteArray.size_append, ByteArray.size_append]; omega
  go_enter Try.func55, Try.ntmps55
  go_wp2_with fail
  go_loopw [5, 6] (fun v v5 wr => TagRel w word p v v5 wr) (fun _ v5 _ => 1 - (intOf v5).toNat)
  case atStart => exact ⟨.inl ⟨rfl, rfl⟩, (Keeps.refl _ _).alloc _⟩
  case round =>
    obtain ⟨h, K⟩ := hrel
    rcases h with ⟨rfl, rfl⟩ | ⟨rfl, rfl⟩
    · have e0 := (K.cell (o := o) hb (by simp)).trans hc
      have hbr : b < wr.heap.size := by have := K.size; omega
      have hbn : ¬ b = wr.heap.size := by omega
      have e1 := fun c : Obj => (((Keeps.refl [] wr).alloc c).cell hbr (by simp)).trans e0
      go_upto_region 6 with fail
      go_region
      go_wp2_with fail
      exact ⟨⟨.inr ⟨rfl, rfl⟩, (K.alloc _).drew⟩, by simp [intOf]⟩
    · have hts : (tagOf word p).size ≤ 1073741824 := by unfold tagOf; rw [ByteArray.size_append, ByteArray.size_append, ByteArray.size_append, hz, hz2]; omega
      have C := fun w => rshort_c (w := w) (tagOf word p) hts
      have H : Hid (sTag word p = sShort (tagOf word p)) := rfl
      generalize tagOf word p = u at *
      generalize sShort u = z at *
      go_wp2_with fail
      refine (C _).mono ?_
      rintro e w3 ⟨rfl, k3⟩
      go_wp2
      go_ret
      exact ⟨by rw [H.out]; rfl, K.trans k3⟩
end Go.Proofs.Ytkkbjkoikidjpaa
