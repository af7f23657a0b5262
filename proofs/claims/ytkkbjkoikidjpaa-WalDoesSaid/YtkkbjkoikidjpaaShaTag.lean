/-
  sha: Sum, Short, Tag.
-/
import Derived.Test.YtkkbjkoikidjpaaShaSum
import Derived.Test.YtkkbjkoikidjpaaWConv
namespace Go.Proofs.Ytkkbjkoikidjpaa
open Go.RowKit

def beginL : List Int := [1779033703, 3144134277, 1013904242, 2773480762, 1359893119, 2600822924, 528734635, 1541459225]
theorem beginL_rng : AllU beginL := by
  intro i
  match i with
  | 0 | 1 | 2 | 3 | 4 | 5 | 6 | 7 => exact ⟨by decide, by decide⟩
  | i + 8 => rw [List.getElem?_eq_none (by show 8 ≤ i + 8; omega)]; exact ⟨by decide, by decide⟩
theorem sRest_small (st : List Int) (b : ByteArray) : (sRest st b).2.size < 64 := by
  induction h : b.size using Nat.strongRecOn generalizing st b with
  | _ n ih =>
    by_cases h64 : 64 ≤ b.size
    · rw [sRest_more h64]
      exact ih (b.extract 64 b.size).size (by rw [ByteArray.size_extract]; omega) _ _ rfl
    · rw [sRest_done h64]; show b.size < 64; omega

/-- The sum of bytes. -/
def sAll (s : ByteArray) : ByteArray := sSum (sRest beginL (.empty ++ s)).1 (sRest beginL (.empty ++ s)).2 s.size
theorem sAll_size (s : ByteArray) : (sAll s).size = 32 := sSum_size _ _ _

set_option maxRecDepth 10000 in
theorem ssum_c {w : World} (s : ByteArray) (hs : s.size ≤ 1099511627776) :
    Calls Try.prog 67 #[.string s] w fun e w' => e = .returned (.string (sAll s)) ∧ Keeps [] w w' := by
  have hsm := sRest_small beginL (.empty ++ s)
  have H : Hid (sAll s = sSum (sRest beginL (.empty ++ s)).1 (sRest beginL (.empty ++ s)).2 s.size) := rfl
  go_enter Try.func67, Try.ntmps67
  go_wp2_with fail
  refine (new_c).mono ?_
  rintro e w1 ⟨A, rfl, hA, h1, k1⟩
  have g1 : HashAt w1 A beginL .empty 0 := ⟨h1, rfl, beginL_rng⟩
  go_wp2_with fail
  refine (write_c g1 s (by decide) hs (by decide) (by decide)).mono ?_
  rintro e w2 ⟨rfl, h2, k2⟩
  rw [Int.zero_add] at h2
  go_wp2_with fail
  refine (hsum_c h2 hsm (by omega) (by omega)).mono ?_
  rintro e w3 ⟨rfl, k3⟩
  go_wp2
  go_ret
  exact ⟨by rw [H.out]; rfl, (k1.new k2 (by simp; omega)).trans k3⟩

def sShort (s : ByteArray) : ByteArray := (sAll s).extract 0 16
theorem sShort_size (s : ByteArray) : (sShort s).size = 16 := by unfold sShort; rw [ByteArray.size_extract, sAll_size]; rfl
theorem short_c {w : World} (s : ByteArray) (hs : s.size ≤ 1099511627776) :
    Calls Try.prog 60 #[.string s] w fun e w' => e = .returned (.string (sShort s)) ∧ Keeps [] w w' := by
  have C := fun w => ssum_c (w := w) s hs
  have hz := sAll_size s
  have H : Hid (sShort s = (sAll s).extract 0 16) := rfl
  generalize sAll s = z at *
  go_enter Try.func60, Try.ntmps60
  go_wp2_with fail
  refine (C _).mono ?_
  rintro e w1 ⟨rfl, k1⟩
  have hz2 : (16 : Int) ≤ (z.size : Int) := by omega
  go_wp2
  go_ret
  exact ⟨by rw [H.out]; rfl, k1⟩

/-- What is summed of a word and one part. -/
def tagOf (word p : ByteArray) : ByteArray := (strOfNums [(word.size : Int) % 256] ++ word) ++ (strOfNums [(p.size : Int) / 256 % 256, (p.size : Int) % 256] ++ p)
def sTag (word p : ByteArray) : ByteArray := sShort (tagOf word p)
def TagRel (w0 : World) (word p : ByteArray) (v v5 : Value) (wr : World) : Prop :=
  (v5 = .int .i64 0 ∧ v = .string (strOfNums [(word.size : Int) % 256] ++ word) ∨ v5 = .int .i64 1 ∧ v = .string (tagOf word p)) ∧ Keeps [] w0 wr

set_option maxRecDepth 10000 in
set_option maxHeartbeats 1000000 in
theorem tag_c {w : World} (word p : ByteArray) {b o cap : Nat} (hw : word.size ≤ 1048576) (hp : p.size ≤ 1048576) (hb : b < w.heap.size) (hc : w.cell? ⟨b, o, none⟩ = some (.string p)) :
    Calls Try.prog 54 #[.string word, .slice (some ⟨b, o, none⟩) 1 cap] w fun e w' => e = .returned (.string (sTag word p)) ∧ Keeps [] w w' := by
  have hcv := conv1
  have hcv2 := conv2
  have hz := strOfNums_size [(word.size : Int) % 256]
  have hz2 := strOfNums_size [(p.size : Int) / 256 % 256, (p.size : Int) % 256]
  simp only [List.length_cons, List.length_nil, Nat.zero_add] at hz hz2
  have hsum : (strOfNums [(word.size : Int) % 256]).size + word.size ≤ 9223372036854775807 := by omega
  have hsum2 : (strOfNums [(p.size : Int) / 256 % 256, (p.size : Int) % 256]).size + p.size ≤ 9223372036854775807 := by omega
  go_enter Try.func54, Try.ntmps54
  go_wp2_with fail
  go_loopw [5, 17] (fun v v5 wr => TagRel w word p v v5 wr) (fun _ v5 _ => 1 - (intOf v5).toNat)
  case atStart => exact ⟨.inl ⟨rfl, rfl⟩, (Keeps.refl _ _).alloc _⟩
  case round =>
    obtain ⟨h, K⟩ := hrel
    rcases h with ⟨rfl, rfl⟩ | ⟨rfl, rfl⟩
    · have e0 := (K.cell (o := o) hb (by simp)).trans hc
      go_wp2_with fail
      exact ⟨⟨.inr ⟨rfl, rfl⟩, K.alloc _⟩, by simp [intOf]⟩
    · have hts : (tagOf word p).size ≤ 1099511627776 := by unfold tagOf; rw [ByteArray.size_append, ByteArray.size_append, ByteArray.size_append, hz, hz2]; omega
      have C := fun w => short_c (w := w) (tagOf word p) hts
      have H : Hid (sTag word p = sShort (tagOf word p)) := rfl
      generalize tagOf word p = u at *
      generalize sShort u = z at *
      go_wp2_with fail
      refine (C _).mono ?_
      rintro e w3 ⟨rfl, k3⟩
      go_wp2
      go_ret
      exact ⟨by rw [H.out]; rfl, K.trans k3⟩
end Go.Proofs.Ytkkbjkoikidjpaa
