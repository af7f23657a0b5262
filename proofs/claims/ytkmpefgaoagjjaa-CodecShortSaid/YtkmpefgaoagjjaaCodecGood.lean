/-
  The first loop of CodecBack and CodecShort: the parts that can be written are written and laid in a row.
-/
import Derived.Test.YtkmpefgaoagjjaaCodecPlain
import Derived.Test.YtkmpefgaoagjjaaCodecFixed
namespace Go.Proofs.Ytkmpefgaoagjjaa
open Go.RowKit

def goodL (l : List DPart) : List DPart := l.filter DPart.okB
theorem good_yes {k : Nat} {m : List DPart} (hk : k < m.length) (h : m[k].okB = true) : goodL (m.take (k + 1)) = goodL (m.take k) ++ [m[k]] := by
  rw [goodL, List.take_succ_eq_append_getElem hk, List.filter_append]; simp [h, goodL]
theorem good_no {k : Nat} {m : List DPart} (hk : k < m.length) (h : m[k].okB = false) : goodL (m.take (k + 1)) = goodL (m.take k) := by
  rw [goodL, List.take_succ_eq_append_getElem hk, List.filter_append]; simp [h, goodL]
theorem good_le (k : Nat) (m : List DPart) : (goodL (m.take k)).length ≤ k := Nat.le_trans (List.length_filter_le _ _) (by simp; omega)
theorem good_mem {k : Nat} {m : List DPart} {p : DPart} (h : p ∈ goodL (m.take k)) : p ∈ m ∧ p.okB = true := by
  obtain ⟨h1, h2⟩ := List.mem_filter.1 h
  exact ⟨List.mem_of_mem_take h1, h2⟩

theorem WAt.grown {t : TypeId} {w w' : World} {A : Nat} {st : ByteArray × Int} {row : Option Nat} (h : WAt t w A st) (g : w.grownBy w' row) (hr : ∀ k, row = some k → A < k) : WAt t w' A st :=
  ⟨by rw [g.block A h.lt (fun e => by have := hr A e.symm; omega)]; exact h.h⟩
theorem ownsRow_keep {w w' : World} {base : Nat} {e : TypeId} {size : Nat} {v : Value} {n : Nat} {xs : List Value} {S : List Nat} (h : w.ownsRow base e size v n xs) (k : Keeps S w w') (hS : ∀ x ∈ S, x < base) :
    w'.ownsRow base e size v n xs := by
  refine ⟨h.1, ?_⟩
  rcases h.2 with h0 | ⟨g, cap, cur, e1, e2, e3, e4⟩
  · exact .inl h0
  · exact .inr ⟨g, cap, cur, e1, e2, k.heap (fun hm => by have := hS g hm; omega) e3, e4⟩

def GoodRel (w1 : World) (m : List DPart) (W : Nat) (v i : Value) (wr : World) : Prop :=
  ∃ k : Nat, k ≤ m.length ∧ i = .int .i64 k ∧ wr.ownsRow (W + 1) 32 3 v (goodL (m.take k)).length (cellsOf (goodL (m.take k))) ∧ WAt 27 wr W (textOf (goodL (m.take k)), 0) ∧ Keeps [] w1 wr

theorem size_good {k : Nat} {m : List DPart} (h : ∀ p ∈ m, p.s.size ≤ 5000) (hm : m.length ≤ 20) : (textOf (goodL (m.take k))).size ≤ 120000 := by
  have h1 := size_textOf_le (l := goodL (m.take k)) fun p hp => h p (good_mem hp).1
  have h2 : (goodL (m.take k)).length ≤ m.length := Nat.le_trans (List.length_filter_le _ _) (by simp; omega)
  have : (goodL (m.take k)).length * 6000 ≤ 20 * 6000 := Nat.mul_le_mul_right _ (by omega)
  omega

/-- What the loop leaves. -/
structure GoodAt (w : World) (W : Nat) (v : Value) (g : List DPart) : Prop where
  parts : ∃ a cap, v = .slice a g.length cap ∧ PartsAt w w.heap.size a g
  text : WAt 27 w W (textOf g, 0)
  ok : ∀ p ∈ g, p.okB = true
  most : ∀ p ∈ g, p.s.size ≤ 5000
  len : g.length ≤ 20

theorem goodAt_of {w1 wr : World} {m : List DPart} {W k : Nat} {v : Value} (hk : k ≤ m.length) (hout : ¬ k < m.length) (hown : wr.ownsRow (W + 1) 32 3 v (goodL (m.take k)).length (cellsOf (goodL (m.take k))))
    (hW : WAt 27 wr W (textOf (goodL (m.take k)), 0)) (_hkp : Keeps [] w1 wr) (hm : m.length ≤ 20) (hs : ∀ p ∈ m, p.s.size ≤ 5000) (hr : ∀ i (h : i < m.length), inI64 m[i].kind ∧ inI64 m[i].n ∧ m[i].s.size ≤ 9223372036854775807) :
    GoodAt wr W v (goodL m) := by
  have ek : m.take k = m := List.take_of_length_le (by omega)
  rw [ek] at hown hW
  have hl : (goodL m).length ≤ m.length := List.length_filter_le _ _
  have hmem : ∀ p ∈ goodL m, p ∈ m ∧ p.okB = true := fun p hp => List.mem_filter.1 hp
  refine ⟨partsAt_of_own hown (fun p hp => ?_) (by omega), hW, fun p hp => (hmem p hp).2, fun p hp => hs p (hmem p hp).1, by omega⟩
  obtain ⟨i, hi, rfl⟩ := List.mem_iff_getElem.1 (hmem p hp).1
  exact hr i hi

theorem byte_back {w : World} {R : Nat} {T : ByteArray} {p : DPart} (hok : p.okB = true) (k : p.kind = 0) (h : WAt 61 w R (partB p ++ T, 0)) :
    Calls Try.prog 21 #[.pointer (some ⟨R, 0, none⟩)] w fun e w' => e = .returned (.int .i64 p.n) ∧ WAt 61 w' R (T, 0) ∧ Keeps [R] w w' := by
  have r := byte_c h
  rw [part0 k, rByte_app _ _ (ok0 hok k), rGo_app (size_byteB _).symm] at r
  exact r
theorem num_back {w : World} {R : Nat} {T : ByteArray} {p : DPart} (k : p.kind = 1) (h : WAt 61 w R (partB p ++ T, 0)) :
    Calls Try.prog 23 #[.pointer (some ⟨R, 0, none⟩)] w fun e w' => e = .returned (.int .u64 (IntKind.u64.wrap p.n)) ∧ WAt 61 w' R (T, 0) ∧ Keeps [R] w w' := by
  have r := num_c h
  rw [part1 k, rNum_app _ _ (uOf_le _), rGo_app (size_putB _).symm, ← uOf_eq] at r
  exact r
theorem blob_back {w : World} {R : Nat} {T : ByteArray} {p : DPart} (hok : p.okB = true) (k : p.kind = 2) (h : WAt 61 w R (partB p ++ T, 0)) :
    Calls Try.prog 25 #[.pointer (some ⟨R, 0, none⟩), .int .i64 p.s.size] w fun e w' => e = .returned (.string p.s) ∧ WAt 61 w' R (T, 0) ∧ Keeps [R] w w' := by
  have r := blob_c h p.s.size
  have b := rBlob_app p.s T p.s.size (ok2 hok k) (Int.le_refl _)
  rw [part2 k, b.1, b.2] at r
  exact r
theorem hash_back {w : World} {R : Nat} {T : ByteArray} {p : DPart} (hok : p.okB = true) (k0 : p.kind ≠ 0) (k1 : p.kind ≠ 1) (k2 : p.kind ≠ 2) (h : WAt 61 w R (partB p ++ T, 0)) :
    Calls Try.prog 27 #[.pointer (some ⟨R, 0, none⟩)] w fun e w' => e = .returned (.string p.s) ∧ WAt 61 w' R (T, 0) ∧ Keeps [R] w w' := by
  have r := hash_c h
  rw [part3 k0 k1 k2, rGet_app (ok3 hok k0 k1 k2).symm, rGo_app (ok3 hok k0 k1 k2).symm] at r
  exact r

theorem rest_zero {g : List DPart} {k : Nat} {t : ByteArray} (h : ∀ p ∈ g, p.okB = true) (hz : (textOf (g.drop (k + 1)) ++ t).size = 0) (hk : k < g.length) : t = ByteArray.empty ∧ k + 1 = g.length := by
  rw [ByteArray.size_append] at hz
  refine ⟨?_, ?_⟩
  · apply ba_ext; have := List.eq_nil_of_length_eq_zero (l := t.data.toList) (by rw [Array.length_toList]; show t.size = 0; omega); rw [this]; rfl
  · by_cases hd : g.drop (k + 1) = []
    · have := List.drop_eq_nil_iff.1 hd; omega
    · have := size_textOf_pos (fun p hp => h p (List.mem_of_mem_drop hp)) hd; omega
theorem textOf_drop {g : List DPart} {k : Nat} (hk : k < g.length) (t : ByteArray) : textOf (g.drop k) ++ t = partB g[k] ++ (textOf (g.drop (k + 1)) ++ t) := by
  rw [List.drop_eq_getElem_cons hk, textOf, ByteArray.append_assoc]
end Go.Proofs.Ytkmpefgaoagjjaa
