/-
  A script of calls on disks, as it lies in memory; and what a law makes of its fields.
-/
import Derived.Test.YtniojglidlmehaaDiskFixed
import Derived.Deep.DeepCutAuto
import Derived.Deep.CutBlock
namespace Go.Proofs.Ytniojglidlmehaa
open Go.RowKit

/-- A call of a script. -/
structure DOp where
  kind : Int
  f : Int
  n : Int
  s : ByteArray
  ka : Option Addr
  kcap : Nat
  keep : List Int

def inI64 (n : Int) : Prop := -9223372036854775808 ≤ n ∧ n ≤ 9223372036854775807

/-- A script that lies below block B. -/
structure DOpsAt (w : World) (B : Nat) (a : Option Addr) (l : List DOp) : Prop where
  cell : ∀ i (h : i < l.length), ∃ b o, a = some ⟨b, o, none⟩ ∧ b < B ∧
    w.cell? ⟨b, o + i * 5, none⟩ = some (.int .i64 l[i].kind) ∧ w.cell? ⟨b, o + i * 5 + 1, none⟩ = some (.int .i64 l[i].f) ∧ w.cell? ⟨b, o + i * 5 + 2, none⟩ = some (.int .i64 l[i].n) ∧
    w.cell? ⟨b, o + i * 5 + 3, none⟩ = some (.string l[i].s) ∧ w.cell? ⟨b, o + i * 5 + 4, none⟩ = some (.slice l[i].ka l[i].keep.length l[i].kcap)
  rng : ∀ i (h : i < l.length), inI64 l[i].kind ∧ inI64 l[i].f ∧ inI64 l[i].n ∧ l[i].s.size ≤ 9223372036854775807 ∧ l[i].keep.length ≤ l[i].kcap
  ints : ∀ i (h : i < l.length), IntsAt w (· < B) l[i].ka l[i].keep
  small : l.length ≤ 9223372036854775807

theorem DOpsAt.below {w w' : World} {B : Nat} {a : Option Addr} {l : List DOp} (h : DOpsAt w B a l) (k : Below B w w') : DOpsAt w' B a l :=
  ⟨fun i hi => by
    obtain ⟨b, o, rfl, hb, h0, h1, h2, h3, h4⟩ := h.cell i hi
    exact ⟨b, o, rfl, hb, by rw [k.cell (p := ⟨b, _, none⟩) hb]; exact h0, by rw [k.cell (p := ⟨b, _, none⟩) hb]; exact h1, by rw [k.cell (p := ⟨b, _, none⟩) hb]; exact h2, by rw [k.cell (p := ⟨b, _, none⟩) hb]; exact h3, by rw [k.cell (p := ⟨b, _, none⟩) hb]; exact h4⟩,
    h.rng, fun i hi => (h.ints i hi).below k (fun _ h => h), h.small⟩

theorem IntsAt.take {w : World} {p : Nat → Prop} {a : Option Addr} {xs : List Int} (h : IntsAt w p a xs) (m : Nat) : IntsAt w p a (xs.take m) :=
  ⟨fun i hi => by
    have hi' : i < xs.length := by simp at hi; omega
    obtain ⟨b, o, ha, hp, hc⟩ := h.cell i hi'
    exact ⟨b, o, ha, hp, by rw [hc]; simp⟩, by have := h.small; simp; omega, fun i hi => by
    have hi' : i < xs.length := by simp at hi; omega
    rw [List.getElem_take]; exact h.bound i hi'⟩

theorem Keeps.sub {S S' : List Nat} {w w' : World} (h : Keeps S w w') (hs : ∀ k ∈ S, k ∈ S') : Keeps S' w w' := h.mono fun k _ hk => hs k hk

/-- The bytes that a law takes of a text. -/
def cutS (n : Nat) (s : ByteArray) : ByteArray := s.extract 0 (min s.size n)
theorem size_cutS (n : Nat) (s : ByteArray) : (cutS n s).size = min s.size n := by simp [cutS, ByteArray.size_extract]
theorem cutS_small {n : Nat} {s : ByteArray} (h : s.size ≤ n) : s = cutS n s := by
  unfold cutS; rw [Nat.min_eq_left h, ByteArray.extract_zero_size]
theorem cutS_big {n : Nat} {s : ByteArray} (h : ¬ s.size ≤ n) : s.extract 0 n = cutS n s := by
  unfold cutS; rw [Nat.min_eq_right (by omega)]
theorem ret_string_eq {a b : ByteArray} (h : a = b) : Value.string a = .string b := by rw [h]
theorem DiskAt.drewN {w : World} {D L : Nat} {l : List DFile} {room : Nat} (h : DiskAt w D L l room) (n : Nat) : DiskAt (w.drewN n) D L l room := ⟨h.hd, h.hl, h.ne, h.few, h.fits, h.small, h.sure⟩

theorem i64_and (x : Int) (m : Nat) (hm : m < 9223372036854775808) : ∃ q : Nat, bits .and .i64 x m = q ∧ q ≤ m := by
  refine ⟨(BitVec.ofInt 64 x &&& BitVec.ofInt 64 m).toNat, ?_, ?_⟩
  · show IntKind.i64.wrap ((BitVec.ofInt 64 x &&& BitVec.ofInt 64 (m : Int)).toNat : Int) = _
    have h1 : (BitVec.ofInt 64 x &&& BitVec.ofInt 64 (m : Int)).toNat ≤ m := by
      rw [BitVec.toNat_and]
      refine Nat.le_trans Nat.and_le_right ?_
      rw [BitVec.ofInt_natCast, BitVec.toNat_ofNat]; exact Nat.mod_le _ _
    rw [IntKind.wrap_i64]; omega
  · rw [BitVec.toNat_and]
    refine Nat.le_trans Nat.and_le_right ?_
    rw [BitVec.ofInt_natCast, BitVec.toNat_ofNat]; exact Nat.mod_le _ _

theorem length_dAppend (l : List DFile) (room : Nat) (f : Int) (s : ByteArray) : (dAppend l room f s).2.length = l.length := by
  unfold dAppend; split
  · split <;> simp
  · rfl
theorem length_dSync (l : List DFile) (f : Int) : (dSync l f).2.length = l.length := by unfold dSync; split <;> simp
theorem length_dCut (l : List DFile) (f n : Int) : (dCut l f n).2.length = l.length := by unfold dCut; split <;> simp
theorem length_dSwap (l : List DFile) (a b : Int) : (dSwap l a b).2.length = l.length := by
  unfold dSwap; split
  · split
    · rfl
    · exact length_swapped _ _ _
  · rfl
theorem size_dRead_le {w : World} {D L : Nat} {l : List DFile} {room : Nat} (h : DiskAt w D L l room) (f : Int) : (dRead l f).size ≤ 16777216 := by
  unfold dRead; split
  · rename_i hb
    obtain ⟨k, rfl, hk⟩ := hasB_spec hb
    rw [fileAt_eq hk]
    have := fileSum_mem_le l k hk; have := h.fits; have := h.small; omega
  · simp
end Go.Proofs.Ytniojglidlmehaa
