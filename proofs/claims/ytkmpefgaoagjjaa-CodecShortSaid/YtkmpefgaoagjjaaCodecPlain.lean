/-
  Parts that are written and read: the plain law. Nothing here speaks of the program.
-/
import Derived.Test.YtkmpefgaoagjjaaCodecCut
import Derived.Test.YtkmpefgaoagjjaaReader
namespace Go.Proofs.Ytkmpefgaoagjjaa
open Go.RowKit

def partB (p : DPart) : ByteArray := if p.kind = 0 then byteB p.n else if p.kind = 1 then putB (uOf p.n) else if p.kind = 2 then blobB p.s else p.s
def textOf : List DPart → ByteArray
  | [] => ByteArray.empty
  | p :: l => partB p ++ textOf l
def rPart (most : Int) (p : DPart) (st : ByteArray × Int) : ByteArray × Int :=
  if p.kind = 0 then rGo 1 st else if p.kind = 1 then rGo 8 st else if p.kind = 2 then rBlobGo most st else rGo 16 st

theorem textOf_snoc (l : List DPart) (p : DPart) : textOf (l ++ [p]) = textOf l ++ partB p := by
  induction l with
  | nil => simp [textOf]
  | cons q l ih => simp only [List.cons_append, textOf, ih, ByteArray.append_assoc]

theorem kinds {P : DPart → Prop} (p : DPart) (h0 : p.kind = 0 → P p) (h1 : p.kind = 1 → P p) (h2 : p.kind = 2 → P p) (h3 : p.kind ≠ 0 → p.kind ≠ 1 → p.kind ≠ 2 → P p) : P p := by
  by_cases q0 : p.kind = 0
  · exact h0 q0
  by_cases q1 : p.kind = 1
  · exact h1 q1
  by_cases q2 : p.kind = 2
  · exact h2 q2
  exact h3 q0 q1 q2

theorem ok0 {p : DPart} (h : p.okB = true) (k : p.kind = 0) : 0 ≤ p.n ∧ p.n ≤ 255 := by simpa [DPart.okB, k] using h
theorem ok2 {p : DPart} (h : p.okB = true) (k : p.kind = 2) : p.s.size ≤ 4096 := by
  have : (p.s.size : Int) ≤ 4096 := by simpa [DPart.okB, k] using h
  omega
theorem ok3 {p : DPart} (h : p.okB = true) (k0 : p.kind ≠ 0) (k1 : p.kind ≠ 1) (k2 : p.kind ≠ 2) : p.s.size = 16 := by
  have : (p.s.size : Int) = 16 := by simpa [DPart.okB, k0, k1, k2] using h
  omega
theorem part0 {p : DPart} (k : p.kind = 0) : partB p = byteB p.n := by simp [partB, k]
theorem part1 {p : DPart} (k : p.kind = 1) : partB p = putB (uOf p.n) := by simp [partB, k]
theorem part2 {p : DPart} (k : p.kind = 2) : partB p = blobB p.s := by simp [partB, k]
theorem part3 {p : DPart} (k0 : p.kind ≠ 0) (k1 : p.kind ≠ 1) (k2 : p.kind ≠ 2) : partB p = p.s := by simp [partB, k0, k1, k2]
theorem go0 {m : Int} {p : DPart} {st : ByteArray × Int} (k : p.kind = 0) : rPart m p st = rGo 1 st := by simp [rPart, k]
theorem go1 {m : Int} {p : DPart} {st : ByteArray × Int} (k : p.kind = 1) : rPart m p st = rGo 8 st := by simp [rPart, k]
theorem go2 {m : Int} {p : DPart} {st : ByteArray × Int} (k : p.kind = 2) : rPart m p st = rBlobGo m st := by simp [rPart, k]
theorem go3 {m : Int} {p : DPart} {st : ByteArray × Int} (k0 : p.kind ≠ 0) (k1 : p.kind ≠ 1) (k2 : p.kind ≠ 2) : rPart m p st = rGo 16 st := by simp [rPart, k0, k1, k2]

theorem size_byteB (n : Int) : (byteB n).size = 1 := by rw [byteB, strOfNums_size]; rfl
theorem size_blobB (s : ByteArray) : (blobB s).size = 2 + s.size := by rw [blobB, ByteArray.size_append, strOfNums_size]; rfl
theorem size_partB_pos {p : DPart} (h : p.okB = true) : 0 < (partB p).size := by
  refine kinds (P := fun p => p.okB = true → 0 < (partB p).size) p (fun k _ => ?_) (fun k _ => ?_) (fun k _ => ?_) (fun k0 k1 k2 h => ?_) h
  · rw [part0 k, size_byteB]; omega
  · rw [part1 k, size_putB]; omega
  · rw [part2 k, size_blobB]; omega
  · rw [part3 k0 k1 k2, ok3 h k0 k1 k2]; omega
theorem size_partB_le {p : DPart} (h : p.s.size ≤ 5000) : (partB p).size ≤ 5002 := by
  refine kinds (P := fun p => p.s.size ≤ 5000 → (partB p).size ≤ 5002) p (fun k _ => ?_) (fun k _ => ?_) (fun k _ => ?_) (fun k0 k1 k2 h => ?_) h
  · rw [part0 k, size_byteB]; omega
  · rw [part1 k, size_putB]; omega
  · rw [part2 k, size_blobB]; omega
  · rw [part3 k0 k1 k2]; omega
theorem size_textOf_le {l : List DPart} (h : ∀ p ∈ l, p.s.size ≤ 5000) : (textOf l).size ≤ l.length * 6000 := by
  induction l with
  | nil => simp [textOf]
  | cons p l ih =>
    have h1 := ih fun q hq => h q (List.mem_cons_of_mem _ hq)
    have h2 := size_partB_le (h p (List.mem_cons_self ..))
    simp only [textOf, ByteArray.size_append, List.length_cons]
    omega
theorem size_textOf_pos {l : List DPart} (h : ∀ p ∈ l, p.okB = true) (hl : l ≠ []) : 0 < (textOf l).size := by
  cases l with
  | nil => exact absurd rfl hl
  | cons p l => simp only [textOf, ByteArray.size_append]; have := size_partB_pos (h p (List.mem_cons_self ..)); omega

/-- A good part is written. -/
theorem wPart_ok {p : DPart} (h : p.okB = true) (t : ByteArray) : wPart (t, 0) p = (t ++ partB p, 0) := by
  refine kinds (P := fun p => p.okB = true → wPart (t, 0) p = (t ++ partB p, 0)) p (fun k h => ?_) (fun k _ => ?_) (fun k h => ?_) (fun k0 k1 k2 h => ?_) h
  · have := ok0 h k; rw [part0 k]; simp [wPart, k, wByte, wPut, this]
  · rw [part1 k]; simp [wPart, k, wNum, wPut]
  · have := ok2 h k; rw [part2 k]; simp [wPart, k, wBlob, wPut]; omega
  · have := ok3 h k0 k1 k2; rw [part3 k0 k1 k2]; simp [wPart, k0, k1, k2, wHash, wPut, this]

theorem rHas_app {a b : ByteArray} {n : Nat} (h : n = a.size) : rHas n (a ++ b, 0) = true := by rw [rHas_iff]; exact ⟨rfl, by simp; omega⟩
theorem rGo_app {a b : ByteArray} {n : Nat} (h : n = a.size) : rGo n (a ++ b, 0) = (b, 0) := by
  simp only [rGo, rHas_app h, if_true]
  rw [ByteArray.extract_append_eq_right h (by simp)]
theorem rGet_app {a b : ByteArray} {n : Nat} (h : n = a.size) : rGet n (a ++ b, 0) = a := by
  simp only [rGet, rHas_app h, if_true]
  rw [ByteArray.extract_append_eq_left h]

theorem rLen_app (s b : ByteArray) (h : s.size ≤ 4096) : rLen (blobB s ++ b, 0) = s.size := by
  unfold rLen
  rw [blobB, ByteArray.append_assoc, rGet_app (by rw [strOfNums_size]; rfl)]
  simp only [at0, strOfNums_data, List.map_cons, List.map_nil, List.getD_cons_zero, List.getD_cons_succ, UInt8.toNat_ofNat']
  omega
theorem rBad_app (s b : ByteArray) (most : Int) (h : s.size ≤ 4096) (hm : s.size ≤ most) : rBad most (blobB s ++ b, 0) = 0 := by
  have e1 : rHas 2 (blobB s ++ b, 0) = true := by rw [blobB, ByteArray.append_assoc]; exact rHas_app (by rw [strOfNums_size]; rfl)
  have e2 : rGo 2 (blobB s ++ b, 0) = (s ++ b, 0) := by rw [blobB, ByteArray.append_assoc]; exact rGo_app (by rw [strOfNums_size]; rfl)
  unfold rBad
  rw [e1, e2, rLen_app s b h]
  simp
  omega
theorem rBlob_app (s b : ByteArray) (most : Int) (h : s.size ≤ 4096) (hm : s.size ≤ most) : rBlob most (blobB s ++ b, 0) = s ∧ rBlobGo most (blobB s ++ b, 0) = (b, 0) := by
  have e2 : rGo 2 (blobB s ++ b, 0) = (s ++ b, 0) := by rw [blobB, ByteArray.append_assoc]; exact rGo_app (by rw [strOfNums_size]; rfl)
  unfold rBlob rBlobGo
  rw [rBad_app s b most h hm, rLen_app s b h, e2, if_pos rfl, if_pos rfl]
  exact ⟨rGet_app rfl, rGo_app rfl⟩

/-- A good part is read. -/
theorem rPart_app {p : DPart} (h : p.okB = true) (b : ByteArray) (most : Int) (hm : p.kind = 2 → p.s.size ≤ most) : rPart most p (partB p ++ b, 0) = (b, 0) := by
  refine kinds (P := fun p => p.okB = true → (p.kind = 2 → p.s.size ≤ most) → rPart most p (partB p ++ b, 0) = (b, 0)) p (fun k h _ => ?_) (fun k _ _ => ?_) (fun k h hm => ?_) (fun k0 k1 k2 h _ => ?_) h hm
  · rw [go0 k, part0 k]; exact rGo_app (size_byteB _).symm
  · rw [go1 k, part1 k]; exact rGo_app (size_putB _).symm
  · rw [go2 k, part2 k]; exact (rBlob_app _ _ _ (ok2 h k) (hm k)).2
  · rw [go3 k0 k1 k2, part3 k0 k1 k2]; exact rGo_app (ok3 h k0 k1 k2).symm

theorem val_cons (b : UInt8) (l : List UInt8) : val (b :: l) = b.toNat * 256 ^ l.length + val l := by
  rw [← l.reverse_reverse]
  induction l.reverse with
  | nil => simp [val]
  | cons c r ih =>
    rw [List.reverse_cons, ← List.cons_append, val_snoc, ih, val_snoc]
    simp only [List.length_append, List.length_cons, List.length_nil, Nat.zero_add, Nat.pow_succ, Nat.add_mul, Nat.mul_assoc]
    omega
theorem val_be (k n : Nat) : val (be k n) = n % 256 ^ k := by
  induction k with
  | zero => simp [be, val, Nat.mod_one]
  | succ k ih =>
    rw [be, val_cons, ih, length_be, Nat.mod_pow_succ, UInt8.toNat_ofNat', Nat.mul_comm, Nat.add_comm]
theorem rNum_app (n : Nat) (b : ByteArray) (h : n ≤ 18446744073709551615) : rNum (putB n ++ b, 0) = n := by
  rw [rNum, rGet_app (size_putB _).symm]
  show val (be 8 n) = n
  rw [val_be]; omega
theorem rByte_app (n : Int) (b : ByteArray) (h : 0 ≤ n ∧ n ≤ 255) : ((rByte (byteB n ++ b, 0) : Nat) : Int) = n := by
  rw [rByte, rGet_app (size_byteB _).symm]
  simp only [at0, byteB, strOfNums_data, List.map_cons, List.map_nil, List.getD_cons_zero, UInt8.toNat_ofNat']
  omega

/-- The beginning of a text, or it was short. -/
def ShortOf (t : ByteArray) (st : ByteArray × Int) : Prop := st.2 = 3 ∨ ∃ c, c < t.size ∧ st = (t.extract 0 c, 0)

theorem pre_app {a b : ByteArray} {c : Nat} (h : a.size ≤ c) : (a ++ b).extract 0 c = a ++ b.extract 0 (c - a.size) := by
  rw [ByteArray.extract_append]
  congr 1
  · apply ba_ext
    rw [ByteArray.data_extract, Array.toList_extract, List.extract_eq_take_drop, List.drop_zero, Nat.sub_zero]
    exact List.take_of_length_le (by rw [Array.length_toList]; exact h)
  · rw [Nat.zero_sub]
theorem short_bad {st : ByteArray × Int} (h : st.2 = 3) (p : DPart) : (rPart 4096 p st).2 = 3 := by
  have hn : st.2 ≠ 0 := by rw [h]; decide
  have e1 : ∀ n, rGo n st = st := fun n => by rw [rGo_no (rHas_bad hn), rFail_same hn]
  have e2 : rBad 4096 st = 3 := by simp [rBad, rHas_bad hn, rFail_same hn, h]
  have e3 : (rBlobGo 4096 st).2 = 3 := by simp [rBlobGo, e2]
  unfold rPart
  split
  · rw [e1]; exact h
  split
  · rw [e1]; exact h
  split
  · exact e3
  · rw [e1]; exact h
theorem short_go {a b : ByteArray} {n c : Nat} (hn : n = a.size) (hc : c < (a ++ b).size) : ShortOf b (rGo n ((a ++ b).extract 0 c, 0)) := by
  by_cases h : a.size ≤ c
  · rw [pre_app h, rGo_app hn]
    rw [ByteArray.size_append] at hc
    exact .inr ⟨c - a.size, by omega, rfl⟩
  · left
    have : rHas n ((a ++ b).extract 0 c, 0) = false := by
      rw [rHas_no]; left; refine ⟨rfl, ?_⟩
      show ((a ++ b).extract 0 c).size < n
      rw [ByteArray.size_extract]; omega
    rw [rGo_no this]; rfl
theorem short_blob {s b : ByteArray} {c : Nat} (hs : s.size ≤ 4096) (hc : c < (blobB s ++ b).size) : ShortOf b (rBlobGo 4096 ((blobB s ++ b).extract 0 c, 0)) := by
  obtain ⟨L, hL⟩ : ∃ L, L = strOfNums [(s.size : Int) / 256 % 256, (s.size : Int) % 256] := ⟨_, rfl⟩
  have hL2 : L.size = 2 := by rw [hL, strOfNums_size]; rfl
  have e0 : blobB s ++ b = L ++ (s ++ b) := by rw [blobB, ByteArray.append_assoc, hL]
  have hlen : ∀ x, rLen (L ++ x, 0) = s.size := fun x => by
    unfold rLen
    rw [rGet_app (by omega), hL]
    simp only [at0, strOfNums_data, List.map_cons, List.map_nil, List.getD_cons_zero, List.getD_cons_succ, UInt8.toNat_ofNat']
    omega
  rw [e0] at hc ⊢
  by_cases h2 : L.size ≤ c
  · rw [pre_app h2, hL2]
    rw [ByteArray.size_append, hL2] at hc
    have e1 : rGo 2 (L ++ (s ++ b).extract 0 (c - 2), 0) = ((s ++ b).extract 0 (c - 2), 0) := rGo_app (by omega)
    have e2 : rHas 2 (L ++ (s ++ b).extract 0 (c - 2), 0) = true := rHas_app (by omega)
    by_cases h3 : c - 2 < s.size
    · have eb : rBad 4096 (L ++ (s ++ b).extract 0 (c - 2), 0) = 3 := by
        unfold rBad
        rw [e2, e1, hlen]
        have : ((s ++ b).extract 0 (c - 2)).size < s.size := by rw [ByteArray.size_extract]; omega
        simp; omega
      left
      unfold rBlobGo
      rw [eb]; rfl
    · have eb : rBad 4096 (L ++ (s ++ b).extract 0 (c - 2), 0) = 0 := by
        unfold rBad
        rw [e2, e1, hlen]
        have : ¬ ((s ++ b).extract 0 (c - 2)).size < s.size := by rw [ByteArray.size_extract]; omega
        simp; omega
      unfold rBlobGo
      rw [eb, if_pos rfl, e1, hlen]
      exact short_go rfl (by omega)
  · left
    have h0 : rHas 2 ((L ++ (s ++ b)).extract 0 c, 0) = false := by
      rw [rHas_no]; left; refine ⟨rfl, ?_⟩
      show ((L ++ (s ++ b)).extract 0 c).size < 2
      rw [ByteArray.size_extract]; omega
    have eb : rBad 4096 ((L ++ (s ++ b)).extract 0 c, 0) = 3 := by simp [rBad, h0, rFail]
    unfold rBlobGo
    rw [eb]; rfl
theorem short_step {p : DPart} (h : p.okB = true) {b : ByteArray} {st : ByteArray × Int} (hs : ShortOf (partB p ++ b) st) : ShortOf b (rPart 4096 p st) := by
  rcases hs with h3 | ⟨c, hc, rfl⟩
  · exact .inl (short_bad h3 p)
  · refine kinds (P := fun p => p.okB = true → c < (partB p ++ b).size → ShortOf b (rPart 4096 p ((partB p ++ b).extract 0 c, 0))) p (fun k _ hc => ?_) (fun k _ hc => ?_) (fun k h hc => ?_) (fun k0 k1 k2 h hc => ?_) h hc
    · rw [go0 k]; rw [part0 k] at hc ⊢; exact short_go (size_byteB _).symm hc
    · rw [go1 k]; rw [part1 k] at hc ⊢; exact short_go (size_putB _).symm hc
    · rw [go2 k]; rw [part2 k] at hc ⊢; exact short_blob (ok2 h k) hc
    · rw [go3 k0 k1 k2]; rw [part3 k0 k1 k2] at hc ⊢; exact short_go (ok3 h k0 k1 k2).symm hc
theorem short_end {st : ByteArray × Int} (h : ShortOf ByteArray.empty st) : rEnd st = 3 := by
  rcases h with h | ⟨c, hc, _⟩
  · simp [rEnd, h]
  · simp at hc
end Go.Proofs.Ytkmpefgaoagjjaa
