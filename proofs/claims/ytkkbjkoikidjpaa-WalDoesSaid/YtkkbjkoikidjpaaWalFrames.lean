/-
  The contracts of package wal: records' frames.
-/
import Derived.Test.YtkkbjkoikidjpaaWalOpen
namespace Go.Proofs.Ytkkbjkoikidjpaa
open Go.RowKit

def catF : List ByteArray → ByteArray
  | [] => ⟨#[]⟩
  | x :: l => wFrame x ++ catF l
theorem ba_append_nil (s : ByteArray) : s ++ (⟨#[]⟩ : ByteArray) = s := by apply ba_ext; simp
theorem ba_nil_append (s : ByteArray) : (⟨#[]⟩ : ByteArray) ++ s = s := by apply ba_ext; simp
theorem ba_append_assoc (a b c : ByteArray) : a ++ b ++ c = a ++ (b ++ c) := by apply ba_ext; simp
theorem catF_append (l m : List ByteArray) : catF (l ++ m) = catF l ++ catF m := by
  induction l with
  | nil => rw [List.nil_append, catF, ba_nil_append]
  | cons x l ih => rw [List.cons_append, catF, catF, ih, ba_append_assoc]
theorem catF_size (l : List ByteArray) : (catF l).size = framesSize l := by
  induction l with
  | nil => rfl
  | cons x l ih => rw [catF, framesSize, ByteArray.size_append, ih]
theorem framesSize_le (l : List ByteArray) : framesSize l ≤ 4106 * l.length := by
  induction l with
  | nil => simp [framesSize]
  | cons x l ih => have := frame_small x; simp only [framesSize, List.length_cons]; omega
/-- Each has a frame. -/
def allOk (l : List ByteArray) : Prop := ∀ x ∈ l, ¬ (wFrame x).size = 0

def FramesRel (w0 : World) (l : List ByteArray) (v4 v10 : Value) (wr : World) : Prop := ∃ k : Nat, k ≤ l.length ∧ v10 = .int .i64 k ∧ v4 = .string (catF (l.take k)) ∧ allOk (l.take k) ∧ Keeps [] w0 wr

theorem row_at {w : World} {a : Option Addr} {n cap : Nat} {l : List ByteArray} (h : RowOf w (.slice a n cap) l) {i : Nat} (hi : i < l.length) : ∃ b o, a = some ⟨b, o, none⟩ ∧ b < w.heap.size ∧ w.cell? ⟨b, o + i, none⟩ = some (.string l[i]) := by
  rcases h with ⟨_, rfl⟩ | ⟨b, o, c, e, hb, hc⟩
  · exact absurd hi (Nat.not_lt_zero _)
  · injection e with e1 e2 e3
    exact ⟨b, o, e1, hb, hc i hi⟩
theorem row_len {w : World} {v : Value} {l : List ByteArray} (h : RowOf w v l) : ∃ a cap, v = .slice a l.length cap := by
  rcases h with ⟨rfl, rfl⟩ | ⟨b, o, c, e, _, _⟩
  · exact ⟨none, 0, rfl⟩
  · exact ⟨_, _, e⟩

set_option maxRecDepth 10000 in
set_option maxHeartbeats 4000000 in
theorem frames_c {w : World} {v : Value} {l : List ByteArray} (h : RowOf w v l) (hl : l.length ≤ 1000) (hs : ∀ x ∈ l, x.size ≤ 1048576) :
    Calls Try.prog 38 #[v] w fun e w' => ((allOk l ∧ e = .returned (.tuple #[.string (catF l), .bool true])) ∨ (¬ allOk l ∧ e = .returned (.tuple #[.string ⟨#[]⟩, .bool false]))) ∧ Keeps [] w w' := by
  obtain ⟨a, cap, rfl⟩ := row_len h
  go_enter Try.func38, Try.ntmps38
  go_wp2_with fail
  go_loopw [4, 10] (fun v4 v10 wr => FramesRel w l v4 v10 wr) (fun _ v10 _ => l.length - (intOf v10).toNat)
  case atStart => exact ⟨0, Nat.zero_le _, rfl, rfl, (fun x hx => by simp at hx), Keeps.refl _ _⟩
  case round =>
    obtain ⟨k, hk, rfl, rfl, hall, K⟩ := hrel
    by_cases hlt : k < l.length
    · obtain ⟨b, o, rfl, hb, hc⟩ := row_at h hlt
      have e0 := (K.cell hb (by simp)).trans hc
      have hm : l[k] ∈ l := List.getElem_mem hlt
      have hx := hs _ hm
      have htk : l.take (k + 1) = l.take k ++ [l[k]] := List.take_succ_eq_append_getElem hlt
      have htl : (l.take k).length ≤ 1000 := by simp; omega
      have hcs : (catF (l.take k)).size ≤ 4106 * 1000 := by rw [catF_size]; have := framesSize_le (l.take k); omega
      have hcat : catF (l.take (k + 1)) = catF (l.take k) ++ wFrame l[k] := by rw [htk, catF_append, catF, catF, ba_append_nil]
      have hok : ¬ (wFrame l[k]).size = 0 → allOk (l.take (k + 1)) := fun hn x hx => by
        rw [htk] at hx
        rcases List.mem_append.1 hx with hx | hx
        · exact hall x hx
        · simp at hx; subst hx; exact hn
      have hno : (wFrame l[k]).size = 0 → ¬ allOk l := fun hz ha => ha _ hm hz
      have hfs := frame_small l[k]
      have FR := fun w => frame_c (w := w) l[k] hx
      obtain ⟨c2, hc2⟩ : ∃ c2, c2 = catF (l.take (k + 1)) := ⟨_, rfl⟩
      have HC2 := Go.Lib.hid hc2
      rw [← hc2] at hcat
      generalize wFrame l[k] = f at *
      generalize catF (l.take k) = c1 at *
      generalize l[k] = x at *
      have HOK := Go.Lib.hid hok
      have HCAT := Go.Lib.hid hcat
      have hsum : c1.size + f.size ≤ 9223372036854775807 := by omega
      clear hc2 hcat hok htk hall hc
      go_wp2_with fail
      refine (FR _).mono ?_
      rintro e w2 ⟨rfl, k2⟩
      have K2 := K.trans k2
      clear FR K k2 e0
      by_cases hz : f.size = 0
      · have hno2 := Go.Lib.hid (hno hz)
        have e := str_empty hz
        subst e
        clear hno
        go_wp2
        go_ret2
        exact ⟨.inr ⟨hno2.out, rfl⟩, K2⟩
      · have e3 := str_ne hz
        clear hno
        go_wp2_with fail
        go_roundw
        case rel => exact ⟨k + 1, by omega, by go_num, by rw [← HCAT.out, HC2.out], HOK.out hz, K2⟩
        case measure => simp [intOf]; omega
    · obtain rfl : k = l.length := by omega
      rw [List.take_length] at hall ⊢
      have HAL := Go.Lib.hid hall
      generalize hcl : catF l = c1 at *
      have HCL := Go.Lib.hid hcl
      clear hcl hall
      go_wp2_with fail
      go_ret2
      exact ⟨.inl ⟨HAL.out, by rw [HCL.out]; rfl⟩, K⟩
end Go.Proofs.Ytkkbjkoikidjpaa
