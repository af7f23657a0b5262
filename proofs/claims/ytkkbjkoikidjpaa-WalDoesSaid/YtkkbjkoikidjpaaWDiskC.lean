/-
  The contract of package disk's Crash.
-/
import Derived.Test.YtkkbjkoikidjpaaWDiskB
namespace Go.Proofs.Ytkkbjkoikidjpaa
open Go.RowKit

def crashN (keep : List Int) (i : Nat) (f : DFile) : Nat := f.2 + (if i < keep.length then (max 0 (min (keep[i]?.getD 0) ((f.1.size : Int) - f.2))).toNat else 0)
def crashF (keep : List Int) (i : Nat) (f : DFile) : DFile := (f.1.extract 0 (crashN keep i f), crashN keep i f)
/-- Behind k rounds of a crash. -/
def crashTo (k : Nat) (l : List DFile) (keep : List Int) : List DFile := l.mapIdx fun i f => if i < k then crashF keep i f else f
def dCrash (l : List DFile) (keep : List Int) : List DFile := l.mapIdx fun i f => crashF keep i f

theorem length_crashTo (k : Nat) (l : List DFile) (keep : List Int) : (crashTo k l keep).length = l.length := by simp [crashTo]
theorem crashTo_at (k : Nat) (l : List DFile) (keep : List Int) (h : k < l.length) : (crashTo k l keep)[k]'(by rw [length_crashTo]; exact h) = l[k] := by simp [crashTo]
theorem crashTo_succ (k : Nat) (l : List DFile) (keep : List Int) (h : k < l.length) : (crashTo k l keep).set k (crashF keep k l[k]) = crashTo (k + 1) l keep := by
  apply List.ext_getElem
  · simp [crashTo]
  · intro i h1 h2
    simp only [crashTo, List.getElem_set, List.getElem_mapIdx]
    by_cases e : k = i
    · subst e; simp
    · simp only [e, if_false]
      have : i < k ↔ i < k + 1 := by omega
      simp [this]
theorem crashTo_zero (l : List DFile) (keep : List Int) : crashTo 0 l keep = l := by
  apply List.ext_getElem <;> simp [crashTo]
theorem crashTo_all (l : List DFile) (keep : List Int) (k : Nat) (h : l.length ≤ k) : crashTo k l keep = dCrash l keep := by
  apply List.ext_getElem
  · simp [crashTo, dCrash]
  · intro i h1 h2
    have : i < k := by simp [crashTo] at h1; omega
    simp [crashTo, dCrash, this]
theorem crashN_le (keep : List Int) (i : Nat) (f : DFile) (h : f.2 ≤ f.1.size) : crashN keep i f ≤ f.1.size := by
  unfold crashN; split <;> omega

theorem cut_crash {w : World} {D L : Nat} {l : List DFile} {room k : Nat} {keep : List Int} (h : DiskAt w D L (crashTo k l keep) room) (hk : k < l.length) (hs : l[k].2 ≤ l[k].1.size) (n : Int) (hn : n = crashN keep k l[k]) :
    Calls Try.prog 36 #[.pointer (some ⟨D, 0, none⟩), .int .i64 k, .int .i64 n] w fun e w' => (∃ v, e = .returned v) ∧ DiskAt w' D L (crashTo (k + 1) l keep) room ∧ Keeps [L] w w' := by
  subst hn
  refine (cut_any h _ _).mono ?_
  have lt' : k < (crashTo k l keep).length := by rw [length_crashTo]; exact hk
  have hle := crashN_le keep k l[k] hs
  have e : dCut (crashTo k l keep) k (crashN keep k l[k]) = (0, crashTo (k + 1) l keep) := by
    rw [← crashTo_succ k l keep hk]
    simp [dCut, hasB_of_lt lt', fileAt_eq lt', crashTo_at k l keep hk, hle, crashF]
  rw [e]
  rintro e w' ⟨rfl, h1, h2⟩
  exact ⟨⟨_, rfl⟩, h1, h2⟩

set_option maxRecDepth 10000 in
set_option maxHeartbeats 1000000 in
theorem crash_any {w : World} {D L : Nat} {l : List DFile} {room : Nat} (h : DiskAt w D L l room) (a : Option Addr) (cap : Nat) (keep : List Int) {p : Nat → Prop} (hk : IntsAt w p a keep) (ho : ¬ p L) :
    Calls Try.prog 15 #[.pointer (some ⟨D, 0, none⟩), .slice a keep.length cap] w fun e w' =>
      e = .returned (.tuple #[]) ∧ DiskAt w' D L (dCrash l keep) room ∧ Keeps [L] w w' := by
  have h0 := h.c0
  have hf := h.few
  have hkl := hk.small
  go_enter Try.func15, Try.ntmps15
  go_wp2
  go_loopw [12] (fun i wr => ∃ k : Nat, k ≤ l.length ∧ i = .int .i64 k ∧ DiskAt wr D L (crashTo k l keep) room ∧ Keeps [L] w wr) (fun i _ => l.length - (intOf i).toNat)
  case atStart => exact ⟨0, by omega, rfl, by rw [crashTo_zero]; exact h, Keeps.refl _ _⟩
  case round =>
    obtain ⟨k, hk', rfl, g, hkp⟩ := hrel
    by_cases hlt : k < l.length
    · have lt' : k < (crashTo k l keep).length := by rw [length_crashTo]; exact hlt
      have hs := g.cs k lt'
      have hn := g.cn k lt'
      rw [crashTo_at k l keep hlt] at hs hn
      have hsz : l[k].1.size ≤ 16777216 := by have := h.fits; have := fileSum_mem_le l k hlt; have := h.small; omega
      have hsu := h.sure k hlt
      have G := Lib.hid g
      have HK := Lib.hid hkp
      have gk := hk.keep hkp (fun b hp => by intro hm; have : b = L := by simpa using hm
                                             subst this; exact ho hp)
      clear g hkp
      by_cases hkk : k < keep.length
      · obtain ⟨b, o, rfl, hpb, hc⟩ := gk.cell k hkk
        have hbd := gk.bound k hkk
        have hblt : b < wr.heap.size := World.block_lt_of_cell? wr ⟨b, o + k, none⟩ hc
        clear gk hk hpb ho
        go_wp2
        go_quiet (fail)
        go_wp2_with fail
        all_goals
          refine (cut_crash (G.out.keep (S := []) (by repeat (first | exact Keeps.refl _ _ | apply Keeps.drewN | apply Keeps.alloc)) (by simp) (by simp)) hlt hsu _ ?hn).mono ?_
          case hn => simp [crashN, hkk]; omega
          rintro e w1 ⟨⟨v, rfl⟩, g1, k1⟩
          have K1 : Keeps [L] wr w1 := Keeps.trans (by repeat (first | exact Keeps.refl _ _ | apply Keeps.drewN | apply Keeps.alloc)) k1
          clear k1
          go_wp2
          go_roundw
          case rel => exact ⟨k + 1, by omega, by go_num, g1, HK.out.trans K1⟩
          case measure => simp [intOf]; omega
      · clear gk hk ho
        go_wp2_with fail
        refine (cut_crash (G.out.keep (S := []) (by repeat (first | exact Keeps.refl _ _ | apply Keeps.drewN | apply Keeps.alloc)) (by simp) (by simp)) hlt hsu _ ?hn).mono ?_
        case hn => simp [crashN, hkk]
        rintro e w1 ⟨⟨v, rfl⟩, g1, k1⟩
        have K1 : Keeps [L] wr w1 := Keeps.trans (by repeat (first | exact Keeps.refl _ _ | apply Keeps.drewN | apply Keeps.alloc)) k1
        clear k1
        go_wp2
        go_roundw
        case rel => exact ⟨k + 1, by omega, by go_num, g1, HK.out.trans K1⟩
        case measure => simp [intOf]; omega
    · go_wp2
      go_end0
      rw [crashTo_all l keep k (by omega)] at g
      exact ⟨rfl, g, hkp⟩
end Go.Proofs.Ytkkbjkoikidjpaa
