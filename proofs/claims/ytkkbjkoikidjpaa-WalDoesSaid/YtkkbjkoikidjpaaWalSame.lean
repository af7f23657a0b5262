/-
  The reference's Same: are two rows of strings the same?
-/
import Derived.Test.YtkkbjkoikidjpaaWalFrames
namespace Go.Proofs.Ytkkbjkoikidjpaa
open Go.RowKit

def SameRel (w0 : World) (l m : List ByteArray) (v5 : Value) (wr : World) : Prop := ∃ k : Nat, k ≤ l.length ∧ v5 = .int .i64 k ∧ l.take k = m.take k ∧ Keeps [] w0 wr

set_option maxRecDepth 10000 in
set_option maxHeartbeats 4000000 in
theorem same_c {w : World} {v u : Value} {l m : List ByteArray} (h : RowOf w v l) (h2 : RowOf w u m) (hl : l.length ≤ 9223372036854775807) :
    Calls Try.prog 18 #[v, u] w fun e w' => e = .returned (.bool (decide (l = m))) ∧ Keeps [] w w' := by
  obtain ⟨a, cap, rfl⟩ := row_len h
  obtain ⟨a2, cap2, rfl⟩ := row_len h2
  by_cases hne : l.length = m.length
  · obtain ⟨d, hd⟩ : ∃ d, d = decide (l = m) := ⟨_, rfl⟩
    rw [← hd]
    have HD := Go.Lib.hid hd
    have HN := Go.Lib.hid hne
    rw [← hne]
    clear hd hne
    go_enter Try.func18, Try.ntmps18
    go_wp2_with fail
    go_loopw [5] (fun v5 wr => SameRel w l m v5 wr) (fun v5 _ => l.length - (intOf v5).toNat)
    case atStart => exact ⟨0, Nat.zero_le _, rfl, rfl, Keeps.refl _ _⟩
    case round =>
      obtain ⟨k, hk, rfl, htk, K⟩ := hrel
      have HT := Go.Lib.hid htk
      clear htk
      by_cases hlt : k < l.length
      · have hltm : k < m.length := by rw [← HN.out]; exact hlt
        obtain ⟨b, o, rfl, hb, hc⟩ := row_at h hlt
        obtain ⟨b2, o2, rfl, hb2, hc2⟩ := row_at h2 hltm
        have e0 := (K.cell hb (by simp)).trans hc
        have e1 := (K.cell hb2 (by simp)).trans hc2
        obtain ⟨x, hx⟩ : ∃ x, x = l[k] := ⟨_, rfl⟩
        obtain ⟨y, hy⟩ : ∃ y, y = m[k] := ⟨_, rfl⟩
        rw [← hx] at e0
        rw [← hy] at e1
        have HX := Go.Lib.hid hx
        have HY := Go.Lib.hid hy
        clear hx hy hc hc2
        by_cases hxy : x = y
        · have hb3 := str_same hxy
          go_wp2_with fail
          go_quiet (fail)
          go_wp2_with fail
          go_roundw
          case rel =>
            refine ⟨k + 1, by omega, by go_num, ?_, K.drewN _⟩
            rw [List.take_succ_eq_append_getElem hlt, List.take_succ_eq_append_getElem hltm, HT.out, ← HX.out, ← HY.out, hxy]
          case measure => simp [intOf]; omega
        · have hb3 := str_other hxy
          have hd2 : d = false := by
            rw [HD.out, decide_eq_false_iff_not]
            intro e
            apply hxy
            rw [HX.out, HY.out]
            simp [e]
          have HD2 := Go.Lib.hid hd2
          clear hd2
          go_wp2_with fail
          go_quiet (fail)
          go_wp2
          go_ret
          exact ⟨by rw [HD2.out]; rfl, K.drewN _⟩
      · have hd2 : d = true := by
          rw [HD.out, decide_eq_true_eq]
          have e := HT.out
          have e2 := HN.out
          rw [List.take_of_length_le (by omega), List.take_of_length_le (by omega)] at e
          exact e
        have HD2 := Go.Lib.hid hd2
        clear hd2
        go_wp2
        go_ret
        exact ⟨by rw [HD2.out]; rfl, K⟩
  · have hd : decide (l = m) = false := by rw [decide_eq_false_iff_not]; intro e; rw [e] at hne; exact hne rfl
    rw [hd]
    have hne2 : ((l.length : Int) != (m.length : Int)) = true := by simp; omega
    have hne3 : (l.length != m.length) = true := by simpa using hne
    go_enter Try.func18, Try.ntmps18
    go_wp2
    go_ret
    exact ⟨rfl, Keeps.refl _ _⟩
end Go.Proofs.Ytkkbjkoikidjpaa
