/-
  The contracts of the document's answer for disks, more: New and Crash.
-/
import Derived.Test.YtkkbjkoikidjpaaWRefDiskB
import Derived.Deep.DeepCutAuto
namespace Go.Proofs.Ytkkbjkoikidjpaa
open Go.RowKit

theorem madeStrs (n : Nat) : madeCells #[.string ByteArray.empty] (n * 1) = (List.replicate n (Value.string ByteArray.empty)).toArray := by
  rw [Nat.mul_one]; exact Array.toList_inj.1 (toList_madeCells_one _ _)
theorem fA_empty : fA (ByteArray.empty, 0) = ByteArray.empty := by rfl
theorem fB_empty : fB (ByteArray.empty, 0) = ByteArray.empty := by rfl
theorem rStrs_new (n : Nat) (g : DFile → ByteArray) (h : g (ByteArray.empty, 0) = ByteArray.empty) : rStrs g (List.replicate n (ByteArray.empty, 0)) = List.replicate n (.string ByteArray.empty) := by
  simp [rStrs, h]

set_option maxRecDepth 100000 in
set_option maxHeartbeats 400000 in
theorem r_new_no {w : World} (n room : Int) (h : newOk n room = false) :
    Calls Try.prog 21 #[.int .i64 n, .int .i64 room] w fun e w' => e = .returned (.tuple #[.pointer none, .int .i64 1]) ∧ w = w' := by
  have h' : n < 1 ∨ 8 < n ∨ room < 0 ∨ 16777216 < room := by simp [newOk] at h; omega
  have H := Lib.hid h'
  clear h h'
  go_enter Try.func21, Try.ntmps21
  go_wp2
  all_goals first | (go_ret2; exact ⟨rfl, rfl⟩) | (exfalso; have := H.out; omega)

theorem RefAt.made {w : World} {n room D LA LB : Nat} {cs : Array Value} (hf : n ≤ 8) (hs : room ≤ 16777216) (hc : cs = (List.replicate n (Value.string ByteArray.empty)).toArray)
    (hab : (LA = w.heap.size ∧ LB = w.heap.size + 1) ∨ (LA = w.heap.size + 1 ∧ LB = w.heap.size)) (hD : D = w.heap.size + 2) :
    RefAt ((((w.alloc (.cells cs 9)).alloc (.cells cs 9)).alloc (.cells #[.slice (some ⟨LA, 0, none⟩) n n, .slice (some ⟨LB, 0, none⟩) n n, .int .i64 room] 77)).drew) D LA LB (List.replicate n (ByteArray.empty, 0)) room := by
  have g0 : (((w.alloc (.cells cs 9)).alloc (.cells cs 9)).alloc (.cells #[.slice (some ⟨LA, 0, none⟩) n n, .slice (some ⟨LB, 0, none⟩) n n, .int .i64 room] 77)).heap[w.heap.size]? = some (.cells cs 9) := by
    rw [heap_alloc_old (by simp; omega), heap_alloc_old (by simp), heap_alloc_same]
  have g1 : (((w.alloc (.cells cs 9)).alloc (.cells cs 9)).alloc (.cells #[.slice (some ⟨LA, 0, none⟩) n n, .slice (some ⟨LB, 0, none⟩) n n, .int .i64 room] 77)).heap[w.heap.size + 1]? = some (.cells cs 9) := by
    rw [heap_alloc_old (by simp), heap_alloc_at (by simp)]
  refine ⟨by rw [heap_drew, hD, heap_alloc_at (by simp), List.length_replicate], ?_, ?_, by omega, by omega, by omega, by simpa using hf, by simp [fileSum], hs, by simp⟩
  · rw [heap_drew, rStrs_new n fA fA_empty, ← hc]
    rcases hab with ⟨rfl, rfl⟩ | ⟨rfl, rfl⟩
    · exact g0
    · exact g1
  · rw [heap_drew, rStrs_new n fB fB_empty, ← hc]
    rcases hab with ⟨rfl, rfl⟩ | ⟨rfl, rfl⟩
    · exact g1
    · exact g0

set_option maxRecDepth 100000 in
set_option maxHeartbeats 1000000 in
theorem r_new_ok {w : World} (n room : Nat) (h : newOk n room = true) :
    Calls Try.prog 21 #[.int .i64 n, .int .i64 room] w fun e w' => ∃ D LA LB, e = .returned (.tuple #[.pointer (some ⟨D, 0, none⟩), .int .i64 0]) ∧
      RefAt w' D LA LB (List.replicate n (ByteArray.empty, 0)) room ∧ Keeps [] w w' ∧ w.heap.size ≤ D ∧ w.heap.size ≤ LA ∧ w.heap.size ≤ LB := by
  have h' : 1 ≤ n ∧ n ≤ 8 ∧ room ≤ 16777216 := by simp [newOk] at h; omega
  obtain ⟨i0, hi, hz0, hz1, hz2⟩ := info_parts infoStr
  have hmk : ∀ u : World, (Instr.makeSlice 31 (.int .i64 n) (.int .i64 n)).run Try.prog u = .ok (.slice (some ⟨u.heap.size, 0, none⟩) n n) (u.alloc (.cells (List.replicate n (Value.string ByteArray.empty)).toArray 9)) := fun u => by
    have h := run_make (P := Try.prog) u 31 9 i0 _ Try.underlying31 hi hz0 .i64 .i64 (n : Int) (n : Int) (by omega) (Int.le_refl _) (by rw [hz2]; omega) (by omega)
    rw [hz1, Int.toNat_natCast] at h
    rw [h, ← madeStrs]; rfl
  obtain ⟨cs, hcs⟩ : ∃ cs, cs = (List.replicate n (Value.string ByteArray.empty)).toArray := ⟨_, rfl⟩
  rw [← hcs] at hmk
  have H := Lib.hid hcs
  obtain ⟨h1, h2, h3⟩ := h'
  clear hi hz0 hz1 hz2 h hcs
  go_enter Try.func21, Try.ntmps21
  go_wp2
  go_region
  all_goals go_wp2
  all_goals go_ret2
  all_goals first
    | exact ⟨_, _, _, rfl, RefAt.made h2 h3 H.out (.inl ⟨rfl, rfl⟩) rfl, by repeat (first | exact Keeps.refl _ _ | apply Keeps.drew | apply Keeps.alloc), by omega, by omega, by omega⟩
    | exact ⟨_, _, _, rfl, RefAt.made h2 h3 H.out (.inr ⟨rfl, rfl⟩) rfl, by repeat (first | exact Keeps.refl _ _ | apply Keeps.drew | apply Keeps.alloc), by omega, by omega, by omega⟩

/-- Behind k rounds of a crash. -/
def RCrashRel (w : World) (D LA LB : Nat) (l : List DFile) (room : Nat) (keep : List Int) (i : Value) (wr : World) : Prop :=
  ∃ k : Nat, k ≤ l.length ∧ i = .int .i64 k ∧ RefAt wr D LA LB (crashTo k l keep) room ∧ Keeps [LA, LB] w wr

/-- What a crash keeps of one file's tail. -/
def crashM (keep : List Int) (i : Nat) (f : DFile) : Nat := crashN keep i f - f.2
/-- What it is asked to keep. -/
def crashW (keep : List Int) (i : Nat) : Int := if i < keep.length ∧ 0 < keep[i]?.getD 0 then keep[i]?.getD 0 else 0
theorem crashM_eq (keep : List Int) (i : Nat) (f : DFile) (h : f.2 ≤ f.1.size) : (crashM keep i f : Int) = if (f.1.size - f.2 : Nat) < crashW keep i then ((f.1.size - f.2 : Nat) : Int) else crashW keep i := by
  unfold crashM crashN
  by_cases h1 : i < keep.length
  · by_cases h2 : 0 < keep[i]?.getD 0
    · have hw : crashW keep i = keep[i]?.getD 0 := by unfold crashW; rw [if_pos ⟨h1, h2⟩]
      rw [hw, if_pos h1]; split <;> omega
    · have hw : crashW keep i = 0 := by unfold crashW; rw [if_neg (fun h => h2 h.2)]
      rw [hw, if_pos h1]; split <;> omega
  · have hw : crashW keep i = 0 := by unfold crashW; rw [if_neg (fun h => h1 h.1)]
    rw [hw, if_neg h1]; split <;> omega
/-- Is it asked to keep some? -/
def crashB (keep : List Int) (i : Nat) : Bool := decide (i < keep.length ∧ 0 < keep[i]?.getD 0)

theorem fA_crash (keep : List Int) (i : Nat) (f : DFile) (h : f.2 ≤ f.1.size) : fA (crashF keep i f) = fA f ++ (fB f).extract 0 (crashM keep i f) := by
  have h1 := crashN_le keep i f h
  have h2 : f.2 ≤ crashN keep i f := by unfold crashN; omega
  unfold crashF
  rw [fA_cut]
  unfold fA fB
  rw [ByteArray.extract_extract]
  have e : f.2 + crashM keep i f = crashN keep i f := by unfold crashM; omega
  rw [Nat.add_zero, e, Nat.min_eq_left h1, ByteArray.extract_append_extract, Nat.zero_min, Nat.max_eq_right h2]
theorem fB_crash (keep : List Int) (i : Nat) (f : DFile) : fB (crashF keep i f) = ByteArray.empty := by unfold crashF; rw [fB_cut]

set_option maxRecDepth 100000 in
set_option maxHeartbeats 2000000 in
theorem r_crash {w : World} {D LA LB : Nat} {l : List DFile} {room : Nat} (h : RefAt w D LA LB l room) (a : Option Addr) (cap : Nat) (keep : List Int) {p : Nat → Prop} (hk : IntsAt w p a keep) (ho : ¬ p LA) (ho2 : ¬ p LB) :
    Calls Try.prog 26 #[.pointer (some ⟨D, 0, none⟩), .slice a keep.length cap] w fun e w' =>
      e = .returned (.tuple #[]) ∧ RefAt w' D LA LB (dCrash l keep) room ∧ Keeps [LA, LB] w w' := by
  have hf := h.few
  have hkl := hk.small
  go_enter Try.func26, Try.ntmps26
  go_wp2
  go_loopw [4] (fun i wr => RCrashRel w D LA LB l room keep i wr) (fun i _ => l.length - (intOf i).toNat)
  case atStart => exact ⟨0, by omega, rfl, by rw [crashTo_zero]; exact h, Keeps.refl _ _⟩
  case round =>
    obtain ⟨k, hk', rfl, g, hkp⟩ := hrel
    have h0 := g.c0
    rw [length_crashTo] at h0
    by_cases hlt : k < l.length
    · have lt' : k < (crashTo k l keep).length := by rw [length_crashTo]; exact hlt
      have h1 := g.c1
      rw [length_crashTo] at h1
      have hs := g.ca k lt'
      have hn := g.cb k lt'
      rw [crashTo_at k l keep hlt] at hs hn
      have hza := g.fza k
      have hzb := g.fzb k
      have hsu := h.sure k hlt
      have hne1 := h.ne1
      have hne2 := h.ne2
      have hne3 := h.ne3
      have zB := size_fB l[k]
      have hsz := h.sz k hlt
      have zA := size_fA l[k] hsu
      have hM := crashM_eq keep k l[k] hsu
      rw [← zB] at hM
      have hfBz : (fB l[k]).size ≤ 16777216 := by omega
      have hfAz : (fA l[k]).size + (fB l[k]).size ≤ 16777216 := by omega
      have G := Lib.hid g
      have HK := Lib.hid hkp
      have HM := Lib.hid hM
      have gk := hk.keep hkp (fun b hp => by intro hm; have : b = LA ∨ b = LB := by simpa using hm
                                             rcases this with rfl | rfl
                                             · exact ho hp
                                             · exact ho2 hp)
      clear g hkp hM zA zB
      go_upto_region 4 with fail
      go_cut [25] (fun v wx => v = .bool (crashB keep k) ∧ wx = wr)
      case first =>
        by_cases hkk : k < keep.length
        · obtain ⟨b, o, rfl, _, hc⟩ := gk.cell k hkk
          have E : Hid (crashB keep k = decide (0 < keep[k])) := by simp [Hid, crashB, hkk]
          go_wp2
          go_meet
          case rel => exact ⟨by rw [E.out], rfl⟩
        · have E : Hid (crashB keep k = false) := by simp [Hid, crashB, hkk]
          go_wp2
          go_meet
          case rel => exact ⟨by rw [E.out], rfl⟩
      case rest =>
        obtain ⟨rfl, rfl⟩ := hcut
        go_upto_if 25 with fail
        go_cut [5] (fun v wx => v = .int .i64 (crashW keep k) ∧ wx = wc)
        case first =>
          cases hB : crashB keep k with
          | true =>
            have hB' : k < keep.length ∧ 0 < keep[k]?.getD 0 := by simpa [crashB] using hB
            obtain ⟨hkk, hpos⟩ := hB'
            obtain ⟨b, o, rfl, _, hc⟩ := gk.cell k hkk
            have E : Hid (crashW keep k = keep[k]) := by
              show crashW keep k = _
              unfold crashW; rw [if_pos ⟨hkk, hpos⟩]; simp [hkk]
            clear hpos
            go_wp2
            go_meet
            case rel => exact ⟨by rw [E.out], rfl⟩
          | false =>
            have hB' : ¬ (k < keep.length ∧ 0 < keep[k]?.getD 0) := by simpa [crashB] using hB
            have E : Hid (crashW keep k = 0) := by
              show crashW keep k = _
              unfold crashW; rw [if_neg hB']
            clear hB'
            go_wp2
            go_meet
            case rel => exact ⟨by rw [E.out], rfl⟩
        case rest =>
          obtain ⟨rfl, rfl⟩ := hcut
          go_upto_if 39 with fail
          go_cut [5] (fun v wx => v = .int .i64 (crashM keep k l[k]) ∧ wx = wc)
          case first =>
            by_cases hc : ((fB l[k]).size : Int) < crashW keep k
            · have E : Hid ((crashM keep k l[k] : Int) = (fB l[k]).size) := by
                show (crashM keep k l[k] : Int) = _
                rw [HM.out, if_pos hc]
              go_wp2
              go_meet
              case rel => exact ⟨by rw [E.out], rfl⟩
            · have E : Hid ((crashM keep k l[k] : Int) = crashW keep k) := by
                show (crashM keep k l[k] : Int) = _
                rw [HM.out, if_neg hc]
              go_wp2
              go_meet
              case rel => exact ⟨by rw [E.out], rfl⟩
          case rest =>
            obtain ⟨rfl, rfl⟩ := hcut
            have hMle : crashM keep k l[k] ≤ (fB l[k]).size := by rw [size_fB]; have := crashN_le keep k l[k] hsu; unfold crashM; omega
            have XA := Lib.hid (fA_crash keep k l[k] hsu)
            have XB := Lib.hid (fB_crash keep k l[k])
            clear HM
            generalize crashM keep k l[k] = M at *
            have hMz : (fA l[k]).size + M ≤ 16777216 := by omega
            go_wp2
            go_region
            go_wp2
            go_roundw
            case rel =>
              refine ⟨k + 1, by omega, by go_num, ?_, (HK.out.setCell (.inl (by simp)) _).drew.setCell (.inl (by simp)) _⟩
              rw [← crashTo_succ k l keep hlt]
              refine G.out.put ?_ ?_ ?_ ?_ ?_
              · simp only [crashF, ByteArray.size_extract]; have := crashN_le keep k l[k] hsu; omega
              · rw [fileSum_set _ _ _ lt', crashTo_at k l keep hlt]
                have := G.out.fits
                have := fileSum_mem_le _ k lt'
                rw [crashTo_at k l keep hlt] at this
                simp only [crashF, ByteArray.size_extract]; have := crashN_le keep k l[k] hsu; omega
              · show ((World.setCell _ _ _).setCell _ _).heap[_]? = _
                rw [heap_setCell_other hne2, heap_setCell_other hne1]
              · show ((World.setCell _ _ _).setCell _ _).heap[_]? = _
                rw [heap_setCell_other hne3, heap_setCell_same G.out.ha, XA.out]; simp
              · show ((World.setCell _ _ _).setCell _ _).heap[_]? = _
                rw [heap_setCell_same (by rw [heap_setCell_other (Ne.symm hne3)]; exact G.out.hb), XB.out]; simp; rfl
            case measure => simp [intOf]; omega
    · go_wp2
      go_end0
      rw [crashTo_all l keep k (by omega)] at g
      exact ⟨rfl, g, hkp⟩
end Go.Proofs.Ytkkbjkoikidjpaa
