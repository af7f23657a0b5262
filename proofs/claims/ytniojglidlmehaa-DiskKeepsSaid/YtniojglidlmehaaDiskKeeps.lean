/-
  DiskKeeps: its walk.
-/
import Derived.Test.YtniojglidlmehaaDiskOps
namespace Go.Proofs.Ytniojglidlmehaa
open Go.RowKit

/-- What holds at a round's head of the first loop. -/
def KeepsRel (w : World) (D L len : Nat) (i : Value) (wr : World) : Prop :=
  ∃ (k : Nat) (fs : List DFile), k ≤ len ∧ k ≤ 40 ∧ i = .int .i64 k ∧ fs.length = 4 ∧ DiskAt wr D L fs 10000 ∧ Keeps [L] w wr
/-- Some disk of four files. -/
def SomeDisk (wr wx : World) (D L : Nat) : Prop := ∃ fs : List DFile, fs.length = 4 ∧ DiskAt wx D L fs 10000 ∧ Keeps [L] wr wx

section
variable {w : World} {D L : Nat} {fs : List DFile} (h : DiskAt w D L fs 10000) (h4 : fs.length = 4)
include h h4
theorem some_append (x : Int) (s : ByteArray) : Calls Try.prog 10 #[.pointer (some ⟨D, 0, none⟩), .int .i64 x, .string s] w fun e w' => (∃ v, e = .returned v) ∧ SomeDisk w w' D L := by
  refine (append_any h x s).mono ?_
  rintro e w' ⟨rfl, h1, h2⟩
  exact ⟨⟨_, rfl⟩, _, by rw [length_dAppend]; exact h4, h1, h2⟩
theorem some_sync (x : Int) : Calls Try.prog 12 #[.pointer (some ⟨D, 0, none⟩), .int .i64 x] w fun e w' => (∃ v, e = .returned v) ∧ SomeDisk w w' D L := by
  refine (sync_any h x).mono ?_
  rintro e w' ⟨rfl, h1, h2⟩
  exact ⟨⟨_, rfl⟩, _, by rw [length_dSync]; exact h4, h1, h2⟩
theorem some_cut (x n : Int) : Calls Try.prog 13 #[.pointer (some ⟨D, 0, none⟩), .int .i64 x, .int .i64 n] w fun e w' => (∃ v, e = .returned v) ∧ SomeDisk w w' D L := by
  refine (cut_any h x n).mono ?_
  rintro e w' ⟨rfl, h1, h2⟩
  exact ⟨⟨_, rfl⟩, _, by rw [length_dCut]; exact h4, h1, h2⟩
theorem some_swap (x n : Int) : Calls Try.prog 14 #[.pointer (some ⟨D, 0, none⟩), .int .i64 x, .int .i64 n] w fun e w' => (∃ v, e = .returned v) ∧ SomeDisk w w' D L := by
  refine (swap_any h x n).mono ?_
  rintro e w' ⟨rfl, h1, h2⟩
  exact ⟨⟨_, rfl⟩, _, by rw [length_dSwap]; exact h4, h1, h2⟩
end

/-- What holds at a round's head of the second loop. -/
def KeepsRel2 (w : World) (D L D' L' : Nat) (fs fs' : List DFile) (i : Value) (wr : World) : Prop :=
  ∃ j : Nat, j ≤ 4 ∧ i = .int .i64 j ∧ DiskAt wr D L fs 10000 ∧ DiskAt wr D' L' fs' 10000 ∧ Keeps [L, L'] w wr

theorem length_dCrash (fs : List DFile) (K : List Int) : (dCrash fs K).length = fs.length := by simp [dCrash]
theorem fileAt_crash {fs : List DFile} {K : List Int} {j : Nat} (h : j < fs.length) : fileAt (dCrash fs K) j = crashF K j (fileAt fs j) := by
  simp [fileAt, dCrash, h]
theorem sure_of {fs : List DFile} {k : Nat} (h : k < fs.length) : dSure fs k = (fileAt fs k).2 := by simp [dSure, hasB_of_lt h]
theorem read_at {fs : List DFile} {k : Nat} (h : k < fs.length) : dRead fs k = (fileAt fs k).1 := by simp [dRead, hasB_of_lt h]

/-- What a crash leaves of one file. -/
theorem crash_leaves {fs : List DFile} {K : List Int} {j : Nat} (h : j < fs.length) (hs : (fileAt fs j).2 ≤ (fileAt fs j).1.size) :
    let was := dRead fs j; let now := dRead (dCrash fs K) j; let sure := dSure fs j
    now.size ≤ was.size ∧ was.extract 0 now.size = now ∧ sure ≤ now.size ∧ dSure (dCrash fs K) j = now.size ∧ sure ≤ was.size ∧
      (j < K.length → (was.size : Int) - sure ≤ K[j]?.getD 0 → now = was) := by
  have h' : j < (dCrash fs K).length := by rw [length_dCrash]; exact h
  rw [read_at h, read_at h', sure_of h, sure_of h', fileAt_crash h]
  have hle := crashN_le K j (fileAt fs j) hs
  have hsz : (crashF K j (fileAt fs j)).1.size = crashN K j (fileAt fs j) := by simp [crashF, ByteArray.size_extract]; omega
  have hlo : (fileAt fs j).2 ≤ crashN K j (fileAt fs j) := by unfold crashN; omega
  refine ⟨by rw [hsz]; exact hle, by rw [hsz]; rfl, by rw [hsz]; exact hlo, by rw [hsz]; rfl, hs, fun hj hk => ?_⟩
  have e : crashN K j (fileAt fs j) = (fileAt fs j).1.size := by unfold crashN; rw [if_pos hj]; omega
  show (fileAt fs j).1.extract 0 _ = _
  rw [e, ByteArray.extract_zero_size]

set_option maxRecDepth 100000 in
set_option maxHeartbeats 4000000 in
theorem diskKeeps_walk (a : Option Addr) (cap : Nat) (l : List DOp) {w : World} (hops : DOpsAt w w.heap.size a l)
    (ka : Option Addr) (kcap : Nat) (keep : List Int) (hkeep : IntsAt w (· < w.heap.size) ka keep) (hkc : keep.length ≤ kcap) (hkm : kcap ≤ 9223372036854775807) :
    Calls Try.prog 6 #[.slice a l.length cap, .slice ka keep.length kcap] w fun e w' => e = .returned (.bool true) ∧ Below w.heap.size w w' := by
  have hsm := hops.small
  go_enter Try.func6, Try.ntmps6
  go_wp2_with fail
  refine (new_ok 4 10000 (by decide)).mono ?_
  rintro e w1 ⟨D, L, rfl, h1, k1, hD, hL⟩
  go_wp2_with fail
  go_loopw [7] (fun i wr => KeepsRel w D L l.length i wr) (fun i _ => l.length - (intOf i).toNat)
  case atStart => exact ⟨0, _, by omega, by omega, rfl, by simp, h1, k1.mono (by simp)⟩
  case round =>
    obtain ⟨k, fs, hk, hk40, rfl, hfs, g, hkp⟩ := hrel
    clear h1 k1
    by_cases hin : k < l.length ∧ k < 40
    · obtain ⟨hlt, hlt40⟩ := hin
      have hb : Below w.heap.size w wr := hkp.below (Nat.le_refl _) (by simpa using hL)
      obtain ⟨b, o, rfl, hbB, c0, c1, c2, c3, c4⟩ := (hops.below hb).cell k hlt
      have hs63 := (hops.rng k hlt).2.2.2.1
      have G := Lib.hid g
      have HK := Lib.hid hkp
      have HF := Lib.hid hfs
      clear g hkp hb hfs
      go_upto_region 8 with fail
      obtain ⟨wa, hwa⟩ : ∃ wa, wa = wr.alloc (.cells #[.int .i64 l[k].kind, .int .i64 l[k].f, .int .i64 l[k].n, .string l[k].s, .slice l[k].ka l[k].keep.length l[k].kcap] 29) := ⟨_, rfl⟩
      have KA : Keeps [] wr wa := by rw [hwa]; exact (Keeps.refl _ _).alloc _
      have HO : wa.heap[wr.heap.size]? = some (.cells #[.int .i64 l[k].kind, .int .i64 l[k].f, .int .i64 l[k].n, .string l[k].s, .slice l[k].ka l[k].keep.length l[k].kcap] 29) := by rw [hwa]; exact heap_alloc_same
      rw [← hwa]
      clear c0 c1 c2 c3 c4
      have c0 := cell_of_heap (o := 0) HO
      have c1 := cell_of_heap (o := 1) HO
      have c2 := cell_of_heap (o := 2) HO
      have c3 := cell_of_heap (o := 3) HO
      simp at c0 c1 c2 c3
      have g0 := G.out.keep KA (by simp) (by simp)
      have HKA := Lib.hid KA
      clear HO hwa KA
      go_cut [9] (fun s wx => (∃ t, s = .string t) ∧ wx = wa)
      case first =>
        go_wp2_with fail
        all_goals go_meet
        case rel => exact ⟨⟨_, rfl⟩, rfl⟩
        case rel => exact ⟨⟨_, rfl⟩, rfl⟩
      case rest =>
        obtain ⟨⟨t, rfl⟩, rfl⟩ := hcut
        have h4 := HF.out
        have H4 := Lib.hid h4
        clear h4
        have HDef : SomeDisk wc wc D L := ⟨_, H4.out, g0, Keeps.refl _ _⟩
        go_wp2_with (first
          | (go_at_call 10; refine (some_append g0 H4.out _ _).mono ?_; rintro e w' ⟨⟨v, rfl⟩, ho⟩; clear HDef; have HDef := ho; clear ho)
          | (go_at_call 12; refine (some_sync g0 H4.out _).mono ?_; rintro e w' ⟨⟨v, rfl⟩, ho⟩; clear HDef; have HDef := ho; clear ho)
          | (go_at_call 13; refine (some_cut g0 H4.out _ _).mono ?_; rintro e w' ⟨⟨v, rfl⟩, ho⟩; clear HDef; have HDef := ho; clear ho)
          | (go_at_call 14; refine (some_swap g0 H4.out _ _).mono ?_; rintro e w' ⟨⟨v, rfl⟩, ho⟩; clear HDef; have HDef := ho; clear ho))
        all_goals
          obtain ⟨fs', hl', g', k'⟩ := HDef
          go_roundw
          case rel => exact ⟨k + 1, fs', by omega, by omega, by go_num, hl', g', (HK.out.trans (HKA.out.mono (by simp))).trans k'⟩
          case measure => simp [intOf]; omega
    · have hend : ¬ k < l.length ∨ (k < l.length ∧ ¬ k < 40) := by omega
      have HF := Lib.hid hfs
      clear hin hfs
      rcases hend with hx | ⟨hx, hy⟩
      all_goals
        go_upto_region 18 with fail
        go_cut [10] (fun v wx => v = .slice ka (keep.take 9).length kcap ∧ wx = wr)
        case first =>
          by_cases h9 : keep.length ≤ 9
          · go_wp2_with fail
            go_meet
            case rel => exact ⟨by rw [List.length_take, Nat.min_eq_right h9], rfl⟩
          · go_wp2_with fail
            go_meet
            case rel => exact ⟨by rw [List.length_take, Nat.min_eq_left (by omega)], rfl⟩
        case rest =>
          obtain ⟨rfl, rfl⟩ := hcut
          have hb : Below w.heap.size w wc := hkp.below (Nat.le_refl _) (by simpa using hL)
          have hK0 := hkeep.take 9
          have hK := hK0.below hb (fun _ h => h)
          generalize keep.take 9 = K at *
          go_wp2_with fail
          refine (copy_any g).mono ?_
          rintro e w2 ⟨D', L', rfl, gc, k2, hD', hL'⟩
          have g2 := g.keep k2 (by simp) (by simp)
          have hbs := hb.size
          have gne : D ≠ L' := by have := g.ltD; omega
          have gne2 : L ≠ L' := by have := g.ltL; omega
          have gne3 : L ≠ D' := by have := g.ltL; omega
          go_wp2_with fail
          refine (crash_any gc ka kcap K (hK.keep k2 (by simp)) (by omega)).mono ?_
          rintro e w3 ⟨rfl, gc3, k3⟩
          have g3 := g2.keep k3 (by simp; omega) (by simp; omega)
          have K3 : Keeps [L, L'] w w3 := (hkp.sub (by simp)).trans ((k2.sub (by simp)).trans (k3.sub (by simp)))
          clear k3 k2 gc g2 g hkp hops
          go_wp2_with fail
          go_loopw [12] (fun i wr => KeepsRel2 w D L D' L' fs (dCrash fs K) i wr) (fun i _ => 4 - (intOf i).toNat)
          case atStart => exact ⟨0, by omega, rfl, g3, gc3, K3⟩
          case round =>
            obtain ⟨j, hj, rfl, ga, gb, kr⟩ := hrel
            clear g3 gc3 K3
            by_cases hj4 : j < 4
            · have hjl : j < fs.length := by rw [HF.out]; exact hj4
              obtain ⟨q1, q2, q3, q4, q5, q6⟩ := crash_leaves (K := K) hjl (by have := ga.sure j hjl; rwa [fileAt_eq hjl])
              have hsz := size_dRead_le ga j
              have hsz2 := size_dRead_le gb j
              have Q2 := Lib.hid q2
              have Q4 : Hid ((dSure (dCrash fs K) j : Int) = (dRead (dCrash fs K) j).size) := by rw [Hid, q4]
              have Q6 := Lib.hid q6
              clear q2 q4 q6
              have hKr := hK0.small
              have KI := Lib.hid (show IntsAt wr (· < w.heap.size) ka K from hK0.keep kr (fun b hb => by simp; omega))
              have HB := Lib.hid hbs
              clear hbs hK hK0 hb gne gne2 gne3 hD' hL'
              go_wp2_with fail
              refine (read_any ga _).mono ?_
              rintro e w' ⟨rfl, rfl⟩
              go_wp2_with fail
              refine (read_any gb _).mono ?_
              rintro e w' ⟨rfl, rfl⟩
              go_wp2_with fail
              refine (sure_any ga _).mono ?_
              rintro e w' ⟨rfl, rfl⟩
              generalize dRead fs j = was at *
              have Q2' := Q2.out
              have Q4' := Q4.out
              have Q6' := Q6.out
              clear Q2 Q4 Q6
              generalize dRead (dCrash fs K) j = now at *
              have Q2 := Lib.hid Q2'
              have Q4 := Lib.hid Q4'
              have Q6 := Lib.hid Q6'
              clear Q2' Q4' Q6'
              have e2 := Q2.out
              go_upto_region 29 with (go_at_call 20; refine (sure_lit gb _ _ Q4.out).mono ?_; rintro e w' ⟨rfl, rfl⟩)
              clear e2
              by_cases hjk : j < K.length
              · obtain ⟨b, o, rfl, hbB, hc⟩ := KI.out.cell j hjk
                have hbd := KI.out.bound j hjk
                by_cases hge : (was.size : Int) - dSure fs j ≤ K[j]
                · have e := Q6.out hjk (by simpa [List.getElem?_eq_getElem hjk] using hge)
                  subst e
                  go_wp2_with fail
                  go_roundw
                  case rel => exact ⟨j + 1, by omega, by go_num, ga, gb, kr⟩
                  case measure => simp [intOf]; omega
                · go_wp2_with fail
                  go_roundw
                  case rel => exact ⟨j + 1, by omega, by go_num, ga, gb, kr⟩
                  case measure => simp [intOf]; omega
              · go_wp2_with fail
                go_roundw
                case rel => exact ⟨j + 1, by omega, by go_num, ga, gb, kr⟩
                case measure => simp [intOf]; omega
            · go_wp2_with fail
              refine (fixed_any _).mono ?_
              rintro e w4 ⟨rfl, k4⟩
              go_wp2_with fail
              go_ret
              exact ⟨rfl, (kr.trans (k4.sub (by simp))).below (Nat.le_refl _) (by simp; omega)⟩
end Go.Proofs.Ytniojglidlmehaa
