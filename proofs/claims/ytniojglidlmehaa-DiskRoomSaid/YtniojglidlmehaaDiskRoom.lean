/-
  DiskRoom: its walk.
-/
import Derived.Test.YtniojglidlmehaaDiskOps
namespace Go.Proofs.Ytniojglidlmehaa
open Go.RowKit

theorem fileSum_two {fs : List DFile} (h : fs.length = 2) : fileSum fs = (dRead fs 0).size + (dRead fs 1).size := by
  match fs, h with
  | [x, y], _ => simp [fileSum, dRead, hasB, fileAt]

/-- What holds at a round's head. -/
def RoomRel (w : World) (D L r len : Nat) (i : Value) (wr : World) : Prop :=
  ∃ (k : Nat) (fs : List DFile), k ≤ len ∧ k ≤ 40 ∧ i = .int .i64 k ∧ fs.length = 2 ∧ DiskAt wr D L fs r ∧ Keeps [L] w wr

set_option maxRecDepth 100000 in
set_option maxHeartbeats 4000000 in
theorem diskRoom_walk (r : Nat) (hr : r ≤ 255) (a : Option Addr) (cap : Nat) (l : List DOp) (w : World) (hops : DOpsAt w w.heap.size a l) :
    Calls Try.prog 3 #[.int .u8 r, .slice a l.length cap] w fun e w' => e = .returned (.bool true) ∧ Below w.heap.size w w' := by
  have hsm := hops.small
  go_enter Try.func3, Try.ntmps3
  go_wp2_with fail
  refine (new_ok 2 r (by simp [newOk]; omega)).mono ?_
  rintro e w1 ⟨D, L, rfl, h1, k1, hD, hL⟩
  go_wp2_with fail
  go_loopw [7] (fun i wr => RoomRel w D L r l.length i wr) (fun i _ => l.length - (intOf i).toNat)
  case atStart => exact ⟨0, _, by omega, by omega, rfl, by simp, h1, k1.mono (by simp)⟩
  case round =>
    obtain ⟨k, fs, hk, hk40, rfl, hfs, g, hkp⟩ := hrel
    by_cases hin : k < l.length ∧ k < 40
    · obtain ⟨hlt, hlt40⟩ := hin
      have hb : Below w.heap.size w wr := hkp.below (Nat.le_refl _) (by simpa using hL)
      obtain ⟨b, o, rfl, hbB, c0, c1, c2, c3, c4⟩ := (hops.below hb).cell k hlt
      have hs63 := (hops.rng k hlt).2.2.2.1
      have G := Lib.hid g
      have HK := Lib.hid hkp
      have HB := Lib.hid hb
      have HF := Lib.hid hfs
      clear g hkp hb hfs h1 k1 c0 c2 c4
      go_upto_region 7 with fail
      go_cut [8, 9] (fun s f wx => s = .string (cutS 60 l[k].s) ∧ (∃ q : Nat, q ≤ 1 ∧ f = .int .i64 q) ∧ ∃ n, wx = wr.drewN n)
      case first =>
        obtain ⟨q, hq, hq1⟩ := i64_and l[k].f 1 (by decide)
        by_cases hs60 : l[k].s.size ≤ 60
        · go_quiet (fail)
          go_wp2_with fail
          go_meet
          case rel => exact ⟨ret_string_eq (cutS_small hs60), ⟨q, hq1, by rw [← hq]; rfl⟩, _, rfl⟩
        · go_quiet (fail)
          go_wp2_with fail
          go_meet
          case rel => exact ⟨ret_string_eq (cutS_big hs60), ⟨q, hq1, by rw [← hq]; rfl⟩, _, rfl⟩
      case rest =>
        obtain ⟨rfl, ⟨q, hq1, rfl⟩, n, rfl⟩ := hcut
        have htz : (cutS 60 l[k].s).size ≤ 60 := by rw [size_cutS]; omega
        generalize cutS 60 l[k].s = t at *
        have g := G.out.drewN n
        have hhas : hasB fs.length q = true := by rw [HF.out]; exact hasB_of_lt (by omega)
        have hrd := size_dRead_le g q
        have hql : q < fs.length := by rw [HF.out]; omega
        clear c1 c3
        by_cases hfit : t.size ≤ r - fileSum fs
        · have e0 : dAppend fs r q t = (0, fs.set q (fs[q].1 ++ t, fs[q].2)) := by simp [dAppend, hhas, hfit, fileAt_eq hql]
          have E0 := Lib.hid e0
          have HH := Lib.hid hhas
          clear e0 hhas
          go_wp2_with fail
          refine (free_any g).mono ?_
          rintro e w2 ⟨rfl, k2⟩
          have g2 := g.keep k2 (by simp) (by simp)
          go_wp2_with fail
          refine (read_any g2 _).mono ?_
          rintro e w' ⟨rfl, rfl⟩
          go_wp2_with fail
          refine (append_lit g2 q t _ _ E0.out).mono ?_
          rintro e w3 ⟨rfl, g3, k3⟩
          have K3 : Keeps [L] wr w3 := (((Keeps.refl [L] wr).drewN n).trans (k2.mono (by simp))).trans k3
          clear k2 k3
          go_wp2_with fail
          refine (free_lit g3 ((r - fileSum fs : Nat) - t.size) ?hfr).mono ?_
          case hfr => rw [fileSum_set fs q _ hql]; have := fileSum_mem_le fs q hql; have := g.fits; simp; omega
          rintro e w4 ⟨rfl, k4⟩
          have g4 := g3.keep k4 (by simp) (by simp)
          go_wp2_with fail
          refine (read_lit g4 q (dRead fs q ++ t) ?hrd).mono ?_
          case hrd => simp [dRead, HH.out, fileAt_eq hql]; rw [fileAt_eq (by simpa using hql)]; simp
          rintro e w' ⟨rfl, rfl⟩
          go_wp2_with fail
          go_roundw
          case rel => exact ⟨k + 1, _, by omega, by omega, by go_num, by simp [HF.out], g4, HK.out.trans (K3.trans (k4.mono (by simp)))⟩
          case measure => simp [intOf]; omega
        · have e0 : dAppend fs r q t = (9, fs) := by simp [dAppend, hhas, hfit]
          have E0 := Lib.hid e0
          clear e0 hhas
          go_wp2_with fail
          refine (free_any g).mono ?_
          rintro e w2 ⟨rfl, k2⟩
          have g2 := g.keep k2 (by simp) (by simp)
          go_wp2_with fail
          refine (read_any g2 _).mono ?_
          rintro e w' ⟨rfl, rfl⟩
          go_wp2_with fail
          refine (append_lit g2 q t _ _ E0.out).mono ?_
          rintro e w3 ⟨rfl, g3, k3⟩
          have K3 : Keeps [L] wr w3 := (((Keeps.refl [L] wr).drewN n).trans (k2.mono (by simp))).trans k3
          clear k2 k3
          go_wp2_with fail
          refine (free_any g3).mono ?_
          rintro e w4 ⟨rfl, k4⟩
          have g4 := g3.keep k4 (by simp) (by simp)
          go_wp2_with fail
          refine (read_any g4 q).mono ?_
          rintro e w' ⟨rfl, rfl⟩
          go_wp2_with fail
          go_roundw
          case rel => exact ⟨k + 1, _, by omega, by omega, by go_num, HF.out, g4, HK.out.trans (K3.trans (k4.mono (by simp)))⟩
          case measure => simp [intOf]; omega
    · have hend : ¬ k < l.length ∨ (k < l.length ∧ ¬ k < 40) := by omega
      have hr0 := size_dRead_le g 0
      have hr1 := size_dRead_le g 1
      have e1 := fileSum_two hfs
      have ef := g.fits
      have E1 : ((r - fileSum fs : Nat) : Int) = r - (dRead fs 0).size - (dRead fs 1).size := by omega
      have HE := Lib.hid E1
      have HF := Lib.hid hfs
      clear e1 ef E1 hin hfs
      rcases hend with hx | ⟨hx, hy⟩
      all_goals
        go_wp2_with fail
        refine (free_lit g _ HE.out).mono ?_
        rintro e w2 ⟨rfl, k2⟩
        have g2 := g.keep k2 (by simp) (by simp)
        go_wp2_with fail
        refine (read_any g2 _).mono ?_
        rintro e w' ⟨rfl, rfl⟩
        go_wp2_with fail
        refine (read_any g2 _).mono ?_
        rintro e w' ⟨rfl, rfl⟩
        go_wp2_with fail
        refine (fixed_any _).mono ?_
        rintro e w3 ⟨rfl, k3⟩
        go_wp2_with fail
        go_ret
        exact ⟨rfl, (hkp.trans ((k2.trans k3).mono (by simp))).below (Nat.le_refl _) (by simpa using hL)⟩
end Go.Proofs.Ytniojglidlmehaa
