/-
  DiskDoes: its walk.
-/
import Derived.Test.YtniojglidlmehaaDiskPlay
namespace Go.Proofs.Ytniojglidlmehaa
open Go.RowKit

/-- What holds at a round's head. -/
def DoesRel (w : World) (R LA LB room len : Nat) (d i : Value) (wr : World) : Prop :=
  ∃ (k D L : Nat) (fs : List DFile), k ≤ len ∧ k ≤ 60 ∧ d = .pointer (some ⟨D, 0, none⟩) ∧ i = .int .i64 k ∧ Both wr D L R LA LB fs room ∧ Below w.heap.size w wr ∧ w.heap.size ≤ L
/-- What holds behind a call. -/
def DoesMid (w : World) (R LA LB room : Nat) (d : Value) (wx : World) : Prop :=
  ∃ (D L : Nat) (fs : List DFile), d = .pointer (some ⟨D, 0, none⟩) ∧ Both wx D L R LA LB fs room ∧ Below w.heap.size w wx ∧ w.heap.size ≤ L
/-- What holds at a round's head of the inner loop. -/
def DoesIn (w : World) (D L R LA LB room : Nat) (fs : List DFile) (i : Value) (wx : World) : Prop :=
  ∃ j : Int, -1 ≤ j ∧ j ≤ 9 ∧ i = .int .i64 j ∧ Both wx D L R LA LB fs room ∧ Below w.heap.size w wx

theorem Both.keep {w w' : World} {D L R LA LB room : Nat} {fs : List DFile} (h : Both w D L R LA LB fs room) (k : Keeps [] w w') : Both w' D L R LA LB fs room :=
  ⟨h.d.keep k (by simp) (by simp), h.r.keep k (by simp) (by simp) (by simp), h.da, h.db, h.la, h.lb, h.rl⟩
theorem Keeps.belowOf {S : List Nat} {B : Nat} {a w w' : World} (hb : Below B a w) (k : Keeps S w w') (hB : B ≤ w.heap.size) (hs : ∀ x ∈ S, B ≤ x) : Below B a w' := hb.trans (k.below hB hs)

set_option maxRecDepth 100000 in
set_option maxHeartbeats 4000000 in
theorem diskDoes_no {w : World} (n room : Int) (h : newOk n room = false) (a : Option Addr) (cap len : Nat) :
    Calls Try.prog 5 #[.int .i64 n, .int .i64 room, .slice a len cap] w fun e w' => e = .returned (.bool true) ∧ Below w.heap.size w w' := by
  go_enter Try.func5, Try.ntmps5
  go_wp2_with fail
  refine (new_no n room h).mono ?_
  rintro e w' ⟨rfl, rfl⟩
  go_wp2_with fail
  refine (r_new_no n room h).mono ?_
  rintro e w' ⟨rfl, rfl⟩
  go_wp2_with fail
  refine wp_loop_rounds 1 ?_
  rw [rounds_succ]
  go_wp2_with fail
  refine (fixed_any _).mono ?_
  rintro e w2 ⟨rfl, k2⟩
  go_wp2_with fail
  go_ret
  exact ⟨rfl, k2.below (Nat.le_refl _) (by simp)⟩

set_option maxRecDepth 100000 in
set_option maxHeartbeats 8000000 in
theorem diskDoes_yes {w : World} (n room : Nat) (h : newOk n room = true) (a : Option Addr) (cap : Nat) (l : List DOp) (hops : DOpsAt w w.heap.size a l) :
    Calls Try.prog 5 #[.int .i64 n, .int .i64 room, .slice a l.length cap] w fun e w' => e = .returned (.bool true) ∧ Below w.heap.size w w' := by
  have hsm := hops.small
  go_enter Try.func5, Try.ntmps5
  go_wp2_with fail
  refine (new_ok n room h).mono ?_
  rintro e w1 ⟨D0, L0, rfl, h1, k1, hD, hL⟩
  go_wp2_with fail
  refine (r_new_ok n room h).mono ?_
  rintro e w2 ⟨R, LA, LB, rfl, h2, k2, hR, hA, hB⟩
  have hb0 : Both w2 D0 L0 R LA LB (List.replicate n (ByteArray.empty, 0)) room :=
    ⟨h1.keep k2 (by simp) (by simp), h2, by have := h1.ltD; omega, by have := h1.ltD; omega, by have := h1.ltL; omega, by have := h1.ltL; omega, by have := h1.ltL; omega⟩
  have hbl : Below w.heap.size w w2 := (k1.trans k2).below (Nat.le_refl _) (by simp)
  have hs1 := k1.size
  have hA' : w.heap.size ≤ LA := by omega
  have hB' : w.heap.size ≤ LB := by omega
  clear k1 k2 h1 h2 hs1 hA hB
  go_wp2_with fail
  go_loopw [7, 11] (fun d i wr => DoesRel w R LA LB room l.length d i wr) (fun _ i _ => l.length - (intOf i).toNat)
  case atStart => exact ⟨0, D0, L0, _, by omega, by omega, rfl, rfl, hb0, hbl, hL⟩
  case round =>
    obtain ⟨k, D, L, fs, hk, hk60, rfl, rfl, g, hb, hLl⟩ := hrel
    clear hb0 hbl hL hD hR
    by_cases hin : k < l.length ∧ k < 60
    · obtain ⟨hlt, hlt60⟩ := hin
      obtain ⟨b, o, rfl, hbB, c0, c1, c2, c3, c4⟩ := (hops.below hb).cell k hlt
      obtain ⟨_, _, _, hs63, hkcap⟩ := hops.rng k hlt
      have hkint := (hops.ints k hlt).below hb (fun _ h => h)
      have hsz := hb.size
      have G := Lib.hid g
      have HB := Lib.hid hb
      clear g hb
      go_upto_region 9 with fail
      obtain ⟨wa, hwa⟩ : ∃ wa, wa = wr.alloc (.cells #[.int .i64 l[k].kind, .int .i64 l[k].f, .int .i64 l[k].n, .string l[k].s, .slice l[k].ka l[k].keep.length l[k].kcap] 29) := ⟨_, rfl⟩
      have KA : Keeps [] wr wa := by rw [hwa]; exact (Keeps.refl _ _).alloc _
      have HO : wa.heap[wr.heap.size]? = some (.cells #[.int .i64 l[k].kind, .int .i64 l[k].f, .int .i64 l[k].n, .string l[k].s, .slice l[k].ka l[k].keep.length l[k].kcap] 29) := by rw [hwa]; exact heap_alloc_same
      rw [← hwa]
      clear c0 c1 c2 c3 c4
      have c0 := cell_of_heap (o := 0) HO
      have c1 := cell_of_heap (o := 1) HO
      have c2 := cell_of_heap (o := 2) HO
      have c3 := cell_of_heap (o := 3) HO
      have c4 := cell_of_heap (o := 4) HO
      simp at c0 c1 c2 c3 c4
      have g := G.out.keep KA
      have hka := hkint.keep KA (by simp)
      have hsa : w.heap.size ≤ wa.heap.size := Nat.le_trans hsz KA.size
      have HBa := Lib.hid (Keeps.belowOf HB.out KA hsz (by simp))
      clear hwa HO KA G HB hkint
      go_upto_if 57 with fail
      go_cut [7, 13] (fun d _ wx => DoesMid w R LA LB room d wx)
      case first =>
        by_cases h5 : l[k].kind = 5
        · have hk5 : (l[k].kind == 5) = true := by simpa using h5
          clear h5
          go_wp2_with fail
          refine (copy_any g.d).mono ?_
          rintro e w3 ⟨D', L', rfl, g3, k3, hD', hL'⟩
          have b3 := g.keep k3
          go_wp2_with fail
          refine (append_any b3.d 0 ⟨#[115, 112, 111, 105, 108, 116]⟩).mono ?_
          rintro e w4 ⟨rfl, g4, k4⟩
          go_wp2_with fail
          refine (sync_any g4 0).mono ?_
          rintro e w5 ⟨rfl, g5, k5⟩
          go_wp2_with fail
          go_meet
          case rel =>
            have x1 := g.d.ltD
            have x2 := g.d.ltL
            have x3 := g.r.ltD
            have x4 := g.r.ltA
            have x5 := g.r.ltB
            have k45 := k4.trans k5
            exact ⟨D', L', _, rfl, ⟨g3.keep k45 (by simp; omega) (by simp; omega), b3.r.keep k45 (by simpa using g.rl) (by simpa using g.la.symm) (by simpa using g.lb.symm), by omega, by omega, by omega, by omega, by omega⟩,
              Keeps.belowOf HBa.out ((k3.sub (by simp)).trans k45) hsa (by simpa using hLl), by omega⟩
        · have hk5 : (l[k].kind == 5) = false := by simpa using h5
          clear h5
          go_wp2_with fail
          refine (play_any g l[k] (p := (· < w.heap.size)) hs63 hkcap hka (by omega) (by omega) (by omega)).mono ?_
          rintro e w3 ⟨fs', rfl, g3, k3⟩
          go_wp2_with fail
          go_meet
          case rel => exact ⟨D, L, fs', rfl, g3, Keeps.belowOf HBa.out k3 hsa (by simp; omega), hLl⟩
      case rest =>
        obtain ⟨D1, L1, f1, rfl, g1, hb1, hL1⟩ := hcut
        have HB1 := Lib.hid hb1
        have hs1 := hb1.size
        clear hb1 g HBa hka c0 c1 c2 c3 c4 hsa hsz
        go_wp2_with fail
        refine (free_any g1.d).mono ?_
        rintro e w3 ⟨rfl, k3⟩
        have g3 := g1.keep k3
        go_wp2_with fail
        refine (r_free g3.r).mono ?_
        rintro e w4 ⟨rfl, k4⟩
        have g4 := g3.keep k4
        have HB4 := Lib.hid (Keeps.belowOf HB1.out (k3.trans k4) hs1 (by simp))
        have hs4 : w.heap.size ≤ w4.heap.size := HB4.out.size
        clear g3 g1 k3 k4 HB1 hs1
        go_wp2_with fail
        obtain ⟨wo, rfl⟩ : ∃ wo, wo = w4 := ⟨_, rfl⟩
        go_loopw [14] (fun i wx => DoesIn w D1 L1 R LA LB room f1 i wx) (fun i _ => (9 - intOf i).toNat)
        case atStart => exact ⟨-1, by omega, by omega, rfl, g4, HB4.out⟩
        case round =>
          obtain ⟨j, hj1, hj2, rfl, gj, hbj⟩ := hrel
          have hsj := hbj.size
          by_cases hj9 : j < 9
          · have HBj := Lib.hid hbj
            clear hbj
            go_wp2_with fail
            refine (read_any gj.d _).mono ?_
            rintro e w' ⟨rfl, rfl⟩
            go_wp2_with fail
            refine (r_read gj.r _).mono ?_
            rintro e w' ⟨rfl, m, rfl⟩
            have gm := gj.keep ((Keeps.refl [] _).drewN m)
            go_wp2_with fail
            refine (sure_any gm.d _).mono ?_
            rintro e w' ⟨rfl, rfl⟩
            go_wp2_with fail
            refine (r_sure gm.r _).mono ?_
            rintro e w' ⟨rfl, rfl⟩
            go_wp2_with fail
            go_roundw
            case rel => exact ⟨j + 1, by omega, by omega, by go_num, gm, Keeps.belowOf HBj.out ((Keeps.refl [] _).drewN m) hsj (by simp)⟩
            case measure => simp [intOf]; omega
          · go_wp2_with fail
            go_roundw
            case rel => exact ⟨k + 1, D1, L1, f1, by omega, by omega, rfl, by go_num, gj, hbj, hL1⟩
            case measure => simp [intOf]; omega
    · have hend : ¬ k < l.length ∨ (k < l.length ∧ ¬ k < 60) := by omega
      clear hin
      have hsz := hb.size
      rcases hend with hx | ⟨hx, hy⟩
      all_goals
        go_wp2_with fail
        refine (fixed_any _).mono ?_
        rintro e w3 ⟨rfl, k3⟩
        go_wp2_with fail
        go_ret
        exact ⟨rfl, Keeps.belowOf hb k3 hsz (by simp)⟩

theorem diskDoes_walk {w : World} (n : Int) (_hn : inI64 n) (room : Int) (_hr : inI64 room) (a : Option Addr) (cap : Nat) (l : List DOp) (hops : DOpsAt w w.heap.size a l) :
    Calls Try.prog 5 #[.int .i64 n, .int .i64 room, .slice a l.length cap] w fun e w' => e = .returned (.bool true) ∧ Below w.heap.size w w' := by
  cases h : newOk n room with
  | false => exact diskDoes_no n room h a cap l.length
  | true =>
    have h' : 1 ≤ n ∧ n ≤ 8 ∧ 0 ≤ room ∧ room ≤ 16777216 := by simpa [newOk] using h
    obtain ⟨m, rfl⟩ := Int.eq_ofNat_of_zero_le (show 0 ≤ n by omega)
    obtain ⟨r, rfl⟩ := Int.eq_ofNat_of_zero_le (show 0 ≤ room by omega)
    exact diskDoes_yes m r h a cap l hops
end Go.Proofs.Ytniojglidlmehaa
