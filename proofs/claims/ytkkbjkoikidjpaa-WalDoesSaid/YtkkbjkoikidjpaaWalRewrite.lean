/-
  The contracts of package wal: a log that is written anew.
-/
import Derived.Test.YtkkbjkoikidjpaaWalFrames
import Derived.Deep.RegionHeld3
import Derived.Laws.EntriesVeiled
namespace Go.Proofs.Ytkkbjkoikidjpaa
open Go.RowKit

set_option maxRecDepth 10000 in
theorem r1_c {w : World} {X Y P D L : Nat} {v : Value} {l : List ByteArray} {sure : Int} {halted : Bool} {fs : List DFile} {room : Nat} {all : ByteArray} (hX : w.cell? ⟨X, 0, none⟩ = some (.pointer (some ⟨P, 0, none⟩))) (hY : w.cell? ⟨Y, 0, none⟩ = some (.string all)) (hL : LogAt w P D v l sure halted) (hD : DiskAt w D L fs room) :
    Calls Try.prog 39 #[.pointer (some ⟨X, 0, none⟩), .pointer (some ⟨Y, 0, none⟩)] w fun e w' => e = .returned (.int .i64 (dAppend fs room 1 all).1) ∧ DiskAt w' D L (dAppend fs room 1 all).2 room ∧ Keeps [L] w w' := by
  have c0 := hL.c0
  have AC := append_any (hD.keep (S := []) (Keeps.refl _ _).drew (by simp) (by simp)) 1 all
  generalize dAppend fs room 1 all = q at *
  go_enter Try.func39, Try.ntmps39
  go_wp2_with fail
  go_still_tail 5, (by kernel_rfl)
  change wpList _ _ _ _ _ w.drew
  go_wp2_with fail
  refine AC.mono ?_
  rintro e w1 ⟨rfl, hD1, k1⟩
  go_wp2
  go_ret
  exact ⟨rfl, hD1, (Keeps.refl _ _).drew.trans k1⟩
theorem r2_c {w : World} {X P D L : Nat} {v : Value} {l : List ByteArray} {sure : Int} {halted : Bool} {fs : List DFile} {room : Nat} (hX : w.cell? ⟨X, 0, none⟩ = some (.pointer (some ⟨P, 0, none⟩))) (hL : LogAt w P D v l sure halted) (hD : DiskAt w D L fs room) :
    Calls Try.prog 40 #[.pointer (some ⟨X, 0, none⟩)] w fun e w' => e = .returned (.int .i64 (dSync fs 1).1) ∧ DiskAt w' D L (dSync fs 1).2 room ∧ Keeps [L] w w' := by
  have c0 := hL.c0
  have AC := sync_any hD 1
  generalize dSync fs 1 = q at *
  go_enter Try.func40, Try.ntmps40
  go_wp2_with fail
  refine AC.mono ?_
  rintro e w1 ⟨rfl, hD1, k1⟩
  go_wp2
  go_ret
  exact ⟨rfl, hD1, k1⟩
theorem r3_c {w : World} {X P D L : Nat} {v : Value} {l : List ByteArray} {sure : Int} {halted : Bool} {fs : List DFile} {room : Nat} (hX : w.cell? ⟨X, 0, none⟩ = some (.pointer (some ⟨P, 0, none⟩))) (hL : LogAt w P D v l sure halted) (hD : DiskAt w D L fs room) :
    Calls Try.prog 41 #[.pointer (some ⟨X, 0, none⟩)] w fun e w' => e = .returned (.int .i64 (dSwap fs 0 1).1) ∧ DiskAt w' D L (dSwap fs 0 1).2 room ∧ Keeps [L] w w' := by
  have c0 := hL.c0
  have AC := swap_any hD 0 1
  generalize dSwap fs 0 1 = q at *
  go_enter Try.func41, Try.ntmps41
  go_wp2_with fail
  refine AC.mono ?_
  rintro e w1 ⟨rfl, hD1, k1⟩
  go_wp2
  go_ret
  exact ⟨rfl, hD1, k1⟩
theorem r4_c {w : World} {X P D L : Nat} {v : Value} {l : List ByteArray} {sure : Int} {halted : Bool} {fs : List DFile} {room : Nat} (hX : w.cell? ⟨X, 0, none⟩ = some (.pointer (some ⟨P, 0, none⟩))) (hL : LogAt w P D v l sure halted) (hD : DiskAt w D L fs room) :
    Calls Try.prog 43 #[.pointer (some ⟨X, 0, none⟩)] w fun e w' => e = .returned (.int .i64 (dCut fs 1 0).1) ∧ DiskAt w' D L (dCut fs 1 0).2 room ∧ Keeps [L] w w' := by
  have c0 := hL.c0
  have AC := cut_any hD 1 0
  generalize dCut fs 1 0 = q at *
  go_enter Try.func43, Try.ntmps43
  go_wp2_with fail
  refine AC.mono ?_
  rintro e w1 ⟨rfl, hD1, k1⟩
  go_wp2
  go_ret
  exact ⟨rfl, hD1, k1⟩

/-- The steps in which a log is written anew. -/
def rStep (room : Nat) (all : ByteArray) (fs : List DFile) : Nat → Int × List DFile
  | 0 => dAppend fs room 1 all
  | 1 => dSync fs 1
  | 2 => dSwap fs 0 1
  | _ => dCut fs 1 0
/-- So many steps, up to the first error. -/
def rRun (room : Nat) (all : ByteArray) (fs : List DFile) : Nat → Int × List DFile
  | 0 => (0, fs)
  | i + 1 => if (rRun room all fs i).1 = 0 then rStep room all (rRun room all fs i).2 i else rRun room all fs i
theorem rRun_stop {room : Nat} {all : ByteArray} {fs : List DFile} {i : Nat} (h : ¬ (rRun room all fs i).1 = 0) : ∀ j, rRun room all fs (i + j) = rRun room all fs i
  | 0 => rfl
  | j + 1 => by rw [← Nat.add_assoc, rRun, rRun_stop h j, if_neg h]

theorem RowOf.keep {w w' : World} {S : List Nat} {v : Value} {l : List ByteArray} (h : RowOf w v l) (k : Keeps S w w') (hS : ∀ b o c m, v = .slice (some ⟨b, o, none⟩) c m → b ∉ S) : RowOf w' v l := by
  rcases h with h | ⟨b, o, c, e, hb, hc⟩
  · exact .inl h
  · exact .inr ⟨b, o, c, e, Nat.lt_of_lt_of_le hb k.size, fun i hi => (k.cell hb (hS b o _ _ e)).trans (hc i hi)⟩
theorem LogAt.halt {w : World} {P D : Nat} {v : Value} {l : List ByteArray} {sure : Int} {halted : Bool} (h : LogAt w P D v l sure halted) (b : Bool) : LogAt (w.setCell ⟨P, 3, none⟩ (.bool b)) P D v l sure b :=
  ⟨by rw [heap_setCell_same h.h]; rfl, h.row.keep ((Keeps.refl [P] w).setCell (.inl (by simp)) _) (fun g hg => by have := h.own g hg; simp; omega)⟩
def okB (l : List ByteArray) : Bool := l.all fun x => decide (¬ (wFrame x).size = 0)
theorem okB_iff (l : List ByteArray) : okB l = true ↔ allOk l := by
  unfold okB allOk
  rw [List.all_eq_true]
  constructor <;> intro h x hx <;> simpa using h x hx
/-- A log written anew, so many steps far: what is told, the files, the records, how many are sure, whether it is cut off. -/
def lRewrite (fs : List DFile) (room : Nat) (l : List ByteArray) (sure : Int) (halted : Bool) (recs : List ByteArray) (n : Int) : Int × List DFile × List ByteArray × Int × Bool :=
  if halted = true ∨ sure < l.length then (8, fs, l, sure, halted)
  else if okB recs = false ∨ n < 0 then (1, fs, l, sure, halted)
  else if ¬ (rRun room (catF recs) fs (min n 4).toNat).1 = 0 then ((rRun room (catF recs) fs (min n 4).toNat).1, (rRun room (catF recs) fs (min n 4).toNat).2, l, sure, halted)
  else if n < 4 then (8, (rRun room (catF recs) fs (min n 4).toNat).2, l, sure, true)
  else (0, (rRun room (catF recs) fs (min n 4).toNat).2, recs, recs.length, false)

def RewRel (w3 : World) (P D L : Nat) (v : Value) (l : List ByteArray) (sure : Int) (fs : List DFile) (room : Nat) (all : ByteArray) (m : Nat) (v49 : Value) (wr : World) : Prop :=
  ∃ i : Nat, i ≤ m ∧ v49 = .int .i64 i ∧ (rRun room all fs i).1 = 0 ∧ LogAt wr P D v l sure false ∧ DiskAt wr D L (rRun room all fs i).2 room ∧ Keeps [L] w3 wr
theorem rRun_succ {room : Nat} {all : ByteArray} {fs : List DFile} {i : Nat} (h : (rRun room all fs i).1 = 0) : rRun room all fs (i + 1) = rStep room all (rRun room all fs i).2 i := by rw [rRun, if_pos h]
theorem rRun_err {room : Nat} {all : ByteArray} {fs : List DFile} {i m : Nat} (hi : i < m) (h : ¬ (rRun room all fs (i + 1)).1 = 0) : rRun room all fs m = rRun room all fs (i + 1) := by
  have := rRun_stop h (m - (i + 1))
  rwa [show i + 1 + (m - (i + 1)) = m from by omega] at this

set_option maxRecDepth 10000 in
set_option maxHeartbeats 8000000 in
theorem rewrite_c {w : World} {P D L : Nat} {v : Value} {l : List ByteArray} {sure : Int} {halted : Bool} {fs : List DFile} {room : Nat} {rv : Value} {recs : List ByteArray} (hL : LogAt w P D v l sure halted) (hD : DiskAt w D L fs room) (hDP : D < P) (hLP : L < P)
    (hR : RowOf w rv recs) (hrl : recs.length ≤ 1000) (hrs : ∀ x ∈ recs, x.size ≤ 1048576) (hro : ∀ b o c k, rv = .slice (some ⟨b, o, none⟩) c k → b ≠ P ∧ b ≠ L) (n : Int) (hn : inI64 n) :
    Calls Try.prog 13 #[.pointer (some ⟨P, 0, none⟩), rv, .int .i64 n] w fun e w' => e = .returned (.int .i64 (lRewrite fs room l sure halted recs n).1) ∧ ∃ v', LogAt w' P D v' (lRewrite fs room l sure halted recs n).2.2.1 (lRewrite fs room l sure halted recs n).2.2.2.1 (lRewrite fs room l sure halted recs n).2.2.2.2 ∧
      DiskAt w' D L (lRewrite fs room l sure halted recs n).2.1 room ∧ Keeps [P, L] w w' ∧ (v' = v ∨ ∀ g, v'.ownBlock = some g → w.heap.size ≤ g) := by
  obtain ⟨ad, cp, hv⟩ := hL.len
  have hlP := hL.lt
  obtain ⟨r, hr⟩ : ∃ r, r = lRewrite fs room l sure halted recs n := ⟨_, rfl⟩
  rw [← hr]
  unfold lRewrite at hr
  obtain ⟨w0, hw0⟩ : ∃ w0, w0 = w.alloc (.cells #[.pointer (some ⟨P, 0, none⟩)] 28) := ⟨_, rfl⟩
  obtain ⟨X, hX⟩ : ∃ X, X = w.heap.size := ⟨_, rfl⟩
  have x0 : w0.heap[X]? = some (.cells #[.pointer (some ⟨P, 0, none⟩)] 28 (0, 0)) := by rw [hw0, hX]; exact heap_alloc_same
  have k0 : Keeps [] w w0 := by rw [hw0]; exact (Keeps.refl _ _).alloc _
  have hL0 := hL.keep k0 (by simp) (fun _ _ => by simp)
  have hD0 := hD.keep k0 (by simp) (by simp)
  have hR0 : RowOf w0 rv recs := by
    rcases hR with h | ⟨b, o, c, e, hb, hc⟩
    · exact .inl h
    · exact .inr ⟨b, o, c, e, Nat.lt_of_lt_of_le hb k0.size, fun i hi => (k0.cell hb (by simp)).trans (hc i hi)⟩
  have xc : w0.cell? ⟨X, 0, none⟩ = some (.pointer (some ⟨P, 0, none⟩)) := (cell_of_heap (o := 0) x0).trans rfl
  have c1 := hL0.c1
  have c2 := hL0.c2
  have c3 := hL0.c3
  obtain ⟨rad, rcp, hrv⟩ := row_len hR
  have HR := Go.Lib.hid hr
  have HV := Go.Lib.hid hv
  have HRV := Go.Lib.hid hrv
  have HRO := Go.Lib.hid hro
  have HRS := Go.Lib.hid hrs
  have HR0 := Go.Lib.hid hR0
  clear hr hrv hro hrs hR0
  rw [hv] at c1
  go_enter Try.func13, Try.ntmps13
  go_upto_region 1 with fail
  rw [← hw0, ← hX]
  have hXw : w.heap.size ≤ X := by omega
  clear hw0 hL hD hR hv hX
  cases halted with
  | true =>
    go_quiet (fail)
    go_wp2
    go_ret
    rw [HR.out, if_pos (by simp)]
    exact ⟨rfl, v, hL0.keep (S := []) ((Keeps.refl _ _).drewN _) (by simp) (fun _ _ => by simp), hD0.keep (S := []) ((Keeps.refl _ _).drewN _) (by simp) (by simp), (k0.drewN _).sub (by simp), .inl rfl⟩
  | false =>
    by_cases hs : sure < (l.length : Int)
    · have hs2 : decide (sure < (l.length : Int)) = true := by simpa using hs
      go_quiet (fail)
      go_wp2
      go_ret
      rw [HR.out, if_pos (.inr hs)]
      exact ⟨rfl, v, hL0.keep (S := []) ((Keeps.refl _ _).drewN _) (by simp) (fun _ _ => by simp), hD0.keep (S := []) ((Keeps.refl _ _).drewN _) (by simp) (by simp), (k0.drewN _).sub (by simp), .inl rfl⟩
    · have hs2 : decide (sure < (l.length : Int)) = false := by simpa using hs
      have hs3 : ¬ ((false = true) ∨ sure < (l.length : Int)) := by simpa using hs
      go_quiet (fail)
      clear c1 c2 c3
      go_upto_region 3 with fail
      obtain ⟨w1, hw1⟩ : ∃ w1, w1 = w0.drewN nq := ⟨_, rfl⟩
      have kk : Keeps [] w0 w1 := by rw [hw1]; exact (Keeps.refl _ _).drewN _
      have hL1 := hL0.keep kk (by simp) (fun _ _ => by simp)
      have hD1 := hD0.keep kk (by simp) (by simp)
      have x1 : w1.cell? ⟨X, 0, none⟩ = some (.pointer (some ⟨P, 0, none⟩)) := (kk.cell (lt_of_heap x0) (by simp)).trans xc
      have K1 := k0.trans kk
      have hXl : X < w1.heap.size := Nat.lt_of_lt_of_le (lt_of_heap x0) kk.size
      have FC := frames_c (HR0.out.keep kk (fun _ _ _ _ _ => by simp)) hrl HRS.out
      rw [← hw1]
      have HK1 := kk
      clear hw1 kk hL0 hD0 x0 xc k0
      go_wp2_with fail
      refine FC.mono ?_
      rintro e w2 ⟨hcase, k2⟩
      have hL2 := hL1.keep k2 (by simp) (fun _ _ => by simp)
      have hD2 := hD1.keep k2 (by simp) (by simp)
      have x2 := (k2.cell hXl (by simp)).trans x1
      have K2 := K1.trans k2
      have HK0 := Go.Lib.hid (HK1.trans k2)
      clear HK1
      have hXl2 := Nat.lt_of_lt_of_le hXl k2.size
      clear FC hL1 hD1 x1 k2 K1 hXl
      rcases hcase with ⟨hok, rfl⟩ | ⟨hno, rfl⟩
      · have hokB := (okB_iff recs).2 hok
        clear hok
        by_cases hn0 : n < 0
        · have hn2 : decide (n < 0) = true := by simpa using hn0
          go_wp2
          go_ret
          rw [HR.out, if_neg hs3, if_pos (.inr hn0)]
          exact ⟨rfl, v, hL2.keep (S := []) ((Keeps.refl _ _).alloc _) (by simp) (fun _ _ => by simp), hD2.keep (S := []) ((Keeps.refl _ _).alloc _) (by simp) (by simp), (K2.alloc _).sub (by simp), .inl rfl⟩
        · have hn2 : decide (n < 0) = false := by simpa using hn0
          have hbad : ¬ (okB recs = false ∨ n < 0) := by rw [hokB]; simpa using hn0
          obtain ⟨all, hall⟩ : ∃ x, x = catF recs := ⟨_, rfl⟩
          have HR2 : Hid (r = if ¬ (rRun room all fs (min n 4).toNat).1 = 0 then ((rRun room all fs (min n 4).toNat).1, (rRun room all fs (min n 4).toNat).2, l, sure, false)
              else if n < 4 then (8, (rRun room all fs (min n 4).toNat).2, l, sure, true) else (0, (rRun room all fs (min n 4).toNat).2, recs, (recs.length : Int), false)) := by
            show r = _
            rw [HR.out, if_neg hs3, if_neg hbad, hall]
          rw [← hall]
          clear HR hall hokB
          obtain ⟨w3, hw3⟩ : ∃ w3, w3 = (w2.alloc (.cells #[.string all] 9)).alloc (.cells #[.func (.func 39) #[] #[.pointer (some ⟨X, 0, none⟩), .pointer (some ⟨w2.heap.size, 0, none⟩)], .func (.func 40) #[] #[.pointer (some ⟨X, 0, none⟩)], .func (.func 41) #[] #[.pointer (some ⟨X, 0, none⟩)], .func (.func 43) #[] #[.pointer (some ⟨X, 0, none⟩)]] 71) := ⟨_, rfl⟩
          have k3 : Keeps [] w2 w3 := by rw [hw3]; exact ((Keeps.refl _ _).alloc _).alloc _
          have y3 : w3.heap[w2.heap.size]? = some (.cells #[.string all] 9 (0, 0)) := by rw [hw3]; exact (heap_alloc_old (by simp)).trans heap_alloc_same
          have f3 : w3.heap[w2.heap.size + 1]? = some (.cells #[.func (.func 39) #[] #[.pointer (some ⟨X, 0, none⟩), .pointer (some ⟨w2.heap.size, 0, none⟩)], .func (.func 40) #[] #[.pointer (some ⟨X, 0, none⟩)], .func (.func 41) #[] #[.pointer (some ⟨X, 0, none⟩)], .func (.func 43) #[] #[.pointer (some ⟨X, 0, none⟩)]] 71 (0, 0)) := by rw [hw3]; exact heap_alloc_at (by simp)
          have x3 := (k3.cell hXl2 (by simp)).trans x2
          have hL3 := hL2.keep k3 (by simp) (fun _ _ => by simp)
          have hD3 := hD2.keep k3 (by simp) (by simp)
          have K3 := K2.trans k3
          have hlF := lt_of_heap f3
          have hlY := lt_of_heap y3
          have hlX := Nat.lt_of_lt_of_le hXl2 k3.size
          have hlw := hL2.lt
          have kw3 : Keeps [] w0 w3 := HK0.out.trans k3
          have hK7 : ∀ {w5 : World}, Keeps [L] w3 w5 → Keeps [P, L] w0 w5 := fun k => (kw3.sub (by simp)).trans (k.sub (by simp))
          clear hD2 x2 k3 K2 hXl2
          by_cases hn4 : n < 4
          · obtain ⟨m, rfl⟩ : ∃ m : Nat, n = (m : Int) := ⟨n.toNat, by omega⟩
            have hm : m < 4 := by omega
            rw [show min (m : Int) 4 = (m : Int) from by omega, Int.toNat_natCast] at HR2
            have hn4' : (m : Int) ≤ 4 := by omega
            have hlt4 : decide ((m : Int) < 4) = true := by simp; omega
            go_wp2_with fail
            rw [← hw3]
            clear hw3
            go_loopw [49] (fun v49 wr => RewRel w3 P D L v l sure fs room all m v49 wr) (fun v49 _ => m - (intOf v49).toNat)
            case atStart => exact ⟨0, Nat.zero_le _, rfl, rfl, hL3, hD3, Keeps.refl _ _⟩
            case round =>
              clear hL3 hD3
              obtain ⟨i, hi, rfl, hq, hL4, hD4, K4⟩ := hrel
              have x4 := (K4.cell hlX (by simp; omega)).trans x3
              have y4 := (K4.heap (by simp; omega) y3)
              have f4 := (K4.heap (by simp; omega) f3)
              have yc : _ = some (Value.string all) := (cell_of_heap (o := 0) y4).trans rfl
              have hK5 : ∀ {w5 : World}, Keeps [L] _ w5 → Keeps [P, L] w w5 := fun k => (K3.sub (by simp)).trans (((K4.trans k)).sub (by simp))
              have hK6 := K4
              by_cases hlt : i < m
              · have hsucc := rRun_succ (room := room) (all := all) (fs := fs) hq
                have herr := fun h => rRun_err (room := room) (all := all) (fs := fs) hlt h
                rw [hsucc] at herr
                generalize rRun room all fs i = q at *
                obtain ⟨q0, f0⟩ := q
                dsimp only at hq hD4 hsucc herr
                have hi4 : i < 4 := by omega
                rcases (by omega : i = 0 ∨ i = 1 ∨ i = 2 ∨ i = 3) with rfl | rfl | rfl | rfl
                · have SC := r1_c x4 yc hL4 hD4
                  obtain ⟨e5, f5, hst⟩ : ∃ e5 f5, rStep room all f0 0 = (e5, f5) := ⟨_, _, rfl⟩
                  have hst2 := hst
                  simp only [rStep] at hst2
                  rw [hst2] at SC
                  dsimp only at SC
                  rw [hst] at hsucc herr
                  have fc := (cell_of_heap (o := 0) f4).trans rfl
                  have hown := hL4.own
                  have HS := Go.Lib.hid hsucc
                  have HE := Go.Lib.hid herr
                  clear hst2 hsucc herr hst f4 y4
                  go_wp2_with fail
                  refine SC.mono ?_
                  rintro _ w5 ⟨rfl, hD5, k5⟩
                  have hL5 := hL4.keep k5 (by simp; omega) (fun g hg => by have := hown g hg; simp; omega)
                  have K5 := hK6.trans k5
                  by_cases he : e5 = 0
                  · subst he
                    go_wp2_with fail
                    go_roundw
                    case rel => exact ⟨0 + 1, by omega, by go_num, by rw [HS.out], hL5, by rw [HS.out]; exact hD5, K5⟩
                    case measure => first | (simp [intOf]; done) | (simp [intOf]; omega)
                  · have he2 : (e5 != 0) = true := by simpa using he
                    have h1 := HE.out he
                    have H1 := Go.Lib.hid h1
                    clear h1
                    go_wp2
                    go_ret
                    rw [HR2.out, H1.out, if_pos he]
                    exact ⟨rfl, v, hL5, hD5, hK5 k5, .inl rfl⟩
                · have SC := r2_c x4 hL4 hD4
                  obtain ⟨e5, f5, hst⟩ : ∃ e5 f5, rStep room all f0 1 = (e5, f5) := ⟨_, _, rfl⟩
                  have hst2 := hst
                  simp only [rStep] at hst2
                  rw [hst2] at SC
                  dsimp only at SC
                  rw [hst] at hsucc herr
                  have fc := (cell_of_heap (o := 1) f4).trans rfl
                  have hown := hL4.own
                  have HS := Go.Lib.hid hsucc
                  have HE := Go.Lib.hid herr
                  clear hst2 hsucc herr hst f4 y4
                  go_wp2_with fail
                  refine SC.mono ?_
                  rintro _ w5 ⟨rfl, hD5, k5⟩
                  have hL5 := hL4.keep k5 (by simp; omega) (fun g hg => by have := hown g hg; simp; omega)
                  have K5 := hK6.trans k5
                  by_cases he : e5 = 0
                  · subst he
                    go_wp2_with fail
                    go_roundw
                    case rel => exact ⟨1 + 1, by omega, by go_num, by rw [HS.out], hL5, by rw [HS.out]; exact hD5, K5⟩
                    case measure => first | (simp [intOf]; done) | (simp [intOf]; omega)
                  · have he2 : (e5 != 0) = true := by simpa using he
                    have h1 := HE.out he
                    have H1 := Go.Lib.hid h1
                    clear h1
                    go_wp2
                    go_ret
                    rw [HR2.out, H1.out, if_pos he]
                    exact ⟨rfl, v, hL5, hD5, hK5 k5, .inl rfl⟩
                · have SC := r3_c x4 hL4 hD4
                  obtain ⟨e5, f5, hst⟩ : ∃ e5 f5, rStep room all f0 2 = (e5, f5) := ⟨_, _, rfl⟩
                  have hst2 := hst
                  simp only [rStep] at hst2
                  rw [hst2] at SC
                  dsimp only at SC
                  rw [hst] at hsucc herr
                  have fc := (cell_of_heap (o := 2) f4).trans rfl
                  have hown := hL4.own
                  have HS := Go.Lib.hid hsucc
                  have HE := Go.Lib.hid herr
                  clear hst2 hsucc herr hst f4 y4
                  go_wp2_with fail
                  refine SC.mono ?_
                  rintro _ w5 ⟨rfl, hD5, k5⟩
                  have hL5 := hL4.keep k5 (by simp; omega) (fun g hg => by have := hown g hg; simp; omega)
                  have K5 := hK6.trans k5
                  by_cases he : e5 = 0
                  · subst he
                    go_wp2_with fail
                    go_roundw
                    case rel => exact ⟨2 + 1, by omega, by go_num, by rw [HS.out], hL5, by rw [HS.out]; exact hD5, K5⟩
                    case measure => first | (simp [intOf]; done) | (simp [intOf]; omega)
                  · have he2 : (e5 != 0) = true := by simpa using he
                    have h1 := HE.out he
                    have H1 := Go.Lib.hid h1
                    clear h1
                    go_wp2
                    go_ret
                    rw [HR2.out, H1.out, if_pos he]
                    exact ⟨rfl, v, hL5, hD5, hK5 k5, .inl rfl⟩
                · omega
              · obtain rfl : i = m := by omega
                have c3 := hL4.c3
                have z3 := hL4.fz 3
                have hown := hL4.own
                have hL6 := hL4.halt true
                have k6 : Keeps [P, L] _ _ := (Keeps.refl [P, L] wr).setCell (p := ⟨P, 3, none⟩) (.inl (by simp)) (.bool true)
                have hD6 := hD4.keep ((Keeps.refl [P] wr).setCell (p := ⟨P, 3, none⟩) (.inl (by simp)) (.bool true)) (by simp; omega) (by simp; omega)
                have K6 := (hK5 (Keeps.refl _ _)).trans k6
                have HQ := Go.Lib.hid hq
                clear hq f4 y4 yc y3 f3
                go_wp2_with fail
                go_ret
                rw [HR2.out, if_neg (by simpa using HQ.out), if_pos hn4]
                exact ⟨rfl, v, hL6, hD6, K6, .inl rfl⟩
          · have hn4' : (4 : Int) ≤ n := by omega
            rw [show min n 4 = (4 : Int) from by omega, show (4 : Int).toNat = 4 from rfl] at HR2
            have hlt4 : decide (n < 4) = false := by simp; omega
            rcases (by omega : n = 4 ∨ 4 < n) with h4 | h4
            · subst h4
              go_wp2_with fail
              rw [← hw3]
              clear hw3
              go_loopw [49] (fun v49 wr => RewRel w3 P D L v l sure fs room all 4 v49 wr) (fun v49 _ => 4 - (intOf v49).toNat)
              case atStart => exact ⟨0, Nat.zero_le _, rfl, rfl, hL3, hD3, Keeps.refl _ _⟩
              case round =>
                clear hL3 hD3
                obtain ⟨i, hi, rfl, hq, hL4, hD4, K4⟩ := hrel
                have x4 := (K4.cell hlX (by simp; omega)).trans x3
                have y4 := (K4.heap (by simp; omega) y3)
                have f4 := (K4.heap (by simp; omega) f3)
                have yc : _ = some (Value.string all) := (cell_of_heap (o := 0) y4).trans rfl
                have hK5 : ∀ {w5 : World}, Keeps [L] _ w5 → Keeps [P, L] w w5 := fun k => (K3.sub (by simp)).trans (((K4.trans k)).sub (by simp))
                have hK6 := K4
                by_cases hlt : i < 4
                · have hsucc := rRun_succ (room := room) (all := all) (fs := fs) hq
                  have herr := fun h => rRun_err (room := room) (all := all) (fs := fs) hlt h
                  rw [hsucc] at herr
                  generalize rRun room all fs i = q at *
                  obtain ⟨q0, f0⟩ := q
                  dsimp only at hq hD4 hsucc herr
                  have hi4 : i < 4 := by omega
                  rcases (by omega : i = 0 ∨ i = 1 ∨ i = 2 ∨ i = 3) with rfl | rfl | rfl | rfl
                  · have SC := r1_c x4 yc hL4 hD4
                    obtain ⟨e5, f5, hst⟩ : ∃ e5 f5, rStep room all f0 0 = (e5, f5) := ⟨_, _, rfl⟩
                    have hst2 := hst
                    simp only [rStep] at hst2
                    rw [hst2] at SC
                    dsimp only at SC
                    rw [hst] at hsucc herr
                    have fc := (cell_of_heap (o := 0) f4).trans rfl
                    have hown := hL4.own
                    have HS := Go.Lib.hid hsucc
                    have HE := Go.Lib.hid herr
                    clear hst2 hsucc herr hst f4 y4
                    go_wp2_with fail
                    refine SC.mono ?_
                    rintro _ w5 ⟨rfl, hD5, k5⟩
                    have hL5 := hL4.keep k5 (by simp; omega) (fun g hg => by have := hown g hg; simp; omega)
                    have K5 := hK6.trans k5
                    by_cases he : e5 = 0
                    · subst he
                      go_wp2_with fail
                      go_roundw
                      case rel => exact ⟨0 + 1, by omega, by go_num, by rw [HS.out], hL5, by rw [HS.out]; exact hD5, K5⟩
                      case measure => first | (simp [intOf]; done) | (simp [intOf]; omega)
                    · have he2 : (e5 != 0) = true := by simpa using he
                      have h1 := HE.out he
                      have H1 := Go.Lib.hid h1
                      clear h1
                      go_wp2
                      go_ret
                      rw [HR2.out, H1.out, if_pos he]
                      exact ⟨rfl, v, hL5, hD5, hK5 k5, .inl rfl⟩
                  · have SC := r2_c x4 hL4 hD4
                    obtain ⟨e5, f5, hst⟩ : ∃ e5 f5, rStep room all f0 1 = (e5, f5) := ⟨_, _, rfl⟩
                    have hst2 := hst
                    simp only [rStep] at hst2
                    rw [hst2] at SC
                    dsimp only at SC
                    rw [hst] at hsucc herr
                    have fc := (cell_of_heap (o := 1) f4).trans rfl
                    have hown := hL4.own
                    have HS := Go.Lib.hid hsucc
                    have HE := Go.Lib.hid herr
                    clear hst2 hsucc herr hst f4 y4
                    go_wp2_with fail
                    refine SC.mono ?_
                    rintro _ w5 ⟨rfl, hD5, k5⟩
                    have hL5 := hL4.keep k5 (by simp; omega) (fun g hg => by have := hown g hg; simp; omega)
                    have K5 := hK6.trans k5
                    by_cases he : e5 = 0
                    · subst he
                      go_wp2_with fail
                      go_roundw
                      case rel => exact ⟨1 + 1, by omega, by go_num, by rw [HS.out], hL5, by rw [HS.out]; exact hD5, K5⟩
                      case measure => first | (simp [intOf]; done) | (simp [intOf]; omega)
                    · have he2 : (e5 != 0) = true := by simpa using he
                      have h1 := HE.out he
                      have H1 := Go.Lib.hid h1
                      clear h1
                      go_wp2
                      go_ret
                      rw [HR2.out, H1.out, if_pos he]
                      exact ⟨rfl, v, hL5, hD5, hK5 k5, .inl rfl⟩
                  · have SC := r3_c x4 hL4 hD4
                    obtain ⟨e5, f5, hst⟩ : ∃ e5 f5, rStep room all f0 2 = (e5, f5) := ⟨_, _, rfl⟩
                    have hst2 := hst
                    simp only [rStep] at hst2
                    rw [hst2] at SC
                    dsimp only at SC
                    rw [hst] at hsucc herr
                    have fc := (cell_of_heap (o := 2) f4).trans rfl
                    have hown := hL4.own
                    have HS := Go.Lib.hid hsucc
                    have HE := Go.Lib.hid herr
                    clear hst2 hsucc herr hst f4 y4
                    go_wp2_with fail
                    refine SC.mono ?_
                    rintro _ w5 ⟨rfl, hD5, k5⟩
                    have hL5 := hL4.keep k5 (by simp; omega) (fun g hg => by have := hown g hg; simp; omega)
                    have K5 := hK6.trans k5
                    by_cases he : e5 = 0
                    · subst he
                      go_wp2_with fail
                      go_roundw
                      case rel => exact ⟨2 + 1, by omega, by go_num, by rw [HS.out], hL5, by rw [HS.out]; exact hD5, K5⟩
                      case measure => first | (simp [intOf]; done) | (simp [intOf]; omega)
                    · have he2 : (e5 != 0) = true := by simpa using he
                      have h1 := HE.out he
                      have H1 := Go.Lib.hid h1
                      clear h1
                      go_wp2
                      go_ret
                      rw [HR2.out, H1.out, if_pos he]
                      exact ⟨rfl, v, hL5, hD5, hK5 k5, .inl rfl⟩
                  · have SC := r4_c x4 hL4 hD4
                    obtain ⟨e5, f5, hst⟩ : ∃ e5 f5, rStep room all f0 3 = (e5, f5) := ⟨_, _, rfl⟩
                    have hst2 := hst
                    simp only [rStep] at hst2
                    rw [hst2] at SC
                    dsimp only at SC
                    rw [hst] at hsucc herr
                    have fc := (cell_of_heap (o := 3) f4).trans rfl
                    have hown := hL4.own
                    have HS := Go.Lib.hid hsucc
                    have HE := Go.Lib.hid herr
                    clear hst2 hsucc herr hst f4 y4
                    go_wp2_with fail
                    refine SC.mono ?_
                    rintro _ w5 ⟨rfl, hD5, k5⟩
                    have hL5 := hL4.keep k5 (by simp; omega) (fun g hg => by have := hown g hg; simp; omega)
                    have K5 := hK6.trans k5
                    by_cases he : e5 = 0
                    · subst he
                      go_wp2_with fail
                      go_roundw
                      case rel => exact ⟨3 + 1, by omega, by go_num, by rw [HS.out], hL5, by rw [HS.out]; exact hD5, K5⟩
                      case measure => first | (simp [intOf]; done) | (simp [intOf]; omega)
                    · have he2 : (e5 != 0) = true := by simpa using he
                      have h1 := HE.out he
                      have H1 := Go.Lib.hid h1
                      clear h1
                      go_wp2
                      go_ret
                      rw [HR2.out, H1.out, if_pos he]
                      exact ⟨rfl, v, hL5, hD5, hK5 k5, .inl rfl⟩
                · obtain rfl : i = 4 := by omega
                  have HQ := Go.Lib.hid hq
                  have hrv := HRV.out
                  subst hrv
                  have hR5 := HR0.out.keep (hK7 hK6) (fun b o c k e => by have := HRO.out b o c k e; simp; omega)
                  have CC := clone_c (w := wr.drew) (hR5.keep (S := []) (Keeps.refl _ _).drew (fun _ _ _ _ _ => by simp)) (by omega)
                  have hXr : X < wr.heap.size := Nat.lt_of_lt_of_le hlX hK6.size
                  have hwr : P < wr.heap.size := hL4.lt
                  have hww : w.heap.size ≤ wr.heap.size := (hK5 (Keeps.refl _ _)).size
                  clear hq f4 y4 yc y3 f3 hR5
                  go_upto_region 17 with fail
                  refine wp_region_held_drew (S := (fun w' => w'.cell? ⟨X, 0, none⟩ = some (.pointer (some ⟨P, 0, none⟩)))) (by kernel_rfl) (x4) (fun hHeld => ?_)
                  refine wpAnyH_take (i := 0) (oi := Oper.mk _ _ _ _ _ _) (v := ?_) rfl (by kernel_rfl) (by kernel_rfl) (by kernel_rfl) (fun _ _ _ h => h) (Or.inl ⟨by rfl, ?_⟩) hHeld ?_
                  rotate_left
                  · (intro w hSw; (try dsimp only at hSw); (first | (go_simp; done) | (go_simp; with_reducible rfl)))
                  try simp only [Act.put, List.setIfInBounds_toArray, List.set_cons_zero, List.set_cons_succ]
                  refine wpAnyH_take (i := 1) (oi := Oper.mk _ _ _ _ _ _) (v := ?_) rfl (by kernel_rfl) (by kernel_rfl) (by kernel_rfl) (fun _ _ _ h => h) (Or.inl ⟨by rfl, ?_⟩) hHeld ?_
                  rotate_left
                  · (intro w hSw; (try dsimp only at hSw); (first | (go_simp; done) | (go_simp; with_reducible rfl)))
                  try simp only [Act.put, List.setIfInBounds_toArray, List.set_cons_zero, List.set_cons_succ]
                  refine wpAnyH_ready (rs := [2]) (by kernel_rfl) (by simp) ?_
                  refine AllReadyH.cons (o := Oper.mk _ _ _ _ _ _) rfl (fun K hK => ?_) AllReadyH.nil
                  (go_simp; refine CC.mono ?_; rintro _ w6 ⟨v', rfl, hrow, k6⟩)
                  refine hK.out _ _ (((k6.cell (by exact hXr) (by simp)).trans hHeld)) (fun hNew => ?_)
                  clear hHeld hK
                  have hHeld := hNew
                  clear hNew
                  try simp only [Act.put, List.setIfInBounds_toArray, List.set_cons_zero, List.set_cons_succ]
                  refine wpAnyH_take (i := 3) (oi := Oper.mk _ _ _ _ _ _) (v := ?_) rfl (by kernel_rfl) (by kernel_rfl) (by kernel_rfl) (fun _ _ _ h => h) (Or.inl ⟨by rfl, ?_⟩) hHeld ?_
                  rotate_left
                  · (intro w hSw; (try dsimp only at hSw); (first | (go_simp; done) | (go_simp; with_reducible rfl)))
                  try simp only [Act.put, List.setIfInBounds_toArray, List.set_cons_zero, List.set_cons_succ]
                  refine wpAnyH_take (i := 4) (oi := Oper.mk _ _ _ _ _ _) (v := ?_) rfl (by kernel_rfl) (by kernel_rfl) (by kernel_rfl) (fun _ _ _ h => h) (Or.inl ⟨by rfl, ?_⟩) hHeld ?_
                  rotate_left
                  · (intro w hSw; (try dsimp only at hSw); (first | (go_simp; done) | (go_simp; with_reducible rfl)))
                  try simp only [Act.put, List.setIfInBounds_toArray, List.set_cons_zero, List.set_cons_succ]
                  have kk6 : Keeps [] wr w6 := (Keeps.refl _ _).drew.trans k6
                  have hL6 := hL4.keep kk6 (by simp) (fun _ _ => by simp)
                  have hD6 := hD4.keep kk6 (by simp) (by simp)
                  have K6 := (hK5 (Keeps.refl _ _)).trans (kk6.sub (by simp))
                  have c1 := hL6.c1
                  have z1 := hL6.fz 1
                  have hX6 := Nat.lt_of_lt_of_le hXr kk6.size
                  obtain ⟨a', c', rfl⟩ : ∃ a c, v' = .slice a recs.length c := by
                    rcases hrow.form with ⟨e, e2⟩ | ⟨g, cap, e, _⟩
                    · exact ⟨none, 0, by rw [e, e2]; rfl⟩
                    · exact ⟨_, _, e⟩
                  have hfresh : ∀ g, Value.ownBlock (.slice a' recs.length c') = some g → wr.heap.size ≤ g := fun g hg => (World.ownsRow.lt hrow g hg).1
                  have hP7 : (w6.setCell ⟨P, 1, none⟩ (.slice a' recs.length c')).heap[P]? = some (.cells #[.pointer (some ⟨D, 0, none⟩), .slice a' recs.length c', .int .i64 sure, .bool false] 68 (0, 0)) := by rw [heap_setCell_same hL6.h]; rfl
                  have kP1 : Keeps [P] w6 (w6.setCell ⟨P, 1, none⟩ (.slice a' recs.length c')) := (Keeps.refl [P] w6).setCell (.inl (by simp)) _
                  have kP2 : Keeps [P] w6 ((w6.setCell ⟨P, 1, none⟩ (.slice a' recs.length c')).setCell ⟨P, 2, none⟩ (.int .i64 recs.length)) := kP1.setCell (.inl (by simp)) _
                  have row7 : StrRow ((w6.setCell ⟨P, 1, none⟩ (.slice a' recs.length c')).setCell ⟨P, 2, none⟩ (.int .i64 recs.length)) (P + 1) (.slice a' recs.length c') recs := (hrow.base (by show P + 1 ≤ wr.heap.size; omega)).keep kP2 (fun g hg => by have := hfresh g hg; simp; omega)
                  have c2 : (w6.setCell ⟨P, 1, none⟩ (.slice a' recs.length c')).cell? ⟨P, 2, none⟩ = some (.int .i64 sure) := (cell_of_heap hP7).trans rfl
                  have z2 : (w6.setCell ⟨P, 1, none⟩ (.slice a' recs.length c')).frozen? ⟨P, 2, none⟩ = false := frozen_of_heap hP7
                  have x7 : (w6.setCell ⟨P, 1, none⟩ (.slice a' recs.length c')).cell? ⟨X, 0, none⟩ = some (.pointer (some ⟨P, 0, none⟩)) := (kP1.cell hX6 (by simp; omega)).trans hHeld
                  refine wpAnyH_ready (rs := [5]) (by kernel_rfl) (by simp) ?_
                  refine AllReadyH.cons (o := Oper.mk _ _ _ _ _ _) rfl (fun K hK => ?_) AllReadyH.nil
                  go_simp
                  refine hK.out _ _ (x7) (fun hNew => ?_)
                  clear hHeld hK
                  have hHeld := hNew
                  clear hNew
                  try simp only [Act.put, List.setIfInBounds_toArray, List.set_cons_zero, List.set_cons_succ]
                  refine wpAnyH_done (by kernel_rfl) ?_ _
                  generalize hw7 : w6.setCell ⟨P, 1, none⟩ (.slice a' recs.length c') = w7 at *
                  clear hw7 c1 z1 hHeld x4
                  go_wp2_with fail
                  go_ret
                  rw [HR2.out, if_neg (by simpa using HQ.out), if_neg (by omega)]
                  exact ⟨rfl, _, ⟨by rw [heap_setCell_same hP7]; rfl, row7⟩, hD6.keep kP2 (by simp; omega) (by simp; omega), K6.trans (kP2.sub (by simp)), .inr (fun g hg => by have := hfresh g hg; omega)⟩
            · have h5 : ¬ n ≤ 4 := by omega
              go_wp2_with fail
              rw [← hw3]
              clear hw3
              go_loopw [49] (fun v49 wr => RewRel w3 P D L v l sure fs room all 4 v49 wr) (fun v49 _ => 4 - (intOf v49).toNat)
              case atStart => exact ⟨0, Nat.zero_le _, rfl, rfl, hL3, hD3, Keeps.refl _ _⟩
              case round =>
                clear hL3 hD3
                obtain ⟨i, hi, rfl, hq, hL4, hD4, K4⟩ := hrel
                have x4 := (K4.cell hlX (by simp; omega)).trans x3
                have y4 := (K4.heap (by simp; omega) y3)
                have f4 := (K4.heap (by simp; omega) f3)
                have yc : _ = some (Value.string all) := (cell_of_heap (o := 0) y4).trans rfl
                have hK5 : ∀ {w5 : World}, Keeps [L] _ w5 → Keeps [P, L] w w5 := fun k => (K3.sub (by simp)).trans (((K4.trans k)).sub (by simp))
                have hK6 := K4
                by_cases hlt : i < 4
                · have hsucc := rRun_succ (room := room) (all := all) (fs := fs) hq
                  have herr := fun h => rRun_err (room := room) (all := all) (fs := fs) hlt h
                  rw [hsucc] at herr
                  generalize rRun room all fs i = q at *
                  obtain ⟨q0, f0⟩ := q
                  dsimp only at hq hD4 hsucc herr
                  have hi4 : i < 4 := by omega
                  rcases (by omega : i = 0 ∨ i = 1 ∨ i = 2 ∨ i = 3) with rfl | rfl | rfl | rfl
                  · have SC := r1_c x4 yc hL4 hD4
                    obtain ⟨e5, f5, hst⟩ : ∃ e5 f5, rStep room all f0 0 = (e5, f5) := ⟨_, _, rfl⟩
                    have hst2 := hst
                    simp only [rStep] at hst2
                    rw [hst2] at SC
                    dsimp only at SC
                    rw [hst] at hsucc herr
                    have fc := (cell_of_heap (o := 0) f4).trans rfl
                    have hown := hL4.own
                    have HS := Go.Lib.hid hsucc
                    have HE := Go.Lib.hid herr
                    clear hst2 hsucc herr hst f4 y4
                    go_wp2_with fail
                    refine SC.mono ?_
                    rintro _ w5 ⟨rfl, hD5, k5⟩
                    have hL5 := hL4.keep k5 (by simp; omega) (fun g hg => by have := hown g hg; simp; omega)
                    have K5 := hK6.trans k5
                    by_cases he : e5 = 0
                    · subst he
                      go_wp2_with fail
                      go_roundw
                      case rel => exact ⟨0 + 1, by omega, by go_num, by rw [HS.out], hL5, by rw [HS.out]; exact hD5, K5⟩
                      case measure => first | (simp [intOf]; done) | (simp [intOf]; omega)
                    · have he2 : (e5 != 0) = true := by simpa using he
                      have h1 := HE.out he
                      have H1 := Go.Lib.hid h1
                      clear h1
                      go_wp2
                      go_ret
                      rw [HR2.out, H1.out, if_pos he]
                      exact ⟨rfl, v, hL5, hD5, hK5 k5, .inl rfl⟩
                  · have SC := r2_c x4 hL4 hD4
                    obtain ⟨e5, f5, hst⟩ : ∃ e5 f5, rStep room all f0 1 = (e5, f5) := ⟨_, _, rfl⟩
                    have hst2 := hst
                    simp only [rStep] at hst2
                    rw [hst2] at SC
                    dsimp only at SC
                    rw [hst] at hsucc herr
                    have fc := (cell_of_heap (o := 1) f4).trans rfl
                    have hown := hL4.own
                    have HS := Go.Lib.hid hsucc
                    have HE := Go.Lib.hid herr
                    clear hst2 hsucc herr hst f4 y4
                    go_wp2_with fail
                    refine SC.mono ?_
                    rintro _ w5 ⟨rfl, hD5, k5⟩
                    have hL5 := hL4.keep k5 (by simp; omega) (fun g hg => by have := hown g hg; simp; omega)
                    have K5 := hK6.trans k5
                    by_cases he : e5 = 0
                    · subst he
                      go_wp2_with fail
                      go_roundw
                      case rel => exact ⟨1 + 1, by omega, by go_num, by rw [HS.out], hL5, by rw [HS.out]; exact hD5, K5⟩
                      case measure => first | (simp [intOf]; done) | (simp [intOf]; omega)
                    · have he2 : (e5 != 0) = true := by simpa using he
                      have h1 := HE.out he
                      have H1 := Go.Lib.hid h1
                      clear h1
                      go_wp2
                      go_ret
                      rw [HR2.out, H1.out, if_pos he]
                      exact ⟨rfl, v, hL5, hD5, hK5 k5, .inl rfl⟩
                  · have SC := r3_c x4 hL4 hD4
                    obtain ⟨e5, f5, hst⟩ : ∃ e5 f5, rStep room all f0 2 = (e5, f5) := ⟨_, _, rfl⟩
                    have hst2 := hst
                    simp only [rStep] at hst2
                    rw [hst2] at SC
                    dsimp only at SC
                    rw [hst] at hsucc herr
                    have fc := (cell_of_heap (o := 2) f4).trans rfl
                    have hown := hL4.own
                    have HS := Go.Lib.hid hsucc
                    have HE := Go.Lib.hid herr
                    clear hst2 hsucc herr hst f4 y4
                    go_wp2_with fail
                    refine SC.mono ?_
                    rintro _ w5 ⟨rfl, hD5, k5⟩
                    have hL5 := hL4.keep k5 (by simp; omega) (fun g hg => by have := hown g hg; simp; omega)
                    have K5 := hK6.trans k5
                    by_cases he : e5 = 0
                    · subst he
                      go_wp2_with fail
                      go_roundw
                      case rel => exact ⟨2 + 1, by omega, by go_num, by rw [HS.out], hL5, by rw [HS.out]; exact hD5, K5⟩
                      case measure => first | (simp [intOf]; done) | (simp [intOf]; omega)
                    · have he2 : (e5 != 0) = true := by simpa using he
                      have h1 := HE.out he
                      have H1 := Go.Lib.hid h1
                      clear h1
                      go_wp2
                      go_ret
                      rw [HR2.out, H1.out, if_pos he]
                      exact ⟨rfl, v, hL5, hD5, hK5 k5, .inl rfl⟩
                  · have SC := r4_c x4 hL4 hD4
                    obtain ⟨e5, f5, hst⟩ : ∃ e5 f5, rStep room all f0 3 = (e5, f5) := ⟨_, _, rfl⟩
                    have hst2 := hst
                    simp only [rStep] at hst2
                    rw [hst2] at SC
                    dsimp only at SC
                    rw [hst] at hsucc herr
                    have fc := (cell_of_heap (o := 3) f4).trans rfl
                    have hown := hL4.own
                    have HS := Go.Lib.hid hsucc
                    have HE := Go.Lib.hid herr
                    clear hst2 hsucc herr hst f4 y4
                    go_wp2_with fail
                    refine SC.mono ?_
                    rintro _ w5 ⟨rfl, hD5, k5⟩
                    have hL5 := hL4.keep k5 (by simp; omega) (fun g hg => by have := hown g hg; simp; omega)
                    have K5 := hK6.trans k5
                    by_cases he : e5 = 0
                    · subst he
                      go_wp2_with fail
                      go_roundw
                      case rel => exact ⟨3 + 1, by omega, by go_num, by rw [HS.out], hL5, by rw [HS.out]; exact hD5, K5⟩
                      case measure => first | (simp [intOf]; done) | (simp [intOf]; omega)
                    · have he2 : (e5 != 0) = true := by simpa using he
                      have h1 := HE.out he
                      have H1 := Go.Lib.hid h1
                      clear h1
                      go_wp2
                      go_ret
                      rw [HR2.out, H1.out, if_pos he]
                      exact ⟨rfl, v, hL5, hD5, hK5 k5, .inl rfl⟩
                · obtain rfl : i = 4 := by omega
                  have HQ := Go.Lib.hid hq
                  have hrv := HRV.out
                  subst hrv
                  have hR5 := HR0.out.keep (hK7 hK6) (fun b o c k e => by have := HRO.out b o c k e; simp; omega)
                  have CC := clone_c (w := wr.drew) (hR5.keep (S := []) (Keeps.refl _ _).drew (fun _ _ _ _ _ => by simp)) (by omega)
                  have hXr : X < wr.heap.size := Nat.lt_of_lt_of_le hlX hK6.size
                  have hwr : P < wr.heap.size := hL4.lt
                  have hww : w.heap.size ≤ wr.heap.size := (hK5 (Keeps.refl _ _)).size
                  clear hq f4 y4 yc y3 f3 hR5
                  go_upto_region 17 with fail
                  refine wp_region_held_drew (S := (fun w' => w'.cell? ⟨X, 0, none⟩ = some (.pointer (some ⟨P, 0, none⟩)))) (by kernel_rfl) (x4) (fun hHeld => ?_)
                  refine wpAnyH_take (i := 0) (oi := Oper.mk _ _ _ _ _ _) (v := ?_) rfl (by kernel_rfl) (by kernel_rfl) (by kernel_rfl) (fun _ _ _ h => h) (Or.inl ⟨by rfl, ?_⟩) hHeld ?_
                  rotate_left
                  · (intro w hSw; (try dsimp only at hSw); (first | (go_simp; done) | (go_simp; with_reducible rfl)))
                  try simp only [Act.put, List.setIfInBounds_toArray, List.set_cons_zero, List.set_cons_succ]
                  refine wpAnyH_take (i := 1) (oi := Oper.mk _ _ _ _ _ _) (v := ?_) rfl (by kernel_rfl) (by kernel_rfl) (by kernel_rfl) (fun _ _ _ h => h) (Or.inl ⟨by rfl, ?_⟩) hHeld ?_
                  rotate_left
                  · (intro w hSw; (try dsimp only at hSw); (first | (go_simp; done) | (go_simp; with_reducible rfl)))
                  try simp only [Act.put, List.setIfInBounds_toArray, List.set_cons_zero, List.set_cons_succ]
                  refine wpAnyH_ready (rs := [2]) (by kernel_rfl) (by simp) ?_
                  refine AllReadyH.cons (o := Oper.mk _ _ _ _ _ _) rfl (fun K hK => ?_) AllReadyH.nil
                  (go_simp; refine CC.mono ?_; rintro _ w6 ⟨v', rfl, hrow, k6⟩)
                  refine hK.out _ _ (((k6.cell (by exact hXr) (by simp)).trans hHeld)) (fun hNew => ?_)
                  clear hHeld hK
                  have hHeld := hNew
                  clear hNew
                  try simp only [Act.put, List.setIfInBounds_toArray, List.set_cons_zero, List.set_cons_succ]
                  refine wpAnyH_take (i := 3) (oi := Oper.mk _ _ _ _ _ _) (v := ?_) rfl (by kernel_rfl) (by kernel_rfl) (by kernel_rfl) (fun _ _ _ h => h) (Or.inl ⟨by rfl, ?_⟩) hHeld ?_
                  rotate_left
                  · (intro w hSw; (try dsimp only at hSw); (first | (go_simp; done) | (go_simp; with_reducible rfl)))
                  try simp only [Act.put, List.setIfInBounds_toArray, List.set_cons_zero, List.set_cons_succ]
                  refine wpAnyH_take (i := 4) (oi := Oper.mk _ _ _ _ _ _) (v := ?_) rfl (by kernel_rfl) (by kernel_rfl) (by kernel_rfl) (fun _ _ _ h => h) (Or.inl ⟨by rfl, ?_⟩) hHeld ?_
                  rotate_left
                  · (intro w hSw; (try dsimp only at hSw); (first | (go_simp; done) | (go_simp; with_reducible rfl)))
                  try simp only [Act.put, List.setIfInBounds_toArray, List.set_cons_zero, List.set_cons_succ]
                  have kk6 : Keeps [] wr w6 := (Keeps.refl _ _).drew.trans k6
                  have hL6 := hL4.keep kk6 (by simp) (fun _ _ => by simp)
                  have hD6 := hD4.keep kk6 (by simp) (by simp)
                  have K6 := (hK5 (Keeps.refl _ _)).trans (kk6.sub (by simp))
                  have c1 := hL6.c1
                  have z1 := hL6.fz 1
                  have hX6 := Nat.lt_of_lt_of_le hXr kk6.size
                  obtain ⟨a', c', rfl⟩ : ∃ a c, v' = .slice a recs.length c := by
                    rcases hrow.form with ⟨e, e2⟩ | ⟨g, cap, e, _⟩
                    · exact ⟨none, 0, by rw [e, e2]; rfl⟩
                    · exact ⟨_, _, e⟩
                  have hfresh : ∀ g, Value.ownBlock (.slice a' recs.length c') = some g → wr.heap.size ≤ g := fun g hg => (World.ownsRow.lt hrow g hg).1
                  have hP7 : (w6.setCell ⟨P, 1, none⟩ (.slice a' recs.length c')).heap[P]? = some (.cells #[.pointer (some ⟨D, 0, none⟩), .slice a' recs.length c', .int .i64 sure, .bool false] 68 (0, 0)) := by rw [heap_setCell_same hL6.h]; rfl
                  have kP1 : Keeps [P] w6 (w6.setCell ⟨P, 1, none⟩ (.slice a' recs.length c')) := (Keeps.refl [P] w6).setCell (.inl (by simp)) _
                  have kP2 : Keeps [P] w6 ((w6.setCell ⟨P, 1, none⟩ (.slice a' recs.length c')).setCell ⟨P, 2, none⟩ (.int .i64 recs.length)) := kP1.setCell (.inl (by simp)) _
                  have row7 : StrRow ((w6.setCell ⟨P, 1, none⟩ (.slice a' recs.length c')).setCell ⟨P, 2, none⟩ (.int .i64 recs.length)) (P + 1) (.slice a' recs.length c') recs := (hrow.base (by show P + 1 ≤ wr.heap.size; omega)).keep kP2 (fun g hg => by have := hfresh g hg; simp; omega)
                  have c2 : (w6.setCell ⟨P, 1, none⟩ (.slice a' recs.length c')).cell? ⟨P, 2, none⟩ = some (.int .i64 sure) := (cell_of_heap hP7).trans rfl
                  have z2 : (w6.setCell ⟨P, 1, none⟩ (.slice a' recs.length c')).frozen? ⟨P, 2, none⟩ = false := frozen_of_heap hP7
                  have x7 : (w6.setCell ⟨P, 1, none⟩ (.slice a' recs.length c')).cell? ⟨X, 0, none⟩ = some (.pointer (some ⟨P, 0, none⟩)) := (kP1.cell hX6 (by simp; omega)).trans hHeld
                  refine wpAnyH_ready (rs := [5]) (by kernel_rfl) (by simp) ?_
                  refine AllReadyH.cons (o := Oper.mk _ _ _ _ _ _) rfl (fun K hK => ?_) AllReadyH.nil
                  go_simp
                  refine hK.out _ _ (x7) (fun hNew => ?_)
                  clear hHeld hK
                  have hHeld := hNew
                  clear hNew
                  try simp only [Act.put, List.setIfInBounds_toArray, List.set_cons_zero, List.set_cons_succ]
                  refine wpAnyH_done (by kernel_rfl) ?_ _
                  generalize hw7 : w6.setCell ⟨P, 1, none⟩ (.slice a' recs.length c') = w7 at *
                  clear hw7 c1 z1 hHeld x4
                  go_wp2_with fail
                  go_ret
                  rw [HR2.out, if_neg (by simpa using HQ.out), if_neg (by omega)]
                  exact ⟨rfl, _, ⟨by rw [heap_setCell_same hP7]; rfl, row7⟩, hD6.keep kP2 (by simp; omega) (by simp; omega), K6.trans (kP2.sub (by simp)), .inr (fun g hg => by have := hfresh g hg; omega)⟩
      · have hokB : okB recs = false := by
          cases h : okB recs with
          | false => rfl
          | true => exact absurd ((okB_iff recs).1 h) hno
        clear hno
        go_wp2
        go_ret
        rw [HR.out, if_neg hs3, if_pos (.inl hokB)]
        exact ⟨rfl, v, hL2.keep (S := []) ((Keeps.refl _ _).alloc _) (by simp) (fun _ _ => by simp), hD2.keep (S := []) ((Keeps.refl _ _).alloc _) (by simp) (by simp), (K2.alloc _).sub (by simp), .inl rfl⟩
end Go.Proofs.Ytkkbjkoikidjpaa
