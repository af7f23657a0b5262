/-
  DiskFiles: its walk.
-/
import Derived.Test.YtniojglidlmehaaDiskOps
namespace Go.Proofs.Ytniojglidlmehaa
open Go.RowKit

/-- What holds at a round's head. -/
def FilesRel (w : World) (D L len : Nat) (i : Value) (wr : World) : Prop :=
  ∃ (k : Nat) (fs : List DFile), k ≤ len ∧ k ≤ 40 ∧ i = .int .i64 k ∧ fs.length = 3 ∧ DiskAt wr D L fs 10000 ∧ Keeps [L] w wr

/-- Behind a call on file q: no other file has turned. -/
def Others (wr wx : World) (D L q : Nat) (fs : List DFile) : Prop :=
  ∃ fs' : List DFile, fs'.length = fs.length ∧ DiskAt wx D L fs' 10000 ∧ Keeps [L] wr wx ∧ ∀ g : Nat, g ≠ q → dRead fs' g = dRead fs g

theorem dRead_set {fs : List DFile} {q g : Nat} {x : DFile} (h : g ≠ q) : dRead (fs.set q x) g = dRead fs g := by
  simp [dRead, fileAt, List.getElem?_set_ne (Ne.symm h)]
theorem others_append {fs : List DFile} {q g room : Nat} {s : ByteArray} (h : g ≠ q) : dRead (dAppend fs room q s).2 g = dRead fs g := by
  unfold dAppend; split
  · split
    · exact dRead_set h
    · rfl
  · rfl
theorem others_sync {fs : List DFile} {q g : Nat} (h : g ≠ q) : dRead (dSync fs q).2 g = dRead fs g := by
  unfold dSync; split
  · exact dRead_set h
  · rfl
theorem others_cut {fs : List DFile} {q g : Nat} {n : Int} (h : g ≠ q) : dRead (dCut fs q n).2 g = dRead fs g := by
  unfold dCut; split
  · exact dRead_set h
  · rfl

/-- All of a file is sure. -/
def Synced (fs : List DFile) (k : Nat) : Prop := (fileAt fs k).2 = (fileAt fs k).1.size
theorem fileAt_set {fs : List DFile} {i : Nat} {x : DFile} (k : Nat) (h : i < fs.length) : fileAt (fs.set i x) k = if i = k then x else fileAt fs k := by
  unfold fileAt
  by_cases e : i = k
  · subst e; simp [h]
  · simp [e, List.getElem?_set_ne e]
theorem sync_at {fs : List DFile} {i : Nat} (h : i < fs.length) : dSync fs i = (0, fs.set i ((fileAt fs i).1, (fileAt fs i).1.size)) := by
  simp [dSync, hasB_of_lt h]
theorem synced_sync {fs : List DFile} {i k : Nat} (h : i < fs.length) (hk : i = k ∨ Synced fs k) : Synced (dSync fs i).2 k := by
  rw [sync_at h]
  unfold Synced
  rw [fileAt_set k h]
  split
  · rfl
  · rename_i e; exact hk.resolve_left e
theorem swap_at {fs : List DFile} {i k : Nat} (hi : i < fs.length) (hk : k < fs.length) (h1 : Synced fs i) (h2 : Synced fs k) : dSwap fs i k = (0, swapped fs i k) := by
  unfold Synced at h1 h2
  simp [dSwap, hasB_of_lt hi, hasB_of_lt hk, h1, h2]
theorem swapped_l {fs : List DFile} {i k : Nat} (hi : i < fs.length) (hk : k < fs.length) : fileAt (swapped fs i k) i = fileAt fs k := by
  unfold swapped
  rw [fileAt_set i (by simpa using hk), fileAt_set i hi]
  by_cases e : k = i
  · subst e; simp
  · simp [e]
theorem swapped_r {fs : List DFile} {i k : Nat} (hk : k < fs.length) : fileAt (swapped fs i k) k = fileAt fs i := by
  unfold swapped
  rw [fileAt_set k (by simpa using hk)]
  simp
theorem read_of {fs : List DFile} {k : Nat} (h : k < fs.length) : dRead fs k = (fileAt fs k).1 := by simp [dRead, hasB_of_lt h]

section
variable {w : World} {D L : Nat} {fs : List DFile} (h : DiskAt w D L fs 10000) (x : Nat)
include h
theorem oth_append (s : ByteArray) : Calls Try.prog 10 #[.pointer (some ⟨D, 0, none⟩), .int .i64 x, .string s] w fun e w' => (∃ v, e = .returned v) ∧ Others w w' D L x fs := by
  refine (append_any h x s).mono ?_
  rintro e w' ⟨rfl, h1, h2⟩
  exact ⟨⟨_, rfl⟩, _, length_dAppend _ _ _ _, h1, h2, fun g hg => others_append hg⟩
theorem oth_sync : Calls Try.prog 12 #[.pointer (some ⟨D, 0, none⟩), .int .i64 x] w fun e w' => (∃ v, e = .returned v) ∧ Others w w' D L x fs := by
  refine (sync_any h x).mono ?_
  rintro e w' ⟨rfl, h1, h2⟩
  exact ⟨⟨_, rfl⟩, _, length_dSync _ _, h1, h2, fun g hg => others_sync hg⟩
theorem oth_cut (n : Int) : Calls Try.prog 13 #[.pointer (some ⟨D, 0, none⟩), .int .i64 x, .int .i64 n] w fun e w' => (∃ v, e = .returned v) ∧ Others w w' D L x fs := by
  refine (cut_any h x n).mono ?_
  rintro e w' ⟨rfl, h1, h2⟩
  exact ⟨⟨_, rfl⟩, _, length_dCut _ _ _, h1, h2, fun g hg => others_cut hg⟩
end

set_option maxRecDepth 100000 in
set_option maxHeartbeats 4000000 in
theorem diskFiles_walk (a : Option Addr) (cap : Nat) (l : List DOp) {w : World} (hops : DOpsAt w w.heap.size a l) (p : Nat) (hp : p ≤ 255) (q : Nat) (hq : q ≤ 255) :
    Calls Try.prog 4 #[.slice a l.length cap, .int .u8 p, .int .u8 q] w fun e w' => e = .returned (.bool true) ∧ Below w.heap.size w w' := by
  have hsm := hops.small
  go_enter Try.func4, Try.ntmps4
  go_wp2_with fail
  refine (new_ok 3 10000 (by decide)).mono ?_
  rintro e w1 ⟨D, L, rfl, h1, k1, hD, hL⟩
  go_wp2_with fail
  go_loopw [9] (fun i wr => FilesRel w D L l.length i wr) (fun i _ => l.length - (intOf i).toNat)
  case atStart => exact ⟨0, _, by omega, by omega, rfl, by simp, h1, k1.mono (by simp)⟩
  case round =>
    obtain ⟨k, fs, hk, hk40, rfl, hfs, g, hkp⟩ := hrel
    by_cases hin : k < l.length ∧ k < 40
    · obtain ⟨hlt, hlt40⟩ := hin
      have hb : Below w.heap.size w wr := hkp.below (Nat.le_refl _) (by simpa using hL)
      obtain ⟨b, o, rfl, hbB, c0, c1, c2, c3, c4⟩ := (hops.below hb).cell k hlt
      have hs63 := (hops.rng k hlt).2.2.2.1
      have G := Lib.hid g
      have HK := Lib.hid hkp
      have HB := Lib.hid hb
      have HF := Lib.hid hfs
      have HG := Lib.hid h1
      have HL := Lib.hid k1
      clear g hkp hb hfs h1 k1
      go_upto_region 8 with fail
      go_cut [11] (fun f wx => (∃ q : Nat, q < 3 ∧ f = .int .i64 q) ∧ wx = wr.alloc (.cells #[.int .i64 l[k].kind, .int .i64 l[k].f, .int .i64 l[k].n, .string l[k].s, .slice l[k].ka l[k].keep.length l[k].kcap] 29))
      case first =>
        obtain ⟨m, hm, hm1⟩ := i64_and l[k].f 255 (by decide)
        have hm' : bits .and .i64 l[k].f 255 = (m : Int) := by rw [← hm]; rfl
        go_wp2_with fail
        go_meet
        case rel => exact ⟨⟨m % 3, Nat.mod_lt _ (by decide), by simp⟩, rfl⟩
      case rest =>
        obtain ⟨⟨x, hx, rfl⟩, rfl⟩ := hcut
        clear c0 c1 c2 c3 c4
        have g0 := G.out.keep ((Keeps.refl [] wr).alloc (.cells #[.int .i64 l[k].kind, .int .i64 l[k].f, .int .i64 l[k].n, .string l[k].s, .slice l[k].ka l[k].keep.length l[k].kcap] 29)) (by simp) (by simp)
        go_wp2_with fail
        refine (read_any g0 _).mono ?_
        rintro e w' ⟨rfl, rfl⟩
        go_wp2_with fail
        refine (read_any g0 _).mono ?_
        rintro e w' ⟨rfl, rfl⟩
        go_upto_block 2 with fail
        obtain ⟨wa, hwa⟩ : ∃ wa, wa = wr.alloc (.cells #[.int .i64 l[k].kind, .int .i64 l[k].f, .int .i64 l[k].n, .string l[k].s, .slice l[k].ka l[k].keep.length l[k].kcap] 29) := ⟨_, rfl⟩
        have KA : Keeps [] wr wa := by rw [hwa]; exact (Keeps.refl _ _).alloc _
        have HO : wa.heap[wr.heap.size]? = some (.cells #[.int .i64 l[k].kind, .int .i64 l[k].f, .int .i64 l[k].n, .string l[k].s, .slice l[k].ka l[k].keep.length l[k].kcap] 29) := by rw [hwa]; exact heap_alloc_same
        rw [← hwa] at g0 ⊢
        have c1 := cell_of_heap (o := 1) HO
        have c2 := cell_of_heap (o := 2) HO
        have c3 := cell_of_heap (o := 3) HO
        simp at c1 c2 c3
        have HKA := Lib.hid KA
        clear HO hwa KA
        go_cut [] (fun wx => Others wa wx D L x fs)
        case first =>
          go_wp2_with (first
            | (go_at_call 10; refine (oth_append g0 _ _).mono ?_; rintro e w' ⟨⟨v, rfl⟩, ho⟩)
            | (go_at_call 12; refine (oth_sync g0 _).mono ?_; rintro e w' ⟨⟨v, rfl⟩, ho⟩)
            | (go_at_call 13; refine (oth_cut g0 _ _).mono ?_; rintro e w' ⟨⟨v, rfl⟩, ho⟩))
          all_goals go_meet
          case rel => exact ho
          case rel => exact ho
          case rel => exact ho
          case rel => exact ho
          case rel => exact ⟨_, rfl, g0, Keeps.refl _ _, fun _ _ => rfl⟩
        case rest =>
          obtain ⟨fs', hl', g', k', hoth⟩ := hcut
          clear c1 c2 c3
          have HL' := Lib.hid hl'
          have O := Lib.hid hoth
          have e1 : dRead fs' (((x : Int) + 1) % 3) = dRead fs (((x : Int) + 1) % 3) := hoth ((x + 1) % 3) (by omega)
          have e2 : dRead fs' (((x : Int) + 2) % 3) = dRead fs (((x : Int) + 2) % 3) := hoth ((x + 2) % 3) (by omega)
          have E1 := Lib.hid e1
          have E2 := Lib.hid e2
          clear hl' hoth e1 e2
          go_wp2_with fail
          refine (read_lit g' _ _ E1.out).mono ?_
          rintro e w' ⟨rfl, rfl⟩
          go_wp2_with fail
          refine (read_lit g' _ _ E2.out).mono ?_
          rintro e w' ⟨rfl, rfl⟩
          go_wp2_with fail
          go_roundw
          case rel => exact ⟨k + 1, fs', by omega, by omega, by go_num, by rw [HL'.out, HF.out], g', (HK.out.trans (HKA.out.mono (by simp))).trans k'⟩
          case measure => simp [intOf]; omega
    · have hend : ¬ k < l.length ∨ (k < l.length ∧ ¬ k < 40) := by omega
      obtain ⟨P, hP⟩ : ∃ P, P = p % 3 := ⟨_, rfl⟩
      obtain ⟨Q, hQ⟩ : ∃ Q, Q = q % 3 := ⟨_, rfl⟩
      have eP : (p : Int) % 3 = P := by omega
      have eQ : (q : Int) % 3 = Q := by omega
      have hP3 : P < fs.length := by omega
      have hQ3 : Q < fs.length := by omega
      obtain ⟨f1, hf1⟩ : ∃ f1, f1 = (dSync fs P).2 := ⟨_, rfl⟩
      obtain ⟨f2, hf2⟩ : ∃ f2, f2 = (dSync f1 Q).2 := ⟨_, rfl⟩
      have l1 : f1.length = fs.length := by rw [hf1, length_dSync]
      have l2 : f2.length = fs.length := by rw [hf2, length_dSync, l1]
      have sP : Synced f2 P := by rw [hf2]; refine synced_sync (by omega) (.inr ?_); rw [hf1]; exact synced_sync hP3 (.inl rfl)
      have sQ : Synced f2 Q := by rw [hf2]; exact synced_sync (by omega) (.inl rfl)
      have W1 := Lib.hid (swap_at (by omega) (by omega) sP sQ : dSwap f2 P Q = (0, swapped f2 P Q))
      have r1 := swapped_l (fs := f2) (i := P) (k := Q) (by omega) (by omega)
      have r2 := swapped_r (fs := f2) (i := P) (k := Q) (by omega)
      obtain ⟨f3, hf3⟩ : ∃ f3, f3 = swapped f2 P Q := ⟨_, rfl⟩
      have l3 : f3.length = fs.length := by rw [hf3, length_swapped, l2]
      rw [← hf3] at W1 r1 r2
      have W2 := Lib.hid (swap_at (by omega) (by omega) (by unfold Synced; rw [r2]; exact sP) (by unfold Synced; rw [r1]; exact sQ) : dSwap f3 Q P = (0, swapped f3 Q P))
      have t1 := swapped_l (fs := f3) (i := Q) (k := P) (by omega) (by omega)
      have t2 := swapped_r (fs := f3) (i := Q) (k := P) (by omega)
      obtain ⟨f4, hf4⟩ : ∃ f4, f4 = swapped f3 Q P := ⟨_, rfl⟩
      have l4 : f4.length = fs.length := by rw [hf4, length_swapped, l3]
      rw [← hf4] at W2 t1 t2
      have R1 := Lib.hid (show dRead f3 P = dRead f2 Q by rw [read_of (by omega), read_of (by omega), r1])
      have R2 := Lib.hid (show dRead f3 Q = dRead f2 P by rw [read_of (by omega), read_of (by omega), r2])
      have R3 := Lib.hid (show dRead f4 P = dRead f2 P by rw [read_of (by omega), read_of (by omega), t2, r2])
      have R4 := Lib.hid (show dRead f4 Q = dRead f2 Q by rw [read_of (by omega), read_of (by omega), t1, r1])
      have S1 := Lib.hid (show dSync fs P = (0, f1) by rw [hf1, sync_at hP3])
      have S2 := Lib.hid (show dSync f1 Q = (0, f2) by rw [hf2, sync_at (by omega)])
      have EP := Lib.hid eP
      have EQ := Lib.hid eQ
      clear hin hfs hP hQ eP eQ hP3 hQ3 hf1 hf2 hf3 hf4 l1 l2 l3 l4 sP sQ r1 r2 t1 t2
      rcases hend with hx | ⟨hx, hy⟩
      all_goals
        go_upto_region 20 with fail
        rw [EP.out, EQ.out]
        go_wp2_with fail
        refine (sync_lit g P _ _ S1.out).mono ?_
        rintro e w2 ⟨rfl, g2, k2⟩
        go_wp2_with fail
        refine (sync_lit g2 Q _ _ S2.out).mono ?_
        rintro e w3 ⟨rfl, g3, k3⟩
        go_wp2_with fail
        refine (read_any g3 _).mono ?_
        rintro e w' ⟨rfl, rfl⟩
        go_wp2_with fail
        refine (read_any g3 _).mono ?_
        rintro e w' ⟨rfl, rfl⟩
        go_wp2_with fail
        refine (swap_lit g3 P Q _ _ W1.out).mono ?_
        rintro e w4 ⟨rfl, g4, k4⟩
        go_wp2_with fail
        refine (read_lit g4 P _ R1.out).mono ?_
        rintro e w' ⟨rfl, rfl⟩
        go_wp2_with fail
        refine (read_lit g4 Q _ R2.out).mono ?_
        rintro e w' ⟨rfl, rfl⟩
        go_wp2_with fail
        refine (swap_lit g4 Q P _ _ W2.out).mono ?_
        rintro e w5 ⟨rfl, g5, k5⟩
        go_wp2_with fail
        refine (read_lit g5 P _ R3.out).mono ?_
        rintro e w' ⟨rfl, rfl⟩
        go_wp2_with fail
        refine (read_lit g5 Q _ R4.out).mono ?_
        rintro e w' ⟨rfl, rfl⟩
        go_wp2_with fail
        refine (fixed_any _).mono ?_
        rintro e w6 ⟨rfl, k6⟩
        go_wp2_with fail
        go_ret
        exact ⟨rfl, (((((hkp.trans k2).trans k3).trans k4).trans k5).trans (k6.mono (by simp))).below (Nat.le_refl _) (by simpa using hL)⟩
end Go.Proofs.Ytniojglidlmehaa
