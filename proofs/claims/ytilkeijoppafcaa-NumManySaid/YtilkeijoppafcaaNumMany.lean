/-
  NumMany: its walk.
-/
import Derived.Test.YtilkeijoppafcaaNumFixed
import Derived.Test.YtilkeijoppafcaaNumRow
import Derived.Deep.DeepCutAuto
import Derived.Deep.CutBlock
namespace Go.Proofs.Ytilkeijoppafcaa
open Go.RowKit

theorem nums_cells {w : World} {p : Nat → Prop} {ad : Addr} {l : List Nat} (h : NumsAt w p (some ad) l) : ∀ j u, (l.map fun n => Value.int .u64 (n : Nat))[j]? = some u → w.cell? (ad.add j) = some u := by
  intro j u hj
  rw [List.getElem?_map] at hj
  obtain ⟨n, hn, rfl⟩ := Option.map_eq_some_iff.1 hj
  obtain ⟨hjl, rfl⟩ := List.getElem?_eq_some_iff.1 hn
  obtain ⟨b, o, e, _, hc⟩ := h.cell j hjl
  cases e
  have : (⟨b, o, none⟩ : Addr).add j = ⟨b, o + j, none⟩ := by
    unfold Addr.add; split
    · rename_i h0; subst h0; rfl
    · rfl
  rw [this]; exact hc
theorem nums_one (l : List Nat) : ∀ u ∈ l.map (fun n => Value.int .u64 (n : Nat)), u.oneCell' = true := by
  intro u hu; obtain ⟨n, _, rfl⟩ := List.mem_map.1 hu; rfl

def ManyRel (w0 : World) (g c2 : Nat) (m : List Nat) (i : Value) (wr : World) : Prop := ∃ k : Nat, k ≤ m.length ∧ i = .int .i64 k ∧ RowAt wr g c2 m ∧ Keeps [] w0 wr
def ManyCut (w0 : World) (g c2 : Nat) (m : List Nat) (x y : Value) (wr : World) : Prop := ∃ i j : Nat, i < m.length ∧ j < m.length ∧ x = .int .i64 i ∧ y = .int .i64 j ∧ RowAt wr g c2 m ∧ Keeps [] w0 wr

set_option maxRecDepth 100000 in
set_option maxHeartbeats 10000000 in
theorem numMany_walk {w : World} (a : Option Addr) (cap : Nat) (l : List Nat) (hl : NumsAt w (· < w.heap.size) a l) (hlc : l.length ≤ cap) (hcap : cap ≤ 9223372036854775807) (i : Int) (_hi : inI64 i) (k : Int) (_hk : inI64 k) :
    Calls Try.prog 7 #[.slice a l.length cap, .int .i64 i, .int .i64 k] w fun e w' => e = .returned (.bool true) ∧ Below w.heap.size w w' := by
  have hsm := hl.small
  obtain ⟨i0, hi0, hz0, hz1, hz2⟩ := info_parts infoU64
  go_enter Try.func7, Try.ntmps7
  go_upto_region 1 with fail
  go_cut [7] (fun v7 wx => ∃ g c2, v7 = .slice (some ⟨g, 0, none⟩) (l.take 40).length c2 ∧ w.heap.size ≤ g ∧ RowAt wx g c2 (l.take 40) ∧ c2 ≤ maxLen ∧ Keeps [] w wx)
  case first =>
    have hm := hl.take 40
    have hme : (l.take 40).length = min 40 l.length := by simp
    have own0 : (w.alloc (.cells #[] 23)).ownsRow w.heap.size 23 1 (.slice (some ⟨w.heap.size, 0, none⟩) 0 0) 0 [] := World.ownsRow_made _ _ _ (Nat.le_refl _) (by decide) rfl
    have fin : ∀ n, (l.take 40).length = n → ∀ v' w1, w1.ownsRow w.heap.size 23 1 v' n ((l.map fun n => Value.int .u64 (n : Nat)).take 40) → (w.alloc (.cells #[] 23)).grownBy w1 (some w.heap.size) →
        ¬ v' = .slice none 0 0 → ∃ g c2, v' = .slice (some ⟨g, 0, none⟩) (l.take 40).length c2 ∧ w.heap.size ≤ g ∧ RowAt w1 g c2 (l.take 40) ∧ c2 ≤ maxLen ∧ Keeps [] w w1 := by
      intro n hn v' w1 ho hg hv
      subst hn
      rw [← List.map_take] at ho
      obtain ⟨g, c2, e, hb, hr, hm2⟩ := rowAt_of_own ho hv
      refine ⟨g, c2, e, hb, hr, hm2, ?_⟩
      have K1 : Keeps [] w (w.alloc (.cells #[] 23)) := (Keeps.refl _ _).alloc _
      exact ⟨hg.os.trans K1.os, hg.tape.trans K1.tape, hg.output.trans K1.output, Nat.le_trans K1.size hg.size, fun j hj hn => (hg.block j (Nat.lt_of_lt_of_le hj K1.size) (fun e => by injection e with e; omega)).trans (K1.block j hj hn)⟩
    cases a with
    | none =>
      have h0 : l = [] := by
        cases l with
        | nil => rfl
        | cons x l => obtain ⟨b, o, e, _⟩ := hl.cell 0 (by simp); cases e
      subst h0
      go_wp2_with fail
      go_meet
      case rel => exact ⟨w.heap.size, 0, rfl, Nat.le_refl _, ⟨⟨#[], heap_alloc_same, rfl, rfl⟩, by simp⟩, by decide, (Keeps.refl _ _).alloc _⟩
    | some ad =>
      have hcells := nums_cells (hm.keep ((Keeps.refl [] w).alloc (.cells #[] 23)) (fun _ _ => by simp))
      have hone := nums_one (l.take 40)
      by_cases h : l.length ≤ 40
      · have E : Hid ((l.take 40).length = l.length) := by show _ = _; omega
        go_wp2_with (at_builtin; refine wpList_append_own _ rfl (.tmp 18) (.tmp 23) 22 rfl w.heap.size 23 i0 _ 1 8 Try.underlying22 hi0 hz0 hz1 hz2 rfl (by decide) _ _ _ rfl own0 ad l.length cap ((l.take 40).map fun n => Value.int .u64 (n : Nat)) rfl (by rw [List.length_map, Nat.mul_one]; exact E.out) hcells hone (by unfold maxLen; omega) (by omega) (by simp) ?_)
        intro v' w1 ho hg hv
        have F := fin _ E.out v' w1 ho hg hv
        clear ho hg hv fin
        obtain ⟨g, c2, rfl, f1, f2, f3, f4⟩ := F
        go_wp2
        go_meet
        case rel => exact ⟨g, c2, rfl, f1, f2, f3, f4⟩
      · have E : Hid ((l.take 40).length = 40) := by show _ = _; omega
        go_wp2_with (at_builtin; refine wpList_append_own _ rfl (.tmp 18) (.tmp 23) 22 rfl w.heap.size 23 i0 _ 1 8 Try.underlying22 hi0 hz0 hz1 hz2 rfl (by decide) _ _ _ rfl own0 ad 40 cap ((l.take 40).map fun n => Value.int .u64 (n : Nat)) rfl (by rw [List.length_map, Nat.mul_one]; exact E.out) hcells hone (by unfold maxLen; omega) (by omega) (by simp) ?_)
        intro v' w1 ho hg hv
        have F := fin _ E.out v' w1 ho hg hv
        clear ho hg hv fin
        obtain ⟨g, c2, rfl, f1, f2, f3, f4⟩ := F
        go_wp2
        go_meet
        case rel => exact ⟨g, c2, rfl, f1, f2, f3, f4⟩
  case rest =>
    obtain ⟨g, c2, rfl, hgw, hr, hc2, K1⟩ := hcut
    have hmb : ∀ i (h : i < (l.take 40).length), (l.take 40)[i] ≤ 18446744073709551615 := (hl.take 40).bound
    have hm40 : (l.take 40).length ≤ 40 := by simp; omega
    generalize l.take 40 = m at *
    have hmc := hr.le
    have hc2' : c2 ≤ 9223372036854775807 := Nat.le_trans hc2 (by decide)
    have hN := hr.nums hmb (by omega)
    have Z : ((nSum m).2 = 0 ∧ ∀ k, (nSum (m.take k)).2 = 0) ∨ (nSum m).2 = 2 := by
      unfold nSum
      by_cases h : m.sum < 18446744073709551616
      · left; refine ⟨by rw [if_pos h], fun k => ?_⟩
        rw [if_pos (by have := sum_take_le m k; omega)]
      · right; rw [if_neg h]
    have Y : m.length = 0 → (nSum m).1 = 0 ∧ (nSum m).2 = 0 := by
      intro h
      have : m = [] := List.eq_nil_of_length_eq_zero h
      subst this; exact ⟨rfl, rfl⟩
    have SW := nSum_swap m
    have sub : ∀ {w0 : World} (k : Nat), k ≤ m.length → RowAt w0 g c2 m → Calls Try.prog 10 #[.slice (some ⟨g, 0, none⟩) k c2] w0 fun e w' => e = .returned (.tuple #[.int .u64 (nSum (m.take k)).1, .int .i64 (nSum (m.take k)).2]) ∧ w0 = w' := by
      intro w0 k hk h
      have h2 := sum_c (some ⟨g, 0, none⟩) c2 (m.take k) ((h.nums hmb (by omega)).take k)
      rw [show (m.take k).length = k from by simp; omega] at h2
      exact h2
    have SM := sum_c (some ⟨g, 0, none⟩) c2 m hN
    generalize hx1 : (nSum m).1 = sx at *
    generalize hx2 : (nSum m).2 = se at *
    have HX1 := Go.Lib.hid hx1
    have HX2 := Go.Lib.hid hx2
    clear hx1 hx2
    go_wp2_with fail
    refine SM.mono ?_
    rintro e w' ⟨rfl, rfl⟩
    clear SM
    go_wp2_with fail
    go_loopw [10] (fun i wr => ManyRel w g c2 m i wr) (fun i _ => m.length - (intOf i).toNat)
    case atStart => exact ⟨0, by omega, rfl, hr, K1⟩
    case round =>
      clear hr K1 hN
      obtain ⟨q, hq, rfl, hr, K⟩ := hrel
      by_cases hlt : q < m.length
      · have T := fun w0 (h : RowAt w0 g c2 m) => sub (w0 := w0) q hq h
        have Zq : (se = 0 ∧ (nSum (m.take q)).2 = 0) ∨ se = 2 := by
          rcases Z with ⟨e, h⟩ | e
          · exact .inl ⟨e, h q⟩
          · exact .inr e
        generalize (nSum (m.take q)).1 = u at *
        generalize (nSum (m.take q)).2 = ue at *
        clear Z Y SW sub
        rcases Zq with ⟨rfl, rfl⟩ | rfl
        · go_wp2_with fail
          refine (T _ hr).mono ?_
          rintro e w' ⟨rfl, rfl⟩
          clear T
          go_wp2_with fail
          go_roundw
          case rel => exact ⟨q + 1, by omega, by go_num, hr, K⟩
          case measure => simp [intOf]; omega
        · go_wp2_with fail
          refine (T _ hr).mono ?_
          rintro e w' ⟨rfl, rfl⟩
          clear T
          go_wp2_with fail
          go_roundw
          case rel => exact ⟨q + 1, by omega, by go_num, hr, K⟩
          case measure => simp [intOf]; omega
      · clear Z sub
        by_cases h0 : m.length = 0
        · obtain ⟨rfl, rfl⟩ := Y h0
          obtain rfl : m = [] := List.eq_nil_of_length_eq_zero h0
          clear SW Y
          go_wp2_with fail
          refine (fixed_c (w := wr)).mono ?_
          rintro e w3 ⟨rfl, k3⟩
          go_wp2
          go_ret
          exact ⟨rfl, (K.trans k3).below (Nat.le_refl _) (by simp)⟩
        · clear Y
          have hn0 : ((m.length : Int) == 0) = false := by rw [beq_eq_false_iff_ne]; omega
          go_upto_region 11 with fail
          go_cut [13, 14] (fun x y wx => ManyCut w g c2 m x y wx)
          case first =>
            obtain ⟨z1, hb1, _⟩ := i64_and i 65535 (by decide)
            obtain ⟨z2, hb2, _⟩ := i64_and k 65535 (by decide)
            have hb1' : bits BinOp.and IntKind.i64 i 65535 = (z1 : Int) := hb1
            have hb2' : bits BinOp.and IntKind.i64 k 65535 = (z2 : Int) := hb2
            obtain ⟨x, hx, hxl⟩ : ∃ c : Nat, (z1 : Int).tmod (m.length : Int) = (c : Int) ∧ c < m.length := ⟨z1 % m.length, rfl, Nat.mod_lt _ (by omega)⟩
            obtain ⟨y, hy, hyl⟩ : ∃ c : Nat, (z2 : Int).tmod (m.length : Int) = (c : Int) ∧ c < m.length := ⟨z2 % m.length, rfl, Nat.mod_lt _ (by omega)⟩
            clear hb1 hb2
            go_region
            go_wp2_with fail
            go_meet
            case rel => exact ⟨x, y, hxl, hyl, rfl, rfl, hr.keep (S := []) ((Keeps.refl _ _).drew) (by simp), K.drew⟩
          case rest =>
            clear hr K
            obtain ⟨x, y, hx, hy, rfl, rfl, hr, K⟩ := hcut
            have cx := hr.cell x hx
            have cy := hr.cell y hy
            have fz := hr.fz
            have Sw := SW x y hx hy
            have hbx := hmb x hx
            have hby := hmb y hy
            have h1 := hr.set x m[y] hx
            have h2 := h1.set y m[x] (by simpa using hy)
            have fz2 := h1.fz y
            have cy2 := h1.cell y (by simpa using hy)
            rw [show (m.set x m[y])[y]'(by simpa using hy) = m[y] from by rw [List.getElem_set]; split <;> rfl] at cy2
            have Kf := (K.setCell (p := ⟨g, x, none⟩) (.inr hgw) (.int .u64 (m[y] : Nat))).setCell (p := ⟨g, y, none⟩) (.inr hgw) (.int .u64 (m[x] : Nat))
            have hb1 := set_bound hmb x m[y] hby
            have hb2 := set_bound hb1 y m[x] hbx
            have SS := sum_c (some ⟨g, 0, none⟩) c2 _ (h2.nums hb2 (by simp; omega))
            rw [Sw] at SS
            rw [HX1.out, HX2.out] at SS
            rw [show ((m.set x m[y]).set y m[x]).length = m.length from by simp] at SS
            clear SW Sw h1 h2 hb1 hb2 hmb
            generalize m[x] = mx at *
            generalize m[y] = my at *
            go_wp2_with fail
            refine SS.mono ?_
            rintro e w' ⟨rfl, rfl⟩
            go_wp2_with fail
            refine (fixed_c).mono ?_
            rintro e w3 ⟨rfl, k3⟩
            go_wp2
            go_ret
            exact ⟨rfl, (Kf.trans k3).below (Nat.le_refl _) (by simp)⟩
end Go.Proofs.Ytilkeijoppafcaa
