/-
  CodecShort: its walk.
-/
import Derived.Test.YtkmpefgaoagjjaaCodecGood
namespace Go.Proofs.Ytkmpefgaoagjjaa
open Go.RowKit

theorem ne_nil_of' {s : ByteArray} (h : 0 < s.size) : ¬ s.toList = [] := by
  intro e
  have : s.size = 0 := by simpa [ByteArray.toList_eq] using congrArg List.length e
  omega

def ShortRel (w2 : World) (R : Nat) (g : List DPart) (i : Value) (wr : World) : Prop :=
  ∃ k : Nat, k ≤ g.length ∧ i = .int .i64 k ∧ ∃ st, WAt 61 wr R st ∧ ShortOf (textOf (g.drop k)) st ∧ Keeps [] w2 wr
def ShortCut (w2 : World) (R : Nat) (T : ByteArray) (wx : World) : Prop := ∃ st, WAt 61 wx R st ∧ ShortOf T st ∧ Keeps [] w2 wx

set_option maxRecDepth 100000 in
set_option maxHeartbeats 40000000 in
theorem codecShort_walk {w : World} (a : Option Addr) (cap : Nat) (l : List DPart) (hl : PartsAt w w.heap.size a l) (x : Int) (_hx : inI64 x) :
    Calls Try.prog 6 #[.slice a l.length cap, .int .i64 x] w fun e w' => e = .returned (.bool true) ∧ Below w.heap.size w w' := by
  obtain ⟨i0, hi, hz0, hz1, hz2⟩ := info_parts infoPart
  go_enter Try.func6, Try.ntmps6
  go_wp2_with fail
  refine (cut_c a cap l hl).mono ?_
  rintro e w1 ⟨a1, cap1, rfl, hp, K1⟩
  have hmlen : (cutL l).length ≤ 20 := by rw [length_cutL]; omega
  have hms := @cutL_small l
  generalize cutL l = m at *
  have hB1 : Below w.heap.size w w1 := K1.below (Nat.le_refl _) (by simp)
  have hw1 := K1.size
  clear K1
  go_wp2_with fail
  obtain ⟨w2, hw2⟩ : ∃ w2, w2 = (w1.alloc (.cells #[.string ⟨#[]⟩, .int .i64 0] 27)).alloc (.cells #[] 32) := ⟨_, rfl⟩
  rw [← hw2]
  have K2 : Keeps [] w1 w2 := by rw [hw2]; exact ((Keeps.refl _ _).alloc _).alloc _
  obtain ⟨W, hW⟩ : ∃ W, W = w1.heap.size := ⟨_, rfl⟩
  rw [← hW]
  have G0 : GoodRel w1 m W (.slice (some ⟨W + 1, 0, none⟩) 0 0) (.int .i64 0) w2 := by
    refine ⟨0, Nat.zero_le _, rfl, ?_, ⟨?_⟩, K2⟩
    · have h := World.ownsRow_made (base := W + 1) (e := 32) (size := 3) (w1.alloc (.cells #[.string ⟨#[]⟩, .int .i64 0] 27)) #[] 0 (by simp; omega) (by decide) rfl
      rw [← hw2] at h
      have e : (w1.alloc (.cells #[.string ⟨#[]⟩, .int .i64 0] 27)).heap.size = W + 1 := by simp; omega
      rw [e] at h
      exact h
    · rw [hw2, heap_alloc_old (by simp; omega)]; exact heap_alloc_at hW
  have hWw : w1.heap.size ≤ W := by omega
  clear hw2 hW K2
  have hms1 := hp.small
  go_loopw [6, 7] (fun v i wr => GoodRel w1 m W v i wr) (fun _ i _ => m.length - (intOf i).toNat)
  case atStart => exact G0
  case round =>
    clear G0
    obtain ⟨k, hk, rfl, hown, g1, hkp⟩ := hrel
    by_cases hlt : k < m.length
    · have hb := hkp.below (Nat.le_refl _) (by simp)
      obtain ⟨b, o, rfl, hbB, c0, c1, c2⟩ := (hp.below hb).cell k hlt
      have hps := hms _ (List.getElem_mem hlt)
      have hlen := good_le k m
      have hyes := fun h => Go.Lib.hid (good_yes hlt h)
      have hno := fun h => Go.Lib.hid (good_no hlt h)
      clear hb
      generalize m[k] = p at *
      have hsize := hkp.size
      have hWd := g1.lt
      have hbW : b ∉ [W] := by simp; omega
      have hz := @size_good k m hms hmlen
      have rp := fun w => right_p (w := w) p (by omega)
      cases hok : p.okB with
      | false =>
        have R := hno hok
        rw [hok] at rp
        clear hyes hno hok
        go_wp2_with fail
        refine (rp _).mono ?_
        rintro e w3 ⟨rfl, k3⟩
        go_wp2_with fail
        go_roundw
        case rel => exact ⟨k + 1, by omega, by go_num, by rw [R.out]; exact ownsRow_keep hown k3 (by simp), by rw [R.out]; exact g1.keep k3 (by simp), hkp.trans k3⟩
        case measure => simp [intOf]; omega
      | true =>
        have R := hyes hok
        have hok' := Go.Lib.hid hok
        rw [hok] at rp
        clear hyes hno hok
        go_wp2_with fail
        refine (rp _).mono ?_
        rintro e w3 ⟨rfl, k3⟩
        have d0 := (k3.cell (b := b) (o := o + k * 3) (by omega) (by simp)).trans c0
        have d1 := (k3.cell (b := b) (o := o + k * 3 + 1) (by omega) (by simp)).trans c1
        have d2 := (k3.cell (b := b) (o := o + k * 3 + 2) (by omega) (by simp)).trans c2
        have g3 := g1.keep k3 (by simp)
        have own3 := ownsRow_keep hown k3 (by simp)
        have K3 := hkp.trans k3
        have hs3 := k3.size
        clear c0 c1 c2 g1 hown k3 hkp rp
        go_wp2_with fail
        refine (put_p g3 p (Nat.le_trans hz (by decide)) (by omega)).mono ?_
        rintro e w4 ⟨rfl, g4, k4⟩
        rw [wPart_ok hok'.out] at g4
        have e0 := (k4.cell (b := b) (o := o + k * 3) (by omega) hbW).trans d0
        have e1 := (k4.cell (b := b) (o := o + k * 3 + 1) (by omega) hbW).trans d1
        have e2 := (k4.cell (b := b) (o := o + k * 3 + 2) (by omega) hbW).trans d2
        have own4 := ownsRow_keep own3 k4 (by simp)
        have K4 := K3.step k4 hWw
        have hs4 := k4.size
        clear d0 d1 d2 g3 own3 k4 K3
        generalize goodL (m.take k) = g at *
        go_wp2_with (at_builtin; refine wpList_append_own _ rfl (.tmp 33) (.tmp 38) 22 rfl (W + 1) 32 i0 _ 3 32 Try.underlying22 hi hz0 hz1 hz2 rfl (by decide) _ _ _ rfl (own4.alloc _) ⟨w4.heap.size, 0, none⟩ 1 1 [.int .i64 p.kind, .int .i64 p.n, .string p.s] rfl rfl ?c1 ?c2 ?c3 ?c4 ?c5 ?_)
        case c1 =>
          intro j u hj
          match j, hj with
          | 0, hj => simp at hj; subst hj; simp [Addr.add]
          | 1, hj => simp at hj; subst hj; simp [Addr.add]
          | 2, hj => simp at hj; subst hj; simp [Addr.add]
        case c2 => intro u hu; simp at hu; rcases hu with rfl | rfl | rfl <;> rfl
        case c3 => unfold maxLen; omega
        case c4 => omega
        case c5 => simp; omega
        · intro v' w5 hown' hgrow _
          have hrow := fun k (hk : _ = some k) => (own4.lt k hk).1
          have gA : WAt 27 (w4.alloc (.cells #[.int .i64 p.kind, .int .i64 p.n, .string p.s] 32)) W (textOf g ++ partB p, 0) := g4.keep (S := []) ((Keeps.refl _ _).alloc _) (by simp)
          have g5 := gA.grown hgrow (fun k hk => hrow k hk)
          have K5 : Keeps [] w1 w5 := (K4.alloc _).grown hgrow (fun k hk => by have := hrow k hk; omega) rfl
          rw [← textOf_snoc] at g5
          have own5 : w5.ownsRow (W + 1) 32 3 v' (g ++ [p]).length (cellsOf (g ++ [p])) := by rw [cellsOf_snoc, List.length_append]; exact hown'
          clear hown' hgrow hrow gA g4 own4 K4
          go_wp2
          go_roundw
          case rel => exact ⟨k + 1, by omega, by go_num, by rw [R.out]; exact own5, by rw [R.out]; exact g5, K5⟩
          case measure => simp [intOf]; omega
    · have G := goodAt_of hk hlt hown g1 hkp hmlen hms hp.rng
      clear hown g1
      have hB2 := hB1.trans (hkp.below (by omega) (by simp))
      clear hkp hB1 hms hp
      obtain ⟨wo, hwo⟩ : ∃ wo, wo = wr := ⟨_, rfl⟩
      subst hwo
      have hgs := size_textOf_le G.most
      have hgl := G.len
      have hg1 : (textOf (goodL m)).size ≤ 120000 := by omega
      obtain ⟨⟨a2, cap2, rfl, hq⟩, G2, G3, _, _⟩ := G
      generalize goodL m = g at *
      clear hgs
      have rt := text_w G2
      rw [show wText (textOf g, 0) = textOf g from rfl] at rt
      go_wp2_with fail
      refine rt.mono ?_
      rintro e w2 ⟨rfl, rfl⟩
      clear rt G2
      by_cases hz : (textOf g).size = 0
      · have hg0 : g.length = 0 := by
          by_cases h : g = []
          · rw [h]; rfl
          · have := size_textOf_pos G3 h; omega
        have n1 : (textOf g).toList = [] := by
          have := List.eq_nil_of_length_eq_zero (l := (textOf g).data.toList) (by simpa using hz)
          rw [ByteArray.toList_eq]; exact this
        have n2 : (textOf g).toList.isEmpty = true := by rw [n1]; rfl
        generalize g.length = n at *
        subst hg0
        clear hz
        go_wp2_with fail
        refine (fixed_c (w := wo)).mono ?_
        rintro e w7 ⟨rfl, k7⟩
        go_wp2
        go_ret
        exact ⟨rfl, hB2.trans (k7.below (by have := hB2.size; omega) (by simp))⟩
      · have n1 := ne_nil_of' (s := textOf g) (by omega)
        have n2 : (textOf g).toList.isEmpty = false := by simpa using n1
        obtain ⟨z, hzb, hz2⟩ := i64_and x 1048575 (by decide)
        generalize hT : textOf g = T at *
        have hT' := Go.Lib.hid hT
        clear hT
        have hzb' : bits BinOp.and IntKind.i64 x 1048575 = (z : Int) := hzb
        obtain ⟨c, hc, hclt⟩ : ∃ c : Nat, (z : Int).tmod (T.size : Int) = (c : Int) ∧ c < T.size := ⟨z % T.size, rfl, Nat.mod_lt _ (by omega)⟩
        clear hzb
        go_wp2_with fail
        refine (read_c _).mono ?_
        rintro e w3 ⟨rfl, h3, k3⟩
        obtain ⟨R, hR⟩ : ∃ R, R = wo.heap.size := ⟨_, rfl⟩
        rw [← hR] at h3 ⊢
        have hRw : wo.heap.size ≤ R := by omega
        clear hR
        have S0 : ShortOf (textOf (g.drop 0)) (T.extract 0 c, 0) := .inr ⟨c, by rw [List.drop_zero, hT'.out]; exact hclt, by rw [List.drop_zero, hT'.out]⟩
        clear hc hclt hzb' n1 n2 hz
        go_wp2_with fail
        go_loopw [10] (fun i wx => ShortRel wo R g i wx) (fun i _ => g.length - (intOf i).toNat)
        case atStart => exact ⟨0, by omega, rfl, _, h3, S0, k3⟩
        case round =>
          clear h3 k3 S0
          obtain ⟨k2, hk2, rfl, st, g2, hS, hkp2⟩ := hrel
          by_cases hlt2 : k2 < g.length
          · have hb2' := hkp2.below (Nat.le_refl _) (by simp)
            obtain ⟨b2, o2, rfl, hb2, d0, d1, d2⟩ := (hq.below hb2').cell k2 hlt2
            have hok := G3 _ (List.getElem_mem hlt2)
            rw [List.drop_eq_getElem_cons hlt2, textOf] at hS
            have hst := Go.Lib.hid (short_step hok hS)
            clear hb2' hS hok d1 d2
            generalize g[k2] = p at *
            obtain ⟨B, hB⟩ : ∃ B, Hid (B = textOf (g.drop (k2 + 1))) := ⟨_, rfl⟩
            rw [← hB.out] at hst
            by_cases q0 : p.kind = 0
            · have b0 : (p.kind == 0) = true := by simpa using q0
              have Q := Go.Lib.hid (go0 (m := 4096) (st := st) q0)
              clear q0
              go_wp2_with fail
              refine (byte_c g2).mono ?_
              rintro e w4 ⟨rfl, g4, k4⟩
              go_wp2_with fail
              go_roundw
              case rel => exact ⟨k2 + 1, by omega, by go_num, _, g4, by rw [← Q.out, ← hB.out]; exact hst.out, hkp2.step k4 hRw⟩
              case measure => simp [intOf]; omega
            have b0 : (p.kind == 0) = false := by simpa using q0
            by_cases q1 : p.kind = 1
            · have b1 : (p.kind == 1) = true := by simpa using q1
              have Q := Go.Lib.hid (go1 (m := 4096) (st := st) q1)
              clear q0 q1
              go_wp2_with fail
              refine (num_c g2).mono ?_
              rintro e w4 ⟨rfl, g4, k4⟩
              go_wp2_with fail
              go_roundw
              case rel => exact ⟨k2 + 1, by omega, by go_num, _, g4, by rw [← Q.out, ← hB.out]; exact hst.out, hkp2.step k4 hRw⟩
              case measure => simp [intOf]; omega
            have b1 : (p.kind == 1) = false := by simpa using q1
            by_cases q2 : p.kind = 2
            · have b2' : (p.kind == 2) = true := by simpa using q2
              have Q := Go.Lib.hid (go2 (m := 4096) (st := st) q2)
              clear q0 q1 q2
              go_wp2_with fail
              refine (blob_c g2 4096).mono ?_
              rintro e w4 ⟨rfl, g4, k4⟩
              go_wp2_with fail
              go_roundw
              case rel => exact ⟨k2 + 1, by omega, by go_num, _, g4, by rw [← Q.out, ← hB.out]; exact hst.out, hkp2.step k4 hRw⟩
              case measure => simp [intOf]; omega
            · have b2' : (p.kind == 2) = false := by simpa using q2
              have Q := Go.Lib.hid (go3 (m := 4096) (st := st) q0 q1 q2)
              clear q0 q1 q2
              go_wp2_with fail
              refine (hash_c g2).mono ?_
              rintro e w4 ⟨rfl, g4, k4⟩
              go_wp2_with fail
              go_roundw
              case rel => exact ⟨k2 + 1, by omega, by go_num, _, g4, by rw [← Q.out, ← hB.out]; exact hst.out, hkp2.step k4 hRw⟩
              case measure => simp [intOf]; omega
          · rw [List.drop_eq_nil_of_le (by omega), textOf] at hS
            have re := end_c g2
            rw [short_end hS] at re
            clear hS
            go_wp2_with fail
            refine re.mono ?_
            rintro e w6 ⟨rfl, k6⟩
            go_wp2_with fail
            refine (fixed_c (w := w6)).mono ?_
            rintro e w7 ⟨rfl, k7⟩
            go_wp2
            go_ret
            exact ⟨rfl, hB2.trans (((hkp2.trans k6).trans k7).below (by have := hB2.size; omega) (by simp))⟩
end Go.Proofs.Ytkmpefgaoagjjaa
