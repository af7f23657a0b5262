/-
  WalOrder: its walk.
-/
import Derived.Test.YtkkbjkoikidjpaaWalStart
namespace Go.Proofs.Ytkkbjkoikidjpaa
open Go.RowKit

/-- What holds at a round's head. -/
def OrdRel (w : World) (P D L len : Nat) (v9 v10 : Value) (wr : World) : Prop :=
  ∃ (k : Nat) (v : Value) (ins : List ByteArray) (a b : DFile), k ≤ len ∧ k ≤ 20 ∧ v10 = .int .i64 k ∧ LogAt wr P D v ins 0 false ∧ DiskAt wr D L [a, b] 1048576 ∧ LogOk ins 0 a b ∧
    a.1.size ≤ 4106 * k ∧ ins.length ≤ k ∧ StrRow wr (P + 1) v9 ins ∧ Apart v v9 ∧ Keeps [] w wr

set_option maxRecDepth 100000 in
set_option maxHeartbeats 20000000 in
theorem walOrder_walk (a : Option Addr) (cap : Nat) (l : List ByteArray) {w : World} (hl : StrsAt w w.heap.size a l)
    (ka : Option Addr) (kcap : Nat) (keep : List Int) (hkeep : IntsAt w (· < w.heap.size) ka keep) (hkc : keep.length ≤ kcap) (hkm : kcap ≤ 9223372036854775807) :
    Calls Try.prog 4 #[.slice a l.length cap, .slice ka keep.length kcap] w fun e w' => e = .returned (.bool true) ∧ Below w.heap.size w w' := by
  have hsm := hl.small
  have NC := fun w => new2_c (w := w) 1048576 (by decide)
  have OC := fun w D L (h : DiskAt w D L [eF, eF] 1048576) => open0_c h
  go_enter Try.func4, Try.ntmps4
  go_wp2_with fail
  refine (NC _).mono ?_
  rintro e w1 ⟨D, L, rfl, hD1, k1, hDw, hLw⟩
  go_wp2_with fail
  refine (OC _ _ _ hD1).mono ?_
  rintro e w2 ⟨P, v, rfl, hPw, hL2, hD2, k2⟩
  have hlD := hD1.ltD
  have hlL := hD1.ltL
  have hDP : D < P := by omega
  have hLP : L < P := by omega
  have hs1 := k1.size
  have hPw2 : w.heap.size ≤ P := by omega
  have K2 : Keeps [] w w2 := k1.new k2 (by simp; omega)
  clear hD1 k1 k2 NC OC hs1 hPw
  have own0 : StrRow (w2.alloc (.cells #[] 9)) (P + 1) (.slice (some ⟨w2.heap.size, 0, none⟩) 0 0) [] := World.ownsRow_made _ _ _ (by have := hL2.lt; omega) (by decide) rfl
  go_wp2_with fail
  go_loopw [9, 10] (fun v9 v10 wr => OrdRel w P D L l.length v9 v10 wr) (fun _ v10 _ => l.length - (intOf v10).toNat)
  case atStart =>
    refine ⟨0, v, [], eF, eF, Nat.zero_le _, Nat.zero_le _, rfl, hL2.keep ((Keeps.refl [] _).alloc _) (by simp) (fun _ _ => by simp), hD2.keep ((Keeps.refl [] _).alloc _) (by simp) (by simp), logOk0, Nat.le_refl _, Nat.le_refl _, own0, ?_, K2.alloc _⟩
    intro g hg hx
    have := (hL2.own g hg).2
    have e : w2.heap.size = g := by simpa [Value.ownBlock] using hx
    omega
  case round =>
    clear own0 K2 hL2 hD2 v
    obtain ⟨k, v, ins, fa, fb, hk, hk20, rfl, hL, hD, ok, hfs, hil, hrow, hap, K⟩ := hrel
    by_cases hin : k < l.length ∧ k < 20
    · obtain ⟨hlt, hlt20⟩ := hin
      have hb : Below w.heap.size w wr := K.below (Nat.le_refl _) (by simp)
      obtain ⟨b, o, rfl, hbB, c0⟩ := (hl.below hb).cell k hlt
      have hsz := hl.rng _ (List.getElem_mem hlt)
      generalize l[k] = s at *
      go_upto_region 11 with fail
      go_cut [11] (fun v11 wx => v11 = .string (cutS 300 s) ∧ Keeps [] wr wx)
      case first =>
        clear hL hD ok hfs hil hrow hap K hl hkeep hb
        by_cases h3 : s.size ≤ 300
        · have E1 := Go.Lib.hid (cutS_small h3)
          go_region
          go_wp2_with fail
          go_meet
          case rel => exact ⟨ret_string_eq E1.out, (Keeps.refl _ _).drew⟩
        · have E1 := Go.Lib.hid (cutS_big h3)
          have h3' : 300 < s.size := by omega
          go_region
          go_wp2_with fail
          go_meet
          case rel => exact ⟨ret_string_eq E1.out, (Keeps.refl _ _).drew⟩
      case rest =>
        obtain ⟨rfl, K3⟩ := hcut
        have hc3 : (cutS 300 s).size ≤ 300 := by rw [size_cutS]; omega
        have hcn := cut_none (s := s)
        generalize cutS 300 s = c at *
        have hL3 := hL.keep K3 (by simp) (fun _ _ => by simp)
        have hD3 := hD.keep K3 (by simp) (by simp)
        have hrow3 := hrow.keep K3 (fun _ _ => by simp)
        have K4 := K.trans K3
        have hown := hL3.own
        have hP3 := hL3.lt
        have hv9 := World.ownsRow.lt hrow3
        have A := append_l hL3 hD3 hDP hLP c (by omega) (by omega)
        have kS : ∀ x ∈ P :: L :: v.ownBlock.toList, x < P + 1 ∨ v.ownBlock = some x := by
          intro x hx
          simp at hx
          rcases hx with rfl | rfl | hx
          · exact .inl (by omega)
          · exact .inl (by omega)
          · exact .inr hx
        have kW : ∀ x ∈ P :: L :: v.ownBlock.toList, w.heap.size ≤ x := by
          intro x hx
          simp at hx
          rcases hx with rfl | rfl | hx
          · exact hPw2
          · omega
          · have := hown x hx; omega
        clear hL hD hrow K K3 hkeep hb c0 hl
        rcases ok.append 1048576 c with ⟨hno, e1⟩ | ⟨_, hbig, _⟩ | ⟨hok, _, e1, ok5⟩
        · have ec := hcn hno
          subst ec
          rw [e1] at A
          dsimp only at A
          clear e1 hcn hno
          have HOK := Go.Lib.hid ok
          clear ok
          go_wp2_with fail
          refine A.mono ?_
          rintro e w5 ⟨rfl, v5, hL5, hD5, k5, hor⟩
          have hrow5 := hrow3.keepNot k5 kS hap
          have hap5 := hap.after hor (fun g hg => (hv9 g hg).2)
          have K5 := K4.new k5 kW
          clear A hL3 hD3 hrow3 K4 k5 hor kS kW hap hown hv9
          go_wp2_with fail
          go_roundw
          case rel => exact ⟨k + 1, v5, ins, fa, fb, by omega, by omega, by go_num, hL5, hD5, HOK.out, by omega, by omega, hrow5, hap5, K5⟩
          case measure => simp [intOf]; omega
        · have := frame_small c
          omega
        · rw [e1] at A
          dsimp only at A
          have hcz : ¬ c.size = 0 := by have := hok.1; omega
          have e3 := str_ne hcz
          have hfc := frame_small c
          have hfs5 : (fa.1 ++ wFrame c, fa.2).1.size ≤ 4106 * (k + 1) := by show (fa.1 ++ wFrame c).size ≤ _; rw [ByteArray.size_append]; omega
          have HOK := Go.Lib.hid ok5
          have HFS := Go.Lib.hid hfs5
          generalize (fa.1 ++ wFrame c, fa.2) = fa5 at *
          clear e1 hcn hok ok ok5 hfs5 hfc hcz
          go_wp2_with fail
          refine A.mono ?_
          rintro e w5 ⟨rfl, v5, hL5, hD5, k5, hor⟩
          have hrow5 := hrow3.keepNot k5 kS hap
          have hap5 := hap.after hor (fun g hg => (hv9 g hg).2)
          have K5 := K4.new k5 kW
          have hv95 := World.ownsRow.lt hrow5
          have hP5 := hL5.lt
          have hrowA : StrRow (w5.alloc (.cells #[.string c] 9)) (P + 1) _ ins := hrow5.keep ((Keeps.refl [] w5).alloc _) (fun _ _ => by simp)
          clear A hL3 hD3 hrow3 K4 k5 hor kS kW hap hown hv9 hrow5
          go_wp2_with (at_builtin; refine wpList_append_str rfl (.tmp 68) (.tmp 70) rfl (P + 1) _ ins rfl hrowA ⟨w5.heap.size, 0, none⟩ c rfl ?c1 ?c2 ?c3 ?_)
          case c1 => simp
          case c2 => omega
          case c3 => simp; omega
          intro g cap6 w6 hg hw hor6
          have K6 : Keeps [] w w6 := ((K5.alloc _).grown hw (fun q hq => by have := hv95 q hq; omega))
          have k6 : Keeps (Value.ownBlock _).toList w5 w6 := ((Keeps.refl _ _).alloc _).trans (Keeps.ofGrown hw)
          have hn6 : ∀ x ∈ (Value.ownBlock _).toList, P < x := fun x hx => by have := hv95 x (by simpa using hx); omega
          have hL6 := hL5.keep k6 (fun hm => by have := hn6 P hm; omega) (fun q hq hm => hap5 q hq (by simpa using hm))
          have hD6 := hD5.keep k6 (fun hm => by have := hn6 D hm; omega) (fun hm => by have := hn6 L hm; omega)
          have hown5 := hL5.own
          have hap6 : Apart v5 (.slice (some ⟨g, 0, none⟩) (ins.length + 1) cap6) := by
            intro q hq hu
            have e : g = q := by simpa [Value.ownBlock] using hu
            have := hown5 q hq
            rcases hor6 with h | h
            · exact hap5 q hq (by rw [h, e])
            · first | omega | (simp at h; omega)
          clear hv95 hrowA hw hor6 hL5 hD5 k6 hn6 hown5 hap5 K5
          go_wp2_with fail
          go_roundw
          case rel => exact ⟨k + 1, v5, ins ++ [c], fa5, fb, by omega, by omega, by go_num, hL6, hD6, HOK.out, HFS.out, by simp; omega, by simpa using hg, hap6, K6⟩
          case measure => simp [intOf]; omega
    · have hend : ¬ k < l.length ∨ (k < l.length ∧ ¬ k < 20) := by omega
      clear hin
      obtain ⟨a9, c9, rfl⟩ := row_len hrow.rowOf
      obtain ⟨e1, ok1⟩ := ok.sync 0
      have HOK := Go.Lib.hid ok1
      have hP := hL.lt
      have hv9 := World.ownsRow.lt hrow
      have hown := hL.own
      clear ok ok1 hap
      rcases hend with hx | ⟨hx, hy⟩
      all_goals
        go_wp2_with fail
        refine (records_l hL (by omega)).mono ?_
        rintro e w3 ⟨u3, rfl, hu3, k3⟩
        have hL3 := hL.keep k3 (by simp) (fun _ _ => by simp)
        have hD3 := hD.keep k3 (by simp) (by simp)
        have hrow3 := hrow.keep k3 (fun _ _ => by simp)
        have K3 := K.trans k3
        have S3 := same_c hu3.rowOf hrow3.rowOf (by omega)
        rw [decide_eq_true rfl] at S3
        clear hL hD hrow K k3 hu3
        go_wp2_with fail
        refine S3.mono ?_
        rintro e w4 ⟨rfl, k4⟩
        have hL4 := hL3.keep k4 (by simp) (fun _ _ => by simp)
        have hD4 := hD3.keep k4 (by simp) (by simp)
        have hrow4 := hrow3.keep k4 (fun _ _ => by simp)
        have K4 := K3.trans k4
        have S5 := lsync_c hL4 hD4 hDP hLP
        rw [e1] at S5
        dsimp only at S5
        clear hL3 hD3 hrow3 K3 k4 S3 e1
        go_wp2_with fail
        refine S5.mono ?_
        rintro e w5 ⟨rfl, hL5, hD5, k5⟩
        have hrow5 := hrow4.keep k5 (fun g hg => by have := hv9 g hg; simp; omega)
        have K5 := K4.new k5 (by intro x hx; simp at hx; omega)
        clear S5 hL4 hD4 hrow4 K4 k5
        go_wp2_with fail
        refine (sure_l hL5).mono ?_
        rintro e w' ⟨rfl, rfl⟩
        go_upto_region 19 with fail
        go_cut [5] (fun v5 wx => v5 = .pointer (some ⟨D, 0, none⟩) ∧ ∃ kk, DiskAt wx D L (dCrash [(fa.1, fa.1.size), fb] kk) 1048576 ∧ Keeps [L] w5 wx)
        case first =>
          have hkp := hkeep.below (K5.below (Nat.le_refl _) (by simp)) (fun _ h => h)
          by_cases h9 : keep.length ≤ 9
          · have C := crash_any hD5 ka kcap keep hkp (by omega)
            go_wp2_with fail
            refine C.mono ?_
            rintro e w6 ⟨rfl, hD6, k6⟩
            go_wp2_with fail
            go_meet
            case rel => exact ⟨rfl, _, hD6, k6⟩
          · have C := crash_any hD5 ka kcap (keep.take 9) (hkp.take 9) (by omega)
            rw [List.length_take, Nat.min_eq_left (by omega)] at C
            go_wp2_with fail
            refine C.mono ?_
            rintro e w6 ⟨rfl, hD6, k6⟩
            go_wp2_with fail
            go_meet
            case rel => exact ⟨rfl, _, hD6, k6⟩
        case rest =>
          obtain ⟨rfl, kk, hD6, k6⟩ := hcut
          have hrow6 := hrow5.keep k6 (fun g hg => by have := hv9 g hg; simp; omega)
          have K6 := K5.new k6 (by intro x hx; simp at hx; omega)
          obtain ⟨k', hk1, hk2, hk3, ho1, a', b', ho2, ok7⟩ := HOK.out.crash kk
          obtain rfl : k' = ins.length := by omega
          rw [List.take_length] at ho1
          have OC := open_ok hD6 (by rw [two_crash, two_sync1])
          rw [ho1, ho2] at OC
          clear ho1 ho2 ok7 hk1 hk2 hk3 k6 K5 hL5 hD5 hrow5 HOK
          go_wp2_with fail
          refine OC.mono ?_
          rintro e w7 ⟨P7, v7, rfl, hP7, hL7, hD7, k7⟩
          have hrow7 := hrow6.keep k7 (fun g hg => by have := hv9 g hg; simp; omega)
          have K7 := K6.new k7 (by intro x hx; simp at hx; omega)
          clear OC hD6 hrow6 K6 k7
          go_wp2_with fail
          refine (records_l hL7 (by omega)).mono ?_
          rintro e w8 ⟨u8, rfl, hu8, k8⟩
          have hrow8 := hrow7.keep k8 (fun _ _ => by simp)
          have K8 := K7.trans k8
          have S8 := same_c hu8.rowOf hrow8.rowOf (by omega)
          rw [decide_eq_true rfl] at S8
          clear hrow7 K7 k8 hu8 hL7 hD7
          go_wp2_with fail
          refine S8.mono ?_
          rintro e w9 ⟨rfl, k9⟩
          go_wp2_with fail
          refine (fixed_c (w := w9)).mono ?_
          rintro e w10 ⟨rfl, k10⟩
          go_wp2
          go_ret
          exact ⟨rfl, ((K8.trans k9).trans k10).below (Nat.le_refl _) (by simp)⟩
end Go.Proofs.Ytkkbjkoikidjpaa
