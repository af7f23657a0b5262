/-
  WalAnew: its walk.
-/
import Derived.Test.YtkkbjkoikidjpaaWalStart
namespace Go.Proofs.Ytkkbjkoikidjpaa
open Go.RowKit

theorem append_any_l {w : World} {P D L : Nat} {v : Value} {l : List ByteArray} {sure room : Nat} {a b : DFile} (hL : LogAt w P D v l sure false) (hD : DiskAt w D L [a, b] room) (hDP : D < P) (hLP : L < P) (ok : LogOk l sure a b) (s : ByteArray) (hs : s.size ≤ 1048576) (hl : l.length ≤ 900) :
    Calls Try.prog 11 #[.pointer (some ⟨P, 0, none⟩), .string s] w fun e w' => ∃ (n : Int) (v' : Value) (l' : List ByteArray) (a' : DFile), e = .returned (.int .i64 n) ∧ LogAt w' P D v' l' sure false ∧ DiskAt w' D L [a', b] room ∧ LogOk l' sure a' b ∧
      a'.1.size ≤ a.1.size + 4106 ∧ l'.length ≤ l.length + 1 ∧ Keeps (P :: L :: v.ownBlock.toList) w w' ∧ (v'.ownBlock = v.ownBlock ∨ ∃ g, v'.ownBlock = some g ∧ w.heap.size ≤ g) := by
  refine (append_l hL hD hDP hLP s hs (by omega)).mono ?_
  rintro e w' ⟨rfl, v', h1, h2, h3, h4⟩
  have hf := frame_small s
  rcases ok.append room s with ⟨_, e1⟩ | ⟨_, _, e1⟩ | ⟨_, _, e1, ok2⟩
  · rw [e1] at h1 h2 ⊢; exact ⟨_, v', _, a, rfl, h1, h2, ok, by omega, by show l.length ≤ _; omega, h3, h4⟩
  · rw [e1] at h1 h2 ⊢; exact ⟨_, v', _, a, rfl, h1, h2, ok, by omega, by show l.length ≤ _; omega, h3, h4⟩
  · rw [e1] at h1 h2 ⊢; exact ⟨_, v', _, _, rfl, h1, h2, ok2, by show (a.1 ++ wFrame s).size ≤ _; rw [ByteArray.size_append]; omega, by simp, h3, h4⟩

theorem StrRow.snoc_form {w : World} {base : Nat} {v : Value} {l : List ByteArray} {s : ByteArray} (h : StrRow w base v (l ++ [s])) :
    ∃ g cap, v = .slice (some ⟨g, 0, none⟩) (l.length + 1) cap ∧ g < w.heap.size ∧ l.length + 1 ≤ cap ∧ w.cell? ⟨g, l.length, none⟩ = some (.string s) ∧ RowOf w (.slice (some ⟨g, 0, none⟩) l.length cap) l := by
  rcases h.form with ⟨_, h0⟩ | ⟨g, cap, rfl, _, hg, hl, _⟩
  · simp at h0
  · have e : (l ++ [s]).length = l.length + 1 := by simp
    have hc : ∀ i (hi : i < (l ++ [s]).length), w.cell? ⟨g, i, none⟩ = some (.string (l ++ [s])[i]) := fun i hi => h.cell hi
    refine ⟨g, cap, by rw [e], hg, by omega, by rw [hc l.length (by omega)]; simp, .inr ⟨g, 0, cap, rfl, hg, fun i hi => ?_⟩⟩
    rw [Nat.zero_add, hc i (by omega), List.getElem_append_left hi]
/-- What holds at a round's head of the first loop. -/
def AnewRel (w : World) (P D L len : Nat) (v11 : Value) (wr : World) : Prop :=
  ∃ (k : Nat) (v : Value) (recs : List ByteArray) (a : DFile), k ≤ len ∧ k ≤ 12 ∧ v11 = .int .i64 k ∧ LogAt wr P D v recs (0 : Nat) false ∧ DiskAt wr D L [a, eF] 1048576 ∧ LogOk recs 0 a eF ∧
    a.1.size ≤ 4106 * k ∧ recs.length ≤ k ∧ Keeps [] w wr
/-- What holds behind it. -/
def AnewMid (w : World) (P D L : Nat) (wr : World) : Prop :=
  ∃ (v : Value) (recs : List ByteArray) (a : DFile), LogAt wr P D v recs (0 : Nat) false ∧ DiskAt wr D L [a, eF] 1048576 ∧ LogOk recs 0 a eF ∧ a.1.size ≤ 49272 ∧ recs.length ≤ 12 ∧ Keeps [] w wr
def badB (l : List ByteArray) : Bool := l.any fun x => x.size == 0
theorem all_snoc {l : List ByteArray} {c : ByteArray} {n : Nat} (h : ∀ x ∈ l, x.size ≤ n) (hc : c.size ≤ n) : ∀ x ∈ l ++ [c], x.size ≤ n := by
  intro x hx
  rcases List.mem_append.1 hx with hx | hx
  · exact h x hx
  · simp at hx; rw [hx]; exact hc
/-- What holds at a round's head of the second loop. -/
def AnewRel2 (w0 : World) (len : Nat) (v12 v13 v14 : Value) (wr : World) : Prop :=
  ∃ (k : Nat) (ins : List ByteArray), k ≤ len ∧ k ≤ 12 ∧ v14 = .int .i64 k ∧ v13 = .bool (badB ins) ∧ StrRow wr w0.heap.size v12 ins ∧ ins.length = k ∧ (∀ x ∈ ins, x.size ≤ 300) ∧ Keeps [] w0 wr
/-- What holds behind it. -/
def AnewMid2 (w0 : World) (v12 v13 : Value) (wr : World) : Prop :=
  ∃ (ins : List ByteArray), v13 = .bool (badB ins) ∧ StrRow wr w0.heap.size v12 ins ∧ ins.length ≤ 12 ∧ (∀ x ∈ ins, x.size ≤ 300) ∧ Keeps [] w0 wr

set_option maxRecDepth 100000 in
set_option maxHeartbeats 40000000 in
theorem walAnew_walk (aa : Option Addr) (ca : Nat) (la : List ByteArray) {w : World} (hla : StrsAt w w.heap.size aa la) (ab : Option Addr) (cb : Nat) (lb : List ByteArray) (hlb : StrsAt w w.heap.size ab lb)
    (ka : Option Addr) (kcap : Nat) (keep : List Int) (hkeep : IntsAt w (· < w.heap.size) ka keep) (hkc : keep.length ≤ kcap) (hkm : kcap ≤ 9223372036854775807) :
    Calls Try.prog 5 #[.slice aa la.length ca, .slice ab lb.length cb, .slice ka keep.length kcap] w fun e w' => e = .returned (.bool true) ∧ Below w.heap.size w w' := by
  have hsa := hla.small
  have hsb := hlb.small
  have NC := fun w => new2_c (w := w) 1048576 (by decide)
  have OC := fun w D L (h : DiskAt w D L [eF, eF] 1048576) => open0_c h
  go_enter Try.func5, Try.ntmps5
  go_wp2_with fail
  refine (NC _).mono ?_
  rintro e w1 ⟨D, L, rfl, hD1, k1, hDw, hLw⟩
  go_wp2_with fail
  refine (OC _ _ _ hD1).mono ?_
  rintro e w2 ⟨P, v, rfl, hPw, hL2, hD2, k2⟩
  have hlD := hD1.ltD
  have hlL := hD1.ltL
  have hDP : D < P := by omega
  have hLP : L < P := by omega
  have hs1 := k1.size
  have hPw2 : w.heap.size ≤ P := by omega
  have K2 : Keeps [] w w2 := k1.new k2 (by simp; omega)
  clear hD1 k1 k2 NC OC hs1 hPw
  have HLB := Go.Lib.hid hlb
  have HK := Go.Lib.hid hkeep
  clear hlb hkeep
  go_upto_block 0 with fail
  go_cut [] (fun wx => AnewMid w P D L wx)
  case first =>
    go_wp2_with fail
    go_loopw [11] (fun v11 wr => AnewRel w P D L la.length v11 wr) (fun v11 _ => la.length - (intOf v11).toNat)
    case atStart => exact ⟨0, v, [], eF, Nat.zero_le _, Nat.zero_le _, rfl, hL2, hD2, logOk0, Nat.le_refl _, Nat.le_refl _, K2⟩
    case round =>
      clear K2 hL2 hD2 v
      obtain ⟨k, v, recs, fa, hk, hk12, rfl, hL, hD, ok, hfs, hil, K⟩ := hrel
      by_cases hin : k < la.length ∧ k < 12
      · obtain ⟨hlt, hlt12⟩ := hin
        have hb : Below w.heap.size w wr := K.below (Nat.le_refl _) (by simp)
        obtain ⟨b, o, rfl, hbB, c0⟩ := (hla.below hb).cell k hlt
        have hsz := hla.rng _ (List.getElem_mem hlt)
        generalize la[k] = s at *
        have hown := hL.own
        have kW : ∀ x ∈ P :: L :: v.ownBlock.toList, w.heap.size ≤ x := by
          intro x hx
          simp at hx
          rcases hx with rfl | rfl | hx
          · exact hPw2
          · omega
          · have := hown x hx; omega
        have AC := fun s h => append_any_l (hL.keep (S := []) (Keeps.refl _ _).drew (by simp) (fun _ _ => by simp)) (hD.keep (S := []) (Keeps.refl _ _).drew (by simp) (by simp)) hDP hLP ok s h (by omega)
        clear hL hD ok hla hb hown
        go_upto_region 10 with fail
        by_cases h3 : s.size ≤ 300
        · have A := AC s (by omega)
          have q1 : ((300 : Int) < (s.size : Int)) = False := by simp; omega
          go_still_tail 12, (by kernel_rfl)
          change wpList _ _ _ _ _ wr.drew
          go_wp2_with fail
          refine A.mono ?_
          rintro e w5 ⟨n, v5, l5, a5, rfl, hL5, hD5, ok5, hf5, hl5, k5, _⟩
          have K5 := K.drew.new k5 kW
          have HOK := Go.Lib.hid ok5
          clear A AC K k5 kW ok5
          go_wp2_with fail
          go_roundw
          case rel => exact ⟨k + 1, v5, l5, a5, by omega, by omega, by go_num, hL5, hD5, HOK.out, by omega, by omega, K5⟩
          case measure => simp [intOf]; omega
        · have q1 : ((300 : Int) < (s.size : Int)) = True := by simp; omega
          have q2 : ((300 : Int) ≤ (s.size : Int)) = True := by simp; omega
          have A := AC (s.extract 0 300) (by rw [ByteArray.size_extract]; omega)
          go_still_tail 12, (by kernel_rfl)
          change wpList _ _ _ _ _ wr.drew
          go_wp2_with fail
          refine A.mono ?_
          rintro e w5 ⟨n, v5, l5, a5, rfl, hL5, hD5, ok5, hf5, hl5, k5, _⟩
          have K5 := K.drew.new k5 kW
          have HOK := Go.Lib.hid ok5
          clear A AC K k5 kW ok5
          go_wp2_with fail
          go_roundw
          case rel => exact ⟨k + 1, v5, l5, a5, by omega, by omega, by go_num, hL5, hD5, HOK.out, by omega, by omega, K5⟩
          case measure => simp [intOf]; omega
      · have hend : ¬ k < la.length ∨ (k < la.length ∧ ¬ k < 12) := by omega
        have HOK := Go.Lib.hid ok
        clear hin ok
        rcases hend with hx | ⟨hx, hy⟩
        all_goals
          go_wp2_with fail
          go_meet
          case rel => exact ⟨v, recs, fa, hL, hD, HOK.out, by omega, by omega, K⟩
  case rest =>
    obtain ⟨v, recs, fa, hL, hD, ok, hfa, hrl, K⟩ := hcut
    clear hL2 hD2 K2
    have HOK := Go.Lib.hid ok
    clear ok
    have own0 : StrRow (wc.alloc (.cells #[] 9)) wc.heap.size (.slice (some ⟨wc.heap.size, 0, none⟩) 0 0) [] := World.ownsRow_made _ _ _ (Nat.le_refl _) (by decide) rfl
    have hlb := HLB.out
    clear HLB
    go_upto_block 2 with fail
    go_cut [12, 13] (fun v12 v13 wx => AnewMid2 wc v12 v13 wx)
    case first =>
      go_wp2_with fail
      go_loopw [12, 13, 14] (fun v12 v13 v14 wr => AnewRel2 wc lb.length v12 v13 v14 wr) (fun _ _ v14 _ => lb.length - (intOf v14).toNat)
      case atStart => exact ⟨0, [], Nat.zero_le _, Nat.zero_le _, rfl, rfl, own0, rfl, (fun x hx => by simp at hx), (Keeps.refl _ _).alloc _⟩
      case round =>
        obtain ⟨k, ins, hk, hk12, rfl, rfl, hrow, hil, hall, K3⟩ := hrel
        clear own0
        by_cases hin : k < lb.length ∧ k < 12
        · obtain ⟨hlt, hlt12⟩ := hin
          have hb : Below w.heap.size w wr := (K.trans K3).below (Nat.le_refl _) (by simp)
          obtain ⟨b, o, rfl, hbB, c0⟩ := (hlb.below hb).cell k hlt
          have hsz := hlb.rng _ (List.getElem_mem hlt)
          generalize lb[k] = s at *
          have HIL := Go.Lib.hid hil
          have HALL := Go.Lib.hid hall
          have hsz3 := K3.size
          have hsz0 := K.size
          have hrl2 : ins.length ≤ 12 := by omega
          clear hL hD hlb hb hil hall
          go_upto_region 15 with fail
          by_cases h3 : s.size ≤ 300
          · have E15 := Go.Lib.hid h3
            have q1 : ((300 : Int) < (s.size : Int)) = False := by simp; omega
            have hrowA := fun (w' : World) (k : Keeps [] wr w') => hrow.keep k (fun _ _ => by simp)
            have hv12 := World.ownsRow.lt hrow
            clear hrow
            go_region_held3 (fun w' => w'.cell? ⟨b, o + k, none⟩ = some (.string s)) (first | go_keep | ((rw [hw.cell_far _ (by simp; omega) (fun e => by have := hv12 b e.symm; omega)]; assumption)))
              ((refine step_append_str (by rfl) _ _ (by rfl) wc.heap.size _ ins (by rfl) (hrowA _ ((Keeps.refl [] wr).drew.alloc _)) ⟨wr.heap.size, 0, none⟩ (s) (by rfl) (by simp) (by omega) (by simp; omega) ?_; intro g cap6 w6 hg hw hor6))
            have K6 : Keeps [] wc w6 := ((K3.drew.alloc _).grown hw (fun q hq => by have := hv12 q hq; omega))
            have hc6 := hg.cell (i := ins.length) (by simp)
            rw [show (ins ++ [s])[ins.length]'(by simp) = s from by simp, HIL.out] at hc6
            have hk6 : k < ins.length + 1 := by have := HIL.out; omega
            have hg6 : StrRow w6 wc.heap.size (.slice (some ⟨g, 0, none⟩) (ins.length + 1) cap6) (ins ++ [s]) := hg
            clear hrowA hv12 hw hor6 K3 hg
            cases hbad : badB ins with
            | true =>
              have hb2 : badB (ins ++ [s]) = true := by unfold badB at *; rw [List.any_append, hbad]; rfl
              have HB := Go.Lib.hid hb2
              clear hb2 hbad
              go_wp2_with fail
              go_roundw
              case rel => exact ⟨k + 1, ins ++ [s], by omega, by omega, by go_num, by rw [HB.out], by simpa using hg6, by simp; exact HIL.out, all_snoc HALL.out E15.out, K6⟩
              case measure => simp [intOf]; omega
            | false =>
              by_cases hz : (s).size = 0
              · have hb2 : badB (ins ++ [s]) = true := by unfold badB at *; rw [List.any_append, hbad]; simp [hz]
                have HB := Go.Lib.hid hb2
                have ee := str_empty hz
                have ee2 : Value.string (s) = .string ⟨#[]⟩ := by rw [ee]
                rw [ee2] at hc6
                clear hb2 hbad ee ee2 hz
                go_wp2_with fail
                go_roundw
                case rel => exact ⟨k + 1, ins ++ [s], by omega, by omega, by go_num, by rw [HB.out], by simpa using hg6, by simp; exact HIL.out, all_snoc HALL.out E15.out, K6⟩
                case measure => simp [intOf]; omega
              · have hb2 : badB (ins ++ [s]) = false := by unfold badB at *; rw [List.any_append, hbad]; simp; exact fun h => hz (by rw [h]; rfl)
                have HB := Go.Lib.hid hb2
                have e3 := str_ne hz
                clear hb2 hbad hz
                go_wp2_with fail
                go_roundw
                case rel => exact ⟨k + 1, ins ++ [s], by omega, by omega, by go_num, by rw [HB.out], by simpa using hg6, by simp; exact HIL.out, all_snoc HALL.out E15.out, K6⟩
                case measure => simp [intOf]; omega
          · have E15 : Hid ((s.extract 0 300).size ≤ 300) := by show _ ≤ _; rw [ByteArray.size_extract]; omega
            have q1 : ((300 : Int) < (s.size : Int)) = True := by simp; omega
            have q2 : ((300 : Int) ≤ (s.size : Int)) = True := by simp; omega
            have hrowA := fun (w' : World) (k : Keeps [] wr w') => hrow.keep k (fun _ _ => by simp)
            have hv12 := World.ownsRow.lt hrow
            clear hrow
            go_region_held3 (fun w' => w'.cell? ⟨b, o + k, none⟩ = some (.string s)) (first | go_keep | ((rw [hw.cell_far _ (by simp; omega) (fun e => by have := hv12 b e.symm; omega)]; assumption)))
              ((refine step_append_str (by rfl) _ _ (by rfl) wc.heap.size _ ins (by rfl) (hrowA _ ((Keeps.refl [] wr).drew.alloc _)) ⟨wr.heap.size, 0, none⟩ (s.extract 0 300) (by rfl) (by simp) (by omega) (by simp; omega) ?_; intro g cap6 w6 hg hw hor6))
            have K6 : Keeps [] wc w6 := ((K3.drew.alloc _).grown hw (fun q hq => by have := hv12 q hq; omega))
            have hc6 := hg.cell (i := ins.length) (by simp)
            rw [show (ins ++ [s.extract 0 300])[ins.length]'(by simp) = s.extract 0 300 from by simp, HIL.out] at hc6
            have hk6 : k < ins.length + 1 := by have := HIL.out; omega
            have hg6 : StrRow w6 wc.heap.size (.slice (some ⟨g, 0, none⟩) (ins.length + 1) cap6) (ins ++ [s.extract 0 300]) := hg
            clear hrowA hv12 hw hor6 K3 hg
            cases hbad : badB ins with
            | true =>
              have hb2 : badB (ins ++ [s.extract 0 300]) = true := by unfold badB at *; rw [List.any_append, hbad]; rfl
              have HB := Go.Lib.hid hb2
              clear hb2 hbad
              go_wp2_with fail
              go_roundw
              case rel => exact ⟨k + 1, ins ++ [s.extract 0 300], by omega, by omega, by go_num, by rw [HB.out], by simpa using hg6, by simp; exact HIL.out, all_snoc HALL.out E15.out, K6⟩
              case measure => simp [intOf]; omega
            | false =>
              by_cases hz : (s.extract 0 300).size = 0
              · have hb2 : badB (ins ++ [s.extract 0 300]) = true := by unfold badB at *; rw [List.any_append, hbad]; simp [hz]
                have HB := Go.Lib.hid hb2
                have ee := str_empty hz
                have ee2 : Value.string (s.extract 0 300) = .string ⟨#[]⟩ := by rw [ee]
                rw [ee2] at hc6
                clear hb2 hbad ee ee2 hz
                go_wp2_with fail
                go_roundw
                case rel => exact ⟨k + 1, ins ++ [s.extract 0 300], by omega, by omega, by go_num, by rw [HB.out], by simpa using hg6, by simp; exact HIL.out, all_snoc HALL.out E15.out, K6⟩
                case measure => simp [intOf]; omega
              · have hb2 : badB (ins ++ [s.extract 0 300]) = false := by unfold badB at *; rw [List.any_append, hbad]; simp; exact fun h => hz (by rw [h]; rfl)
                have HB := Go.Lib.hid hb2
                have e3 := str_ne hz
                clear hb2 hbad hz
                go_wp2_with fail
                go_roundw
                case rel => exact ⟨k + 1, ins ++ [s.extract 0 300], by omega, by omega, by go_num, by rw [HB.out], by simpa using hg6, by simp; exact HIL.out, all_snoc HALL.out E15.out, K6⟩
                case measure => simp [intOf]; omega
        · have hend : ¬ k < lb.length ∨ (k < lb.length ∧ ¬ k < 12) := by omega
          have HALL := Go.Lib.hid hall
          clear hin hall
          rcases hend with hx | ⟨hx, hy⟩
          all_goals
            go_wp2_with fail
            go_meet
            case rel => exact ⟨ins, rfl, hrow, by omega, HALL.out, K3⟩
    case rest =>
      obtain ⟨ins, rfl, hrow, hil, hall, K3⟩ := hcut
      have hL3 := hL.keep K3 (by simp) (fun _ _ => by simp)
      have hD3 := hD.keep K3 (by simp) (by simp)
      have K4 := K.trans K3
      have HALL := Go.Lib.hid hall
      have hP3 := hL.lt
      have hvo := hL.own
      have hsz3 := K3.size
      have hv12 := World.ownsRow.lt hrow
      obtain ⟨a12, c12, rfl⟩ := row_len hrow.rowOf
      clear hL hD own0 hlb K K3 hall
      go_wp2_with fail
      refine (records_l hL3 (by omega)).mono ?_
      rintro e w4 ⟨u4, rfl, hu4, k4⟩
      have hL4 := hL3.keep k4 (by simp) (fun _ _ => by simp)
      have hD4 := hD3.keep k4 (by simp) (by simp)
      have hrow4 := hrow.keep k4 (fun _ _ => by simp)
      have K5 := K4.trans k4
      have hu4l := World.ownsRow.lt hu4
      have hs4 := k4.size
      obtain ⟨e1, ok5⟩ := HOK.out.sync (0 : Nat)
      have S5 := lsync_c hL4 hD4 hDP hLP
      rw [e1] at S5
      dsimp only at S5
      have HOK5 := Go.Lib.hid ok5
      clear hL3 hD3 hrow K4 k4 e1 ok5 HOK
      go_wp2_with fail
      refine S5.mono ?_
      rintro e w5 ⟨rfl, hL5, hD5, k5⟩
      have hrow5 := hrow4.keep k5 (fun g hg => by have := hv12 g hg; simp; omega)
      have hu5 := hu4.keep k5 (fun g hg => by have := hu4l g hg; simp; omega)
      have K6 := K5.new k5 (by intro x hx; simp at hx; omega)
      have hvA : ∀ g, v.ownBlock = some g → ¬ (Value.slice a12 ins.length c12).ownBlock = some g := fun g hg hg2 => by have h1 := hv12 g hg2; have h2 := hvo g hg; omega
      have k5s := k5.size
      clear S5 hL4 hD4 hrow4 K5 hu4 k5
      have hro : ∀ b o c k, (Value.slice a12 ins.length c12) = .slice (some ⟨b, o, none⟩) c k → b ≠ P ∧ b ≠ L := by
        intro b o c k e
        have := hv12 b (by rw [e]; rfl)
        omega
      have RC := rewrite_c hL5 hD5 hDP hLP hrow5.rowOf (by omega) (fun x hx => by have := HALL.out x hx; omega) hro 4 ⟨by decide, by decide⟩
      have hP5 := hL5.lt
      clear hro
      cases hbad : badB ins with
      | true =>
        have hno : okB ins = false := by
          cases hk : okB ins with
          | false => rfl
          | true =>
            obtain ⟨x, hx, hz⟩ := List.any_eq_true.1 hbad
            have h1 := ((recOk_iff x).2 ((okB_iff ins).1 hk x hx)).1
            have h2 : x.size = 0 := by
              have : (x.size == 0) = true := hz
              exact eq_of_beq this
            omega
        rw [show lRewrite [(fa.1, fa.1.size), eF] 1048576 recs recs.length false ins 4 = (1, [(fa.1, fa.1.size), eF], recs, (recs.length : Int), false) from by
          unfold lRewrite; rw [if_neg (by simp), if_pos (.inl hno)]] at RC
        dsimp only at RC
        clear hno hbad hL5 hD5 hrow5
        go_wp2_with fail
        refine RC.mono ?_
        rintro e w6 ⟨rfl, v6, hL6, hD6, k6, _⟩
        have hu6 := hu5.keep k6 (fun g hg => by have := hu4l g hg; simp; omega)
        have K7 := K6.new k6 (by intro x hx; simp at hx; omega)
        clear RC hu5 K6 k6
        go_wp2_with fail
        refine (records_l hL6 (by omega)).mono ?_
        rintro e w7 ⟨u7, rfl, hu7, k7⟩
        have S7 := same_c hu7.rowOf (hu6.keep k7 (fun _ _ => by simp)).rowOf (by omega)
        rw [decide_eq_true rfl] at S7
        have K8 := K7.trans k7
        clear hu6 K7 k7 hu7
        go_wp2_with fail
        refine S7.mono ?_
        rintro e w8 ⟨rfl, k8⟩
        go_wp2_with fail
        refine (fixed_c (w := w8)).mono ?_
        rintro e w9 ⟨rfl, k9⟩
        go_wp2
        go_ret
        exact ⟨rfl, ((K8.trans k8).trans k9).below (Nat.le_refl _) (by simp)⟩
      | false =>
        have hrec : ∀ x ∈ ins, RecOk x := by
          intro x hx
          have h1 := HALL.out x hx
          have h2 : ¬ x.size = 0 := by
            intro h0
            have : badB ins = true := List.any_eq_true.2 ⟨x, hx, by simpa using h0⟩
            rw [hbad] at this; cases this
          exact ⟨by omega, by omega⟩
        have hcz : (catF ins).size ≤ 49272 := by rw [catF_size]; have := framesSize_le ins; omega
        obtain ⟨e6, ok6⟩ := HOK5.out.anew 1048576 4 (by decide) hrec (by show (catF ins).size ≤ 1048576 - fa.1.size; omega)
        rw [e6] at RC
        dsimp only at RC
        have HREC := Go.Lib.hid hrec
        have HOK6 := Go.Lib.hid ok6
        clear e6 ok6 hrec hbad hL5 hD5
        go_wp2_with fail
        refine RC.mono ?_
        rintro e w6 ⟨rfl, v6, hL6, hD6, k6, hv6⟩
        have hrow6 := hrow5.keep k6 (fun g hg => by have := hv12 g hg; simp; omega)
        have K7 := K6.new k6 (by intro x hx; simp at hx; omega)
        have hown6 : ∀ g, v6.ownBlock = some g → ¬ (Value.slice a12 ins.length c12).ownBlock = some g := by
          intro g hg hg2
          have h1 := hv12 g hg2
          rcases hv6 with rfl | h
          · exact hvA g hg hg2
          · have := h g hg; omega
        have hP6 := hL6.lt
        have hb6 := hL6.own
        have hsz6 := k6.size
        have hsz5 := k5s
        have mz : RecOk ⟨#[109, 111, 114, 101]⟩ := ⟨by decide, by decide⟩
        have A6 := append_l hL6 hD6 hDP hLP ⟨#[109, 111, 114, 101]⟩ (by decide) (by omega)
        have hfm := frame_small ⟨#[109, 111, 114, 101]⟩
        rcases HOK6.out.append 1048576 ⟨#[109, 111, 114, 101]⟩ with ⟨h, _⟩ | ⟨_, h, _⟩ | ⟨_, _, e7, ok7⟩
        · exact absurd mz h
        · have h' : 1048576 - (catF ins).size < (wFrame ⟨#[109, 111, 114, 101]⟩).size := h
          omega
        rw [e7] at A6
        dsimp only at A6 ok7
        have HOK7 := Go.Lib.hid ok7
        clear RC hrow5 K6 k6 hv6 e7 ok7 mz hfm
        generalize wFrame ⟨#[109, 111, 114, 101]⟩ = fm at *
        generalize catF ins = cf at *
        go_wp2_with fail
        refine A6.mono ?_
        rintro e w7 ⟨rfl, v7, hL7, hD7, k7, _⟩
        have hrow7 := hrow6.keep k7 (fun g hg hm => by
          have h1 := hv12 g hg
          simp at hm
          rcases hm with rfl | rfl | hm
          · omega
          · omega
          · exact hown6 g hm hg)
        have K8 := K7.new k7 (by
          intro x hx
          simp at hx
          rcases hx with rfl | rfl | hx
          · omega
          · omega
          · have := hb6 x hx; omega)
        clear A6 hL6 hD6 hrow6 K7 k7 hown6 hb6
        have hkeep := HK.out
        go_upto_region 24 with fail
        go_cut [7] (fun v7 wx => v7 = .pointer (some ⟨D, 0, none⟩) ∧ ∃ kk, DiskAt wx D L (dCrash [(cf ++ fm, cf.size), eF] kk) 1048576 ∧ Keeps [L] w7 wx)
        case first =>
          have hkp := hkeep.below (K8.below (Nat.le_refl _) (by simp)) (fun _ h => h)
          by_cases h9 : keep.length ≤ 3
          · have C := crash_any hD7 ka kcap keep hkp (by omega)
            go_wp2_with fail
            refine C.mono ?_
            rintro e w8 ⟨rfl, hD8, k8⟩
            go_wp2_with fail
            go_meet
            case rel => exact ⟨rfl, _, hD8, k8⟩
          · have C := crash_any hD7 ka kcap (keep.take 3) (hkp.take 3) (by omega)
            rw [List.length_take, Nat.min_eq_left (by omega)] at C
            go_wp2_with fail
            refine C.mono ?_
            rintro e w8 ⟨rfl, hD8, k8⟩
            go_wp2_with fail
            go_meet
            case rel => exact ⟨rfl, _, hD8, k8⟩
        case rest =>
          obtain ⟨rfl, kk, hD8, k8⟩ := hcut
          have hrow8 := hrow7.keep k8 (fun g hg => by have := hv12 g hg; simp; omega)
          have K9 := K8.new k8 (by intro x hx; simp at hx; omega)
          obtain ⟨k', hk1, hk2, _, ho1, a', b', ho2, _⟩ := HOK7.out.crash kk
          have OC := open_ok hD8 (by rw [two_crash, two_sync1])
          rw [ho1, ho2] at OC
          have hkl : k' = ins.length ∨ k' = ins.length + 1 := by simp at hk2; omega
          clear ho1 ho2 hk1 hk2 k8 hD7 hrow7 K8 hL7 hD8
          rcases hkl with rfl | rfl
          · rw [List.take_append_of_le_length (Nat.le_refl _), List.take_length] at OC
            go_wp2_with fail
            refine OC.mono ?_
            rintro e w9 ⟨P9, v9, rfl, hP9, hL9, hD9, k9⟩
            have hrow9 := hrow8.keep k9 (fun g hg => by have := hv12 g hg; simp; omega)
            have K10 := K9.new k9 (by intro x hx; simp at hx; omega)
            clear OC hrow8 K9 k9
            go_wp2_with fail
            refine (records_l hL9 (by omega)).mono ?_
            rintro e w10 ⟨u10, rfl, hu10, k10⟩
            have S10 := same_c hu10.rowOf (hrow9.keep k10 (fun _ _ => by simp)).rowOf (by omega)
            rw [decide_eq_true rfl] at S10
            have K11 := K10.trans k10
            clear hrow9 K10 k10 hL9 hD9 hu10
            go_wp2_with fail
            refine S10.mono ?_
            rintro e w11 ⟨rfl, k11⟩
            go_wp2_with fail
            refine (fixed_c (w := w11)).mono ?_
            rintro e w12 ⟨rfl, k12⟩
            go_wp2
            go_ret
            exact ⟨rfl, ((K11.trans k11).trans k12).below (Nat.le_refl _) (by simp)⟩
          · rw [List.take_of_length_le (by simp)] at OC
            have hne : ¬ ins ++ [(⟨#[109, 111, 114, 101]⟩ : ByteArray)] = ins := by
              intro h
              have := congrArg List.length h
              simp at this
            go_wp2_with fail
            refine OC.mono ?_
            rintro e w9 ⟨P9, v9, rfl, hP9, hL9, hD9, k9⟩
            have hrow9 := hrow8.keep k9 (fun g hg => by have := hv12 g hg; simp; omega)
            have K10 := K9.new k9 (by intro x hx; simp at hx; omega)
            have hl9 : (ins ++ [(⟨#[109, 111, 114, 101]⟩ : ByteArray)]).length ≤ 13 := by simp; omega
            have RR := records_l hL9 (by omega)
            clear OC hrow8 K9 k9
            go_wp2_with fail
            refine RR.mono ?_
            rintro e w10 ⟨u10, rfl, hu10, k10⟩
            have hrow10 := hrow9.keep k10 (fun _ _ => by simp)
            have S10 := same_c hu10.rowOf hrow10.rowOf (by omega)
            rw [decide_eq_false hne] at S10
            have K11 := K10.trans k10
            obtain ⟨g10, c10, rfl, hg10, hc10, hm10, hr10⟩ := hu10.snoc_form
            clear hrow9 K10 k10 hL9 hD9 hu10 hne RR hl9
            go_wp2_with fail
            refine S10.mono ?_
            rintro e w11 ⟨rfl, k11⟩
            have hm11 := (k11.cell hg10 (by simp)).trans hm10
            have hr11 := hr10.keep k11 (fun _ _ _ _ _ => by simp)
            have hrow11 := hrow10.keep k11 (fun _ _ => by simp)
            have S11 := same_c hr11 hrow11.rowOf (by omega)
            rw [decide_eq_true rfl] at S11
            have K12s := k11.size
            have K12 := K11.trans k11
            clear S10 K11 k11 hm10 hr10 hrow10
            go_wp2_with fail
            refine S11.mono ?_
            rintro e w12 ⟨rfl, k12⟩
            have hm12 := (k12.cell (Nat.lt_of_lt_of_le hg10 K12s) (by simp)).trans hm11
            have K13 := K12.trans k12
            clear S11 K12 k12 hm11 hr11 hrow11
            go_wp2_with fail
            refine (fixed_c (w := w12)).mono ?_
            rintro e w13 ⟨rfl, k13⟩
            go_wp2
            go_ret
            exact ⟨rfl, (K13.trans k13).below (Nat.le_refl _) (by simp)⟩
end Go.Proofs.Ytkkbjkoikidjpaa
