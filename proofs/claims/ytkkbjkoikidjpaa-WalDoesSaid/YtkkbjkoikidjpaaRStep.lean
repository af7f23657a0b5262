/-
  The reference's sha: a state behind 64 bytes.
-/
import Derived.Test.YtkkbjkoikidjpaaRSha
namespace Go.Proofs.Ytkkbjkoikidjpaa
open Go.RowKit

def rl (r : R8) : List Int := [r.a, r.b, r.c, r.d, r.e, r.f, r.g, r.h]
/-- A row while it is shifted. -/
def shL (l : List Int) (i : Nat) : List Int := l.take (i + 1) ++ (l.drop i).take (7 - i)
theorem shL_len {l : List Int} (h : l.length = 8) {i : Nat} (hi : i ≤ 7) : (shL l i).length = 8 := by unfold shL; simp; omega
theorem shL_set {l : List Int} (h : l.length = 8) {i : Nat} (h1 : 1 ≤ i) (h2 : i ≤ 7) : (shL l i).set i ((shL l i)[i - 1]?.getD 0) = shL l (i - 1) := by
  match l, h with
  | [_, _, _, _, _, _, _, _], _ =>
    rcases (by omega : i = 1 ∨ i = 2 ∨ i = 3 ∨ i = 4 ∨ i = 5 ∨ i = 6 ∨ i = 7) with rfl | rfl | rfl | rfl | rfl | rfl | rfl <;> rfl
theorem shL_7 {l : List Int} (h : l.length = 8) : shL l 7 = l := by
  match l, h with
  | [_, _, _, _, _, _, _, _], _ => rfl
theorem shL_0 (r : R8) : shL (rl r) 0 = [r.a, r.a, r.b, r.c, r.d, r.e, r.f, r.g] := rfl
/-- Two rows added. -/
def rAdd (l st : List Int) : Nat → List Int
  | 0 => l
  | i + 1 => (rAdd l st i).set i (((rAdd l st i)[i]?.getD 0 + st[i]?.getD 0) % 4294967296)
theorem rAdd_len (l st : List Int) : ∀ i, (rAdd l st i).length = l.length
  | 0 => rfl
  | i + 1 => by rw [rAdd, List.length_set, rAdd_len l st i]
theorem rAdd_eq (r : R8) {st : List Int} (h : st.length = 8) : rAdd (rl r) st 8 = sAdd st r 8 := by
  match st, h with
  | [a, b, c, d, e, f, g, h], _ =>
    show [(r.a + a) % 4294967296, (r.b + b) % 4294967296, (r.c + c) % 4294967296, (r.d + d) % 4294967296, (r.e + e) % 4294967296, (r.f + f) % 4294967296, (r.g + g) % 4294967296, (r.h + h) % 4294967296] =
      [(a + r.a) % 4294967296, (b + r.b) % 4294967296, (c + r.c) % 4294967296, (d + r.d) % 4294967296, (e + r.e) % 4294967296, (f + r.f) % 4294967296, (g + r.g) % 4294967296, (h + r.h) % 4294967296]
    rw [Int.add_comm r.a, Int.add_comm r.b, Int.add_comm r.c, Int.add_comm r.d, Int.add_comm r.e, Int.add_comm r.f, Int.add_comm r.g, Int.add_comm r.h]
theorem rowU_of_own {w : World} {base : Nat} {v : Value} {n : Nat} {l : List Int} (h : w.ownsRow base 98 1 v n (l.map (Value.int .u32))) (hn : 0 < n) : ∃ g cap, v = .slice (some ⟨g, 0, none⟩) n cap ∧ base ≤ g ∧ n ≤ cap ∧ RowU w g l := by
  rcases h.2 with ⟨_, h0⟩ | ⟨g, cap, cur, rfl, hb, hg, h1, h2, h3, h4⟩
  · omega
  · refine ⟨g, cap, rfl, hb, h1, ⟨cur.toList.drop (n * 1), ?_⟩⟩
    rw [← h4, List.take_append_drop]
    exact hg
theorem rowU_news {w : World} {S : Nat} {l : List Int} (h : RowU w S l) : ∀ j u, (l.map (Value.int .u32))[j]? = some u → w.cell? ((⟨S, 0, none⟩ : Addr).add j) = some u := by
  intro j u hj
  rw [List.getElem?_map] at hj
  obtain ⟨x, hx, rfl⟩ := Option.map_eq_some_iff.1 hj
  obtain ⟨hjl, rfl⟩ := List.getElem?_eq_some_iff.1 hx
  have e : (⟨S, 0, none⟩ : Addr).add j = ⟨S, j, none⟩ := by unfold Addr.add; split <;> simp_all
  rw [e, h.cell hjl]
  simp [hjl]
def RSRel (w2 : World) (V : Nat) (ws : List Int) (r0 : R8) (v9 : Value) (wr : World) : Prop :=
  ∃ (t : Nat) (r : R8), t ≤ 64 ∧ r = sRounds ws r0 t ∧ v9 = .int .i64 t ∧ RowU wr V (rl r) ∧ Keeps [V] w2 wr
def RShRel (w2 : World) (V : Nat) (l : List Int) (v : Value) (wr : World) : Prop := ∃ i : Nat, i ≤ 7 ∧ v = .int .i64 i ∧ RowU wr V (shL l i) ∧ Keeps [V] w2 wr
def RAdRel (w2 : World) (V : Nat) (l st : List Int) (v : Value) (wr : World) : Prop := ∃ i : Nat, i ≤ 8 ∧ v = .int .i64 i ∧ RowU wr V (rAdd l st i) ∧ Keeps [V] w2 wr

set_option maxRecDepth 100000 in
set_option maxHeartbeats 8000000 in
theorem step_r {w : World} (S scap B o cap KK kcap : Nat) (st : List Int) (s : ByteArray) (hst : st.length = 8) (hr : AllU st) (hS : RowU w S st) (hs : s.size = 64) (hB : B < w.heap.size) (hc : BytesAt w B o s) (hK : RowU w KK keysL) :
    Calls Try.prog 74 #[.slice (some ⟨S, 0, none⟩) 8 scap, .slice (some ⟨B, o, none⟩) 64 cap, .slice (some ⟨KK, 0, none⟩) 64 kcap] w fun e w' => ∃ V cap', e = .returned (.slice (some ⟨V, 0, none⟩) 8 cap') ∧ w.heap.size ≤ V ∧ RowU w' V (sMix st s) ∧ Keeps [] w w' := by
  obtain ⟨i0, hi, hz0, hz1, hz2⟩ := info_parts infoU32
  have WC := words_r B o cap s hs hB hc
  obtain ⟨r0, hr0⟩ : ∃ r0, r0 = r8 st := ⟨_, rfl⟩
  have hok : r0.Ok := by rw [hr0]; exact ⟨hr _, hr _, hr _, hr _, hr _, hr _, hr _, hr _⟩
  have hrl : rl r0 = st := by rw [hr0]; exact (list8 hst).symm
  have hwl := sSched_len s
  have hwr := sSched_rng s
  have HM : Hid (sMix st s = sAdd st (sRounds (sSched s) r0 64) 8) := by rw [hr0]; rfl
  generalize sSched s = ws at *
  generalize sMix st s = out at *
  clear hr0 hc hB hs
  go_enter Try.func74, Try.ntmps74
  go_wp2_with fail
  refine WC.mono ?_
  rintro e w1 ⟨W, rfl, hW, hw1, k1⟩
  have hS1 := hS.keep k1 (by simp)
  have hK1 := hK.keep k1 (by simp)
  have own0 : (w1.alloc (.cells #[] 98)).ownsRow w1.heap.size 98 1 (.slice (some ⟨w1.heap.size, 0, none⟩) 0 0) 0 [] := World.ownsRow_made _ _ _ (Nat.le_refl _) (by decide) rfl
  have hnews := rowU_news (hS1.keep ((Keeps.refl [] w1).alloc (.cells #[] 98)) (by simp))
  have hnl : (st.map (Value.int .u32)).length = 8 * 1 := by simp [hst]
  have hone : ∀ u ∈ st.map (Value.int .u32), u.oneCell' = true := by intro u hu; obtain ⟨t, _, rfl⟩ := List.mem_map.1 hu; rfl
  have hSw := hS.lt
  have hKw := hK.lt
  clear WC hS hK
  go_wp2_with (at_builtin; refine wpList_append_own _ rfl (.tmp 16) (.tmp 17) 99 rfl w1.heap.size 98 i0 _ 1 4 Try.underlying99 hi hz0 hz1 hz2 rfl (by decide) _ _ _ rfl own0 ⟨S, 0, none⟩ 8 scap (st.map (Value.int .u32)) rfl hnl hnews hone (by decide) (by decide) (by simp) ?_)
  intro v8 w2 ho hg _
  have k2 : Keeps [] w1 w2 := ((Keeps.refl [] w1).alloc _).grown hg (fun k hk => by cases hk; exact Nat.le_refl _)
  obtain ⟨V, vcap, rfl, hV, _, hV2⟩ := rowU_of_own (l := st) ho (by decide)
  have hw2 := hw1.keep k2 (by simp)
  have hS2 := hS1.keep k2 (by simp)
  have hK2 := hK1.keep k2 (by simp)
  have K2 := k1.trans k2
  have hVw : w.heap.size ≤ V := by have := k1.size; omega
  have hWV : W ≠ V := by have := hw1.lt; omega
  have hSV : S ≠ V := by omega
  have hKV : KK ≠ V := by omega
  rw [← hrl] at hV2
  have HRL := Go.Lib.hid hrl
  clear own0 hnews hone hnl ho hg k1 k2 hw1 hS1 hK1 hSw hKw hrl
  go_wp2_with fail
  go_loopw [9] (fun v9 wr => RSRel w2 V ws r0 v9 wr) (fun v9 _ => 64 - (intOf v9).toNat)
  case atStart => exact ⟨0, r0, by omega, rfl, rfl, hV2, Keeps.refl _ _⟩
  case round =>
    clear hV2
    obtain ⟨t, r, ht, hr', rfl, hV3, k3⟩ := hrel
    have hro : r.Ok := by rw [hr']; exact sRounds_ok ws hok t
    have HR := Go.Lib.hid hr'
    clear hr'
    by_cases hlt : t < 64
    · obtain ⟨kk, hkk⟩ : ∃ x, x = keysL[t]?.getD 0 := ⟨_, rfl⟩
      obtain ⟨ww, hww⟩ : ∃ x, x = ws[t]?.getD 0 := ⟨_, rfl⟩
      have hkr := keysL_rng t
      have hwt := hwr t
      have e0 := (hK2.keep k3 (by simpa using hKV)).cell (i := t) (by show t < 64; exact hlt)
      have e1 := (hw2.keep k3 (by simpa using hWV)).cell (i := t) (by rw [hwl]; exact hlt)
      rw [← hkk] at hkr e0
      rw [← hww] at hwt e1
      have HKW := Go.Lib.hid (And.intro hkk hww)
      clear hkk hww
      have hlt2 : (t : Int) < 64 := by omega
      obtain ⟨a, b, c, d, e, f, g, hv⟩ := r
      obtain ⟨ha, hb, hc, hd', he, hf, hg, hh⟩ := hro
      dsimp only at ha hb hc hd' he hf hg hh
      have c0 : wr.cell? ⟨V, 0, none⟩ = some (.int .u32 a) := hV3.cell (i := 0) (by show 0 < 8; decide)
      have c1 : wr.cell? ⟨V, 1, none⟩ = some (.int .u32 b) := hV3.cell (i := 1) (by show 1 < 8; decide)
      have c2 : wr.cell? ⟨V, 2, none⟩ = some (.int .u32 c) := hV3.cell (i := 2) (by show 2 < 8; decide)
      have c4 : wr.cell? ⟨V, 4, none⟩ = some (.int .u32 e) := hV3.cell (i := 4) (by show 4 < 8; decide)
      have c5 : wr.cell? ⟨V, 5, none⟩ = some (.int .u32 f) := hV3.cell (i := 5) (by show 5 < 8; decide)
      have c6 : wr.cell? ⟨V, 6, none⟩ = some (.int .u32 g) := hV3.cell (i := 6) (by show 6 < 8; decide)
      have c7 : wr.cell? ⟨V, 7, none⟩ = some (.int .u32 hv) := hV3.cell (i := 7) (by show 7 < 8; decide)
      obtain ⟨p, hp⟩ : ∃ p, p = sP ⟨a, b, c, d, e, f, g, hv⟩ kk ww := ⟨_, rfl⟩
      obtain ⟨q, hq⟩ : ∃ q, q = sQ ⟨a, b, c, d, e, f, g, hv⟩ := ⟨_, rfl⟩
      have hpb : U32 p := by rw [hp]; unfold sP U32; omega
      have hqb : U32 q := by rw [hq]; unfold sQ U32; omega
      have HNX : Hid (sRounds ws r0 (t + 1) = ⟨(p + q) % 4294967296, a, b, c, (d + p) % 4294967296, e, f, g⟩) := by
        show sRound (sRounds ws r0 t) _ _ = _
        rw [← HR.out, ← HKW.out.1, ← HKW.out.2, hp, hq]
        rfl
      have HP := Go.Lib.hid hp
      have HQ := Go.Lib.hid hq
      have hl8 : (rl ⟨a, b, c, d, e, f, g, hv⟩).length = 8 := rfl
      have HS0 : Hid (shL (rl ⟨a, b, c, d, e, f, g, hv⟩) 0 = [a, a, b, c, d, e, f, g]) := rfl
      generalize rl ⟨a, b, c, d, e, f, g, hv⟩ = lr at *
      have HD := Go.Lib.hid hd'
      clear hp hq hd'
      obtain ⟨ha1, ha2⟩ := ha
      obtain ⟨hb1, hb2⟩ := hb
      obtain ⟨hc1, hc2⟩ := hc
      obtain ⟨he1, he2⟩ := he
      obtain ⟨hf1, hf2⟩ := hf
      obtain ⟨hg1, hg2⟩ := hg
      obtain ⟨hh1, hh2⟩ := hh
      obtain ⟨hk1, hk2⟩ := hkr
      obtain ⟨hw1, hw2⟩ := hwt
      go_upto_region 6 with fail
      go_cut [10] (fun v10 wx => v10 = .int .u32 p ∧ Keeps [] wr wx)
      case first =>
        go_quiet (first
          | (go_at_call 79; exact Calls.quiet_of (r_z _ _ ⟨by assumption, by assumption⟩ (by decide) (by decide))))
        go_wp2_with fail
        go_meet
        case rel =>
          refine ⟨congrArg (Value.int IntKind.u32) ?_, (Keeps.refl _ _).drewN _⟩
          rw [HP.out]
          unfold sP
          dsimp only
          rw [if_neg (by decide), show IntKind.u32.max = 4294967295 from rfl, bits_not e ⟨he1, he2⟩]
      case rest =>
        obtain ⟨rfl, k4⟩ := hcut
        obtain ⟨hp1, hp2⟩ := hpb
        obtain ⟨hq1, hq2⟩ := hqb
        have hV4 := hV3.keep k4 (by simp)
        have k34 := k3.trans (k4.sub (by simp))
        have c0 := (k4.cell hV3.lt (by simp)).trans c0
        have c1 := (k4.cell hV3.lt (by simp)).trans c1
        have c2 := (k4.cell hV3.lt (by simp)).trans c2
        clear hV3 k3 k4 c4 c5 c6 c7 e0 e1
        obtain ⟨wn, rfl⟩ : ∃ wn, wn = wc := ⟨_, rfl⟩
        go_upto_region 7 with fail
        go_cut [11] (fun v11 wx => v11 = .int .u32 q ∧ Keeps [] wn wx)
        case first =>
          go_quiet (first
            | (go_at_call 79; exact Calls.quiet_of (r_z _ _ ⟨by assumption, by assumption⟩ (by decide) (by decide))))
          go_wp2_with fail
          go_meet
          case rel =>
            refine ⟨congrArg (Value.int IntKind.u32) ?_, (Keeps.refl _ _).drewN _⟩
            rw [HQ.out]
            unfold sQ
            dsimp only
            try omega
        case rest =>
          obtain ⟨rfl, k5⟩ := hcut
          have hV5 := hV4.keep k5 (by simp)
          have k35 := k34.trans (k5.sub (by simp))
          clear hV4 k34 k5 c0 c1 c2
          rw [← shL_7 hl8] at hV5
          go_wp2_with fail
          go_loopw [12] (fun v wr => RShRel w2 V lr v wr) (fun v _ => (intOf v).toNat)
          case atStart => exact ⟨7, by omega, rfl, hV5, k35⟩
          case round =>
            clear hV5 k35
            obtain ⟨i, hi7, rfl, hV6, k6⟩ := hrel
            by_cases hi1 : 1 ≤ i
            · obtain ⟨j, hj⟩ : ∃ j : Nat, j = i - 1 := ⟨_, rfl⟩
              have hlen := shL_len hl8 hi7
              have cj := hV6.cell (i := j) (by omega)
              have ci := hV6.cell (i := i) (by omega)
              have zi := hV6.fz i
              have wj : IntKind.i64.wrap ((i : Int) - 1) = (j : Int) := by rw [IntKind.wrap_i64]; omega
              have lj : (j : Int) < 8 := by omega
              have li : (i : Int) < 8 := by omega
              have l0 : (0 : Int) < i := by omega
              have HX : Hid ((shL lr i).set i ((shL lr i)[j]?.getD 0) = shL lr j) := by rw [hj]; exact shL_set hl8 hi1 hi7
              have h7 := hV6.set (i := i) (by omega) ((shL lr i)[j]?.getD 0)
              rw [HX.out] at h7
              have k7 := k6.setCell (p := ⟨V, i, none⟩) (.inl (by simp)) (.int .u32 ((shL lr i)[j]?.getD 0))
              have HJ := Go.Lib.hid hj
              generalize (shL lr i)[j]?.getD 0 = x at *
              clear hV6 k6 hj hlen
              go_wp2_with fail
              go_roundw
              case rel => exact ⟨j, by have := HJ.out; omega, rfl, h7, k7⟩
              case measure => have := HJ.out; simp [intOf]; omega
            · obtain rfl : i = 0 := by omega
              rw [HS0.out] at hV6
              have c4 : wr.cell? ⟨V, 4, none⟩ = some (.int .u32 d) := hV6.cell (i := 4) (by show 4 < 8; decide)
              have c0 : wr.cell? ⟨V, 0, none⟩ = some (.int .u32 a) := hV6.cell (i := 0) (by show 0 < 8; decide)
              have z4 := hV6.fz 4
              have z0 := hV6.fz 0
              obtain ⟨hd1, hd2⟩ := HD.out
              go_wp2_with fail
              go_roundw
              case rel =>
                refine ⟨t + 1, _, by omega, rfl, by go_num, ?_, (k6.setCell (.inl (by simp)) _).setCell (.inl (by simp)) _⟩
                rw [HNX.out]
                have h8 := (hV6.set (i := 4) (by show 4 < 8; decide) ((d + p) % 4294967296)).set (i := 0) (by show 0 < 8; decide) ((p + q) % 4294967296)
                exact h8
              case measure => simp [intOf]; omega
    · obtain rfl : t = 64 := by omega
      have HF := Go.Lib.hid (rAdd_eq r hst)
      have hl8 : (rl r).length = 8 := rfl
      have hE : Hid (out = sAdd st r 8) := by rw [HR.out]; exact HM.out
      generalize rl r = lr at *
      go_wp2_with fail
      rw [show ((64 : Nat) : Int) = 64 from rfl]
      go_loopw [13] (fun v wr => RAdRel w2 V lr st v wr) (fun v _ => 8 - (intOf v).toNat)
      case atStart => exact ⟨0, by omega, rfl, hV3, k3⟩
      case round =>
        clear hV3 k3
        obtain ⟨i, hi8, rfl, hV6, k6⟩ := hrel
        by_cases hlt : i < 8
        · have hlen := rAdd_len lr st i
          have ci := hV6.cell (i := i) (by omega)
          have si := (hS2.keep k6 (by simpa using hSV)).cell (i := i) (by omega)
          have zi := hV6.fz i
          have li : (i : Int) < 8 := by omega
          have h7 := (hV6.set (i := i) (by omega) (((rAdd lr st i)[i]?.getD 0 + st[i]?.getD 0) % 4294967296)).keep (Keeps.refl [] _).drew (by simp)
          have HX : Hid ((rAdd lr st i).set i (((rAdd lr st i)[i]?.getD 0 + st[i]?.getD 0) % 4294967296) = rAdd lr st (i + 1)) := rfl
          rw [HX.out] at h7
          generalize (rAdd lr st i)[i]?.getD 0 = x at *
          generalize st[i]?.getD 0 = y at *
          go_upto_region 17 with fail
          go_still_tail 12, (by kernel_rfl)
          change wpList _ _ _ _ _ (World.drew _)
          clear si
          go_wp2_with fail
          go_roundw
          case rel => exact ⟨i + 1, by omega, by go_num, h7, (k6.setCell (.inl (by simp)) _).drew⟩
          case measure => simp [intOf]; omega
        · obtain rfl : i = 8 := by omega
          go_wp2_with fail
          go_ret
          refine ⟨V, vcap, rfl, hVw, ?_, K2.new k6 (by simp; omega)⟩
          rw [hE.out, ← HF.out]
          exact hV6
end Go.Proofs.Ytkkbjkoikidjpaa
