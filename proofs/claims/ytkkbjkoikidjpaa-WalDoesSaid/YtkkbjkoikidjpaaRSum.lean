/-
  The reference's sha: Sum.
-/
import Derived.Test.YtkkbjkoikidjpaaRPad
import Derived.Deep.AppendLies
namespace Go.Proofs.Ytkkbjkoikidjpaa
open Go.RowKit

theorem sRest_app (st : List Int) (a c : ByteArray) : sRest (sRest st a).1 ((sRest st a).2 ++ c) = sRest st (a ++ c) := by
  induction h : a.size using Nat.strongRecOn generalizing st a with
  | _ n ih =>
    by_cases h64 : 64 ≤ a.size
    · have h2 : 64 ≤ (a ++ c).size := by rw [ByteArray.size_append]; omega
      have e3 : a.data.size = a.size := rfl
      have e4 : c.data.size = c.size := rfl
      have e1 : (a ++ c).extract 0 64 = a.extract 0 64 := by
        apply ba_ext
        simp only [ByteArray.data_extract, ByteArray.data_append]
        rw [Array.extract_append, e3, show 64 - a.size = 0 from by omega]
        simp
      have e2 : (a ++ c).extract 64 (a ++ c).size = a.extract 64 a.size ++ c := by
        apply ba_ext
        simp only [ByteArray.data_extract, ByteArray.data_append]
        rw [Array.extract_append, e3, ByteArray.size_append, show 64 - a.size = 0 from by omega, show a.size + c.size - a.size = c.size from by omega]
        have f1 : a.data.extract 64 (a.size + c.size) = a.data.extract 64 a.size := by
          apply Array.ext'
          rw [Array.toList_extract, Array.toList_extract, List.extract_eq_take_drop, List.extract_eq_take_drop, List.take_of_length_le (by simp; omega), List.take_of_length_le (by simp)]
        have f2 : c.data.extract 0 c.size = c.data := by rw [← e4]; simp
        rw [f1, f2]
      rw [sRest_more h64, sRest_more h2, e1, e2]
      exact ih (a.extract 64 a.size).size (by rw [ByteArray.size_extract]; omega) _ _ rfl
    · rw [sRest_done h64]
theorem sRest_left_mod (st : List Int) (a : ByteArray) : (sRest st a).2.size % 64 = a.size % 64 := by
  induction h : a.size using Nat.strongRecOn generalizing st a with
  | _ n ih =>
    by_cases h64 : 64 ≤ a.size
    · rw [sRest_more h64, ih (a.extract 64 a.size).size (by rw [ByteArray.size_extract]; omega) _ _ rfl, ByteArray.size_extract]
      omega
    · rw [sRest_done h64]; show a.size % 64 = _; rw [h]
theorem zerosOf_mod {L M : Nat} (h : L % 64 = M % 64) : zerosOf L = zerosOf M := by unfold zerosOf; omega

/-- The state behind so many blocks. -/
def stN (b : ByteArray) : Nat → List Int
  | 0 => beginL
  | k + 1 => sMix (stN b k) (b.extract (64 * k) (64 * k + 64))
theorem sAdd_rng {st : List Int} (h : AllU st) (r : R8) : ∀ i, AllU (sAdd st r i)
  | 0 => h
  | i + 1 => allU_set (sAdd_rng h r i) (by unfold U32; omega)
theorem stN_rng (b : ByteArray) : ∀ k, AllU (stN b k)
  | 0 => beginL_rng
  | k + 1 => sAdd_rng (stN_rng b k) _ _
theorem stN_len (b : ByteArray) : ∀ k, (stN b k).length = 8
  | 0 => rfl
  | k + 1 => by rw [stN, sMix, sAdd_len, stN_len b k]
theorem ba_ex_ex (b : ByteArray) (i j k n : Nat) (h : i + k ≤ n) : (b.extract i n).extract j k = b.extract (i + j) (i + k) := by
  apply ba_ext
  simp only [ByteArray.data_extract, Array.extract_extract]
  rw [Nat.min_eq_left h]
theorem stN_rest (b : ByteArray) : ∀ k, 64 * k ≤ b.size → sRest (stN b k) (b.extract (64 * k) b.size) = sRest beginL b
  | 0, _ => by
    rw [show b.extract (64 * 0) b.size = b from by apply ba_ext; simp]; rfl
  | k + 1, h => by
    rw [← stN_rest b k (by omega)]
    rw [sRest_more (b := b.extract (64 * k) b.size) (by rw [ByteArray.size_extract]; omega), ba_ex_ex b (64 * k) 0 64 b.size (by omega), ByteArray.size_extract, ba_ex_ex b (64 * k) 64 _ b.size (by omega)]
    rw [show 64 * k + (min b.size b.size - 64 * k) = b.size from by omega]
    rfl
theorem stN_end (b : ByteArray) (k : Nat) (h : 64 * k = b.size) : (sRest beginL b).1 = stN b k := by
  rw [← stN_rest b k (by omega), sRest_done (by rw [ByteArray.size_extract]; omega)]
/-- All bytes, padded, as they are. -/
def padB (s : ByteArray) : ByteArray := ⟨(padL s).toArray⟩
theorem padB_size (s : ByteArray) : (padB s).size = (padL s).length := by show (padL s).toArray.size = _; simp
theorem sAll_eq (s : ByteArray) (k : Nat) (h : 64 * k = (padL s).length) : sAll s = ⟨(outL (r8 (stN (padB s) k)) 8).toArray⟩ := by
  have e0 : (ByteArray.empty ++ s) = s := by apply ba_ext; simp
  have e1 : s ++ ⟨(padA (1 + zerosOf s.size) ++ numA s.size 8).toArray⟩ = padB s := by
    apply ba_ext
    simp only [ByteArray.data_append]
    unfold padB padL
    simp
  unfold sAll sSum
  rw [e0, zerosOf_mod (sRest_left_mod beginL s), sRest_app, e1, stN_end (padB s) k (by rw [padB_size]; exact h)]

def RSumRel (w3 : World) (b : ByteArray) (v3 v6 : Value) (wr : World) : Prop :=
  ∃ (k V cap i : Nat), i = 64 * k ∧ i ≤ b.size ∧ v6 = .int .i64 i ∧ v3 = .slice (some ⟨V, 0, none⟩) 8 cap ∧ RowU wr V (stN b k) ∧ Keeps [] w3 wr
def ROutRel (w3 : World) (r : R8) (v v8 : Value) (wr : World) : Prop := ∃ i : Nat, i ≤ 8 ∧ v8 = .int .i64 i ∧ wr.ownsRow w3.heap.size 5 1 v (4 * i) (byteCells (outL r i)) ∧ Keeps [] w3 wr

set_option maxRecDepth 100000 in
set_option maxHeartbeats 4000000 in
theorem rsum_c {w : World} (s : ByteArray) (hs : s.size ≤ 1073741824) :
    Calls Try.prog 68 #[.string s] w fun e w' => e = .returned (.string (sAll s)) ∧ Keeps [] w w' := by
  obtain ⟨i0, hi, hz0, hz1, hz2⟩ := info_parts infoU8
  have PC := fun w => padded_r (w := w) s (by omega)
  have HE := Go.Lib.hid (fun k => sAll_eq s k)
  have hpl := padL_len s
  have hpz : zerosOf s.size ≤ 63 := by unfold zerosOf; omega
  have hpm := padL_mod s
  have HPZ := Go.Lib.hid (padB_size s)
  have hpb : ∀ w g, BytesAt w g 0 ⟨(padL s).toArray⟩ → BytesAt w g 0 (padB s) := fun _ _ h => h
  have HPB := Go.Lib.hid hpb
  generalize padB s = b at *
  generalize sAll s = out at *
  obtain ⟨N, hN⟩ : ∃ N, N = (padL s).length := ⟨_, rfl⟩
  rw [← hN] at hpl hpm
  have HPN := Go.Lib.hid hN
  have hNb : N ≤ 2000000000 := by omega
  clear hpl hpz
  go_enter Try.func68, Try.ntmps68
  clear hN hpb
  go_wp2_with fail
  obtain ⟨w1, hw1⟩ : ∃ w1, w1 = w.alloc (.cells #[.int .u32 1779033703, .int .u32 3144134277, .int .u32 1013904242, .int .u32 2773480762, .int .u32 1359893119, .int .u32 2600822924, .int .u32 528734635, .int .u32 1541459225] 98) := ⟨_, rfl⟩
  have hV1 : RowU w1 w.heap.size beginL := ⟨[], by rw [hw1]; exact heap_alloc_same⟩
  have K1 : Keeps [] w w1 := by rw [hw1]; exact (Keeps.refl _ _).alloc _
  rw [← hw1]
  clear hw1
  refine (PC _).mono ?_
  rintro e w2 ⟨g, cap, rfl, hg, hgl, hcap, hcm, hB, k2⟩
  have hV2 := hV1.keep k2 (by simp)
  have K2 := K1.trans k2
  rw [← HPN.out] at hcap ⊢
  replace hB := HPB.out _ _ hB
  clear PC hV1 K1 k2
  go_wp2_with fail
  refine (keys_r).mono ?_
  rintro e w3 ⟨KK, rfl, hKK, hK3, k3⟩
  have hV3 := hV2.keep k3 (by simp)
  have hB3 : BytesAt w3 g 0 b := hB.keep hgl k3 (by simp)
  have hgl3 : g < w3.heap.size := by have := k3.size; omega
  have K3 := K2.trans k3
  clear hV2 hB hgl K2 k3
  go_wp2_with fail
  go_loopw [3, 6] (fun v3 v6 wr => RSumRel w3 b v3 v6 wr) (fun _ v6 _ => N - (intOf v6).toNat)
  case atStart => exact ⟨0, _, 8, 0, rfl, Nat.zero_le _, rfl, rfl, hV3, Keeps.refl _ _⟩
  case round =>
    clear hV3
    obtain ⟨k, V, vcap, i, hik, hiN, rfl, rfl, hV, K⟩ := hrel
    rw [HPZ.out, ← HPN.out] at hiN
    by_cases hlt : i < N
    · have hbs : (b.extract i (i + 64)).size = 64 := by rw [ByteArray.size_extract, HPZ.out, ← HPN.out]; omega
      have hBx : BytesAt wr g i (b.extract i (i + 64)) := fun j hj => by
        rw [hbs] at hj
        rw [strByte_part b i (i + 64) j (by omega) (by rw [HPZ.out, ← HPN.out]; omega)]
        have := (hB3.keep hgl3 K (by simp)) (i + j) (by rw [HPZ.out, ← HPN.out]; omega)
        rwa [Nat.zero_add] at this
      have SC := step_r V vcap g i (cap - i) KK 64 (stN b k) (b.extract i (i + 64)) (stN_len b k) (stN_rng b k) hV hbs (by have := K.size; omega) hBx (hK3.keep K (by simp))
      have hNx : Hid (sMix (stN b k) (b.extract i (i + 64)) = stN b (k + 1)) := by show _ = _; rw [stN, hik]
      rw [hNx.out] at SC
      have hI : i + 64 ≤ N := by omega
      have HIK := Go.Lib.hid hik
      clear hik hbs hBx hiN hV
      go_wp2_with fail
      rw [show i + 64 - i = 64 from by omega]
      refine SC.mono ?_
      rintro e w4 ⟨V4, cap4, rfl, hV4, hr4, k4⟩
      have K4 := K.trans k4
      clear SC K k4
      go_wp2_with fail
      go_roundw
      case rel => exact ⟨k + 1, V4, cap4, i + 64, by have := HIK.out; omega, by rw [HPZ.out, ← HPN.out]; exact hI, by go_num, rfl, hr4, K4⟩
      case measure => simp [intOf]; omega
    · obtain rfl : i = N := by omega
      have hE : Hid (out = ⟨(outL (r8 (stN b k)) 8).toArray⟩) := HE.out k (by rw [← HPN.out]; omega)
      obtain ⟨r, hr⟩ : ∃ r, r = r8 (stN b k) := ⟨_, rfl⟩
      have hst := list8 (stN_len b k)
      have hrr : ∀ i, U32 (r.at i) := by
        rw [hr]; intro i; unfold R8.at r8; split <;> exact stN_rng b k _
      have hV5 : RowU wr V (rl r) := by rw [hr]; rw [hst] at hV; exact hV
      rw [← hr] at hE
      have K5 := K3.trans K
      clear hik hr hst hV K hiN hlt
      go_wp2_with fail
      go_loopw [7, 8] (fun v v8 wx => ROutRel wr r v v8 wx) (fun _ v8 _ => 8 - (intOf v8).toNat)
      case atStart => exact ⟨0, by omega, rfl, World.ownsRow_made _ _ _ (Nat.le_refl _) (by decide) rfl, (Keeps.refl _ _).alloc _⟩
      case round =>
        obtain ⟨wo, rfl⟩ : ∃ wo, wo = wr := ⟨_, rfl⟩
        obtain ⟨j, hj8, rfl, hown, K⟩ := hrel
        by_cases hlt : j < 8
        · have hVg := hV5.lt
          have hgs := World.ownsRow.lt hown
          have cj := (hV5.keep K (by simp)).cell (i := j) (by show j < 8; exact hlt)
          have eat : (rl r)[j]?.getD 0 = r.at j := by
            match j, hlt with
            | 0, _ => rfl
            | 1, _ => rfl
            | 2, _ => rfl
            | 3, _ => rfl
            | 4, _ => rfl
            | 5, _ => rfl
            | 6, _ => rfl
            | 7, _ => rfl
          rw [eat] at cj
          obtain ⟨q, hq⟩ : ∃ q, q = r.at j := ⟨_, rfl⟩
          obtain ⟨hq1, hq2⟩ := hrr j
          rw [← hq] at cj hq1 hq2
          have HQ := Go.Lib.hid hq
          have hj2 : (j : Int) < 8 := by omega
          have HEAT := Go.Lib.hid eat
          clear hq eat hgs
          go_wp2_with (at_builtin; refine wpList_append_own _ rfl (.tmp 32) (.tmp 39) 84 rfl wr.heap.size 5 i0 _ 1 1 Try.underlying84 hi hz0 hz1 hz2 rfl (by decide) _ _ _ rfl (hown.alloc _) ⟨wo.heap.size, 0, none⟩ 1 1 [.int .u8 (q / 16777216)] rfl rfl ?c1 ?c2 ?c3 ?c4 ?c5 ?_)
          case c1 =>
            intro j u hj
            match j, hj with
            | 0, hj => simp at hj; subst hj; simp [Addr.add]
          case c2 => intro u hu; simp at hu; subst hu; rfl
          case c3 => unfold maxLen; omega
          case c4 => omega
          case c5 => have := K.size; simp; omega
          intro va wa howna hgrowa _
          have Ra : wa.ownsRow wr.heap.size 5 1 va (4 * j + 1) (byteCells (outL r j ++ [u8 (q / 16777216)])) := by
            rw [byteCells_snoc, u8_toNat, show q / 16777216 % 256 = q / 16777216 from by omega]
            exact howna
          have Ka : Keeps [] wr wa := (K.alloc _).grown hgrowa (fun k hk => (hown.lt k hk).1)
          have cj := (hV5.keep Ka (by simp)).cell (i := j) (by show j < 8; exact hlt)
          rw [HEAT.out, ← HQ.out] at cj
          obtain ⟨ga, capa, rfl, _, _, _⟩ := own_slice Ra (by omega)
          clear howna hgrowa hown K
          go_wp2_with (at_builtin; refine wpList_append_own _ rfl (.tmp 41) (.tmp 49) 84 rfl wr.heap.size 5 i0 _ 1 1 Try.underlying84 hi hz0 hz1 hz2 rfl (by decide) _ _ _ rfl (Ra.alloc _) ⟨wa.heap.size, 0, none⟩ 1 1 [.int .u8 (q / 65536 % 256)] rfl rfl ?c1 ?c2 ?c3 ?c4 ?c5 ?_)
          case c1 =>
            intro j u hj
            match j, hj with
            | 0, hj => simp at hj; subst hj; simp [Addr.add]
          case c2 => intro u hu; simp at hu; subst hu; rfl
          case c3 => unfold maxLen; omega
          case c4 => omega
          case c5 => have := Ka.size; simp; omega
          intro vb wb hownb hgrowb _
          have Rb : wb.ownsRow wr.heap.size 5 1 vb (4 * j + 1 + 1) (byteCells ((outL r j ++ [u8 (q / 16777216)]) ++ [u8 (q / 65536)])) := by
            rw [byteCells_snoc, u8_toNat]
            exact hownb
          have Kb : Keeps [] wr wb := (Ka.alloc _).grown hgrowb (fun k hk => (Ra.lt k hk).1)
          have cj := (hV5.keep Kb (by simp)).cell (i := j) (by show j < 8; exact hlt)
          rw [HEAT.out, ← HQ.out] at cj
          obtain ⟨gb, capb, rfl, _, _, _⟩ := own_slice Rb (by omega)
          clear hownb hgrowb Ra Ka
          go_wp2_with (at_builtin; refine wpList_append_own _ rfl (.tmp 51) (.tmp 59) 84 rfl wr.heap.size 5 i0 _ 1 1 Try.underlying84 hi hz0 hz1 hz2 rfl (by decide) _ _ _ rfl (Rb.alloc _) ⟨wb.heap.size, 0, none⟩ 1 1 [.int .u8 (q / 256 % 256)] rfl rfl ?c1 ?c2 ?c3 ?c4 ?c5 ?_)
          case c1 =>
            intro j u hj
            match j, hj with
            | 0, hj => simp at hj; subst hj; simp [Addr.add]
          case c2 => intro u hu; simp at hu; subst hu; rfl
          case c3 => unfold maxLen; omega
          case c4 => omega
          case c5 => have := Kb.size; simp; omega
          intro vc wc hownc hgrowc _
          have Rc : wc.ownsRow wr.heap.size 5 1 vc (4 * j + 1 + 1 + 1) (byteCells ((outL r j ++ [u8 (q / 16777216)] ++ [u8 (q / 65536)]) ++ [u8 (q / 256)])) := by
            rw [byteCells_snoc, u8_toNat]
            simp only [List.append_assoc, List.cons_append, List.nil_append]
            exact hownc
          have Kc : Keeps [] wr wc := (Kb.alloc _).grown hgrowc (fun k hk => (Rb.lt k hk).1)
          have cj := (hV5.keep Kc (by simp)).cell (i := j) (by show j < 8; exact hlt)
          rw [HEAT.out, ← HQ.out] at cj
          obtain ⟨gc, capc, rfl, _, _, _⟩ := own_slice Rc (by omega)
          clear hownc hgrowc Rb Kb
          go_wp2_with (at_builtin; refine wpList_append_own _ rfl (.tmp 61) (.tmp 68) 84 rfl wr.heap.size 5 i0 _ 1 1 Try.underlying84 hi hz0 hz1 hz2 rfl (by decide) _ _ _ rfl (Rc.alloc _) ⟨wc.heap.size, 0, none⟩ 1 1 [.int .u8 (q % 256)] rfl rfl ?c1 ?c2 ?c3 ?c4 ?c5 ?_)
          case c1 =>
            intro j u hj
            match j, hj with
            | 0, hj => simp at hj; subst hj; simp [Addr.add]
          case c2 => intro u hu; simp at hu; subst hu; rfl
          case c3 => unfold maxLen; omega
          case c4 => omega
          case c5 => have := Kc.size; simp; omega
          intro vd wd hownd hgrowd _
          have Rd : wd.ownsRow wr.heap.size 5 1 vd (4 * j + 1 + 1 + 1 + 1) (byteCells ((outL r j ++ [u8 (q / 16777216)] ++ [u8 (q / 65536)] ++ [u8 (q / 256)]) ++ [u8 (q)])) := by
            rw [byteCells_snoc, u8_toNat]
            simp only [List.append_assoc, List.cons_append, List.nil_append]
            exact hownd
          have Kd : Keeps [] wr wd := (Kc.alloc _).grown hgrowd (fun k hk => (Rc.lt k hk).1)
          have cj := (hV5.keep Kd (by simp)).cell (i := j) (by show j < 8; exact hlt)
          rw [HEAT.out, ← HQ.out] at cj
          obtain ⟨gd, capd, rfl, _, _, _⟩ := own_slice Rd (by omega)
          clear hownd hgrowd Rc Kc
          have R : wd.ownsRow wr.heap.size 5 1 (.slice (some ⟨gd, 0, none⟩) (4 * j + 1 + 1 + 1 + 1) capd) (4 * (j + 1)) (byteCells (outL r (j + 1))) := by
            rw [outL, ← HQ.out]
            unfold wordBytes
            rw [show outL r j ++ [u8 (q / 16777216), u8 (q / 65536), u8 (q / 256), u8 q] = outL r j ++ [u8 (q / 16777216)] ++ [u8 (q / 65536)] ++ [u8 (q / 256)] ++ [u8 q] from by simp]
            exact Rd
          clear Rd cj
          go_wp2_with fail
          go_roundw
          case rel => exact ⟨j + 1, by omega, by go_num, R, Kd⟩
          case measure => simp [intOf]; omega
        · obtain rfl : j = 8 := by omega
          obtain ⟨g', cap', rfl, _, _, _⟩ := own_slice hown (by omega)
          have hN2 := outL_len r 8
          have hconv := run_convert_bytes_back (P := Try.prog) wo 84 9 5 ⟨g', 0, none⟩ cap' (outL r 8) Try.underlying84 Try.underlying5 Try.underlying9 (fun j hj => hown.cells rfl j _ (by simp [byteCells, hj]))
          rw [hN2] at hconv
          obtain ⟨ol, hol⟩ : ∃ x, x = outL r 8 := ⟨_, rfl⟩
          rw [← hol] at hconv hE
          have K6 := K5.trans K
          clear hown hol hN2 K
          go_wp2_with fail
          go_ret
          exact ⟨by rw [hE.out]; rfl, K6⟩
end Go.Proofs.Ytkkbjkoikidjpaa
