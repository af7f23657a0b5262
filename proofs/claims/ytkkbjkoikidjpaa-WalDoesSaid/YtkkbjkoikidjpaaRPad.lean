/-
  The reference's sha: bytes, padded.
-/
import Derived.Test.YtkkbjkoikidjpaaRStep
import Derived.Lib.AppendStr
namespace Go.Proofs.Ytkkbjkoikidjpaa
open Go.RowKit

/-- All bytes, padded. -/
def padL (s : ByteArray) : List UInt8 := s.data.toList ++ padA (1 + zerosOf s.size) ++ numA s.size 8
theorem padL_len (s : ByteArray) : (padL s).length = s.size + (1 + zerosOf s.size) + 8 := by
  have e : s.data.toList.length = s.size := by simp
  rw [padL, List.length_append, List.length_append, padA_len (by omega), e]
  simp [numA]
theorem padL_mod (s : ByteArray) : (padL s).length % 64 = 0 := by rw [padL_len]; unfold zerosOf; omega
theorem pad_at (L m : Nat) (h1 : 1 ≤ m) (h2 : m ≤ 1 + zerosOf L) : (((((L : Int) + (m : Int)) % 64 == 56) = false) ∧ m < 1 + zerosOf L) ∨ (((((L : Int) + (m : Int)) % 64 == 56) = true) ∧ m = 1 + zerosOf L) := by
  unfold zerosOf at *
  by_cases h : ((L : Int) + (m : Int)) % 64 = 56
  · exact .inr ⟨by simp [h], by omega⟩
  · exact .inl ⟨by simp [h], by omega⟩
theorem u8_of_toNat (b : UInt8) : u8 (b.toNat : Int) = b := by
  unfold u8
  have := b.toNat_lt
  rw [show ((b.toNat : Int) % 256).toNat = b.toNat from by omega]
  exact UInt8.ofNat_toNat
theorem numByte_eq (n i : Nat) (hn : n ≤ 1099511627776) : ((numByte n i).toNat : Int) = ((8 * n / 256 ^ i : Nat) : Int) % 256 := by
  unfold numByte
  rw [u8_toNat, show IntKind.u64.wrap ((n : Int) * 8) = ((8 * n : Nat) : Int) from by rw [IntKind.wrap_u64]; omega]
  rw [show (2 : Int) ^ (8 * i) = ((256 ^ i : Nat) : Int) from by rw [Int.pow_mul]; simp]
  rw [← Int.natCast_ediv]

def PadRel1 (w0 : World) (s : ByteArray) (v : Value) (wr : World) : Prop := ∃ m : Nat, 1 ≤ m ∧ m ≤ 1 + zerosOf s.size ∧ wr.ownsRow w0.heap.size 5 1 v (s.size + m) (byteCells (s.data.toList ++ padA m)) ∧ Keeps [] w0 wr
def PadRel2 (w0 : World) (s : ByteArray) (l : List UInt8) (v v5 : Value) (wr : World) : Prop := ∃ j : Nat, j ≤ 8 ∧ v5 = .int .i64 (7 - (j : Int)) ∧ wr.ownsRow w0.heap.size 5 1 v (l.length + j) (byteCells (l ++ numA s.size j)) ∧ Keeps [] w0 wr
def PadRel3 (w2 : World) (B i : Nat) (v6 v7 : Value) (wr : World) : Prop := ∃ k : Nat, k ≤ i ∧ v7 = .int .i64 k ∧ v6 = .int .i64 ((B / 256 ^ k : Nat) : Int) ∧ wr = w2

set_option maxRecDepth 100000 in
set_option maxHeartbeats 4000000 in
theorem padded_r {w : World} (s : ByteArray) (hs : s.size ≤ 1099511627776) :
    Calls Try.prog 72 #[.string s] w fun e w' => ∃ g cap, e = .returned (.slice (some ⟨g, 0, none⟩) (padL s).length cap) ∧ w.heap.size ≤ g ∧ g < w'.heap.size ∧ (padL s).length ≤ cap ∧ cap ≤ maxLen ∧ BytesAt w' g 0 ⟨(padL s).toArray⟩ ∧ Keeps [] w w' := by
  obtain ⟨i0, hi, hz0, hz1, hz2⟩ := info_parts infoU8
  have own0 : (w.alloc (.cells #[] 5)).ownsRow w.heap.size 5 1 (.slice (some ⟨w.heap.size, 0, none⟩) 0 0) 0 [] := World.ownsRow_made _ _ _ (Nat.le_refl _) (by decide) rfl
  go_enter Try.func72, Try.ntmps72
  go_wp2_with (at_builtin; refine Lib.wpList_append_own_string _ rfl (.tmp 8) (.tmp 9) 84 9 rfl w.heap.size 5 i0 Try.underlying84 Try.underlying9 hi hz0 hz1 hz2 _ _ _ rfl own0 s rfl (by unfold maxLen; omega) (by omega) (by simp) ?_)
  intro v1 w1 hown1 hgrow1 _
  have K1 : Keeps [] w w1 := ((Keeps.refl [] w).alloc _).grown hgrow1 (fun k hk => by cases hk; exact Nat.le_refl _)
  have R1 : w1.ownsRow w.heap.size 5 1 v1 s.size (byteCells s.data.toList) := by
    first | exact hown1 | simpa using hown1
  have hsz1 := K1.size
  clear hown1 hgrow1 own0
  go_wp2_with (at_builtin; refine wpList_append_own _ rfl (.tmp 11) (.tmp 12) 84 rfl w.heap.size 5 i0 _ 1 1 Try.underlying84 hi hz0 hz1 hz2 rfl (by decide) _ _ _ rfl (R1.alloc _) ⟨w1.heap.size, 0, none⟩ 1 1 [.int .u8 128] rfl rfl ?c1 ?c2 ?c3 ?c4 ?c5 ?_)
  case c1 =>
    intro j u hj
    match j, hj with
    | 0, hj => simp at hj; subst hj; simp [Addr.add]
  case c2 => intro u hu; simp at hu; subst hu; rfl
  case c3 => unfold maxLen; omega
  case c4 => omega
  case c5 => simp; omega
  intro v2 w2 hown2 hgrow2 _
  have R2 : w2.ownsRow w.heap.size 5 1 v2 (s.size + 1) (byteCells (s.data.toList ++ padA 1)) := by
    rw [show padA 1 = [128] from rfl, byteCells_snoc]; exact hown2
  have K2 : Keeps [] w w2 := (K1.alloc _).grown hgrow2 (fun k hk => (R1.lt k hk).1)
  clear hown2 hgrow2 R1 K1 hsz1
  go_wp2_with fail
  go_loopw [3] (fun v wr => PadRel1 w s v wr) (fun v _ => s.size + 1 + zerosOf s.size - (match v with | .slice _ n _ => n | _ => 0))
  case atStart => exact ⟨1, by omega, by omega, R2, K2⟩
  case round =>
    clear R2 K2
    obtain ⟨m, hm1, hm2, hown, K⟩ := hrel
    obtain ⟨g, cap, rfl, hg, hmc, hcm⟩ := own_slice hown (by omega)
    have hmz : m ≤ 65 := by unfold zerosOf at hm2; omega
    rcases pad_at s.size m hm1 hm2 with ⟨hz, hlt⟩ | ⟨hz, heq⟩
    · have hsize := K.size
      go_wp2_with (at_builtin; refine wpList_append_own _ rfl (.tmp 18) (.tmp 19) 84 rfl w.heap.size 5 i0 _ 1 1 Try.underlying84 hi hz0 hz1 hz2 rfl (by decide) _ _ _ rfl (hown.alloc _) ⟨wr.heap.size, 0, none⟩ 1 1 [.int .u8 0] rfl rfl ?c1 ?c2 ?c3 ?c4 ?c5 ?_)
      case c1 =>
        intro j u hj
        match j, hj with
        | 0, hj => simp at hj; subst hj; simp [Addr.add]
      case c2 => intro u hu; simp at hu; subst hu; rfl
      case c3 => unfold maxLen; omega
      case c4 => omega
      case c5 => simp; omega
      intro v' w2 hown' hgrow _
      have R : w2.ownsRow w.heap.size 5 1 v' (s.size + (m + 1)) (byteCells (s.data.toList ++ padA (m + 1))) := by
        rw [padA_snoc hm1, ← List.append_assoc, byteCells_snoc]; exact hown'
      have K2 : Keeps [] w w2 := (K.alloc _).grown hgrow (fun k hk => (hown.lt k hk).1)
      obtain ⟨g', cap', rfl, _, _, _⟩ := own_slice R (by omega)
      clear hown' hgrow hown K
      go_wp2
      go_roundw
      case rel => exact ⟨m + 1, by omega, by omega, R, K2⟩
      case measure => simp; omega
    · subst heq
      have hzl : zerosOf s.size ≤ 63 := by unfold zerosOf; omega
      obtain ⟨l, hl⟩ : ∃ l, l = s.data.toList ++ padA (1 + zerosOf s.size) := ⟨_, rfl⟩
      have hll : l.length = s.size + (1 + zerosOf s.size) := by
        rw [hl, List.length_append, padA_len (by omega)]; simp
      rw [← hl, ← hll] at hown
      have HPL : Hid (padL s = l ++ numA s.size 8) := by show _ = _; rw [hl]; rfl
      have hpn := padL_len s
      rw [← hll] at hpn ⊢
      have HPN := Go.Lib.hid hpn
      have HHL := Go.Lib.hid hl
      clear hl
      go_wp2_with fail
      have hne : (((s.size : Int) + (1 + (zerosOf s.size : Int))) % 64 != 56) = false := by assumption
      rw [hne]
      clear hne
      rw [show (8 * (s.size : Int)) = ((8 * s.size : Nat) : Int) from by omega]
      obtain ⟨bits8, hb8⟩ : ∃ x, x = 8 * s.size := ⟨_, rfl⟩
      rw [← hb8]
      have HB8 := Go.Lib.hid hb8
      have hbb : bits8 ≤ 8796093022208 := by omega
      clear hb8
      have hslen : l.length ≤ 1099511627776 + 64 := by omega
      have HLL := Go.Lib.hid hll
      clear hll hz hm1 hm2 hmz hmc hpn
      go_loopw [3, 5] (fun v v5 wr => PadRel2 w s l v v5 wr) (fun _ v5 _ => (1 + intOf v5).toNat)
      case atStart => exact ⟨0, by omega, rfl, by simpa [numA] using hown, K⟩
      case round =>
        clear hown K hg hcm
        obtain ⟨j, hj, rfl, hown, K⟩ := hrel
        obtain ⟨g, cap, rfl, hg, hmc, hcm⟩ := own_slice hown (by have := HLL.out; omega)
        by_cases hlt : j < 8
        · obtain ⟨i, hi7, hij⟩ : ∃ i : Nat, 7 - (j : Int) = (i : Int) ∧ i + j = 7 := ⟨7 - j, by omega, by omega⟩
          rw [hi7]
          have hi8 : i ≤ 7 := by omega
          have HI := Go.Lib.hid hij
          have HI7 := Go.Lib.hid hi7
          clear hij hi7 hj
          go_wp2_with fail
          go_loopw [6, 7] (fun v6 v7 wx => PadRel3 wr bits8 i v6 v7 wx) (fun _ v7 _ => i - (intOf v7).toNat)
          case atStart => exact ⟨0, by omega, rfl, by simp, rfl⟩
          case round =>
            obtain ⟨wo, rfl⟩ : ∃ wo, wo = wr := ⟨_, rfl⟩
            obtain ⟨k, hk, rfl, rfl, rfl⟩ := hrel
            by_cases hki : k < i
            · obtain ⟨x, hx⟩ : ∃ x, x = bits8 / 256 ^ k := ⟨_, rfl⟩
              have hx2 : bits8 / 256 ^ (k + 1) = x / 256 := by rw [hx, Nat.pow_succ, Nat.div_div_eq_div_mul]
              have HX2 := Go.Lib.hid hx2
              have hxb : x ≤ 8796093022208 := by rw [hx]; exact Nat.le_trans (Nat.div_le_self _ _) hbb
              rw [← hx]
              clear hx hx2
              go_wp2_with fail
              go_roundw
              case rel => exact ⟨k + 1, by omega, by go_num, by rw [HX2.out]; first | rfl | simp, rfl⟩
              case measure => simp [intOf]; omega
            · obtain rfl : k = i := by omega
              obtain ⟨x, hx⟩ : ∃ x, x = bits8 / 256 ^ k := ⟨_, rfl⟩
              have hxb : x ≤ 8796093022208 := by rw [hx]; exact Nat.le_trans (Nat.div_le_self _ _) hbb
              rw [← hx]
              have HX := Go.Lib.hid hx
              clear hx
              have hsize := K.size
              go_wp2_with (at_builtin; refine wpList_append_own _ rfl (.tmp 36) (.tmp 40) 84 rfl w.heap.size 5 i0 _ 1 1 Try.underlying84 hi hz0 hz1 hz2 rfl (by decide) _ _ _ rfl (hown.alloc _) ⟨wo.heap.size, 0, none⟩ 1 1 [.int .u8 ((x : Int) % 256)] rfl rfl ?c1 ?c2 ?c3 ?c4 ?c5 ?_)
              case c1 =>
                intro j u hj
                match j, hj with
                | 0, hj => simp at hj; subst hj; simp [Addr.add]
              case c2 => intro u hu; simp at hu; subst hu; rfl
              case c3 => unfold maxLen; omega
              case c4 => omega
              case c5 => simp; omega
              intro v' w2 hown' hgrow _
              have R : w2.ownsRow w.heap.size 5 1 v' (l.length + (j + 1)) (byteCells (l ++ numA s.size (j + 1))) := by
                rw [numA_snoc, ← List.append_assoc, byteCells_snoc, show 7 - j = k from by have := HI.out; omega, numByte_eq _ _ hs, ← HB8.out, ← HX.out]
                exact hown'
              have K2 : Keeps [] w w2 := (K.alloc _).grown hgrow (fun k hk => (hown.lt k hk).1)
              obtain ⟨g', cap', rfl, _, _, _⟩ := own_slice R (by omega)
              clear hown' hgrow hown K
              go_wp2_with fail
              go_roundw
              case rel => exact ⟨j + 1, by have := HI.out; omega, by have := HI.out; simp; omega, R, K2⟩
              case measure => have := HI.out; simp [intOf]; omega
        · obtain rfl : j = 8 := by omega
          rw [show 7 - ((8 : Nat) : Int) = -1 from rfl]
          have hB : BytesAt wr g 0 ⟨(l ++ numA s.size 8).toArray⟩ := fun j hj => by
            have hj' : j < (l ++ numA s.size 8).length := hj
            have e : (⟨g, 0, none⟩ : Addr).add j = ⟨g, 0 + j, none⟩ := by unfold Addr.add; split <;> simp_all
            rw [← e]
            have := hown.cells rfl j (.int .u8 (strByte ⟨(l ++ numA s.size 8).toArray⟩ j)) (by
              unfold byteCells strByte
              rw [List.getElem?_map, List.getElem?_toArray, List.getElem?_eq_getElem hj']
              rfl)
            exact this
          have hn := HPN.out
          have hgl := (hown.lt g rfl).2
          rw [← HPL.out] at hB
          clear hown
          go_wp2_with fail
          go_ret
          exact ⟨g, cap, by rw [hn]; rfl, hg, hgl, by omega, hcm, hB, K⟩
end Go.Proofs.Ytkkbjkoikidjpaa
