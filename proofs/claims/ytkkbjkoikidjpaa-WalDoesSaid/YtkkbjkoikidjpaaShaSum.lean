/-
  sha: the sum.
-/
import Derived.Test.YtkkbjkoikidjpaaShaWrite
import Derived.Deep.AppendLies
namespace Go.Proofs.Ytkkbjkoikidjpaa
open Go.RowKit

theorem Keeps.grown {a w w' : World} {S : List Nat} {row : Option Nat} (h : Keeps S a w) (g : w.grownBy w' row) (hr : ∀ k, row = some k → a.heap.size ≤ k) : Keeps S a w' :=
  ⟨g.os.trans h.os, g.tape.trans h.tape, g.output.trans h.output, Nat.le_trans h.size g.size, fun j hj hn => (g.block j (Nat.lt_of_lt_of_le hj h.size) (fun e => by have := hr j e.symm; omega)).trans (h.block j hj hn)⟩
theorem infoU8 : (Try.prog.info? 5).map (fun i => (i.zero, i.size, i.bytes)) = some (some (.int .u8 0), 1, 1) := by kernel_rfl

def byteCells (l : List UInt8) : List Value := l.map fun b => Value.int .u8 b.toNat
theorem byteCells_snoc (l : List UInt8) (b : UInt8) : byteCells (l ++ [b]) = byteCells l ++ [.int .u8 b.toNat] := by simp [byteCells]
def u8 (n : Int) : UInt8 := UInt8.ofNat (n % 256).toNat
theorem u8_toNat (n : Int) : ((u8 n).toNat : Int) = n % 256 := by
  unfold u8
  rw [UInt8.toNat_ofNat']
  omega

set_option maxRecDepth 100000 in
set_option maxHeartbeats 4000000 in
theorem copy_c {w : World} {A : Nat} {st : List Int} {left : ByteArray} {n : Int} (hA : HashAt w A st left n) :
    Calls Try.prog 77 #[.pointer (some ⟨A, 0, none⟩)] w fun e w' => ∃ C, e = .returned (.pointer (some ⟨C, 0, none⟩)) ∧ w.heap.size ≤ C ∧ HashAt w' C st left n ∧ Keeps [] w w' := by
  have c0 := hA.word (i := 0) (by omega)
  have c1 := hA.word (i := 1) (by omega)
  have c2 := hA.word (i := 2) (by omega)
  have c3 := hA.word (i := 3) (by omega)
  have c4 := hA.word (i := 4) (by omega)
  have c5 := hA.word (i := 5) (by omega)
  have c6 := hA.word (i := 6) (by omega)
  have c7 := hA.word (i := 7) (by omega)
  have c8 := hA.left_
  have c9 := hA.n_
  have hl := list8 hA.len
  have HL := Go.Lib.hid hl
  have hlen := hA.len
  have hrng := hA.rng
  clear hl hA
  go_enter Try.func77, Try.ntmps77
  go_wp2
  go_still_tail 13, (by kernel_rfl)
  change wpList _ _ _ _ _ w.drew
  go_wp2
  go_ret
  refine ⟨w.heap.size, rfl, Nat.le_refl _, ⟨?_, hlen, hrng⟩, ((Keeps.refl _ _).drew).alloc _⟩
  show (w.alloc _).heap[w.heap.size]? = _
  clear c0 c1 c2 c3 c4 c5 c6 c7 c8 c9 HL hrng
  match st, hlen with
  | [_, _, _, _, _, _, _, _], _ => exact heap_alloc_same

def zerosOf (L : Nat) : Nat := (64 - (L + 9) % 64) % 64
theorem zerosOf_at (L m : Nat) (h1 : 1 ≤ m) (h2 : m ≤ 1 + zerosOf L) : ((0 : Int) < ((L : Int) + (m : Int) + 8) % 64 ∧ m < 1 + zerosOf L) ∨ (((L : Int) + (m : Int) + 8) % 64 = 0 ∧ m = 1 + zerosOf L) := by
  unfold zerosOf at *; omega
def padA (m : Nat) : List UInt8 := 128 :: List.replicate (m - 1) 0
theorem padA_len {m : Nat} (h : 1 ≤ m) : (padA m).length = m := by simp [padA]; omega
theorem padA_snoc {m : Nat} (h : 1 ≤ m) : padA (m + 1) = padA m ++ [0] := by
  obtain ⟨k, rfl⟩ : ∃ k, m = k + 1 := ⟨m - 1, by omega⟩
  unfold padA
  rw [show k + 1 + 1 - 1 = k + 1 from rfl, show k + 1 - 1 = k from rfl, List.replicate_succ']
  rfl
theorem own_slice {w : World} {base n : Nat} {v : Value} {xs : List Value} (h : w.ownsRow base 5 1 v n xs) (hn : 1 ≤ n) : ∃ g cap, v = .slice (some ⟨g, 0, none⟩) n cap ∧ base ≤ g ∧ n ≤ cap ∧ cap ≤ maxLen := by
  rcases h.2 with ⟨_, e⟩ | ⟨g, cap, cur, e, hb, _, hn, hm, _, _⟩
  · omega
  · exact ⟨g, cap, e, hb, hn, hm⟩

/-- A number's byte i, the least is byte 0. -/
def numByte (n : Int) (i : Nat) : UInt8 := u8 (IntKind.u64.wrap (n * 8) / 2 ^ (8 * i))
def numA (n : Int) (j : Nat) : List UInt8 := (List.range j).map fun k => numByte n (7 - k)
theorem numA_snoc (n : Int) (j : Nat) : numA n (j + 1) = numA n j ++ [numByte n (7 - j)] := by
  unfold numA; rw [List.range_succ, List.map_append]; rfl
def SumRel2 (w1 : World) (L : Nat) (n : Int) (v v5 : Value) (wr : World) : Prop := ∃ j : Nat, j ≤ 8 ∧ v5 = .int .i64 (7 - (j : Int)) ∧ wr.ownsRow w1.heap.size 5 1 v (1 + zerosOf L + j) (byteCells (padA (1 + zerosOf L) ++ numA n j)) ∧ Keeps [] w1 wr
/-- The bytes of the first words of a state. -/
def wordBytes (x : Int) : List UInt8 := [u8 (x / 16777216), u8 (x / 65536), u8 (x / 256), u8 x]
def outL (r : R8) : Nat → List UInt8
  | 0 => []
  | i + 1 => outL r i ++ wordBytes (r.at i)
theorem outL_len (r : R8) : ∀ i, (outL r i).length = 4 * i
  | 0 => rfl
  | i + 1 => by rw [outL, List.length_append, outL_len r i]; simp [wordBytes]; omega
def SumRel3 (w3 : World) (r : R8) (v v5 : Value) (wr : World) : Prop := ∃ i : Nat, i ≤ 8 ∧ v5 = .int .i64 i ∧ wr.ownsRow w3.heap.size 5 1 v (4 * i) (byteCells (outL r i)) ∧ Keeps [] w3 wr
theorem idx8s (r : R8) (i : Nat) (hi : i < 8) (w : World) : Sem.run Try.prog (Instr.index 104 (.agg #[.int .u32 r.a, .int .u32 r.b, .int .u32 r.c, .int .u32 r.d, .int .u32 r.e, .int .u32 r.f, .int .u32 r.g, .int .u32 r.h]) (.int .i64 (i : Int))) w = .ok (.int .u32 (r.at i)) w := by
  have h := Try.underlying104
  match i, hi with
  | 0, _ => simp [Instr.index, run_underlying h, asIntOf, go_sem, R8.at]
  | 1, _ => simp [Instr.index, run_underlying h, asIntOf, go_sem, R8.at]
  | 2, _ => simp [Instr.index, run_underlying h, asIntOf, go_sem, R8.at]
  | 3, _ => simp [Instr.index, run_underlying h, asIntOf, go_sem, R8.at]
  | 4, _ => simp [Instr.index, run_underlying h, asIntOf, go_sem, R8.at]
  | 5, _ => simp [Instr.index, run_underlying h, asIntOf, go_sem, R8.at]
  | 6, _ => simp [Instr.index, run_underlying h, asIntOf, go_sem, R8.at]
  | 7, _ => simp [Instr.index, run_underlying h, asIntOf, go_sem, R8.at]
/-- The sum of what was taken in: 32 bytes. -/
def sSum (st : List Int) (left : ByteArray) (n : Int) : ByteArray := ⟨(outL (r8 (sRest st (left ++ ⟨(padA (1 + zerosOf left.size) ++ numA n 8).toArray⟩)).1) 8).toArray⟩
theorem sSum_size (st : List Int) (left : ByteArray) (n : Int) : (sSum st left n).size = 32 := by
  show (outL _ 8).toArray.size = 32
  rw [List.size_toArray, outL_len]
def SumRel1 (w1 : World) (L : Nat) (v : Value) (wr : World) : Prop := ∃ m : Nat, 1 ≤ m ∧ m ≤ 1 + zerosOf L ∧ wr.ownsRow w1.heap.size 5 1 v m (byteCells (padA m)) ∧ Keeps [] w1 wr

set_option maxRecDepth 100000 in
set_option maxHeartbeats 4000000 in
theorem hsum_c {w : World} {A : Nat} {st : List Int} {left : ByteArray} {n : Int} (hA : HashAt w A st left n) (hl : left.size < 64) (hn1 : 0 ≤ n) (hn2 : n ≤ 4611686018427387904) :
    Calls Try.prog 71 #[.pointer (some ⟨A, 0, none⟩)] w fun e w' => e = .returned (.string (sSum st left n)) ∧ Keeps [] w w' := by
  obtain ⟨i0, hi, hz0, hz1, hz2⟩ := info_parts infoU8
  go_enter Try.func71, Try.ntmps71
  go_wp2_with fail
  refine (copy_c hA).mono ?_
  rintro e w1 ⟨C, rfl, hC, hc1, k1⟩
  have hA1 := hA.keep k1 (by simp)
  have K1 := k1
  clear k1 hA
  go_wp2_with fail
  go_loopw [4] (fun v wr => SumRel1 w1 left.size v wr) (fun v _ => 1 + zerosOf left.size - (match v with | .slice _ n _ => n | _ => 0))
  case atStart => exact ⟨1, by omega, by omega, ⟨by simp [byteCells, padA], .inr ⟨w1.heap.size, 1, _, rfl, Nat.le_refl _, heap_alloc_same, Nat.le_refl _, by decide, rfl, rfl⟩⟩, (Keeps.refl _ _).alloc _⟩
  case round =>
    obtain ⟨m, hm1, hm2, hown, K⟩ := hrel
    obtain ⟨g, cap, rfl, hg, hmc, hcm⟩ := own_slice hown hm1
    have c8 := (hA1.keep K (by simp)).left_
    have hmz : m ≤ 65 := by unfold zerosOf at hm2; omega
    rcases zerosOf_at left.size m hm1 hm2 with ⟨hz, hlt⟩ | ⟨hz, heq⟩
    · have hsize := K.size
      go_wp2_with (at_builtin; refine wpList_append_own _ rfl (.tmp 23) (.tmp 24) 84 rfl w1.heap.size 5 i0 _ 1 1 Try.underlying84 hi hz0 hz1 hz2 rfl (by decide) _ _ _ rfl (hown.alloc _) ⟨wr.heap.size, 0, none⟩ 1 1 [.int .u8 0] rfl rfl ?c1 ?c2 ?c3 ?c4 ?c5 ?_)
      case c1 =>
        intro j u hj
        match j, hj with
        | 0, hj => simp at hj; subst hj; simp [Addr.add]
      case c2 => intro u hu; simp at hu; subst hu; rfl
      case c3 => unfold maxLen; omega
      case c4 => omega
      case c5 => simp; omega
      intro v' w2 hown' hgrow _
      have R : w2.ownsRow w1.heap.size 5 1 v' (m + 1) (byteCells (padA (m + 1))) := by rw [padA_snoc hm1, byteCells_snoc]; exact hown'
      have K2 : Keeps [] w1 w2 := (K.alloc _).grown hgrow (fun k hk => (hown.lt k hk).1)
      obtain ⟨g', cap', rfl, _, _, _⟩ := own_slice R (by omega)
      clear hown' hgrow hown K
      go_wp2
      go_roundw
      case rel => exact ⟨m + 1, by omega, by omega, R, K2⟩
      case measure => simp; omega
    · subst heq
      have hzl : zerosOf left.size ≤ 63 := by unfold zerosOf; omega
      go_wp2_with fail
      go_loopw [4, 5] (fun v v5 wr => SumRel2 w1 left.size n v v5 wr) (fun _ v5 _ => (1 + intOf v5).toNat)
      case atStart => exact ⟨0, by omega, rfl, by simpa [numA] using hown, K⟩
      case round =>
        clear hown K c8 hz
        obtain ⟨j, hj, rfl, hown, K⟩ := hrel
        obtain ⟨g, cap, rfl, hg, hmc, hcm⟩ := own_slice hown (by omega)
        by_cases hlt : j < 8
        · have c9 := (hA1.keep K (by simp)).n_
          have hsize := K.size
          obtain ⟨i, hi7, hij⟩ : ∃ i : Nat, 7 - (j : Int) = (i : Int) ∧ i + j = 7 := ⟨7 - j, by omega, by omega⟩
          rw [hi7]
          have hi8 : i ≤ 7 := by omega
          have HI := Go.Lib.hid hij
          clear hij hi7
          go_wp2_with (at_builtin; refine wpList_append_own _ rfl (.tmp 30) (.tmp 41) 84 rfl w1.heap.size 5 i0 _ 1 1 Try.underlying84 hi hz0 hz1 hz2 rfl (by decide) _ _ _ rfl (hown.alloc _) ⟨wr.heap.size, 0, none⟩ 1 1 [.int .u8 (IntKind.u64.wrap (n * 8) / 2 ^ (8 * i) % 256)] rfl rfl ?c1 ?c2 ?c3 ?c4 ?c5 ?_)
          case c1 =>
            intro j u hj
            match j, hj with
            | 0, hj => simp at hj; subst hj; simp [Addr.add]
          case c2 => intro u hu; simp at hu; subst hu; rfl
          case c3 => unfold maxLen; omega
          case c4 => omega
          case c5 => simp; omega
          intro v' w2 hown' hgrow _
          have ei := HI.out
          have R : w2.ownsRow w1.heap.size 5 1 v' (1 + zerosOf left.size + (j + 1)) (byteCells (padA (1 + zerosOf left.size) ++ numA n (j + 1))) := by
            rw [numA_snoc, ← List.append_assoc, byteCells_snoc, show 7 - j = i from by omega]
            unfold numByte
            rw [u8_toNat]
            exact hown'
          have K2 : Keeps [] w1 w2 := (K.alloc _).grown hgrow (fun k hk => (hown.lt k hk).1)
          obtain ⟨g', cap', rfl, _, _, _⟩ := own_slice R (by omega)
          clear hown' hgrow hown K ei
          go_wp2_with fail
          go_roundw
          case rel =>
            have ei := HI.out
            exact ⟨j + 1, by omega, by simp; omega, R, K2⟩
          case measure => simp [intOf]; omega
        · obtain rfl : j = 8 := by omega
          obtain ⟨l, hlE⟩ : ∃ l, l = padA (1 + zerosOf left.size) ++ numA n 8 := ⟨_, rfl⟩
          have hN : l.length = 1 + zerosOf left.size + 8 := by rw [hlE, List.length_append, padA_len (by omega)]; simp [numA]
          rw [← hlE] at hown
          have HLE := Go.Lib.hid hlE
          clear hlE
          have hconv := run_convert_bytes_back (P := Try.prog) wr 84 9 5 ⟨g, 0, none⟩ cap l Try.underlying84 Try.underlying5 Try.underlying9 (fun j hj => hown.cells rfl j _ (by simp [byteCells, hj]))
          rw [hN] at hconv
          have hCr := hc1.keep K (by simp)
          rw [show 7 - ((8 : Nat) : Int) = -1 from rfl]
          go_wp2_with fail
          refine (write_c hCr ⟨l.toArray⟩ (by omega) (by show l.toArray.size ≤ _; simp; omega) hn1 hn2).mono ?_
          rintro e w3 ⟨rfl, hC3, k3⟩
          have K3 : Keeps [] w w3 := (K1.trans K).new k3 (by simp; omega)
          obtain ⟨st2, hst2⟩ : ∃ x, x = (sRest st (left ++ ⟨l.toArray⟩)).1 := ⟨_, rfl⟩
          rw [← hst2] at hC3
          generalize (sRest st (left ++ ⟨l.toArray⟩)).2 = left2 at hC3
          have HS := Go.Lib.hid hst2
          obtain ⟨r, hr⟩ : ∃ r, r = r8 st2 := ⟨_, rfl⟩
          have cells : w3.cell? ⟨C, 0, none⟩ = some (.int .u32 r.a) ∧ w3.cell? ⟨C, 1, none⟩ = some (.int .u32 r.b) ∧ w3.cell? ⟨C, 2, none⟩ = some (.int .u32 r.c) ∧ w3.cell? ⟨C, 3, none⟩ = some (.int .u32 r.d) ∧
              w3.cell? ⟨C, 4, none⟩ = some (.int .u32 r.e) ∧ w3.cell? ⟨C, 5, none⟩ = some (.int .u32 r.f) ∧ w3.cell? ⟨C, 6, none⟩ = some (.int .u32 r.g) ∧ w3.cell? ⟨C, 7, none⟩ = some (.int .u32 r.h) := by
            rw [hr]; exact ⟨hC3.word (by omega), hC3.word (by omega), hC3.word (by omega), hC3.word (by omega), hC3.word (by omega), hC3.word (by omega), hC3.word (by omega), hC3.word (by omega)⟩
          obtain ⟨x0, x1, x2, x3, x4, x5, x6, x7⟩ := cells
          have HR := Go.Lib.hid hr
          have hrr : ∀ i, U32 (r.at i) := by
            rw [hr]; intro i; unfold R8.at r8; split <;> exact hC3.rng _
          clear hr hst2 hown K hCr hconv hA1 hc1 hC3 k3
          go_wp2_with fail
          go_loopw [6, 51] (fun v v5 wr => SumRel3 w3 r v v5 wr) (fun _ v5 _ => 8 - (intOf v5).toNat)
          case atStart => exact ⟨0, by omega, rfl, World.ownsRow_nil _ _ _ _, Keeps.refl _ _⟩
          case round =>
            clear x0 x1 x2 x3 x4 x5 x6 x7
            obtain ⟨i, hi8, rfl, hown, K⟩ := hrel
            by_cases hlt : i < 8
            · have hidx := fun w => idx8s r i hlt w
              have hsize := K.size
              obtain ⟨q, hq⟩ : ∃ q, q = r.at i := ⟨_, rfl⟩
              obtain ⟨hq1, hq2⟩ := hrr i
              rw [← hq] at hidx hq1 hq2
              have HQ := Go.Lib.hid hq
              clear hq
              go_wp2_with (at_builtin; refine wpList_append_own _ rfl (.tmp 54) (.tmp 66) 84 rfl w3.heap.size 5 i0 _ 1 1 Try.underlying84 hi hz0 hz1 hz2 rfl (by decide) _ _ _ rfl (hown.alloc _) ⟨wr.heap.size, 0, none⟩ 4 4 [.int .u8 (q / 16777216), .int .u8 (q / 65536 % 256), .int .u8 (q / 256 % 256), .int .u8 (q % 256)] rfl rfl ?c1 ?c2 ?c3 ?c4 ?c5 ?_)
              case c1 =>
                intro j u hj
                match j, hj with
                | 0, hj => simp at hj; subst hj; simp [Addr.add]
                | 1, hj => simp at hj; subst hj; simp [Addr.add]
                | 2, hj => simp at hj; subst hj; simp [Addr.add]
                | 3, hj => simp at hj; subst hj; simp [Addr.add]
              case c2 => intro u hu; simp at hu; rcases hu with rfl | rfl | rfl | rfl <;> rfl
              case c3 => unfold maxLen; omega
              case c4 => omega
              case c5 => simp; omega
              intro v' w2 hown' hgrow _
              have eq := HQ.out
              have R : w2.ownsRow w3.heap.size 5 1 v' (4 * (i + 1)) (byteCells (outL r (i + 1))) := by
                have e : byteCells (outL r (i + 1)) = byteCells (outL r i) ++ [.int .u8 (q / 16777216), .int .u8 (q / 65536 % 256), .int .u8 (q / 256 % 256), .int .u8 (q % 256)] := by
                  rw [outL, ← eq, byteCells, List.map_append]
                  simp only [wordBytes, List.map_cons, List.map_nil, u8_toNat]
                  rw [show q / 16777216 % 256 = q / 16777216 from by omega]
                  rfl
                rw [e]
                exact hown'
              have K2 : Keeps [] w3 w2 := (K.alloc _).grown hgrow (fun k hk => (hown.lt k hk).1)
              obtain ⟨g', cap', rfl, _, _, _⟩ := own_slice R (by omega)
              clear hown' hgrow hown K eq
              go_wp2_with fail
              go_roundw
              case rel => exact ⟨i + 1, by omega, by go_num, R, K2⟩
              case measure => simp [intOf]; omega
            · obtain rfl : i = 8 := by omega
              obtain ⟨g', cap', rfl, _, _, _⟩ := own_slice hown (by omega)
              have hN2 := outL_len r 8
              have hconv := run_convert_bytes_back (P := Try.prog) wr 84 9 5 ⟨g', 0, none⟩ cap' (outL r 8) Try.underlying84 Try.underlying5 Try.underlying9 (fun j hj => hown.cells rfl j _ (by simp [byteCells, hj]))
              rw [hN2] at hconv
              obtain ⟨out, hout⟩ : ∃ x, x = outL r 8 := ⟨_, rfl⟩
              rw [← hout] at hconv
              have HO := Go.Lib.hid hout
              clear hown hout hN2
              go_wp2_with fail
              go_ret
              refine ⟨?_, K3.trans K⟩
              have e1 := HO.out
              have e2 := HR.out
              have e3 := HS.out
              have e4 := HLE.out
              unfold sSum
              rw [← e4, ← e3, ← e2, ← e1]
              rfl
end Go.Proofs.Ytkkbjkoikidjpaa
