/-
  The wal laws' 'Cut': a script of the call's own, of small calls.
-/
import Derived.Test.YtkkbjkoikidjpaaWalStart
import Derived.Deep.AppendLies
namespace Go.Proofs.Ytkkbjkoikidjpaa
open Go.RowKit

/-- A call of a script. -/
structure WOp where
  kind : Int
  s : ByteArray
  la : Option Addr
  lcap : Nat
  l : List ByteArray
  n : Int
  ka : Option Addr
  kcap : Nat
  keep : List Int
def WOp.cells (o : WOp) : List Value := [.int .i64 o.kind, .string o.s, .slice o.la o.l.length o.lcap, .int .i64 o.n, .slice o.ka o.keep.length o.kcap]
def wCells (l : List WOp) : List Value := l.flatMap WOp.cells
theorem infoOp : (Try.prog.info? 34).map (fun i => (i.zero, i.size, i.bytes)) = some (some (.agg #[.int .i64 0, .string ⟨#[]⟩, .slice none 0 0, .int .i64 0, .slice none 0 0]), 5, 80) := by kernel_rfl
theorem length_wCells (l : List WOp) : (wCells l).length = l.length * 5 := by
  induction l with
  | nil => rfl
  | cons p l ih => simp only [wCells, List.flatMap_cons, List.length_append, List.length_cons] at *; rw [ih]; simp [WOp.cells]; omega
theorem wCells_snoc (l : List WOp) (p : WOp) : wCells (l ++ [p]) = wCells l ++ p.cells := by simp [wCells, List.flatMap_append]
theorem wCells_at (l : List WOp) (i : Nat) (hi : i < l.length) (j : Nat) (hj : j < 5) : (wCells l)[i * 5 + j]? = l[i].cells[j]? := by
  induction l generalizing i with
  | nil => simp at hi
  | cons p l ih =>
    simp only [wCells, List.flatMap_cons]
    have hp : p.cells.length = 5 := rfl
    match i with
    | 0 => rw [List.getElem?_append_left (by rw [hp]; omega)]; simp
    | i + 1 =>
      rw [List.getElem?_append_right (by rw [hp]; omega), hp]
      have := ih i (by simpa using hi)
      simp only [wCells] at this
      rw [show (i + 1) * 5 + j - 5 = i * 5 + j from by omega, this]
      simp

/-- Strings that lie in a block with p. -/
structure StrsP (w : World) (p : Nat → Prop) (a : Option Addr) (l : List ByteArray) : Prop where
  cell : ∀ i (h : i < l.length), ∃ b o, a = some ⟨b, o, none⟩ ∧ p b ∧ w.cell? ⟨b, o + i, none⟩ = some (.string l[i])
  rng : ∀ x ∈ l, x.size ≤ 9223372036854775807
  small : l.length ≤ 9223372036854775807
theorem StrsP.keep {w w' : World} {p q : Nat → Prop} {a : Option Addr} {l : List ByteArray} {S : List Nat} (h : StrsP w p a l) (k : Keeps S w w') (hS : ∀ b, b < w.heap.size → p b → b ∉ S) (hq : ∀ b, b < w.heap.size → p b → q b) : StrsP w' q a l :=
  ⟨fun i hi => by
    obtain ⟨b, o, rfl, hp, hc⟩ := h.cell i hi
    have hb := World.block_lt_of_cell? w ⟨b, o + i, none⟩ hc
    exact ⟨b, o, rfl, hq b hb hp, by rw [k.cell hb (hS b hb hp)]; exact hc⟩, h.rng, h.small⟩
theorem IntsAt.keepP {w w' : World} {p q : Nat → Prop} {a : Option Addr} {xs : List Int} {S : List Nat} (h : IntsAt w p a xs) (k : Keeps S w w') (hS : ∀ b, b < w.heap.size → p b → b ∉ S) (hq : ∀ b, b < w.heap.size → p b → q b) : IntsAt w' q a xs :=
  ⟨fun i hi => by
    obtain ⟨b, o, rfl, hp, hc⟩ := h.cell i hi
    have hb := World.block_lt_of_cell? w ⟨b, o + i, none⟩ hc
    exact ⟨b, o, rfl, hq b hb hp, by rw [k.cell hb (hS b hb hp)]; exact hc⟩, h.small, h.bound⟩
/-- What a call's rows are in memory. -/
structure WOp.at (o : WOp) (w : World) (p : Nat → Prop) : Prop where
  strs : StrsP w p o.la o.l
  ints : IntsAt w p o.ka o.keep
theorem WOp.at.keep {o : WOp} {w w' : World} {p q : Nat → Prop} {S : List Nat} (h : o.at w p) (k : Keeps S w w') (hS : ∀ b, b < w.heap.size → p b → b ∉ S) (hq : ∀ b, b < w.heap.size → p b → q b) : o.at w' q := ⟨h.strs.keep k hS hq, h.ints.keepP k hS hq⟩
/-- A call whose records are a row that was made. -/
structure WOp.rowed (o : WOp) (w : World) (p : Nat → Prop) : Prop where
  lies : o.at w p
  row : ∃ b, o.la = some ⟨b, 0, none⟩ ∧ p b ∧ b < w.heap.size
theorem WOp.rowed.keep {o : WOp} {w w' : World} {p q : Nat → Prop} {S : List Nat} (h : o.rowed w p) (k : Keeps S w w') (hS : ∀ b, b < w.heap.size → p b → b ∉ S) (hq : ∀ b, b < w.heap.size → p b → q b) : o.rowed w' q :=
  ⟨h.lies.keep k hS hq, by
    obtain ⟨b, e, hp, hb⟩ := h.row
    exact ⟨b, e, hq b hb hp, Nat.lt_of_lt_of_le hb k.size⟩⟩
theorem WOp.rowed.rowOf {o : WOp} {w : World} {p : Nat → Prop} (h : o.rowed w p) : RowOf w (.slice o.la o.l.length o.lcap) o.l := by
  obtain ⟨b, e, _, hb⟩ := h.row
  refine .inr ⟨b, 0, o.lcap, by rw [e], hb, fun i hi => ?_⟩
  obtain ⟨b2, o2, e2, _, hc⟩ := h.lies.strs.cell i hi
  rw [e] at e2
  cases e2
  exact hc
/-- A script that lies in blocks with p. -/
structure WOpsAt (w : World) (p : Nat → Prop) (a : Option Addr) (l : List WOp) : Prop where
  cell : ∀ i (h : i < l.length), ∃ b o, a = some ⟨b, o, none⟩ ∧ p b ∧ ∀ j (_ : j < 5), w.cell? ⟨b, o + i * 5 + j, none⟩ = l[i].cells[j]?
  rng : ∀ o ∈ l, inI64 o.kind ∧ inI64 o.n ∧ o.s.size ≤ 9223372036854775807 ∧ o.keep.length ≤ o.kcap ∧ o.kcap ≤ 9223372036854775807 ∧ o.l.length ≤ 9223372036854775807
  rows : ∀ o ∈ l, o.at w p
  small : l.length ≤ 9223372036854775807
theorem WOpsAt.keep {w w' : World} {p q : Nat → Prop} {a : Option Addr} {l : List WOp} {S : List Nat} (h : WOpsAt w p a l) (k : Keeps S w w') (hS : ∀ b, b < w.heap.size → p b → b ∉ S) (hq : ∀ b, b < w.heap.size → p b → q b) : WOpsAt w' q a l :=
  ⟨fun i hi => by
    obtain ⟨b, o, rfl, hp, hc⟩ := h.cell i hi
    have hb := World.block_lt_of_cell? w ⟨b, o + i * 5 + 0, none⟩ ((hc 0 (by omega)).trans rfl)
    exact ⟨b, o, rfl, hq b hb hp, fun j hj => by rw [k.cell hb (hS b hb hp)]; exact hc j hj⟩, h.rng, fun o ho => (h.rows o ho).keep k hS hq, h.small⟩
/-- A small call. -/
structure WOp.Small (o : WOp) : Prop where
  kind : inI64 o.kind
  n : inI64 o.n
  s : o.s.size ≤ 300
  l : o.l.length ≤ 6
  x : ∀ x ∈ o.l, x.size ≤ 300
  keep : o.keep.length ≤ o.kcap
  kcap : o.kcap ≤ 9223372036854775807

theorem all_snoc2 {l : List ByteArray} {c : ByteArray} {n : Nat} (h : ∀ x ∈ l, x.size ≤ n) (hc : c.size ≤ n) : ∀ x ∈ l ++ [c], x.size ≤ n := by
  intro x hx
  rcases List.mem_append.1 hx with hx | hx
  · exact h x hx
  · simp at hx; rw [hx]; exact hc
theorem own_keep {w w' : World} {base size n : Nat} {e : TypeId} {v : Value} {xs : List Value} {S : List Nat} (h : w.ownsRow base e size v n xs) (k : Keeps S w w') (hS : ∀ g, v.ownBlock = some g → g ∉ S) : w'.ownsRow base e size v n xs := by
  refine ⟨h.1, ?_⟩
  rcases h.2 with ⟨e, h0⟩ | ⟨g, cap, cur, e, hb, hg, hr⟩
  · exact .inl ⟨e, h0⟩
  · exact .inr ⟨g, cap, cur, e, hb, k.heap (hS g (by rw [e]; rfl)) hg, hr⟩
/-- An own row of strings, as a call's row. -/
theorem StrRow.strsP {w : World} {base : Nat} {a : Option Addr} {n c : Nat} {l : List ByteArray} (h : StrRow w base (.slice a n c) l) (hs : ∀ x ∈ l, x.size ≤ 300) (hl : l.length ≤ 30) : StrsP w (fun b => base ≤ b ∧ b < w.heap.size) a l := by
  refine ⟨fun i hi => ?_, fun x hx => by have := hs x hx; omega, by omega⟩
  rcases h.form with ⟨_, h0⟩ | ⟨g, cap, e, hb, hg, _, _⟩
  · rw [h0] at hi; exact absurd hi (Nat.not_lt_zero _)
  · injection e with e1 e2 e3
    subst e1
    exact ⟨g, 0, rfl, ⟨hb, hg⟩, by rw [Nat.zero_add]; exact h.cell hi⟩
/-- What holds at a round's head. -/
def CutRel (w0 : World) (len : Nat) (v5 v6 : Value) (wr : World) : Prop :=
  ∃ (k : Nat) (l' : List WOp), k ≤ len ∧ k ≤ 30 ∧ v6 = .int .i64 k ∧ l'.length = k ∧ wr.ownsRow w0.heap.size 34 5 v5 k (wCells l') ∧
    (∀ o ∈ l', o.Small ∧ o.rowed wr (fun b => b < wr.heap.size ∧ ¬ v5.ownBlock = some b)) ∧ Keeps [] w0 wr
/-- The call in hand. -/
def OpBlk (w : World) (X : Nat) (o : WOp) : Prop := w.heap[X]? = some (.cells o.cells.toArray 34 (0, 0))
def CutMid (w1 : World) (X : Nat) (o : WOp) (wx : World) : Prop := OpBlk wx X o ∧ Keeps [X] w1 wx
/-- What holds at a round's head of the inner loop. -/
def CutRel2 (w1 : World) (len : Nat) (v8 v9 : Value) (wr : World) : Prop :=
  ∃ (k : Nat) (recs : List ByteArray), k ≤ len ∧ k ≤ 6 ∧ v9 = .int .i64 k ∧ recs.length = k ∧ StrRow wr w1.heap.size v8 recs ∧ (∀ x ∈ recs, x.size ≤ 300) ∧ Hid (∃ g c, v8 = .slice (some ⟨g, 0, none⟩) recs.length c) ∧ Keeps [] w1 wr
def CutMid2 (w1 : World) (v8 : Value) (wr : World) : Prop :=
  ∃ (recs : List ByteArray), recs.length ≤ 6 ∧ StrRow wr w1.heap.size v8 recs ∧ (∀ x ∈ recs, x.size ≤ 300) ∧ Hid (∃ g c, v8 = .slice (some ⟨g, 0, none⟩) recs.length c) ∧ Keeps [] w1 wr

/-- The cells of a row of calls, as calls. -/
theorem wops_of_own {w : World} {base : Nat} {v : Value} {l : List WOp} (h : w.ownsRow base 34 5 v l.length (wCells l)) (ha : ∀ o ∈ l, o.Small ∧ o.rowed w (fun b => b < w.heap.size ∧ ¬ v.ownBlock = some b)) (hs : l.length ≤ 9223372036854775807) :
    ∃ a cap, v = .slice a l.length cap ∧ WOpsAt w (· < w.heap.size) a l := by
  have hrng : ∀ o ∈ l, inI64 o.kind ∧ inI64 o.n ∧ o.s.size ≤ 9223372036854775807 ∧ o.keep.length ≤ o.kcap ∧ o.kcap ≤ 9223372036854775807 ∧ o.l.length ≤ 9223372036854775807 := fun o ho => by
    have S := (ha o ho).1
    have h1 := S.s
    have h2 := S.l
    exact ⟨S.kind, S.n, by omega, S.keep, S.kcap, by omega⟩
  have hrows : ∀ o ∈ l, o.at w (· < w.heap.size) := fun o ho => (ha o ho).2.lies.keep (Keeps.refl [] w) (fun _ _ _ => by simp) (fun _ _ hb => hb.1)
  obtain ⟨_, hv⟩ := id h
  rcases hv with ⟨rfl, h0⟩ | ⟨g, cap, cur, rfl, hb, hg, h1, h2, h3, h4⟩
  · refine ⟨none, 0, by rw [h0], fun i hi => absurd hi (by omega), hrng, hrows, hs⟩
  · refine ⟨_, _, rfl, fun i hi => ⟨g, 0, rfl, lt_of_heap hg, fun j hj => ?_⟩, hrng, hrows, hs⟩
    rw [show 0 + i * 5 + j = i * 5 + j from by omega, ← wCells_at l i hi j hj, ← h4]
    rw [cell_of_heap hg, List.getElem?_take_of_lt (by omega)]
    simp
/-- What a round leaves. -/
theorem cut_round {w0 wo w7 w9 : World} {len k X g cap9 : Nat} {u5 : Value} {l' : List WOp} {o' : WOp} {c : Obj} (hK : Keeps [] w0 wo) (hX : X = wo.heap.size) (hk : k < len) (hk30 : k < 30) (hl' : l'.length = k)
    (hall : ∀ o ∈ l', o.Small ∧ o.rowed wo (fun b => b < wo.heap.size ∧ ¬ u5.ownBlock = some b)) (hv5 : ∀ q, u5.ownBlock = some q → w0.heap.size ≤ q ∧ q < wo.heap.size) (K8 : Keeps [X] wo w7)
    (hown9 : w9.ownsRow w0.heap.size 34 5 (.slice (some ⟨g, 0, none⟩) (k + 1) cap9) (k + 1) (wCells l' ++ o'.cells)) (hgrow9 : (w7.alloc c).grownBy w9 u5.ownBlock) (hat9 : u5.ownBlock = some g ∨ g = w7.heap.size + 1)
    (ho : o'.Small) (hs : StrsP w7 (fun b => wo.heap.size < b ∧ b < w7.heap.size) o'.la o'.l)
    (hrw : ∃ b, o'.la = some ⟨b, 0, none⟩ ∧ wo.heap.size < b ∧ b < w7.heap.size) (hi : IntsAt wo (· < w0.heap.size) o'.ka o'.keep) :
    CutRel w0 len (.slice (some ⟨g, 0, none⟩) (k + 1) cap9) (.int .i64 ((k : Int) + 1)) w9 := by
  have hs0 := hK.size
  have hs8 := K8.size
  have KA : Keeps [] w7 (w7.alloc c) := (Keeps.refl _ _).alloc _
  have KG := Keeps.ofGrown hgrow9
  have hsA := KA.size
  have hsG := KG.size
  have K9 : Keeps ([X] ++ u5.ownBlock.toList) wo w9 := ((K8.trans (KA.sub (by simp))).sub (by simp)).trans (KG.sub (by simp; intro j hj; exact .inr hj))
  have hne : ∀ b, b < wo.heap.size ∧ ¬ u5.ownBlock = some b → b ∉ [X] ++ u5.ownBlock.toList := fun b hb hm => by
    simp at hm
    rcases hm with e | e
    · omega
    · exact hb.2 e
  have hg : w0.heap.size ≤ g := by
    rcases hat9 with e | e
    · exact (hv5 g e).1
    · omega
  have hgo : ∀ b, b < wo.heap.size → ¬ u5.ownBlock = some b → ¬ (Value.slice (some ⟨g, 0, none⟩) (k + 1) cap9).ownBlock = some b := fun b hb hn e => by
    have e2 : g = b := by simpa [Value.ownBlock] using e
    subst e2
    rcases hat9 with h | h
    · exact hn h
    · omega
  refine ⟨k + 1, l' ++ [o'], by omega, by omega, by simp, by simp; exact hl', by rw [wCells_snoc]; exact hown9, ?_, ?_⟩
  · intro o hm
    rcases List.mem_append.1 hm with hm | hm
    · obtain ⟨S, A⟩ := hall o hm
      exact ⟨S, A.keep K9 (fun b _ hb => hne b hb) (fun b hb hp => ⟨by omega, hgo b hp.1 hp.2⟩)⟩
    · simp at hm
      subst hm
      refine ⟨ho, ⟨hs.keep (KA.sub (S' := u5.ownBlock.toList) (by simp) |>.trans KG) ?_ ?_, hi.keepP K9 ?_ ?_⟩, ?_⟩
      · intro b _ hb hm
        simp at hm
        have := (hv5 b hm).2
        omega
      · intro b hb hp
        refine ⟨by omega, fun e => ?_⟩
        have e2 : g = b := by simpa [Value.ownBlock] using e
        subst e2
        rcases hat9 with h | h
        · have := (hv5 g h).2; omega
        · omega
      · intro b hb hp
        exact hne b ⟨hb, fun e => by have := (hv5 b e).1; omega⟩
      · intro b hb hp
        refine ⟨by omega, fun e => ?_⟩
        have e2 : g = b := by simpa [Value.ownBlock] using e
        omega
      · obtain ⟨b, e, hb1, hb2⟩ := hrw
        refine ⟨b, e, ⟨by omega, fun e => ?_⟩, by omega⟩
        have e2 : g = b := by simpa [Value.ownBlock] using e
        rcases hat9 with h | h
        · have := (hv5 g h).2; omega
        · omega
  · refine ⟨hgrow9.os.trans (KA.os.trans (K8.os.trans hK.os)), hgrow9.tape.trans (KA.tape.trans (K8.tape.trans hK.tape)), hgrow9.output.trans (KA.output.trans (K8.output.trans hK.output)), by omega, fun j hj hn => ?_⟩
    rw [K9.block j (by omega) (fun hm => by
      simp at hm
      rcases hm with e | e
      · omega
      · have := (hv5 j e).1; omega)]
    exact hK.block j hj hn

set_option maxRecDepth 100000 in
set_option maxHeartbeats 20000000 in
theorem cut_c {w : World} (a : Option Addr) (cap : Nat) (l : List WOp) (hl : WOpsAt w (· < w.heap.size) a l) :
    Calls Try.prog 8 #[.slice a l.length cap, .int .i64 30] w fun e w' => ∃ a' cap' l', e = .returned (.slice a' l'.length cap') ∧ WOpsAt w' (· < w'.heap.size) a' l' ∧ l'.length ≤ 30 ∧ (∀ o ∈ l', o.Small ∧ o.rowed w' (· < w'.heap.size)) ∧ Keeps [] w w' := by
  have hsm := hl.small
  obtain ⟨i0, hi, hz0, hz1, hz2⟩ := info_parts infoOp
  go_enter Try.func8, Try.ntmps8
  go_wp2_with fail
  go_loopw [5, 6] (fun v5 v6 wr => CutRel w l.length v5 v6 wr) (fun _ v6 _ => l.length - (intOf v6).toNat)
  case atStart => exact ⟨0, [], Nat.zero_le _, Nat.zero_le _, rfl, rfl, World.ownsRow_made _ _ _ (Nat.le_refl _) (by decide) rfl, (fun o ho => by simp at ho), (Keeps.refl _ _).alloc _⟩
  case round =>
    obtain ⟨wo, rfl⟩ : ∃ wo, wo = wr := ⟨_, rfl⟩
    obtain ⟨k, l', hk, hk30, rfl, hl', hown, hall, K⟩ := hrel
    by_cases hin : k < l.length ∧ k < 30
    · obtain ⟨hlt, hlt30⟩ := hin
      have hl2 := hl.keep K (fun _ _ _ => by simp) (q := (· < w.heap.size)) (fun _ _ h => h)
      obtain ⟨b, o, rfl, hbB, hc⟩ := hl2.cell k hlt
      have hrows := hl2.rows _ (List.getElem_mem hlt)
      have hrng := hl2.rng _ (List.getElem_mem hlt)
      obtain ⟨op, hop⟩ : ∃ op, op = l[k] := ⟨_, rfl⟩
      rw [← hop] at hc hrows hrng
      have c0 : wo.cell? ⟨b, o + k * 5, none⟩ = some (.int .i64 op.kind) := hc 0 (by omega)
      have c1 : wo.cell? ⟨b, o + k * 5 + 1, none⟩ = some (.string op.s) := hc 1 (by omega)
      have c2 : wo.cell? ⟨b, o + k * 5 + 2, none⟩ = some (.slice op.la op.l.length op.lcap) := hc 2 (by omega)
      have c3 : wo.cell? ⟨b, o + k * 5 + 3, none⟩ = some (.int .i64 op.n) := hc 3 (by omega)
      have c4 : wo.cell? ⟨b, o + k * 5 + 4, none⟩ = some (.slice op.ka op.keep.length op.kcap) := hc 4 (by omega)
      have HL := Go.Lib.hid hl'
      have HALL := Go.Lib.hid hall
      have HOWN := Go.Lib.hid hown
      have HROWS := Go.Lib.hid hrows
      have HRNG := Go.Lib.hid hrng
      clear hl hl2 hc hop hl' hall hown hrows hrng
      go_upto_region 6 with fail
      obtain ⟨X, hX⟩ : ∃ X, X = wo.heap.size := ⟨_, rfl⟩
      obtain ⟨w3, hw3⟩ : ∃ w3, w3 = wo.alloc (.cells #[.int .i64 op.kind, .string op.s, .slice op.la op.l.length op.lcap, .int .i64 op.n, .slice op.ka op.keep.length op.kcap] 34) := ⟨_, rfl⟩
      have hB3 : OpBlk w3 X op := by rw [hw3, hX]; exact heap_alloc_same
      have K3 : Keeps [] wo w3 := by rw [hw3]; exact (Keeps.refl _ _).alloc _
      have hs3 : w3.heap.size = X + 1 := by rw [hw3, hX]; simp
      rw [← hX, ← hw3]
      have HX := Go.Lib.hid hX
      have HR := Go.Lib.hid HRNG.out
      have hk9 := HRNG.out.2.2.2.1
      have hk63 := HRNG.out.2.2.2.2.1
      have hs63 := HRNG.out.2.2.1
      clear hw3 hX HR
      go_cut [] (fun wx => CutMid w3 X { op with s := cutS 300 op.s } wx)
      case first =>
        have d1 : w3.cell? ⟨X, 1, none⟩ = some (.string op.s) := (cell_of_heap hB3).trans rfl
        have z1 : w3.frozen? ⟨X, 1, none⟩ = false := frozen_of_heap hB3
        by_cases h3 : op.s.size ≤ 300
        · have E1 := Go.Lib.hid (cutS_small h3)
          go_wp2_with fail
          go_meet
          case rel => exact ⟨by show (w3.setCell _ _).heap[X]? = _; rw [heap_setCell_same hB3, ← E1.out]; rfl, (Keeps.refl _ _).setCell (.inl (by simp)) _⟩
        · have E1 := Go.Lib.hid (cutS_big h3)
          have h3' : 300 < op.s.size := by omega
          go_wp2_with fail
          go_meet
          case rel => exact ⟨by show (w3.setCell _ _).heap[X]? = _; rw [heap_setCell_same hB3, ← E1.out]; rfl, (Keeps.refl _ _).setCell (.inl (by simp)) _⟩
      case rest =>
        obtain ⟨hB4, k4⟩ := hcut
        go_upto_region 7 with fail
        go_cut [] (fun wx => CutMid wc X { op with s := cutS 300 op.s, keep := op.keep.take 9 } wx)
        case first =>
          have d4 : wc.cell? ⟨X, 4, none⟩ = some (.slice op.ka op.keep.length op.kcap) := (cell_of_heap hB4).trans rfl
          have z4 : wc.frozen? ⟨X, 4, none⟩ = false := frozen_of_heap hB4
          by_cases h3 : op.keep.length ≤ 9
          · have E1 : Hid ((op.keep.take 9).length = op.keep.length) := by show _ = _; rw [List.length_take]; omega
            go_wp2_with fail
            go_meet
            case rel => exact ⟨by show (World.setCell _ _ _).heap[X]? = _; rw [heap_setCell_same hB4]; simp only [WOp.cells]; rw [E1.out]; rfl, (Keeps.refl _ _).setCell (.inl (by simp)) _⟩
          · have E1 : Hid ((op.keep.take 9).length = 9) := by show _ = _; rw [List.length_take]; omega
            have h3' : 9 < op.keep.length := by omega
            go_wp2_with fail
            go_meet
            case rel => exact ⟨by show (World.setCell _ _ _).heap[X]? = _; rw [heap_setCell_same hB4]; simp only [WOp.cells]; rw [E1.out]; rfl, (Keeps.refl _ _).setCell (.inl (by simp)) _⟩
        case rest =>
          obtain ⟨hB5, k5⟩ := hcut
          have K5 : Keeps [X] wo wc := ((K3.sub (by simp)).trans k4).trans k5
          have hXw : w.heap.size ≤ X := by have h1 := K.size; have h2 := HX.out; omega
          have hs5 := k5.size
          have hso5 := K5.size
          have hs4 := k4.size
          have hbX : b ≠ X := by omega
          have hbw := World.block_lt_of_cell? wo ⟨b, o + k * 5, none⟩ c0
          have e2 := (K5.cell hbw (by simpa using hbX)).trans c2
          have HB5 := Go.Lib.hid hB5
          have own0 : StrRow (wc.alloc (.cells #[] 9)) wc.heap.size (.slice (some ⟨wc.heap.size, 0, none⟩) 0 0) [] := World.ownsRow_made _ _ _ (Nat.le_refl _) (by decide) rfl
          clear c0 c1 c2 c3 c4 hB3 hB4 hB5 k4 k5
          go_upto_block 2 with fail
          go_cut [8] (fun v8 wx => CutMid2 wc v8 wx)
          case first =>
            go_wp2_with fail
            go_loopw [8, 9] (fun v8 v9 wr => CutRel2 wc op.l.length v8 v9 wr) (fun _ v9 _ => op.l.length - (intOf v9).toNat)
            case atStart => exact ⟨0, [], Nat.zero_le _, Nat.zero_le _, rfl, rfl, own0, (fun x hx => by simp at hx), Go.Lib.hid ⟨_, _, rfl⟩, (Keeps.refl _ _).alloc _⟩
            case round =>
              clear own0
              obtain ⟨k2, recs, hk2, hk6, rfl, hrl, hrow, hall2, HV8, K2⟩ := hrel
              have hs2 := K2.size
              have hsk := K.size
              have e3 := (K2.cell (by omega) (by simp)).trans e2
              clear e2
              have HIL := Go.Lib.hid hrl
              have HALL2 := Go.Lib.hid hall2
              have hrl6 : recs.length ≤ 6 := by omega
              clear hrl hall2
              by_cases hin2 : k2 < op.l.length ∧ k2 < 6
              · obtain ⟨hlt2, hlt6⟩ := hin2
                go_upto_region 12 with fail
                have hst := HROWS.out.strs
                obtain ⟨b2, o2, ela, hb2, hcx⟩ := hst.cell k2 hlt2
                have hsz := hst.rng _ (List.getElem_mem hlt2)
                have hb2w := World.block_lt_of_cell? wo ⟨b2, o2 + k2, none⟩ hcx
                have e4 := (K2.cell (by omega) (by simp)).trans ((K5.cell hb2w (by simp; omega)).trans hcx)
                rw [ela] at e3
                generalize op.l[k2] = x at *
                have hrowA := fun (w' : World) (k : Keeps [] wr w') => hrow.keep k (fun _ _ => by simp)
                have hv8 := World.ownsRow.lt hrow
                clear hrow hst hcx
                by_cases h3 : x.size ≤ 300
                · have E15 := Go.Lib.hid h3
                  have q1 : ((300 : Int) < (x.size : Int)) = False := by simp; omega
                  go_region_held3 (fun w' => w'.cell? ⟨b, o + k * 5 + 2, none⟩ = some (.slice (some ⟨b2, o2, none⟩) op.l.length op.lcap) ∧ w'.cell? ⟨b2, o2 + k2, none⟩ = some (.string x))
                    (first | go_keep | (go_split_ands; exact ⟨by rw [hw.cell_far _ (by simp; omega) (fun e => by have := hv8 b e.symm; omega)]; assumption, by rw [hw.cell_far _ (by simp; omega) (fun e => by have := hv8 b2 e.symm; omega)]; assumption⟩))
                    ((refine step_append_str (by rfl) _ _ (by rfl) wc.heap.size _ recs (by rfl) (hrowA _ ((Keeps.refl [] wr).drew.alloc _)) ⟨wr.heap.size, 0, none⟩ (x) (by rfl) (by simp) (by omega) (by simp; omega) ?_; intro g cap6 w6 hg hw hor6))
                  have K6 : Keeps [] wc w6 := ((K2.drew.alloc _).grown hw (fun q hq => by have := hv8 q hq; omega))
                  have hg6 : StrRow w6 wc.heap.size (.slice (some ⟨g, 0, none⟩) (recs.length + 1) cap6) (recs ++ [x]) := hg
                  clear hrowA hv8 hw hor6 K2 hg
                  go_wp2_with fail
                  go_roundw
                  case rel => exact ⟨k2 + 1, recs ++ [x], by omega, by omega, by go_num, by simp; exact HIL.out, by simpa using hg6, all_snoc2 HALL2.out E15.out, Go.Lib.hid ⟨g, cap6, by simp⟩, K6⟩
                  case measure => simp [intOf]; omega
                · have E15 : Hid ((x.extract 0 300).size ≤ 300) := by show _ ≤ _; rw [ByteArray.size_extract]; omega
                  have q1 : ((300 : Int) < (x.size : Int)) = True := by simp; omega
                  have q2 : ((300 : Int) ≤ (x.size : Int)) = True := by simp; omega
                  go_region_held3 (fun w' => w'.cell? ⟨b, o + k * 5 + 2, none⟩ = some (.slice (some ⟨b2, o2, none⟩) op.l.length op.lcap) ∧ w'.cell? ⟨b2, o2 + k2, none⟩ = some (.string x))
                    (first | go_keep | (go_split_ands; exact ⟨by rw [hw.cell_far _ (by simp; omega) (fun e => by have := hv8 b e.symm; omega)]; assumption, by rw [hw.cell_far _ (by simp; omega) (fun e => by have := hv8 b2 e.symm; omega)]; assumption⟩))
                    ((refine step_append_str (by rfl) _ _ (by rfl) wc.heap.size _ recs (by rfl) (hrowA _ ((Keeps.refl [] wr).drew.alloc _)) ⟨wr.heap.size, 0, none⟩ (x.extract 0 300) (by rfl) (by simp) (by omega) (by simp; omega) ?_; intro g cap6 w6 hg hw hor6))
                  have K6 : Keeps [] wc w6 := ((K2.drew.alloc _).grown hw (fun q hq => by have := hv8 q hq; omega))
                  have hg6 : StrRow w6 wc.heap.size (.slice (some ⟨g, 0, none⟩) (recs.length + 1) cap6) (recs ++ [x.extract 0 300]) := hg
                  clear hrowA hv8 hw hor6 K2 hg
                  go_wp2_with fail
                  go_roundw
                  case rel => exact ⟨k2 + 1, recs ++ [x.extract 0 300], by omega, by omega, by go_num, by simp; exact HIL.out, by simpa using hg6, all_snoc2 HALL2.out E15.out, Go.Lib.hid ⟨g, cap6, by simp⟩, K6⟩
                  case measure => simp [intOf]; omega
              · have hend : ¬ k2 < op.l.length ∨ (k2 < op.l.length ∧ ¬ k2 < 6) := by omega
                clear hin2
                rcases hend with hx | ⟨hx, hy⟩
                all_goals
                  go_wp2_with fail
                  go_meet
                  case rel => exact ⟨recs, hrl6, hrow, HALL2.out, HV8, K2⟩
          case rest =>
            obtain ⟨recs, hrl, hrow, hall2, HV8, K2⟩ := hcut
            obtain ⟨wn, rfl⟩ : ∃ wn, wn = wc := ⟨_, rfl⟩
            clear own0 e2
            have hXc := lt_of_heap HB5.out
            have hB6 : OpBlk wn X _ := K2.heap (by simp) HB5.out
            have z2 : wn.frozen? ⟨X, 2, none⟩ = false := frozen_of_heap hB6
            have d2 : wn.cell? ⟨X, 2, none⟩ = some (.slice op.la op.l.length op.lcap) := (cell_of_heap hB6).trans rfl
            have hv8 := World.ownsRow.lt hrow
            obtain ⟨g8, c8, rfl⟩ := HV8.out
            have hB6b := Go.Lib.hid hB6
            have hs2 := K2.size
            have K6 : Keeps [X] wo wn := K5.trans (K2.sub (by simp))
            have hK10 := K.size
            clear HB5 hB6 hs3 K3 hs4 hs5 K5
            go_upto_region 14 with fail
            obtain ⟨w7, hw7⟩ : ∃ w7, w7 = wn.setCell ⟨X, 2, none⟩ (.slice (some ⟨g8, 0, none⟩) recs.length c8) := ⟨_, rfl⟩
            have hB7 : OpBlk w7 X ⟨op.kind, cutS 300 op.s, some ⟨g8, 0, none⟩, c8, recs, op.n, op.ka, op.kcap, op.keep.take 9⟩ := by
              rw [hw7]; show (wn.setCell _ _).heap[X]? = _; rw [heap_setCell_same hB6b.out]; rfl
            have K7 : Keeps [X] wn w7 := by rw [hw7]; exact (Keeps.refl _ _).setCell (.inl (by simp)) _
            have hrow7 : StrRow w7 _ _ recs := hrow.keep K7 (fun g hg => by have := hv8 g hg; simp; omega)
            rw [← hw7]
            have d0 : w7.cell? ⟨X, 0, none⟩ = some (.int .i64 op.kind) := (cell_of_heap hB7).trans rfl
            have d1 : w7.cell? ⟨X, 1, none⟩ = some (.string (cutS 300 op.s)) := (cell_of_heap hB7).trans rfl
            have d2' : w7.cell? ⟨X, 2, none⟩ = some (.slice (some ⟨g8, 0, none⟩) recs.length c8) := (cell_of_heap hB7).trans rfl
            have d3 : w7.cell? ⟨X, 3, none⟩ = some (.int .i64 op.n) := (cell_of_heap hB7).trans rfl
            obtain ⟨kl, hkl⟩ : ∃ kl, kl = (op.keep.take 9).length := ⟨_, rfl⟩
            have d4 : w7.cell? ⟨X, 4, none⟩ = some (.slice op.ka kl op.kcap) := by rw [hkl]; exact (cell_of_heap hB7).trans rfl
            have K8 : Keeps [X] wo w7 := K6.trans K7
            have HKL := Go.Lib.hid hkl
            clear hkl
            have hs7 := K7.size
            have hs8 := K8.size
            clear hw7 hB6b z2 d2 hrow K7 K6
            have hv5 := World.ownsRow.lt HOWN.out
            have hxo : X = wo.heap.size := HX.out
            have HV5 : ∀ g, u5.ownBlock = some g → g ∉ [X] := fun g hg => by have := hv5 g hg; simp; omega
            have hown7 := own_keep HOWN.out (K8.alloc (.cells #[.int .i64 op.kind, .string (cutS 300 op.s), .slice (some ⟨g8, 0, none⟩) recs.length c8, .int .i64 op.n, .slice op.ka kl op.kcap] 34)) HV5
            have HV := Go.Lib.hid hv5
            have HXO := Go.Lib.hid hxo
            clear hxo hv5 HV5
            go_wp2_with (at_builtin; refine wpList_append_lies _ rfl (.tmp 81) (.tmp 83) 22 rfl w.heap.size 34 i0 _ 5 80 Try.underlying22 hi hz0 hz1 hz2 rfl (by decide) _ _ _ rfl hown7 ⟨w7.heap.size, 0, none⟩ 1 1 [.int .i64 op.kind, .string (cutS 300 op.s), .slice (some ⟨g8, 0, none⟩) recs.length c8, .int .i64 op.n, .slice op.ka kl op.kcap] rfl rfl ?c1 ?c2 (by omega) ?c3 ?c4 ?c5 (w7.heap.size + 1) (by simp) ?_)
            case c2 => exact ⟨rfl, rfl, rfl, rfl, rfl⟩
            case c3 => unfold maxLen; omega
            case c4 => omega
            case c5 => first | omega | (simp; omega)
            intro g cap9 w9 hown9 hgrow9 hat9 hlt9
            rw [HKL.out] at hown9
            have R := cut_round (o' := ⟨op.kind, cutS 300 op.s, some ⟨g8, 0, none⟩, c8, recs, op.n, op.ka, op.kcap, op.keep.take 9⟩) K HXO.out hlt hlt30 HL.out HALL.out HV.out K8 hown9 hgrow9 hat9
              ⟨HRNG.out.1, HRNG.out.2.1, by have := size_cutS 300 op.s; show (cutS 300 op.s).size ≤ 300; omega, hrl, hall2, by show (op.keep.take 9).length ≤ op.kcap; rw [List.length_take]; have := HRNG.out.2.2.2.1; omega, HRNG.out.2.2.2.2.1⟩
              (StrsP.keep (hrow7.strsP hall2 (by omega)) (Keeps.refl [] w7) (fun _ _ _ => by simp) (fun b _ hb => ⟨by have := HXO.out; omega, hb.2⟩))
              (by
                have hb := World.ownsRow.lt hrow7 g8 rfl
                exact ⟨g8, rfl, by have := HXO.out; omega, hb.2⟩)
              (IntsAt.take HROWS.out.ints 9)
            clear hown9 hgrow9 hat9 hown7 hrow7 hB7
            go_wp2_with fail
            go_roundw
            case rel => exact R
            case measure => simp [intOf]; omega
    · have hk3 : ¬ k < l.length ∨ (k < l.length ∧ ¬ k < 30) := by omega
      subst hl'
      obtain ⟨a9, cap9, rfl, hops⟩ := wops_of_own (l := l') hown hall (by omega)
      have HALL := Go.Lib.hid hall
      clear hin hall hown
      rcases hk3 with hx | ⟨hx, hy⟩
      all_goals
        go_wp2_with fail
        go_ret
        exact ⟨a9, cap9, l', rfl, hops, hk30, fun o ho => ⟨(HALL.out o ho).1, (HALL.out o ho).2.keep (Keeps.refl [] _) (fun _ _ _ => by simp) (fun _ _ hb => hb.1)⟩, K⟩
end Go.Proofs.Ytkkbjkoikidjpaa
