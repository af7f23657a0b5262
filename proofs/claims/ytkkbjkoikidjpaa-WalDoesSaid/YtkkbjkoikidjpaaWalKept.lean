/-
  A log between a script's calls: the plain law, and what stands in memory. Nothing here steps through the program.
-/
import Derived.Test.YtkkbjkoikidjpaaWalStart
namespace Go.Proofs.Ytkkbjkoikidjpaa
open Go.RowKit

/-- Whole, or cut off while it was written anew. -/
def KOk (l : List ByteArray) (sure : Nat) (hal : Bool) (laid : List ByteArray) (a b : DFile) : Prop :=
  (hal = false ∧ LogOk l sure a b) ∨ (hal = true ∧ sure = l.length ∧ HaltOk l laid a b)
theorem KOk.append {l laid : List ByteArray} {sure : Nat} {hal : Bool} {a b : DFile} (h : KOk l sure hal laid a b) (room : Nat) (s : ByteArray) :
    (∃ e : Int, ¬ e = 0 ∧ lAppend [a, b] room l hal s = (e, [a, b], l)) ∨ (hal = false ∧ ∃ a', lAppend [a, b] room l hal s = (0, [a', b], l ++ [s]) ∧ KOk (l ++ [s]) sure false laid a' b) := by
  rcases h with ⟨rfl, h⟩ | ⟨rfl, _, _⟩
  · rcases h.append room s with ⟨_, e⟩ | ⟨_, _, e⟩ | ⟨_, _, e, h2⟩
    · exact .inl ⟨1, by decide, e⟩
    · exact .inl ⟨9, by decide, e⟩
    · exact .inr ⟨rfl, _, e, .inl ⟨rfl, h2⟩⟩
  · exact .inl ⟨8, by decide, append_halted _ _ _ _⟩
theorem KOk.sync {l laid : List ByteArray} {sure : Nat} {hal : Bool} {a b : DFile} (h : KOk l sure hal laid a b) :
    (∃ e : Int, ¬ e = 0 ∧ lSync [a, b] l sure hal = (e, (sure : Int), [a, b])) ∨ (hal = false ∧ ∃ a', lSync [a, b] l sure hal = (0, (l.length : Int), [a', b]) ∧ KOk l l.length false laid a' b) := by
  rcases h with ⟨rfl, h⟩ | ⟨rfl, _, _⟩
  · obtain ⟨e, h2⟩ := h.sync sure
    exact .inr ⟨rfl, _, e, .inl ⟨rfl, h2⟩⟩
  · exact .inl ⟨8, by decide, rfl⟩
theorem KOk.rewrite {l laid : List ByteArray} {sure : Nat} {hal : Bool} {a b : DFile} (h : KOk l sure hal laid a b) (room : Nat) (recs : List ByteArray) (n : Int) :
    (∃ e : Int, ¬ e = 0 ∧ lRewrite [a, b] room l sure hal recs n = (e, [a, b], l, (sure : Int), hal)) ∨
    (hal = false ∧ ∃ a' b', lRewrite [a, b] room l sure hal recs n = (0, [a', b'], recs, (recs.length : Int), false) ∧ KOk recs recs.length false laid a' b') ∨
    (hal = false ∧ ∃ a' b', lRewrite [a, b] room l sure hal recs n = (8, [a', b'], l, (sure : Int), true) ∧ KOk l sure true recs a' b') := by
  rcases h with ⟨rfl, h⟩ | ⟨rfl, _, _⟩
  · rcases h.rewrite room recs n with ⟨e, h1, h2⟩ | ⟨_, h1, h2⟩ | ⟨a', b', h0, h1, h2⟩
    · exact .inl ⟨e, h1, h2⟩
    · exact .inr (.inl ⟨rfl, _, _, h1, .inl ⟨rfl, h2⟩⟩)
    · exact .inr (.inr ⟨rfl, _, _, h1, .inr ⟨rfl, h0, h2⟩⟩)
  · exact .inl ⟨8, by decide, by unfold lRewrite; rw [if_pos (.inl rfl)]⟩
theorem KOk.crash {l laid : List ByteArray} {sure : Nat} {hal : Bool} {a b : DFile} (h : KOk l sure hal laid a b) (keep : List Int) :
    ∃ r a' b', lOpen (dCrash [a, b] keep) = (r, [a', b']) ∧ (∀ laid, KOk r r.length false laid a' b') ∧ ((∃ k, sure ≤ k ∧ k ≤ l.length ∧ r = l.take k) ∨ (hal = true ∧ r = laid ∧ ¬ r = l ∧ sure = l.length)) := by
  rcases h with ⟨rfl, h⟩ | ⟨rfl, hs, h⟩
  · obtain ⟨k, h1, h2, _, h4, a', b', h5, h6⟩ := h.crash keep
    refine ⟨l.take k, a', b', by rw [← h4, ← h5], fun _ => .inl ⟨rfl, ?_⟩, .inl ⟨k, h1, h2, rfl⟩⟩
    have e : (l.take k).length = k := by rw [List.length_take]; omega
    rw [e]
    exact h6
  · obtain ⟨r, hr, h1, h2⟩ := h.crash keep
    refine ⟨r, _, _, h1, fun _ => .inl ⟨rfl, h2⟩, ?_⟩
    by_cases hrl : r = l
    · exact .inl ⟨l.length, by omega, Nat.le_refl _, by rw [List.take_length]; exact hrl⟩
    · rcases hr with h | h
      · exact absurd h hrl
      · exact .inr ⟨rfl, h, hrl, hs⟩
theorem crash_sync (a b : DFile) (keep : List Int) : (dSync (dCrash [a, b] keep) 1).1 = 0 := by rw [two_crash, two_sync1]

/-- What stands in memory: the log and its disk, and a row of texts beside. -/
structure KMem (w1 : World) (D L P : Nat) (v v8 : Value) (l m : List ByteArray) (sure : Int) (hal : Bool) (a b : DFile) (wr : World) : Prop where
  log : LogAt wr P D v l sure hal
  disk : DiskAt wr D L [a, b] 1048576
  row : StrRow wr (P + 1) v8 m
  apart : Apart v v8
  keeps : Keeps [] w1 wr
  ordD : w1.heap.size ≤ D
  ordL : w1.heap.size ≤ L
  ordDP : D < P
  ordLP : L < P
namespace KMem
variable {w1 : World} {D L P : Nat} {v v8 : Value} {l m : List ByteArray} {sure : Int} {hal : Bool} {a b : DFile} {wr : World}
theorem skip (h : KMem w1 D L P v v8 l m sure hal a b wr) {w' : World} (k : Keeps [] wr w') : KMem w1 D L P v v8 l m sure hal a b w' :=
  ⟨h.log.keep k (by simp) (fun _ _ => by simp), h.disk.keep k (by simp) (by simp), h.row.keep k (fun _ _ => by simp), h.apart, h.keeps.trans k, h.ordD, h.ordL, h.ordDP, h.ordLP⟩
theorem step (h : KMem w1 D L P v v8 l m sure hal a b wr) {w' : World} {v' : Value} {l' : List ByteArray} {sure' : Int} {hal' : Bool} {a' b' : DFile} {S : List Nat} (k : Keeps S wr w') (hS : ∀ x ∈ S, x = P ∨ x = L ∨ v.ownBlock = some x)
    (hL : LogAt w' P D v' l' sure' hal') (hD : DiskAt w' D L [a', b'] 1048576) (hor : v'.ownBlock = v.ownBlock ∨ ∀ g, v'.ownBlock = some g → wr.heap.size ≤ g) : KMem w1 D L P v' v8 l' m sure' hal' a' b' w' := by
  have h1 := h.ordD
  have h2 := h.ordL
  have h3 := h.ordDP
  have h4 := h.ordLP
  have hown := h.log.own
  refine ⟨hL, hD, h.row.keepNot k (fun x hx => ?_) h.apart, ?_, h.keeps.new k (fun x hx => ?_), h1, h2, h3, h4⟩
  · rcases hS x hx with e | e | e
    · exact .inl (by omega)
    · exact .inl (by omega)
    · exact .inr e
  · rcases hor with e | e
    · intro g hg
      rw [e] at hg
      exact h.apart g hg
    · intro g hg hu
      have := e g hg
      have := World.ownsRow.lt h.row g hu
      omega
  · rcases hS x hx with e | e | e
    · omega
    · omega
    · have := hown x e; omega
theorem push (h : KMem w1 D L P v v8 l m sure hal a b wr) {w' : World} {c : Obj} {g n cap : Nat} {m' : List ByteArray} (hg : (wr.alloc c).grownBy w' v8.ownBlock) (hr : StrRow w' (P + 1) (.slice (some ⟨g, 0, none⟩) n cap) m') (hor : v8.ownBlock = some g ∨ g = wr.heap.size + 1) :
    KMem w1 D L P v (.slice (some ⟨g, 0, none⟩) n cap) l m' sure hal a b w' := by
  have h1 := h.ordD
  have h2 := h.ordL
  have h3 := h.ordDP
  have h4 := h.ordLP
  have hown := h.log.own
  have hv8 := World.ownsRow.lt h.row
  have k : Keeps v8.ownBlock.toList wr w' := ((Keeps.refl _ _).alloc _).trans (Keeps.ofGrown hg)
  have hn : ∀ x ∈ v8.ownBlock.toList, P < x := fun x hx => by have := hv8 x (by simpa using hx); omega
  refine ⟨h.log.keep k (fun hm => by have := hn P hm; omega) (fun q hq hm => h.apart q hq (by simpa using hm)), h.disk.keep k (fun hm => by have := hn D hm; omega) (fun hm => by have := hn L hm; omega), hr, ?_,
    h.keeps.new k (fun x hx => by have := hn x hx; omega), h1, h2, h3, h4⟩
  intro q hq hu
  have e : g = q := by simpa [Value.ownBlock] using hu
  have := hown q hq
  rcases hor with h5 | h5
  · exact h.apart q hq (by rw [h5, e])
  · omega
theorem fresh (h : KMem w1 D L P v v8 l m sure hal a b wr) {w' : World} {u : Value} {m' : List ByteArray} (k : Keeps [] wr w') (hr : StrRow w' wr.heap.size u m') : KMem w1 D L P v u l m' sure hal a b w' := by
  have h1 := h.skip k
  have hown := h.log.own
  have hP := h.log.lt
  refine ⟨h1.log, h1.disk, hr.base (by omega), ?_, h1.keeps, h1.ordD, h1.ordL, h1.ordDP, h1.ordLP⟩
  intro q hq hu
  have := hown q hq
  have := World.ownsRow.lt hr q hu
  omega
end KMem

/-- What holds at a round's head. -/
def KRel (w1 : World) (D L len : Nat) (v6 v7 v8 v9 v10 v11 v12 : Value) (wr : World) : Prop :=
  ∃ (k P sure : Nat) (v : Value) (hal : Bool) (l laid : List ByteArray) (la : Option Addr) (lc : Nat) (a b : DFile), k ≤ len ∧ k ≤ 30 ∧ v6 = .pointer (some ⟨P, 0, none⟩) ∧ v7 = .int .i64 0 ∧ v9 = .int .i64 sure ∧ v10 = .slice la laid.length lc ∧ v11 = .bool hal ∧ v12 = .int .i64 k ∧
    KMem w1 D L P v v8 l l sure hal a b wr ∧ KOk l sure hal laid a b ∧ l.length ≤ k + 6 ∧ laid.length ≤ 6 ∧ (hal = true → RowOf w1 (.slice la laid.length lc) laid)

/-- A row put behind an empty one that was made. -/
theorem cells_strs {w : World} {b o : Nat} {l : List ByteArray} (hc : ∀ i (h : i < l.length), w.cell? ⟨b, o + i, none⟩ = some (.string l[i])) : ∀ j u, (strCells l)[j]? = some u → w.cell? ((⟨b, o, none⟩ : Addr).add j) = some u := by
  intro j u hj
  rw [strCells, List.getElem?_map] at hj
  obtain ⟨t, ht, rfl⟩ := Option.map_eq_some_iff.1 hj
  obtain ⟨hjl, rfl⟩ := List.getElem?_eq_some_iff.1 ht
  have e : (⟨b, o, none⟩ : Addr).add j = ⟨b, o + j, none⟩ := by unfold Addr.add; split <;> simp_all
  rw [e]
  exact hc j hjl
theorem ones_strs (l : List ByteArray) : ∀ u ∈ strCells l, u.oneCell' = true := by intro u hu; obtain ⟨t, _, rfl⟩ := List.mem_map.1 hu; rfl
end Go.Proofs.Ytkkbjkoikidjpaa
