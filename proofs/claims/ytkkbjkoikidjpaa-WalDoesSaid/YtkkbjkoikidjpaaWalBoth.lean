/-
  The log and the document's log, each with its disk, side by side in one memory. Nothing here steps through the program.
-/
import Derived.Test.YtkkbjkoikidjpaaRLogC
import Derived.Test.YtkkbjkoikidjpaaWalKeeps
namespace Go.Proofs.Ytkkbjkoikidjpaa
open Go.RowKit

/-- The blocks of the log and of its disk. -/
def wBlk (D L P : Nat) (v : Value) (x : Nat) : Prop := x = D ∨ x = L ∨ x = P ∨ v.ownBlock = some x
/-- The blocks of the document's log and of its disk. -/
def rBlk (D LA LB P : Nat) (v : Value) (x : Nat) : Prop := x = D ∨ x = LA ∨ x = LB ∨ x = P ∨ v.ownBlock = some x

structure DMem (w1 : World) (room D L P : Nat) (v : Value) (l : List ByteArray) (sure : Int) (hal : Bool) (fs : List DFile) (D2 LA LB P2 B2 : Nat) (v2 : Value) (l2 : List ByteArray) (sure2 : Int) (hal2 : Bool) (fs2 : List DFile) (wr : World) : Prop where
  log : LogAt wr P D v l sure hal
  disk : DiskAt wr D L fs room
  rlog : RLogAt wr P2 D2 B2 v2 l2 sure2 hal2
  ref : RefAt wr D2 LA LB fs2 room
  apart : ∀ x, wBlk D L P v x → ¬ rBlk D2 LA LB P2 v2 x
  keeps : Keeps [] w1 wr
  lowW : ∀ x, wBlk D L P v x → w1.heap.size ≤ x
  lowR : ∀ x, rBlk D2 LA LB P2 v2 x → w1.heap.size ≤ x
  ordDP : D < P
  ordLP : L < P
  ordDB : D2 < B2
  ordAB : LA < B2
  ordBB : LB < B2
namespace DMem
variable {w1 : World} {room D L P : Nat} {v : Value} {l : List ByteArray} {sure : Int} {hal : Bool} {fs : List DFile} {D2 LA LB P2 B2 : Nat} {v2 : Value} {l2 : List ByteArray} {sure2 : Int} {hal2 : Bool} {fs2 : List DFile} {wr : World}
theorem ltW (h : DMem w1 room D L P v l sure hal fs D2 LA LB P2 B2 v2 l2 sure2 hal2 fs2 wr) : ∀ x, wBlk D L P v x → x < wr.heap.size := by
  intro x hx
  rcases hx with e | e | e | e
  · rw [e]; exact h.disk.ltD
  · rw [e]; exact h.disk.ltL
  · rw [e]; exact h.log.lt
  · exact (h.log.own x e).2
theorem ltR (h : DMem w1 room D L P v l sure hal fs D2 LA LB P2 B2 v2 l2 sure2 hal2 fs2 wr) : ∀ x, rBlk D2 LA LB P2 v2 x → x < wr.heap.size := by
  intro x hx
  rcases hx with e | e | e | e | e
  · rw [e]; exact h.ref.ltD
  · rw [e]; exact h.ref.ltA
  · rw [e]; exact h.ref.ltB
  · rw [e]; exact h.rlog.lt
  · exact (h.rlog.own x e).2
theorem skip (h : DMem w1 room D L P v l sure hal fs D2 LA LB P2 B2 v2 l2 sure2 hal2 fs2 wr) {w' : World} (k : Keeps [] wr w') : DMem w1 room D L P v l sure hal fs D2 LA LB P2 B2 v2 l2 sure2 hal2 fs2 w' :=
  ⟨h.log.keep k (by simp) (fun _ _ => by simp), h.disk.keep k (by simp) (by simp), h.rlog.keep k (by simp) (fun _ _ => by simp), h.ref.keep k (by simp) (by simp) (by simp), h.apart, h.keeps.trans k, h.lowW, h.lowR, h.ordDP, h.ordLP, h.ordDB, h.ordAB, h.ordBB⟩
/-- The log's step. -/
theorem stepW (h : DMem w1 room D L P v l sure hal fs D2 LA LB P2 B2 v2 l2 sure2 hal2 fs2 wr) {w' : World} {P' : Nat} {v' : Value} {l' : List ByteArray} {sure' : Int} {hal' : Bool} {fs' : List DFile} {S : List Nat} (k : Keeps S wr w') (hS : ∀ x ∈ S, wBlk D L P v x)
    (hL : LogAt w' P' D v' l' sure' hal') (hD : DiskAt w' D L fs' room) (hP : P' = P ∨ wr.heap.size ≤ P') (hor : v'.ownBlock = v.ownBlock ∨ ∀ g, v'.ownBlock = some g → wr.heap.size ≤ g) : DMem w1 room D L P' v' l' sure' hal' fs' D2 LA LB P2 B2 v2 l2 sure2 hal2 fs2 w' := by
  have hn : ∀ x, rBlk D2 LA LB P2 v2 x → x ∉ S := fun x hx hm => h.apart x (hS x hm) hx
  have hnew : ∀ x, wBlk D L P' v' x → wBlk D L P v x ∨ wr.heap.size ≤ x := by
    intro x hx
    rcases hx with e | e | e | e
    · exact .inl (.inl e)
    · exact .inl (.inr (.inl e))
    · rcases hP with h1 | h1
      · exact .inl (.inr (.inr (.inl (e.trans h1))))
      · exact .inr (by omega)
    · rcases hor with h1 | h1
      · exact .inl (.inr (.inr (.inr (by rw [← h1]; exact e))))
      · exact .inr (h1 x e)
  have hs := h.keeps.size
  have hDl := h.disk.ltD
  have hLl := h.disk.ltL
  have hdp := h.ordDP
  have hlp := h.ordLP
  refine ⟨hL, hD, h.rlog.keep k (hn _ (.inr (.inr (.inr (.inl rfl))))) (fun g hg => hn _ (.inr (.inr (.inr (.inr hg))))), h.ref.keep k (hn _ (.inl rfl)) (hn _ (.inr (.inl rfl))) (hn _ (.inr (.inr (.inl rfl)))), ?_,
    h.keeps.new k (fun x hx => h.lowW x (hS x hx)), ?_, h.lowR, ?_, ?_, h.ordDB, h.ordAB, h.ordBB⟩
  · intro x hx hr
    rcases hnew x hx with h1 | h1
    · exact h.apart x h1 hr
    · have := h.ltR x hr; omega
  · intro x hx
    rcases hnew x hx with h1 | h1
    · exact h.lowW x h1
    · omega
  · rcases hP with h1 | h1 <;> omega
  · rcases hP with h1 | h1 <;> omega
/-- The document's step. -/
theorem stepR (h : DMem w1 room D L P v l sure hal fs D2 LA LB P2 B2 v2 l2 sure2 hal2 fs2 wr) {w' : World} {P' B' : Nat} {v' : Value} {l' : List ByteArray} {sure' : Int} {hal' : Bool} {fs' : List DFile} {S : List Nat} (k : Keeps S wr w') (hS : ∀ x ∈ S, rBlk D2 LA LB P2 v2 x)
    (hL : RLogAt w' P' D2 B' v' l' sure' hal') (hD : RefAt w' D2 LA LB fs' room) (hP : P' = P2 ∨ wr.heap.size ≤ P') (hB : B' = B2 ∨ wr.heap.size ≤ B') (hor : v'.ownBlock = v2.ownBlock ∨ ∀ g, v'.ownBlock = some g → wr.heap.size ≤ g) : DMem w1 room D L P v l sure hal fs D2 LA LB P' B' v' l' sure' hal' fs' w' := by
  have hn : ∀ x, wBlk D L P v x → x ∉ S := fun x hx hm => h.apart x hx (hS x hm)
  have hnew : ∀ x, rBlk D2 LA LB P' v' x → rBlk D2 LA LB P2 v2 x ∨ wr.heap.size ≤ x := by
    intro x hx
    rcases hx with e | e | e | e | e
    · exact .inl (.inl e)
    · exact .inl (.inr (.inl e))
    · exact .inl (.inr (.inr (.inl e)))
    · rcases hP with h1 | h1
      · exact .inl (.inr (.inr (.inr (.inl (e.trans h1)))))
      · exact .inr (by omega)
    · rcases hor with h1 | h1
      · exact .inl (.inr (.inr (.inr (.inr (by rw [← h1]; exact e)))))
      · exact .inr (h1 x e)
  have hs := h.keeps.size
  have hDl := h.ref.ltD
  have hAl := h.ref.ltA
  have hBl := h.ref.ltB
  have o1 := h.ordDB
  have o2 := h.ordAB
  have o3 := h.ordBB
  refine ⟨h.log.keep k (hn _ (.inr (.inr (.inl rfl)))) (fun g hg => hn _ (.inr (.inr (.inr hg)))), h.disk.keep k (hn _ (.inl rfl)) (hn _ (.inr (.inl rfl))), hL, hD, ?_,
    h.keeps.new k (fun x hx => h.lowR x (hS x hx)), h.lowW, ?_, h.ordDP, h.ordLP, ?_, ?_, ?_⟩
  · intro x hw hr
    rcases hnew x hr with h1 | h1
    · exact h.apart x hw h1
    · have := h.ltW x hw; omega
  · intro x hx
    rcases hnew x hx with h1 | h1
    · exact h.lowR x h1
    · omega
  all_goals rcases hB with h1 | h1 <;> omega
end DMem
theorem blk_own {D P L : Nat} {v : Value} {x : Nat} (h : x ∈ P :: L :: v.ownBlock.toList) : wBlk D L P v x := by
  simp at h
  rcases h with h | h | h
  · exact .inr (.inr (.inl h))
  · exact .inr (.inl h)
  · exact .inr (.inr (.inr h))
theorem blk_two {D P L : Nat} {v : Value} {x : Nat} (h : x ∈ [P, L]) : wBlk D L P v x := by
  simp at h
  rcases h with h | h
  · exact .inr (.inr (.inl h))
  · exact .inr (.inl h)
theorem blk_one {D P L : Nat} {v : Value} {x : Nat} (h : x ∈ [L]) : wBlk D L P v x := by
  simp at h
  exact .inr (.inl h)
theorem rblk_own {D P LA LB : Nat} {v : Value} {x : Nat} (h : x ∈ P :: LA :: LB :: v.ownBlock.toList) : rBlk D LA LB P v x := by
  simp at h
  rcases h with h | h | h | h
  · exact .inr (.inr (.inr (.inl h)))
  · exact .inr (.inl h)
  · exact .inr (.inr (.inl h))
  · exact .inr (.inr (.inr (.inr h)))
theorem rblk_three {D P LA LB : Nat} {v : Value} {x : Nat} (h : x ∈ [P, LA, LB]) : rBlk D LA LB P v x := by
  simp at h
  rcases h with h | h | h
  · exact .inr (.inr (.inr (.inl h)))
  · exact .inr (.inl h)
  · exact .inr (.inr (.inl h))
theorem rblk_two {D P LA LB : Nat} {v : Value} {x : Nat} (h : x ∈ [LA, LB]) : rBlk D LA LB P v x := by
  simp at h
  rcases h with h | h
  · exact .inr (.inl h)
  · exact .inr (.inr (.inl h))

/-- What holds at a round's head. -/
def DRel (w1 : World) (room D L D2 LA LB len : Nat) (v10 v11 v12 v13 v14 : Value) (wr : World) : Prop :=
  ∃ (k P P2 B2 sure : Nat) (v v2 : Value) (hal : Bool) (l laid : List ByteArray) (a b : DFile), k ≤ len ∧ k ≤ 30 ∧ v10 = .pointer (some ⟨P, 0, none⟩) ∧ v11 = .int .i64 0 ∧ v12 = .pointer (some ⟨P2, 0, none⟩) ∧ v13 = .int .i64 0 ∧ v14 = .int .i64 k ∧
    DMem w1 room D L P v l sure hal [a, b] D2 LA LB P2 B2 v2 l sure hal [a, b] wr ∧ KOk l sure hal laid a b ∧ l.length ≤ 6 + k ∧ laid.length ≤ 6
/-- What holds behind a call. -/
def DCut (w1 : World) (room D L D2 LA LB k : Nat) (v10 v11 v12 v13 v16 : Value) (wr : World) : Prop :=
  ∃ (P P2 B2 sure : Nat) (v v2 : Value) (hal : Bool) (l laid : List ByteArray) (a b : DFile), v10 = .pointer (some ⟨P, 0, none⟩) ∧ v11 = .int .i64 0 ∧ v12 = .pointer (some ⟨P2, 0, none⟩) ∧ v13 = .int .i64 0 ∧ v16 = .bool true ∧
    DMem w1 room D L P v l sure hal [a, b] D2 LA LB P2 B2 v2 l sure hal [a, b] wr ∧ KOk l sure hal laid a b ∧ l.length ≤ 6 + (k + 1) ∧ laid.length ≤ 6
end Go.Proofs.Ytkkbjkoikidjpaa
