/-
  A row of parts, as a law's argument holds it.
-/
import Derived.Test.YtkmpefgaoagjjaaBase
import Derived.Deep.DeepCutAuto
import Derived.Deep.CutBlock
namespace Go.Proofs.Ytkmpefgaoagjjaa
open Go.RowKit

structure DPart where
  kind : Int
  n : Int
  s : ByteArray

/-- Parts that lie below block B. -/
structure PartsAt (w : World) (B : Nat) (a : Option Addr) (l : List DPart) : Prop where
  cell : ∀ i (h : i < l.length), ∃ b o, a = some ⟨b, o, none⟩ ∧ b < B ∧
    w.cell? ⟨b, o + i * 3, none⟩ = some (.int .i64 l[i].kind) ∧ w.cell? ⟨b, o + i * 3 + 1, none⟩ = some (.int .i64 l[i].n) ∧ w.cell? ⟨b, o + i * 3 + 2, none⟩ = some (.string l[i].s)
  rng : ∀ i (h : i < l.length), inI64 l[i].kind ∧ inI64 l[i].n ∧ l[i].s.size ≤ 9223372036854775807
  small : l.length ≤ 9223372036854775807

theorem PartsAt.below {w w' : World} {B : Nat} {a : Option Addr} {l : List DPart} (h : PartsAt w B a l) (k : Below B w w') : PartsAt w' B a l :=
  ⟨fun i hi => by
    obtain ⟨b, o, rfl, hb, h0, h1, h2⟩ := h.cell i hi
    exact ⟨b, o, rfl, hb, by rw [k.cell (p := ⟨b, _, none⟩) hb]; exact h0, by rw [k.cell (p := ⟨b, _, none⟩) hb]; exact h1, by rw [k.cell (p := ⟨b, _, none⟩) hb]; exact h2⟩,
    h.rng, h.small⟩
end Go.Proofs.Ytkmpefgaoagjjaa
