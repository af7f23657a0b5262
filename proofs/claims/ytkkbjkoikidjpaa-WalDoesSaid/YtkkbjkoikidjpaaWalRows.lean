/-
  Rows of strings.
-/
import Derived.Test.YtkkbjkoikidjpaaShaSum
import Derived.Laws.OwnMore
namespace Go.Proofs.Ytkkbjkoikidjpaa
open Go.RowKit

theorem infoStr : (Try.prog.info? 9).map (fun i => (i.zero, i.size, i.bytes)) = some (some (.string .empty), 1, 16) := by kernel_rfl
def strCells (l : List ByteArray) : List Value := l.map Value.string
theorem strCells_snoc (l : List ByteArray) (s : ByteArray) : strCells (l ++ [s]) = strCells l ++ [.string s] := by simp [strCells]

/-- An own row of strings. -/
def StrRow (w : World) (base : Nat) (v : Value) (l : List ByteArray) : Prop := w.ownsRow base 9 1 v l.length (strCells l)
theorem StrRow.nil (w : World) (base : Nat) : StrRow w base (.slice none 0 0) [] := World.ownsRow_nil _ _ _ _
theorem StrRow.form {w : World} {base : Nat} {v : Value} {l : List ByteArray} (h : StrRow w base v l) : (v = .slice none 0 0 ∧ l = []) ∨ ∃ g cap, v = .slice (some ⟨g, 0, none⟩) l.length cap ∧ base ≤ g ∧ g < w.heap.size ∧ l.length ≤ cap ∧ cap ≤ maxLen := by
  rcases h.2 with ⟨e, h0⟩ | ⟨g, cap, cur, e, hb, hg, hn, hm, _, _⟩
  · exact .inl ⟨e, List.eq_nil_of_length_eq_zero h0⟩
  · exact .inr ⟨g, cap, e, hb, lt_of_heap hg, hn, hm⟩
theorem StrRow.cell {w : World} {base g n cap : Nat} {l : List ByteArray} (h : StrRow w base (.slice (some ⟨g, 0, none⟩) n cap) l) {i : Nat} (hi : i < l.length) : w.cell? ⟨g, i, none⟩ = some (.string l[i]) := by
  have := World.ownsRow.cells h (g := g) rfl i (.string l[i]) (by simp [strCells, hi])
  have e : (⟨g, 0, none⟩ : Addr).add i = ⟨g, i, none⟩ := by unfold Addr.add; split <;> simp_all
  rwa [e] at this
theorem StrRow.keep {w w' : World} {base : Nat} {v : Value} {l : List ByteArray} {S : List Nat} (h : StrRow w base v l) (k : Keeps S w w') (hS : ∀ g, v.ownBlock = some g → g ∉ S) : StrRow w' base v l := by
  refine ⟨h.1, ?_⟩
  rcases h.2 with ⟨e, h0⟩ | ⟨g, cap, cur, e, hb, hg, hr⟩
  · exact .inl ⟨e, h0⟩
  · exact .inr ⟨g, cap, cur, e, hb, k.heap (hS g (by rw [e]; rfl)) hg, hr⟩

/-- A string put behind an own row: where the row stands then. -/
theorem run_append_str (w : World) (base : Nat) (v : Value) (l : List ByteArray) (hown : StrRow w base v l) (b : Addr) (s : ByteArray) (hc : w.cell? b = some (.string s)) (hl : l.length ≤ 16777216) (hb : base ≤ w.heap.size) (ty : TypeId) :
    ∃ (g cap : Nat) (w' : World), (Builtin.append_ #[31, 31] ty #[v, .slice (some b) 1 1]).run Try.prog w = .ok (.slice (some ⟨g, 0, none⟩) (l.length + 1) cap) w' ∧
      StrRow w' base (.slice (some ⟨g, 0, none⟩) (l.length + 1) cap) (l ++ [s]) ∧ w.grownBy w' v.ownBlock ∧ (v.ownBlock = some g ∨ g = w.heap.size) := by
  obtain ⟨i, hi, hz0, hz1, hz2⟩ := info_parts infoStr
  have hnews : ∀ j u, [Value.string s][j]? = some u → w.cell? (b.add j) = some u := by
    intro j u hj
    match j, hj with
    | 0, hj => simp at hj; subst hj; simpa [Addr.add] using hc
  have h1 : ∀ u ∈ [Value.string s], u.oneCell' = true := by intro u hu; simp at hu; subst hu; rfl
  obtain ⟨v', w', hr, h2, h3, _⟩ := run_append_own (P := Try.prog) w base 31 ty 9 i _ 1 16 Try.underlying31 hi hz0 hz1 hz2 rfl (by decide) v l.length (strCells l) hown b 1 1 [.string s] rfl hnews h1 (by unfold maxLen; omega) (by omega) hb
  rw [← strCells_snoc] at h2
  have fin : ∀ g cap w'', (Builtin.append_ #[31, 31] ty #[v, .slice (some b) 1 1]).run Try.prog w = .ok (.slice (some ⟨g, 0, none⟩) (l.length + 1) cap) w'' → (v.ownBlock = some g ∨ g = w.heap.size) →
      ∃ (g cap : Nat) (w' : World), (Builtin.append_ #[31, 31] ty #[v, .slice (some b) 1 1]).run Try.prog w = .ok (.slice (some ⟨g, 0, none⟩) (l.length + 1) cap) w' ∧
      StrRow w' base (.slice (some ⟨g, 0, none⟩) (l.length + 1) cap) (l ++ [s]) ∧ w.grownBy w' v.ownBlock ∧ (v.ownBlock = some g ∨ g = w.heap.size) := by
    intro g cap w'' hr2 hg
    rw [hr] at hr2
    obtain ⟨rfl, rfl⟩ := (Result.ok.injEq _ _ _ _).mp hr2
    refine ⟨g, cap, w', hr, ?_, h3, hg⟩
    unfold StrRow
    rw [List.length_append]
    exact h2
  rcases hown.2 with ⟨e, h0⟩ | ⟨g, cap, cur, e, hbg, hg, hnc, hcm, hcs, htake⟩
  · have el : l.length = 0 := h0
    have hr2 := run_append_nil (P := Try.prog) (w := w) 31 ty 9 i _ Try.underlying31 hi hz0 b 1 1 [.string s] (by rw [hz1]; rfl) hnews (by omega) (by omega) (by rw [hz2]; omega)
    exact fin w.heap.size _ _ (by rw [e, el]; exact hr2) (.inr rfl)
  · by_cases hroom : l.length + 1 ≤ cap
    · obtain ⟨w2, hr2, _, _⟩ := run_append_fits (P := Try.prog) (w := w) base 31 ty 9 i 1 Try.underlying31 hi hz1 g l.length cap (strCells l) (by rw [← e]; exact hown) b 1 1 [.string s] rfl hnews h1 hroom
      exact fin g cap w2 (by rw [e]; exact hr2) (.inl (by rw [e]; rfl))
    · have holds : ∀ j u, (strCells l)[j]? = some u → w.cell? ((⟨g, 0, none⟩ : Addr).add j) = some u := World.ownsRow.cells hown (g := g) (by rw [e]; rfl)
      have hr2 := run_append_grow (P := Try.prog) (w := w) 31 ty 9 i _ Try.underlying31 hi hz0 ⟨g, 0, none⟩ l.length cap (strCells l) (by rw [hz1]; exact hown.1) holds b 1 1 [.string s] (by rw [hz1]; rfl) hnews (by omega) (by omega) (growslice_fits (by omega) (by rw [hz2]; omega))
      exact fin w.heap.size _ _ (by rw [e]; exact hr2) (.inr rfl)

theorem wpList_append_str {w : World} {ops : Array Oper} {rest : List Oper} {o : Oper} {a : Act} {Q : Exit → Act → World → Prop} (hgd : o.guard = none) (s x : Operand)
    (ho : o.op = .call { callee := .builtin .append, args := #[s, x], argTypes := #[31, 31] }) (base : Nat) (v : Value) (l : List ByteArray) (hs : a.eval s = v) (hown : StrRow w base v l) (b : Addr) (t : ByteArray) (hx : a.eval x = .slice (some b) 1 1)
    (hc : w.cell? b = some (.string t)) (hl : l.length ≤ 16777216) (hb : base ≤ w.heap.size)
    (h : ∀ (g cap : Nat) (w' : World), StrRow w' base (.slice (some ⟨g, 0, none⟩) (l.length + 1) cap) (l ++ [t]) → w.grownBy w' v.ownBlock → (v.ownBlock = some g ∨ g = w.heap.size) → wpList Try.prog ops Q rest (a.put o.dst (.slice (some ⟨g, 0, none⟩) (l.length + 1) cap)) w') :
    wpList Try.prog ops Q (o :: rest) a w := by
  obtain ⟨g, cap, w', hr, h2, h3, h4⟩ := run_append_str w base v l hown b t hc hl hb o.type
  refine wpList_plain hgd fun K hK => ?_
  unfold Oper.wp execOp
  simp only [ho, resolve, invoke, builtin, Sem.run_bind, Sem.run_pure, Result.andThen_ok, List.map_toArray, List.map_cons, List.map_nil, hs, hx, hr]
  exact hK _ _ (h g cap w' h2 h3 h4)
end Go.Proofs.Ytkkbjkoikidjpaa
