/-
  What 'Grant' and 'Most' tell: the plain law. Nothing here speaks of the program.
-/
import Derived.Test.YtimbngaadgkeaaaSess
namespace Go.Proofs.Ytimbngaadgkeaaa
open Go.RowKit

structure GrantOk (s : Sess) (n credit : Nat) (now : Int) : Prop where
  state : s.state = 1
  pos : 1 ≤ n
  most : n ≤ 4294967296
  last : s.last ≤ now
  room : s.units + n < 18446744073709551616
  quota : s.units + n ≤ s.quota
  cost : s.price * (s.units + n) < 18446744073709551616
  paid : credit + s.limit < 18446744073709551616 → s.price * (s.units + n) ≤ credit + s.limit

theorem grant_yes {s : Sess} {n credit : Nat} {now : Int} (h : GrantOk s n credit now) : mGrant s n credit now = ({ s with units := s.units + n, last := now }, 0) := by
  obtain ⟨h1, h2, h3, h4, h5, h6, h7, h8⟩ := h
  have e1 : nAdd s.units n = (s.units + n, 0) := if_pos h5
  have e2 : nMul s.price (s.units + n) = (s.price * (s.units + n), 0) := if_pos h7
  unfold mGrant
  rw [e1]
  dsimp only
  rw [e2]
  dsimp only
  unfold gRaw
  rw [if_neg (by simpa using h1), if_neg (by omega), if_neg (by simp; omega), if_neg (by simp)]
  by_cases h : credit + s.limit < 18446744073709551616
  · have e3 : nAdd credit s.limit = (credit + s.limit, 0) := if_pos h
    rw [e3]
    dsimp only
    rw [if_neg (by have := h8 h; omega)]
  · have e3 : nAdd credit s.limit = (0, 2) := if_neg h
    rw [e3]
    dsimp only
    rw [if_neg (by simp)]

/-- What is refused: its error. -/
theorem grant_no (s : Sess) (n credit : Nat) (now : Int) (h : ¬ GrantOk s n credit now) :
    ∃ e : Int, mGrant s n credit now = (.zero, e) ∧ e ≠ 0 ∧ (e = 11 ↔ s.state = 1 ∧ 1 ≤ n ∧ n ≤ 4294967296 ∧ s.last ≤ now ∧ s.units + n < 18446744073709551616 ∧ s.units + n ≤ s.quota ∧ s.price * (s.units + n) < 18446744073709551616 ∧
      credit + s.limit < 18446744073709551616 ∧ credit + s.limit < s.price * (s.units + n)) := by
  unfold mGrant gRaw
  by_cases c1 : s.state = 1
  · rw [if_neg (by simpa using c1)]
    by_cases c2 : n = 0 ∨ 4294967296 < n ∨ now < s.last
    · rw [if_pos c2]
      exact ⟨1, rfl, by decide, ⟨fun h => by simp at h, fun h => by omega⟩⟩
    · rw [if_neg c2]
      by_cases c3 : s.units + n < 18446744073709551616
      · have e1 : nAdd s.units n = (s.units + n, 0) := if_pos c3
        rw [e1]
        dsimp only
        by_cases c4 : s.quota < s.units + n
        · rw [if_pos (.inr c4)]
          exact ⟨9, rfl, by decide, ⟨fun h => by simp at h, fun h => by omega⟩⟩
        · rw [if_neg (by simp; omega)]
          by_cases c5 : s.price * (s.units + n) < 18446744073709551616
          · have e2 : nMul s.price (s.units + n) = (s.price * (s.units + n), 0) := if_pos c5
            rw [e2]
            dsimp only
            rw [if_neg (by simp)]
            by_cases c6 : credit + s.limit < 18446744073709551616
            · have e3 : nAdd credit s.limit = (credit + s.limit, 0) := if_pos c6
              rw [e3]
              dsimp only
              by_cases c7 : credit + s.limit < s.price * (s.units + n)
              · rw [if_pos ⟨rfl, c7⟩]
                exact ⟨11, rfl, by decide, ⟨fun _ => ⟨c1, by omega, by omega, by omega, c3, by omega, c5, c6, c7⟩, fun _ => rfl⟩⟩
              · exact absurd ⟨c1, by omega, by omega, by omega, c3, by omega, c5, fun _ => by omega⟩ h
            · exact absurd ⟨c1, by omega, by omega, by omega, c3, by omega, c5, fun k => absurd k c6⟩ h
          · have e2 : nMul s.price (s.units + n) = (0, 2) := if_neg c5
            rw [e2]
            dsimp only
            rw [if_pos (by decide)]
            exact ⟨2, rfl, by decide, ⟨fun h => by simp at h, fun h => absurd h.2.2.2.2.2.2.1 c5⟩⟩
      · have e1 : nAdd s.units n = (0, 2) := if_neg c3
        rw [e1]
        dsimp only
        rw [if_pos (.inl (by decide))]
        exact ⟨9, rfl, by decide, ⟨fun h => by simp at h, fun h => absurd h.2.2.2.2.1 c3⟩⟩
  · rw [if_pos (by simpa using c1)]
    exact ⟨8, rfl, by decide, ⟨fun h => by simp at h, fun h => absurd h.1 c1⟩⟩
theorem grant_iff (s : Sess) (n credit : Nat) (now : Int) : (mGrant s n credit now).2 = 0 ↔ GrantOk s n credit now := by
  by_cases h : GrantOk s n credit now
  · rw [grant_yes h]; exact ⟨fun _ => h, fun _ => rfl⟩
  · obtain ⟨e, he, hne, _⟩ := grant_no s n credit now h
    rw [he]; exact ⟨fun k => absurd k hne, fun k => absurd k h⟩

/-- How much may be owed or is paid: the greatest number where there is none. -/
def mPaid (s : Sess) (credit : Nat) : Nat := if credit + s.limit < 18446744073709551616 then credit + s.limit else 18446744073709551615
def mMost (s : Sess) (credit : Nat) : Nat :=
  if s.state ≠ 1 ∨ s.quota ≤ s.units then 0
  else if s.price = 0 then min (s.quota - s.units) 4294967296
  else if mPaid s credit / s.price ≤ s.units then 0
  else min (min (s.quota - s.units) 4294967296) (mPaid s credit / s.price - s.units)

theorem most_iff (s : Sess) (n credit : Nat) (hq : s.quota ≤ 18446744073709551615) : GrantOk s n credit s.last ↔ 1 ≤ n ∧ n ≤ mMost s credit := by
  have key : s.price ≠ 0 → ((s.price * (s.units + n) < 18446744073709551616 ∧ (credit + s.limit < 18446744073709551616 → s.price * (s.units + n) ≤ credit + s.limit)) ↔ s.units + n ≤ mPaid s credit / s.price) := by
    intro hp
    rw [Nat.le_div_iff_mul_le (Nat.pos_of_ne_zero hp), Nat.mul_comm (s.units + n)]
    unfold mPaid
    split <;> omega
  unfold mMost
  by_cases c1 : s.state = 1
  · by_cases c2 : s.quota ≤ s.units
    · rw [if_pos (.inr c2)]
      exact ⟨fun h => by have := h.quota; have := h.pos; omega, fun h => by omega⟩
    · rw [if_neg (by simp [c1]; omega)]
      by_cases c3 : s.price = 0
      · rw [if_pos c3]
        constructor
        · intro h; exact ⟨h.pos, by have := h.quota; have := h.most; omega⟩
        · intro h
          exact ⟨c1, h.1, by omega, Int.le_refl _, by omega, by omega, by rw [c3, Nat.zero_mul]; omega, fun _ => by rw [c3, Nat.zero_mul]; omega⟩
      · rw [if_neg c3]
        have k := key c3
        constructor
        · intro h
          have h1 := k.1 ⟨h.cost, h.paid⟩
          have h2 := h.pos
          have h3 := h.most
          have h4 := h.quota
          generalize mPaid s credit / s.price = a at *
          rw [if_neg (by omega)]
          omega
        · intro h
          by_cases c4 : mPaid s credit / s.price ≤ s.units
          · rw [if_pos c4] at h; omega
          · rw [if_neg c4] at h
            obtain ⟨h1, h2⟩ := k.2 (by generalize mPaid s credit / s.price = a at *; omega)
            exact ⟨c1, h.1, by omega, Int.le_refl _, by omega, by omega, h1, h2⟩
  · rw [if_pos (.inl c1)]
    exact ⟨fun h => absurd h.state c1, fun h => by omega⟩
end Go.Proofs.Ytimbngaadgkeaaa
