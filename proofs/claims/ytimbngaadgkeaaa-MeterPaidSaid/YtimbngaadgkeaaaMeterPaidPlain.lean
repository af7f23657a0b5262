/-
  MeterPaid's plain law: what is kept by every call. Nothing here speaks of the program.
-/
import Derived.Test.YtimbngaadgkeaaaMeterPlain
namespace Go.Proofs.Ytimbngaadgkeaaa
open Go.RowKit

structure PaidInv (p : Sess) (credit : Nat) : Prop where
  quota : p.units ≤ p.quota
  paid : p.price * p.units ≤ credit + p.limit
  small : credit + p.limit < 18446744073709551616

theorem PaidInv.owed {p : Sess} {credit : Nat} (h : PaidInv p credit) : mOwed p credit ≤ p.limit := by
  have h1 := h.paid
  have h2 := h.small
  have e : nMul p.price p.units = (p.price * p.units, 0) := if_pos (by omega)
  unfold mOwed mDue
  rw [e]
  show p.price * p.units - credit ≤ p.limit
  omega
theorem PaidInv.grow {p : Sess} {credit credit' : Nat} (h : PaidInv p credit) (hc : credit ≤ credit') (hs : credit' + p.limit < 18446744073709551616) : PaidInv p credit' :=
  ⟨h.quota, by have := h.paid; omega, hs⟩
theorem PaidInv.grant {p : Sess} {n credit : Nat} {now : Int} (h : PaidInv p credit) (hg : (mGrant p n credit now).2 = 0) :
    PaidInv (mGrant p n credit now).1 credit ∧ (mGrant p n credit now).1.state = 1 ∧ p.state = 1 ∧ (mGrant p n credit now).1.limit = p.limit := by
  have G := (grant_iff p n credit now).1 hg
  rw [grant_yes G]
  exact ⟨⟨G.quota, G.paid h.small, h.small⟩, G.state, G.state, rfl⟩
theorem PaidInv.pause {p : Sess} {credit : Nat} (h : PaidInv p credit) (hg : (mPause p).2 = 0) : PaidInv (mPause p).1 credit ∧ (mPause p).1.state = 2 ∧ p.state = 1 ∧ (mPause p).1.limit = p.limit := by
  by_cases c : p.state = 1
  · have e : mPause p = ({ p with state := 2 }, 0) := if_pos c
    rw [e]
    exact ⟨⟨h.quota, h.paid, h.small⟩, rfl, c, rfl⟩
  · have e : mPause p = (.zero, 8) := if_neg c
    rw [e] at hg
    cases hg
theorem PaidInv.resume {p : Sess} {credit : Nat} {now : Int} (h : PaidInv p credit) (hg : (mResume p now).2 = 0) : PaidInv (mResume p now).1 credit ∧ (mResume p now).1.state = 1 ∧ p.state = 2 ∧ (mResume p now).1.limit = p.limit := by
  by_cases c : p.state = 2
  · by_cases d : now < p.last
    · have e : mResume p now = (.zero, 1) := by rw [mResume, if_pos c, if_pos d]
      rw [e] at hg
      cases hg
    · have e : mResume p now = ({ p with state := 1, last := now }, 0) := by rw [mResume, if_pos c, if_neg d]
      rw [e]
      exact ⟨⟨h.quota, h.paid, h.small⟩, rfl, c, rfl⟩
  · have e : mResume p now = (.zero, 8) := if_neg c
    rw [e] at hg
    cases hg
theorem PaidInv.tick {p : Sess} {credit : Nat} {now : Int} (h : PaidInv p credit) : PaidInv (mTick p now) credit ∧ ((mTick p now).state = 3 ∨ (mTick p now).state = p.state) ∧ (mTick p now).limit = p.limit := by
  unfold mTick
  split
  · exact ⟨⟨h.quota, h.paid, h.small⟩, .inl rfl, rfl⟩
  · exact ⟨h, .inr rfl, rfl⟩
end Go.Proofs.Ytimbngaadgkeaaa
