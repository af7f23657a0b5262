/-
  A session: its value, the plain functions. Nothing here speaks of the program.
-/
import Derived.Test.YtimbngaadgkeaaaNumArith
namespace Go.Proofs.Ytimbngaadgkeaaa
open Go.RowKit

structure Sess where
  price : Nat
  limit : Nat
  quota : Nat
  idle : Int
  state : Int
  units : Nat
  last : Int

structure Sess.Ok (s : Sess) : Prop where
  price : s.price ≤ 18446744073709551615
  limit : s.limit ≤ 18446744073709551615
  quota : s.quota ≤ 18446744073709551615
  idle : inI64 s.idle
  state : inI64 s.state
  units : s.units ≤ 18446744073709551615
  last : inI64 s.last

def Sess.cells (s : Sess) : Array Value := #[.int .u64 s.price, .int .u64 s.limit, .int .u64 s.quota, .int .i64 s.idle, .int .i64 s.state, .int .u64 s.units, .int .i64 s.last]
def Sess.zero : Sess := ⟨0, 0, 0, 0, 0, 0, 0⟩
theorem Sess.zero_ok : Sess.zero.Ok := ⟨by decide, by decide, by decide, ⟨by decide, by decide⟩, ⟨by decide, by decide⟩, by decide, ⟨by decide, by decide⟩⟩

def mSome (n : Nat) : Bool := decide (1 ≤ n) && decide (n ≤ 4294967296)
def mNewOk (price limit quota : Nat) (idle now : Int) : Prop := 1 ≤ price ∧ price ≤ 4294967296 ∧ limit ≤ 4611686018427387904 ∧ 1 ≤ quota ∧ quota ≤ 4294967296 ∧ 1 ≤ idle ∧ idle ≤ 4294967296 ∧ 0 ≤ now
instance (price limit quota : Nat) (idle now : Int) : Decidable (mNewOk price limit quota idle now) := by unfold mNewOk; infer_instance
def mNew (price limit quota : Nat) (idle now : Int) : Sess × Int := if mNewOk price limit quota idle now then (⟨price, limit, quota, idle, 1, 0, now⟩, 0) else (.zero, 1)
def mCap (r : Nat × Int) : Nat := if r.2 = 0 then r.1 else 18446744073709551615
def mDue (s : Sess) : Nat := mCap (nMul s.price s.units)
def mOwed (s : Sess) (credit : Nat) : Nat := mDue s - credit
def mPause (s : Sess) : Sess × Int := if s.state = 1 then ({ s with state := 2 }, 0) else (.zero, 8)
def mResume (s : Sess) (now : Int) : Sess × Int := if s.state = 2 then (if now < s.last then (.zero, 1) else ({ s with state := 1, last := now }, 0)) else (.zero, 8)
def mTick (s : Sess) (now : Int) : Sess := if s.last < now ∧ 0 ≤ s.idle ∧ s.idle < now - s.last then { s with state := 3 } else s
/-- What 'Grant' does, by what its three sums told. -/
def gRaw (s : Sess) (units : Nat) (now : Int) (all : Nat) (over : Int) (cost : Nat) (e : Int) (paid : Nat) (f : Int) : Sess × Int :=
  if s.state ≠ 1 then (.zero, 8)
  else if units = 0 ∨ 4294967296 < units ∨ now < s.last then (.zero, 1)
  else if over ≠ 0 ∨ s.quota < all then (.zero, 9)
  else if e ≠ 0 then (.zero, e)
  else if f = 0 ∧ paid < cost then (.zero, 11)
  else ({ s with units := all, last := now }, 0)
def mGrant (s : Sess) (units credit : Nat) (now : Int) : Sess × Int :=
  gRaw s units now (nAdd s.units units).1 (nAdd s.units units).2 (nMul s.price (nAdd s.units units).1).1 (nMul s.price (nAdd s.units units).1).2 (nAdd credit s.limit).1 (nAdd credit s.limit).2
end Go.Proofs.Ytimbngaadgkeaaa
