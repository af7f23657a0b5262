/-
  No cell of these rows narrows 'for every input' (looked for: loops, veiled, ifaces, maps, wideKeys, modest, calm, conditions, laid).
  DERIVED. THE GIVEN ROWS OF THIS SEAT. 7 by the template 'for every input the law returns true; each argument reads behind the call as it read before'; 0 by the template 'total and deterministic' (their statements: YtimbngaadgkeaaaTotals.lean).
  GIVEN WITH THE SEED: the statements are not yours to turn. If you find one false, say at which input.
  Laid BY PROGRAM, IN A SANDBOX (cutbox-rows.mjs): the forced cells as the released guide's own fill.sh prints them over the translation 16e4c95e3ca7bb7e… (all of the seat's roots in one cut). By AI agents, Wed Nov 11 2026. No macro, syntax, notation, axiom, sorry.
-/
import Derived.Test.YtimbngaadgkeaaaChecked
import GoSem.Claim
import GoSem.ClaimJoined
import GoSem.ClaimMapViews
import Derived.JoinedTies
import Derived.KernelRfl
namespace Go.Proofs.Ytimbngaadgkeaaa
/- THE CELL 'sum', in the pinned program and in every row, IS THE sha256 OF THE DUMP (.gsa) THAT YtimbngaadgkeaaaProg.lean LOADS. Nothing in Lean hashes anything: it is a label: what it is worth is what the hold of that sum in a sandbox is worth. -/
noncomputable def Try.pinned : Pinned := { name := "ytimbngaadgkeaaa", sum := "16e4c95e3ca7bb7eab80f822671648e1b6658782a8c821823d683cb3df85cb66", checked := Try.checked }
namespace Rows
def none {H : Type} : Left H := { results := [], args := [] }

/-- 'turnstilelaw19.MeterDoes': WHATEVER THE INPUT: true; the input reads as it did. -/
def meterDoesSpec : ChangeSpec := { name := "meterDoes", fn := fun _ => fun
  | [d1, d2, d3] => { results := [.lit (.bool true)], args := [d1, d2, d3] }
  | _ => none }
def meterDoesRow : OpenClaim := { program := "ytimbngaadgkeaaa", sum := "16e4c95e3ca7bb7eab80f822671648e1b6658782a8c821823d683cb3df85cb66", func := "turnstile/turnstilelaw19.MeterDoes", spec := "meterDoes", apart := false }
def MeterDoesSaid : Prop := meterDoesRow.holds Try.pinned (OpenSpec.ofChange meterDoesSpec)

/-- ITS FALSE NEIGHBOUR: 'it returns false'. Refute it at one input. -/
def meterDoesWrong : ChangeSpec := { name := "meterDoes", fn := fun _ => fun
  | [d1, d2, d3] => { results := [.lit (.bool false)], args := [d1, d2, d3] }
  | _ => none }
def MeterDoesWrongFalsely : Prop := meterDoesRow.holds Try.pinned (OpenSpec.ofChange meterDoesWrong)

/-- 'turnstilelaw19.MeterMost': WHATEVER THE INPUT: true; the input reads as it did. -/
def meterMostSpec : ChangeSpec := { name := "meterMost", fn := fun _ => fun
  | [d1, d2] => { results := [.lit (.bool true)], args := [d1, d2] }
  | _ => none }
def meterMostRow : OpenClaim := { program := "ytimbngaadgkeaaa", sum := "16e4c95e3ca7bb7eab80f822671648e1b6658782a8c821823d683cb3df85cb66", func := "turnstile/turnstilelaw19.MeterMost", spec := "meterMost", apart := false }
def MeterMostSaid : Prop := meterMostRow.holds Try.pinned (OpenSpec.ofChange meterMostSpec)

/-- ITS FALSE NEIGHBOUR: 'it returns false'. Refute it at one input. -/
def meterMostWrong : ChangeSpec := { name := "meterMost", fn := fun _ => fun
  | [d1, d2] => { results := [.lit (.bool false)], args := [d1, d2] }
  | _ => none }
def MeterMostWrongFalsely : Prop := meterMostRow.holds Try.pinned (OpenSpec.ofChange meterMostWrong)

/-- 'turnstilelaw19.MeterStands': WHATEVER THE INPUT: true; the input reads as it did. -/
def meterStandsSpec : ChangeSpec := { name := "meterStands", fn := fun _ => fun
  | [d1, d2] => { results := [.lit (.bool true)], args := [d1, d2] }
  | _ => none }
def meterStandsRow : OpenClaim := { program := "ytimbngaadgkeaaa", sum := "16e4c95e3ca7bb7eab80f822671648e1b6658782a8c821823d683cb3df85cb66", func := "turnstile/turnstilelaw19.MeterStands", spec := "meterStands", apart := false }
def MeterStandsSaid : Prop := meterStandsRow.holds Try.pinned (OpenSpec.ofChange meterStandsSpec)

/-- ITS FALSE NEIGHBOUR: 'it returns false'. Refute it at one input. -/
def meterStandsWrong : ChangeSpec := { name := "meterStands", fn := fun _ => fun
  | [d1, d2] => { results := [.lit (.bool false)], args := [d1, d2] }
  | _ => none }
def MeterStandsWrongFalsely : Prop := meterStandsRow.holds Try.pinned (OpenSpec.ofChange meterStandsWrong)

/-- 'turnstilelaw19.MeterPaid': WHATEVER THE INPUT: true; the input reads as it did. -/
def meterPaidSpec : ChangeSpec := { name := "meterPaid", fn := fun _ => fun
  | [d1, d2] => { results := [.lit (.bool true)], args := [d1, d2] }
  | _ => none }
def meterPaidRow : OpenClaim := { program := "ytimbngaadgkeaaa", sum := "16e4c95e3ca7bb7eab80f822671648e1b6658782a8c821823d683cb3df85cb66", func := "turnstile/turnstilelaw19.MeterPaid", spec := "meterPaid", apart := false }
def MeterPaidSaid : Prop := meterPaidRow.holds Try.pinned (OpenSpec.ofChange meterPaidSpec)

/-- ITS FALSE NEIGHBOUR: 'it returns false'. Refute it at one input. -/
def meterPaidWrong : ChangeSpec := { name := "meterPaid", fn := fun _ => fun
  | [d1, d2] => { results := [.lit (.bool false)], args := [d1, d2] }
  | _ => none }
def MeterPaidWrongFalsely : Prop := meterPaidRow.holds Try.pinned (OpenSpec.ofChange meterPaidWrong)

/-- 'turnstilelaw19.MeterAdds': WHATEVER THE INPUT: true; the input reads as it did. -/
def meterAddsSpec : ChangeSpec := { name := "meterAdds", fn := fun _ => fun
  | [d1, d2] => { results := [.lit (.bool true)], args := [d1, d2] }
  | _ => none }
def meterAddsRow : OpenClaim := { program := "ytimbngaadgkeaaa", sum := "16e4c95e3ca7bb7eab80f822671648e1b6658782a8c821823d683cb3df85cb66", func := "turnstile/turnstilelaw19.MeterAdds", spec := "meterAdds", apart := false }
def MeterAddsSaid : Prop := meterAddsRow.holds Try.pinned (OpenSpec.ofChange meterAddsSpec)

/-- ITS FALSE NEIGHBOUR: 'it returns false'. Refute it at one input. -/
def meterAddsWrong : ChangeSpec := { name := "meterAdds", fn := fun _ => fun
  | [d1, d2] => { results := [.lit (.bool false)], args := [d1, d2] }
  | _ => none }
def MeterAddsWrongFalsely : Prop := meterAddsRow.holds Try.pinned (OpenSpec.ofChange meterAddsWrong)

/-- 'turnstilelaw19.MeterRefuses': WHATEVER THE INPUT: true; the input reads as it did. -/
def meterRefusesSpec : ChangeSpec := { name := "meterRefuses", fn := fun _ => fun
  | [d1, d2] => { results := [.lit (.bool true)], args := [d1, d2] }
  | _ => none }
def meterRefusesRow : OpenClaim := { program := "ytimbngaadgkeaaa", sum := "16e4c95e3ca7bb7eab80f822671648e1b6658782a8c821823d683cb3df85cb66", func := "turnstile/turnstilelaw19.MeterRefuses", spec := "meterRefuses", apart := false }
def MeterRefusesSaid : Prop := meterRefusesRow.holds Try.pinned (OpenSpec.ofChange meterRefusesSpec)

/-- ITS FALSE NEIGHBOUR: 'it returns false'. Refute it at one input. -/
def meterRefusesWrong : ChangeSpec := { name := "meterRefuses", fn := fun _ => fun
  | [d1, d2] => { results := [.lit (.bool false)], args := [d1, d2] }
  | _ => none }
def MeterRefusesWrongFalsely : Prop := meterRefusesRow.holds Try.pinned (OpenSpec.ofChange meterRefusesWrong)

/-- 'turnstilelaw19.MeterOver': WHATEVER THE INPUT: true; the input reads as it did. -/
def meterOverSpec : ChangeSpec := { name := "meterOver", fn := fun _ => fun
  | [d1, d2] => { results := [.lit (.bool true)], args := [d1, d2] }
  | _ => none }
def meterOverRow : OpenClaim := { program := "ytimbngaadgkeaaa", sum := "16e4c95e3ca7bb7eab80f822671648e1b6658782a8c821823d683cb3df85cb66", func := "turnstile/turnstilelaw19.MeterOver", spec := "meterOver", apart := false }
def MeterOverSaid : Prop := meterOverRow.holds Try.pinned (OpenSpec.ofChange meterOverSpec)

/-- ITS FALSE NEIGHBOUR: 'it returns false'. Refute it at one input. -/
def meterOverWrong : ChangeSpec := { name := "meterOver", fn := fun _ => fun
  | [d1, d2] => { results := [.lit (.bool false)], args := [d1, d2] }
  | _ => none }
def MeterOverWrongFalsely : Prop := meterOverRow.holds Try.pinned (OpenSpec.ofChange meterOverWrong)

/- THE SECOND FORM. 'bulk': how many values and letters a reading holds, each counted each time it is reached (what is shared counts as often as it is met; a slice's spare places count too). A statement '..UptoSaid' is the law's where the arguments, and the package variables that the reading takes, are together of bulk at most 1048576: NARROWER than '..Said'. Prove '..Said' where nothing that the law and all that it calls make is longer than what came in: it says more and counts as full. Else prove '..UptoSaid'. A law counts once. -/
mutual
def uptoBulk {H : Type} : DataW H → Nat
  | .lit (.string bytes) => bytes.length + 1
  | .lit _ => 1
  | .nil => 1
  | .ptr d => uptoBulk d + 1
  | .slice elems spare => uptoBulkAll elems + uptoBulkAll spare + 1
  | .agg parts => uptoBulkAll parts + 1
  | .iface _ d => uptoBulk d + 1
  | .map entries => uptoBulkEntries entries + 1
  | .held _ => 1
def uptoBulkAll {H : Type} : List (DataW H) → Nat
  | [] => 0
  | d :: r => uptoBulk d + uptoBulkAll r
def uptoBulkEntries {H : Type} : List (Lit × DataW H) → Nat
  | [] => 0
  | x :: r => uptoBulkEntry x + uptoBulkEntries r
def uptoBulkEntry {H : Type} : Lit × DataW H → Nat
  | (.string bytes, d) => bytes.length + uptoBulk d + 1
  | (_, d) => uptoBulk d + 1
 end
def uptoSmall : (H : Type) → List (DataW H) → Bool := fun _ ds => decide (uptoBulkAll ds ≤ 1048576)
def OpenSpec.upto (s : _root_.Go.ChangeSpec) : _root_.Go.OpenSpec := { _root_.Go.OpenSpec.ofChange s with cond := some uptoSmall }

/-- 'turnstilelaw19.MeterDoes', WHERE WHAT IT READS IS OF BULK AT MOST 1048576: true; the input reads as it did. -/
def meterDoesUptoRow : OpenClaim := { program := "ytimbngaadgkeaaa", sum := "16e4c95e3ca7bb7eab80f822671648e1b6658782a8c821823d683cb3df85cb66", func := "turnstile/turnstilelaw19.MeterDoes", spec := "meterDoes", apart := false, narrowed := true }
def MeterDoesUptoSaid : Prop := meterDoesUptoRow.holds Try.pinned (OpenSpec.upto meterDoesSpec)

/-- 'turnstilelaw19.MeterMost', WHERE WHAT IT READS IS OF BULK AT MOST 1048576: true; the input reads as it did. -/
def meterMostUptoRow : OpenClaim := { program := "ytimbngaadgkeaaa", sum := "16e4c95e3ca7bb7eab80f822671648e1b6658782a8c821823d683cb3df85cb66", func := "turnstile/turnstilelaw19.MeterMost", spec := "meterMost", apart := false, narrowed := true }
def MeterMostUptoSaid : Prop := meterMostUptoRow.holds Try.pinned (OpenSpec.upto meterMostSpec)

/-- 'turnstilelaw19.MeterStands', WHERE WHAT IT READS IS OF BULK AT MOST 1048576: true; the input reads as it did. -/
def meterStandsUptoRow : OpenClaim := { program := "ytimbngaadgkeaaa", sum := "16e4c95e3ca7bb7eab80f822671648e1b6658782a8c821823d683cb3df85cb66", func := "turnstile/turnstilelaw19.MeterStands", spec := "meterStands", apart := false, narrowed := true }
def MeterStandsUptoSaid : Prop := meterStandsUptoRow.holds Try.pinned (OpenSpec.upto meterStandsSpec)

/-- 'turnstilelaw19.MeterPaid', WHERE WHAT IT READS IS OF BULK AT MOST 1048576: true; the input reads as it did. -/
def meterPaidUptoRow : OpenClaim := { program := "ytimbngaadgkeaaa", sum := "16e4c95e3ca7bb7eab80f822671648e1b6658782a8c821823d683cb3df85cb66", func := "turnstile/turnstilelaw19.MeterPaid", spec := "meterPaid", apart := false, narrowed := true }
def MeterPaidUptoSaid : Prop := meterPaidUptoRow.holds Try.pinned (OpenSpec.upto meterPaidSpec)

/-- 'turnstilelaw19.MeterAdds', WHERE WHAT IT READS IS OF BULK AT MOST 1048576: true; the input reads as it did. -/
def meterAddsUptoRow : OpenClaim := { program := "ytimbngaadgkeaaa", sum := "16e4c95e3ca7bb7eab80f822671648e1b6658782a8c821823d683cb3df85cb66", func := "turnstile/turnstilelaw19.MeterAdds", spec := "meterAdds", apart := false, narrowed := true }
def MeterAddsUptoSaid : Prop := meterAddsUptoRow.holds Try.pinned (OpenSpec.upto meterAddsSpec)

/-- 'turnstilelaw19.MeterRefuses', WHERE WHAT IT READS IS OF BULK AT MOST 1048576: true; the input reads as it did. -/
def meterRefusesUptoRow : OpenClaim := { program := "ytimbngaadgkeaaa", sum := "16e4c95e3ca7bb7eab80f822671648e1b6658782a8c821823d683cb3df85cb66", func := "turnstile/turnstilelaw19.MeterRefuses", spec := "meterRefuses", apart := false, narrowed := true }
def MeterRefusesUptoSaid : Prop := meterRefusesUptoRow.holds Try.pinned (OpenSpec.upto meterRefusesSpec)

/-- 'turnstilelaw19.MeterOver', WHERE WHAT IT READS IS OF BULK AT MOST 1048576: true; the input reads as it did. -/
def meterOverUptoRow : OpenClaim := { program := "ytimbngaadgkeaaa", sum := "16e4c95e3ca7bb7eab80f822671648e1b6658782a8c821823d683cb3df85cb66", func := "turnstile/turnstilelaw19.MeterOver", spec := "meterOver", apart := false, narrowed := true }
def MeterOverUptoSaid : Prop := meterOverUptoRow.holds Try.pinned (OpenSpec.upto meterOverSpec)

end Rows
end Go.Proofs.Ytimbngaadgkeaaa
