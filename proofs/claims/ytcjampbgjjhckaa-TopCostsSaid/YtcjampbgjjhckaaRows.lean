/-
  No cell of these rows narrows 'for every input' (looked for: loops, veiled, ifaces, maps, wideKeys, modest, calm, conditions, laid).
  DERIVED. THE GIVEN ROWS OF THIS SEAT. 4 by the template 'for every input the law returns true; each argument reads behind the call as it read before'; 0 by the template 'total and deterministic' (their statements: YtcjampbgjjhckaaTotals.lean).
  GIVEN WITH THE SEED: the statements are not yours to turn. If you find one false, say at which input.
  Laid BY PROGRAM, IN A SANDBOX (cutbox-rows.mjs): the forced cells as the released guide's own fill.sh prints them over the translation 3ec52586cd8c4004… (all of the seat's roots in one cut). By AI agents, Wed Nov 11 2026. No macro, syntax, notation, axiom, sorry.
-/
import Derived.Test.YtcjampbgjjhckaaChecked
import GoSem.Claim
import GoSem.ClaimJoined
import GoSem.ClaimMapViews
import Derived.JoinedTies
import Derived.KernelRfl
namespace Go.Proofs.Ytcjampbgjjhckaa
/- THE CELL 'sum', in the pinned program and in every row, IS THE sha256 OF THE DUMP (.gsa) THAT YtcjampbgjjhckaaProg.lean LOADS. Nothing in Lean hashes anything: it is a label: what it is worth is what the hold of that sum in a sandbox is worth. -/
noncomputable def Try.pinned : Pinned := { name := "ytcjampbgjjhckaa", sum := "3ec52586cd8c4004e7159af33a0c2f3cc5627208b6e9ccc388a18a5486f17e44", checked := Try.checked }
namespace Rows
def none {H : Type} : Left H := { results := [], args := [] }

/-- 'cairntop.TopCosts': WHATEVER THE INPUT: true; the input reads as it did. -/
def topCostsSpec : ChangeSpec := { name := "topCosts", fn := fun _ => fun
  | [d1, d2, d3, d4, d5, d6, d7, d8, d9, d10] => { results := [.lit (.bool true)], args := [d1, d2, d3, d4, d5, d6, d7, d8, d9, d10] }
  | _ => none }
def topCostsRow : OpenClaim := { program := "ytcjampbgjjhckaa", sum := "3ec52586cd8c4004e7159af33a0c2f3cc5627208b6e9ccc388a18a5486f17e44", func := "cairn/cairntop.TopCosts", spec := "topCosts", inPlace := ["math/bits.Add64"], apart := false }
def TopCostsSaid : Prop := topCostsRow.holds Try.pinned (OpenSpec.ofChange topCostsSpec)

/-- ITS FALSE NEIGHBOUR: 'it returns false'. Refute it at one input. -/
def topCostsWrong : ChangeSpec := { name := "topCosts", fn := fun _ => fun
  | [d1, d2, d3, d4, d5, d6, d7, d8, d9, d10] => { results := [.lit (.bool false)], args := [d1, d2, d3, d4, d5, d6, d7, d8, d9, d10] }
  | _ => none }
def TopCostsWrongFalsely : Prop := topCostsRow.holds Try.pinned (OpenSpec.ofChange topCostsWrong)

/-- 'cairntop.TopItems': WHATEVER THE INPUT: true; the input reads as it did. -/
def topItemsSpec : ChangeSpec := { name := "topItems", fn := fun _ => fun
  | [d1, d2, d3] => { results := [.lit (.bool true)], args := [d1, d2, d3] }
  | _ => none }
def topItemsRow : OpenClaim := { program := "ytcjampbgjjhckaa", sum := "3ec52586cd8c4004e7159af33a0c2f3cc5627208b6e9ccc388a18a5486f17e44", func := "cairn/cairntop.TopItems", spec := "topItems", unfollowed := true, recurses := true, apart := false }
def TopItemsSaid : Prop := topItemsRow.holds Try.pinned (OpenSpec.ofChange topItemsSpec)

/-- ITS FALSE NEIGHBOUR: 'it returns false'. Refute it at one input. -/
def topItemsWrong : ChangeSpec := { name := "topItems", fn := fun _ => fun
  | [d1, d2, d3] => { results := [.lit (.bool false)], args := [d1, d2, d3] }
  | _ => none }
def TopItemsWrongFalsely : Prop := topItemsRow.holds Try.pinned (OpenSpec.ofChange topItemsWrong)

/-- 'cairntop.TopFees': WHATEVER THE INPUT: true; the input reads as it did. -/
def topFeesSpec : ChangeSpec := { name := "topFees", fn := fun _ => fun
  | [d1, d2, d3, d4, d5] => { results := [.lit (.bool true)], args := [d1, d2, d3, d4, d5] }
  | _ => none }
def topFeesRow : OpenClaim := { program := "ytcjampbgjjhckaa", sum := "3ec52586cd8c4004e7159af33a0c2f3cc5627208b6e9ccc388a18a5486f17e44", func := "cairn/cairntop.TopFees", spec := "topFees", inPlace := ["math/bits.Add64", "math/bits.Sub64"], named := ["math/bits.divideError", "math/bits.overflowError"], apart := false }
def TopFeesSaid : Prop := topFeesRow.holds Try.pinned (OpenSpec.ofChange topFeesSpec)

/-- ITS FALSE NEIGHBOUR: 'it returns false'. Refute it at one input. -/
def topFeesWrong : ChangeSpec := { name := "topFees", fn := fun _ => fun
  | [d1, d2, d3, d4, d5] => { results := [.lit (.bool false)], args := [d1, d2, d3, d4, d5] }
  | _ => none }
def TopFeesWrongFalsely : Prop := topFeesRow.holds Try.pinned (OpenSpec.ofChange topFeesWrong)

/-- 'cairntop.TopRings': WHATEVER THE INPUT: true; the input reads as it did. -/
def topRingsSpec : ChangeSpec := { name := "topRings", fn := fun _ => fun
  | [d1, d2, d3, d4] => { results := [.lit (.bool true)], args := [d1, d2, d3, d4] }
  | _ => none }
def topRingsRow : OpenClaim := { program := "ytcjampbgjjhckaa", sum := "3ec52586cd8c4004e7159af33a0c2f3cc5627208b6e9ccc388a18a5486f17e44", func := "cairn/cairntop.TopRings", spec := "topRings", inPlace := ["math/bits.Add64", "math/bits.Sub64"], unfollowed := true, recurses := true, apart := false }
def TopRingsSaid : Prop := topRingsRow.holds Try.pinned (OpenSpec.ofChange topRingsSpec)

/-- ITS FALSE NEIGHBOUR: 'it returns false'. Refute it at one input. -/
def topRingsWrong : ChangeSpec := { name := "topRings", fn := fun _ => fun
  | [d1, d2, d3, d4] => { results := [.lit (.bool false)], args := [d1, d2, d3, d4] }
  | _ => none }
def TopRingsWrongFalsely : Prop := topRingsRow.holds Try.pinned (OpenSpec.ofChange topRingsWrong)

/- THE SECOND FORM. 'bulk': how many values and letters a reading holds, each counted each time it is reached (what is shared counts as often as it is met; a slice's spare places count too). A statement '..UptoSaid' is the law's where the arguments, and the package variables that the reading takes, are together of bulk at most 1048576: NARROWER than '..Said'. Prove '..Said' where nothing that the law and all that it calls make is longer than what came in: it says more and counts as full. Else prove '..UptoSaid'. A law counts once. -/
mutual
def uptoBulk {H : Type} : DataW H → Nat
  | .lit (.string bytes) => bytes.length + 1
  | .lit _ => 1
  | .nil => 1
  | .ptr d => uptoBulk d + 1
  | .slice elems spare => uptoBulkAll elems + uptoBulkAll spare + 1
  | .agg parts => uptoBulkAll parts + 1
  | .iface _ d => uptoBulk d + 1
  | .map entries => uptoBulkEntries entries + 1
  | .held _ => 1
def uptoBulkAll {H : Type} : List (DataW H) → Nat
  | [] => 0
  | d :: r => uptoBulk d + uptoBulkAll r
def uptoBulkEntries {H : Type} : List (Lit × DataW H) → Nat
  | [] => 0
  | x :: r => uptoBulkEntry x + uptoBulkEntries r
def uptoBulkEntry {H : Type} : Lit × DataW H → Nat
  | (.string bytes, d) => bytes.length + uptoBulk d + 1
  | (_, d) => uptoBulk d + 1
 end
def uptoSmall : (H : Type) → List (DataW H) → Bool := fun _ ds => decide (uptoBulkAll ds ≤ 1048576)
def OpenSpec.upto (s : _root_.Go.ChangeSpec) : _root_.Go.OpenSpec := { _root_.Go.OpenSpec.ofChange s with cond := some uptoSmall }

/-- 'cairntop.TopCosts', WHERE WHAT IT READS IS OF BULK AT MOST 1048576: true; the input reads as it did. -/
def topCostsUptoRow : OpenClaim := { program := "ytcjampbgjjhckaa", sum := "3ec52586cd8c4004e7159af33a0c2f3cc5627208b6e9ccc388a18a5486f17e44", func := "cairn/cairntop.TopCosts", spec := "topCosts", inPlace := ["math/bits.Add64"], apart := false, narrowed := true }
def TopCostsUptoSaid : Prop := topCostsUptoRow.holds Try.pinned (OpenSpec.upto topCostsSpec)

/-- 'cairntop.TopItems', WHERE WHAT IT READS IS OF BULK AT MOST 1048576: true; the input reads as it did. -/
def topItemsUptoRow : OpenClaim := { program := "ytcjampbgjjhckaa", sum := "3ec52586cd8c4004e7159af33a0c2f3cc5627208b6e9ccc388a18a5486f17e44", func := "cairn/cairntop.TopItems", spec := "topItems", unfollowed := true, recurses := true, apart := false, narrowed := true }
def TopItemsUptoSaid : Prop := topItemsUptoRow.holds Try.pinned (OpenSpec.upto topItemsSpec)

/-- 'cairntop.TopFees', WHERE WHAT IT READS IS OF BULK AT MOST 1048576: true; the input reads as it did. -/
def topFeesUptoRow : OpenClaim := { program := "ytcjampbgjjhckaa", sum := "3ec52586cd8c4004e7159af33a0c2f3cc5627208b6e9ccc388a18a5486f17e44", func := "cairn/cairntop.TopFees", spec := "topFees", inPlace := ["math/bits.Add64", "math/bits.Sub64"], named := ["math/bits.divideError", "math/bits.overflowError"], apart := false, narrowed := true }
def TopFeesUptoSaid : Prop := topFeesUptoRow.holds Try.pinned (OpenSpec.upto topFeesSpec)

/-- 'cairntop.TopRings', WHERE WHAT IT READS IS OF BULK AT MOST 1048576: true; the input reads as it did. -/
def topRingsUptoRow : OpenClaim := { program := "ytcjampbgjjhckaa", sum := "3ec52586cd8c4004e7159af33a0c2f3cc5627208b6e9ccc388a18a5486f17e44", func := "cairn/cairntop.TopRings", spec := "topRings", inPlace := ["math/bits.Add64", "math/bits.Sub64"], unfollowed := true, recurses := true, apart := false, narrowed := true }
def TopRingsUptoSaid : Prop := topRingsUptoRow.holds Try.pinned (OpenSpec.upto topRingsSpec)

end Rows
end Go.Proofs.Ytcjampbgjjhckaa
