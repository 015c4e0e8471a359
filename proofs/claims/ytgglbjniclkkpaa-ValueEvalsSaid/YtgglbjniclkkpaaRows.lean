/-
  No cell of these rows narrows 'for every input' (looked for: loops, veiled, ifaces, maps, wideKeys, modest, calm, conditions, laid).
  DERIVED. THE GIVEN ROWS OF THIS SEAT. 3 by the template 'for every input the law returns true; each argument reads behind the call as it read before'; 0 by the template 'total and deterministic' (their statements: YtgglbjniclkkpaaTotals.lean).
  GIVEN WITH THE SEED: the statements are not yours to turn. If you find one false, say at which input.
  Laid BY PROGRAM, IN A SANDBOX (cutbox-rows.mjs): the forced cells as the released guide's own fill.sh prints them over the translation ea83e643f2a1fd5e… (all of the seat's roots in one cut). By AI agents, Wed Nov 11 2026. No macro, syntax, notation, axiom, sorry.
-/
import Derived.Test.YtgglbjniclkkpaaChecked
import GoSem.Claim
import GoSem.ClaimJoined
import GoSem.ClaimMapViews
import Derived.JoinedTies
import Derived.KernelRfl
namespace Go.Proofs.Ytgglbjniclkkpaa
/- THE CELL 'sum', in the pinned program and in every row, IS THE sha256 OF THE DUMP (.gsa) THAT YtgglbjniclkkpaaProg.lean LOADS. Nothing in Lean hashes anything: it is a label: what it is worth is what the hold of that sum in a sandbox is worth. -/
noncomputable def Try.pinned : Pinned := { name := "ytgglbjniclkkpaa", sum := "ea83e643f2a1fd5e9f3f1ff4361bb81194a4c30c4e31f42f1fb4e12addd65b9b", checked := Try.checked }
namespace Rows
def none {H : Type} : Left H := { results := [], args := [] }

/-- 'clepsydralaw.ValueCounts': WHATEVER THE INPUT: true; the input reads as it did. -/
def valueCountsSpec : ChangeSpec := { name := "valueCounts", fn := fun _ => fun
  | [d1, d2, d3, d4] => { results := [.lit (.bool true)], args := [d1, d2, d3, d4] }
  | _ => none }
def valueCountsRow : OpenClaim := { program := "ytgglbjniclkkpaa", sum := "ea83e643f2a1fd5e9f3f1ff4361bb81194a4c30c4e31f42f1fb4e12addd65b9b", func := "clepsydra/clepsydralaw.ValueCounts", spec := "valueCounts", apart := false }
def ValueCountsSaid : Prop := valueCountsRow.holds Try.pinned (OpenSpec.ofChange valueCountsSpec)

/-- ITS FALSE NEIGHBOUR: 'it returns false'. Refute it at one input. -/
def valueCountsWrong : ChangeSpec := { name := "valueCounts", fn := fun _ => fun
  | [d1, d2, d3, d4] => { results := [.lit (.bool false)], args := [d1, d2, d3, d4] }
  | _ => none }
def ValueCountsWrongFalsely : Prop := valueCountsRow.holds Try.pinned (OpenSpec.ofChange valueCountsWrong)

/-- 'clepsydrakeep.ValueEven': WHATEVER THE INPUT: true; the input reads as it did. -/
def valueEvenSpec : ChangeSpec := { name := "valueEven", fn := fun _ => fun
  | [d1, d2, d3] => { results := [.lit (.bool true)], args := [d1, d2, d3] }
  | _ => none }
def valueEvenRow : OpenClaim := { program := "ytgglbjniclkkpaa", sum := "ea83e643f2a1fd5e9f3f1ff4361bb81194a4c30c4e31f42f1fb4e12addd65b9b", func := "clepsydra/clepsydrakeep.ValueEven", spec := "valueEven", unfollowed := true, recurses := true, apart := false }
def ValueEvenSaid : Prop := valueEvenRow.holds Try.pinned (OpenSpec.ofChange valueEvenSpec)

/-- ITS FALSE NEIGHBOUR: 'it returns false'. Refute it at one input. -/
def valueEvenWrong : ChangeSpec := { name := "valueEven", fn := fun _ => fun
  | [d1, d2, d3] => { results := [.lit (.bool false)], args := [d1, d2, d3] }
  | _ => none }
def ValueEvenWrongFalsely : Prop := valueEvenRow.holds Try.pinned (OpenSpec.ofChange valueEvenWrong)

/-- 'clepsydralaw.ValueEvals': WHATEVER THE INPUT: true; the input reads as it did. -/
def valueEvalsSpec : ChangeSpec := { name := "valueEvals", fn := fun _ => fun
  | [d1, d2, d3, d4, d5, d6] => { results := [.lit (.bool true)], args := [d1, d2, d3, d4, d5, d6] }
  | _ => none }
def valueEvalsRow : OpenClaim := { program := "ytgglbjniclkkpaa", sum := "ea83e643f2a1fd5e9f3f1ff4361bb81194a4c30c4e31f42f1fb4e12addd65b9b", func := "clepsydra/clepsydralaw.ValueEvals", spec := "valueEvals", unfollowed := true, recurses := true, apart := false }
def ValueEvalsSaid : Prop := valueEvalsRow.holds Try.pinned (OpenSpec.ofChange valueEvalsSpec)

/-- ITS FALSE NEIGHBOUR: 'it returns false'. Refute it at one input. -/
def valueEvalsWrong : ChangeSpec := { name := "valueEvals", fn := fun _ => fun
  | [d1, d2, d3, d4, d5, d6] => { results := [.lit (.bool false)], args := [d1, d2, d3, d4, d5, d6] }
  | _ => none }
def ValueEvalsWrongFalsely : Prop := valueEvalsRow.holds Try.pinned (OpenSpec.ofChange valueEvalsWrong)

/- THE SECOND FORM. 'bulk': how many values and letters a reading holds, each counted each time it is reached (what is shared counts as often as it is met; a slice's spare places count too). A statement '..UptoSaid' is the law's where the arguments, and the package variables that the reading takes, are together of bulk at most 1048576: NARROWER than '..Said'. Prove '..Said' where nothing that the law and all that it calls make is longer than what came in: it says more and counts as full. Else prove '..UptoSaid'. A law counts once. -/
mutual
def uptoBulk {H : Type} : DataW H → Nat
  | .lit (.string bytes) => bytes.length + 1
  | .lit _ => 1
  | .nil => 1
  | .ptr d => uptoBulk d + 1
  | .slice elems spare => uptoBulkAll elems + uptoBulkAll spare + 1
  | .agg parts => uptoBulkAll parts + 1
  | .iface _ d => uptoBulk d + 1
  | .map entries => uptoBulkEntries entries + 1
  | .held _ => 1
def uptoBulkAll {H : Type} : List (DataW H) → Nat
  | [] => 0
  | d :: r => uptoBulk d + uptoBulkAll r
def uptoBulkEntries {H : Type} : List (Lit × DataW H) → Nat
  | [] => 0
  | x :: r => uptoBulkEntry x + uptoBulkEntries r
def uptoBulkEntry {H : Type} : Lit × DataW H → Nat
  | (.string bytes, d) => bytes.length + uptoBulk d + 1
  | (_, d) => uptoBulk d + 1
 end
def uptoSmall : (H : Type) → List (DataW H) → Bool := fun _ ds => decide (uptoBulkAll ds ≤ 1048576)
def OpenSpec.upto (s : _root_.Go.ChangeSpec) : _root_.Go.OpenSpec := { _root_.Go.OpenSpec.ofChange s with cond := some uptoSmall }

/-- 'clepsydralaw.ValueCounts', WHERE WHAT IT READS IS OF BULK AT MOST 1048576: true; the input reads as it did. -/
def valueCountsUptoRow : OpenClaim := { program := "ytgglbjniclkkpaa", sum := "ea83e643f2a1fd5e9f3f1ff4361bb81194a4c30c4e31f42f1fb4e12addd65b9b", func := "clepsydra/clepsydralaw.ValueCounts", spec := "valueCounts", apart := false, narrowed := true }
def ValueCountsUptoSaid : Prop := valueCountsUptoRow.holds Try.pinned (OpenSpec.upto valueCountsSpec)

/-- 'clepsydrakeep.ValueEven', WHERE WHAT IT READS IS OF BULK AT MOST 1048576: true; the input reads as it did. -/
def valueEvenUptoRow : OpenClaim := { program := "ytgglbjniclkkpaa", sum := "ea83e643f2a1fd5e9f3f1ff4361bb81194a4c30c4e31f42f1fb4e12addd65b9b", func := "clepsydra/clepsydrakeep.ValueEven", spec := "valueEven", unfollowed := true, recurses := true, apart := false, narrowed := true }
def ValueEvenUptoSaid : Prop := valueEvenUptoRow.holds Try.pinned (OpenSpec.upto valueEvenSpec)

/-- 'clepsydralaw.ValueEvals', WHERE WHAT IT READS IS OF BULK AT MOST 1048576: true; the input reads as it did. -/
def valueEvalsUptoRow : OpenClaim := { program := "ytgglbjniclkkpaa", sum := "ea83e643f2a1fd5e9f3f1ff4361bb81194a4c30c4e31f42f1fb4e12addd65b9b", func := "clepsydra/clepsydralaw.ValueEvals", spec := "valueEvals", unfollowed := true, recurses := true, apart := false, narrowed := true }
def ValueEvalsUptoSaid : Prop := valueEvalsUptoRow.holds Try.pinned (OpenSpec.upto valueEvalsSpec)

end Rows
end Go.Proofs.Ytgglbjniclkkpaa
