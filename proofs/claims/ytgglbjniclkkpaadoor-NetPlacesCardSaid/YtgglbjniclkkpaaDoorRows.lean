/-
  NARROWER THAN 'FOR EVERY INPUT', by the rows' own cells (each row's printed sentence says how): NetJudges: laid · ImageWrites: laid · ImageReads: laid · NetForgets: laid · NetPlaces: laid · NetRuns: laid.
  DERIVED. THE GIVEN ROWS OF THIS SEAT. 6 by the template 'for every input the law returns true; each argument reads behind the call as it read before'; 0 by the template 'total and deterministic' (their statements: YtgglbjniclkkpaaDoorTotals.lean).
  GIVEN WITH THE SEED: the statements are not yours to turn. If you find one false, say at which input.
  Laid BY PROGRAM, IN A SANDBOX (cutbox-rows.mjs): the forced cells as the released guide's own fill.sh prints them over the translation bd38e9b157d7004c… (all of the seat's roots in one cut). By AI agents, Wed Nov 11 2026. No macro, syntax, notation, axiom, sorry.
-/
import Derived.Test.YtgglbjniclkkpaaDoorChecked
import GoSem.Claim
import GoSem.ClaimJoined
import GoSem.ClaimMapViews
import Derived.JoinedTies
import Derived.KernelRfl
namespace Go.Proofs.YtgglbjniclkkpaaDoor
/- THE CELL 'sum', in the pinned program and in every row, IS THE sha256 OF THE DUMP (.gsa) THAT YtgglbjniclkkpaaDoorProg.lean LOADS. Nothing in Lean hashes anything: it is a label: what it is worth is what the hold of that sum in a sandbox is worth. -/
noncomputable def Tryd.pinned : Pinned := { name := "ytgglbjniclkkpaadoor", sum := "bd38e9b157d7004c8ea4ab089ad3d7554db7a56a9c188de885ed84fc5d653133", checked := Tryd.checked }
namespace Rows
def none {H : Type} : Left H := { results := [], args := [] }

/- WHAT THE LISTED PACKAGE-LEVEL VARIABLES READ AS WHEN THE CALL BEGINS. Each datum BY PROGRAM (the guide's laid-datum.mjs) off the statement by which the dump's own 'gosem.cut.vars' lays the variable. In a bare row this is a premise. The card (YtgglbjniclkkpaaDoorCards.lean) ties it to the program's text. -/
def laid_errors_errorType {H : Type} : DataW H := .iface "internal/reflectlite.rtype" (.agg [.ptr (.lit (.string [101, 114, 114, 111, 114]))])
def laid_clepsydra_clepsydraref_Fine {H : Type} : DataW H := .agg [.lit (.int .i64 0), .lit (.int .i64 (-1))]

/-- 'clepsydralaw.NetJudges': WHATEVER THE INPUT: true; the input reads as it did. -/
def netJudgesSpec : ChangeSpec := { name := "netJudges", fn := fun _ => fun
  | [d] => { results := [.lit (.bool true)], args := [d] }
  | _ => none }
def netJudgesRow : OpenClaim := { program := "ytgglbjniclkkpaadoor", sum := "bd38e9b157d7004c8ea4ab089ad3d7554db7a56a9c188de885ed84fc5d653133", func := "clepsydra/clepsydralaw.NetJudges", spec := "netJudges", inPlace := ["internal/reflectlite.ValueOf", "(internal/reflectlite.Value).Type", "(internal/reflectlite.Value).IsNil", "internal/reflectlite.TypeOf", "(internal/reflectlite.Value).Elem", "(internal/reflectlite.Value).Set"], unfollowed := true, recurses := true, named := ["errors.errorType", "clepsydra/clepsydraref.Fine"], apart := false, laid := [("errors.errorType", laid_errors_errorType), ("clepsydra/clepsydraref.Fine", laid_clepsydra_clepsydraref_Fine)] }
def NetJudgesSaid : Prop := netJudgesRow.holds Tryd.pinned (OpenSpec.ofChange netJudgesSpec)

/-- ITS FALSE NEIGHBOUR: 'it returns false'. Refute it at one input. -/
def netJudgesWrong : ChangeSpec := { name := "netJudges", fn := fun _ => fun
  | [d] => { results := [.lit (.bool false)], args := [d] }
  | _ => none }
def NetJudgesWrongFalsely : Prop := netJudgesRow.holds Tryd.pinned (OpenSpec.ofChange netJudgesWrong)

/-- 'clepsydralaw.ImageWrites': WHATEVER THE INPUT: true; the input reads as it did. -/
def imageWritesSpec : ChangeSpec := { name := "imageWrites", fn := fun _ => fun
  | [d] => { results := [.lit (.bool true)], args := [d] }
  | _ => none }
def imageWritesRow : OpenClaim := { program := "ytgglbjniclkkpaadoor", sum := "bd38e9b157d7004c8ea4ab089ad3d7554db7a56a9c188de885ed84fc5d653133", func := "clepsydra/clepsydralaw.ImageWrites", spec := "imageWrites", inPlace := ["internal/abi.NoEscape", "internal/reflectlite.ValueOf", "(internal/reflectlite.Value).Type", "(internal/reflectlite.Value).IsNil", "internal/reflectlite.TypeOf", "(internal/reflectlite.Value).Elem", "(internal/reflectlite.Value).Set"], unfollowed := true, recurses := true, named := ["clepsydra/clepsydraref.Fine", "errors.errorType"], apart := false, laid := [("errors.errorType", laid_errors_errorType), ("clepsydra/clepsydraref.Fine", laid_clepsydra_clepsydraref_Fine)] }
def ImageWritesSaid : Prop := imageWritesRow.holds Tryd.pinned (OpenSpec.ofChange imageWritesSpec)

/-- ITS FALSE NEIGHBOUR: 'it returns false'. Refute it at one input. -/
def imageWritesWrong : ChangeSpec := { name := "imageWrites", fn := fun _ => fun
  | [d] => { results := [.lit (.bool false)], args := [d] }
  | _ => none }
def ImageWritesWrongFalsely : Prop := imageWritesRow.holds Tryd.pinned (OpenSpec.ofChange imageWritesWrong)

/-- 'clepsydralaw.ImageReads': WHATEVER THE INPUT: true; the input reads as it did. -/
def imageReadsSpec : ChangeSpec := { name := "imageReads", fn := fun _ => fun
  | [d] => { results := [.lit (.bool true)], args := [d] }
  | _ => none }
def imageReadsRow : OpenClaim := { program := "ytgglbjniclkkpaadoor", sum := "bd38e9b157d7004c8ea4ab089ad3d7554db7a56a9c188de885ed84fc5d653133", func := "clepsydra/clepsydralaw.ImageReads", spec := "imageReads", inPlace := ["internal/reflectlite.ValueOf", "(internal/reflectlite.Value).Type", "(internal/reflectlite.Value).IsNil", "internal/reflectlite.TypeOf", "(internal/reflectlite.Value).Elem", "(internal/reflectlite.Value).Set"], unfollowed := true, recurses := true, named := ["clepsydra/clepsydraref.Fine", "errors.errorType"], apart := false, laid := [("errors.errorType", laid_errors_errorType), ("clepsydra/clepsydraref.Fine", laid_clepsydra_clepsydraref_Fine)] }
def ImageReadsSaid : Prop := imageReadsRow.holds Tryd.pinned (OpenSpec.ofChange imageReadsSpec)

/-- ITS FALSE NEIGHBOUR: 'it returns false'. Refute it at one input. -/
def imageReadsWrong : ChangeSpec := { name := "imageReads", fn := fun _ => fun
  | [d] => { results := [.lit (.bool false)], args := [d] }
  | _ => none }
def ImageReadsWrongFalsely : Prop := imageReadsRow.holds Tryd.pinned (OpenSpec.ofChange imageReadsWrong)

/-- 'clepsydrakeep.NetForgets': WHATEVER THE INPUT: true; the input reads as it did. -/
def netForgetsSpec : ChangeSpec := { name := "netForgets", fn := fun _ => fun
  | [d1, d2, d3] => { results := [.lit (.bool true)], args := [d1, d2, d3] }
  | _ => none }
def netForgetsRow : OpenClaim := { program := "ytgglbjniclkkpaadoor", sum := "bd38e9b157d7004c8ea4ab089ad3d7554db7a56a9c188de885ed84fc5d653133", func := "clepsydra/clepsydrakeep.NetForgets", spec := "netForgets", inPlace := ["internal/reflectlite.ValueOf", "(internal/reflectlite.Value).Type", "(internal/reflectlite.Value).IsNil", "internal/reflectlite.TypeOf", "(internal/reflectlite.Value).Elem", "(internal/reflectlite.Value).Set"], unfollowed := true, recurses := true, named := ["errors.errorType"], apart := false, laid := [("errors.errorType", laid_errors_errorType)] }
def NetForgetsSaid : Prop := netForgetsRow.holds Tryd.pinned (OpenSpec.ofChange netForgetsSpec)

/-- ITS FALSE NEIGHBOUR: 'it returns false'. Refute it at one input. -/
def netForgetsWrong : ChangeSpec := { name := "netForgets", fn := fun _ => fun
  | [d1, d2, d3] => { results := [.lit (.bool false)], args := [d1, d2, d3] }
  | _ => none }
def NetForgetsWrongFalsely : Prop := netForgetsRow.holds Tryd.pinned (OpenSpec.ofChange netForgetsWrong)

/-- 'clepsydrakeep.NetPlaces': WHATEVER THE INPUT: true; the input reads as it did. -/
def netPlacesSpec : ChangeSpec := { name := "netPlaces", fn := fun _ => fun
  | [d1, d2, d3, d4] => { results := [.lit (.bool true)], args := [d1, d2, d3, d4] }
  | _ => none }
def netPlacesRow : OpenClaim := { program := "ytgglbjniclkkpaadoor", sum := "bd38e9b157d7004c8ea4ab089ad3d7554db7a56a9c188de885ed84fc5d653133", func := "clepsydra/clepsydrakeep.NetPlaces", spec := "netPlaces", inPlace := ["internal/reflectlite.ValueOf", "(internal/reflectlite.Value).Type", "(internal/reflectlite.Value).IsNil", "internal/reflectlite.TypeOf", "(internal/reflectlite.Value).Elem", "(internal/reflectlite.Value).Set"], unfollowed := true, recurses := true, named := ["errors.errorType"], apart := false, laid := [("errors.errorType", laid_errors_errorType)] }
def NetPlacesSaid : Prop := netPlacesRow.holds Tryd.pinned (OpenSpec.ofChange netPlacesSpec)

/-- ITS FALSE NEIGHBOUR: 'it returns false'. Refute it at one input. -/
def netPlacesWrong : ChangeSpec := { name := "netPlaces", fn := fun _ => fun
  | [d1, d2, d3, d4] => { results := [.lit (.bool false)], args := [d1, d2, d3, d4] }
  | _ => none }
def NetPlacesWrongFalsely : Prop := netPlacesRow.holds Tryd.pinned (OpenSpec.ofChange netPlacesWrong)

/-- 'clepsydralaw.NetRuns': WHATEVER THE INPUT: true; the input reads as it did. -/
def netRunsSpec : ChangeSpec := { name := "netRuns", fn := fun _ => fun
  | [d1, d2] => { results := [.lit (.bool true)], args := [d1, d2] }
  | _ => none }
def netRunsRow : OpenClaim := { program := "ytgglbjniclkkpaadoor", sum := "bd38e9b157d7004c8ea4ab089ad3d7554db7a56a9c188de885ed84fc5d653133", func := "clepsydra/clepsydralaw.NetRuns", spec := "netRuns", inPlace := ["internal/reflectlite.ValueOf", "(internal/reflectlite.Value).Type", "(internal/reflectlite.Value).IsNil", "internal/reflectlite.TypeOf", "(internal/reflectlite.Value).Elem", "(internal/reflectlite.Value).Set"], unfollowed := true, recurses := true, named := ["clepsydra/clepsydraref.Fine", "errors.errorType"], apart := false, laid := [("errors.errorType", laid_errors_errorType), ("clepsydra/clepsydraref.Fine", laid_clepsydra_clepsydraref_Fine)] }
def NetRunsSaid : Prop := netRunsRow.holds Tryd.pinned (OpenSpec.ofChange netRunsSpec)

/-- ITS FALSE NEIGHBOUR: 'it returns false'. Refute it at one input. -/
def netRunsWrong : ChangeSpec := { name := "netRuns", fn := fun _ => fun
  | [d1, d2] => { results := [.lit (.bool false)], args := [d1, d2] }
  | _ => none }
def NetRunsWrongFalsely : Prop := netRunsRow.holds Tryd.pinned (OpenSpec.ofChange netRunsWrong)

/- THE SECOND FORM. 'bulk': how many values and letters a reading holds, each counted each time it is reached (what is shared counts as often as it is met; a slice's spare places count too). A statement '..UptoSaid' is the law's where the arguments, and the package variables that the reading takes, are together of bulk at most 1048576: NARROWER than '..Said'. Prove '..Said' where nothing that the law and all that it calls make is longer than what came in: it says more and counts as full. Else prove '..UptoSaid'. A law counts once. -/
mutual
def uptoBulk {H : Type} : DataW H → Nat
  | .lit (.string bytes) => bytes.length + 1
  | .lit _ => 1
  | .nil => 1
  | .ptr d => uptoBulk d + 1
  | .slice elems spare => uptoBulkAll elems + uptoBulkAll spare + 1
  | .agg parts => uptoBulkAll parts + 1
  | .iface _ d => uptoBulk d + 1
  | .map entries => uptoBulkEntries entries + 1
  | .held _ => 1
def uptoBulkAll {H : Type} : List (DataW H) → Nat
  | [] => 0
  | d :: r => uptoBulk d + uptoBulkAll r
def uptoBulkEntries {H : Type} : List (Lit × DataW H) → Nat
  | [] => 0
  | x :: r => uptoBulkEntry x + uptoBulkEntries r
def uptoBulkEntry {H : Type} : Lit × DataW H → Nat
  | (.string bytes, d) => bytes.length + uptoBulk d + 1
  | (_, d) => uptoBulk d + 1
 end
def uptoSmall : (H : Type) → List (DataW H) → Bool := fun _ ds => decide (uptoBulkAll ds ≤ 1048576)
def OpenSpec.upto (s : _root_.Go.ChangeSpec) : _root_.Go.OpenSpec := { _root_.Go.OpenSpec.ofChange s with cond := some uptoSmall }

/-- 'clepsydralaw.NetJudges', WHERE WHAT IT READS IS OF BULK AT MOST 1048576: true; the input reads as it did. -/
def netJudgesUptoRow : OpenClaim := { program := "ytgglbjniclkkpaadoor", sum := "bd38e9b157d7004c8ea4ab089ad3d7554db7a56a9c188de885ed84fc5d653133", func := "clepsydra/clepsydralaw.NetJudges", spec := "netJudges", inPlace := ["internal/reflectlite.ValueOf", "(internal/reflectlite.Value).Type", "(internal/reflectlite.Value).IsNil", "internal/reflectlite.TypeOf", "(internal/reflectlite.Value).Elem", "(internal/reflectlite.Value).Set"], unfollowed := true, recurses := true, named := ["errors.errorType", "clepsydra/clepsydraref.Fine"], apart := false, laid := [("errors.errorType", laid_errors_errorType), ("clepsydra/clepsydraref.Fine", laid_clepsydra_clepsydraref_Fine)], narrowed := true }
def NetJudgesUptoSaid : Prop := netJudgesUptoRow.holds Tryd.pinned (OpenSpec.upto netJudgesSpec)

/-- 'clepsydralaw.ImageWrites', WHERE WHAT IT READS IS OF BULK AT MOST 1048576: true; the input reads as it did. -/
def imageWritesUptoRow : OpenClaim := { program := "ytgglbjniclkkpaadoor", sum := "bd38e9b157d7004c8ea4ab089ad3d7554db7a56a9c188de885ed84fc5d653133", func := "clepsydra/clepsydralaw.ImageWrites", spec := "imageWrites", inPlace := ["internal/abi.NoEscape", "internal/reflectlite.ValueOf", "(internal/reflectlite.Value).Type", "(internal/reflectlite.Value).IsNil", "internal/reflectlite.TypeOf", "(internal/reflectlite.Value).Elem", "(internal/reflectlite.Value).Set"], unfollowed := true, recurses := true, named := ["clepsydra/clepsydraref.Fine", "errors.errorType"], apart := false, laid := [("errors.errorType", laid_errors_errorType), ("clepsydra/clepsydraref.Fine", laid_clepsydra_clepsydraref_Fine)], narrowed := true }
def ImageWritesUptoSaid : Prop := imageWritesUptoRow.holds Tryd.pinned (OpenSpec.upto imageWritesSpec)

/-- 'clepsydralaw.ImageReads', WHERE WHAT IT READS IS OF BULK AT MOST 1048576: true; the input reads as it did. -/
def imageReadsUptoRow : OpenClaim := { program := "ytgglbjniclkkpaadoor", sum := "bd38e9b157d7004c8ea4ab089ad3d7554db7a56a9c188de885ed84fc5d653133", func := "clepsydra/clepsydralaw.ImageReads", spec := "imageReads", inPlace := ["internal/reflectlite.ValueOf", "(internal/reflectlite.Value).Type", "(internal/reflectlite.Value).IsNil", "internal/reflectlite.TypeOf", "(internal/reflectlite.Value).Elem", "(internal/reflectlite.Value).Set"], unfollowed := true, recurses := true, named := ["clepsydra/clepsydraref.Fine", "errors.errorType"], apart := false, laid := [("errors.errorType", laid_errors_errorType), ("clepsydra/clepsydraref.Fine", laid_clepsydra_clepsydraref_Fine)], narrowed := true }
def ImageReadsUptoSaid : Prop := imageReadsUptoRow.holds Tryd.pinned (OpenSpec.upto imageReadsSpec)

/-- 'clepsydrakeep.NetForgets', WHERE WHAT IT READS IS OF BULK AT MOST 1048576: true; the input reads as it did. -/
def netForgetsUptoRow : OpenClaim := { program := "ytgglbjniclkkpaadoor", sum := "bd38e9b157d7004c8ea4ab089ad3d7554db7a56a9c188de885ed84fc5d653133", func := "clepsydra/clepsydrakeep.NetForgets", spec := "netForgets", inPlace := ["internal/reflectlite.ValueOf", "(internal/reflectlite.Value).Type", "(internal/reflectlite.Value).IsNil", "internal/reflectlite.TypeOf", "(internal/reflectlite.Value).Elem", "(internal/reflectlite.Value).Set"], unfollowed := true, recurses := true, named := ["errors.errorType"], apart := false, laid := [("errors.errorType", laid_errors_errorType)], narrowed := true }
def NetForgetsUptoSaid : Prop := netForgetsUptoRow.holds Tryd.pinned (OpenSpec.upto netForgetsSpec)

/-- 'clepsydrakeep.NetPlaces', WHERE WHAT IT READS IS OF BULK AT MOST 1048576: true; the input reads as it did. -/
def netPlacesUptoRow : OpenClaim := { program := "ytgglbjniclkkpaadoor", sum := "bd38e9b157d7004c8ea4ab089ad3d7554db7a56a9c188de885ed84fc5d653133", func := "clepsydra/clepsydrakeep.NetPlaces", spec := "netPlaces", inPlace := ["internal/reflectlite.ValueOf", "(internal/reflectlite.Value).Type", "(internal/reflectlite.Value).IsNil", "internal/reflectlite.TypeOf", "(internal/reflectlite.Value).Elem", "(internal/reflectlite.Value).Set"], unfollowed := true, recurses := true, named := ["errors.errorType"], apart := false, laid := [("errors.errorType", laid_errors_errorType)], narrowed := true }
def NetPlacesUptoSaid : Prop := netPlacesUptoRow.holds Tryd.pinned (OpenSpec.upto netPlacesSpec)

/-- 'clepsydralaw.NetRuns', WHERE WHAT IT READS IS OF BULK AT MOST 1048576: true; the input reads as it did. -/
def netRunsUptoRow : OpenClaim := { program := "ytgglbjniclkkpaadoor", sum := "bd38e9b157d7004c8ea4ab089ad3d7554db7a56a9c188de885ed84fc5d653133", func := "clepsydra/clepsydralaw.NetRuns", spec := "netRuns", inPlace := ["internal/reflectlite.ValueOf", "(internal/reflectlite.Value).Type", "(internal/reflectlite.Value).IsNil", "internal/reflectlite.TypeOf", "(internal/reflectlite.Value).Elem", "(internal/reflectlite.Value).Set"], unfollowed := true, recurses := true, named := ["clepsydra/clepsydraref.Fine", "errors.errorType"], apart := false, laid := [("errors.errorType", laid_errors_errorType), ("clepsydra/clepsydraref.Fine", laid_clepsydra_clepsydraref_Fine)], narrowed := true }
def NetRunsUptoSaid : Prop := netRunsUptoRow.holds Tryd.pinned (OpenSpec.upto netRunsSpec)

end Rows
end Go.Proofs.YtgglbjniclkkpaaDoor
