/-
  DERIVED. GIVEN WITH THE SEED: THE CARDS: each row of YtgglbjniclkkpaaDoorRows.lean that lists a variable, with what it lists TIED to the program's text (the seventh form; the later family's looks); each row that meets fmt, with fmt's text TOLD by the authors' own Lean function (tested against real Go, not proved from fmt's source: count such statements apart). THE CARD IS WHAT COUNTS. Prove the row's statement (the work); the ties are given (YtgglbjniclkkpaaDoorTie.lean); close each card by the builder's one call (the guide's Derived/Test/ToyasCard.lean, 'card_holds'). Laid BY PROGRAM, IN A SANDBOX (cutbox-door.mjs). By AI agents, Wed Nov 11 2026. No macro, syntax, notation, axiom, sorry.
-/
import Derived.Test.YtgglbjniclkkpaaDoorRows
import GoSem.ClaimSeven
namespace Go.Proofs.YtgglbjniclkkpaaDoor
namespace Rows

/-- THE TIED CARD OF 'clepsydralaw.NetJudges'. -/
def netJudgesCard : Claim7 := { stood := { row := netJudgesRow, standIns := [], harness := (true, "d319b22cd1062fa812d101cf786b15cef70c8bcd07d5ab8cccfb18a4d3284dee"), looks := true }, kinds := [], alts := [], laidByText := true, laidKinds := [.handle, .data], laidTests := true, laidLooks := .later }
def NetJudgesCardSaid : Prop := Claim7.holds Tryd.pinned (.plain (OpenSpec.ofChange netJudgesSpec)) netJudgesCard

/-- THE TIED CARD OF 'clepsydralaw.ImageWrites'. -/
def imageWritesCard : Claim7 := { stood := { row := imageWritesRow, standIns := [], harness := (true, "d319b22cd1062fa812d101cf786b15cef70c8bcd07d5ab8cccfb18a4d3284dee"), looks := true }, kinds := [], alts := [], laidByText := true, laidKinds := [.handle, .data], laidTests := true, laidLooks := .later }
def ImageWritesCardSaid : Prop := Claim7.holds Tryd.pinned (.plain (OpenSpec.ofChange imageWritesSpec)) imageWritesCard

/-- THE TIED CARD OF 'clepsydralaw.ImageReads'. -/
def imageReadsCard : Claim7 := { stood := { row := imageReadsRow, standIns := [], harness := (true, "d319b22cd1062fa812d101cf786b15cef70c8bcd07d5ab8cccfb18a4d3284dee"), looks := true }, kinds := [], alts := [], laidByText := true, laidKinds := [.handle, .data], laidTests := true, laidLooks := .later }
def ImageReadsCardSaid : Prop := Claim7.holds Tryd.pinned (.plain (OpenSpec.ofChange imageReadsSpec)) imageReadsCard

/-- THE TIED CARD OF 'clepsydrakeep.NetForgets'. -/
def netForgetsCard : Claim7 := { stood := { row := netForgetsRow, standIns := [], harness := (true, "d319b22cd1062fa812d101cf786b15cef70c8bcd07d5ab8cccfb18a4d3284dee"), looks := true }, kinds := [], alts := [], laidByText := true, laidKinds := [.handle], laidTests := true, laidLooks := .later }
def NetForgetsCardSaid : Prop := Claim7.holds Tryd.pinned (.plain (OpenSpec.ofChange netForgetsSpec)) netForgetsCard

/-- THE TIED CARD OF 'clepsydrakeep.NetPlaces'. -/
def netPlacesCard : Claim7 := { stood := { row := netPlacesRow, standIns := [], harness := (true, "d319b22cd1062fa812d101cf786b15cef70c8bcd07d5ab8cccfb18a4d3284dee"), looks := true }, kinds := [], alts := [], laidByText := true, laidKinds := [.handle], laidTests := true, laidLooks := .later }
def NetPlacesCardSaid : Prop := Claim7.holds Tryd.pinned (.plain (OpenSpec.ofChange netPlacesSpec)) netPlacesCard

/-- THE TIED CARD OF 'clepsydralaw.NetRuns'. -/
def netRunsCard : Claim7 := { stood := { row := netRunsRow, standIns := [], harness := (true, "d319b22cd1062fa812d101cf786b15cef70c8bcd07d5ab8cccfb18a4d3284dee"), looks := true }, kinds := [], alts := [], laidByText := true, laidKinds := [.handle, .data], laidTests := true, laidLooks := .later }
def NetRunsCardSaid : Prop := Claim7.holds Tryd.pinned (.plain (OpenSpec.ofChange netRunsSpec)) netRunsCard

/-- THE SECOND FORM's CARD OF 'clepsydralaw.NetJudges'. -/
def netJudgesUptoCard : Claim7 := { stood := { row := netJudgesUptoRow, standIns := [], harness := (true, "d319b22cd1062fa812d101cf786b15cef70c8bcd07d5ab8cccfb18a4d3284dee"), looks := true }, kinds := [], alts := [], laidByText := true, laidKinds := [.handle, .data], laidTests := true, laidLooks := .later }
def NetJudgesUptoCardSaid : Prop := Claim7.holds Tryd.pinned (.plain (OpenSpec.upto netJudgesSpec)) netJudgesUptoCard

/-- THE SECOND FORM's CARD OF 'clepsydralaw.ImageWrites'. -/
def imageWritesUptoCard : Claim7 := { stood := { row := imageWritesUptoRow, standIns := [], harness := (true, "d319b22cd1062fa812d101cf786b15cef70c8bcd07d5ab8cccfb18a4d3284dee"), looks := true }, kinds := [], alts := [], laidByText := true, laidKinds := [.handle, .data], laidTests := true, laidLooks := .later }
def ImageWritesUptoCardSaid : Prop := Claim7.holds Tryd.pinned (.plain (OpenSpec.upto imageWritesSpec)) imageWritesUptoCard

/-- THE SECOND FORM's CARD OF 'clepsydralaw.ImageReads'. -/
def imageReadsUptoCard : Claim7 := { stood := { row := imageReadsUptoRow, standIns := [], harness := (true, "d319b22cd1062fa812d101cf786b15cef70c8bcd07d5ab8cccfb18a4d3284dee"), looks := true }, kinds := [], alts := [], laidByText := true, laidKinds := [.handle, .data], laidTests := true, laidLooks := .later }
def ImageReadsUptoCardSaid : Prop := Claim7.holds Tryd.pinned (.plain (OpenSpec.upto imageReadsSpec)) imageReadsUptoCard

/-- THE SECOND FORM's CARD OF 'clepsydrakeep.NetForgets'. -/
def netForgetsUptoCard : Claim7 := { stood := { row := netForgetsUptoRow, standIns := [], harness := (true, "d319b22cd1062fa812d101cf786b15cef70c8bcd07d5ab8cccfb18a4d3284dee"), looks := true }, kinds := [], alts := [], laidByText := true, laidKinds := [.handle], laidTests := true, laidLooks := .later }
def NetForgetsUptoCardSaid : Prop := Claim7.holds Tryd.pinned (.plain (OpenSpec.upto netForgetsSpec)) netForgetsUptoCard

/-- THE SECOND FORM's CARD OF 'clepsydrakeep.NetPlaces'. -/
def netPlacesUptoCard : Claim7 := { stood := { row := netPlacesUptoRow, standIns := [], harness := (true, "d319b22cd1062fa812d101cf786b15cef70c8bcd07d5ab8cccfb18a4d3284dee"), looks := true }, kinds := [], alts := [], laidByText := true, laidKinds := [.handle], laidTests := true, laidLooks := .later }
def NetPlacesUptoCardSaid : Prop := Claim7.holds Tryd.pinned (.plain (OpenSpec.upto netPlacesSpec)) netPlacesUptoCard

/-- THE SECOND FORM's CARD OF 'clepsydralaw.NetRuns'. -/
def netRunsUptoCard : Claim7 := { stood := { row := netRunsUptoRow, standIns := [], harness := (true, "d319b22cd1062fa812d101cf786b15cef70c8bcd07d5ab8cccfb18a4d3284dee"), looks := true }, kinds := [], alts := [], laidByText := true, laidKinds := [.handle, .data], laidTests := true, laidLooks := .later }
def NetRunsUptoCardSaid : Prop := Claim7.holds Tryd.pinned (.plain (OpenSpec.upto netRunsSpec)) netRunsUptoCard
end Rows
end Go.Proofs.YtgglbjniclkkpaaDoor
