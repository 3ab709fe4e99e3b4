/-
  DERIVED. GIVEN WITH THE SEED: THE CARDS: each row of YtghfngnakoccbaaDoorRows.lean that lists a variable, with what it lists TIED to the program's text (the seventh form; the later family's looks); each row that meets fmt, with fmt's text TOLD by the authors' own Lean function (tested against real Go, not proved from fmt's source: count such statements apart). THE CARD IS WHAT COUNTS. Prove the row's statement (the work); the ties are given (YtghfngnakoccbaaDoorTie.lean); close each card by the builder's one call (the guide's Derived/Test/ToyasCard.lean, 'card_holds'). Laid BY PROGRAM, IN A SANDBOX (cutbox-door.mjs). By AI agents, Wed Nov 11 2026. No macro, syntax, notation, axiom, sorry.
-/
import Derived.Test.YtghfngnakoccbaaDoorRows
import GoSem.ClaimSeven
namespace Go.Proofs.YtghfngnakoccbaaDoor
namespace Rows

/-- THE TIED CARD OF 'rejoinderlaw09.StuffFull'. -/
def stuffFullCard : Claim7 := { stood := { row := stuffFullRow, standIns := [], harness := (true, "911af320b6881d9eeedcb2601b16caf252b41c99fc2f36a4678849b7c4d9de28"), looks := false }, kinds := [], alts := [], laidByText := true, laidKinds := [.data, .sentinel, .pinned], laidTests := true, laidLooks := .later }
def StuffFullCardSaid : Prop := Claim7.holds Tryd.pinned (.plain (OpenSpec.ofChange stuffFullSpec)) stuffFullCard

/-- THE TIED CARD OF 'rejoinderlaw09.StuffBack'. -/
def stuffBackCard : Claim7 := { stood := { row := stuffBackRow, standIns := [], harness := (true, "911af320b6881d9eeedcb2601b16caf252b41c99fc2f36a4678849b7c4d9de28"), looks := false }, kinds := [], alts := [], laidByText := true, laidKinds := [.data, .sentinel, .pinned], laidTests := true, laidLooks := .later }
def StuffBackCardSaid : Prop := Claim7.holds Tryd.pinned (.plain (OpenSpec.ofChange stuffBackSpec)) stuffBackCard

/-- THE TIED CARD OF 'rejoinderlaw09.StuffLines'. -/
def stuffLinesCard : Claim7 := { stood := { row := stuffLinesRow, standIns := [], harness := (true, "911af320b6881d9eeedcb2601b16caf252b41c99fc2f36a4678849b7c4d9de28"), looks := false }, kinds := [], alts := [], laidByText := true, laidKinds := [.data, .sentinel, .pinned], laidTests := true, laidLooks := .later }
def StuffLinesCardSaid : Prop := Claim7.holds Tryd.pinned (.plain (OpenSpec.ofChange stuffLinesSpec)) stuffLinesCard

/-- THE TIED CARD OF 'rejoinderlaw09.StuffJoins'. -/
def stuffJoinsCard : Claim7 := { stood := { row := stuffJoinsRow, standIns := [], harness := (true, "911af320b6881d9eeedcb2601b16caf252b41c99fc2f36a4678849b7c4d9de28"), looks := false }, kinds := [], alts := [], laidByText := true, laidKinds := [.data, .sentinel, .pinned], laidTests := true, laidLooks := .later }
def StuffJoinsCardSaid : Prop := Claim7.holds Tryd.pinned (.plain (OpenSpec.ofChange stuffJoinsSpec)) stuffJoinsCard

/-- THE TIED CARD OF 'rejoinderlaw09.StuffAll'. -/
def stuffAllCard : Claim7 := { stood := { row := stuffAllRow, standIns := [], harness := (true, "911af320b6881d9eeedcb2601b16caf252b41c99fc2f36a4678849b7c4d9de28"), looks := false }, kinds := [], alts := [], laidByText := true, laidKinds := [.data, .sentinel, .pinned], laidTests := true, laidLooks := .later }
def StuffAllCardSaid : Prop := Claim7.holds Tryd.pinned (.plain (OpenSpec.ofChange stuffAllSpec)) stuffAllCard

/-- THE SECOND FORM's CARD OF 'rejoinderlaw09.StuffFull'. -/
def stuffFullUptoCard : Claim7 := { stood := { row := stuffFullUptoRow, standIns := [], harness := (true, "911af320b6881d9eeedcb2601b16caf252b41c99fc2f36a4678849b7c4d9de28"), looks := false }, kinds := [], alts := [], laidByText := true, laidKinds := [.data, .sentinel, .pinned], laidTests := true, laidLooks := .later }
def StuffFullUptoCardSaid : Prop := Claim7.holds Tryd.pinned (.plain (OpenSpec.upto stuffFullSpec)) stuffFullUptoCard

/-- THE SECOND FORM's CARD OF 'rejoinderlaw09.StuffBack'. -/
def stuffBackUptoCard : Claim7 := { stood := { row := stuffBackUptoRow, standIns := [], harness := (true, "911af320b6881d9eeedcb2601b16caf252b41c99fc2f36a4678849b7c4d9de28"), looks := false }, kinds := [], alts := [], laidByText := true, laidKinds := [.data, .sentinel, .pinned], laidTests := true, laidLooks := .later }
def StuffBackUptoCardSaid : Prop := Claim7.holds Tryd.pinned (.plain (OpenSpec.upto stuffBackSpec)) stuffBackUptoCard

/-- THE SECOND FORM's CARD OF 'rejoinderlaw09.StuffLines'. -/
def stuffLinesUptoCard : Claim7 := { stood := { row := stuffLinesUptoRow, standIns := [], harness := (true, "911af320b6881d9eeedcb2601b16caf252b41c99fc2f36a4678849b7c4d9de28"), looks := false }, kinds := [], alts := [], laidByText := true, laidKinds := [.data, .sentinel, .pinned], laidTests := true, laidLooks := .later }
def StuffLinesUptoCardSaid : Prop := Claim7.holds Tryd.pinned (.plain (OpenSpec.upto stuffLinesSpec)) stuffLinesUptoCard

/-- THE SECOND FORM's CARD OF 'rejoinderlaw09.StuffJoins'. -/
def stuffJoinsUptoCard : Claim7 := { stood := { row := stuffJoinsUptoRow, standIns := [], harness := (true, "911af320b6881d9eeedcb2601b16caf252b41c99fc2f36a4678849b7c4d9de28"), looks := false }, kinds := [], alts := [], laidByText := true, laidKinds := [.data, .sentinel, .pinned], laidTests := true, laidLooks := .later }
def StuffJoinsUptoCardSaid : Prop := Claim7.holds Tryd.pinned (.plain (OpenSpec.upto stuffJoinsSpec)) stuffJoinsUptoCard

/-- THE SECOND FORM's CARD OF 'rejoinderlaw09.StuffAll'. -/
def stuffAllUptoCard : Claim7 := { stood := { row := stuffAllUptoRow, standIns := [], harness := (true, "911af320b6881d9eeedcb2601b16caf252b41c99fc2f36a4678849b7c4d9de28"), looks := false }, kinds := [], alts := [], laidByText := true, laidKinds := [.data, .sentinel, .pinned], laidTests := true, laidLooks := .later }
def StuffAllUptoCardSaid : Prop := Claim7.holds Tryd.pinned (.plain (OpenSpec.upto stuffAllSpec)) stuffAllUptoCard
end Rows
end Go.Proofs.YtghfngnakoccbaaDoor
