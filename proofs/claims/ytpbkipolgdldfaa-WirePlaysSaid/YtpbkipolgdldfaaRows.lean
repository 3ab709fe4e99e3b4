/-
  No cell of these rows narrows 'for every input' (looked for: loops, veiled, ifaces, maps, wideKeys, modest, calm, conditions, laid).
  DERIVED. THE GIVEN ROWS OF THIS SEAT. 5 by the template 'for every input the law returns true; each argument reads behind the call as it read before'; 0 by the template 'total and deterministic' (their statements: YtpbkipolgdldfaaTotals.lean).
  GIVEN WITH THE SEED: the statements are not yours to turn. If you find one false, say at which input.
  Laid BY PROGRAM, IN A SANDBOX (cutbox-rows.mjs): the forced cells as the released guide's own fill.sh prints them over the translation b337de1d4d8d3eb4… (all of the seat's roots in one cut). By AI agents, Wed Nov 11 2026. No macro, syntax, notation, axiom, sorry.
-/
import Derived.Test.YtpbkipolgdldfaaChecked
import GoSem.Claim
import GoSem.ClaimJoined
import GoSem.ClaimMapViews
import Derived.JoinedTies
import Derived.KernelRfl
namespace Go.Proofs.Ytpbkipolgdldfaa
/- THE CELL 'sum', in the pinned program and in every row, IS THE sha256 OF THE DUMP (.gsa) THAT YtpbkipolgdldfaaProg.lean LOADS. Nothing in Lean hashes anything: it is a label: what it is worth is what the hold of that sum in a sandbox is worth. -/
noncomputable def Try.pinned : Pinned := { name := "ytpbkipolgdldfaa", sum := "b337de1d4d8d3eb489d335e38d94ceeb12e736fb6ba3d60589f093d7f6d1db5e", checked := Try.checked }
namespace Rows
def none {H : Type} : Left H := { results := [], args := [] }

/-- 'rejoinderlaw07.WireStates': WHATEVER THE INPUT: true; the input reads as it did. -/
def wireStatesSpec : ChangeSpec := { name := "wireStates", fn := fun _ => fun
  | [d] => { results := [.lit (.bool true)], args := [d] }
  | _ => none }
def wireStatesRow : OpenClaim := { program := "ytpbkipolgdldfaa", sum := "b337de1d4d8d3eb489d335e38d94ceeb12e736fb6ba3d60589f093d7f6d1db5e", func := "rejoinder/rejoinderlaw07.WireStates", spec := "wireStates", apart := false }
def WireStatesSaid : Prop := wireStatesRow.holds Try.pinned (OpenSpec.ofChange wireStatesSpec)

/-- ITS FALSE NEIGHBOUR: 'it returns false'. Refute it at one input. -/
def wireStatesWrong : ChangeSpec := { name := "wireStates", fn := fun _ => fun
  | [d] => { results := [.lit (.bool false)], args := [d] }
  | _ => none }
def WireStatesWrongFalsely : Prop := wireStatesRow.holds Try.pinned (OpenSpec.ofChange wireStatesWrong)

/-- 'rejoinderlaw07.WireBytes': WHATEVER THE INPUT: true; the input reads as it did. -/
def wireBytesSpec : ChangeSpec := { name := "wireBytes", fn := fun _ => fun
  | [d1, d2] => { results := [.lit (.bool true)], args := [d1, d2] }
  | _ => none }
def wireBytesRow : OpenClaim := { program := "ytpbkipolgdldfaa", sum := "b337de1d4d8d3eb489d335e38d94ceeb12e736fb6ba3d60589f093d7f6d1db5e", func := "rejoinder/rejoinderlaw07.WireBytes", spec := "wireBytes", apart := false }
def WireBytesSaid : Prop := wireBytesRow.holds Try.pinned (OpenSpec.ofChange wireBytesSpec)

/-- ITS FALSE NEIGHBOUR: 'it returns false'. Refute it at one input. -/
def wireBytesWrong : ChangeSpec := { name := "wireBytes", fn := fun _ => fun
  | [d1, d2] => { results := [.lit (.bool false)], args := [d1, d2] }
  | _ => none }
def WireBytesWrongFalsely : Prop := wireBytesRow.holds Try.pinned (OpenSpec.ofChange wireBytesWrong)

/-- 'rejoinderlaw07.WireGoes': WHATEVER THE INPUT: true; the input reads as it did. -/
def wireGoesSpec : ChangeSpec := { name := "wireGoes", fn := fun _ => fun
  | [d] => { results := [.lit (.bool true)], args := [d] }
  | _ => none }
def wireGoesRow : OpenClaim := { program := "ytpbkipolgdldfaa", sum := "b337de1d4d8d3eb489d335e38d94ceeb12e736fb6ba3d60589f093d7f6d1db5e", func := "rejoinder/rejoinderlaw07.WireGoes", spec := "wireGoes", apart := false }
def WireGoesSaid : Prop := wireGoesRow.holds Try.pinned (OpenSpec.ofChange wireGoesSpec)

/-- ITS FALSE NEIGHBOUR: 'it returns false'. Refute it at one input. -/
def wireGoesWrong : ChangeSpec := { name := "wireGoes", fn := fun _ => fun
  | [d] => { results := [.lit (.bool false)], args := [d] }
  | _ => none }
def WireGoesWrongFalsely : Prop := wireGoesRow.holds Try.pinned (OpenSpec.ofChange wireGoesWrong)

/-- 'rejoinderlaw07.WireAsks': WHATEVER THE INPUT: true; the input reads as it did. -/
def wireAsksSpec : ChangeSpec := { name := "wireAsks", fn := fun _ => fun
  | [d1, d2] => { results := [.lit (.bool true)], args := [d1, d2] }
  | _ => none }
def wireAsksRow : OpenClaim := { program := "ytpbkipolgdldfaa", sum := "b337de1d4d8d3eb489d335e38d94ceeb12e736fb6ba3d60589f093d7f6d1db5e", func := "rejoinder/rejoinderlaw07.WireAsks", spec := "wireAsks", apart := false }
def WireAsksSaid : Prop := wireAsksRow.holds Try.pinned (OpenSpec.ofChange wireAsksSpec)

/-- ITS FALSE NEIGHBOUR: 'it returns false'. Refute it at one input. -/
def wireAsksWrong : ChangeSpec := { name := "wireAsks", fn := fun _ => fun
  | [d1, d2] => { results := [.lit (.bool false)], args := [d1, d2] }
  | _ => none }
def WireAsksWrongFalsely : Prop := wireAsksRow.holds Try.pinned (OpenSpec.ofChange wireAsksWrong)

/-- 'rejoinderlaw07.WirePlays': WHATEVER THE INPUT: true; the input reads as it did. -/
def wirePlaysSpec : ChangeSpec := { name := "wirePlays", fn := fun _ => fun
  | [d] => { results := [.lit (.bool true)], args := [d] }
  | _ => none }
def wirePlaysRow : OpenClaim := { program := "ytpbkipolgdldfaa", sum := "b337de1d4d8d3eb489d335e38d94ceeb12e736fb6ba3d60589f093d7f6d1db5e", func := "rejoinder/rejoinderlaw07.WirePlays", spec := "wirePlays", apart := false }
def WirePlaysSaid : Prop := wirePlaysRow.holds Try.pinned (OpenSpec.ofChange wirePlaysSpec)

/-- ITS FALSE NEIGHBOUR: 'it returns false'. Refute it at one input. -/
def wirePlaysWrong : ChangeSpec := { name := "wirePlays", fn := fun _ => fun
  | [d] => { results := [.lit (.bool false)], args := [d] }
  | _ => none }
def WirePlaysWrongFalsely : Prop := wirePlaysRow.holds Try.pinned (OpenSpec.ofChange wirePlaysWrong)

/- THE SECOND FORM. 'bulk': how many values and letters a reading holds, each counted each time it is reached (what is shared counts as often as it is met; a slice's spare places count too). A statement '..UptoSaid' is the law's where the arguments, and the package variables that the reading takes, are together of bulk at most 1048576: NARROWER than '..Said'. Prove '..Said' where nothing that the law and all that it calls make is longer than what came in: it says more and counts as full. Else prove '..UptoSaid'. A law counts once. -/
mutual
def uptoBulk {H : Type} : DataW H → Nat
  | .lit (.string bytes) => bytes.length + 1
  | .lit _ => 1
  | .nil => 1
  | .ptr d => uptoBulk d + 1
  | .slice elems spare => uptoBulkAll elems + uptoBulkAll spare + 1
  | .agg parts => uptoBulkAll parts + 1
  | .iface _ d => uptoBulk d + 1
  | .map entries => uptoBulkEntries entries + 1
  | .held _ => 1
def uptoBulkAll {H : Type} : List (DataW H) → Nat
  | [] => 0
  | d :: r => uptoBulk d + uptoBulkAll r
def uptoBulkEntries {H : Type} : List (Lit × DataW H) → Nat
  | [] => 0
  | x :: r => uptoBulkEntry x + uptoBulkEntries r
def uptoBulkEntry {H : Type} : Lit × DataW H → Nat
  | (.string bytes, d) => bytes.length + uptoBulk d + 1
  | (_, d) => uptoBulk d + 1
 end
def uptoSmall : (H : Type) → List (DataW H) → Bool := fun _ ds => decide (uptoBulkAll ds ≤ 1048576)
def OpenSpec.upto (s : _root_.Go.ChangeSpec) : _root_.Go.OpenSpec := { _root_.Go.OpenSpec.ofChange s with cond := some uptoSmall }

/-- 'rejoinderlaw07.WireStates', WHERE WHAT IT READS IS OF BULK AT MOST 1048576: true; the input reads as it did. -/
def wireStatesUptoRow : OpenClaim := { program := "ytpbkipolgdldfaa", sum := "b337de1d4d8d3eb489d335e38d94ceeb12e736fb6ba3d60589f093d7f6d1db5e", func := "rejoinder/rejoinderlaw07.WireStates", spec := "wireStates", apart := false, narrowed := true }
def WireStatesUptoSaid : Prop := wireStatesUptoRow.holds Try.pinned (OpenSpec.upto wireStatesSpec)

/-- 'rejoinderlaw07.WireBytes', WHERE WHAT IT READS IS OF BULK AT MOST 1048576: true; the input reads as it did. -/
def wireBytesUptoRow : OpenClaim := { program := "ytpbkipolgdldfaa", sum := "b337de1d4d8d3eb489d335e38d94ceeb12e736fb6ba3d60589f093d7f6d1db5e", func := "rejoinder/rejoinderlaw07.WireBytes", spec := "wireBytes", apart := false, narrowed := true }
def WireBytesUptoSaid : Prop := wireBytesUptoRow.holds Try.pinned (OpenSpec.upto wireBytesSpec)

/-- 'rejoinderlaw07.WireGoes', WHERE WHAT IT READS IS OF BULK AT MOST 1048576: true; the input reads as it did. -/
def wireGoesUptoRow : OpenClaim := { program := "ytpbkipolgdldfaa", sum := "b337de1d4d8d3eb489d335e38d94ceeb12e736fb6ba3d60589f093d7f6d1db5e", func := "rejoinder/rejoinderlaw07.WireGoes", spec := "wireGoes", apart := false, narrowed := true }
def WireGoesUptoSaid : Prop := wireGoesUptoRow.holds Try.pinned (OpenSpec.upto wireGoesSpec)

/-- 'rejoinderlaw07.WireAsks', WHERE WHAT IT READS IS OF BULK AT MOST 1048576: true; the input reads as it did. -/
def wireAsksUptoRow : OpenClaim := { program := "ytpbkipolgdldfaa", sum := "b337de1d4d8d3eb489d335e38d94ceeb12e736fb6ba3d60589f093d7f6d1db5e", func := "rejoinder/rejoinderlaw07.WireAsks", spec := "wireAsks", apart := false, narrowed := true }
def WireAsksUptoSaid : Prop := wireAsksUptoRow.holds Try.pinned (OpenSpec.upto wireAsksSpec)

/-- 'rejoinderlaw07.WirePlays', WHERE WHAT IT READS IS OF BULK AT MOST 1048576: true; the input reads as it did. -/
def wirePlaysUptoRow : OpenClaim := { program := "ytpbkipolgdldfaa", sum := "b337de1d4d8d3eb489d335e38d94ceeb12e736fb6ba3d60589f093d7f6d1db5e", func := "rejoinder/rejoinderlaw07.WirePlays", spec := "wirePlays", apart := false, narrowed := true }
def WirePlaysUptoSaid : Prop := wirePlaysUptoRow.holds Try.pinned (OpenSpec.upto wirePlaysSpec)

end Rows
end Go.Proofs.Ytpbkipolgdldfaa
