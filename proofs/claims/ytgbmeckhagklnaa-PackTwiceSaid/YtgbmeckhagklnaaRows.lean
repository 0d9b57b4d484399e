/-
  No cell of these rows narrows 'for every input' (looked for: loops, veiled, ifaces, maps, wideKeys, modest, calm, conditions, laid).
  DERIVED. THE GIVEN ROWS OF THIS SEAT. 23 by the template 'for every input the law returns true; each argument reads behind the call as it read before'; 0 by the template 'total and deterministic' (their statements: YtgbmeckhagklnaaTotals.lean).
  GIVEN WITH THE SEED: the statements are not yours to turn. If you find one false, say at which input.
  Laid BY PROGRAM, IN A SANDBOX (cutbox-rows.mjs): the forced cells as the released guide's own fill.sh prints them over the translation 715714ee92ef1805… (all of the seat's roots in one cut). By AI agents, Wed Nov 11 2026. No macro, syntax, notation, axiom, sorry.
-/
import Derived.Test.YtgbmeckhagklnaaChecked
import GoSem.Claim
import GoSem.ClaimJoined
import GoSem.ClaimMapViews
import Derived.JoinedTies
import Derived.KernelRfl
namespace Go.Proofs.Ytgbmeckhagklnaa
/- THE CELL 'sum', in the pinned program and in every row, IS THE sha256 OF THE DUMP (.gsa) THAT YtgbmeckhagklnaaProg.lean LOADS. Nothing in Lean hashes anything: it is a label: what it is worth is what the hold of that sum in a sandbox is worth. -/
noncomputable def Try.pinned : Pinned := { name := "ytgbmeckhagklnaa", sum := "715714ee92ef18057712fb6fdd3d845bb4c9b54022d98d51da2e88e3b6f05f73", checked := Try.checked }
namespace Rows
def none {H : Type} : Left H := { results := [], args := [] }

/-- 'hacklelaw01.InsnParts': WHATEVER THE INPUT: true; the input reads as it did. -/
def insnPartsSpec : ChangeSpec := { name := "insnParts", fn := fun _ => fun
  | [d1, d2] => { results := [.lit (.bool true)], args := [d1, d2] }
  | _ => none }
def insnPartsRow : OpenClaim := { program := "ytgbmeckhagklnaa", sum := "715714ee92ef18057712fb6fdd3d845bb4c9b54022d98d51da2e88e3b6f05f73", func := "hackle/hacklelaw01.InsnParts", spec := "insnParts", apart := false }
def InsnPartsSaid : Prop := insnPartsRow.holds Try.pinned (OpenSpec.ofChange insnPartsSpec)

/-- ITS FALSE NEIGHBOUR: 'it returns false'. Refute it at one input. -/
def insnPartsWrong : ChangeSpec := { name := "insnParts", fn := fun _ => fun
  | [d1, d2] => { results := [.lit (.bool false)], args := [d1, d2] }
  | _ => none }
def InsnPartsWrongFalsely : Prop := insnPartsRow.holds Try.pinned (OpenSpec.ofChange insnPartsWrong)

/-- 'hacklelaw01.InsnLong': WHATEVER THE INPUT: true; the input reads as it did. -/
def insnLongSpec : ChangeSpec := { name := "insnLong", fn := fun _ => fun
  | [d1, d2, d3, d4] => { results := [.lit (.bool true)], args := [d1, d2, d3, d4] }
  | _ => none }
def insnLongRow : OpenClaim := { program := "ytgbmeckhagklnaa", sum := "715714ee92ef18057712fb6fdd3d845bb4c9b54022d98d51da2e88e3b6f05f73", func := "hackle/hacklelaw01.InsnLong", spec := "insnLong", apart := false }
def InsnLongSaid : Prop := insnLongRow.holds Try.pinned (OpenSpec.ofChange insnLongSpec)

/-- ITS FALSE NEIGHBOUR: 'it returns false'. Refute it at one input. -/
def insnLongWrong : ChangeSpec := { name := "insnLong", fn := fun _ => fun
  | [d1, d2, d3, d4] => { results := [.lit (.bool false)], args := [d1, d2, d3, d4] }
  | _ => none }
def InsnLongWrongFalsely : Prop := insnLongRow.holds Try.pinned (OpenSpec.ofChange insnLongWrong)

/-- 'hacklelaw01.InsnPuts': WHATEVER THE INPUT: true; the input reads as it did. -/
def insnPutsSpec : ChangeSpec := { name := "insnPuts", fn := fun _ => fun
  | [d1, d2] => { results := [.lit (.bool true)], args := [d1, d2] }
  | _ => none }
def insnPutsRow : OpenClaim := { program := "ytgbmeckhagklnaa", sum := "715714ee92ef18057712fb6fdd3d845bb4c9b54022d98d51da2e88e3b6f05f73", func := "hackle/hacklelaw01.InsnPuts", spec := "insnPuts", apart := false }
def InsnPutsSaid : Prop := insnPutsRow.holds Try.pinned (OpenSpec.ofChange insnPutsSpec)

/-- ITS FALSE NEIGHBOUR: 'it returns false'. Refute it at one input. -/
def insnPutsWrong : ChangeSpec := { name := "insnPuts", fn := fun _ => fun
  | [d1, d2] => { results := [.lit (.bool false)], args := [d1, d2] }
  | _ => none }
def InsnPutsWrongFalsely : Prop := insnPutsRow.holds Try.pinned (OpenSpec.ofChange insnPutsWrong)

/-- 'hacklelaw01.InsnTakes': WHATEVER THE INPUT: true; the input reads as it did. -/
def insnTakesSpec : ChangeSpec := { name := "insnTakes", fn := fun _ => fun
  | [d] => { results := [.lit (.bool true)], args := [d] }
  | _ => none }
def insnTakesRow : OpenClaim := { program := "ytgbmeckhagklnaa", sum := "715714ee92ef18057712fb6fdd3d845bb4c9b54022d98d51da2e88e3b6f05f73", func := "hackle/hacklelaw01.InsnTakes", spec := "insnTakes", apart := false }
def InsnTakesSaid : Prop := insnTakesRow.holds Try.pinned (OpenSpec.ofChange insnTakesSpec)

/-- ITS FALSE NEIGHBOUR: 'it returns false'. Refute it at one input. -/
def insnTakesWrong : ChangeSpec := { name := "insnTakes", fn := fun _ => fun
  | [d] => { results := [.lit (.bool false)], args := [d] }
  | _ => none }
def InsnTakesWrongFalsely : Prop := insnTakesRow.holds Try.pinned (OpenSpec.ofChange insnTakesWrong)

/-- 'hacklelaw01.InsnBack': WHATEVER THE INPUT: true; the input reads as it did. -/
def insnBackSpec : ChangeSpec := { name := "insnBack", fn := fun _ => fun
  | [d1, d2] => { results := [.lit (.bool true)], args := [d1, d2] }
  | _ => none }
def insnBackRow : OpenClaim := { program := "ytgbmeckhagklnaa", sum := "715714ee92ef18057712fb6fdd3d845bb4c9b54022d98d51da2e88e3b6f05f73", func := "hackle/hacklelaw01.InsnBack", spec := "insnBack", apart := false }
def InsnBackSaid : Prop := insnBackRow.holds Try.pinned (OpenSpec.ofChange insnBackSpec)

/-- ITS FALSE NEIGHBOUR: 'it returns false'. Refute it at one input. -/
def insnBackWrong : ChangeSpec := { name := "insnBack", fn := fun _ => fun
  | [d1, d2] => { results := [.lit (.bool false)], args := [d1, d2] }
  | _ => none }
def InsnBackWrongFalsely : Prop := insnBackRow.holds Try.pinned (OpenSpec.ofChange insnBackWrong)

/-- 'hacklelaw07.CodeWhat': WHATEVER THE INPUT: true; the input reads as it did. -/
def codeWhatSpec : ChangeSpec := { name := "codeWhat", fn := fun _ => fun
  | [d] => { results := [.lit (.bool true)], args := [d] }
  | _ => none }
def codeWhatRow : OpenClaim := { program := "ytgbmeckhagklnaa", sum := "715714ee92ef18057712fb6fdd3d845bb4c9b54022d98d51da2e88e3b6f05f73", func := "hackle/hacklelaw07.CodeWhat", spec := "codeWhat", apart := false }
def CodeWhatSaid : Prop := codeWhatRow.holds Try.pinned (OpenSpec.ofChange codeWhatSpec)

/-- ITS FALSE NEIGHBOUR: 'it returns false'. Refute it at one input. -/
def codeWhatWrong : ChangeSpec := { name := "codeWhat", fn := fun _ => fun
  | [d] => { results := [.lit (.bool false)], args := [d] }
  | _ => none }
def CodeWhatWrongFalsely : Prop := codeWhatRow.holds Try.pinned (OpenSpec.ofChange codeWhatWrong)

/-- 'hacklelaw07.CodeDecodes': WHATEVER THE INPUT: true; the input reads as it did. -/
def codeDecodesSpec : ChangeSpec := { name := "codeDecodes", fn := fun _ => fun
  | [d] => { results := [.lit (.bool true)], args := [d] }
  | _ => none }
def codeDecodesRow : OpenClaim := { program := "ytgbmeckhagklnaa", sum := "715714ee92ef18057712fb6fdd3d845bb4c9b54022d98d51da2e88e3b6f05f73", func := "hackle/hacklelaw07.CodeDecodes", spec := "codeDecodes", apart := false }
def CodeDecodesSaid : Prop := codeDecodesRow.holds Try.pinned (OpenSpec.ofChange codeDecodesSpec)

/-- ITS FALSE NEIGHBOUR: 'it returns false'. Refute it at one input. -/
def codeDecodesWrong : ChangeSpec := { name := "codeDecodes", fn := fun _ => fun
  | [d] => { results := [.lit (.bool false)], args := [d] }
  | _ => none }
def CodeDecodesWrongFalsely : Prop := codeDecodesRow.holds Try.pinned (OpenSpec.ofChange codeDecodesWrong)

/-- 'hacklelaw07.CodeLong': WHATEVER THE INPUT: true; the input reads as it did. -/
def codeLongSpec : ChangeSpec := { name := "codeLong", fn := fun _ => fun
  | [d] => { results := [.lit (.bool true)], args := [d] }
  | _ => none }
def codeLongRow : OpenClaim := { program := "ytgbmeckhagklnaa", sum := "715714ee92ef18057712fb6fdd3d845bb4c9b54022d98d51da2e88e3b6f05f73", func := "hackle/hacklelaw07.CodeLong", spec := "codeLong", apart := false }
def CodeLongSaid : Prop := codeLongRow.holds Try.pinned (OpenSpec.ofChange codeLongSpec)

/-- ITS FALSE NEIGHBOUR: 'it returns false'. Refute it at one input. -/
def codeLongWrong : ChangeSpec := { name := "codeLong", fn := fun _ => fun
  | [d] => { results := [.lit (.bool false)], args := [d] }
  | _ => none }
def CodeLongWrongFalsely : Prop := codeLongRow.holds Try.pinned (OpenSpec.ofChange codeLongWrong)

/-- 'hacklelaw07.CodeNumbers': WHATEVER THE INPUT: true; the input reads as it did. -/
def codeNumbersSpec : ChangeSpec := { name := "codeNumbers", fn := fun _ => fun
  | [d1, d2, d3] => { results := [.lit (.bool true)], args := [d1, d2, d3] }
  | _ => none }
def codeNumbersRow : OpenClaim := { program := "ytgbmeckhagklnaa", sum := "715714ee92ef18057712fb6fdd3d845bb4c9b54022d98d51da2e88e3b6f05f73", func := "hackle/hacklelaw07.CodeNumbers", spec := "codeNumbers", apart := false }
def CodeNumbersSaid : Prop := codeNumbersRow.holds Try.pinned (OpenSpec.ofChange codeNumbersSpec)

/-- ITS FALSE NEIGHBOUR: 'it returns false'. Refute it at one input. -/
def codeNumbersWrong : ChangeSpec := { name := "codeNumbers", fn := fun _ => fun
  | [d1, d2, d3] => { results := [.lit (.bool false)], args := [d1, d2, d3] }
  | _ => none }
def CodeNumbersWrongFalsely : Prop := codeNumbersRow.holds Try.pinned (OpenSpec.ofChange codeNumbersWrong)

/-- 'hacklelaw07.CodePlaces': WHATEVER THE INPUT: true; the input reads as it did. -/
def codePlacesSpec : ChangeSpec := { name := "codePlaces", fn := fun _ => fun
  | [d1, d2] => { results := [.lit (.bool true)], args := [d1, d2] }
  | _ => none }
def codePlacesRow : OpenClaim := { program := "ytgbmeckhagklnaa", sum := "715714ee92ef18057712fb6fdd3d845bb4c9b54022d98d51da2e88e3b6f05f73", func := "hackle/hacklelaw07.CodePlaces", spec := "codePlaces", apart := false }
def CodePlacesSaid : Prop := codePlacesRow.holds Try.pinned (OpenSpec.ofChange codePlacesSpec)

/-- ITS FALSE NEIGHBOUR: 'it returns false'. Refute it at one input. -/
def codePlacesWrong : ChangeSpec := { name := "codePlaces", fn := fun _ => fun
  | [d1, d2] => { results := [.lit (.bool false)], args := [d1, d2] }
  | _ => none }
def CodePlacesWrongFalsely : Prop := codePlacesRow.holds Try.pinned (OpenSpec.ofChange codePlacesWrong)

/-- 'hacklelaw07.CodeClosed': WHATEVER THE INPUT: true; the input reads as it did. -/
def codeClosedSpec : ChangeSpec := { name := "codeClosed", fn := fun _ => fun
  | [d] => { results := [.lit (.bool true)], args := [d] }
  | _ => none }
def codeClosedRow : OpenClaim := { program := "ytgbmeckhagklnaa", sum := "715714ee92ef18057712fb6fdd3d845bb4c9b54022d98d51da2e88e3b6f05f73", func := "hackle/hacklelaw07.CodeClosed", spec := "codeClosed", apart := false }
def CodeClosedSaid : Prop := codeClosedRow.holds Try.pinned (OpenSpec.ofChange codeClosedSpec)

/-- ITS FALSE NEIGHBOUR: 'it returns false'. Refute it at one input. -/
def codeClosedWrong : ChangeSpec := { name := "codeClosed", fn := fun _ => fun
  | [d] => { results := [.lit (.bool false)], args := [d] }
  | _ => none }
def CodeClosedWrongFalsely : Prop := codeClosedRow.holds Try.pinned (OpenSpec.ofChange codeClosedWrong)

/-- 'hacklelaw07.CodeChecks': WHATEVER THE INPUT: true; the input reads as it did. -/
def codeChecksSpec : ChangeSpec := { name := "codeChecks", fn := fun _ => fun
  | [d] => { results := [.lit (.bool true)], args := [d] }
  | _ => none }
def codeChecksRow : OpenClaim := { program := "ytgbmeckhagklnaa", sum := "715714ee92ef18057712fb6fdd3d845bb4c9b54022d98d51da2e88e3b6f05f73", func := "hackle/hacklelaw07.CodeChecks", spec := "codeChecks", apart := false }
def CodeChecksSaid : Prop := codeChecksRow.holds Try.pinned (OpenSpec.ofChange codeChecksSpec)

/-- ITS FALSE NEIGHBOUR: 'it returns false'. Refute it at one input. -/
def codeChecksWrong : ChangeSpec := { name := "codeChecks", fn := fun _ => fun
  | [d] => { results := [.lit (.bool false)], args := [d] }
  | _ => none }
def CodeChecksWrongFalsely : Prop := codeChecksRow.holds Try.pinned (OpenSpec.ofChange codeChecksWrong)

/-- 'hacklelaw07.CodeBack': WHATEVER THE INPUT: true; the input reads as it did. -/
def codeBackSpec : ChangeSpec := { name := "codeBack", fn := fun _ => fun
  | [d1, d2] => { results := [.lit (.bool true)], args := [d1, d2] }
  | _ => none }
def codeBackRow : OpenClaim := { program := "ytgbmeckhagklnaa", sum := "715714ee92ef18057712fb6fdd3d845bb4c9b54022d98d51da2e88e3b6f05f73", func := "hackle/hacklelaw07.CodeBack", spec := "codeBack", apart := false }
def CodeBackSaid : Prop := codeBackRow.holds Try.pinned (OpenSpec.ofChange codeBackSpec)

/-- ITS FALSE NEIGHBOUR: 'it returns false'. Refute it at one input. -/
def codeBackWrong : ChangeSpec := { name := "codeBack", fn := fun _ => fun
  | [d1, d2] => { results := [.lit (.bool false)], args := [d1, d2] }
  | _ => none }
def CodeBackWrongFalsely : Prop := codeBackRow.holds Try.pinned (OpenSpec.ofChange codeBackWrong)

/-- 'hacklelaw07.CodeCut': WHATEVER THE INPUT: true; the input reads as it did. -/
def codeCutSpec : ChangeSpec := { name := "codeCut", fn := fun _ => fun
  | [d1, d2, d3, d4] => { results := [.lit (.bool true)], args := [d1, d2, d3, d4] }
  | _ => none }
def codeCutRow : OpenClaim := { program := "ytgbmeckhagklnaa", sum := "715714ee92ef18057712fb6fdd3d845bb4c9b54022d98d51da2e88e3b6f05f73", func := "hackle/hacklelaw07.CodeCut", spec := "codeCut", apart := false }
def CodeCutSaid : Prop := codeCutRow.holds Try.pinned (OpenSpec.ofChange codeCutSpec)

/-- ITS FALSE NEIGHBOUR: 'it returns false'. Refute it at one input. -/
def codeCutWrong : ChangeSpec := { name := "codeCut", fn := fun _ => fun
  | [d1, d2, d3, d4] => { results := [.lit (.bool false)], args := [d1, d2, d3, d4] }
  | _ => none }
def CodeCutWrongFalsely : Prop := codeCutRow.holds Try.pinned (OpenSpec.ofChange codeCutWrong)

/-- 'hacklelaw21.HopTells': WHATEVER THE INPUT: true; the input reads as it did. -/
def hopTellsSpec : ChangeSpec := { name := "hopTells", fn := fun _ => fun
  | [d1, d2] => { results := [.lit (.bool true)], args := [d1, d2] }
  | _ => none }
def hopTellsRow : OpenClaim := { program := "ytgbmeckhagklnaa", sum := "715714ee92ef18057712fb6fdd3d845bb4c9b54022d98d51da2e88e3b6f05f73", func := "hackle/hacklelaw21.HopTells", spec := "hopTells", apart := false }
def HopTellsSaid : Prop := hopTellsRow.holds Try.pinned (OpenSpec.ofChange hopTellsSpec)

/-- ITS FALSE NEIGHBOUR: 'it returns false'. Refute it at one input. -/
def hopTellsWrong : ChangeSpec := { name := "hopTells", fn := fun _ => fun
  | [d1, d2] => { results := [.lit (.bool false)], args := [d1, d2] }
  | _ => none }
def HopTellsWrongFalsely : Prop := hopTellsRow.holds Try.pinned (OpenSpec.ofChange hopTellsWrong)

/-- 'hacklelaw21.HopFollows': WHATEVER THE INPUT: true; the input reads as it did. -/
def hopFollowsSpec : ChangeSpec := { name := "hopFollows", fn := fun _ => fun
  | [d1, d2] => { results := [.lit (.bool true)], args := [d1, d2] }
  | _ => none }
def hopFollowsRow : OpenClaim := { program := "ytgbmeckhagklnaa", sum := "715714ee92ef18057712fb6fdd3d845bb4c9b54022d98d51da2e88e3b6f05f73", func := "hackle/hacklelaw21.HopFollows", spec := "hopFollows", apart := false }
def HopFollowsSaid : Prop := hopFollowsRow.holds Try.pinned (OpenSpec.ofChange hopFollowsSpec)

/-- ITS FALSE NEIGHBOUR: 'it returns false'. Refute it at one input. -/
def hopFollowsWrong : ChangeSpec := { name := "hopFollows", fn := fun _ => fun
  | [d1, d2] => { results := [.lit (.bool false)], args := [d1, d2] }
  | _ => none }
def HopFollowsWrongFalsely : Prop := hopFollowsRow.holds Try.pinned (OpenSpec.ofChange hopFollowsWrong)

/-- 'hacklelaw21.HopOnce': WHATEVER THE INPUT: true; the input reads as it did. -/
def hopOnceSpec : ChangeSpec := { name := "hopOnce", fn := fun _ => fun
  | [d] => { results := [.lit (.bool true)], args := [d] }
  | _ => none }
def hopOnceRow : OpenClaim := { program := "ytgbmeckhagklnaa", sum := "715714ee92ef18057712fb6fdd3d845bb4c9b54022d98d51da2e88e3b6f05f73", func := "hackle/hacklelaw21.HopOnce", spec := "hopOnce", apart := false }
def HopOnceSaid : Prop := hopOnceRow.holds Try.pinned (OpenSpec.ofChange hopOnceSpec)

/-- ITS FALSE NEIGHBOUR: 'it returns false'. Refute it at one input. -/
def hopOnceWrong : ChangeSpec := { name := "hopOnce", fn := fun _ => fun
  | [d] => { results := [.lit (.bool false)], args := [d] }
  | _ => none }
def HopOnceWrongFalsely : Prop := hopOnceRow.holds Try.pinned (OpenSpec.ofChange hopOnceWrong)

/-- 'hacklelaw21.HopNone': WHATEVER THE INPUT: true; the input reads as it did. -/
def hopNoneSpec : ChangeSpec := { name := "hopNone", fn := fun _ => fun
  | [d] => { results := [.lit (.bool true)], args := [d] }
  | _ => none }
def hopNoneRow : OpenClaim := { program := "ytgbmeckhagklnaa", sum := "715714ee92ef18057712fb6fdd3d845bb4c9b54022d98d51da2e88e3b6f05f73", func := "hackle/hacklelaw21.HopNone", spec := "hopNone", apart := false }
def HopNoneSaid : Prop := hopNoneRow.holds Try.pinned (OpenSpec.ofChange hopNoneSpec)

/-- ITS FALSE NEIGHBOUR: 'it returns false'. Refute it at one input. -/
def hopNoneWrong : ChangeSpec := { name := "hopNone", fn := fun _ => fun
  | [d] => { results := [.lit (.bool false)], args := [d] }
  | _ => none }
def HopNoneWrongFalsely : Prop := hopNoneRow.holds Try.pinned (OpenSpec.ofChange hopNoneWrong)

/-- 'hacklelaw18.PackKeeps': WHATEVER THE INPUT: true; the input reads as it did. -/
def packKeepsSpec : ChangeSpec := { name := "packKeeps", fn := fun _ => fun
  | [d] => { results := [.lit (.bool true)], args := [d] }
  | _ => none }
def packKeepsRow : OpenClaim := { program := "ytgbmeckhagklnaa", sum := "715714ee92ef18057712fb6fdd3d845bb4c9b54022d98d51da2e88e3b6f05f73", func := "hackle/hacklelaw18.PackKeeps", spec := "packKeeps", apart := false }
def PackKeepsSaid : Prop := packKeepsRow.holds Try.pinned (OpenSpec.ofChange packKeepsSpec)

/-- ITS FALSE NEIGHBOUR: 'it returns false'. Refute it at one input. -/
def packKeepsWrong : ChangeSpec := { name := "packKeeps", fn := fun _ => fun
  | [d] => { results := [.lit (.bool false)], args := [d] }
  | _ => none }
def PackKeepsWrongFalsely : Prop := packKeepsRow.holds Try.pinned (OpenSpec.ofChange packKeepsWrong)

/-- 'hacklelaw18.PackNothing': WHATEVER THE INPUT: true; the input reads as it did. -/
def packNothingSpec : ChangeSpec := { name := "packNothing", fn := fun _ => fun
  | [d1, d2, d3] => { results := [.lit (.bool true)], args := [d1, d2, d3] }
  | _ => none }
def packNothingRow : OpenClaim := { program := "ytgbmeckhagklnaa", sum := "715714ee92ef18057712fb6fdd3d845bb4c9b54022d98d51da2e88e3b6f05f73", func := "hackle/hacklelaw18.PackNothing", spec := "packNothing", apart := false }
def PackNothingSaid : Prop := packNothingRow.holds Try.pinned (OpenSpec.ofChange packNothingSpec)

/-- ITS FALSE NEIGHBOUR: 'it returns false'. Refute it at one input. -/
def packNothingWrong : ChangeSpec := { name := "packNothing", fn := fun _ => fun
  | [d1, d2, d3] => { results := [.lit (.bool false)], args := [d1, d2, d3] }
  | _ => none }
def PackNothingWrongFalsely : Prop := packNothingRow.holds Try.pinned (OpenSpec.ofChange packNothingWrong)

/-- 'hacklelaw18.PackTwice': WHATEVER THE INPUT: true; the input reads as it did. -/
def packTwiceSpec : ChangeSpec := { name := "packTwice", fn := fun _ => fun
  | [d1, d2, d3] => { results := [.lit (.bool true)], args := [d1, d2, d3] }
  | _ => none }
def packTwiceRow : OpenClaim := { program := "ytgbmeckhagklnaa", sum := "715714ee92ef18057712fb6fdd3d845bb4c9b54022d98d51da2e88e3b6f05f73", func := "hackle/hacklelaw18.PackTwice", spec := "packTwice", apart := false }
def PackTwiceSaid : Prop := packTwiceRow.holds Try.pinned (OpenSpec.ofChange packTwiceSpec)

/-- ITS FALSE NEIGHBOUR: 'it returns false'. Refute it at one input. -/
def packTwiceWrong : ChangeSpec := { name := "packTwice", fn := fun _ => fun
  | [d1, d2, d3] => { results := [.lit (.bool false)], args := [d1, d2, d3] }
  | _ => none }
def PackTwiceWrongFalsely : Prop := packTwiceRow.holds Try.pinned (OpenSpec.ofChange packTwiceWrong)

/-- 'hacklelaw18.PackTells': WHATEVER THE INPUT: true; the input reads as it did. -/
def packTellsSpec : ChangeSpec := { name := "packTells", fn := fun _ => fun
  | [d1, d2, d3] => { results := [.lit (.bool true)], args := [d1, d2, d3] }
  | _ => none }
def packTellsRow : OpenClaim := { program := "ytgbmeckhagklnaa", sum := "715714ee92ef18057712fb6fdd3d845bb4c9b54022d98d51da2e88e3b6f05f73", func := "hackle/hacklelaw18.PackTells", spec := "packTells", apart := false }
def PackTellsSaid : Prop := packTellsRow.holds Try.pinned (OpenSpec.ofChange packTellsSpec)

/-- ITS FALSE NEIGHBOUR: 'it returns false'. Refute it at one input. -/
def packTellsWrong : ChangeSpec := { name := "packTells", fn := fun _ => fun
  | [d1, d2, d3] => { results := [.lit (.bool false)], args := [d1, d2, d3] }
  | _ => none }
def PackTellsWrongFalsely : Prop := packTellsRow.holds Try.pinned (OpenSpec.ofChange packTellsWrong)

/-- 'hacklelaw18.PackPlaces': WHATEVER THE INPUT: true; the input reads as it did. -/
def packPlacesSpec : ChangeSpec := { name := "packPlaces", fn := fun _ => fun
  | [d1, d2] => { results := [.lit (.bool true)], args := [d1, d2] }
  | _ => none }
def packPlacesRow : OpenClaim := { program := "ytgbmeckhagklnaa", sum := "715714ee92ef18057712fb6fdd3d845bb4c9b54022d98d51da2e88e3b6f05f73", func := "hackle/hacklelaw18.PackPlaces", spec := "packPlaces", apart := false }
def PackPlacesSaid : Prop := packPlacesRow.holds Try.pinned (OpenSpec.ofChange packPlacesSpec)

/-- ITS FALSE NEIGHBOUR: 'it returns false'. Refute it at one input. -/
def packPlacesWrong : ChangeSpec := { name := "packPlaces", fn := fun _ => fun
  | [d1, d2] => { results := [.lit (.bool false)], args := [d1, d2] }
  | _ => none }
def PackPlacesWrongFalsely : Prop := packPlacesRow.holds Try.pinned (OpenSpec.ofChange packPlacesWrong)

/- THE SECOND FORM. 'bulk': how many values and letters a reading holds, each counted each time it is reached (what is shared counts as often as it is met; a slice's spare places count too). A statement '..UptoSaid' is the law's where the arguments, and the package variables that the reading takes, are together of bulk at most 1048576: NARROWER than '..Said'. Prove '..Said' where nothing that the law and all that it calls make is longer than what came in: it says more and counts as full. Else prove '..UptoSaid'. A law counts once. -/
mutual
def uptoBulk {H : Type} : DataW H → Nat
  | .lit (.string bytes) => bytes.length + 1
  | .lit _ => 1
  | .nil => 1
  | .ptr d => uptoBulk d + 1
  | .slice elems spare => uptoBulkAll elems + uptoBulkAll spare + 1
  | .agg parts => uptoBulkAll parts + 1
  | .iface _ d => uptoBulk d + 1
  | .map entries => uptoBulkEntries entries + 1
  | .held _ => 1
def uptoBulkAll {H : Type} : List (DataW H) → Nat
  | [] => 0
  | d :: r => uptoBulk d + uptoBulkAll r
def uptoBulkEntries {H : Type} : List (Lit × DataW H) → Nat
  | [] => 0
  | x :: r => uptoBulkEntry x + uptoBulkEntries r
def uptoBulkEntry {H : Type} : Lit × DataW H → Nat
  | (.string bytes, d) => bytes.length + uptoBulk d + 1
  | (_, d) => uptoBulk d + 1
 end
def uptoSmall : (H : Type) → List (DataW H) → Bool := fun _ ds => decide (uptoBulkAll ds ≤ 1048576)
def OpenSpec.upto (s : _root_.Go.ChangeSpec) : _root_.Go.OpenSpec := { _root_.Go.OpenSpec.ofChange s with cond := some uptoSmall }

/-- 'hacklelaw01.InsnParts', WHERE WHAT IT READS IS OF BULK AT MOST 1048576: true; the input reads as it did. -/
def insnPartsUptoRow : OpenClaim := { program := "ytgbmeckhagklnaa", sum := "715714ee92ef18057712fb6fdd3d845bb4c9b54022d98d51da2e88e3b6f05f73", func := "hackle/hacklelaw01.InsnParts", spec := "insnParts", apart := false, narrowed := true }
def InsnPartsUptoSaid : Prop := insnPartsUptoRow.holds Try.pinned (OpenSpec.upto insnPartsSpec)

/-- 'hacklelaw01.InsnLong', WHERE WHAT IT READS IS OF BULK AT MOST 1048576: true; the input reads as it did. -/
def insnLongUptoRow : OpenClaim := { program := "ytgbmeckhagklnaa", sum := "715714ee92ef18057712fb6fdd3d845bb4c9b54022d98d51da2e88e3b6f05f73", func := "hackle/hacklelaw01.InsnLong", spec := "insnLong", apart := false, narrowed := true }
def InsnLongUptoSaid : Prop := insnLongUptoRow.holds Try.pinned (OpenSpec.upto insnLongSpec)

/-- 'hacklelaw01.InsnPuts', WHERE WHAT IT READS IS OF BULK AT MOST 1048576: true; the input reads as it did. -/
def insnPutsUptoRow : OpenClaim := { program := "ytgbmeckhagklnaa", sum := "715714ee92ef18057712fb6fdd3d845bb4c9b54022d98d51da2e88e3b6f05f73", func := "hackle/hacklelaw01.InsnPuts", spec := "insnPuts", apart := false, narrowed := true }
def InsnPutsUptoSaid : Prop := insnPutsUptoRow.holds Try.pinned (OpenSpec.upto insnPutsSpec)

/-- 'hacklelaw01.InsnTakes', WHERE WHAT IT READS IS OF BULK AT MOST 1048576: true; the input reads as it did. -/
def insnTakesUptoRow : OpenClaim := { program := "ytgbmeckhagklnaa", sum := "715714ee92ef18057712fb6fdd3d845bb4c9b54022d98d51da2e88e3b6f05f73", func := "hackle/hacklelaw01.InsnTakes", spec := "insnTakes", apart := false, narrowed := true }
def InsnTakesUptoSaid : Prop := insnTakesUptoRow.holds Try.pinned (OpenSpec.upto insnTakesSpec)

/-- 'hacklelaw01.InsnBack', WHERE WHAT IT READS IS OF BULK AT MOST 1048576: true; the input reads as it did. -/
def insnBackUptoRow : OpenClaim := { program := "ytgbmeckhagklnaa", sum := "715714ee92ef18057712fb6fdd3d845bb4c9b54022d98d51da2e88e3b6f05f73", func := "hackle/hacklelaw01.InsnBack", spec := "insnBack", apart := false, narrowed := true }
def InsnBackUptoSaid : Prop := insnBackUptoRow.holds Try.pinned (OpenSpec.upto insnBackSpec)

/-- 'hacklelaw07.CodeWhat', WHERE WHAT IT READS IS OF BULK AT MOST 1048576: true; the input reads as it did. -/
def codeWhatUptoRow : OpenClaim := { program := "ytgbmeckhagklnaa", sum := "715714ee92ef18057712fb6fdd3d845bb4c9b54022d98d51da2e88e3b6f05f73", func := "hackle/hacklelaw07.CodeWhat", spec := "codeWhat", apart := false, narrowed := true }
def CodeWhatUptoSaid : Prop := codeWhatUptoRow.holds Try.pinned (OpenSpec.upto codeWhatSpec)

/-- 'hacklelaw07.CodeDecodes', WHERE WHAT IT READS IS OF BULK AT MOST 1048576: true; the input reads as it did. -/
def codeDecodesUptoRow : OpenClaim := { program := "ytgbmeckhagklnaa", sum := "715714ee92ef18057712fb6fdd3d845bb4c9b54022d98d51da2e88e3b6f05f73", func := "hackle/hacklelaw07.CodeDecodes", spec := "codeDecodes", apart := false, narrowed := true }
def CodeDecodesUptoSaid : Prop := codeDecodesUptoRow.holds Try.pinned (OpenSpec.upto codeDecodesSpec)

/-- 'hacklelaw07.CodeLong', WHERE WHAT IT READS IS OF BULK AT MOST 1048576: true; the input reads as it did. -/
def codeLongUptoRow : OpenClaim := { program := "ytgbmeckhagklnaa", sum := "715714ee92ef18057712fb6fdd3d845bb4c9b54022d98d51da2e88e3b6f05f73", func := "hackle/hacklelaw07.CodeLong", spec := "codeLong", apart := false, narrowed := true }
def CodeLongUptoSaid : Prop := codeLongUptoRow.holds Try.pinned (OpenSpec.upto codeLongSpec)

/-- 'hacklelaw07.CodeNumbers', WHERE WHAT IT READS IS OF BULK AT MOST 1048576: true; the input reads as it did. -/
def codeNumbersUptoRow : OpenClaim := { program := "ytgbmeckhagklnaa", sum := "715714ee92ef18057712fb6fdd3d845bb4c9b54022d98d51da2e88e3b6f05f73", func := "hackle/hacklelaw07.CodeNumbers", spec := "codeNumbers", apart := false, narrowed := true }
def CodeNumbersUptoSaid : Prop := codeNumbersUptoRow.holds Try.pinned (OpenSpec.upto codeNumbersSpec)

/-- 'hacklelaw07.CodePlaces', WHERE WHAT IT READS IS OF BULK AT MOST 1048576: true; the input reads as it did. -/
def codePlacesUptoRow : OpenClaim := { program := "ytgbmeckhagklnaa", sum := "715714ee92ef18057712fb6fdd3d845bb4c9b54022d98d51da2e88e3b6f05f73", func := "hackle/hacklelaw07.CodePlaces", spec := "codePlaces", apart := false, narrowed := true }
def CodePlacesUptoSaid : Prop := codePlacesUptoRow.holds Try.pinned (OpenSpec.upto codePlacesSpec)

/-- 'hacklelaw07.CodeClosed', WHERE WHAT IT READS IS OF BULK AT MOST 1048576: true; the input reads as it did. -/
def codeClosedUptoRow : OpenClaim := { program := "ytgbmeckhagklnaa", sum := "715714ee92ef18057712fb6fdd3d845bb4c9b54022d98d51da2e88e3b6f05f73", func := "hackle/hacklelaw07.CodeClosed", spec := "codeClosed", apart := false, narrowed := true }
def CodeClosedUptoSaid : Prop := codeClosedUptoRow.holds Try.pinned (OpenSpec.upto codeClosedSpec)

/-- 'hacklelaw07.CodeChecks', WHERE WHAT IT READS IS OF BULK AT MOST 1048576: true; the input reads as it did. -/
def codeChecksUptoRow : OpenClaim := { program := "ytgbmeckhagklnaa", sum := "715714ee92ef18057712fb6fdd3d845bb4c9b54022d98d51da2e88e3b6f05f73", func := "hackle/hacklelaw07.CodeChecks", spec := "codeChecks", apart := false, narrowed := true }
def CodeChecksUptoSaid : Prop := codeChecksUptoRow.holds Try.pinned (OpenSpec.upto codeChecksSpec)

/-- 'hacklelaw07.CodeBack', WHERE WHAT IT READS IS OF BULK AT MOST 1048576: true; the input reads as it did. -/
def codeBackUptoRow : OpenClaim := { program := "ytgbmeckhagklnaa", sum := "715714ee92ef18057712fb6fdd3d845bb4c9b54022d98d51da2e88e3b6f05f73", func := "hackle/hacklelaw07.CodeBack", spec := "codeBack", apart := false, narrowed := true }
def CodeBackUptoSaid : Prop := codeBackUptoRow.holds Try.pinned (OpenSpec.upto codeBackSpec)

/-- 'hacklelaw07.CodeCut', WHERE WHAT IT READS IS OF BULK AT MOST 1048576: true; the input reads as it did. -/
def codeCutUptoRow : OpenClaim := { program := "ytgbmeckhagklnaa", sum := "715714ee92ef18057712fb6fdd3d845bb4c9b54022d98d51da2e88e3b6f05f73", func := "hackle/hacklelaw07.CodeCut", spec := "codeCut", apart := false, narrowed := true }
def CodeCutUptoSaid : Prop := codeCutUptoRow.holds Try.pinned (OpenSpec.upto codeCutSpec)

/-- 'hacklelaw21.HopTells', WHERE WHAT IT READS IS OF BULK AT MOST 1048576: true; the input reads as it did. -/
def hopTellsUptoRow : OpenClaim := { program := "ytgbmeckhagklnaa", sum := "715714ee92ef18057712fb6fdd3d845bb4c9b54022d98d51da2e88e3b6f05f73", func := "hackle/hacklelaw21.HopTells", spec := "hopTells", apart := false, narrowed := true }
def HopTellsUptoSaid : Prop := hopTellsUptoRow.holds Try.pinned (OpenSpec.upto hopTellsSpec)

/-- 'hacklelaw21.HopFollows', WHERE WHAT IT READS IS OF BULK AT MOST 1048576: true; the input reads as it did. -/
def hopFollowsUptoRow : OpenClaim := { program := "ytgbmeckhagklnaa", sum := "715714ee92ef18057712fb6fdd3d845bb4c9b54022d98d51da2e88e3b6f05f73", func := "hackle/hacklelaw21.HopFollows", spec := "hopFollows", apart := false, narrowed := true }
def HopFollowsUptoSaid : Prop := hopFollowsUptoRow.holds Try.pinned (OpenSpec.upto hopFollowsSpec)

/-- 'hacklelaw21.HopOnce', WHERE WHAT IT READS IS OF BULK AT MOST 1048576: true; the input reads as it did. -/
def hopOnceUptoRow : OpenClaim := { program := "ytgbmeckhagklnaa", sum := "715714ee92ef18057712fb6fdd3d845bb4c9b54022d98d51da2e88e3b6f05f73", func := "hackle/hacklelaw21.HopOnce", spec := "hopOnce", apart := false, narrowed := true }
def HopOnceUptoSaid : Prop := hopOnceUptoRow.holds Try.pinned (OpenSpec.upto hopOnceSpec)

/-- 'hacklelaw21.HopNone', WHERE WHAT IT READS IS OF BULK AT MOST 1048576: true; the input reads as it did. -/
def hopNoneUptoRow : OpenClaim := { program := "ytgbmeckhagklnaa", sum := "715714ee92ef18057712fb6fdd3d845bb4c9b54022d98d51da2e88e3b6f05f73", func := "hackle/hacklelaw21.HopNone", spec := "hopNone", apart := false, narrowed := true }
def HopNoneUptoSaid : Prop := hopNoneUptoRow.holds Try.pinned (OpenSpec.upto hopNoneSpec)

/-- 'hacklelaw18.PackKeeps', WHERE WHAT IT READS IS OF BULK AT MOST 1048576: true; the input reads as it did. -/
def packKeepsUptoRow : OpenClaim := { program := "ytgbmeckhagklnaa", sum := "715714ee92ef18057712fb6fdd3d845bb4c9b54022d98d51da2e88e3b6f05f73", func := "hackle/hacklelaw18.PackKeeps", spec := "packKeeps", apart := false, narrowed := true }
def PackKeepsUptoSaid : Prop := packKeepsUptoRow.holds Try.pinned (OpenSpec.upto packKeepsSpec)

/-- 'hacklelaw18.PackNothing', WHERE WHAT IT READS IS OF BULK AT MOST 1048576: true; the input reads as it did. -/
def packNothingUptoRow : OpenClaim := { program := "ytgbmeckhagklnaa", sum := "715714ee92ef18057712fb6fdd3d845bb4c9b54022d98d51da2e88e3b6f05f73", func := "hackle/hacklelaw18.PackNothing", spec := "packNothing", apart := false, narrowed := true }
def PackNothingUptoSaid : Prop := packNothingUptoRow.holds Try.pinned (OpenSpec.upto packNothingSpec)

/-- 'hacklelaw18.PackTwice', WHERE WHAT IT READS IS OF BULK AT MOST 1048576: true; the input reads as it did. -/
def packTwiceUptoRow : OpenClaim := { program := "ytgbmeckhagklnaa", sum := "715714ee92ef18057712fb6fdd3d845bb4c9b54022d98d51da2e88e3b6f05f73", func := "hackle/hacklelaw18.PackTwice", spec := "packTwice", apart := false, narrowed := true }
def PackTwiceUptoSaid : Prop := packTwiceUptoRow.holds Try.pinned (OpenSpec.upto packTwiceSpec)

/-- 'hacklelaw18.PackTells', WHERE WHAT IT READS IS OF BULK AT MOST 1048576: true; the input reads as it did. -/
def packTellsUptoRow : OpenClaim := { program := "ytgbmeckhagklnaa", sum := "715714ee92ef18057712fb6fdd3d845bb4c9b54022d98d51da2e88e3b6f05f73", func := "hackle/hacklelaw18.PackTells", spec := "packTells", apart := false, narrowed := true }
def PackTellsUptoSaid : Prop := packTellsUptoRow.holds Try.pinned (OpenSpec.upto packTellsSpec)

/-- 'hacklelaw18.PackPlaces', WHERE WHAT IT READS IS OF BULK AT MOST 1048576: true; the input reads as it did. -/
def packPlacesUptoRow : OpenClaim := { program := "ytgbmeckhagklnaa", sum := "715714ee92ef18057712fb6fdd3d845bb4c9b54022d98d51da2e88e3b6f05f73", func := "hackle/hacklelaw18.PackPlaces", spec := "packPlaces", apart := false, narrowed := true }
def PackPlacesUptoSaid : Prop := packPlacesUptoRow.holds Try.pinned (OpenSpec.upto packPlacesSpec)

end Rows
end Go.Proofs.Ytgbmeckhagklnaa
