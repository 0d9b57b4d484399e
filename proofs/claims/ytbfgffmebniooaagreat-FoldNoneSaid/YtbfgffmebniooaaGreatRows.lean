/-
  No cell of these rows narrows 'for every input' (looked for: loops, veiled, ifaces, maps, wideKeys, modest, calm, conditions, laid).
  DERIVED. THE GIVEN ROWS OF THIS SEAT. 3 by the template 'for every input the law returns true; each argument reads behind the call as it read before'; 0 by the template 'total and deterministic' (their statements: YtbfgffmebniooaaGreatTotals.lean).
  GIVEN WITH THE SEED: the statements are not yours to turn. If you find one false, say at which input.
  Laid BY PROGRAM, IN A SANDBOX (cutbox-rows.mjs): the forced cells as the released guide's own fill.sh prints them over the translation 3fa89782ddfa03d9… (all of the seat's roots in one cut). By AI agents, Wed Nov 11 2026. No macro, syntax, notation, axiom, sorry.
-/
import Derived.Test.YtbfgffmebniooaaGreatChecked
import GoSem.Claim
import GoSem.ClaimJoined
import GoSem.ClaimMapViews
import Derived.JoinedTies
import Derived.KernelRfl
namespace Go.Proofs.YtbfgffmebniooaaGreat
/- THE CELL 'sum', in the pinned program and in every row, IS THE sha256 OF THE DUMP (.gsa) THAT YtbfgffmebniooaaGreatProg.lean LOADS. Nothing in Lean hashes anything: it is a label: what it is worth is what the hold of that sum in a sandbox is worth. -/
noncomputable def Tryz.pinned : Pinned := { name := "ytbfgffmebniooaagreat", sum := "3fa89782ddfa03d9a0c8d8374587efd61d91d634ac963b18b35323d72ac27246", checked := Tryz.checked }
namespace Rows
def none {H : Type} : Left H := { results := [], args := [] }

/-- 'hacklelaw19.FoldTells': WHATEVER THE INPUT: true; the input reads as it did. -/
def foldTellsSpec : ChangeSpec := { name := "foldTells", fn := fun _ => fun
  | [d1, d2, d3] => { results := [.lit (.bool true)], args := [d1, d2, d3] }
  | _ => none }
def foldTellsRow : OpenClaim := { program := "ytbfgffmebniooaagreat", sum := "3fa89782ddfa03d9a0c8d8374587efd61d91d634ac963b18b35323d72ac27246", func := "hackle/hacklelaw19.FoldTells", spec := "foldTells", recurses := true, apart := false }
def FoldTellsSaid : Prop := foldTellsRow.holds Tryz.pinned (OpenSpec.ofChange foldTellsSpec)

/-- ITS FALSE NEIGHBOUR: 'it returns false'. Refute it at one input. -/
def foldTellsWrong : ChangeSpec := { name := "foldTells", fn := fun _ => fun
  | [d1, d2, d3] => { results := [.lit (.bool false)], args := [d1, d2, d3] }
  | _ => none }
def FoldTellsWrongFalsely : Prop := foldTellsRow.holds Tryz.pinned (OpenSpec.ofChange foldTellsWrong)

/-- 'hacklelaw19.FoldShort': WHATEVER THE INPUT: true; the input reads as it did. -/
def foldShortSpec : ChangeSpec := { name := "foldShort", fn := fun _ => fun
  | [d] => { results := [.lit (.bool true)], args := [d] }
  | _ => none }
def foldShortRow : OpenClaim := { program := "ytbfgffmebniooaagreat", sum := "3fa89782ddfa03d9a0c8d8374587efd61d91d634ac963b18b35323d72ac27246", func := "hackle/hacklelaw19.FoldShort", spec := "foldShort", recurses := true, apart := false }
def FoldShortSaid : Prop := foldShortRow.holds Tryz.pinned (OpenSpec.ofChange foldShortSpec)

/-- ITS FALSE NEIGHBOUR: 'it returns false'. Refute it at one input. -/
def foldShortWrong : ChangeSpec := { name := "foldShort", fn := fun _ => fun
  | [d] => { results := [.lit (.bool false)], args := [d] }
  | _ => none }
def FoldShortWrongFalsely : Prop := foldShortRow.holds Tryz.pinned (OpenSpec.ofChange foldShortWrong)

/-- 'hacklelaw19.FoldNone': WHATEVER THE INPUT: true; the input reads as it did. -/
def foldNoneSpec : ChangeSpec := { name := "foldNone", fn := fun _ => fun
  | [d1, d2] => { results := [.lit (.bool true)], args := [d1, d2] }
  | _ => none }
def foldNoneRow : OpenClaim := { program := "ytbfgffmebniooaagreat", sum := "3fa89782ddfa03d9a0c8d8374587efd61d91d634ac963b18b35323d72ac27246", func := "hackle/hacklelaw19.FoldNone", spec := "foldNone", recurses := true, apart := false }
def FoldNoneSaid : Prop := foldNoneRow.holds Tryz.pinned (OpenSpec.ofChange foldNoneSpec)

/-- ITS FALSE NEIGHBOUR: 'it returns false'. Refute it at one input. -/
def foldNoneWrong : ChangeSpec := { name := "foldNone", fn := fun _ => fun
  | [d1, d2] => { results := [.lit (.bool false)], args := [d1, d2] }
  | _ => none }
def FoldNoneWrongFalsely : Prop := foldNoneRow.holds Tryz.pinned (OpenSpec.ofChange foldNoneWrong)

/- THE SECOND FORM. 'bulk': how many values and letters a reading holds, each counted each time it is reached (what is shared counts as often as it is met; a slice's spare places count too). A statement '..UptoSaid' is the law's where the arguments, and the package variables that the reading takes, are together of bulk at most 1048576: NARROWER than '..Said'. Prove '..Said' where nothing that the law and all that it calls make is longer than what came in: it says more and counts as full. Else prove '..UptoSaid'. A law counts once. -/
mutual
def uptoBulk {H : Type} : DataW H → Nat
  | .lit (.string bytes) => bytes.length + 1
  | .lit _ => 1
  | .nil => 1
  | .ptr d => uptoBulk d + 1
  | .slice elems spare => uptoBulkAll elems + uptoBulkAll spare + 1
  | .agg parts => uptoBulkAll parts + 1
  | .iface _ d => uptoBulk d + 1
  | .map entries => uptoBulkEntries entries + 1
  | .held _ => 1
def uptoBulkAll {H : Type} : List (DataW H) → Nat
  | [] => 0
  | d :: r => uptoBulk d + uptoBulkAll r
def uptoBulkEntries {H : Type} : List (Lit × DataW H) → Nat
  | [] => 0
  | x :: r => uptoBulkEntry x + uptoBulkEntries r
def uptoBulkEntry {H : Type} : Lit × DataW H → Nat
  | (.string bytes, d) => bytes.length + uptoBulk d + 1
  | (_, d) => uptoBulk d + 1
 end
def uptoSmall : (H : Type) → List (DataW H) → Bool := fun _ ds => decide (uptoBulkAll ds ≤ 1048576)
def OpenSpec.upto (s : _root_.Go.ChangeSpec) : _root_.Go.OpenSpec := { _root_.Go.OpenSpec.ofChange s with cond := some uptoSmall }

/-- 'hacklelaw19.FoldTells', WHERE WHAT IT READS IS OF BULK AT MOST 1048576: true; the input reads as it did. -/
def foldTellsUptoRow : OpenClaim := { program := "ytbfgffmebniooaagreat", sum := "3fa89782ddfa03d9a0c8d8374587efd61d91d634ac963b18b35323d72ac27246", func := "hackle/hacklelaw19.FoldTells", spec := "foldTells", recurses := true, apart := false, narrowed := true }
def FoldTellsUptoSaid : Prop := foldTellsUptoRow.holds Tryz.pinned (OpenSpec.upto foldTellsSpec)

/-- 'hacklelaw19.FoldShort', WHERE WHAT IT READS IS OF BULK AT MOST 1048576: true; the input reads as it did. -/
def foldShortUptoRow : OpenClaim := { program := "ytbfgffmebniooaagreat", sum := "3fa89782ddfa03d9a0c8d8374587efd61d91d634ac963b18b35323d72ac27246", func := "hackle/hacklelaw19.FoldShort", spec := "foldShort", recurses := true, apart := false, narrowed := true }
def FoldShortUptoSaid : Prop := foldShortUptoRow.holds Tryz.pinned (OpenSpec.upto foldShortSpec)

/-- 'hacklelaw19.FoldNone', WHERE WHAT IT READS IS OF BULK AT MOST 1048576: true; the input reads as it did. -/
def foldNoneUptoRow : OpenClaim := { program := "ytbfgffmebniooaagreat", sum := "3fa89782ddfa03d9a0c8d8374587efd61d91d634ac963b18b35323d72ac27246", func := "hackle/hacklelaw19.FoldNone", spec := "foldNone", recurses := true, apart := false, narrowed := true }
def FoldNoneUptoSaid : Prop := foldNoneUptoRow.holds Tryz.pinned (OpenSpec.upto foldNoneSpec)

end Rows
end Go.Proofs.YtbfgffmebniooaaGreat
