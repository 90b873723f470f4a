/-
  No cell of these rows narrows 'for every input' (looked for: loops, veiled, ifaces, maps, wideKeys, modest, calm, conditions, laid).
  DERIVED. THE GIVEN ROWS OF THIS SEAT. 5 by the template 'for every input the law returns true; each argument reads behind the call as it read before'; 0 by the template 'total and deterministic' (their statements: YtebgkcjpocfmmaaGreatTotals.lean).
  GIVEN WITH THE SEED: the statements are not yours to turn. If you find one false, say at which input.
  Laid BY PROGRAM, IN A SANDBOX (cutbox-rows.mjs): the forced cells as the released guide's own fill.sh prints them over the translation c5441c65d7c8198c… (all of the seat's roots in one cut). By AI agents, Wed Nov 11 2026. No macro, syntax, notation, axiom, sorry.
-/
import Derived.Test.YtebgkcjpocfmmaaGreatChecked
import GoSem.Claim
import GoSem.ClaimJoined
import GoSem.ClaimMapViews
import Derived.JoinedTies
import Derived.KernelRfl
namespace Go.Proofs.YtebgkcjpocfmmaaGreat
/- THE CELL 'sum', in the pinned program and in every row, IS THE sha256 OF THE DUMP (.gsa) THAT YtebgkcjpocfmmaaGreatProg.lean LOADS. Nothing in Lean hashes anything: it is a label: what it is worth is what the hold of that sum in a sandbox is worth. -/
noncomputable def Tryz.pinned : Pinned := { name := "ytebgkcjpocfmmaagreat", sum := "c5441c65d7c8198cb35d3386c3de623b0da72e8c1838281a66741ced98969358", checked := Tryz.checked }
namespace Rows
def none {H : Type} : Left H := { results := [], args := [] }

/-- 'laws.FnExactCleaned': WHATEVER THE INPUT: true; the input reads as it did. -/
def fnExactCleanedSpec : ChangeSpec := { name := "fnExactCleaned", fn := fun _ => fun
  | [d] => { results := [.lit (.bool true)], args := [d] }
  | _ => none }
def fnExactCleanedRow : OpenClaim := { program := "ytebgkcjpocfmmaagreat", sum := "c5441c65d7c8198cb35d3386c3de623b0da72e8c1838281a66741ced98969358", func := "loop.example/g00457/laws.FnExactCleaned", spec := "fnExactCleaned", unfollowed := true, recurses := true, apart := false }
def FnExactCleanedSaid : Prop := fnExactCleanedRow.holds Tryz.pinned (OpenSpec.ofChange fnExactCleanedSpec)

/-- ITS FALSE NEIGHBOUR: 'it returns false'. Refute it at one input. -/
def fnExactCleanedWrong : ChangeSpec := { name := "fnExactCleaned", fn := fun _ => fun
  | [d] => { results := [.lit (.bool false)], args := [d] }
  | _ => none }
def FnExactCleanedWrongFalsely : Prop := fnExactCleanedRow.holds Tryz.pinned (OpenSpec.ofChange fnExactCleanedWrong)

/-- 'laws.FnExactFolded': WHATEVER THE INPUT: true; the input reads as it did. -/
def fnExactFoldedSpec : ChangeSpec := { name := "fnExactFolded", fn := fun _ => fun
  | [d] => { results := [.lit (.bool true)], args := [d] }
  | _ => none }
def fnExactFoldedRow : OpenClaim := { program := "ytebgkcjpocfmmaagreat", sum := "c5441c65d7c8198cb35d3386c3de623b0da72e8c1838281a66741ced98969358", func := "loop.example/g00457/laws.FnExactFolded", spec := "fnExactFolded", unfollowed := true, recurses := true, apart := false }
def FnExactFoldedSaid : Prop := fnExactFoldedRow.holds Tryz.pinned (OpenSpec.ofChange fnExactFoldedSpec)

/-- ITS FALSE NEIGHBOUR: 'it returns false'. Refute it at one input. -/
def fnExactFoldedWrong : ChangeSpec := { name := "fnExactFolded", fn := fun _ => fun
  | [d] => { results := [.lit (.bool false)], args := [d] }
  | _ => none }
def FnExactFoldedWrongFalsely : Prop := fnExactFoldedRow.holds Tryz.pinned (OpenSpec.ofChange fnExactFoldedWrong)

/-- 'laws.FnExactFuncChecked': WHATEVER THE INPUT: true; the input reads as it did. -/
def fnExactFuncCheckedSpec : ChangeSpec := { name := "fnExactFuncChecked", fn := fun _ => fun
  | [d1, d2] => { results := [.lit (.bool true)], args := [d1, d2] }
  | _ => none }
def fnExactFuncCheckedRow : OpenClaim := { program := "ytebgkcjpocfmmaagreat", sum := "c5441c65d7c8198cb35d3386c3de623b0da72e8c1838281a66741ced98969358", func := "loop.example/g00457/laws.FnExactFuncChecked", spec := "fnExactFuncChecked", unfollowed := true, recurses := true, apart := false }
def FnExactFuncCheckedSaid : Prop := fnExactFuncCheckedRow.holds Tryz.pinned (OpenSpec.ofChange fnExactFuncCheckedSpec)

/-- ITS FALSE NEIGHBOUR: 'it returns false'. Refute it at one input. -/
def fnExactFuncCheckedWrong : ChangeSpec := { name := "fnExactFuncChecked", fn := fun _ => fun
  | [d1, d2] => { results := [.lit (.bool false)], args := [d1, d2] }
  | _ => none }
def FnExactFuncCheckedWrongFalsely : Prop := fnExactFuncCheckedRow.holds Tryz.pinned (OpenSpec.ofChange fnExactFuncCheckedWrong)

/-- 'laws.FnExactChecked': WHATEVER THE INPUT: true; the input reads as it did. -/
def fnExactCheckedSpec : ChangeSpec := { name := "fnExactChecked", fn := fun _ => fun
  | [d] => { results := [.lit (.bool true)], args := [d] }
  | _ => none }
def fnExactCheckedRow : OpenClaim := { program := "ytebgkcjpocfmmaagreat", sum := "c5441c65d7c8198cb35d3386c3de623b0da72e8c1838281a66741ced98969358", func := "loop.example/g00457/laws.FnExactChecked", spec := "fnExactChecked", unfollowed := true, recurses := true, apart := false }
def FnExactCheckedSaid : Prop := fnExactCheckedRow.holds Tryz.pinned (OpenSpec.ofChange fnExactCheckedSpec)

/-- ITS FALSE NEIGHBOUR: 'it returns false'. Refute it at one input. -/
def fnExactCheckedWrong : ChangeSpec := { name := "fnExactChecked", fn := fun _ => fun
  | [d] => { results := [.lit (.bool false)], args := [d] }
  | _ => none }
def FnExactCheckedWrongFalsely : Prop := fnExactCheckedRow.holds Tryz.pinned (OpenSpec.ofChange fnExactCheckedWrong)

/-- 'laws.FnExactCopiesGone': WHATEVER THE INPUT: true; the input reads as it did. -/
def fnExactCopiesGoneSpec : ChangeSpec := { name := "fnExactCopiesGone", fn := fun _ => fun
  | [d] => { results := [.lit (.bool true)], args := [d] }
  | _ => none }
def fnExactCopiesGoneRow : OpenClaim := { program := "ytebgkcjpocfmmaagreat", sum := "c5441c65d7c8198cb35d3386c3de623b0da72e8c1838281a66741ced98969358", func := "loop.example/g00457/laws.FnExactCopiesGone", spec := "fnExactCopiesGone", unfollowed := true, recurses := true, apart := false }
def FnExactCopiesGoneSaid : Prop := fnExactCopiesGoneRow.holds Tryz.pinned (OpenSpec.ofChange fnExactCopiesGoneSpec)

/-- ITS FALSE NEIGHBOUR: 'it returns false'. Refute it at one input. -/
def fnExactCopiesGoneWrong : ChangeSpec := { name := "fnExactCopiesGone", fn := fun _ => fun
  | [d] => { results := [.lit (.bool false)], args := [d] }
  | _ => none }
def FnExactCopiesGoneWrongFalsely : Prop := fnExactCopiesGoneRow.holds Tryz.pinned (OpenSpec.ofChange fnExactCopiesGoneWrong)

/- THE SECOND FORM. 'bulk': how many values and letters a reading holds, each counted each time it is reached (what is shared counts as often as it is met; a slice's spare places count too). A statement '..UptoSaid' is the law's where the arguments, and the package variables that the reading takes, are together of bulk at most 1048576: NARROWER than '..Said'. Prove '..Said' where nothing that the law and all that it calls make is longer than what came in: it says more and counts as full. Else prove '..UptoSaid'. A law counts once. -/
mutual
def uptoBulk {H : Type} : DataW H → Nat
  | .lit (.string bytes) => bytes.length + 1
  | .lit _ => 1
  | .nil => 1
  | .ptr d => uptoBulk d + 1
  | .slice elems spare => uptoBulkAll elems + uptoBulkAll spare + 1
  | .agg parts => uptoBulkAll parts + 1
  | .iface _ d => uptoBulk d + 1
  | .map entries => uptoBulkEntries entries + 1
  | .held _ => 1
def uptoBulkAll {H : Type} : List (DataW H) → Nat
  | [] => 0
  | d :: r => uptoBulk d + uptoBulkAll r
def uptoBulkEntries {H : Type} : List (Lit × DataW H) → Nat
  | [] => 0
  | x :: r => uptoBulkEntry x + uptoBulkEntries r
def uptoBulkEntry {H : Type} : Lit × DataW H → Nat
  | (.string bytes, d) => bytes.length + uptoBulk d + 1
  | (_, d) => uptoBulk d + 1
 end
def uptoSmall : (H : Type) → List (DataW H) → Bool := fun _ ds => decide (uptoBulkAll ds ≤ 1048576)
def OpenSpec.upto (s : _root_.Go.ChangeSpec) : _root_.Go.OpenSpec := { _root_.Go.OpenSpec.ofChange s with cond := some uptoSmall }

/-- 'laws.FnExactCleaned', WHERE WHAT IT READS IS OF BULK AT MOST 1048576: true; the input reads as it did. -/
def fnExactCleanedUptoRow : OpenClaim := { program := "ytebgkcjpocfmmaagreat", sum := "c5441c65d7c8198cb35d3386c3de623b0da72e8c1838281a66741ced98969358", func := "loop.example/g00457/laws.FnExactCleaned", spec := "fnExactCleaned", unfollowed := true, recurses := true, apart := false, narrowed := true }
def FnExactCleanedUptoSaid : Prop := fnExactCleanedUptoRow.holds Tryz.pinned (OpenSpec.upto fnExactCleanedSpec)

/-- 'laws.FnExactFolded', WHERE WHAT IT READS IS OF BULK AT MOST 1048576: true; the input reads as it did. -/
def fnExactFoldedUptoRow : OpenClaim := { program := "ytebgkcjpocfmmaagreat", sum := "c5441c65d7c8198cb35d3386c3de623b0da72e8c1838281a66741ced98969358", func := "loop.example/g00457/laws.FnExactFolded", spec := "fnExactFolded", unfollowed := true, recurses := true, apart := false, narrowed := true }
def FnExactFoldedUptoSaid : Prop := fnExactFoldedUptoRow.holds Tryz.pinned (OpenSpec.upto fnExactFoldedSpec)

/-- 'laws.FnExactFuncChecked', WHERE WHAT IT READS IS OF BULK AT MOST 1048576: true; the input reads as it did. -/
def fnExactFuncCheckedUptoRow : OpenClaim := { program := "ytebgkcjpocfmmaagreat", sum := "c5441c65d7c8198cb35d3386c3de623b0da72e8c1838281a66741ced98969358", func := "loop.example/g00457/laws.FnExactFuncChecked", spec := "fnExactFuncChecked", unfollowed := true, recurses := true, apart := false, narrowed := true }
def FnExactFuncCheckedUptoSaid : Prop := fnExactFuncCheckedUptoRow.holds Tryz.pinned (OpenSpec.upto fnExactFuncCheckedSpec)

/-- 'laws.FnExactChecked', WHERE WHAT IT READS IS OF BULK AT MOST 1048576: true; the input reads as it did. -/
def fnExactCheckedUptoRow : OpenClaim := { program := "ytebgkcjpocfmmaagreat", sum := "c5441c65d7c8198cb35d3386c3de623b0da72e8c1838281a66741ced98969358", func := "loop.example/g00457/laws.FnExactChecked", spec := "fnExactChecked", unfollowed := true, recurses := true, apart := false, narrowed := true }
def FnExactCheckedUptoSaid : Prop := fnExactCheckedUptoRow.holds Tryz.pinned (OpenSpec.upto fnExactCheckedSpec)

/-- 'laws.FnExactCopiesGone', WHERE WHAT IT READS IS OF BULK AT MOST 1048576: true; the input reads as it did. -/
def fnExactCopiesGoneUptoRow : OpenClaim := { program := "ytebgkcjpocfmmaagreat", sum := "c5441c65d7c8198cb35d3386c3de623b0da72e8c1838281a66741ced98969358", func := "loop.example/g00457/laws.FnExactCopiesGone", spec := "fnExactCopiesGone", unfollowed := true, recurses := true, apart := false, narrowed := true }
def FnExactCopiesGoneUptoSaid : Prop := fnExactCopiesGoneUptoRow.holds Tryz.pinned (OpenSpec.upto fnExactCopiesGoneSpec)

end Rows
end Go.Proofs.YtebgkcjpocfmmaaGreat
