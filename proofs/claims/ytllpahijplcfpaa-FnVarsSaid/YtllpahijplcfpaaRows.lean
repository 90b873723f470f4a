/-
  No cell of these rows narrows 'for every input' (looked for: loops, veiled, ifaces, maps, wideKeys, modest, calm, conditions, laid).
  DERIVED. THE GIVEN ROWS OF THIS SEAT. 12 by the template 'for every input the law returns true; each argument reads behind the call as it read before'; 0 by the template 'total and deterministic' (their statements: YtllpahijplcfpaaTotals.lean).
  GIVEN WITH THE SEED: the statements are not yours to turn. If you find one false, say at which input.
  Laid BY PROGRAM, IN A SANDBOX (cutbox-rows.mjs): the forced cells as the released guide's own fill.sh prints them over the translation e9e40d3218b3414e… (all of the seat's roots in one cut). By AI agents, Wed Nov 11 2026. No macro, syntax, notation, axiom, sorry.
-/
import Derived.Test.YtllpahijplcfpaaChecked
import GoSem.Claim
import GoSem.ClaimJoined
import GoSem.ClaimMapViews
import Derived.JoinedTies
import Derived.KernelRfl
namespace Go.Proofs.Ytllpahijplcfpaa
/- THE CELL 'sum', in the pinned program and in every row, IS THE sha256 OF THE DUMP (.gsa) THAT YtllpahijplcfpaaProg.lean LOADS. Nothing in Lean hashes anything: it is a label: what it is worth is what the hold of that sum in a sandbox is worth. -/
noncomputable def Try.pinned : Pinned := { name := "ytllpahijplcfpaa", sum := "e9e40d3218b3414e580f6c7b85795f353a58d5d28d6257c21f233e69a68a70cc", checked := Try.checked }
namespace Rows
def none {H : Type} : Left H := { results := [], args := [] }

/-- 'laws.FnExactConstants': WHATEVER THE INPUT: true; the input reads as it did. -/
def fnExactConstantsSpec : ChangeSpec := { name := "fnExactConstants", fn := fun _ => fun
  | [] => { results := [.lit (.bool true)], args := [] }
  | _ => none }
def fnExactConstantsRow : OpenClaim := { program := "ytllpahijplcfpaa", sum := "e9e40d3218b3414e580f6c7b85795f353a58d5d28d6257c21f233e69a68a70cc", func := "loop.example/g00457/laws.FnExactConstants", spec := "fnExactConstants", apart := false }
def FnExactConstantsSaid : Prop := fnExactConstantsRow.holds Try.pinned (OpenSpec.ofChange fnExactConstantsSpec)

/-- ITS FALSE NEIGHBOUR: 'it returns false'. Refute it at one input. -/
def fnExactConstantsWrong : ChangeSpec := { name := "fnExactConstants", fn := fun _ => fun
  | [] => { results := [.lit (.bool false)], args := [] }
  | _ => none }
def FnExactConstantsWrongFalsely : Prop := fnExactConstantsRow.holds Try.pinned (OpenSpec.ofChange fnExactConstantsWrong)

/-- 'laws.FnExactWidthOk': WHATEVER THE INPUT: true; the input reads as it did. -/
def fnExactWidthOkSpec : ChangeSpec := { name := "fnExactWidthOk", fn := fun _ => fun
  | [d] => { results := [.lit (.bool true)], args := [d] }
  | _ => none }
def fnExactWidthOkRow : OpenClaim := { program := "ytllpahijplcfpaa", sum := "e9e40d3218b3414e580f6c7b85795f353a58d5d28d6257c21f233e69a68a70cc", func := "loop.example/g00457/laws.FnExactWidthOk", spec := "fnExactWidthOk", apart := false }
def FnExactWidthOkSaid : Prop := fnExactWidthOkRow.holds Try.pinned (OpenSpec.ofChange fnExactWidthOkSpec)

/-- ITS FALSE NEIGHBOUR: 'it returns false'. Refute it at one input. -/
def fnExactWidthOkWrong : ChangeSpec := { name := "fnExactWidthOk", fn := fun _ => fun
  | [d] => { results := [.lit (.bool false)], args := [d] }
  | _ => none }
def FnExactWidthOkWrongFalsely : Prop := fnExactWidthOkRow.holds Try.pinned (OpenSpec.ofChange fnExactWidthOkWrong)

/-- 'laws.FnExactMasked': WHATEVER THE INPUT: true; the input reads as it did. -/
def fnExactMaskedSpec : ChangeSpec := { name := "fnExactMasked", fn := fun _ => fun
  | [d1, d2] => { results := [.lit (.bool true)], args := [d1, d2] }
  | _ => none }
def fnExactMaskedRow : OpenClaim := { program := "ytllpahijplcfpaa", sum := "e9e40d3218b3414e580f6c7b85795f353a58d5d28d6257c21f233e69a68a70cc", func := "loop.example/g00457/laws.FnExactMasked", spec := "fnExactMasked", apart := false }
def FnExactMaskedSaid : Prop := fnExactMaskedRow.holds Try.pinned (OpenSpec.ofChange fnExactMaskedSpec)

/-- ITS FALSE NEIGHBOUR: 'it returns false'. Refute it at one input. -/
def fnExactMaskedWrong : ChangeSpec := { name := "fnExactMasked", fn := fun _ => fun
  | [d1, d2] => { results := [.lit (.bool false)], args := [d1, d2] }
  | _ => none }
def FnExactMaskedWrongFalsely : Prop := fnExactMaskedRow.holds Try.pinned (OpenSpec.ofChange fnExactMaskedWrong)

/-- 'laws.FnExactVarOf': WHATEVER THE INPUT: true; the input reads as it did. -/
def fnExactVarOfSpec : ChangeSpec := { name := "fnExactVarOf", fn := fun _ => fun
  | [d] => { results := [.lit (.bool true)], args := [d] }
  | _ => none }
def fnExactVarOfRow : OpenClaim := { program := "ytllpahijplcfpaa", sum := "e9e40d3218b3414e580f6c7b85795f353a58d5d28d6257c21f233e69a68a70cc", func := "loop.example/g00457/laws.FnExactVarOf", spec := "fnExactVarOf", apart := false }
def FnExactVarOfSaid : Prop := fnExactVarOfRow.holds Try.pinned (OpenSpec.ofChange fnExactVarOfSpec)

/-- ITS FALSE NEIGHBOUR: 'it returns false'. Refute it at one input. -/
def fnExactVarOfWrong : ChangeSpec := { name := "fnExactVarOf", fn := fun _ => fun
  | [d] => { results := [.lit (.bool false)], args := [d] }
  | _ => none }
def FnExactVarOfWrongFalsely : Prop := fnExactVarOfRow.holds Try.pinned (OpenSpec.ofChange fnExactVarOfWrong)

/-- 'laws.FnExactResultWidth': WHATEVER THE INPUT: true; the input reads as it did. -/
def fnExactResultWidthSpec : ChangeSpec := { name := "fnExactResultWidth", fn := fun _ => fun
  | [d1, d2] => { results := [.lit (.bool true)], args := [d1, d2] }
  | _ => none }
def fnExactResultWidthRow : OpenClaim := { program := "ytllpahijplcfpaa", sum := "e9e40d3218b3414e580f6c7b85795f353a58d5d28d6257c21f233e69a68a70cc", func := "loop.example/g00457/laws.FnExactResultWidth", spec := "fnExactResultWidth", apart := false }
def FnExactResultWidthSaid : Prop := fnExactResultWidthRow.holds Try.pinned (OpenSpec.ofChange fnExactResultWidthSpec)

/-- ITS FALSE NEIGHBOUR: 'it returns false'. Refute it at one input. -/
def fnExactResultWidthWrong : ChangeSpec := { name := "fnExactResultWidth", fn := fun _ => fun
  | [d1, d2] => { results := [.lit (.bool false)], args := [d1, d2] }
  | _ => none }
def FnExactResultWidthWrongFalsely : Prop := fnExactResultWidthRow.holds Try.pinned (OpenSpec.ofChange fnExactResultWidthWrong)

/-- 'laws.FnExactCrc': WHATEVER THE INPUT: true; the input reads as it did. -/
def fnExactCrcSpec : ChangeSpec := { name := "fnExactCrc", fn := fun _ => fun
  | [d] => { results := [.lit (.bool true)], args := [d] }
  | _ => none }
def fnExactCrcRow : OpenClaim := { program := "ytllpahijplcfpaa", sum := "e9e40d3218b3414e580f6c7b85795f353a58d5d28d6257c21f233e69a68a70cc", func := "loop.example/g00457/laws.FnExactCrc", spec := "fnExactCrc", apart := false }
def FnExactCrcSaid : Prop := fnExactCrcRow.holds Try.pinned (OpenSpec.ofChange fnExactCrcSpec)

/-- ITS FALSE NEIGHBOUR: 'it returns false'. Refute it at one input. -/
def fnExactCrcWrong : ChangeSpec := { name := "fnExactCrc", fn := fun _ => fun
  | [d] => { results := [.lit (.bool false)], args := [d] }
  | _ => none }
def FnExactCrcWrongFalsely : Prop := fnExactCrcRow.holds Try.pinned (OpenSpec.ofChange fnExactCrcWrong)

/-- 'laws.FnExactSignOf': WHATEVER THE INPUT: true; the input reads as it did. -/
def fnExactSignOfSpec : ChangeSpec := { name := "fnExactSignOf", fn := fun _ => fun
  | [d1, d2] => { results := [.lit (.bool true)], args := [d1, d2] }
  | _ => none }
def fnExactSignOfRow : OpenClaim := { program := "ytllpahijplcfpaa", sum := "e9e40d3218b3414e580f6c7b85795f353a58d5d28d6257c21f233e69a68a70cc", func := "loop.example/g00457/laws.FnExactSignOf", spec := "fnExactSignOf", apart := false }
def FnExactSignOfSaid : Prop := fnExactSignOfRow.holds Try.pinned (OpenSpec.ofChange fnExactSignOfSpec)

/-- ITS FALSE NEIGHBOUR: 'it returns false'. Refute it at one input. -/
def fnExactSignOfWrong : ChangeSpec := { name := "fnExactSignOf", fn := fun _ => fun
  | [d1, d2] => { results := [.lit (.bool false)], args := [d1, d2] }
  | _ => none }
def FnExactSignOfWrongFalsely : Prop := fnExactSignOfRow.holds Try.pinned (OpenSpec.ofChange fnExactSignOfWrong)

/-- 'laws.FnExactReadVar': WHATEVER THE INPUT: true; the input reads as it did. -/
def fnExactReadVarSpec : ChangeSpec := { name := "fnExactReadVar", fn := fun _ => fun
  | [d1, d2] => { results := [.lit (.bool true)], args := [d1, d2] }
  | _ => none }
def fnExactReadVarRow : OpenClaim := { program := "ytllpahijplcfpaa", sum := "e9e40d3218b3414e580f6c7b85795f353a58d5d28d6257c21f233e69a68a70cc", func := "loop.example/g00457/laws.FnExactReadVar", spec := "fnExactReadVar", apart := false }
def FnExactReadVarSaid : Prop := fnExactReadVarRow.holds Try.pinned (OpenSpec.ofChange fnExactReadVarSpec)

/-- ITS FALSE NEIGHBOUR: 'it returns false'. Refute it at one input. -/
def fnExactReadVarWrong : ChangeSpec := { name := "fnExactReadVar", fn := fun _ => fun
  | [d1, d2] => { results := [.lit (.bool false)], args := [d1, d2] }
  | _ => none }
def FnExactReadVarWrongFalsely : Prop := fnExactReadVarRow.holds Try.pinned (OpenSpec.ofChange fnExactReadVarWrong)

/-- 'laws.FnExactCasted': WHATEVER THE INPUT: true; the input reads as it did. -/
def fnExactCastedSpec : ChangeSpec := { name := "fnExactCasted", fn := fun _ => fun
  | [d1, d2, d3, d4] => { results := [.lit (.bool true)], args := [d1, d2, d3, d4] }
  | _ => none }
def fnExactCastedRow : OpenClaim := { program := "ytllpahijplcfpaa", sum := "e9e40d3218b3414e580f6c7b85795f353a58d5d28d6257c21f233e69a68a70cc", func := "loop.example/g00457/laws.FnExactCasted", spec := "fnExactCasted", apart := false }
def FnExactCastedSaid : Prop := fnExactCastedRow.holds Try.pinned (OpenSpec.ofChange fnExactCastedSpec)

/-- ITS FALSE NEIGHBOUR: 'it returns false'. Refute it at one input. -/
def fnExactCastedWrong : ChangeSpec := { name := "fnExactCasted", fn := fun _ => fun
  | [d1, d2, d3, d4] => { results := [.lit (.bool false)], args := [d1, d2, d3, d4] }
  | _ => none }
def FnExactCastedWrongFalsely : Prop := fnExactCastedRow.holds Try.pinned (OpenSpec.ofChange fnExactCastedWrong)

/-- 'laws.FnCrc': WHATEVER THE INPUT: true; the input reads as it did. -/
def fnCrcSpec : ChangeSpec := { name := "fnCrc", fn := fun _ => fun
  | [d] => { results := [.lit (.bool true)], args := [d] }
  | _ => none }
def fnCrcRow : OpenClaim := { program := "ytllpahijplcfpaa", sum := "e9e40d3218b3414e580f6c7b85795f353a58d5d28d6257c21f233e69a68a70cc", func := "loop.example/g00457/laws.FnCrc", spec := "fnCrc", apart := false }
def FnCrcSaid : Prop := fnCrcRow.holds Try.pinned (OpenSpec.ofChange fnCrcSpec)

/-- ITS FALSE NEIGHBOUR: 'it returns false'. Refute it at one input. -/
def fnCrcWrong : ChangeSpec := { name := "fnCrc", fn := fun _ => fun
  | [d] => { results := [.lit (.bool false)], args := [d] }
  | _ => none }
def FnCrcWrongFalsely : Prop := fnCrcRow.holds Try.pinned (OpenSpec.ofChange fnCrcWrong)

/-- 'laws.FnExactSeen': WHATEVER THE INPUT: true; the input reads as it did. -/
def fnExactSeenSpec : ChangeSpec := { name := "fnExactSeen", fn := fun _ => fun
  | [d] => { results := [.lit (.bool true)], args := [d] }
  | _ => none }
def fnExactSeenRow : OpenClaim := { program := "ytllpahijplcfpaa", sum := "e9e40d3218b3414e580f6c7b85795f353a58d5d28d6257c21f233e69a68a70cc", func := "loop.example/g00457/laws.FnExactSeen", spec := "fnExactSeen", apart := false }
def FnExactSeenSaid : Prop := fnExactSeenRow.holds Try.pinned (OpenSpec.ofChange fnExactSeenSpec)

/-- ITS FALSE NEIGHBOUR: 'it returns false'. Refute it at one input. -/
def fnExactSeenWrong : ChangeSpec := { name := "fnExactSeen", fn := fun _ => fun
  | [d] => { results := [.lit (.bool false)], args := [d] }
  | _ => none }
def FnExactSeenWrongFalsely : Prop := fnExactSeenRow.holds Try.pinned (OpenSpec.ofChange fnExactSeenWrong)

/-- 'laws.FnVars': WHATEVER THE INPUT: true; the input reads as it did. -/
def fnVarsSpec : ChangeSpec := { name := "fnVars", fn := fun _ => fun
  | [d] => { results := [.lit (.bool true)], args := [d] }
  | _ => none }
def fnVarsRow : OpenClaim := { program := "ytllpahijplcfpaa", sum := "e9e40d3218b3414e580f6c7b85795f353a58d5d28d6257c21f233e69a68a70cc", func := "loop.example/g00457/laws.FnVars", spec := "fnVars", apart := false }
def FnVarsSaid : Prop := fnVarsRow.holds Try.pinned (OpenSpec.ofChange fnVarsSpec)

/-- ITS FALSE NEIGHBOUR: 'it returns false'. Refute it at one input. -/
def fnVarsWrong : ChangeSpec := { name := "fnVars", fn := fun _ => fun
  | [d] => { results := [.lit (.bool false)], args := [d] }
  | _ => none }
def FnVarsWrongFalsely : Prop := fnVarsRow.holds Try.pinned (OpenSpec.ofChange fnVarsWrong)

/- THE SECOND FORM. 'bulk': how many values and letters a reading holds, each counted each time it is reached (what is shared counts as often as it is met; a slice's spare places count too). A statement '..UptoSaid' is the law's where the arguments, and the package variables that the reading takes, are together of bulk at most 1048576: NARROWER than '..Said'. Prove '..Said' where nothing that the law and all that it calls make is longer than what came in: it says more and counts as full. Else prove '..UptoSaid'. A law counts once. -/
mutual
def uptoBulk {H : Type} : DataW H → Nat
  | .lit (.string bytes) => bytes.length + 1
  | .lit _ => 1
  | .nil => 1
  | .ptr d => uptoBulk d + 1
  | .slice elems spare => uptoBulkAll elems + uptoBulkAll spare + 1
  | .agg parts => uptoBulkAll parts + 1
  | .iface _ d => uptoBulk d + 1
  | .map entries => uptoBulkEntries entries + 1
  | .held _ => 1
def uptoBulkAll {H : Type} : List (DataW H) → Nat
  | [] => 0
  | d :: r => uptoBulk d + uptoBulkAll r
def uptoBulkEntries {H : Type} : List (Lit × DataW H) → Nat
  | [] => 0
  | x :: r => uptoBulkEntry x + uptoBulkEntries r
def uptoBulkEntry {H : Type} : Lit × DataW H → Nat
  | (.string bytes, d) => bytes.length + uptoBulk d + 1
  | (_, d) => uptoBulk d + 1
 end
def uptoSmall : (H : Type) → List (DataW H) → Bool := fun _ ds => decide (uptoBulkAll ds ≤ 1048576)
def OpenSpec.upto (s : _root_.Go.ChangeSpec) : _root_.Go.OpenSpec := { _root_.Go.OpenSpec.ofChange s with cond := some uptoSmall }

/-- 'laws.FnExactConstants', WHERE WHAT IT READS IS OF BULK AT MOST 1048576: true; the input reads as it did. -/
def fnExactConstantsUptoRow : OpenClaim := { program := "ytllpahijplcfpaa", sum := "e9e40d3218b3414e580f6c7b85795f353a58d5d28d6257c21f233e69a68a70cc", func := "loop.example/g00457/laws.FnExactConstants", spec := "fnExactConstants", apart := false, narrowed := true }
def FnExactConstantsUptoSaid : Prop := fnExactConstantsUptoRow.holds Try.pinned (OpenSpec.upto fnExactConstantsSpec)

/-- 'laws.FnExactWidthOk', WHERE WHAT IT READS IS OF BULK AT MOST 1048576: true; the input reads as it did. -/
def fnExactWidthOkUptoRow : OpenClaim := { program := "ytllpahijplcfpaa", sum := "e9e40d3218b3414e580f6c7b85795f353a58d5d28d6257c21f233e69a68a70cc", func := "loop.example/g00457/laws.FnExactWidthOk", spec := "fnExactWidthOk", apart := false, narrowed := true }
def FnExactWidthOkUptoSaid : Prop := fnExactWidthOkUptoRow.holds Try.pinned (OpenSpec.upto fnExactWidthOkSpec)

/-- 'laws.FnExactMasked', WHERE WHAT IT READS IS OF BULK AT MOST 1048576: true; the input reads as it did. -/
def fnExactMaskedUptoRow : OpenClaim := { program := "ytllpahijplcfpaa", sum := "e9e40d3218b3414e580f6c7b85795f353a58d5d28d6257c21f233e69a68a70cc", func := "loop.example/g00457/laws.FnExactMasked", spec := "fnExactMasked", apart := false, narrowed := true }
def FnExactMaskedUptoSaid : Prop := fnExactMaskedUptoRow.holds Try.pinned (OpenSpec.upto fnExactMaskedSpec)

/-- 'laws.FnExactVarOf', WHERE WHAT IT READS IS OF BULK AT MOST 1048576: true; the input reads as it did. -/
def fnExactVarOfUptoRow : OpenClaim := { program := "ytllpahijplcfpaa", sum := "e9e40d3218b3414e580f6c7b85795f353a58d5d28d6257c21f233e69a68a70cc", func := "loop.example/g00457/laws.FnExactVarOf", spec := "fnExactVarOf", apart := false, narrowed := true }
def FnExactVarOfUptoSaid : Prop := fnExactVarOfUptoRow.holds Try.pinned (OpenSpec.upto fnExactVarOfSpec)

/-- 'laws.FnExactResultWidth', WHERE WHAT IT READS IS OF BULK AT MOST 1048576: true; the input reads as it did. -/
def fnExactResultWidthUptoRow : OpenClaim := { program := "ytllpahijplcfpaa", sum := "e9e40d3218b3414e580f6c7b85795f353a58d5d28d6257c21f233e69a68a70cc", func := "loop.example/g00457/laws.FnExactResultWidth", spec := "fnExactResultWidth", apart := false, narrowed := true }
def FnExactResultWidthUptoSaid : Prop := fnExactResultWidthUptoRow.holds Try.pinned (OpenSpec.upto fnExactResultWidthSpec)

/-- 'laws.FnExactCrc', WHERE WHAT IT READS IS OF BULK AT MOST 1048576: true; the input reads as it did. -/
def fnExactCrcUptoRow : OpenClaim := { program := "ytllpahijplcfpaa", sum := "e9e40d3218b3414e580f6c7b85795f353a58d5d28d6257c21f233e69a68a70cc", func := "loop.example/g00457/laws.FnExactCrc", spec := "fnExactCrc", apart := false, narrowed := true }
def FnExactCrcUptoSaid : Prop := fnExactCrcUptoRow.holds Try.pinned (OpenSpec.upto fnExactCrcSpec)

/-- 'laws.FnExactSignOf', WHERE WHAT IT READS IS OF BULK AT MOST 1048576: true; the input reads as it did. -/
def fnExactSignOfUptoRow : OpenClaim := { program := "ytllpahijplcfpaa", sum := "e9e40d3218b3414e580f6c7b85795f353a58d5d28d6257c21f233e69a68a70cc", func := "loop.example/g00457/laws.FnExactSignOf", spec := "fnExactSignOf", apart := false, narrowed := true }
def FnExactSignOfUptoSaid : Prop := fnExactSignOfUptoRow.holds Try.pinned (OpenSpec.upto fnExactSignOfSpec)

/-- 'laws.FnExactReadVar', WHERE WHAT IT READS IS OF BULK AT MOST 1048576: true; the input reads as it did. -/
def fnExactReadVarUptoRow : OpenClaim := { program := "ytllpahijplcfpaa", sum := "e9e40d3218b3414e580f6c7b85795f353a58d5d28d6257c21f233e69a68a70cc", func := "loop.example/g00457/laws.FnExactReadVar", spec := "fnExactReadVar", apart := false, narrowed := true }
def FnExactReadVarUptoSaid : Prop := fnExactReadVarUptoRow.holds Try.pinned (OpenSpec.upto fnExactReadVarSpec)

/-- 'laws.FnExactCasted', WHERE WHAT IT READS IS OF BULK AT MOST 1048576: true; the input reads as it did. -/
def fnExactCastedUptoRow : OpenClaim := { program := "ytllpahijplcfpaa", sum := "e9e40d3218b3414e580f6c7b85795f353a58d5d28d6257c21f233e69a68a70cc", func := "loop.example/g00457/laws.FnExactCasted", spec := "fnExactCasted", apart := false, narrowed := true }
def FnExactCastedUptoSaid : Prop := fnExactCastedUptoRow.holds Try.pinned (OpenSpec.upto fnExactCastedSpec)

/-- 'laws.FnCrc', WHERE WHAT IT READS IS OF BULK AT MOST 1048576: true; the input reads as it did. -/
def fnCrcUptoRow : OpenClaim := { program := "ytllpahijplcfpaa", sum := "e9e40d3218b3414e580f6c7b85795f353a58d5d28d6257c21f233e69a68a70cc", func := "loop.example/g00457/laws.FnCrc", spec := "fnCrc", apart := false, narrowed := true }
def FnCrcUptoSaid : Prop := fnCrcUptoRow.holds Try.pinned (OpenSpec.upto fnCrcSpec)

/-- 'laws.FnExactSeen', WHERE WHAT IT READS IS OF BULK AT MOST 1048576: true; the input reads as it did. -/
def fnExactSeenUptoRow : OpenClaim := { program := "ytllpahijplcfpaa", sum := "e9e40d3218b3414e580f6c7b85795f353a58d5d28d6257c21f233e69a68a70cc", func := "loop.example/g00457/laws.FnExactSeen", spec := "fnExactSeen", apart := false, narrowed := true }
def FnExactSeenUptoSaid : Prop := fnExactSeenUptoRow.holds Try.pinned (OpenSpec.upto fnExactSeenSpec)

/-- 'laws.FnVars', WHERE WHAT IT READS IS OF BULK AT MOST 1048576: true; the input reads as it did. -/
def fnVarsUptoRow : OpenClaim := { program := "ytllpahijplcfpaa", sum := "e9e40d3218b3414e580f6c7b85795f353a58d5d28d6257c21f233e69a68a70cc", func := "loop.example/g00457/laws.FnVars", spec := "fnVars", apart := false, narrowed := true }
def FnVarsUptoSaid : Prop := fnVarsUptoRow.holds Try.pinned (OpenSpec.upto fnVarsSpec)

end Rows
end Go.Proofs.Ytllpahijplcfpaa
