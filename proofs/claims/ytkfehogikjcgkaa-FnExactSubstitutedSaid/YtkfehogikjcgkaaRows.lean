/-
  No cell of these rows narrows 'for every input' (looked for: loops, veiled, ifaces, maps, wideKeys, modest, calm, conditions, laid).
  DERIVED. THE GIVEN ROWS OF THIS SEAT. 7 by the template 'for every input the law returns true; each argument reads behind the call as it read before'; 0 by the template 'total and deterministic' (their statements: YtkfehogikjcgkaaTotals.lean).
  GIVEN WITH THE SEED: the statements are not yours to turn. If you find one false, say at which input.
  Laid BY PROGRAM, IN A SANDBOX (cutbox-rows.mjs): the forced cells as the released guide's own fill.sh prints them over the translation 4fd8e1a24d60d49f… (all of the seat's roots in one cut). By AI agents, Wed Nov 11 2026. No macro, syntax, notation, axiom, sorry.
-/
import Derived.Test.YtkfehogikjcgkaaChecked
import GoSem.Claim
import GoSem.ClaimJoined
import GoSem.ClaimMapViews
import Derived.JoinedTies
import Derived.KernelRfl
namespace Go.Proofs.Ytkfehogikjcgkaa
/- THE CELL 'sum', in the pinned program and in every row, IS THE sha256 OF THE DUMP (.gsa) THAT YtkfehogikjcgkaaProg.lean LOADS. Nothing in Lean hashes anything: it is a label: what it is worth is what the hold of that sum in a sandbox is worth. -/
noncomputable def Try.pinned : Pinned := { name := "ytkfehogikjcgkaa", sum := "4fd8e1a24d60d49f5c3fc51b40a57959f486fe880160ce694517d879ea9f11ec", checked := Try.checked }
namespace Rows
def none {H : Type} : Left H := { results := [], args := [] }

/-- 'laws.FnExactPredsOf': WHATEVER THE INPUT: true; the input reads as it did. -/
def fnExactPredsOfSpec : ChangeSpec := { name := "fnExactPredsOf", fn := fun _ => fun
  | [d1, d2] => { results := [.lit (.bool true)], args := [d1, d2] }
  | _ => none }
def fnExactPredsOfRow : OpenClaim := { program := "ytkfehogikjcgkaa", sum := "4fd8e1a24d60d49f5c3fc51b40a57959f486fe880160ce694517d879ea9f11ec", func := "loop.example/g00457/laws.FnExactPredsOf", spec := "fnExactPredsOf", unfollowed := true, recurses := true, apart := false }
def FnExactPredsOfSaid : Prop := fnExactPredsOfRow.holds Try.pinned (OpenSpec.ofChange fnExactPredsOfSpec)

/-- ITS FALSE NEIGHBOUR: 'it returns false'. Refute it at one input. -/
def fnExactPredsOfWrong : ChangeSpec := { name := "fnExactPredsOf", fn := fun _ => fun
  | [d1, d2] => { results := [.lit (.bool false)], args := [d1, d2] }
  | _ => none }
def FnExactPredsOfWrongFalsely : Prop := fnExactPredsOfRow.holds Try.pinned (OpenSpec.ofChange fnExactPredsOfWrong)

/-- 'laws.FnExactOrderOf': WHATEVER THE INPUT: true; the input reads as it did. -/
def fnExactOrderOfSpec : ChangeSpec := { name := "fnExactOrderOf", fn := fun _ => fun
  | [d] => { results := [.lit (.bool true)], args := [d] }
  | _ => none }
def fnExactOrderOfRow : OpenClaim := { program := "ytkfehogikjcgkaa", sum := "4fd8e1a24d60d49f5c3fc51b40a57959f486fe880160ce694517d879ea9f11ec", func := "loop.example/g00457/laws.FnExactOrderOf", spec := "fnExactOrderOf", unfollowed := true, recurses := true, apart := false }
def FnExactOrderOfSaid : Prop := fnExactOrderOfRow.holds Try.pinned (OpenSpec.ofChange fnExactOrderOfSpec)

/-- ITS FALSE NEIGHBOUR: 'it returns false'. Refute it at one input. -/
def fnExactOrderOfWrong : ChangeSpec := { name := "fnExactOrderOf", fn := fun _ => fun
  | [d] => { results := [.lit (.bool false)], args := [d] }
  | _ => none }
def FnExactOrderOfWrongFalsely : Prop := fnExactOrderOfRow.holds Try.pinned (OpenSpec.ofChange fnExactOrderOfWrong)

/-- 'laws.FnExactReached': WHATEVER THE INPUT: true; the input reads as it did. -/
def fnExactReachedSpec : ChangeSpec := { name := "fnExactReached", fn := fun _ => fun
  | [d] => { results := [.lit (.bool true)], args := [d] }
  | _ => none }
def fnExactReachedRow : OpenClaim := { program := "ytkfehogikjcgkaa", sum := "4fd8e1a24d60d49f5c3fc51b40a57959f486fe880160ce694517d879ea9f11ec", func := "loop.example/g00457/laws.FnExactReached", spec := "fnExactReached", unfollowed := true, recurses := true, apart := false }
def FnExactReachedSaid : Prop := fnExactReachedRow.holds Try.pinned (OpenSpec.ofChange fnExactReachedSpec)

/-- ITS FALSE NEIGHBOUR: 'it returns false'. Refute it at one input. -/
def fnExactReachedWrong : ChangeSpec := { name := "fnExactReached", fn := fun _ => fun
  | [d] => { results := [.lit (.bool false)], args := [d] }
  | _ => none }
def FnExactReachedWrongFalsely : Prop := fnExactReachedRow.holds Try.pinned (OpenSpec.ofChange fnExactReachedWrong)

/-- 'laws.FnExactShapeOk': WHATEVER THE INPUT: true; the input reads as it did. -/
def fnExactShapeOkSpec : ChangeSpec := { name := "fnExactShapeOk", fn := fun _ => fun
  | [d] => { results := [.lit (.bool true)], args := [d] }
  | _ => none }
def fnExactShapeOkRow : OpenClaim := { program := "ytkfehogikjcgkaa", sum := "4fd8e1a24d60d49f5c3fc51b40a57959f486fe880160ce694517d879ea9f11ec", func := "loop.example/g00457/laws.FnExactShapeOk", spec := "fnExactShapeOk", unfollowed := true, recurses := true, apart := false }
def FnExactShapeOkSaid : Prop := fnExactShapeOkRow.holds Try.pinned (OpenSpec.ofChange fnExactShapeOkSpec)

/-- ITS FALSE NEIGHBOUR: 'it returns false'. Refute it at one input. -/
def fnExactShapeOkWrong : ChangeSpec := { name := "fnExactShapeOk", fn := fun _ => fun
  | [d] => { results := [.lit (.bool false)], args := [d] }
  | _ => none }
def FnExactShapeOkWrongFalsely : Prop := fnExactShapeOkRow.holds Try.pinned (OpenSpec.ofChange fnExactShapeOkWrong)

/-- 'laws.FnExactModuleBytes': WHATEVER THE INPUT: true; the input reads as it did. -/
def fnExactModuleBytesSpec : ChangeSpec := { name := "fnExactModuleBytes", fn := fun _ => fun
  | [d] => { results := [.lit (.bool true)], args := [d] }
  | _ => none }
def fnExactModuleBytesRow : OpenClaim := { program := "ytkfehogikjcgkaa", sum := "4fd8e1a24d60d49f5c3fc51b40a57959f486fe880160ce694517d879ea9f11ec", func := "loop.example/g00457/laws.FnExactModuleBytes", spec := "fnExactModuleBytes", inPlace := ["internal/abi.NoEscape"], unfollowed := true, recurses := true, apart := false }
def FnExactModuleBytesSaid : Prop := fnExactModuleBytesRow.holds Try.pinned (OpenSpec.ofChange fnExactModuleBytesSpec)

/-- ITS FALSE NEIGHBOUR: 'it returns false'. Refute it at one input. -/
def fnExactModuleBytesWrong : ChangeSpec := { name := "fnExactModuleBytes", fn := fun _ => fun
  | [d] => { results := [.lit (.bool false)], args := [d] }
  | _ => none }
def FnExactModuleBytesWrongFalsely : Prop := fnExactModuleBytesRow.holds Try.pinned (OpenSpec.ofChange fnExactModuleBytesWrong)

/-- 'laws.FnExactNeeded': WHATEVER THE INPUT: true; the input reads as it did. -/
def fnExactNeededSpec : ChangeSpec := { name := "fnExactNeeded", fn := fun _ => fun
  | [d] => { results := [.lit (.bool true)], args := [d] }
  | _ => none }
def fnExactNeededRow : OpenClaim := { program := "ytkfehogikjcgkaa", sum := "4fd8e1a24d60d49f5c3fc51b40a57959f486fe880160ce694517d879ea9f11ec", func := "loop.example/g00457/laws.FnExactNeeded", spec := "fnExactNeeded", unfollowed := true, recurses := true, apart := false }
def FnExactNeededSaid : Prop := fnExactNeededRow.holds Try.pinned (OpenSpec.ofChange fnExactNeededSpec)

/-- ITS FALSE NEIGHBOUR: 'it returns false'. Refute it at one input. -/
def fnExactNeededWrong : ChangeSpec := { name := "fnExactNeeded", fn := fun _ => fun
  | [d] => { results := [.lit (.bool false)], args := [d] }
  | _ => none }
def FnExactNeededWrongFalsely : Prop := fnExactNeededRow.holds Try.pinned (OpenSpec.ofChange fnExactNeededWrong)

/-- 'laws.FnExactSubstituted': WHATEVER THE INPUT: true; the input reads as it did. -/
def fnExactSubstitutedSpec : ChangeSpec := { name := "fnExactSubstituted", fn := fun _ => fun
  | [d1, d2] => { results := [.lit (.bool true)], args := [d1, d2] }
  | _ => none }
def fnExactSubstitutedRow : OpenClaim := { program := "ytkfehogikjcgkaa", sum := "4fd8e1a24d60d49f5c3fc51b40a57959f486fe880160ce694517d879ea9f11ec", func := "loop.example/g00457/laws.FnExactSubstituted", spec := "fnExactSubstituted", unfollowed := true, recurses := true, apart := false }
def FnExactSubstitutedSaid : Prop := fnExactSubstitutedRow.holds Try.pinned (OpenSpec.ofChange fnExactSubstitutedSpec)

/-- ITS FALSE NEIGHBOUR: 'it returns false'. Refute it at one input. -/
def fnExactSubstitutedWrong : ChangeSpec := { name := "fnExactSubstituted", fn := fun _ => fun
  | [d1, d2] => { results := [.lit (.bool false)], args := [d1, d2] }
  | _ => none }
def FnExactSubstitutedWrongFalsely : Prop := fnExactSubstitutedRow.holds Try.pinned (OpenSpec.ofChange fnExactSubstitutedWrong)

/- THE SECOND FORM. 'bulk': how many values and letters a reading holds, each counted each time it is reached (what is shared counts as often as it is met; a slice's spare places count too). A statement '..UptoSaid' is the law's where the arguments, and the package variables that the reading takes, are together of bulk at most 1048576: NARROWER than '..Said'. Prove '..Said' where nothing that the law and all that it calls make is longer than what came in: it says more and counts as full. Else prove '..UptoSaid'. A law counts once. -/
mutual
def uptoBulk {H : Type} : DataW H → Nat
  | .lit (.string bytes) => bytes.length + 1
  | .lit _ => 1
  | .nil => 1
  | .ptr d => uptoBulk d + 1
  | .slice elems spare => uptoBulkAll elems + uptoBulkAll spare + 1
  | .agg parts => uptoBulkAll parts + 1
  | .iface _ d => uptoBulk d + 1
  | .map entries => uptoBulkEntries entries + 1
  | .held _ => 1
def uptoBulkAll {H : Type} : List (DataW H) → Nat
  | [] => 0
  | d :: r => uptoBulk d + uptoBulkAll r
def uptoBulkEntries {H : Type} : List (Lit × DataW H) → Nat
  | [] => 0
  | x :: r => uptoBulkEntry x + uptoBulkEntries r
def uptoBulkEntry {H : Type} : Lit × DataW H → Nat
  | (.string bytes, d) => bytes.length + uptoBulk d + 1
  | (_, d) => uptoBulk d + 1
 end
def uptoSmall : (H : Type) → List (DataW H) → Bool := fun _ ds => decide (uptoBulkAll ds ≤ 1048576)
def OpenSpec.upto (s : _root_.Go.ChangeSpec) : _root_.Go.OpenSpec := { _root_.Go.OpenSpec.ofChange s with cond := some uptoSmall }

/-- 'laws.FnExactPredsOf', WHERE WHAT IT READS IS OF BULK AT MOST 1048576: true; the input reads as it did. -/
def fnExactPredsOfUptoRow : OpenClaim := { program := "ytkfehogikjcgkaa", sum := "4fd8e1a24d60d49f5c3fc51b40a57959f486fe880160ce694517d879ea9f11ec", func := "loop.example/g00457/laws.FnExactPredsOf", spec := "fnExactPredsOf", unfollowed := true, recurses := true, apart := false, narrowed := true }
def FnExactPredsOfUptoSaid : Prop := fnExactPredsOfUptoRow.holds Try.pinned (OpenSpec.upto fnExactPredsOfSpec)

/-- 'laws.FnExactOrderOf', WHERE WHAT IT READS IS OF BULK AT MOST 1048576: true; the input reads as it did. -/
def fnExactOrderOfUptoRow : OpenClaim := { program := "ytkfehogikjcgkaa", sum := "4fd8e1a24d60d49f5c3fc51b40a57959f486fe880160ce694517d879ea9f11ec", func := "loop.example/g00457/laws.FnExactOrderOf", spec := "fnExactOrderOf", unfollowed := true, recurses := true, apart := false, narrowed := true }
def FnExactOrderOfUptoSaid : Prop := fnExactOrderOfUptoRow.holds Try.pinned (OpenSpec.upto fnExactOrderOfSpec)

/-- 'laws.FnExactReached', WHERE WHAT IT READS IS OF BULK AT MOST 1048576: true; the input reads as it did. -/
def fnExactReachedUptoRow : OpenClaim := { program := "ytkfehogikjcgkaa", sum := "4fd8e1a24d60d49f5c3fc51b40a57959f486fe880160ce694517d879ea9f11ec", func := "loop.example/g00457/laws.FnExactReached", spec := "fnExactReached", unfollowed := true, recurses := true, apart := false, narrowed := true }
def FnExactReachedUptoSaid : Prop := fnExactReachedUptoRow.holds Try.pinned (OpenSpec.upto fnExactReachedSpec)

/-- 'laws.FnExactShapeOk', WHERE WHAT IT READS IS OF BULK AT MOST 1048576: true; the input reads as it did. -/
def fnExactShapeOkUptoRow : OpenClaim := { program := "ytkfehogikjcgkaa", sum := "4fd8e1a24d60d49f5c3fc51b40a57959f486fe880160ce694517d879ea9f11ec", func := "loop.example/g00457/laws.FnExactShapeOk", spec := "fnExactShapeOk", unfollowed := true, recurses := true, apart := false, narrowed := true }
def FnExactShapeOkUptoSaid : Prop := fnExactShapeOkUptoRow.holds Try.pinned (OpenSpec.upto fnExactShapeOkSpec)

/-- 'laws.FnExactModuleBytes', WHERE WHAT IT READS IS OF BULK AT MOST 1048576: true; the input reads as it did. -/
def fnExactModuleBytesUptoRow : OpenClaim := { program := "ytkfehogikjcgkaa", sum := "4fd8e1a24d60d49f5c3fc51b40a57959f486fe880160ce694517d879ea9f11ec", func := "loop.example/g00457/laws.FnExactModuleBytes", spec := "fnExactModuleBytes", inPlace := ["internal/abi.NoEscape"], unfollowed := true, recurses := true, apart := false, narrowed := true }
def FnExactModuleBytesUptoSaid : Prop := fnExactModuleBytesUptoRow.holds Try.pinned (OpenSpec.upto fnExactModuleBytesSpec)

/-- 'laws.FnExactNeeded', WHERE WHAT IT READS IS OF BULK AT MOST 1048576: true; the input reads as it did. -/
def fnExactNeededUptoRow : OpenClaim := { program := "ytkfehogikjcgkaa", sum := "4fd8e1a24d60d49f5c3fc51b40a57959f486fe880160ce694517d879ea9f11ec", func := "loop.example/g00457/laws.FnExactNeeded", spec := "fnExactNeeded", unfollowed := true, recurses := true, apart := false, narrowed := true }
def FnExactNeededUptoSaid : Prop := fnExactNeededUptoRow.holds Try.pinned (OpenSpec.upto fnExactNeededSpec)

/-- 'laws.FnExactSubstituted', WHERE WHAT IT READS IS OF BULK AT MOST 1048576: true; the input reads as it did. -/
def fnExactSubstitutedUptoRow : OpenClaim := { program := "ytkfehogikjcgkaa", sum := "4fd8e1a24d60d49f5c3fc51b40a57959f486fe880160ce694517d879ea9f11ec", func := "loop.example/g00457/laws.FnExactSubstituted", spec := "fnExactSubstituted", unfollowed := true, recurses := true, apart := false, narrowed := true }
def FnExactSubstitutedUptoSaid : Prop := fnExactSubstitutedUptoRow.holds Try.pinned (OpenSpec.upto fnExactSubstitutedSpec)

end Rows
end Go.Proofs.Ytkfehogikjcgkaa
