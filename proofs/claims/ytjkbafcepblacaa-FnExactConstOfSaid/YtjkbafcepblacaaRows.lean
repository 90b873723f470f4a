/-
  No cell of these rows narrows 'for every input' (looked for: loops, veiled, ifaces, maps, wideKeys, modest, calm, conditions, laid).
  DERIVED. THE GIVEN ROWS OF THIS SEAT. 11 by the template 'for every input the law returns true; each argument reads behind the call as it read before'; 0 by the template 'total and deterministic' (their statements: YtjkbafcepblacaaTotals.lean).
  GIVEN WITH THE SEED: the statements are not yours to turn. If you find one false, say at which input.
  Laid BY PROGRAM, IN A SANDBOX (cutbox-rows.mjs): the forced cells as the released guide's own fill.sh prints them over the translation 9ce02cb99acd1e6e… (all of the seat's roots in one cut). By AI agents, Wed Nov 11 2026. No macro, syntax, notation, axiom, sorry.
-/
import Derived.Test.YtjkbafcepblacaaChecked
import GoSem.Claim
import GoSem.ClaimJoined
import GoSem.ClaimMapViews
import Derived.JoinedTies
import Derived.KernelRfl
namespace Go.Proofs.Ytjkbafcepblacaa
/- THE CELL 'sum', in the pinned program and in every row, IS THE sha256 OF THE DUMP (.gsa) THAT YtjkbafcepblacaaProg.lean LOADS. Nothing in Lean hashes anything: it is a label: what it is worth is what the hold of that sum in a sandbox is worth. -/
noncomputable def Try.pinned : Pinned := { name := "ytjkbafcepblacaa", sum := "9ce02cb99acd1e6ee5f1f6ed3fa7ab21e0b34598bff74f90c9610dd201d74eda", checked := Try.checked }
namespace Rows
def none {H : Type} : Left H := { results := [], args := [] }

/-- 'laws.FnExactOperandsOf': WHATEVER THE INPUT: true; the input reads as it did. -/
def fnExactOperandsOfSpec : ChangeSpec := { name := "fnExactOperandsOf", fn := fun _ => fun
  | [d] => { results := [.lit (.bool true)], args := [d] }
  | _ => none }
def fnExactOperandsOfRow : OpenClaim := { program := "ytjkbafcepblacaa", sum := "9ce02cb99acd1e6ee5f1f6ed3fa7ab21e0b34598bff74f90c9610dd201d74eda", func := "loop.example/g00457/laws.FnExactOperandsOf", spec := "fnExactOperandsOf", apart := false }
def FnExactOperandsOfSaid : Prop := fnExactOperandsOfRow.holds Try.pinned (OpenSpec.ofChange fnExactOperandsOfSpec)

/-- ITS FALSE NEIGHBOUR: 'it returns false'. Refute it at one input. -/
def fnExactOperandsOfWrong : ChangeSpec := { name := "fnExactOperandsOf", fn := fun _ => fun
  | [d] => { results := [.lit (.bool false)], args := [d] }
  | _ => none }
def FnExactOperandsOfWrongFalsely : Prop := fnExactOperandsOfRow.holds Try.pinned (OpenSpec.ofChange fnExactOperandsOfWrong)

/-- 'laws.FnExactBinary': WHATEVER THE INPUT: true; the input reads as it did. -/
def fnExactBinarySpec : ChangeSpec := { name := "fnExactBinary", fn := fun _ => fun
  | [d1, d2, d3, d4] => { results := [.lit (.bool true)], args := [d1, d2, d3, d4] }
  | _ => none }
def fnExactBinaryRow : OpenClaim := { program := "ytjkbafcepblacaa", sum := "9ce02cb99acd1e6ee5f1f6ed3fa7ab21e0b34598bff74f90c9610dd201d74eda", func := "loop.example/g00457/laws.FnExactBinary", spec := "fnExactBinary", apart := false }
def FnExactBinarySaid : Prop := fnExactBinaryRow.holds Try.pinned (OpenSpec.ofChange fnExactBinarySpec)

/-- ITS FALSE NEIGHBOUR: 'it returns false'. Refute it at one input. -/
def fnExactBinaryWrong : ChangeSpec := { name := "fnExactBinary", fn := fun _ => fun
  | [d1, d2, d3, d4] => { results := [.lit (.bool false)], args := [d1, d2, d3, d4] }
  | _ => none }
def FnExactBinaryWrongFalsely : Prop := fnExactBinaryRow.holds Try.pinned (OpenSpec.ofChange fnExactBinaryWrong)

/-- 'laws.FnDominates': WHATEVER THE INPUT: true; the input reads as it did. -/
def fnDominatesSpec : ChangeSpec := { name := "fnDominates", fn := fun _ => fun
  | [d] => { results := [.lit (.bool true)], args := [d] }
  | _ => none }
def fnDominatesRow : OpenClaim := { program := "ytjkbafcepblacaa", sum := "9ce02cb99acd1e6ee5f1f6ed3fa7ab21e0b34598bff74f90c9610dd201d74eda", func := "loop.example/g00457/laws.FnDominates", spec := "fnDominates", unfollowed := true, recurses := true, apart := false }
def FnDominatesSaid : Prop := fnDominatesRow.holds Try.pinned (OpenSpec.ofChange fnDominatesSpec)

/-- ITS FALSE NEIGHBOUR: 'it returns false'. Refute it at one input. -/
def fnDominatesWrong : ChangeSpec := { name := "fnDominates", fn := fun _ => fun
  | [d] => { results := [.lit (.bool false)], args := [d] }
  | _ => none }
def FnDominatesWrongFalsely : Prop := fnDominatesRow.holds Try.pinned (OpenSpec.ofChange fnDominatesWrong)

/-- 'laws.FnIdom': WHATEVER THE INPUT: true; the input reads as it did. -/
def fnIdomSpec : ChangeSpec := { name := "fnIdom", fn := fun _ => fun
  | [d] => { results := [.lit (.bool true)], args := [d] }
  | _ => none }
def fnIdomRow : OpenClaim := { program := "ytjkbafcepblacaa", sum := "9ce02cb99acd1e6ee5f1f6ed3fa7ab21e0b34598bff74f90c9610dd201d74eda", func := "loop.example/g00457/laws.FnIdom", spec := "fnIdom", unfollowed := true, recurses := true, apart := false }
def FnIdomSaid : Prop := fnIdomRow.holds Try.pinned (OpenSpec.ofChange fnIdomSpec)

/-- ITS FALSE NEIGHBOUR: 'it returns false'. Refute it at one input. -/
def fnIdomWrong : ChangeSpec := { name := "fnIdom", fn := fun _ => fun
  | [d] => { results := [.lit (.bool false)], args := [d] }
  | _ => none }
def FnIdomWrongFalsely : Prop := fnIdomRow.holds Try.pinned (OpenSpec.ofChange fnIdomWrong)

/-- 'laws.FnOrder': WHATEVER THE INPUT: true; the input reads as it did. -/
def fnOrderSpec : ChangeSpec := { name := "fnOrder", fn := fun _ => fun
  | [d] => { results := [.lit (.bool true)], args := [d] }
  | _ => none }
def fnOrderRow : OpenClaim := { program := "ytjkbafcepblacaa", sum := "9ce02cb99acd1e6ee5f1f6ed3fa7ab21e0b34598bff74f90c9610dd201d74eda", func := "loop.example/g00457/laws.FnOrder", spec := "fnOrder", unfollowed := true, recurses := true, apart := false }
def FnOrderSaid : Prop := fnOrderRow.holds Try.pinned (OpenSpec.ofChange fnOrderSpec)

/-- ITS FALSE NEIGHBOUR: 'it returns false'. Refute it at one input. -/
def fnOrderWrong : ChangeSpec := { name := "fnOrder", fn := fun _ => fun
  | [d] => { results := [.lit (.bool false)], args := [d] }
  | _ => none }
def FnOrderWrongFalsely : Prop := fnOrderRow.holds Try.pinned (OpenSpec.ofChange fnOrderWrong)

/-- 'laws.FnExactCountOf': WHATEVER THE INPUT: true; the input reads as it did. -/
def fnExactCountOfSpec : ChangeSpec := { name := "fnExactCountOf", fn := fun _ => fun
  | [d] => { results := [.lit (.bool true)], args := [d] }
  | _ => none }
def fnExactCountOfRow : OpenClaim := { program := "ytjkbafcepblacaa", sum := "9ce02cb99acd1e6ee5f1f6ed3fa7ab21e0b34598bff74f90c9610dd201d74eda", func := "loop.example/g00457/laws.FnExactCountOf", spec := "fnExactCountOf", apart := false }
def FnExactCountOfSaid : Prop := fnExactCountOfRow.holds Try.pinned (OpenSpec.ofChange fnExactCountOfSpec)

/-- ITS FALSE NEIGHBOUR: 'it returns false'. Refute it at one input. -/
def fnExactCountOfWrong : ChangeSpec := { name := "fnExactCountOf", fn := fun _ => fun
  | [d] => { results := [.lit (.bool false)], args := [d] }
  | _ => none }
def FnExactCountOfWrongFalsely : Prop := fnExactCountOfRow.holds Try.pinned (OpenSpec.ofChange fnExactCountOfWrong)

/-- 'laws.FnExactPlaceOf': WHATEVER THE INPUT: true; the input reads as it did. -/
def fnExactPlaceOfSpec : ChangeSpec := { name := "fnExactPlaceOf", fn := fun _ => fun
  | [d1, d2] => { results := [.lit (.bool true)], args := [d1, d2] }
  | _ => none }
def fnExactPlaceOfRow : OpenClaim := { program := "ytjkbafcepblacaa", sum := "9ce02cb99acd1e6ee5f1f6ed3fa7ab21e0b34598bff74f90c9610dd201d74eda", func := "loop.example/g00457/laws.FnExactPlaceOf", spec := "fnExactPlaceOf", apart := false }
def FnExactPlaceOfSaid : Prop := fnExactPlaceOfRow.holds Try.pinned (OpenSpec.ofChange fnExactPlaceOfSpec)

/-- ITS FALSE NEIGHBOUR: 'it returns false'. Refute it at one input. -/
def fnExactPlaceOfWrong : ChangeSpec := { name := "fnExactPlaceOf", fn := fun _ => fun
  | [d1, d2] => { results := [.lit (.bool false)], args := [d1, d2] }
  | _ => none }
def FnExactPlaceOfWrongFalsely : Prop := fnExactPlaceOfRow.holds Try.pinned (OpenSpec.ofChange fnExactPlaceOfWrong)

/-- 'laws.FnExactConstOf': WHATEVER THE INPUT: true; the input reads as it did. -/
def fnExactConstOfSpec : ChangeSpec := { name := "fnExactConstOf", fn := fun _ => fun
  | [d1, d2] => { results := [.lit (.bool true)], args := [d1, d2] }
  | _ => none }
def fnExactConstOfRow : OpenClaim := { program := "ytjkbafcepblacaa", sum := "9ce02cb99acd1e6ee5f1f6ed3fa7ab21e0b34598bff74f90c9610dd201d74eda", func := "loop.example/g00457/laws.FnExactConstOf", spec := "fnExactConstOf", apart := false }
def FnExactConstOfSaid : Prop := fnExactConstOfRow.holds Try.pinned (OpenSpec.ofChange fnExactConstOfSpec)

/-- ITS FALSE NEIGHBOUR: 'it returns false'. Refute it at one input. -/
def fnExactConstOfWrong : ChangeSpec := { name := "fnExactConstOf", fn := fun _ => fun
  | [d1, d2] => { results := [.lit (.bool false)], args := [d1, d2] }
  | _ => none }
def FnExactConstOfWrongFalsely : Prop := fnExactConstOfRow.holds Try.pinned (OpenSpec.ofChange fnExactConstOfWrong)

/-- 'laws.FnExactUses': WHATEVER THE INPUT: true; the input reads as it did. -/
def fnExactUsesSpec : ChangeSpec := { name := "fnExactUses", fn := fun _ => fun
  | [d1, d2] => { results := [.lit (.bool true)], args := [d1, d2] }
  | _ => none }
def fnExactUsesRow : OpenClaim := { program := "ytjkbafcepblacaa", sum := "9ce02cb99acd1e6ee5f1f6ed3fa7ab21e0b34598bff74f90c9610dd201d74eda", func := "loop.example/g00457/laws.FnExactUses", spec := "fnExactUses", apart := false }
def FnExactUsesSaid : Prop := fnExactUsesRow.holds Try.pinned (OpenSpec.ofChange fnExactUsesSpec)

/-- ITS FALSE NEIGHBOUR: 'it returns false'. Refute it at one input. -/
def fnExactUsesWrong : ChangeSpec := { name := "fnExactUses", fn := fun _ => fun
  | [d1, d2] => { results := [.lit (.bool false)], args := [d1, d2] }
  | _ => none }
def FnExactUsesWrongFalsely : Prop := fnExactUsesRow.holds Try.pinned (OpenSpec.ofChange fnExactUsesWrong)

/-- 'laws.FnExactDominates': WHATEVER THE INPUT: true; the input reads as it did. -/
def fnExactDominatesSpec : ChangeSpec := { name := "fnExactDominates", fn := fun _ => fun
  | [d1, d2, d3] => { results := [.lit (.bool true)], args := [d1, d2, d3] }
  | _ => none }
def fnExactDominatesRow : OpenClaim := { program := "ytjkbafcepblacaa", sum := "9ce02cb99acd1e6ee5f1f6ed3fa7ab21e0b34598bff74f90c9610dd201d74eda", func := "loop.example/g00457/laws.FnExactDominates", spec := "fnExactDominates", unfollowed := true, recurses := true, apart := false }
def FnExactDominatesSaid : Prop := fnExactDominatesRow.holds Try.pinned (OpenSpec.ofChange fnExactDominatesSpec)

/-- ITS FALSE NEIGHBOUR: 'it returns false'. Refute it at one input. -/
def fnExactDominatesWrong : ChangeSpec := { name := "fnExactDominates", fn := fun _ => fun
  | [d1, d2, d3] => { results := [.lit (.bool false)], args := [d1, d2, d3] }
  | _ => none }
def FnExactDominatesWrongFalsely : Prop := fnExactDominatesRow.holds Try.pinned (OpenSpec.ofChange fnExactDominatesWrong)

/-- 'laws.FnExactIdomOf': WHATEVER THE INPUT: true; the input reads as it did. -/
def fnExactIdomOfSpec : ChangeSpec := { name := "fnExactIdomOf", fn := fun _ => fun
  | [d1, d2] => { results := [.lit (.bool true)], args := [d1, d2] }
  | _ => none }
def fnExactIdomOfRow : OpenClaim := { program := "ytjkbafcepblacaa", sum := "9ce02cb99acd1e6ee5f1f6ed3fa7ab21e0b34598bff74f90c9610dd201d74eda", func := "loop.example/g00457/laws.FnExactIdomOf", spec := "fnExactIdomOf", unfollowed := true, recurses := true, apart := false }
def FnExactIdomOfSaid : Prop := fnExactIdomOfRow.holds Try.pinned (OpenSpec.ofChange fnExactIdomOfSpec)

/-- ITS FALSE NEIGHBOUR: 'it returns false'. Refute it at one input. -/
def fnExactIdomOfWrong : ChangeSpec := { name := "fnExactIdomOf", fn := fun _ => fun
  | [d1, d2] => { results := [.lit (.bool false)], args := [d1, d2] }
  | _ => none }
def FnExactIdomOfWrongFalsely : Prop := fnExactIdomOfRow.holds Try.pinned (OpenSpec.ofChange fnExactIdomOfWrong)

/- THE SECOND FORM. 'bulk': how many values and letters a reading holds, each counted each time it is reached (what is shared counts as often as it is met; a slice's spare places count too). A statement '..UptoSaid' is the law's where the arguments, and the package variables that the reading takes, are together of bulk at most 1048576: NARROWER than '..Said'. Prove '..Said' where nothing that the law and all that it calls make is longer than what came in: it says more and counts as full. Else prove '..UptoSaid'. A law counts once. -/
mutual
def uptoBulk {H : Type} : DataW H → Nat
  | .lit (.string bytes) => bytes.length + 1
  | .lit _ => 1
  | .nil => 1
  | .ptr d => uptoBulk d + 1
  | .slice elems spare => uptoBulkAll elems + uptoBulkAll spare + 1
  | .agg parts => uptoBulkAll parts + 1
  | .iface _ d => uptoBulk d + 1
  | .map entries => uptoBulkEntries entries + 1
  | .held _ => 1
def uptoBulkAll {H : Type} : List (DataW H) → Nat
  | [] => 0
  | d :: r => uptoBulk d + uptoBulkAll r
def uptoBulkEntries {H : Type} : List (Lit × DataW H) → Nat
  | [] => 0
  | x :: r => uptoBulkEntry x + uptoBulkEntries r
def uptoBulkEntry {H : Type} : Lit × DataW H → Nat
  | (.string bytes, d) => bytes.length + uptoBulk d + 1
  | (_, d) => uptoBulk d + 1
 end
def uptoSmall : (H : Type) → List (DataW H) → Bool := fun _ ds => decide (uptoBulkAll ds ≤ 1048576)
def OpenSpec.upto (s : _root_.Go.ChangeSpec) : _root_.Go.OpenSpec := { _root_.Go.OpenSpec.ofChange s with cond := some uptoSmall }

/-- 'laws.FnExactOperandsOf', WHERE WHAT IT READS IS OF BULK AT MOST 1048576: true; the input reads as it did. -/
def fnExactOperandsOfUptoRow : OpenClaim := { program := "ytjkbafcepblacaa", sum := "9ce02cb99acd1e6ee5f1f6ed3fa7ab21e0b34598bff74f90c9610dd201d74eda", func := "loop.example/g00457/laws.FnExactOperandsOf", spec := "fnExactOperandsOf", apart := false, narrowed := true }
def FnExactOperandsOfUptoSaid : Prop := fnExactOperandsOfUptoRow.holds Try.pinned (OpenSpec.upto fnExactOperandsOfSpec)

/-- 'laws.FnExactBinary', WHERE WHAT IT READS IS OF BULK AT MOST 1048576: true; the input reads as it did. -/
def fnExactBinaryUptoRow : OpenClaim := { program := "ytjkbafcepblacaa", sum := "9ce02cb99acd1e6ee5f1f6ed3fa7ab21e0b34598bff74f90c9610dd201d74eda", func := "loop.example/g00457/laws.FnExactBinary", spec := "fnExactBinary", apart := false, narrowed := true }
def FnExactBinaryUptoSaid : Prop := fnExactBinaryUptoRow.holds Try.pinned (OpenSpec.upto fnExactBinarySpec)

/-- 'laws.FnDominates', WHERE WHAT IT READS IS OF BULK AT MOST 1048576: true; the input reads as it did. -/
def fnDominatesUptoRow : OpenClaim := { program := "ytjkbafcepblacaa", sum := "9ce02cb99acd1e6ee5f1f6ed3fa7ab21e0b34598bff74f90c9610dd201d74eda", func := "loop.example/g00457/laws.FnDominates", spec := "fnDominates", unfollowed := true, recurses := true, apart := false, narrowed := true }
def FnDominatesUptoSaid : Prop := fnDominatesUptoRow.holds Try.pinned (OpenSpec.upto fnDominatesSpec)

/-- 'laws.FnIdom', WHERE WHAT IT READS IS OF BULK AT MOST 1048576: true; the input reads as it did. -/
def fnIdomUptoRow : OpenClaim := { program := "ytjkbafcepblacaa", sum := "9ce02cb99acd1e6ee5f1f6ed3fa7ab21e0b34598bff74f90c9610dd201d74eda", func := "loop.example/g00457/laws.FnIdom", spec := "fnIdom", unfollowed := true, recurses := true, apart := false, narrowed := true }
def FnIdomUptoSaid : Prop := fnIdomUptoRow.holds Try.pinned (OpenSpec.upto fnIdomSpec)

/-- 'laws.FnOrder', WHERE WHAT IT READS IS OF BULK AT MOST 1048576: true; the input reads as it did. -/
def fnOrderUptoRow : OpenClaim := { program := "ytjkbafcepblacaa", sum := "9ce02cb99acd1e6ee5f1f6ed3fa7ab21e0b34598bff74f90c9610dd201d74eda", func := "loop.example/g00457/laws.FnOrder", spec := "fnOrder", unfollowed := true, recurses := true, apart := false, narrowed := true }
def FnOrderUptoSaid : Prop := fnOrderUptoRow.holds Try.pinned (OpenSpec.upto fnOrderSpec)

/-- 'laws.FnExactCountOf', WHERE WHAT IT READS IS OF BULK AT MOST 1048576: true; the input reads as it did. -/
def fnExactCountOfUptoRow : OpenClaim := { program := "ytjkbafcepblacaa", sum := "9ce02cb99acd1e6ee5f1f6ed3fa7ab21e0b34598bff74f90c9610dd201d74eda", func := "loop.example/g00457/laws.FnExactCountOf", spec := "fnExactCountOf", apart := false, narrowed := true }
def FnExactCountOfUptoSaid : Prop := fnExactCountOfUptoRow.holds Try.pinned (OpenSpec.upto fnExactCountOfSpec)

/-- 'laws.FnExactPlaceOf', WHERE WHAT IT READS IS OF BULK AT MOST 1048576: true; the input reads as it did. -/
def fnExactPlaceOfUptoRow : OpenClaim := { program := "ytjkbafcepblacaa", sum := "9ce02cb99acd1e6ee5f1f6ed3fa7ab21e0b34598bff74f90c9610dd201d74eda", func := "loop.example/g00457/laws.FnExactPlaceOf", spec := "fnExactPlaceOf", apart := false, narrowed := true }
def FnExactPlaceOfUptoSaid : Prop := fnExactPlaceOfUptoRow.holds Try.pinned (OpenSpec.upto fnExactPlaceOfSpec)

/-- 'laws.FnExactConstOf', WHERE WHAT IT READS IS OF BULK AT MOST 1048576: true; the input reads as it did. -/
def fnExactConstOfUptoRow : OpenClaim := { program := "ytjkbafcepblacaa", sum := "9ce02cb99acd1e6ee5f1f6ed3fa7ab21e0b34598bff74f90c9610dd201d74eda", func := "loop.example/g00457/laws.FnExactConstOf", spec := "fnExactConstOf", apart := false, narrowed := true }
def FnExactConstOfUptoSaid : Prop := fnExactConstOfUptoRow.holds Try.pinned (OpenSpec.upto fnExactConstOfSpec)

/-- 'laws.FnExactUses', WHERE WHAT IT READS IS OF BULK AT MOST 1048576: true; the input reads as it did. -/
def fnExactUsesUptoRow : OpenClaim := { program := "ytjkbafcepblacaa", sum := "9ce02cb99acd1e6ee5f1f6ed3fa7ab21e0b34598bff74f90c9610dd201d74eda", func := "loop.example/g00457/laws.FnExactUses", spec := "fnExactUses", apart := false, narrowed := true }
def FnExactUsesUptoSaid : Prop := fnExactUsesUptoRow.holds Try.pinned (OpenSpec.upto fnExactUsesSpec)

/-- 'laws.FnExactDominates', WHERE WHAT IT READS IS OF BULK AT MOST 1048576: true; the input reads as it did. -/
def fnExactDominatesUptoRow : OpenClaim := { program := "ytjkbafcepblacaa", sum := "9ce02cb99acd1e6ee5f1f6ed3fa7ab21e0b34598bff74f90c9610dd201d74eda", func := "loop.example/g00457/laws.FnExactDominates", spec := "fnExactDominates", unfollowed := true, recurses := true, apart := false, narrowed := true }
def FnExactDominatesUptoSaid : Prop := fnExactDominatesUptoRow.holds Try.pinned (OpenSpec.upto fnExactDominatesSpec)

/-- 'laws.FnExactIdomOf', WHERE WHAT IT READS IS OF BULK AT MOST 1048576: true; the input reads as it did. -/
def fnExactIdomOfUptoRow : OpenClaim := { program := "ytjkbafcepblacaa", sum := "9ce02cb99acd1e6ee5f1f6ed3fa7ab21e0b34598bff74f90c9610dd201d74eda", func := "loop.example/g00457/laws.FnExactIdomOf", spec := "fnExactIdomOf", unfollowed := true, recurses := true, apart := false, narrowed := true }
def FnExactIdomOfUptoSaid : Prop := fnExactIdomOfUptoRow.holds Try.pinned (OpenSpec.upto fnExactIdomOfSpec)

end Rows
end Go.Proofs.Ytjkbafcepblacaa
