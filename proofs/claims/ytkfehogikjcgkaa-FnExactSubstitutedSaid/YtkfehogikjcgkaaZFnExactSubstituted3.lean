/- PROVED HERE: what the functions that the law FnExactSubstituted reaches do in memory, each as a plain Lean function, and what these tell: part 4 of 6 of the proof of that law; no condition beyond those written out at each theorem. -/
import Derived.Deep.Slices
import Derived.ProofKit
import Derived.Test.YtkfehogikjcgkaaZFnExactSubstituted0
import Derived.Test.YtkfehogikjcgkaaZFnExactSubstituted2
namespace Go.Proofs.Ytkfehogikjcgkaa.V
open Go
set_option linter.unusedVariables false
noncomputable section
/-! ### impl.within: function 55 -/
abbrev impl_within.R := (((Bool × Unit) × Unit) × Unit)
def impl_within.f (k : Nat) (a0 : Int) (a1 : Int) (a2 : Int) : Option impl_within.R := bif decide (a1 ≤ a0) then (some (((decide (a0 ≤ a2), ()), ()), ())) else (some (((false, ()), ()), ()))
def impl_within.s (k : Nat) : FS := ⟨[⟨false, [.int .i64]⟩, ⟨false, [.int .i64]⟩, ⟨false, [.int .i64]⟩], [], false, [⟨false, [.bool]⟩], [], [], fun x => impl_within.f k x.1.1.1 x.1.2.1.1 x.1.2.2.1.1⟩
def impl_within.E (k : Nat) : Ents := []
def impl_within.L : List (LS impl_within.R) := []
def impl_within.c : Code := Try.f55.body.getD .skip
theorem impl_within.eq (k : Nat) (x) : (impl_within.s k).pf x = execF tab (impl_within.E k) Try.f55 impl_within.c (impl_within.s k) impl_within.L x := by kernel_rfl
theorem impl_within.sound : ∀ k, Sound Try.prog 55 (impl_within.s k) := sound_of mixed tab_ok (f := 55) (fn := Try.f55) (c := impl_within.c) (by kernel_rfl) (by kernel_rfl) (by kernel_rfl) ⟨[⟨false, [.int .i64]⟩, ⟨false, [.int .i64]⟩, ⟨false, [.int .i64]⟩], [], false, [⟨false, [.bool]⟩], [], []⟩ (by kernel_rfl) (by kernel_rfl) (fun k => (impl_within.s k).pf) impl_within.E (fun k => EntsOK.nil) (fun k => impl_within.L) (fun k => trivial) trivial (fun k => trivial) impl_within.eq
end
end Go.Proofs.Ytkfehogikjcgkaa.V
namespace Go.Proofs.Ytkfehogikjcgkaa.V
open Go
set_option linter.unusedVariables false
noncomputable section
/-! ### impl.isFunc$1: function 94 -/
abbrev impl_isFunc_1.R := (((Bool × Unit) × Unit) × Unit)
def impl_isFunc_1.f (k : Nat) (a0 : Int) : Option impl_isFunc_1.R := Option.bind (impl_WidthOk.f k a0) fun r1 => some (((!r1.1.1.1, ()), ()), ())
def impl_isFunc_1.s (k : Nat) : FS := ⟨[⟨false, [.int .i64]⟩], [], false, [⟨false, [.bool]⟩], [], [], fun x => impl_isFunc_1.f k x.1.1.1⟩
def impl_isFunc_1.E (k : Nat) : Ents := [(⟨93, []⟩, impl_WidthOk.s k)]
def impl_isFunc_1.L : List (LS impl_isFunc_1.R) := []
def impl_isFunc_1.c : Code := Try.f94.body.getD .skip
theorem impl_isFunc_1.eq (k : Nat) (x) : (impl_isFunc_1.s k).pf x = execF tab (impl_isFunc_1.E k) Try.f94 impl_isFunc_1.c (impl_isFunc_1.s k) impl_isFunc_1.L x := by kernel_rfl
theorem impl_isFunc_1.sound : ∀ k, Sound Try.prog 94 (impl_isFunc_1.s k) := sound_of mixed tab_ok (f := 94) (fn := Try.f94) (c := impl_isFunc_1.c) (by kernel_rfl) (by kernel_rfl) (by kernel_rfl) ⟨[⟨false, [.int .i64]⟩], [], false, [⟨false, [.bool]⟩], [], []⟩ (by kernel_rfl) (by kernel_rfl) (fun k => (impl_isFunc_1.s k).pf) impl_isFunc_1.E (fun k => (EntsOK.cons (impl_WidthOk.sound k) EntsOK.nil)) (fun k => impl_isFunc_1.L) (fun k => trivial) trivial (fun k => trivial) impl_isFunc_1.eq
end
end Go.Proofs.Ytkfehogikjcgkaa.V
namespace Go.Proofs.Ytkfehogikjcgkaa.V
open Go
set_option linter.unusedVariables false
noncomputable section
/-! ### slices.IndexFunc[[]int64,int64]: function 123 -/
abbrev slices_IndexFunc_int64_int64.R := (((Int × Unit) × Unit) × Unit)
abbrev slices_IndexFunc_int64_int64.T0 : Type := (List Int) → Int → Int → Option slices_IndexFunc_int64_int64.R
def slices_IndexFunc_int64_int64.l0_ (k : Nat) (l0 : slices_IndexFunc_int64_int64.T0) (a0 : List Int) (a1 : Int) (a2 : Int) : Option slices_IndexFunc_int64_int64.R := bif decide (a2 < a1) then (bif (decide (0 ≤ a2)) && (decide (a2 < ((List.length a0 : Nat) : Int))) then (Option.bind (impl_isFunc_1.f k (List.getD a0 (Int.toNat a2) 0)) fun r1 => bif r1.1.1.1 then (some (((a2, ()), ()), ())) else (l0 a0 a1 (IntKind.wrap .i64 (a2 + 1)))) else none) else (some (((-1, ()), ()), ()))
def slices_IndexFunc_int64_int64.all : Nat → (slices_IndexFunc_int64_int64.T0) × Unit
  | 0 => (fun _ _ _ => none, ())
  | k + 1 => (slices_IndexFunc_int64_int64.l0_ k (slices_IndexFunc_int64_int64.all k).1, ())
def slices_IndexFunc_int64_int64.l0 (k : Nat) : slices_IndexFunc_int64_int64.T0 := (slices_IndexFunc_int64_int64.all k).1
def slices_IndexFunc_int64_int64.f (k : Nat) (a0 : List Int) : Option slices_IndexFunc_int64_int64.R := slices_IndexFunc_int64_int64.l0 k a0 ((List.length a0 : Nat) : Int) 0
def slices_IndexFunc_int64_int64.s (k : Nat) : FS := ⟨[⟨false, [.lst (.int .i64)]⟩, ⟨false, [.fn 94 []]⟩], [], false, [⟨false, [.int .i64]⟩], [], [], fun x => slices_IndexFunc_int64_int64.f k x.1.1.1⟩
def slices_IndexFunc_int64_int64.E (k : Nat) : Ents := [(⟨94, []⟩, impl_isFunc_1.s k)]
def slices_IndexFunc_int64_int64.L0 (l : slices_IndexFunc_int64_int64.T0) : LS slices_IndexFunc_int64_int64.R := ⟨[], [(0, ⟨false, [.lst (.int .i64)]⟩), (1, ⟨false, [.fn 94 []]⟩), (7, ⟨false, [.int .i64]⟩), (8, ⟨false, [.int .i64]⟩)], [], fun x => l x.1.1.1 x.1.2.2.1.1 x.1.2.2.2.1.1⟩
def slices_IndexFunc_int64_int64.L (l0 : slices_IndexFunc_int64_int64.T0) : List (LS slices_IndexFunc_int64_int64.R) := [slices_IndexFunc_int64_int64.L0 l0]
def slices_IndexFunc_int64_int64.c : Code := Try.f123.body.getD .skip
theorem slices_IndexFunc_int64_int64.eq (k : Nat) (x) : (slices_IndexFunc_int64_int64.s k).pf x = execF tab (slices_IndexFunc_int64_int64.E k) Try.f123 slices_IndexFunc_int64_int64.c (slices_IndexFunc_int64_int64.s k) (slices_IndexFunc_int64_int64.L (slices_IndexFunc_int64_int64.l0 k)) x := by kernel_rfl
theorem slices_IndexFunc_int64_int64.r0 (l0 : slices_IndexFunc_int64_int64.T0) (k : Nat) (x) : slices_IndexFunc_int64_int64.l0_ k l0 x.1.1.1 x.1.2.2.1.1 x.1.2.2.2.1.1 = roundOf tab (slices_IndexFunc_int64_int64.E k) (slices_IndexFunc_int64_int64.L l0) slices_IndexFunc_int64_int64.c (fin tab Try.f123 (slices_IndexFunc_int64_int64.s k)) 0 (slices_IndexFunc_int64_int64.L0 l0) x := by kernel_rfl
theorem slices_IndexFunc_int64_int64.sound : ∀ k, Sound Try.prog 123 (slices_IndexFunc_int64_int64.s k) := sound_of mixed tab_ok (f := 123) (fn := Try.f123) (c := slices_IndexFunc_int64_int64.c) (by kernel_rfl) (by kernel_rfl) (by kernel_rfl) ⟨[⟨false, [.lst (.int .i64)]⟩, ⟨false, [.fn 94 []]⟩], [], false, [⟨false, [.int .i64]⟩], [], []⟩ (by kernel_rfl) (by kernel_rfl) (fun k => (slices_IndexFunc_int64_int64.s k).pf) slices_IndexFunc_int64_int64.E (fun k => (EntsOK.cons (impl_isFunc_1.sound k) EntsOK.nil)) (fun k => slices_IndexFunc_int64_int64.L (slices_IndexFunc_int64_int64.l0 k)) (fun k => ⟨rfl, trivial⟩) ⟨fun _ => rfl, trivial⟩ (fun k => ⟨⟨(slices_IndexFunc_int64_int64.L0 (slices_IndexFunc_int64_int64.l0 (k + 1))).l, rfl, fun x => slices_IndexFunc_int64_int64.r0 (slices_IndexFunc_int64_int64.l0 k) k x⟩, trivial⟩) slices_IndexFunc_int64_int64.eq
end
end Go.Proofs.Ytkfehogikjcgkaa.V
namespace Go.Proofs.Ytkfehogikjcgkaa.V
open Go
set_option linter.unusedVariables false
noncomputable section
/-! ### slices.ContainsFunc[[]int64,int64]: function 69 -/
abbrev slices_ContainsFunc_int64_int64.R := (((Bool × Unit) × Unit) × Unit)
def slices_ContainsFunc_int64_int64.f (k : Nat) (a0 : List Int) : Option slices_ContainsFunc_int64_int64.R := Option.bind (slices_IndexFunc_int64_int64.f k a0) fun r1 => some (((decide (0 ≤ r1.1.1.1), ()), ()), ())
def slices_ContainsFunc_int64_int64.s (k : Nat) : FS := ⟨[⟨false, [.lst (.int .i64)]⟩, ⟨false, [.fn 94 []]⟩], [], false, [⟨false, [.bool]⟩], [], [], fun x => slices_ContainsFunc_int64_int64.f k x.1.1.1⟩
def slices_ContainsFunc_int64_int64.E (k : Nat) : Ents := [(⟨123, [94]⟩, slices_IndexFunc_int64_int64.s k)]
def slices_ContainsFunc_int64_int64.L : List (LS slices_ContainsFunc_int64_int64.R) := []
def slices_ContainsFunc_int64_int64.c : Code := Try.f69.body.getD .skip
theorem slices_ContainsFunc_int64_int64.eq (k : Nat) (x) : (slices_ContainsFunc_int64_int64.s k).pf x = execF tab (slices_ContainsFunc_int64_int64.E k) Try.f69 slices_ContainsFunc_int64_int64.c (slices_ContainsFunc_int64_int64.s k) slices_ContainsFunc_int64_int64.L x := by kernel_rfl
theorem slices_ContainsFunc_int64_int64.sound : ∀ k, Sound Try.prog 69 (slices_ContainsFunc_int64_int64.s k) := sound_of mixed tab_ok (f := 69) (fn := Try.f69) (c := slices_ContainsFunc_int64_int64.c) (by kernel_rfl) (by kernel_rfl) (by kernel_rfl) ⟨[⟨false, [.lst (.int .i64)]⟩, ⟨false, [.fn 94 []]⟩], [], false, [⟨false, [.bool]⟩], [], []⟩ (by kernel_rfl) (by kernel_rfl) (fun k => (slices_ContainsFunc_int64_int64.s k).pf) slices_ContainsFunc_int64_int64.E (fun k => (EntsOK.cons (slices_IndexFunc_int64_int64.sound k) EntsOK.nil)) (fun k => slices_ContainsFunc_int64_int64.L) (fun k => trivial) trivial (fun k => trivial) slices_ContainsFunc_int64_int64.eq
end
end Go.Proofs.Ytkfehogikjcgkaa.V
namespace Go.Proofs.Ytkfehogikjcgkaa.V
open Go
set_option linter.unusedVariables false
noncomputable section
/-! ### impl.isFunc$2$1: function 97 -/
abbrev impl_isFunc_2_1.R := (((Bool × Unit) × Unit) × Unit)
def impl_isFunc_2_1.f (k : Nat) (a0 : Int) (a1 : Int) : Option impl_isFunc_2_1.R := Option.bind (impl_within.f k a0 0 (IntKind.wrap .i64 (a1 - 1))) fun r1 => some (((!r1.1.1.1, ()), ()), ())
def impl_isFunc_2_1.s (k : Nat) : FS := ⟨[⟨false, [.int .i64]⟩, ⟨false, [.ptr 0 0]⟩], [(0, .cbox [.int .i64])], false, [⟨false, [.bool]⟩], [], [], fun x => impl_isFunc_2_1.f k x.1.1.1 x.2.1.1⟩
def impl_isFunc_2_1.E (k : Nat) : Ents := [(⟨55, []⟩, impl_within.s k)]
def impl_isFunc_2_1.L : List (LS impl_isFunc_2_1.R) := []
def impl_isFunc_2_1.c : Code := Try.f97.body.getD .skip
theorem impl_isFunc_2_1.eq (k : Nat) (x) : (impl_isFunc_2_1.s k).pf x = execF tab (impl_isFunc_2_1.E k) Try.f97 impl_isFunc_2_1.c (impl_isFunc_2_1.s k) impl_isFunc_2_1.L x := by kernel_rfl
theorem impl_isFunc_2_1.sound : ∀ k, Sound Try.prog 97 (impl_isFunc_2_1.s k) := sound_of mixed tab_ok (f := 97) (fn := Try.f97) (c := impl_isFunc_2_1.c) (by kernel_rfl) (by kernel_rfl) (by kernel_rfl) ⟨[⟨false, [.int .i64]⟩, ⟨false, [.ptr 0 0]⟩], [(0, .cbox [.int .i64])], false, [⟨false, [.bool]⟩], [], []⟩ (by kernel_rfl) (by kernel_rfl) (fun k => (impl_isFunc_2_1.s k).pf) impl_isFunc_2_1.E (fun k => (EntsOK.cons (impl_within.sound k) EntsOK.nil)) (fun k => impl_isFunc_2_1.L) (fun k => trivial) trivial (fun k => trivial) impl_isFunc_2_1.eq
end
end Go.Proofs.Ytkfehogikjcgkaa.V
namespace Go.Proofs.Ytkfehogikjcgkaa.V
open Go
set_option linter.unusedVariables false
noncomputable section
/-! ### slices.IndexFunc[[]int64,int64]: function 123 -/
abbrev slices_IndexFunc_int64_int64_2.R := (((Int × Unit) × Unit) × Unit)
abbrev slices_IndexFunc_int64_int64_2.T0 : Type := (List Int) → Int → Int → Int → Option slices_IndexFunc_int64_int64_2.R
def slices_IndexFunc_int64_int64_2.l0_ (k : Nat) (l0 : slices_IndexFunc_int64_int64_2.T0) (a0 : List Int) (a1 : Int) (a2 : Int) (a3 : Int) : Option slices_IndexFunc_int64_int64_2.R := bif decide (a2 < a1) then (bif (decide (0 ≤ a2)) && (decide (a2 < ((List.length a0 : Nat) : Int))) then (Option.bind (impl_isFunc_2_1.f k (List.getD a0 (Int.toNat a2) 0) a3) fun r1 => bif r1.1.1.1 then (some (((a2, ()), ()), ())) else (l0 a0 a1 (IntKind.wrap .i64 (a2 + 1)) a3)) else none) else (some (((-1, ()), ()), ()))
def slices_IndexFunc_int64_int64_2.all : Nat → (slices_IndexFunc_int64_int64_2.T0) × Unit
  | 0 => (fun _ _ _ _ => none, ())
  | k + 1 => (slices_IndexFunc_int64_int64_2.l0_ k (slices_IndexFunc_int64_int64_2.all k).1, ())
def slices_IndexFunc_int64_int64_2.l0 (k : Nat) : slices_IndexFunc_int64_int64_2.T0 := (slices_IndexFunc_int64_int64_2.all k).1
def slices_IndexFunc_int64_int64_2.f (k : Nat) (a0 : List Int) (a1 : Int) : Option slices_IndexFunc_int64_int64_2.R := slices_IndexFunc_int64_int64_2.l0 k a0 ((List.length a0 : Nat) : Int) 0 a1
def slices_IndexFunc_int64_int64_2.s (k : Nat) : FS := ⟨[⟨false, [.lst (.int .i64)]⟩, ⟨false, [.fn 97 [(0, 0)]]⟩], [(0, .cbox [.int .i64])], false, [⟨false, [.int .i64]⟩], [], [], fun x => slices_IndexFunc_int64_int64_2.f k x.1.1.1 x.2.1.1⟩
def slices_IndexFunc_int64_int64_2.E (k : Nat) : Ents := [(⟨97, []⟩, impl_isFunc_2_1.s k)]
def slices_IndexFunc_int64_int64_2.L0 (l : slices_IndexFunc_int64_int64_2.T0) : LS slices_IndexFunc_int64_int64_2.R := ⟨[], [(0, ⟨false, [.lst (.int .i64)]⟩), (1, ⟨false, [.fn 97 [(0, 0)]]⟩), (7, ⟨false, [.int .i64]⟩), (8, ⟨false, [.int .i64]⟩)], [(0, .cbox [.int .i64])], fun x => l x.1.1.1 x.1.2.2.1.1 x.1.2.2.2.1.1 x.2.1.1⟩
def slices_IndexFunc_int64_int64_2.L (l0 : slices_IndexFunc_int64_int64_2.T0) : List (LS slices_IndexFunc_int64_int64_2.R) := [slices_IndexFunc_int64_int64_2.L0 l0]
def slices_IndexFunc_int64_int64_2.c : Code := Try.f123.body.getD .skip
theorem slices_IndexFunc_int64_int64_2.eq (k : Nat) (x) : (slices_IndexFunc_int64_int64_2.s k).pf x = execF tab (slices_IndexFunc_int64_int64_2.E k) Try.f123 slices_IndexFunc_int64_int64_2.c (slices_IndexFunc_int64_int64_2.s k) (slices_IndexFunc_int64_int64_2.L (slices_IndexFunc_int64_int64_2.l0 k)) x := by kernel_rfl
theorem slices_IndexFunc_int64_int64_2.r0 (l0 : slices_IndexFunc_int64_int64_2.T0) (k : Nat) (x) : slices_IndexFunc_int64_int64_2.l0_ k l0 x.1.1.1 x.1.2.2.1.1 x.1.2.2.2.1.1 x.2.1.1 = roundOf tab (slices_IndexFunc_int64_int64_2.E k) (slices_IndexFunc_int64_int64_2.L l0) slices_IndexFunc_int64_int64_2.c (fin tab Try.f123 (slices_IndexFunc_int64_int64_2.s k)) 0 (slices_IndexFunc_int64_int64_2.L0 l0) x := by kernel_rfl
theorem slices_IndexFunc_int64_int64_2.sound : ∀ k, Sound Try.prog 123 (slices_IndexFunc_int64_int64_2.s k) := sound_of mixed tab_ok (f := 123) (fn := Try.f123) (c := slices_IndexFunc_int64_int64_2.c) (by kernel_rfl) (by kernel_rfl) (by kernel_rfl) ⟨[⟨false, [.lst (.int .i64)]⟩, ⟨false, [.fn 97 [(0, 0)]]⟩], [(0, .cbox [.int .i64])], false, [⟨false, [.int .i64]⟩], [], []⟩ (by kernel_rfl) (by kernel_rfl) (fun k => (slices_IndexFunc_int64_int64_2.s k).pf) slices_IndexFunc_int64_int64_2.E (fun k => (EntsOK.cons (impl_isFunc_2_1.sound k) EntsOK.nil)) (fun k => slices_IndexFunc_int64_int64_2.L (slices_IndexFunc_int64_int64_2.l0 k)) (fun k => ⟨rfl, trivial⟩) ⟨fun _ => rfl, trivial⟩ (fun k => ⟨⟨(slices_IndexFunc_int64_int64_2.L0 (slices_IndexFunc_int64_int64_2.l0 (k + 1))).l, rfl, fun x => slices_IndexFunc_int64_int64_2.r0 (slices_IndexFunc_int64_int64_2.l0 k) k x⟩, trivial⟩) slices_IndexFunc_int64_int64_2.eq
end
end Go.Proofs.Ytkfehogikjcgkaa.V
namespace Go.Proofs.Ytkfehogikjcgkaa.V
open Go
set_option linter.unusedVariables false
noncomputable section
/-! ### slices.ContainsFunc[[]int64,int64]: function 69 -/
abbrev slices_ContainsFunc_int64_int64_2.R := (((Bool × Unit) × Unit) × Unit)
def slices_ContainsFunc_int64_int64_2.f (k : Nat) (a0 : List Int) (a1 : Int) : Option slices_ContainsFunc_int64_int64_2.R := Option.bind (slices_IndexFunc_int64_int64_2.f k a0 a1) fun r1 => some (((decide (0 ≤ r1.1.1.1), ()), ()), ())
def slices_ContainsFunc_int64_int64_2.s (k : Nat) : FS := ⟨[⟨false, [.lst (.int .i64)]⟩, ⟨false, [.fn 97 [(0, 0)]]⟩], [(0, .cbox [.int .i64])], false, [⟨false, [.bool]⟩], [], [], fun x => slices_ContainsFunc_int64_int64_2.f k x.1.1.1 x.2.1.1⟩
def slices_ContainsFunc_int64_int64_2.E (k : Nat) : Ents := [(⟨123, [97]⟩, slices_IndexFunc_int64_int64_2.s k)]
def slices_ContainsFunc_int64_int64_2.L : List (LS slices_ContainsFunc_int64_int64_2.R) := []
def slices_ContainsFunc_int64_int64_2.c : Code := Try.f69.body.getD .skip
theorem slices_ContainsFunc_int64_int64_2.eq (k : Nat) (x) : (slices_ContainsFunc_int64_int64_2.s k).pf x = execF tab (slices_ContainsFunc_int64_int64_2.E k) Try.f69 slices_ContainsFunc_int64_int64_2.c (slices_ContainsFunc_int64_int64_2.s k) slices_ContainsFunc_int64_int64_2.L x := by kernel_rfl
theorem slices_ContainsFunc_int64_int64_2.sound : ∀ k, Sound Try.prog 69 (slices_ContainsFunc_int64_int64_2.s k) := sound_of mixed tab_ok (f := 69) (fn := Try.f69) (c := slices_ContainsFunc_int64_int64_2.c) (by kernel_rfl) (by kernel_rfl) (by kernel_rfl) ⟨[⟨false, [.lst (.int .i64)]⟩, ⟨false, [.fn 97 [(0, 0)]]⟩], [(0, .cbox [.int .i64])], false, [⟨false, [.bool]⟩], [], []⟩ (by kernel_rfl) (by kernel_rfl) (fun k => (slices_ContainsFunc_int64_int64_2.s k).pf) slices_ContainsFunc_int64_int64_2.E (fun k => (EntsOK.cons (slices_IndexFunc_int64_int64_2.sound k) EntsOK.nil)) (fun k => slices_ContainsFunc_int64_int64_2.L) (fun k => trivial) trivial (fun k => trivial) slices_ContainsFunc_int64_int64_2.eq
end
end Go.Proofs.Ytkfehogikjcgkaa.V
namespace Go.Proofs.Ytkfehogikjcgkaa.V
open Go
set_option linter.unusedVariables false
noncomputable section
/-! ### impl.isFunc$2: function 96 -/
abbrev impl_isFunc_2.R := (((Bool × Unit) × Unit) × Unit)
def impl_isFunc_2.f (k : Nat) (a0 : tPhiD) (a1 : Int) : Option impl_isFunc_2.R := Option.bind (impl_WidthOk.f k a0.1) fun r1 => bif !r1.1.1.1 then (some (((true, ()), ()), ())) else (bif decide (10 < ((List.length a0.2.1 : Nat) : Int)) then (some (((true, ()), ()), ())) else (Option.bind (slices_ContainsFunc_int64_int64_2.f k a0.2.1 a1) fun r2 => some (((r2.1.1.1, ()), ()), ())))
def impl_isFunc_2.s (k : Nat) : FS := ⟨[⟨true, [.int .i64, .lst (.int .i64)]⟩, ⟨false, [.ptr 0 0]⟩], [(0, .cbox [.int .i64])], false, [⟨false, [.bool]⟩], [], [], fun x => impl_isFunc_2.f k x.1.1 x.2.1.1⟩
def impl_isFunc_2.E (k : Nat) : Ents := [(⟨93, []⟩, impl_WidthOk.s k), (⟨69, [97]⟩, slices_ContainsFunc_int64_int64_2.s k)]
def impl_isFunc_2.L : List (LS impl_isFunc_2.R) := []
def impl_isFunc_2.c : Code := Try.f96.body.getD .skip
theorem impl_isFunc_2.eq (k : Nat) (x) : (impl_isFunc_2.s k).pf x = execF tab (impl_isFunc_2.E k) Try.f96 impl_isFunc_2.c (impl_isFunc_2.s k) impl_isFunc_2.L x := by kernel_rfl
theorem impl_isFunc_2.sound : ∀ k, Sound Try.prog 96 (impl_isFunc_2.s k) := sound_of mixed tab_ok (f := 96) (fn := Try.f96) (c := impl_isFunc_2.c) (by kernel_rfl) (by kernel_rfl) (by kernel_rfl) ⟨[⟨true, [.int .i64, .lst (.int .i64)]⟩, ⟨false, [.ptr 0 0]⟩], [(0, .cbox [.int .i64])], false, [⟨false, [.bool]⟩], [], []⟩ (by kernel_rfl) (by kernel_rfl) (fun k => (impl_isFunc_2.s k).pf) impl_isFunc_2.E (fun k => (EntsOK.cons (impl_WidthOk.sound k) (EntsOK.cons (slices_ContainsFunc_int64_int64_2.sound k) EntsOK.nil))) (fun k => impl_isFunc_2.L) (fun k => trivial) trivial (fun k => trivial) impl_isFunc_2.eq
end
end Go.Proofs.Ytkfehogikjcgkaa.V
namespace Go.Proofs.Ytkfehogikjcgkaa.V
open Go
set_option linter.unusedVariables false
noncomputable section
/-! ### slices.IndexFunc[[]impl.Phi,impl.Phi]: function 140 -/
abbrev slices_IndexFunc_impl_Phi_impl_Phi.R := (((Int × Unit) × Unit) × Unit)
abbrev slices_IndexFunc_impl_Phi_impl_Phi.T0 : Type := (List tPhiD) → Int → Int → Int → Option slices_IndexFunc_impl_Phi_impl_Phi.R
def slices_IndexFunc_impl_Phi_impl_Phi.l0_ (k : Nat) (l0 : slices_IndexFunc_impl_Phi_impl_Phi.T0) (a0 : List tPhiD) (a1 : Int) (a2 : Int) (a3 : Int) : Option slices_IndexFunc_impl_Phi_impl_Phi.R := bif decide (a2 < a1) then (bif (decide (0 ≤ a2)) && (decide (a2 < ((List.length a0 : Nat) : Int))) then (Option.bind (impl_isFunc_2.f k (List.getD a0 (Int.toNat a2) tPhiZ) a3) fun r1 => bif r1.1.1.1 then (some (((a2, ()), ()), ())) else (l0 a0 a1 (IntKind.wrap .i64 (a2 + 1)) a3)) else none) else (some (((-1, ()), ()), ()))
def slices_IndexFunc_impl_Phi_impl_Phi.all : Nat → (slices_IndexFunc_impl_Phi_impl_Phi.T0) × Unit
  | 0 => (fun _ _ _ _ => none, ())
  | k + 1 => (slices_IndexFunc_impl_Phi_impl_Phi.l0_ k (slices_IndexFunc_impl_Phi_impl_Phi.all k).1, ())
def slices_IndexFunc_impl_Phi_impl_Phi.l0 (k : Nat) : slices_IndexFunc_impl_Phi_impl_Phi.T0 := (slices_IndexFunc_impl_Phi_impl_Phi.all k).1
def slices_IndexFunc_impl_Phi_impl_Phi.f (k : Nat) (a0 : List tPhiD) (a1 : Int) : Option slices_IndexFunc_impl_Phi_impl_Phi.R := slices_IndexFunc_impl_Phi_impl_Phi.l0 k a0 ((List.length a0 : Nat) : Int) 0 a1
def slices_IndexFunc_impl_Phi_impl_Phi.s (k : Nat) : FS := ⟨[⟨false, [.lst tPhi]⟩, ⟨false, [.fn 96 [(0, 0)]]⟩], [(0, .cbox [.int .i64])], false, [⟨false, [.int .i64]⟩], [], [], fun x => slices_IndexFunc_impl_Phi_impl_Phi.f k x.1.1.1 x.2.1.1⟩
def slices_IndexFunc_impl_Phi_impl_Phi.E (k : Nat) : Ents := [(⟨96, []⟩, impl_isFunc_2.s k)]
def slices_IndexFunc_impl_Phi_impl_Phi.L0 (l : slices_IndexFunc_impl_Phi_impl_Phi.T0) : LS slices_IndexFunc_impl_Phi_impl_Phi.R := ⟨[], [(0, ⟨false, [.lst tPhi]⟩), (1, ⟨false, [.fn 96 [(0, 0)]]⟩), (7, ⟨false, [.int .i64]⟩), (8, ⟨false, [.int .i64]⟩)], [(0, .cbox [.int .i64])], fun x => l x.1.1.1 x.1.2.2.1.1 x.1.2.2.2.1.1 x.2.1.1⟩
def slices_IndexFunc_impl_Phi_impl_Phi.L (l0 : slices_IndexFunc_impl_Phi_impl_Phi.T0) : List (LS slices_IndexFunc_impl_Phi_impl_Phi.R) := [slices_IndexFunc_impl_Phi_impl_Phi.L0 l0]
def slices_IndexFunc_impl_Phi_impl_Phi.c : Code := Try.f140.body.getD .skip
theorem slices_IndexFunc_impl_Phi_impl_Phi.eq (k : Nat) (x) : (slices_IndexFunc_impl_Phi_impl_Phi.s k).pf x = execF tab (slices_IndexFunc_impl_Phi_impl_Phi.E k) Try.f140 slices_IndexFunc_impl_Phi_impl_Phi.c (slices_IndexFunc_impl_Phi_impl_Phi.s k) (slices_IndexFunc_impl_Phi_impl_Phi.L (slices_IndexFunc_impl_Phi_impl_Phi.l0 k)) x := by kernel_rfl
theorem slices_IndexFunc_impl_Phi_impl_Phi.r0 (l0 : slices_IndexFunc_impl_Phi_impl_Phi.T0) (k : Nat) (x) : slices_IndexFunc_impl_Phi_impl_Phi.l0_ k l0 x.1.1.1 x.1.2.2.1.1 x.1.2.2.2.1.1 x.2.1.1 = roundOf tab (slices_IndexFunc_impl_Phi_impl_Phi.E k) (slices_IndexFunc_impl_Phi_impl_Phi.L l0) slices_IndexFunc_impl_Phi_impl_Phi.c (fin tab Try.f140 (slices_IndexFunc_impl_Phi_impl_Phi.s k)) 0 (slices_IndexFunc_impl_Phi_impl_Phi.L0 l0) x := by kernel_rfl
theorem slices_IndexFunc_impl_Phi_impl_Phi.sound : ∀ k, Sound Try.prog 140 (slices_IndexFunc_impl_Phi_impl_Phi.s k) := sound_of mixed tab_ok (f := 140) (fn := Try.f140) (c := slices_IndexFunc_impl_Phi_impl_Phi.c) (by kernel_rfl) (by kernel_rfl) (by kernel_rfl) ⟨[⟨false, [.lst tPhi]⟩, ⟨false, [.fn 96 [(0, 0)]]⟩], [(0, .cbox [.int .i64])], false, [⟨false, [.int .i64]⟩], [], []⟩ (by kernel_rfl) (by kernel_rfl) (fun k => (slices_IndexFunc_impl_Phi_impl_Phi.s k).pf) slices_IndexFunc_impl_Phi_impl_Phi.E (fun k => (EntsOK.cons (impl_isFunc_2.sound k) EntsOK.nil)) (fun k => slices_IndexFunc_impl_Phi_impl_Phi.L (slices_IndexFunc_impl_Phi_impl_Phi.l0 k)) (fun k => ⟨rfl, trivial⟩) ⟨fun _ => rfl, trivial⟩ (fun k => ⟨⟨(slices_IndexFunc_impl_Phi_impl_Phi.L0 (slices_IndexFunc_impl_Phi_impl_Phi.l0 (k + 1))).l, rfl, fun x => slices_IndexFunc_impl_Phi_impl_Phi.r0 (slices_IndexFunc_impl_Phi_impl_Phi.l0 k) k x⟩, trivial⟩) slices_IndexFunc_impl_Phi_impl_Phi.eq
end
end Go.Proofs.Ytkfehogikjcgkaa.V
namespace Go.Proofs.Ytkfehogikjcgkaa.V
open Go
set_option linter.unusedVariables false
noncomputable section
/-! ### slices.ContainsFunc[[]impl.Phi,impl.Phi]: function 95 -/
abbrev slices_ContainsFunc_impl_Phi_impl_Phi.R := (((Bool × Unit) × Unit) × Unit)
def slices_ContainsFunc_impl_Phi_impl_Phi.f (k : Nat) (a0 : List tPhiD) (a1 : Int) : Option slices_ContainsFunc_impl_Phi_impl_Phi.R := Option.bind (slices_IndexFunc_impl_Phi_impl_Phi.f k a0 a1) fun r1 => some (((decide (0 ≤ r1.1.1.1), ()), ()), ())
def slices_ContainsFunc_impl_Phi_impl_Phi.s (k : Nat) : FS := ⟨[⟨false, [.lst tPhi]⟩, ⟨false, [.fn 96 [(0, 0)]]⟩], [(0, .cbox [.int .i64])], false, [⟨false, [.bool]⟩], [], [], fun x => slices_ContainsFunc_impl_Phi_impl_Phi.f k x.1.1.1 x.2.1.1⟩
def slices_ContainsFunc_impl_Phi_impl_Phi.E (k : Nat) : Ents := [(⟨140, [96]⟩, slices_IndexFunc_impl_Phi_impl_Phi.s k)]
def slices_ContainsFunc_impl_Phi_impl_Phi.L : List (LS slices_ContainsFunc_impl_Phi_impl_Phi.R) := []
def slices_ContainsFunc_impl_Phi_impl_Phi.c : Code := Try.f95.body.getD .skip
theorem slices_ContainsFunc_impl_Phi_impl_Phi.eq (k : Nat) (x) : (slices_ContainsFunc_impl_Phi_impl_Phi.s k).pf x = execF tab (slices_ContainsFunc_impl_Phi_impl_Phi.E k) Try.f95 slices_ContainsFunc_impl_Phi_impl_Phi.c (slices_ContainsFunc_impl_Phi_impl_Phi.s k) slices_ContainsFunc_impl_Phi_impl_Phi.L x := by kernel_rfl
theorem slices_ContainsFunc_impl_Phi_impl_Phi.sound : ∀ k, Sound Try.prog 95 (slices_ContainsFunc_impl_Phi_impl_Phi.s k) := sound_of mixed tab_ok (f := 95) (fn := Try.f95) (c := slices_ContainsFunc_impl_Phi_impl_Phi.c) (by kernel_rfl) (by kernel_rfl) (by kernel_rfl) ⟨[⟨false, [.lst tPhi]⟩, ⟨false, [.fn 96 [(0, 0)]]⟩], [(0, .cbox [.int .i64])], false, [⟨false, [.bool]⟩], [], []⟩ (by kernel_rfl) (by kernel_rfl) (fun k => (slices_ContainsFunc_impl_Phi_impl_Phi.s k).pf) slices_ContainsFunc_impl_Phi_impl_Phi.E (fun k => (EntsOK.cons (slices_IndexFunc_impl_Phi_impl_Phi.sound k) EntsOK.nil)) (fun k => slices_ContainsFunc_impl_Phi_impl_Phi.L) (fun k => trivial) trivial (fun k => trivial) slices_ContainsFunc_impl_Phi_impl_Phi.eq
end
end Go.Proofs.Ytkfehogikjcgkaa.V
namespace Go.Proofs.Ytkfehogikjcgkaa.V
open Go
set_option linter.unusedVariables false
noncomputable section
/-! ### impl.isBinary: function 170 -/
abbrev impl_isBinary.R := (((Bool × Unit) × Unit) × Unit)
def impl_isBinary.f (k : Nat) (a0 : Int) : Option impl_isBinary.R := Option.bind (impl_within.f k a0 1 17) fun r1 => some (((r1.1.1.1, ()), ()), ())
def impl_isBinary.s (k : Nat) : FS := ⟨[⟨false, [.int .i64]⟩], [], false, [⟨false, [.bool]⟩], [], [], fun x => impl_isBinary.f k x.1.1.1⟩
def impl_isBinary.E (k : Nat) : Ents := [(⟨55, []⟩, impl_within.s k)]
def impl_isBinary.L : List (LS impl_isBinary.R) := []
def impl_isBinary.c : Code := Try.f170.body.getD .skip
theorem impl_isBinary.eq (k : Nat) (x) : (impl_isBinary.s k).pf x = execF tab (impl_isBinary.E k) Try.f170 impl_isBinary.c (impl_isBinary.s k) impl_isBinary.L x := by kernel_rfl
theorem impl_isBinary.sound : ∀ k, Sound Try.prog 170 (impl_isBinary.s k) := sound_of mixed tab_ok (f := 170) (fn := Try.f170) (c := impl_isBinary.c) (by kernel_rfl) (by kernel_rfl) (by kernel_rfl) ⟨[⟨false, [.int .i64]⟩], [], false, [⟨false, [.bool]⟩], [], []⟩ (by kernel_rfl) (by kernel_rfl) (fun k => (impl_isBinary.s k).pf) impl_isBinary.E (fun k => (EntsOK.cons (impl_within.sound k) EntsOK.nil)) (fun k => impl_isBinary.L) (fun k => trivial) trivial (fun k => trivial) impl_isBinary.eq
end
end Go.Proofs.Ytkfehogikjcgkaa.V
namespace Go.Proofs.Ytkfehogikjcgkaa.V
open Go
set_option linter.unusedVariables false
noncomputable section
/-! ### impl.isCast: function 171 -/
abbrev impl_isCast.R := (((Bool × Unit) × Unit) × Unit)
def impl_isCast.f (k : Nat) (a0 : Int) : Option impl_isCast.R := Option.bind (impl_within.f k a0 18 20) fun r1 => some (((r1.1.1.1, ()), ()), ())
def impl_isCast.s (k : Nat) : FS := ⟨[⟨false, [.int .i64]⟩], [], false, [⟨false, [.bool]⟩], [], [], fun x => impl_isCast.f k x.1.1.1⟩
def impl_isCast.E (k : Nat) : Ents := [(⟨55, []⟩, impl_within.s k)]
def impl_isCast.L : List (LS impl_isCast.R) := []
def impl_isCast.c : Code := Try.f171.body.getD .skip
theorem impl_isCast.eq (k : Nat) (x) : (impl_isCast.s k).pf x = execF tab (impl_isCast.E k) Try.f171 impl_isCast.c (impl_isCast.s k) impl_isCast.L x := by kernel_rfl
theorem impl_isCast.sound : ∀ k, Sound Try.prog 171 (impl_isCast.s k) := sound_of mixed tab_ok (f := 171) (fn := Try.f171) (c := impl_isCast.c) (by kernel_rfl) (by kernel_rfl) (by kernel_rfl) ⟨[⟨false, [.int .i64]⟩], [], false, [⟨false, [.bool]⟩], [], []⟩ (by kernel_rfl) (by kernel_rfl) (fun k => (impl_isCast.s k).pf) impl_isCast.E (fun k => (EntsOK.cons (impl_within.sound k) EntsOK.nil)) (fun k => impl_isCast.L) (fun k => trivial) trivial (fun k => trivial) impl_isCast.eq
end
end Go.Proofs.Ytkfehogikjcgkaa.V
namespace Go.Proofs.Ytkfehogikjcgkaa.V
open Go
set_option linter.unusedVariables false
noncomputable section
/-! ### impl.OperandsOf: function 142 -/
abbrev impl_OperandsOf.R := (((Unit × Unit) × Unit) × ((List Int) × Unit))
def impl_OperandsOf.f (k : Nat) (a0 : tInstD) : Option impl_OperandsOf.R := Option.bind (impl_isBinary.f k a0.1) fun r1 => bif r1.1.1.1 then (some ((((), ()), ()), ([a0.2.2.1, a0.2.2.2.1], ()))) else (bif decide (a0.1 = 24) then (some ((((), ()), ()), ([a0.2.2.1, a0.2.2.2.1], ()))) else (Option.bind (impl_isCast.f k a0.1) fun r2 => bif r2.1.1.1 then (some ((((), ()), ()), ([a0.2.2.1], ()))) else (bif decide (a0.1 = 23) then (some ((((), ()), ()), ([a0.2.2.1], ()))) else (bif decide (a0.1 = 25) then (some ((((), ()), ()), ([a0.2.2.1], ()))) else (bif decide (a0.1 = 27) then (some ((((), ()), ()), ([a0.2.2.1], ()))) else (bif decide (a0.1 = 22) then (some ((((), ()), ()), ([a0.2.2.1, a0.2.2.2.1, a0.2.2.2.2.1], ()))) else (bif decide (a0.1 = 26) then (Option.bind (slices_Clone_int64_int64.f k a0.2.2.2.2.2.2.1) fun r3 => some ((((), ()), ()), (r3.2.1, ()))) else (some ((((), ()), ()), (([] : List Int), ()))))))))))
def impl_OperandsOf.s (k : Nat) : FS := ⟨[⟨true, [.int .i64, .int .i64, .int .i64, .int .i64, .int .i64, .int .i64, .lst (.int .i64)]⟩], [], false, [⟨false, [.own 100]⟩], [(100, .row true (.int .i64))], [], fun x => impl_OperandsOf.f k x.1.1⟩
def impl_OperandsOf.E (k : Nat) : Ents := [(⟨170, []⟩, impl_isBinary.s k), (⟨171, []⟩, impl_isCast.s k), (⟨160, []⟩, slices_Clone_int64_int64.s k)]
def impl_OperandsOf.L : List (LS impl_OperandsOf.R) := []
def impl_OperandsOf.c : Code := Try.f142.body.getD .skip
theorem impl_OperandsOf.eq (k : Nat) (x) : (impl_OperandsOf.s k).pf x = execF tab (impl_OperandsOf.E k) Try.f142 impl_OperandsOf.c (impl_OperandsOf.s k) impl_OperandsOf.L x := by kernel_rfl
theorem impl_OperandsOf.sound : ∀ k, Sound Try.prog 142 (impl_OperandsOf.s k) := sound_of mixed tab_ok (f := 142) (fn := Try.f142) (c := impl_OperandsOf.c) (by kernel_rfl) (by kernel_rfl) (by kernel_rfl) ⟨[⟨true, [.int .i64, .int .i64, .int .i64, .int .i64, .int .i64, .int .i64, .lst (.int .i64)]⟩], [], false, [⟨false, [.own 100]⟩], [(100, .row true (.int .i64))], []⟩ (by kernel_rfl) (by kernel_rfl) (fun k => (impl_OperandsOf.s k).pf) impl_OperandsOf.E (fun k => (EntsOK.cons (impl_isBinary.sound k) (EntsOK.cons (impl_isCast.sound k) (EntsOK.cons (slices_Clone_int64_int64.sound k) EntsOK.nil)))) (fun k => impl_OperandsOf.L) (fun k => trivial) trivial (fun k => trivial) impl_OperandsOf.eq
end
end Go.Proofs.Ytkfehogikjcgkaa.V
namespace Go.Proofs.Ytkfehogikjcgkaa.V
open Go
set_option linter.unusedVariables false
noncomputable section
/-! ### impl.isInst$1: function 143 -/
abbrev impl_isInst_1.R := (((Bool × Unit) × Unit) × Unit)
def impl_isInst_1.f (k : Nat) (a0 : Int) (a1 : Int) : Option impl_isInst_1.R := Option.bind (impl_within.f k a0 0 (IntKind.wrap .i64 (a1 - 1))) fun r1 => some (((!r1.1.1.1, ()), ()), ())
def impl_isInst_1.s (k : Nat) : FS := ⟨[⟨false, [.int .i64]⟩, ⟨false, [.ptr 0 0]⟩], [(0, .cbox [.int .i64])], false, [⟨false, [.bool]⟩], [], [], fun x => impl_isInst_1.f k x.1.1.1 x.2.1.1⟩
def impl_isInst_1.E (k : Nat) : Ents := [(⟨55, []⟩, impl_within.s k)]
def impl_isInst_1.L : List (LS impl_isInst_1.R) := []
def impl_isInst_1.c : Code := Try.f143.body.getD .skip
theorem impl_isInst_1.eq (k : Nat) (x) : (impl_isInst_1.s k).pf x = execF tab (impl_isInst_1.E k) Try.f143 impl_isInst_1.c (impl_isInst_1.s k) impl_isInst_1.L x := by kernel_rfl
theorem impl_isInst_1.sound : ∀ k, Sound Try.prog 143 (impl_isInst_1.s k) := sound_of mixed tab_ok (f := 143) (fn := Try.f143) (c := impl_isInst_1.c) (by kernel_rfl) (by kernel_rfl) (by kernel_rfl) ⟨[⟨false, [.int .i64]⟩, ⟨false, [.ptr 0 0]⟩], [(0, .cbox [.int .i64])], false, [⟨false, [.bool]⟩], [], []⟩ (by kernel_rfl) (by kernel_rfl) (fun k => (impl_isInst_1.s k).pf) impl_isInst_1.E (fun k => (EntsOK.cons (impl_within.sound k) EntsOK.nil)) (fun k => impl_isInst_1.L) (fun k => trivial) trivial (fun k => trivial) impl_isInst_1.eq
end
end Go.Proofs.Ytkfehogikjcgkaa.V
namespace Go.Proofs.Ytkfehogikjcgkaa.V
open Go
set_option linter.unusedVariables false
noncomputable section
/-! ### slices.IndexFunc[[]int64,int64]: function 123 -/
abbrev slices_IndexFunc_int64_int64_3.R := (((Int × Unit) × Unit) × Unit)
abbrev slices_IndexFunc_int64_int64_3.T0 : Type := (List Int) → Int → Int → Int → Option slices_IndexFunc_int64_int64_3.R
def slices_IndexFunc_int64_int64_3.l0_ (k : Nat) (l0 : slices_IndexFunc_int64_int64_3.T0) (a0 : List Int) (a1 : Int) (a2 : Int) (a3 : Int) : Option slices_IndexFunc_int64_int64_3.R := bif decide (a2 < a1) then (bif (decide (0 ≤ a2)) && (decide (a2 < ((List.length a0 : Nat) : Int))) then (Option.bind (impl_isInst_1.f k (List.getD a0 (Int.toNat a2) 0) a3) fun r1 => bif r1.1.1.1 then (some (((a2, ()), ()), ())) else (l0 a0 a1 (IntKind.wrap .i64 (a2 + 1)) a3)) else none) else (some (((-1, ()), ()), ()))
def slices_IndexFunc_int64_int64_3.all : Nat → (slices_IndexFunc_int64_int64_3.T0) × Unit
  | 0 => (fun _ _ _ _ => none, ())
  | k + 1 => (slices_IndexFunc_int64_int64_3.l0_ k (slices_IndexFunc_int64_int64_3.all k).1, ())
def slices_IndexFunc_int64_int64_3.l0 (k : Nat) : slices_IndexFunc_int64_int64_3.T0 := (slices_IndexFunc_int64_int64_3.all k).1
def slices_IndexFunc_int64_int64_3.f (k : Nat) (a0 : List Int) (a1 : Int) : Option slices_IndexFunc_int64_int64_3.R := slices_IndexFunc_int64_int64_3.l0 k a0 ((List.length a0 : Nat) : Int) 0 a1
def slices_IndexFunc_int64_int64_3.s (k : Nat) : FS := ⟨[⟨false, [.lst (.int .i64)]⟩, ⟨false, [.fn 143 [(0, 0)]]⟩], [(0, .cbox [.int .i64])], false, [⟨false, [.int .i64]⟩], [], [], fun x => slices_IndexFunc_int64_int64_3.f k x.1.1.1 x.2.1.1⟩
def slices_IndexFunc_int64_int64_3.E (k : Nat) : Ents := [(⟨143, []⟩, impl_isInst_1.s k)]
def slices_IndexFunc_int64_int64_3.L0 (l : slices_IndexFunc_int64_int64_3.T0) : LS slices_IndexFunc_int64_int64_3.R := ⟨[], [(0, ⟨false, [.lst (.int .i64)]⟩), (1, ⟨false, [.fn 143 [(0, 0)]]⟩), (7, ⟨false, [.int .i64]⟩), (8, ⟨false, [.int .i64]⟩)], [(0, .cbox [.int .i64])], fun x => l x.1.1.1 x.1.2.2.1.1 x.1.2.2.2.1.1 x.2.1.1⟩
def slices_IndexFunc_int64_int64_3.L (l0 : slices_IndexFunc_int64_int64_3.T0) : List (LS slices_IndexFunc_int64_int64_3.R) := [slices_IndexFunc_int64_int64_3.L0 l0]
def slices_IndexFunc_int64_int64_3.c : Code := Try.f123.body.getD .skip
theorem slices_IndexFunc_int64_int64_3.eq (k : Nat) (x) : (slices_IndexFunc_int64_int64_3.s k).pf x = execF tab (slices_IndexFunc_int64_int64_3.E k) Try.f123 slices_IndexFunc_int64_int64_3.c (slices_IndexFunc_int64_int64_3.s k) (slices_IndexFunc_int64_int64_3.L (slices_IndexFunc_int64_int64_3.l0 k)) x := by kernel_rfl
theorem slices_IndexFunc_int64_int64_3.r0 (l0 : slices_IndexFunc_int64_int64_3.T0) (k : Nat) (x) : slices_IndexFunc_int64_int64_3.l0_ k l0 x.1.1.1 x.1.2.2.1.1 x.1.2.2.2.1.1 x.2.1.1 = roundOf tab (slices_IndexFunc_int64_int64_3.E k) (slices_IndexFunc_int64_int64_3.L l0) slices_IndexFunc_int64_int64_3.c (fin tab Try.f123 (slices_IndexFunc_int64_int64_3.s k)) 0 (slices_IndexFunc_int64_int64_3.L0 l0) x := by kernel_rfl
theorem slices_IndexFunc_int64_int64_3.sound : ∀ k, Sound Try.prog 123 (slices_IndexFunc_int64_int64_3.s k) := sound_of mixed tab_ok (f := 123) (fn := Try.f123) (c := slices_IndexFunc_int64_int64_3.c) (by kernel_rfl) (by kernel_rfl) (by kernel_rfl) ⟨[⟨false, [.lst (.int .i64)]⟩, ⟨false, [.fn 143 [(0, 0)]]⟩], [(0, .cbox [.int .i64])], false, [⟨false, [.int .i64]⟩], [], []⟩ (by kernel_rfl) (by kernel_rfl) (fun k => (slices_IndexFunc_int64_int64_3.s k).pf) slices_IndexFunc_int64_int64_3.E (fun k => (EntsOK.cons (impl_isInst_1.sound k) EntsOK.nil)) (fun k => slices_IndexFunc_int64_int64_3.L (slices_IndexFunc_int64_int64_3.l0 k)) (fun k => ⟨rfl, trivial⟩) ⟨fun _ => rfl, trivial⟩ (fun k => ⟨⟨(slices_IndexFunc_int64_int64_3.L0 (slices_IndexFunc_int64_int64_3.l0 (k + 1))).l, rfl, fun x => slices_IndexFunc_int64_int64_3.r0 (slices_IndexFunc_int64_int64_3.l0 k) k x⟩, trivial⟩) slices_IndexFunc_int64_int64_3.eq
end
end Go.Proofs.Ytkfehogikjcgkaa.V
namespace Go.Proofs.Ytkfehogikjcgkaa.V
open Go
set_option linter.unusedVariables false
noncomputable section
/-! ### slices.ContainsFunc[[]int64,int64]: function 69 -/
abbrev slices_ContainsFunc_int64_int64_3.R := (((Bool × Unit) × Unit) × Unit)
def slices_ContainsFunc_int64_int64_3.f (k : Nat) (a0 : List Int) (a1 : Int) : Option slices_ContainsFunc_int64_int64_3.R := Option.bind (slices_IndexFunc_int64_int64_3.f k a0 a1) fun r1 => some (((decide (0 ≤ r1.1.1.1), ()), ()), ())
def slices_ContainsFunc_int64_int64_3.s (k : Nat) : FS := ⟨[⟨false, [.lst (.int .i64)]⟩, ⟨false, [.fn 143 [(0, 0)]]⟩], [(0, .cbox [.int .i64])], false, [⟨false, [.bool]⟩], [], [], fun x => slices_ContainsFunc_int64_int64_3.f k x.1.1.1 x.2.1.1⟩
def slices_ContainsFunc_int64_int64_3.E (k : Nat) : Ents := [(⟨123, [143]⟩, slices_IndexFunc_int64_int64_3.s k)]
def slices_ContainsFunc_int64_int64_3.L : List (LS slices_ContainsFunc_int64_int64_3.R) := []
def slices_ContainsFunc_int64_int64_3.c : Code := Try.f69.body.getD .skip
theorem slices_ContainsFunc_int64_int64_3.eq (k : Nat) (x) : (slices_ContainsFunc_int64_int64_3.s k).pf x = execF tab (slices_ContainsFunc_int64_int64_3.E k) Try.f69 slices_ContainsFunc_int64_int64_3.c (slices_ContainsFunc_int64_int64_3.s k) slices_ContainsFunc_int64_int64_3.L x := by kernel_rfl
theorem slices_ContainsFunc_int64_int64_3.sound : ∀ k, Sound Try.prog 69 (slices_ContainsFunc_int64_int64_3.s k) := sound_of mixed tab_ok (f := 69) (fn := Try.f69) (c := slices_ContainsFunc_int64_int64_3.c) (by kernel_rfl) (by kernel_rfl) (by kernel_rfl) ⟨[⟨false, [.lst (.int .i64)]⟩, ⟨false, [.fn 143 [(0, 0)]]⟩], [(0, .cbox [.int .i64])], false, [⟨false, [.bool]⟩], [], []⟩ (by kernel_rfl) (by kernel_rfl) (fun k => (slices_ContainsFunc_int64_int64_3.s k).pf) slices_ContainsFunc_int64_int64_3.E (fun k => (EntsOK.cons (slices_IndexFunc_int64_int64_3.sound k) EntsOK.nil)) (fun k => slices_ContainsFunc_int64_int64_3.L) (fun k => trivial) trivial (fun k => trivial) slices_ContainsFunc_int64_int64_3.eq
end
end Go.Proofs.Ytkfehogikjcgkaa.V
namespace Go.Proofs.Ytkfehogikjcgkaa.V
open Go
set_option linter.unusedVariables false
noncomputable section
/-! ### impl.isInst$2: function 144 -/
abbrev impl_isInst_2.R := (((Bool × Unit) × Unit) × Unit)
def impl_isInst_2.f (k : Nat) (a0 : Int) : Option impl_isInst_2.R := some (((!decide (a0 = 0), ()), ()), ())
def impl_isInst_2.s (k : Nat) : FS := ⟨[⟨false, [.int .i64]⟩], [], false, [⟨false, [.bool]⟩], [], [], fun x => impl_isInst_2.f k x.1.1.1⟩
def impl_isInst_2.E (k : Nat) : Ents := []
def impl_isInst_2.L : List (LS impl_isInst_2.R) := []
def impl_isInst_2.c : Code := Try.f144.body.getD .skip
theorem impl_isInst_2.eq (k : Nat) (x) : (impl_isInst_2.s k).pf x = execF tab (impl_isInst_2.E k) Try.f144 impl_isInst_2.c (impl_isInst_2.s k) impl_isInst_2.L x := by kernel_rfl
theorem impl_isInst_2.sound : ∀ k, Sound Try.prog 144 (impl_isInst_2.s k) := sound_of mixed tab_ok (f := 144) (fn := Try.f144) (c := impl_isInst_2.c) (by kernel_rfl) (by kernel_rfl) (by kernel_rfl) ⟨[⟨false, [.int .i64]⟩], [], false, [⟨false, [.bool]⟩], [], []⟩ (by kernel_rfl) (by kernel_rfl) (fun k => (impl_isInst_2.s k).pf) impl_isInst_2.E (fun k => EntsOK.nil) (fun k => impl_isInst_2.L) (fun k => trivial) trivial (fun k => trivial) impl_isInst_2.eq
end
end Go.Proofs.Ytkfehogikjcgkaa.V
namespace Go.Proofs.Ytkfehogikjcgkaa.V
open Go
set_option linter.unusedVariables false
noncomputable section
/-! ### slices.IndexFunc[[]int64,int64]: function 123 -/
abbrev slices_IndexFunc_int64_int64_4.R := (((Int × Unit) × Unit) × Unit)
abbrev slices_IndexFunc_int64_int64_4.T0 : Type := (List Int) → Int → Int → Option slices_IndexFunc_int64_int64_4.R
def slices_IndexFunc_int64_int64_4.l0_ (k : Nat) (l0 : slices_IndexFunc_int64_int64_4.T0) (a0 : List Int) (a1 : Int) (a2 : Int) : Option slices_IndexFunc_int64_int64_4.R := bif decide (a2 < a1) then (bif (decide (0 ≤ a2)) && (decide (a2 < ((List.length a0 : Nat) : Int))) then (Option.bind (impl_isInst_2.f k (List.getD a0 (Int.toNat a2) 0)) fun r1 => bif r1.1.1.1 then (some (((a2, ()), ()), ())) else (l0 a0 a1 (IntKind.wrap .i64 (a2 + 1)))) else none) else (some (((-1, ()), ()), ()))
def slices_IndexFunc_int64_int64_4.all : Nat → (slices_IndexFunc_int64_int64_4.T0) × Unit
  | 0 => (fun _ _ _ => none, ())
  | k + 1 => (slices_IndexFunc_int64_int64_4.l0_ k (slices_IndexFunc_int64_int64_4.all k).1, ())
def slices_IndexFunc_int64_int64_4.l0 (k : Nat) : slices_IndexFunc_int64_int64_4.T0 := (slices_IndexFunc_int64_int64_4.all k).1
def slices_IndexFunc_int64_int64_4.f (k : Nat) (a0 : List Int) : Option slices_IndexFunc_int64_int64_4.R := slices_IndexFunc_int64_int64_4.l0 k a0 ((List.length a0 : Nat) : Int) 0
def slices_IndexFunc_int64_int64_4.s (k : Nat) : FS := ⟨[⟨false, [.lst (.int .i64)]⟩, ⟨false, [.fn 144 []]⟩], [], false, [⟨false, [.int .i64]⟩], [], [], fun x => slices_IndexFunc_int64_int64_4.f k x.1.1.1⟩
def slices_IndexFunc_int64_int64_4.E (k : Nat) : Ents := [(⟨144, []⟩, impl_isInst_2.s k)]
def slices_IndexFunc_int64_int64_4.L0 (l : slices_IndexFunc_int64_int64_4.T0) : LS slices_IndexFunc_int64_int64_4.R := ⟨[], [(0, ⟨false, [.lst (.int .i64)]⟩), (1, ⟨false, [.fn 144 []]⟩), (7, ⟨false, [.int .i64]⟩), (8, ⟨false, [.int .i64]⟩)], [], fun x => l x.1.1.1 x.1.2.2.1.1 x.1.2.2.2.1.1⟩
def slices_IndexFunc_int64_int64_4.L (l0 : slices_IndexFunc_int64_int64_4.T0) : List (LS slices_IndexFunc_int64_int64_4.R) := [slices_IndexFunc_int64_int64_4.L0 l0]
def slices_IndexFunc_int64_int64_4.c : Code := Try.f123.body.getD .skip
theorem slices_IndexFunc_int64_int64_4.eq (k : Nat) (x) : (slices_IndexFunc_int64_int64_4.s k).pf x = execF tab (slices_IndexFunc_int64_int64_4.E k) Try.f123 slices_IndexFunc_int64_int64_4.c (slices_IndexFunc_int64_int64_4.s k) (slices_IndexFunc_int64_int64_4.L (slices_IndexFunc_int64_int64_4.l0 k)) x := by kernel_rfl
theorem slices_IndexFunc_int64_int64_4.r0 (l0 : slices_IndexFunc_int64_int64_4.T0) (k : Nat) (x) : slices_IndexFunc_int64_int64_4.l0_ k l0 x.1.1.1 x.1.2.2.1.1 x.1.2.2.2.1.1 = roundOf tab (slices_IndexFunc_int64_int64_4.E k) (slices_IndexFunc_int64_int64_4.L l0) slices_IndexFunc_int64_int64_4.c (fin tab Try.f123 (slices_IndexFunc_int64_int64_4.s k)) 0 (slices_IndexFunc_int64_int64_4.L0 l0) x := by kernel_rfl
theorem slices_IndexFunc_int64_int64_4.sound : ∀ k, Sound Try.prog 123 (slices_IndexFunc_int64_int64_4.s k) := sound_of mixed tab_ok (f := 123) (fn := Try.f123) (c := slices_IndexFunc_int64_int64_4.c) (by kernel_rfl) (by kernel_rfl) (by kernel_rfl) ⟨[⟨false, [.lst (.int .i64)]⟩, ⟨false, [.fn 144 []]⟩], [], false, [⟨false, [.int .i64]⟩], [], []⟩ (by kernel_rfl) (by kernel_rfl) (fun k => (slices_IndexFunc_int64_int64_4.s k).pf) slices_IndexFunc_int64_int64_4.E (fun k => (EntsOK.cons (impl_isInst_2.sound k) EntsOK.nil)) (fun k => slices_IndexFunc_int64_int64_4.L (slices_IndexFunc_int64_int64_4.l0 k)) (fun k => ⟨rfl, trivial⟩) ⟨fun _ => rfl, trivial⟩ (fun k => ⟨⟨(slices_IndexFunc_int64_int64_4.L0 (slices_IndexFunc_int64_int64_4.l0 (k + 1))).l, rfl, fun x => slices_IndexFunc_int64_int64_4.r0 (slices_IndexFunc_int64_int64_4.l0 k) k x⟩, trivial⟩) slices_IndexFunc_int64_int64_4.eq
end
end Go.Proofs.Ytkfehogikjcgkaa.V
namespace Go.Proofs.Ytkfehogikjcgkaa.V
open Go
set_option linter.unusedVariables false
noncomputable section
/-! ### slices.ContainsFunc[[]int64,int64]: function 69 -/
abbrev slices_ContainsFunc_int64_int64_4.R := (((Bool × Unit) × Unit) × Unit)
def slices_ContainsFunc_int64_int64_4.f (k : Nat) (a0 : List Int) : Option slices_ContainsFunc_int64_int64_4.R := Option.bind (slices_IndexFunc_int64_int64_4.f k a0) fun r1 => some (((decide (0 ≤ r1.1.1.1), ()), ()), ())
def slices_ContainsFunc_int64_int64_4.s (k : Nat) : FS := ⟨[⟨false, [.lst (.int .i64)]⟩, ⟨false, [.fn 144 []]⟩], [], false, [⟨false, [.bool]⟩], [], [], fun x => slices_ContainsFunc_int64_int64_4.f k x.1.1.1⟩
def slices_ContainsFunc_int64_int64_4.E (k : Nat) : Ents := [(⟨123, [144]⟩, slices_IndexFunc_int64_int64_4.s k)]
def slices_ContainsFunc_int64_int64_4.L : List (LS slices_ContainsFunc_int64_int64_4.R) := []
def slices_ContainsFunc_int64_int64_4.c : Code := Try.f69.body.getD .skip
theorem slices_ContainsFunc_int64_int64_4.eq (k : Nat) (x) : (slices_ContainsFunc_int64_int64_4.s k).pf x = execF tab (slices_ContainsFunc_int64_int64_4.E k) Try.f69 slices_ContainsFunc_int64_int64_4.c (slices_ContainsFunc_int64_int64_4.s k) slices_ContainsFunc_int64_int64_4.L x := by kernel_rfl
theorem slices_ContainsFunc_int64_int64_4.sound : ∀ k, Sound Try.prog 69 (slices_ContainsFunc_int64_int64_4.s k) := sound_of mixed tab_ok (f := 69) (fn := Try.f69) (c := slices_ContainsFunc_int64_int64_4.c) (by kernel_rfl) (by kernel_rfl) (by kernel_rfl) ⟨[⟨false, [.lst (.int .i64)]⟩, ⟨false, [.fn 144 []]⟩], [], false, [⟨false, [.bool]⟩], [], []⟩ (by kernel_rfl) (by kernel_rfl) (fun k => (slices_ContainsFunc_int64_int64_4.s k).pf) slices_ContainsFunc_int64_int64_4.E (fun k => (EntsOK.cons (slices_IndexFunc_int64_int64_4.sound k) EntsOK.nil)) (fun k => slices_ContainsFunc_int64_int64_4.L) (fun k => trivial) trivial (fun k => trivial) slices_ContainsFunc_int64_int64_4.eq
end
end Go.Proofs.Ytkfehogikjcgkaa.V
namespace Go.Proofs.Ytkfehogikjcgkaa.V
open Go
set_option linter.unusedVariables false
noncomputable section
/-! ### impl.isWidth: function 145 -/
abbrev impl_isWidth.R := (((Bool × Unit) × Unit) × Unit)
def impl_isWidth.f (k : Nat) (a0 : tInstD) : Option impl_isWidth.R := bif decide (a0.1 = 24) then (bif decide (a0.1 = 24) then (some (((decide (a0.2.1 = 0), ()), ()), ())) else (bif decide (a0.1 = 23) then (some (((decide (a0.2.1 = 8), ()), ()), ())) else (Option.bind (impl_WidthOk.f k a0.2.1) fun r1 => some (((r1.1.1.1, ()), ()), ())))) else (bif decide (a0.1 = 25) then (some (((decide (a0.2.1 = 0), ()), ()), ())) else (bif decide (a0.1 = 23) then (some (((decide (a0.2.1 = 8), ()), ()), ())) else (Option.bind (impl_WidthOk.f k a0.2.1) fun r2 => some (((r2.1.1.1, ()), ()), ()))))
def impl_isWidth.s (k : Nat) : FS := ⟨[⟨true, [.int .i64, .int .i64, .int .i64, .int .i64, .int .i64, .int .i64, .lst (.int .i64)]⟩], [], false, [⟨false, [.bool]⟩], [], [], fun x => impl_isWidth.f k x.1.1⟩
def impl_isWidth.E (k : Nat) : Ents := [(⟨93, []⟩, impl_WidthOk.s k)]
def impl_isWidth.L : List (LS impl_isWidth.R) := []
def impl_isWidth.c : Code := Try.f145.body.getD .skip
theorem impl_isWidth.eq (k : Nat) (x) : (impl_isWidth.s k).pf x = execF tab (impl_isWidth.E k) Try.f145 impl_isWidth.c (impl_isWidth.s k) impl_isWidth.L x := by kernel_rfl
theorem impl_isWidth.sound : ∀ k, Sound Try.prog 145 (impl_isWidth.s k) := sound_of mixed tab_ok (f := 145) (fn := Try.f145) (c := impl_isWidth.c) (by kernel_rfl) (by kernel_rfl) (by kernel_rfl) ⟨[⟨true, [.int .i64, .int .i64, .int .i64, .int .i64, .int .i64, .int .i64, .lst (.int .i64)]⟩], [], false, [⟨false, [.bool]⟩], [], []⟩ (by kernel_rfl) (by kernel_rfl) (fun k => (impl_isWidth.s k).pf) impl_isWidth.E (fun k => (EntsOK.cons (impl_WidthOk.sound k) EntsOK.nil)) (fun k => impl_isWidth.L) (fun k => trivial) trivial (fun k => trivial) impl_isWidth.eq
end
end Go.Proofs.Ytkfehogikjcgkaa.V
namespace Go.Proofs.Ytkfehogikjcgkaa.V
open Go
set_option linter.unusedVariables false
noncomputable section
/-! ### impl.mask: function 175 -/
abbrev impl_mask.R := (((Int × Unit) × Unit) × Unit)
def impl_mask.f (k : Nat) (a0 : Int) : Option impl_mask.R := bif decide (0 ≤ a0) then (some (((IntKind.wrap .i64 ((V.shl .i64 1 a0) - 1), ()), ()), ())) else none
def impl_mask.s (k : Nat) : FS := ⟨[⟨false, [.int .i64]⟩], [], false, [⟨false, [.int .i64]⟩], [], [], fun x => impl_mask.f k x.1.1.1⟩
def impl_mask.E (k : Nat) : Ents := []
def impl_mask.L : List (LS impl_mask.R) := []
def impl_mask.c : Code := Try.f175.body.getD .skip
theorem impl_mask.eq (k : Nat) (x) : (impl_mask.s k).pf x = execF tab (impl_mask.E k) Try.f175 impl_mask.c (impl_mask.s k) impl_mask.L x := by kernel_rfl
theorem impl_mask.sound : ∀ k, Sound Try.prog 175 (impl_mask.s k) := sound_of mixed tab_ok (f := 175) (fn := Try.f175) (c := impl_mask.c) (by kernel_rfl) (by kernel_rfl) (by kernel_rfl) ⟨[⟨false, [.int .i64]⟩], [], false, [⟨false, [.int .i64]⟩], [], []⟩ (by kernel_rfl) (by kernel_rfl) (fun k => (impl_mask.s k).pf) impl_mask.E (fun k => EntsOK.nil) (fun k => impl_mask.L) (fun k => trivial) trivial (fun k => trivial) impl_mask.eq
end
end Go.Proofs.Ytkfehogikjcgkaa.V
namespace Go.Proofs.Ytkfehogikjcgkaa.V
open Go
set_option linter.unusedVariables false
noncomputable section
/-! ### impl.isValue: function 172 -/
abbrev impl_isValue.R := (((Bool × Unit) × Unit) × Unit)
def impl_isValue.f (k : Nat) (a0 : Int) (a1 : Int) : Option impl_isValue.R := Option.bind (impl_WidthOk.f k a0) fun r1 => bif r1.1.1.1 then (Option.bind (impl_mask.f k a0) fun r2 => Option.bind (impl_within.f k a1 0 r2.1.1.1) fun r3 => some (((r3.1.1.1, ()), ()), ())) else (some (((false, ()), ()), ()))
def impl_isValue.s (k : Nat) : FS := ⟨[⟨false, [.int .i64]⟩, ⟨false, [.int .i64]⟩], [], false, [⟨false, [.bool]⟩], [], [], fun x => impl_isValue.f k x.1.1.1 x.1.2.1.1⟩
def impl_isValue.E (k : Nat) : Ents := [(⟨93, []⟩, impl_WidthOk.s k), (⟨175, []⟩, impl_mask.s k), (⟨55, []⟩, impl_within.s k)]
def impl_isValue.L : List (LS impl_isValue.R) := []
def impl_isValue.c : Code := Try.f172.body.getD .skip
theorem impl_isValue.eq (k : Nat) (x) : (impl_isValue.s k).pf x = execF tab (impl_isValue.E k) Try.f172 impl_isValue.c (impl_isValue.s k) impl_isValue.L x := by kernel_rfl
theorem impl_isValue.sound : ∀ k, Sound Try.prog 172 (impl_isValue.s k) := sound_of mixed tab_ok (f := 172) (fn := Try.f172) (c := impl_isValue.c) (by kernel_rfl) (by kernel_rfl) (by kernel_rfl) ⟨[⟨false, [.int .i64]⟩, ⟨false, [.int .i64]⟩], [], false, [⟨false, [.bool]⟩], [], []⟩ (by kernel_rfl) (by kernel_rfl) (fun k => (impl_isValue.s k).pf) impl_isValue.E (fun k => (EntsOK.cons (impl_WidthOk.sound k) (EntsOK.cons (impl_mask.sound k) (EntsOK.cons (impl_within.sound k) EntsOK.nil)))) (fun k => impl_isValue.L) (fun k => trivial) trivial (fun k => trivial) impl_isValue.eq
end
end Go.Proofs.Ytkfehogikjcgkaa.V
namespace Go.Proofs.Ytkfehogikjcgkaa.V
open Go
set_option linter.unusedVariables false
noncomputable section
/-! ### impl.isImm: function 146 -/
abbrev impl_isImm.R := (((Bool × Unit) × Unit) × Unit)
def impl_isImm.f (k : Nat) (a0 : tInstD) (a1 : Int) : Option impl_isImm.R := bif decide (a0.1 = 21) then (Option.bind (impl_isValue.f k a0.2.1 a0.2.2.2.2.2.1) fun r1 => some (((r1.1.1.1, ()), ()), ())) else (bif decide (a0.1 = 26) then (Option.bind (impl_within.f k a0.2.2.2.2.2.1 0 (IntKind.wrap .i64 (a1 - 1))) fun r2 => some (((r2.1.1.1, ()), ()), ())) else (some (((decide (a0.2.2.2.2.2.1 = 0), ()), ()), ())))
def impl_isImm.s (k : Nat) : FS := ⟨[⟨true, [.int .i64, .int .i64, .int .i64, .int .i64, .int .i64, .int .i64, .lst (.int .i64)]⟩, ⟨false, [.int .i64]⟩], [], false, [⟨false, [.bool]⟩], [], [], fun x => impl_isImm.f k x.1.1 x.1.2.1.1⟩
def impl_isImm.E (k : Nat) : Ents := [(⟨172, []⟩, impl_isValue.s k), (⟨55, []⟩, impl_within.s k)]
def impl_isImm.L : List (LS impl_isImm.R) := []
def impl_isImm.c : Code := Try.f146.body.getD .skip
theorem impl_isImm.eq (k : Nat) (x) : (impl_isImm.s k).pf x = execF tab (impl_isImm.E k) Try.f146 impl_isImm.c (impl_isImm.s k) impl_isImm.L x := by kernel_rfl
theorem impl_isImm.sound : ∀ k, Sound Try.prog 146 (impl_isImm.s k) := sound_of mixed tab_ok (f := 146) (fn := Try.f146) (c := impl_isImm.c) (by kernel_rfl) (by kernel_rfl) (by kernel_rfl) ⟨[⟨true, [.int .i64, .int .i64, .int .i64, .int .i64, .int .i64, .int .i64, .lst (.int .i64)]⟩, ⟨false, [.int .i64]⟩], [], false, [⟨false, [.bool]⟩], [], []⟩ (by kernel_rfl) (by kernel_rfl) (fun k => (impl_isImm.s k).pf) impl_isImm.E (fun k => (EntsOK.cons (impl_isValue.sound k) (EntsOK.cons (impl_within.sound k) EntsOK.nil))) (fun k => impl_isImm.L) (fun k => trivial) trivial (fun k => trivial) impl_isImm.eq
end
end Go.Proofs.Ytkfehogikjcgkaa.V
namespace Go.Proofs.Ytkfehogikjcgkaa.V
open Go
set_option linter.unusedVariables false
noncomputable section
/-! ### impl.isInst: function 100 -/
abbrev impl_isInst.R := (((Bool × Unit) × Unit) × Unit)
def impl_isInst.f (k : Nat) (a0 : tInstD) (a1 : Int) (a2 : Int) : Option impl_isInst.R := Option.bind (impl_within.f k a0.1 1 27) fun r1 => bif !r1.1.1.1 then (some (((false, ()), ()), ())) else (bif decide (4 < ((List.length a0.2.2.2.2.2.2.1 : Nat) : Int)) then (some (((false, ()), ()), ())) else (bif decide (0 < ((List.length a0.2.2.2.2.2.2.1 : Nat) : Int)) then (bif !decide (a0.1 = 26) then (some (((false, ()), ()), ())) else (Option.bind (impl_OperandsOf.f k a0) fun r2 => Option.bind (slices_ContainsFunc_int64_int64_3.f k r2.2.1 a1) fun r3 => bif r3.1.1.1 then (some (((false, ()), ()), ())) else (bif decide (a0.1 = 26) then (bif (decide (0 ≤ 0)) && (decide (0 ≤ ((List.length [a0.2.2.1, a0.2.2.2.1, a0.2.2.2.2.1] : Nat) : Int))) then (Option.bind (slices_ContainsFunc_int64_int64_4.f k [a0.2.2.1, a0.2.2.2.1, a0.2.2.2.2.1]) fun r4 => bif r4.1.1.1 then (some (((false, ()), ()), ())) else (Option.bind (impl_isWidth.f k a0) fun r5 => bif r5.1.1.1 then (Option.bind (impl_isImm.f k a0 a2) fun r6 => some (((r6.1.1.1, ()), ()), ())) else (some (((false, ()), ()), ())))) else none) else (bif (decide (0 ≤ ((List.length r2.2.1 : Nat) : Int))) && (decide (((List.length r2.2.1 : Nat) : Int) ≤ ((List.length [a0.2.2.1, a0.2.2.2.1, a0.2.2.2.2.1] : Nat) : Int))) then (Option.bind (slices_ContainsFunc_int64_int64_4.f k (List.drop (Int.toNat ((List.length r2.2.1 : Nat) : Int)) [a0.2.2.1, a0.2.2.2.1, a0.2.2.2.2.1])) fun r7 => bif r7.1.1.1 then (some (((false, ()), ()), ())) else (Option.bind (impl_isWidth.f k a0) fun r8 => bif r8.1.1.1 then (Option.bind (impl_isImm.f k a0 a2) fun r9 => some (((r9.1.1.1, ()), ()), ())) else (some (((false, ()), ()), ())))) else none)))) else (Option.bind (impl_OperandsOf.f k a0) fun r10 => Option.bind (slices_ContainsFunc_int64_int64_3.f k r10.2.1 a1) fun r11 => bif r11.1.1.1 then (some (((false, ()), ()), ())) else (bif decide (a0.1 = 26) then (bif (decide (0 ≤ 0)) && (decide (0 ≤ ((List.length [a0.2.2.1, a0.2.2.2.1, a0.2.2.2.2.1] : Nat) : Int))) then (Option.bind (slices_ContainsFunc_int64_int64_4.f k [a0.2.2.1, a0.2.2.2.1, a0.2.2.2.2.1]) fun r12 => bif r12.1.1.1 then (some (((false, ()), ()), ())) else (Option.bind (impl_isWidth.f k a0) fun r13 => bif r13.1.1.1 then (Option.bind (impl_isImm.f k a0 a2) fun r14 => some (((r14.1.1.1, ()), ()), ())) else (some (((false, ()), ()), ())))) else none) else (bif (decide (0 ≤ ((List.length r10.2.1 : Nat) : Int))) && (decide (((List.length r10.2.1 : Nat) : Int) ≤ ((List.length [a0.2.2.1, a0.2.2.2.1, a0.2.2.2.2.1] : Nat) : Int))) then (Option.bind (slices_ContainsFunc_int64_int64_4.f k (List.drop (Int.toNat ((List.length r10.2.1 : Nat) : Int)) [a0.2.2.1, a0.2.2.2.1, a0.2.2.2.2.1])) fun r15 => bif r15.1.1.1 then (some (((false, ()), ()), ())) else (Option.bind (impl_isWidth.f k a0) fun r16 => bif r16.1.1.1 then (Option.bind (impl_isImm.f k a0 a2) fun r17 => some (((r17.1.1.1, ()), ()), ())) else (some (((false, ()), ()), ())))) else none)))))
def impl_isInst.s (k : Nat) : FS := ⟨[⟨true, [.int .i64, .int .i64, .int .i64, .int .i64, .int .i64, .int .i64, .lst (.int .i64)]⟩, ⟨false, [.int .i64]⟩, ⟨false, [.int .i64]⟩], [], false, [⟨false, [.bool]⟩], [], [], fun x => impl_isInst.f k x.1.1 x.1.2.1.1 x.1.2.2.1.1⟩
def impl_isInst.E (k : Nat) : Ents := [(⟨55, []⟩, impl_within.s k), (⟨142, []⟩, impl_OperandsOf.s k), (⟨69, [143]⟩, slices_ContainsFunc_int64_int64_3.s k), (⟨69, [144]⟩, slices_ContainsFunc_int64_int64_4.s k), (⟨145, []⟩, impl_isWidth.s k), (⟨146, []⟩, impl_isImm.s k)]
def impl_isInst.L : List (LS impl_isInst.R) := []
def impl_isInst.c : Code := Try.f100.body.getD .skip
theorem impl_isInst.eq (k : Nat) (x) : (impl_isInst.s k).pf x = execF tab (impl_isInst.E k) Try.f100 impl_isInst.c (impl_isInst.s k) impl_isInst.L x := by kernel_rfl
theorem impl_isInst.sound : ∀ k, Sound Try.prog 100 (impl_isInst.s k) := sound_of mixed tab_ok (f := 100) (fn := Try.f100) (c := impl_isInst.c) (by kernel_rfl) (by kernel_rfl) (by kernel_rfl) ⟨[⟨true, [.int .i64, .int .i64, .int .i64, .int .i64, .int .i64, .int .i64, .lst (.int .i64)]⟩, ⟨false, [.int .i64]⟩, ⟨false, [.int .i64]⟩], [], false, [⟨false, [.bool]⟩], [], []⟩ (by kernel_rfl) (by kernel_rfl) (fun k => (impl_isInst.s k).pf) impl_isInst.E (fun k => (EntsOK.cons (impl_within.sound k) (EntsOK.cons (impl_OperandsOf.sound k) (EntsOK.cons (slices_ContainsFunc_int64_int64_3.sound k) (EntsOK.cons (slices_ContainsFunc_int64_int64_4.sound k) (EntsOK.cons (impl_isWidth.sound k) (EntsOK.cons (impl_isImm.sound k) EntsOK.nil))))))) (fun k => impl_isInst.L) (fun k => trivial) trivial (fun k => trivial) impl_isInst.eq
end
end Go.Proofs.Ytkfehogikjcgkaa.V
namespace Go.Proofs.Ytkfehogikjcgkaa.V
open Go
set_option linter.unusedVariables false
noncomputable section
/-! ### impl.isFunc$3: function 99 -/
abbrev impl_isFunc_3.R := (((Bool × Unit) × Unit) × Unit)
def impl_isFunc_3.f (k : Nat) (a0 : tInstD) (a1 : Int) (a2 : Int) : Option impl_isFunc_3.R := Option.bind (impl_isInst.f k a0 a1 a2) fun r1 => some (((!r1.1.1.1, ()), ()), ())
def impl_isFunc_3.s (k : Nat) : FS := ⟨[⟨true, [.int .i64, .int .i64, .int .i64, .int .i64, .int .i64, .int .i64, .lst (.int .i64)]⟩, ⟨false, [.ptr 0 0]⟩, ⟨false, [.ptr 1 0]⟩], [(0, .cbox [.int .i64]), (1, .cbox [.int .i64])], false, [⟨false, [.bool]⟩], [], [], fun x => impl_isFunc_3.f k x.1.1 x.2.1.1 x.2.2.1.1⟩
def impl_isFunc_3.E (k : Nat) : Ents := [(⟨100, []⟩, impl_isInst.s k)]
def impl_isFunc_3.L : List (LS impl_isFunc_3.R) := []
def impl_isFunc_3.c : Code := Try.f99.body.getD .skip
theorem impl_isFunc_3.eq (k : Nat) (x) : (impl_isFunc_3.s k).pf x = execF tab (impl_isFunc_3.E k) Try.f99 impl_isFunc_3.c (impl_isFunc_3.s k) impl_isFunc_3.L x := by kernel_rfl
theorem impl_isFunc_3.sound : ∀ k, Sound Try.prog 99 (impl_isFunc_3.s k) := sound_of mixed tab_ok (f := 99) (fn := Try.f99) (c := impl_isFunc_3.c) (by kernel_rfl) (by kernel_rfl) (by kernel_rfl) ⟨[⟨true, [.int .i64, .int .i64, .int .i64, .int .i64, .int .i64, .int .i64, .lst (.int .i64)]⟩, ⟨false, [.ptr 0 0]⟩, ⟨false, [.ptr 1 0]⟩], [(0, .cbox [.int .i64]), (1, .cbox [.int .i64])], false, [⟨false, [.bool]⟩], [], []⟩ (by kernel_rfl) (by kernel_rfl) (fun k => (impl_isFunc_3.s k).pf) impl_isFunc_3.E (fun k => (EntsOK.cons (impl_isInst.sound k) EntsOK.nil)) (fun k => impl_isFunc_3.L) (fun k => trivial) trivial (fun k => trivial) impl_isFunc_3.eq
end
end Go.Proofs.Ytkfehogikjcgkaa.V
namespace Go.Proofs.Ytkfehogikjcgkaa.V
open Go
set_option linter.unusedVariables false
noncomputable section
/-! ### slices.IndexFunc[[]impl.Inst,impl.Inst]: function 141 -/
abbrev slices_IndexFunc_impl_Inst_impl_Inst.R := (((Int × Unit) × Unit) × Unit)
abbrev slices_IndexFunc_impl_Inst_impl_Inst.T0 : Type := (List tInstD) → Int → Int → Int → Int → Option slices_IndexFunc_impl_Inst_impl_Inst.R
def slices_IndexFunc_impl_Inst_impl_Inst.l0_ (k : Nat) (l0 : slices_IndexFunc_impl_Inst_impl_Inst.T0) (a0 : List tInstD) (a1 : Int) (a2 : Int) (a3 : Int) (a4 : Int) : Option slices_IndexFunc_impl_Inst_impl_Inst.R := bif decide (a2 < a1) then (bif (decide (0 ≤ a2)) && (decide (a2 < ((List.length a0 : Nat) : Int))) then (Option.bind (impl_isFunc_3.f k (List.getD a0 (Int.toNat a2) tInstZ) a3 a4) fun r1 => bif r1.1.1.1 then (some (((a2, ()), ()), ())) else (l0 a0 a1 (IntKind.wrap .i64 (a2 + 1)) a3 a4)) else none) else (some (((-1, ()), ()), ()))
def slices_IndexFunc_impl_Inst_impl_Inst.all : Nat → (slices_IndexFunc_impl_Inst_impl_Inst.T0) × Unit
  | 0 => (fun _ _ _ _ _ => none, ())
  | k + 1 => (slices_IndexFunc_impl_Inst_impl_Inst.l0_ k (slices_IndexFunc_impl_Inst_impl_Inst.all k).1, ())
def slices_IndexFunc_impl_Inst_impl_Inst.l0 (k : Nat) : slices_IndexFunc_impl_Inst_impl_Inst.T0 := (slices_IndexFunc_impl_Inst_impl_Inst.all k).1
def slices_IndexFunc_impl_Inst_impl_Inst.f (k : Nat) (a0 : List tInstD) (a1 : Int) (a2 : Int) : Option slices_IndexFunc_impl_Inst_impl_Inst.R := slices_IndexFunc_impl_Inst_impl_Inst.l0 k a0 ((List.length a0 : Nat) : Int) 0 a1 a2
def slices_IndexFunc_impl_Inst_impl_Inst.s (k : Nat) : FS := ⟨[⟨false, [.lst tInst]⟩, ⟨false, [.fn 99 [(0, 0), (1, 0)]]⟩], [(0, .cbox [.int .i64]), (1, .cbox [.int .i64])], false, [⟨false, [.int .i64]⟩], [], [], fun x => slices_IndexFunc_impl_Inst_impl_Inst.f k x.1.1.1 x.2.1.1 x.2.2.1.1⟩
def slices_IndexFunc_impl_Inst_impl_Inst.E (k : Nat) : Ents := [(⟨99, []⟩, impl_isFunc_3.s k)]
def slices_IndexFunc_impl_Inst_impl_Inst.L0 (l : slices_IndexFunc_impl_Inst_impl_Inst.T0) : LS slices_IndexFunc_impl_Inst_impl_Inst.R := ⟨[], [(0, ⟨false, [.lst tInst]⟩), (1, ⟨false, [.fn 99 [(0, 0), (1, 0)]]⟩), (7, ⟨false, [.int .i64]⟩), (8, ⟨false, [.int .i64]⟩)], [(0, .cbox [.int .i64]), (1, .cbox [.int .i64])], fun x => l x.1.1.1 x.1.2.2.1.1 x.1.2.2.2.1.1 x.2.1.1 x.2.2.1.1⟩
def slices_IndexFunc_impl_Inst_impl_Inst.L (l0 : slices_IndexFunc_impl_Inst_impl_Inst.T0) : List (LS slices_IndexFunc_impl_Inst_impl_Inst.R) := [slices_IndexFunc_impl_Inst_impl_Inst.L0 l0]
def slices_IndexFunc_impl_Inst_impl_Inst.c : Code := Try.f141.body.getD .skip
theorem slices_IndexFunc_impl_Inst_impl_Inst.eq (k : Nat) (x) : (slices_IndexFunc_impl_Inst_impl_Inst.s k).pf x = execF tab (slices_IndexFunc_impl_Inst_impl_Inst.E k) Try.f141 slices_IndexFunc_impl_Inst_impl_Inst.c (slices_IndexFunc_impl_Inst_impl_Inst.s k) (slices_IndexFunc_impl_Inst_impl_Inst.L (slices_IndexFunc_impl_Inst_impl_Inst.l0 k)) x := by kernel_rfl
theorem slices_IndexFunc_impl_Inst_impl_Inst.r0 (l0 : slices_IndexFunc_impl_Inst_impl_Inst.T0) (k : Nat) (x) : slices_IndexFunc_impl_Inst_impl_Inst.l0_ k l0 x.1.1.1 x.1.2.2.1.1 x.1.2.2.2.1.1 x.2.1.1 x.2.2.1.1 = roundOf tab (slices_IndexFunc_impl_Inst_impl_Inst.E k) (slices_IndexFunc_impl_Inst_impl_Inst.L l0) slices_IndexFunc_impl_Inst_impl_Inst.c (fin tab Try.f141 (slices_IndexFunc_impl_Inst_impl_Inst.s k)) 0 (slices_IndexFunc_impl_Inst_impl_Inst.L0 l0) x := by kernel_rfl
theorem slices_IndexFunc_impl_Inst_impl_Inst.sound : ∀ k, Sound Try.prog 141 (slices_IndexFunc_impl_Inst_impl_Inst.s k) := sound_of mixed tab_ok (f := 141) (fn := Try.f141) (c := slices_IndexFunc_impl_Inst_impl_Inst.c) (by kernel_rfl) (by kernel_rfl) (by kernel_rfl) ⟨[⟨false, [.lst tInst]⟩, ⟨false, [.fn 99 [(0, 0), (1, 0)]]⟩], [(0, .cbox [.int .i64]), (1, .cbox [.int .i64])], false, [⟨false, [.int .i64]⟩], [], []⟩ (by kernel_rfl) (by kernel_rfl) (fun k => (slices_IndexFunc_impl_Inst_impl_Inst.s k).pf) slices_IndexFunc_impl_Inst_impl_Inst.E (fun k => (EntsOK.cons (impl_isFunc_3.sound k) EntsOK.nil)) (fun k => slices_IndexFunc_impl_Inst_impl_Inst.L (slices_IndexFunc_impl_Inst_impl_Inst.l0 k)) (fun k => ⟨rfl, trivial⟩) ⟨fun _ => rfl, trivial⟩ (fun k => ⟨⟨(slices_IndexFunc_impl_Inst_impl_Inst.L0 (slices_IndexFunc_impl_Inst_impl_Inst.l0 (k + 1))).l, rfl, fun x => slices_IndexFunc_impl_Inst_impl_Inst.r0 (slices_IndexFunc_impl_Inst_impl_Inst.l0 k) k x⟩, trivial⟩) slices_IndexFunc_impl_Inst_impl_Inst.eq
end
end Go.Proofs.Ytkfehogikjcgkaa.V
namespace Go.Proofs.Ytkfehogikjcgkaa.V
open Go
set_option linter.unusedVariables false
noncomputable section
/-! ### slices.ContainsFunc[[]impl.Inst,impl.Inst]: function 98 -/
abbrev slices_ContainsFunc_impl_Inst_impl_Inst.R := (((Bool × Unit) × Unit) × Unit)
def slices_ContainsFunc_impl_Inst_impl_Inst.f (k : Nat) (a0 : List tInstD) (a1 : Int) (a2 : Int) : Option slices_ContainsFunc_impl_Inst_impl_Inst.R := Option.bind (slices_IndexFunc_impl_Inst_impl_Inst.f k a0 a1 a2) fun r1 => some (((decide (0 ≤ r1.1.1.1), ()), ()), ())
def slices_ContainsFunc_impl_Inst_impl_Inst.s (k : Nat) : FS := ⟨[⟨false, [.lst tInst]⟩, ⟨false, [.fn 99 [(0, 0), (1, 0)]]⟩], [(0, .cbox [.int .i64]), (1, .cbox [.int .i64])], false, [⟨false, [.bool]⟩], [], [], fun x => slices_ContainsFunc_impl_Inst_impl_Inst.f k x.1.1.1 x.2.1.1 x.2.2.1.1⟩
def slices_ContainsFunc_impl_Inst_impl_Inst.E (k : Nat) : Ents := [(⟨141, [99]⟩, slices_IndexFunc_impl_Inst_impl_Inst.s k)]
def slices_ContainsFunc_impl_Inst_impl_Inst.L : List (LS slices_ContainsFunc_impl_Inst_impl_Inst.R) := []
def slices_ContainsFunc_impl_Inst_impl_Inst.c : Code := Try.f98.body.getD .skip
theorem slices_ContainsFunc_impl_Inst_impl_Inst.eq (k : Nat) (x) : (slices_ContainsFunc_impl_Inst_impl_Inst.s k).pf x = execF tab (slices_ContainsFunc_impl_Inst_impl_Inst.E k) Try.f98 slices_ContainsFunc_impl_Inst_impl_Inst.c (slices_ContainsFunc_impl_Inst_impl_Inst.s k) slices_ContainsFunc_impl_Inst_impl_Inst.L x := by kernel_rfl
theorem slices_ContainsFunc_impl_Inst_impl_Inst.sound : ∀ k, Sound Try.prog 98 (slices_ContainsFunc_impl_Inst_impl_Inst.s k) := sound_of mixed tab_ok (f := 98) (fn := Try.f98) (c := slices_ContainsFunc_impl_Inst_impl_Inst.c) (by kernel_rfl) (by kernel_rfl) (by kernel_rfl) ⟨[⟨false, [.lst tInst]⟩, ⟨false, [.fn 99 [(0, 0), (1, 0)]]⟩], [(0, .cbox [.int .i64]), (1, .cbox [.int .i64])], false, [⟨false, [.bool]⟩], [], []⟩ (by kernel_rfl) (by kernel_rfl) (fun k => (slices_ContainsFunc_impl_Inst_impl_Inst.s k).pf) slices_ContainsFunc_impl_Inst_impl_Inst.E (fun k => (EntsOK.cons (slices_IndexFunc_impl_Inst_impl_Inst.sound k) EntsOK.nil)) (fun k => slices_ContainsFunc_impl_Inst_impl_Inst.L) (fun k => trivial) trivial (fun k => trivial) slices_ContainsFunc_impl_Inst_impl_Inst.eq
end
end Go.Proofs.Ytkfehogikjcgkaa.V
namespace Go.Proofs.Ytkfehogikjcgkaa.V
open Go
set_option linter.unusedVariables false
noncomputable section
/-! ### impl.isTerm$1: function 147 -/
abbrev impl_isTerm_1.R := (((Bool × Unit) × Unit) × Unit)
def impl_isTerm_1.f (k : Nat) (a0 : Int) (a1 : tFuncD) : Option impl_isTerm_1.R := Option.bind (impl_within.f k a0 0 (IntKind.wrap .i64 (((List.length a1.2.2.1 : Nat) : Int) - 1))) fun r1 => some (((r1.1.1.1, ()), ()), ())
def impl_isTerm_1.s (k : Nat) : FS := ⟨[⟨false, [.int .i64]⟩, ⟨false, [.ptr 0 0]⟩], [(0, .cbox [.lst (.int .i64), .int .i64, .lst tBlock])], false, [⟨false, [.bool]⟩], [], [], fun x => impl_isTerm_1.f k x.1.1.1 x.2.1⟩
def impl_isTerm_1.E (k : Nat) : Ents := [(⟨55, []⟩, impl_within.s k)]
def impl_isTerm_1.L : List (LS impl_isTerm_1.R) := []
def impl_isTerm_1.c : Code := Try.f147.body.getD .skip
theorem impl_isTerm_1.eq (k : Nat) (x) : (impl_isTerm_1.s k).pf x = execF tab (impl_isTerm_1.E k) Try.f147 impl_isTerm_1.c (impl_isTerm_1.s k) impl_isTerm_1.L x := by kernel_rfl
theorem impl_isTerm_1.sound : ∀ k, Sound Try.prog 147 (impl_isTerm_1.s k) := sound_of mixed tab_ok (f := 147) (fn := Try.f147) (c := impl_isTerm_1.c) (by kernel_rfl) (by kernel_rfl) (by kernel_rfl) ⟨[⟨false, [.int .i64]⟩, ⟨false, [.ptr 0 0]⟩], [(0, .cbox [.lst (.int .i64), .int .i64, .lst tBlock])], false, [⟨false, [.bool]⟩], [], []⟩ (by kernel_rfl) (by kernel_rfl) (fun k => (impl_isTerm_1.s k).pf) impl_isTerm_1.E (fun k => (EntsOK.cons (impl_within.sound k) EntsOK.nil)) (fun k => impl_isTerm_1.L) (fun k => trivial) trivial (fun k => trivial) impl_isTerm_1.eq
end
end Go.Proofs.Ytkfehogikjcgkaa.V
namespace Go.Proofs.Ytkfehogikjcgkaa.V
open Go
set_option linter.unusedVariables false
noncomputable section
/-! ### impl.isTerm: function 101 -/
abbrev impl_isTerm.R := (((Bool × Unit) × Unit) × Unit)
def impl_isTerm.f (k : Nat) (a0 : tFuncD) (a1 : tTermD) (a2 : Int) : Option impl_isTerm.R := bif decide (a1.1 = 1) then (Option.bind (impl_within.f k a1.2.1 0 (IntKind.wrap .i64 (a2 - 1))) fun r1 => bif r1.1.1.1 then (bif decide (a1.2.2.1 = 0) then (some (((decide (a1.2.2.2.1 = 0), ()), ()), ())) else (some (((false, ()), ()), ()))) else (some (((false, ()), ()), ()))) else (bif decide (a1.1 = 2) then (bif decide (a1.2.1 = 0) then (Option.bind (impl_isTerm_1.f k a1.2.2.1 a0) fun r2 => bif r2.1.1.1 then (some (((decide (a1.2.2.2.1 = 0), ()), ()), ())) else (some (((false, ()), ()), ()))) else (some (((false, ()), ()), ()))) else (bif decide (a1.1 = 3) then (Option.bind (impl_within.f k a1.2.1 0 (IntKind.wrap .i64 (a2 - 1))) fun r3 => bif r3.1.1.1 then (Option.bind (impl_isTerm_1.f k a1.2.2.1 a0) fun r4 => bif r4.1.1.1 then (Option.bind (impl_isTerm_1.f k a1.2.2.2.1 a0) fun r5 => bif r5.1.1.1 then (some (((!decide (a1.2.2.1 = a1.2.2.2.1), ()), ()), ())) else (some (((false, ()), ()), ()))) else (some (((false, ()), ()), ()))) else (some (((false, ()), ()), ()))) else (bif decide (a1.1 = 4) then (bif decide (a1.2.1 = 0) then (bif decide (a1.2.2.1 = 0) then (some (((decide (a1.2.2.2.1 = 0), ()), ()), ())) else (some (((false, ()), ()), ()))) else (some (((false, ()), ()), ()))) else (some (((false, ()), ()), ())))))
def impl_isTerm.s (k : Nat) : FS := ⟨[⟨true, [.lst (.int .i64), .int .i64, .lst tBlock]⟩, ⟨true, [.int .i64, .int .i64, .int .i64, .int .i64]⟩, ⟨false, [.int .i64]⟩], [], false, [⟨false, [.bool]⟩], [], [], fun x => impl_isTerm.f k x.1.1 x.1.2.1 x.1.2.2.1.1⟩
def impl_isTerm.E (k : Nat) : Ents := [(⟨55, []⟩, impl_within.s k), (⟨147, []⟩, impl_isTerm_1.s k)]
def impl_isTerm.L : List (LS impl_isTerm.R) := []
def impl_isTerm.c : Code := Try.f101.body.getD .skip
theorem impl_isTerm.eq (k : Nat) (x) : (impl_isTerm.s k).pf x = execF tab (impl_isTerm.E k) Try.f101 impl_isTerm.c (impl_isTerm.s k) impl_isTerm.L x := by kernel_rfl
theorem impl_isTerm.sound : ∀ k, Sound Try.prog 101 (impl_isTerm.s k) := sound_of mixed tab_ok (f := 101) (fn := Try.f101) (c := impl_isTerm.c) (by kernel_rfl) (by kernel_rfl) (by kernel_rfl) ⟨[⟨true, [.lst (.int .i64), .int .i64, .lst tBlock]⟩, ⟨true, [.int .i64, .int .i64, .int .i64, .int .i64]⟩, ⟨false, [.int .i64]⟩], [], false, [⟨false, [.bool]⟩], [], []⟩ (by kernel_rfl) (by kernel_rfl) (fun k => (impl_isTerm.s k).pf) impl_isTerm.E (fun k => (EntsOK.cons (impl_within.sound k) (EntsOK.cons (impl_isTerm_1.sound k) EntsOK.nil))) (fun k => impl_isTerm.L) (fun k => trivial) trivial (fun k => trivial) impl_isTerm.eq
end
end Go.Proofs.Ytkfehogikjcgkaa.V
namespace Go.Proofs.Ytkfehogikjcgkaa.V
open Go
set_option linter.unusedVariables false
noncomputable section
/-! ### impl.isFunc: function 58 -/
abbrev impl_isFunc.R := (((Bool × Unit) × Unit) × Unit)
abbrev impl_isFunc.T0 : Type := (List tBlockD) → Int → Int → tFuncD → Int → Int → Option impl_isFunc.R
def impl_isFunc.l0_ (k : Nat) (l0 : impl_isFunc.T0) (a0 : List tBlockD) (a1 : Int) (a2 : Int) (a3 : tFuncD) (a4 : Int) (a5 : Int) : Option impl_isFunc.R := bif decide (a2 < a1) then (bif (decide (0 ≤ a2)) && (decide (a2 < ((List.length a0 : Nat) : Int))) then (Option.bind (slices_ContainsFunc_impl_Phi_impl_Phi.f k ((List.getD a0 (Int.toNat a2) tBlockZ).1) a5) fun r1 => bif r1.1.1.1 then (some (((false, ()), ()), ())) else (Option.bind (slices_ContainsFunc_impl_Inst_impl_Inst.f k ((List.getD a0 (Int.toNat a2) tBlockZ).2.1) a5 a4) fun r2 => bif r2.1.1.1 then (some (((false, ()), ()), ())) else (Option.bind (impl_isTerm.f k a3 ((List.getD a0 (Int.toNat a2) tBlockZ).2.2) a5) fun r3 => bif !r3.1.1.1 then (some (((false, ()), ()), ())) else (l0 a0 a1 (IntKind.wrap .i64 (a2 + 1)) a3 a4 a5)))) else none) else (some (((true, ()), ()), ()))
def impl_isFunc.all : Nat → (impl_isFunc.T0) × Unit
  | 0 => (fun _ _ _ _ _ _ => none, ())
  | k + 1 => (impl_isFunc.l0_ k (impl_isFunc.all k).1, ())
def impl_isFunc.l0 (k : Nat) : impl_isFunc.T0 := (impl_isFunc.all k).1
def impl_isFunc.f (k : Nat) (a0 : tFuncD) (a1 : Int) : Option impl_isFunc.R := bif decide (4 < ((List.length a0.1 : Nat) : Int)) then (some (((false, ()), ()), ())) else (Option.bind (impl_WidthOk.f k a0.2.1) fun r1 => bif !r1.1.1.1 then (some (((false, ()), ()), ())) else (Option.bind (impl_within.f k ((List.length a0.2.2.1 : Nat) : Int) 1 10) fun r2 => bif !r2.1.1.1 then (some (((false, ()), ()), ())) else (Option.bind (slices_ContainsFunc_int64_int64.f k a0.1) fun r3 => bif r3.1.1.1 then (some (((false, ()), ()), ())) else (Option.bind (impl_CountOf.f k a0) fun r4 => bif decide (60 < r4.1.1.1) then (some (((false, ()), ()), ())) else (impl_isFunc.l0 k a0.2.2.1 ((List.length a0.2.2.1 : Nat) : Int) 0 a0 a1 r4.1.1.1)))))
def impl_isFunc.s (k : Nat) : FS := ⟨[⟨true, [.lst (.int .i64), .int .i64, .lst tBlock]⟩, ⟨false, [.int .i64]⟩], [], false, [⟨false, [.bool]⟩], [], [], fun x => impl_isFunc.f k x.1.1 x.1.2.1.1⟩
def impl_isFunc.E (k : Nat) : Ents := [(⟨93, []⟩, impl_WidthOk.s k), (⟨55, []⟩, impl_within.s k), (⟨69, [94]⟩, slices_ContainsFunc_int64_int64.s k), (⟨68, []⟩, impl_CountOf.s k), (⟨95, [96]⟩, slices_ContainsFunc_impl_Phi_impl_Phi.s k), (⟨98, [99]⟩, slices_ContainsFunc_impl_Inst_impl_Inst.s k), (⟨101, []⟩, impl_isTerm.s k)]
def impl_isFunc.L0 (l : impl_isFunc.T0) : LS impl_isFunc.R := ⟨[], [(2, ⟨false, [.ptr 100000 0]⟩), (3, ⟨false, [.ptr 100001 0]⟩), (5, ⟨false, [.ptr 100002 0]⟩), (35, ⟨false, [.lst tBlock]⟩), (36, ⟨false, [.int .i64]⟩), (37, ⟨false, [.int .i64]⟩)], [(100000, .box [.lst (.int .i64), .int .i64, .lst tBlock]), (100001, .box [.int .i64]), (100002, .box [.int .i64])], fun x => l x.1.2.2.2.1.1 x.1.2.2.2.2.1.1 x.1.2.2.2.2.2.1.1 x.2.1 x.2.2.1.1 x.2.2.2.1.1⟩
def impl_isFunc.L (l0 : impl_isFunc.T0) : List (LS impl_isFunc.R) := [impl_isFunc.L0 l0]
def impl_isFunc.c : Code := Try.f58.body.getD .skip
theorem impl_isFunc.eq (k : Nat) (x) : (impl_isFunc.s k).pf x = execF tab (impl_isFunc.E k) Try.f58 impl_isFunc.c (impl_isFunc.s k) (impl_isFunc.L (impl_isFunc.l0 k)) x := by kernel_rfl
theorem impl_isFunc.r0 (l0 : impl_isFunc.T0) (k : Nat) (x) : impl_isFunc.l0_ k l0 x.1.2.2.2.1.1 x.1.2.2.2.2.1.1 x.1.2.2.2.2.2.1.1 x.2.1 x.2.2.1.1 x.2.2.2.1.1 = roundOf tab (impl_isFunc.E k) (impl_isFunc.L l0) impl_isFunc.c (fin tab Try.f58 (impl_isFunc.s k)) 0 (impl_isFunc.L0 l0) x := by kernel_rfl
theorem impl_isFunc.sound : ∀ k, Sound Try.prog 58 (impl_isFunc.s k) := sound_of mixed tab_ok (f := 58) (fn := Try.f58) (c := impl_isFunc.c) (by kernel_rfl) (by kernel_rfl) (by kernel_rfl) ⟨[⟨true, [.lst (.int .i64), .int .i64, .lst tBlock]⟩, ⟨false, [.int .i64]⟩], [], false, [⟨false, [.bool]⟩], [], []⟩ (by kernel_rfl) (by kernel_rfl) (fun k => (impl_isFunc.s k).pf) impl_isFunc.E (fun k => (EntsOK.cons (impl_WidthOk.sound k) (EntsOK.cons (impl_within.sound k) (EntsOK.cons (slices_ContainsFunc_int64_int64.sound k) (EntsOK.cons (impl_CountOf.sound k) (EntsOK.cons (slices_ContainsFunc_impl_Phi_impl_Phi.sound k) (EntsOK.cons (slices_ContainsFunc_impl_Inst_impl_Inst.sound k) (EntsOK.cons (impl_isTerm.sound k) EntsOK.nil)))))))) (fun k => impl_isFunc.L (impl_isFunc.l0 k)) (fun k => ⟨rfl, trivial⟩) ⟨fun _ => rfl, trivial⟩ (fun k => ⟨⟨(impl_isFunc.L0 (impl_isFunc.l0 (k + 1))).l, rfl, fun x => impl_isFunc.r0 (impl_isFunc.l0 k) k x⟩, trivial⟩) impl_isFunc.eq
end
end Go.Proofs.Ytkfehogikjcgkaa.V
namespace Go.Proofs.Ytkfehogikjcgkaa.V
open Go
set_option linter.unusedVariables false
noncomputable section
/-! ### impl.isFormed: function 64 -/
abbrev impl_isFormed.R := (((Bool × Unit) × Unit) × Unit)
def impl_isFormed.f (k : Nat) (a0 : tFuncD) : Option impl_isFormed.R := Option.bind (impl_isFunc.f k a0 3) fun r1 => some (((r1.1.1.1, ()), ()), ())
def impl_isFormed.s (k : Nat) : FS := ⟨[⟨true, [.lst (.int .i64), .int .i64, .lst tBlock]⟩], [], false, [⟨false, [.bool]⟩], [], [], fun x => impl_isFormed.f k x.1.1⟩
def impl_isFormed.E (k : Nat) : Ents := [(⟨58, []⟩, impl_isFunc.s k)]
def impl_isFormed.L : List (LS impl_isFormed.R) := []
def impl_isFormed.c : Code := Try.f64.body.getD .skip
theorem impl_isFormed.eq (k : Nat) (x) : (impl_isFormed.s k).pf x = execF tab (impl_isFormed.E k) Try.f64 impl_isFormed.c (impl_isFormed.s k) impl_isFormed.L x := by kernel_rfl
theorem impl_isFormed.sound : ∀ k, Sound Try.prog 64 (impl_isFormed.s k) := sound_of mixed tab_ok (f := 64) (fn := Try.f64) (c := impl_isFormed.c) (by kernel_rfl) (by kernel_rfl) (by kernel_rfl) ⟨[⟨true, [.lst (.int .i64), .int .i64, .lst tBlock]⟩], [], false, [⟨false, [.bool]⟩], [], []⟩ (by kernel_rfl) (by kernel_rfl) (fun k => (impl_isFormed.s k).pf) impl_isFormed.E (fun k => (EntsOK.cons (impl_isFunc.sound k) EntsOK.nil)) (fun k => impl_isFormed.L) (fun k => trivial) trivial (fun k => trivial) impl_isFormed.eq
end
end Go.Proofs.Ytkfehogikjcgkaa.V
namespace Go.Proofs.Ytkfehogikjcgkaa.V
open Go
set_option linter.unusedVariables false
noncomputable section
/-! ### impl.isId: function 71 -/
abbrev impl_isId.R := (((Bool × Unit) × Unit) × Unit)
def impl_isId.f (k : Nat) (a0 : tFuncD) (a1 : Int) : Option impl_isId.R := Option.bind (impl_CountOf.f k a0) fun r1 => Option.bind (impl_within.f k a1 0 (IntKind.wrap .i64 (r1.1.1.1 - 1))) fun r2 => some (((r2.1.1.1, ()), ()), ())
def impl_isId.s (k : Nat) : FS := ⟨[⟨true, [.lst (.int .i64), .int .i64, .lst tBlock]⟩, ⟨false, [.int .i64]⟩], [], false, [⟨false, [.bool]⟩], [], [], fun x => impl_isId.f k x.1.1 x.1.2.1.1⟩
def impl_isId.E (k : Nat) : Ents := [(⟨68, []⟩, impl_CountOf.s k), (⟨55, []⟩, impl_within.s k)]
def impl_isId.L : List (LS impl_isId.R) := []
def impl_isId.c : Code := Try.f71.body.getD .skip
theorem impl_isId.eq (k : Nat) (x) : (impl_isId.s k).pf x = execF tab (impl_isId.E k) Try.f71 impl_isId.c (impl_isId.s k) impl_isId.L x := by kernel_rfl
theorem impl_isId.sound : ∀ k, Sound Try.prog 71 (impl_isId.s k) := sound_of mixed tab_ok (f := 71) (fn := Try.f71) (c := impl_isId.c) (by kernel_rfl) (by kernel_rfl) (by kernel_rfl) ⟨[⟨true, [.lst (.int .i64), .int .i64, .lst tBlock]⟩, ⟨false, [.int .i64]⟩], [], false, [⟨false, [.bool]⟩], [], []⟩ (by kernel_rfl) (by kernel_rfl) (fun k => (impl_isId.s k).pf) impl_isId.E (fun k => (EntsOK.cons (impl_CountOf.sound k) (EntsOK.cons (impl_within.sound k) EntsOK.nil))) (fun k => impl_isId.L) (fun k => trivial) trivial (fun k => trivial) impl_isId.eq
end
end Go.Proofs.Ytkfehogikjcgkaa.V
namespace Go.Proofs.Ytkfehogikjcgkaa.V
open Go
set_option linter.unusedVariables false
noncomputable section
/-! ### impl.Substituted$1: function 70 -/
abbrev impl_Substituted_1.R := (((Bool × Unit) × Unit) × Unit)
def impl_Substituted_1.f (k : Nat) (a0 : Int) (a1 : tFuncD) : Option impl_Substituted_1.R := Option.bind (impl_isId.f k a1 a0) fun r1 => some (((!r1.1.1.1, ()), ()), ())
def impl_Substituted_1.s (k : Nat) : FS := ⟨[⟨false, [.int .i64]⟩, ⟨false, [.ptr 0 0]⟩], [(0, .cbox [.lst (.int .i64), .int .i64, .lst tBlock])], false, [⟨false, [.bool]⟩], [], [], fun x => impl_Substituted_1.f k x.1.1.1 x.2.1⟩
def impl_Substituted_1.E (k : Nat) : Ents := [(⟨71, []⟩, impl_isId.s k)]
def impl_Substituted_1.L : List (LS impl_Substituted_1.R) := []
def impl_Substituted_1.c : Code := Try.f70.body.getD .skip
theorem impl_Substituted_1.eq (k : Nat) (x) : (impl_Substituted_1.s k).pf x = execF tab (impl_Substituted_1.E k) Try.f70 impl_Substituted_1.c (impl_Substituted_1.s k) impl_Substituted_1.L x := by kernel_rfl
theorem impl_Substituted_1.sound : ∀ k, Sound Try.prog 70 (impl_Substituted_1.s k) := sound_of mixed tab_ok (f := 70) (fn := Try.f70) (c := impl_Substituted_1.c) (by kernel_rfl) (by kernel_rfl) (by kernel_rfl) ⟨[⟨false, [.int .i64]⟩, ⟨false, [.ptr 0 0]⟩], [(0, .cbox [.lst (.int .i64), .int .i64, .lst tBlock])], false, [⟨false, [.bool]⟩], [], []⟩ (by kernel_rfl) (by kernel_rfl) (fun k => (impl_Substituted_1.s k).pf) impl_Substituted_1.E (fun k => (EntsOK.cons (impl_isId.sound k) EntsOK.nil)) (fun k => impl_Substituted_1.L) (fun k => trivial) trivial (fun k => trivial) impl_Substituted_1.eq
end
end Go.Proofs.Ytkfehogikjcgkaa.V
namespace Go.Proofs.Ytkfehogikjcgkaa.V
open Go
set_option linter.unusedVariables false
noncomputable section
/-! ### slices.IndexFunc[[]int64,int64]: function 123 -/
abbrev slices_IndexFunc_int64_int64_5.R := (((Int × Unit) × Unit) × Unit)
abbrev slices_IndexFunc_int64_int64_5.T0 : Type := (List Int) → Int → Int → tFuncD → Option slices_IndexFunc_int64_int64_5.R
def slices_IndexFunc_int64_int64_5.l0_ (k : Nat) (l0 : slices_IndexFunc_int64_int64_5.T0) (a0 : List Int) (a1 : Int) (a2 : Int) (a3 : tFuncD) : Option slices_IndexFunc_int64_int64_5.R := bif decide (a2 < a1) then (bif (decide (0 ≤ a2)) && (decide (a2 < ((List.length a0 : Nat) : Int))) then (Option.bind (impl_Substituted_1.f k (List.getD a0 (Int.toNat a2) 0) a3) fun r1 => bif r1.1.1.1 then (some (((a2, ()), ()), ())) else (l0 a0 a1 (IntKind.wrap .i64 (a2 + 1)) a3)) else none) else (some (((-1, ()), ()), ()))
def slices_IndexFunc_int64_int64_5.all : Nat → (slices_IndexFunc_int64_int64_5.T0) × Unit
  | 0 => (fun _ _ _ _ => none, ())
  | k + 1 => (slices_IndexFunc_int64_int64_5.l0_ k (slices_IndexFunc_int64_int64_5.all k).1, ())
def slices_IndexFunc_int64_int64_5.l0 (k : Nat) : slices_IndexFunc_int64_int64_5.T0 := (slices_IndexFunc_int64_int64_5.all k).1
def slices_IndexFunc_int64_int64_5.f (k : Nat) (a0 : List Int) (a1 : tFuncD) : Option slices_IndexFunc_int64_int64_5.R := slices_IndexFunc_int64_int64_5.l0 k a0 ((List.length a0 : Nat) : Int) 0 a1
def slices_IndexFunc_int64_int64_5.s (k : Nat) : FS := ⟨[⟨false, [.lst (.int .i64)]⟩, ⟨false, [.fn 70 [(0, 0)]]⟩], [(0, .cbox [.lst (.int .i64), .int .i64, .lst tBlock])], false, [⟨false, [.int .i64]⟩], [], [], fun x => slices_IndexFunc_int64_int64_5.f k x.1.1.1 x.2.1⟩
def slices_IndexFunc_int64_int64_5.E (k : Nat) : Ents := [(⟨70, []⟩, impl_Substituted_1.s k)]
def slices_IndexFunc_int64_int64_5.L0 (l : slices_IndexFunc_int64_int64_5.T0) : LS slices_IndexFunc_int64_int64_5.R := ⟨[], [(0, ⟨false, [.lst (.int .i64)]⟩), (1, ⟨false, [.fn 70 [(0, 0)]]⟩), (7, ⟨false, [.int .i64]⟩), (8, ⟨false, [.int .i64]⟩)], [(0, .cbox [.lst (.int .i64), .int .i64, .lst tBlock])], fun x => l x.1.1.1 x.1.2.2.1.1 x.1.2.2.2.1.1 x.2.1⟩
def slices_IndexFunc_int64_int64_5.L (l0 : slices_IndexFunc_int64_int64_5.T0) : List (LS slices_IndexFunc_int64_int64_5.R) := [slices_IndexFunc_int64_int64_5.L0 l0]
def slices_IndexFunc_int64_int64_5.c : Code := Try.f123.body.getD .skip
theorem slices_IndexFunc_int64_int64_5.eq (k : Nat) (x) : (slices_IndexFunc_int64_int64_5.s k).pf x = execF tab (slices_IndexFunc_int64_int64_5.E k) Try.f123 slices_IndexFunc_int64_int64_5.c (slices_IndexFunc_int64_int64_5.s k) (slices_IndexFunc_int64_int64_5.L (slices_IndexFunc_int64_int64_5.l0 k)) x := by kernel_rfl
theorem slices_IndexFunc_int64_int64_5.r0 (l0 : slices_IndexFunc_int64_int64_5.T0) (k : Nat) (x) : slices_IndexFunc_int64_int64_5.l0_ k l0 x.1.1.1 x.1.2.2.1.1 x.1.2.2.2.1.1 x.2.1 = roundOf tab (slices_IndexFunc_int64_int64_5.E k) (slices_IndexFunc_int64_int64_5.L l0) slices_IndexFunc_int64_int64_5.c (fin tab Try.f123 (slices_IndexFunc_int64_int64_5.s k)) 0 (slices_IndexFunc_int64_int64_5.L0 l0) x := by kernel_rfl
theorem slices_IndexFunc_int64_int64_5.sound : ∀ k, Sound Try.prog 123 (slices_IndexFunc_int64_int64_5.s k) := sound_of mixed tab_ok (f := 123) (fn := Try.f123) (c := slices_IndexFunc_int64_int64_5.c) (by kernel_rfl) (by kernel_rfl) (by kernel_rfl) ⟨[⟨false, [.lst (.int .i64)]⟩, ⟨false, [.fn 70 [(0, 0)]]⟩], [(0, .cbox [.lst (.int .i64), .int .i64, .lst tBlock])], false, [⟨false, [.int .i64]⟩], [], []⟩ (by kernel_rfl) (by kernel_rfl) (fun k => (slices_IndexFunc_int64_int64_5.s k).pf) slices_IndexFunc_int64_int64_5.E (fun k => (EntsOK.cons (impl_Substituted_1.sound k) EntsOK.nil)) (fun k => slices_IndexFunc_int64_int64_5.L (slices_IndexFunc_int64_int64_5.l0 k)) (fun k => ⟨rfl, trivial⟩) ⟨fun _ => rfl, trivial⟩ (fun k => ⟨⟨(slices_IndexFunc_int64_int64_5.L0 (slices_IndexFunc_int64_int64_5.l0 (k + 1))).l, rfl, fun x => slices_IndexFunc_int64_int64_5.r0 (slices_IndexFunc_int64_int64_5.l0 k) k x⟩, trivial⟩) slices_IndexFunc_int64_int64_5.eq
end
end Go.Proofs.Ytkfehogikjcgkaa.V
namespace Go.Proofs.Ytkfehogikjcgkaa.V
open Go
set_option linter.unusedVariables false
noncomputable section
/-! ### slices.ContainsFunc[[]int64,int64]: function 69 -/
abbrev slices_ContainsFunc_int64_int64_5.R := (((Bool × Unit) × Unit) × Unit)
def slices_ContainsFunc_int64_int64_5.f (k : Nat) (a0 : List Int) (a1 : tFuncD) : Option slices_ContainsFunc_int64_int64_5.R := Option.bind (slices_IndexFunc_int64_int64_5.f k a0 a1) fun r1 => some (((decide (0 ≤ r1.1.1.1), ()), ()), ())
def slices_ContainsFunc_int64_int64_5.s (k : Nat) : FS := ⟨[⟨false, [.lst (.int .i64)]⟩, ⟨false, [.fn 70 [(0, 0)]]⟩], [(0, .cbox [.lst (.int .i64), .int .i64, .lst tBlock])], false, [⟨false, [.bool]⟩], [], [], fun x => slices_ContainsFunc_int64_int64_5.f k x.1.1.1 x.2.1⟩
def slices_ContainsFunc_int64_int64_5.E (k : Nat) : Ents := [(⟨123, [70]⟩, slices_IndexFunc_int64_int64_5.s k)]
def slices_ContainsFunc_int64_int64_5.L : List (LS slices_ContainsFunc_int64_int64_5.R) := []
def slices_ContainsFunc_int64_int64_5.c : Code := Try.f69.body.getD .skip
theorem slices_ContainsFunc_int64_int64_5.eq (k : Nat) (x) : (slices_ContainsFunc_int64_int64_5.s k).pf x = execF tab (slices_ContainsFunc_int64_int64_5.E k) Try.f69 slices_ContainsFunc_int64_int64_5.c (slices_ContainsFunc_int64_int64_5.s k) slices_ContainsFunc_int64_int64_5.L x := by kernel_rfl
theorem slices_ContainsFunc_int64_int64_5.sound : ∀ k, Sound Try.prog 69 (slices_ContainsFunc_int64_int64_5.s k) := sound_of mixed tab_ok (f := 69) (fn := Try.f69) (c := slices_ContainsFunc_int64_int64_5.c) (by kernel_rfl) (by kernel_rfl) (by kernel_rfl) ⟨[⟨false, [.lst (.int .i64)]⟩, ⟨false, [.fn 70 [(0, 0)]]⟩], [(0, .cbox [.lst (.int .i64), .int .i64, .lst tBlock])], false, [⟨false, [.bool]⟩], [], []⟩ (by kernel_rfl) (by kernel_rfl) (fun k => (slices_ContainsFunc_int64_int64_5.s k).pf) slices_ContainsFunc_int64_int64_5.E (fun k => (EntsOK.cons (slices_IndexFunc_int64_int64_5.sound k) EntsOK.nil)) (fun k => slices_ContainsFunc_int64_int64_5.L) (fun k => trivial) trivial (fun k => trivial) slices_ContainsFunc_int64_int64_5.eq
end
end Go.Proofs.Ytkfehogikjcgkaa.V
namespace Go.Proofs.Ytkfehogikjcgkaa.V
open Go
set_option linter.unusedVariables false
noncomputable section
/-! ### impl.ownInst: function 162 -/
abbrev impl_ownInst.R := (((Int × Int × Int × Int × Int × Int × Unit × Unit) × Unit) × ((List Int) × Unit))
def impl_ownInst.f (k : Nat) (a0 : tInstD) : Option impl_ownInst.R := Option.bind (slices_Clone_int64_int64.f k a0.2.2.2.2.2.2.1) fun r1 => some (((a0.1, a0.2.1, a0.2.2.1, a0.2.2.2.1, a0.2.2.2.2.1, a0.2.2.2.2.2.1, (), ()), ()), (r1.2.1, ()))
def impl_ownInst.s (k : Nat) : FS := ⟨[⟨true, [.int .i64, .int .i64, .int .i64, .int .i64, .int .i64, .int .i64, .lst (.int .i64)]⟩], [], false, [⟨true, [.int .i64, .int .i64, .int .i64, .int .i64, .int .i64, .int .i64, .own 100]⟩], [(100, .row true (.int .i64))], [], fun x => impl_ownInst.f k x.1.1⟩
def impl_ownInst.E (k : Nat) : Ents := [(⟨160, []⟩, slices_Clone_int64_int64.s k)]
def impl_ownInst.L : List (LS impl_ownInst.R) := []
def impl_ownInst.c : Code := Try.f162.body.getD .skip
theorem impl_ownInst.eq (k : Nat) (x) : (impl_ownInst.s k).pf x = execF tab (impl_ownInst.E k) Try.f162 impl_ownInst.c (impl_ownInst.s k) impl_ownInst.L x := by kernel_rfl
theorem impl_ownInst.sound : ∀ k, Sound Try.prog 162 (impl_ownInst.s k) := sound_of mixed tab_ok (f := 162) (fn := Try.f162) (c := impl_ownInst.c) (by kernel_rfl) (by kernel_rfl) (by kernel_rfl) ⟨[⟨true, [.int .i64, .int .i64, .int .i64, .int .i64, .int .i64, .int .i64, .lst (.int .i64)]⟩], [], false, [⟨true, [.int .i64, .int .i64, .int .i64, .int .i64, .int .i64, .int .i64, .own 100]⟩], [(100, .row true (.int .i64))], []⟩ (by kernel_rfl) (by kernel_rfl) (fun k => (impl_ownInst.s k).pf) impl_ownInst.E (fun k => (EntsOK.cons (slices_Clone_int64_int64.sound k) EntsOK.nil)) (fun k => impl_ownInst.L) (fun k => trivial) trivial (fun k => trivial) impl_ownInst.eq
end
end Go.Proofs.Ytkfehogikjcgkaa.V
namespace Go.Proofs.Ytkfehogikjcgkaa.V
open Go
set_option linter.unusedVariables false
noncomputable section
/-! ### impl.ownBlock: function 161 -/
abbrev impl_ownBlock.R := (((Unit × Unit × Int × Int × Int × Int × Unit) × Unit) × ((List tPhiD) × (List tInstD) × Unit))
abbrev impl_ownBlock.T0 : Type := (List tPhiD) → Int → Int → tBlockD → Int → Int → Int → Int → (List tPhiD) → (List tInstD) → Int → Int → Int → Int → (List tPhiD) → (List tInstD) → Option impl_ownBlock.R
abbrev impl_ownBlock.T1 : Type := (List tInstD) → Int → Int → Int → Int → Int → Int → (List tPhiD) → (List tInstD) → Int → Int → Int → Int → (List tPhiD) → (List tInstD) → Option impl_ownBlock.R
def impl_ownBlock.l0_ (k : Nat) (l0 : impl_ownBlock.T0) (l1 : impl_ownBlock.T1) (a0 : List tPhiD) (a1 : Int) (a2 : Int) (a3 : tBlockD) (a4 : Int) (a5 : Int) (a6 : Int) (a7 : Int) (a8 : List tPhiD) (a9 : List tInstD) (a10 : Int) (a11 : Int) (a12 : Int) (a13 : Int) (a14 : List tPhiD) (a15 : List tInstD) : Option impl_ownBlock.R := bif decide (a2 < a1) then (bif (decide (0 ≤ a2)) && (decide (a2 < ((List.length a0 : Nat) : Int))) then (Option.bind (slices_Clone_int64_int64.f k ((List.getD a0 (Int.toNat a2) tPhiZ).2.1)) fun r1 => bif decide ((List.length a14 + List.length [(((List.getD a0 (Int.toNat a2) tPhiZ).1, r1.2.1, ()) : tPhiD)]) * 32 ≤ 140737488355328) then (l0 a0 a1 (IntKind.wrap .i64 (a2 + 1)) a3 a4 a5 a6 a7 a8 a9 a10 a11 a12 a13 (a14 ++ [(((List.getD a0 (Int.toNat a2) tPhiZ).1, r1.2.1, ()) : tPhiD)]) a15) else none) else none) else (l1 a3.2.1 ((List.length a3.2.1 : Nat) : Int) 0 a4 a5 a6 a7 a8 a9 a10 a11 a12 a13 a14 a15)
def impl_ownBlock.l1_ (k : Nat) (l0 : impl_ownBlock.T0) (l1 : impl_ownBlock.T1) (a0 : List tInstD) (a1 : Int) (a2 : Int) (a3 : Int) (a4 : Int) (a5 : Int) (a6 : Int) (a7 : List tPhiD) (a8 : List tInstD) (a9 : Int) (a10 : Int) (a11 : Int) (a12 : Int) (a13 : List tPhiD) (a14 : List tInstD) : Option impl_ownBlock.R := bif decide (a2 < a1) then (bif (decide (0 ≤ a2)) && (decide (a2 < ((List.length a0 : Nat) : Int))) then (Option.bind (impl_ownInst.f k (List.getD a0 (Int.toNat a2) tInstZ)) fun r1 => bif decide ((List.length a14 + List.length [((r1.1.1.1, r1.1.1.2.1, r1.1.1.2.2.1, r1.1.1.2.2.2.1, r1.1.1.2.2.2.2.1, r1.1.1.2.2.2.2.2.1, r1.2.1, ()) : tInstD)]) * 72 ≤ 140737488355328) then (l1 a0 a1 (IntKind.wrap .i64 (a2 + 1)) a3 a4 a5 a6 a7 a8 a9 a10 a11 a12 a13 (a14 ++ [((r1.1.1.1, r1.1.1.2.1, r1.1.1.2.2.1, r1.1.1.2.2.2.1, r1.1.1.2.2.2.2.1, r1.1.1.2.2.2.2.2.1, r1.2.1, ()) : tInstD)])) else none) else none) else (some ((((), (), a9, a10, a11, a12, ()), ()), (a13, a14, ())))
def impl_ownBlock.all : Nat → (impl_ownBlock.T0) × (impl_ownBlock.T1) × Unit
  | 0 => (fun _ _ _ _ _ _ _ _ _ _ _ _ _ _ _ _ => none, fun _ _ _ _ _ _ _ _ _ _ _ _ _ _ _ => none, ())
  | k + 1 => (impl_ownBlock.l0_ k (impl_ownBlock.all k).1 (impl_ownBlock.all k).2.1, impl_ownBlock.l1_ k (impl_ownBlock.all k).1 (impl_ownBlock.all k).2.1, ())
def impl_ownBlock.l0 (k : Nat) : impl_ownBlock.T0 := (impl_ownBlock.all k).1
def impl_ownBlock.l1 (k : Nat) : impl_ownBlock.T1 := (impl_ownBlock.all k).2.1
def impl_ownBlock.f (k : Nat) (a0 : tBlockD) : Option impl_ownBlock.R := impl_ownBlock.l0 k a0.1 ((List.length a0.1 : Nat) : Int) 0 a0 0 0 0 0 ([] : List tPhiD) ([] : List tInstD) a0.2.2.1 a0.2.2.2.1 a0.2.2.2.2.1 a0.2.2.2.2.2.1 ([] : List tPhiD) ([] : List tInstD)
def impl_ownBlock.s (k : Nat) : FS := ⟨[⟨true, [.lst tPhi, .lst tInst, .int .i64, .int .i64, .int .i64, .int .i64]⟩], [], false, [⟨true, [.own 100, .own 101, .int .i64, .int .i64, .int .i64, .int .i64]⟩], [(100, .row true tPhi), (101, .row true tInst)], [], fun x => impl_ownBlock.f k x.1.1⟩
def impl_ownBlock.E (k : Nat) : Ents := [(⟨160, []⟩, slices_Clone_int64_int64.s k), (⟨162, []⟩, impl_ownInst.s k)]
def impl_ownBlock.L0 (l : impl_ownBlock.T0) : LS impl_ownBlock.R := ⟨[], [(1, ⟨false, [.ptr 100000 0]⟩), (2, ⟨false, [.ptr 100001 0]⟩), (3, ⟨false, [.ptr 100004 0]⟩), (12, ⟨false, [.lst tPhi]⟩), (13, ⟨false, [.int .i64]⟩), (14, ⟨false, [.int .i64]⟩)], [(100000, .box [.lst tPhi, .lst tInst, .int .i64, .int .i64, .int .i64, .int .i64]), (100001, .box [.own 100002, .own 100003, .int .i64, .int .i64, .int .i64, .int .i64]), (100002, .row true tPhi), (100003, .row true tInst), (100004, .box [.own 100005, .own 100006, .int .i64, .int .i64, .int .i64, .int .i64]), (100005, .row true tPhi), (100006, .row true tInst)], fun x => l x.1.2.2.2.1.1 x.1.2.2.2.2.1.1 x.1.2.2.2.2.2.1.1 x.2.1 x.2.2.1.2.2.1 x.2.2.1.2.2.2.1 x.2.2.1.2.2.2.2.1 x.2.2.1.2.2.2.2.2.1 x.2.2.2.1 x.2.2.2.2.1 x.2.2.2.2.2.1.2.2.1 x.2.2.2.2.2.1.2.2.2.1 x.2.2.2.2.2.1.2.2.2.2.1 x.2.2.2.2.2.1.2.2.2.2.2.1 x.2.2.2.2.2.2.1 x.2.2.2.2.2.2.2.1⟩
def impl_ownBlock.L1 (l : impl_ownBlock.T1) : LS impl_ownBlock.R := ⟨[], [(2, ⟨false, [.ptr 100000 0]⟩), (3, ⟨false, [.ptr 100003 0]⟩), (31, ⟨false, [.lst tInst]⟩), (32, ⟨false, [.int .i64]⟩), (33, ⟨false, [.int .i64]⟩)], [(100000, .box [.own 100001, .own 100002, .int .i64, .int .i64, .int .i64, .int .i64]), (100001, .row true tPhi), (100002, .row true tInst), (100003, .box [.own 100004, .own 100005, .int .i64, .int .i64, .int .i64, .int .i64]), (100004, .row true tPhi), (100005, .row true tInst)], fun x => l x.1.2.2.1.1 x.1.2.2.2.1.1 x.1.2.2.2.2.1.1 x.2.1.2.2.1 x.2.1.2.2.2.1 x.2.1.2.2.2.2.1 x.2.1.2.2.2.2.2.1 x.2.2.1 x.2.2.2.1 x.2.2.2.2.1.2.2.1 x.2.2.2.2.1.2.2.2.1 x.2.2.2.2.1.2.2.2.2.1 x.2.2.2.2.1.2.2.2.2.2.1 x.2.2.2.2.2.1 x.2.2.2.2.2.2.1⟩
def impl_ownBlock.L (l0 : impl_ownBlock.T0) (l1 : impl_ownBlock.T1) : List (LS impl_ownBlock.R) := [impl_ownBlock.L0 l0, impl_ownBlock.L1 l1]
def impl_ownBlock.c : Code := Try.f161.body.getD .skip
theorem impl_ownBlock.eq (k : Nat) (x) : (impl_ownBlock.s k).pf x = execF tab (impl_ownBlock.E k) Try.f161 impl_ownBlock.c (impl_ownBlock.s k) (impl_ownBlock.L (impl_ownBlock.l0 k) (impl_ownBlock.l1 k)) x := by kernel_rfl
theorem impl_ownBlock.r0 (l0 : impl_ownBlock.T0) (l1 : impl_ownBlock.T1) (k : Nat) (x) : impl_ownBlock.l0_ k l0 l1 x.1.2.2.2.1.1 x.1.2.2.2.2.1.1 x.1.2.2.2.2.2.1.1 x.2.1 x.2.2.1.2.2.1 x.2.2.1.2.2.2.1 x.2.2.1.2.2.2.2.1 x.2.2.1.2.2.2.2.2.1 x.2.2.2.1 x.2.2.2.2.1 x.2.2.2.2.2.1.2.2.1 x.2.2.2.2.2.1.2.2.2.1 x.2.2.2.2.2.1.2.2.2.2.1 x.2.2.2.2.2.1.2.2.2.2.2.1 x.2.2.2.2.2.2.1 x.2.2.2.2.2.2.2.1 = roundOf tab (impl_ownBlock.E k) (impl_ownBlock.L l0 l1) impl_ownBlock.c (fin tab Try.f161 (impl_ownBlock.s k)) 0 (impl_ownBlock.L0 l0) x := by kernel_rfl
theorem impl_ownBlock.r1 (l0 : impl_ownBlock.T0) (l1 : impl_ownBlock.T1) (k : Nat) (x) : impl_ownBlock.l1_ k l0 l1 x.1.2.2.1.1 x.1.2.2.2.1.1 x.1.2.2.2.2.1.1 x.2.1.2.2.1 x.2.1.2.2.2.1 x.2.1.2.2.2.2.1 x.2.1.2.2.2.2.2.1 x.2.2.1 x.2.2.2.1 x.2.2.2.2.1.2.2.1 x.2.2.2.2.1.2.2.2.1 x.2.2.2.2.1.2.2.2.2.1 x.2.2.2.2.1.2.2.2.2.2.1 x.2.2.2.2.2.1 x.2.2.2.2.2.2.1 = roundOf tab (impl_ownBlock.E k) (impl_ownBlock.L l0 l1) impl_ownBlock.c (fin tab Try.f161 (impl_ownBlock.s k)) 1 (impl_ownBlock.L1 l1) x := by kernel_rfl
theorem impl_ownBlock.sound : ∀ k, Sound Try.prog 161 (impl_ownBlock.s k) := sound_of mixed tab_ok (f := 161) (fn := Try.f161) (c := impl_ownBlock.c) (by kernel_rfl) (by kernel_rfl) (by kernel_rfl) ⟨[⟨true, [.lst tPhi, .lst tInst, .int .i64, .int .i64, .int .i64, .int .i64]⟩], [], false, [⟨true, [.own 100, .own 101, .int .i64, .int .i64, .int .i64, .int .i64]⟩], [(100, .row true tPhi), (101, .row true tInst)], []⟩ (by kernel_rfl) (by kernel_rfl) (fun k => (impl_ownBlock.s k).pf) impl_ownBlock.E (fun k => (EntsOK.cons (slices_Clone_int64_int64.sound k) (EntsOK.cons (impl_ownInst.sound k) EntsOK.nil))) (fun k => impl_ownBlock.L (impl_ownBlock.l0 k) (impl_ownBlock.l1 k)) (fun k => ⟨rfl, rfl, trivial⟩) ⟨fun _ => rfl, fun _ => rfl, trivial⟩ (fun k => ⟨⟨(impl_ownBlock.L0 (impl_ownBlock.l0 (k + 1))).l, rfl, fun x => impl_ownBlock.r0 (impl_ownBlock.l0 k) (impl_ownBlock.l1 k) k x⟩, ⟨(impl_ownBlock.L1 (impl_ownBlock.l1 (k + 1))).l, rfl, fun x => impl_ownBlock.r1 (impl_ownBlock.l0 k) (impl_ownBlock.l1 k) k x⟩, trivial⟩) impl_ownBlock.eq
end
end Go.Proofs.Ytkfehogikjcgkaa.V
namespace Go.Proofs.Ytkfehogikjcgkaa.V
open Go
set_option linter.unusedVariables false
noncomputable section
/-! ### impl.ownFunc: function 124 -/
abbrev impl_ownFunc.R := (((Unit × Int × Unit × Unit) × Unit) × ((List Int) × (List tBlockD) × Unit))
abbrev impl_ownFunc.T0 : Type := (List tBlockD) → Int → Int → Int → (List Int) → (List tBlockD) → Int → (List Int) → (List tBlockD) → Option impl_ownFunc.R
def impl_ownFunc.l0_ (k : Nat) (l0 : impl_ownFunc.T0) (a0 : List tBlockD) (a1 : Int) (a2 : Int) (a3 : Int) (a4 : List Int) (a5 : List tBlockD) (a6 : Int) (a7 : List Int) (a8 : List tBlockD) : Option impl_ownFunc.R := bif decide (a2 < a1) then (bif (decide (0 ≤ a2)) && (decide (a2 < ((List.length a0 : Nat) : Int))) then (Option.bind (impl_ownBlock.f k (List.getD a0 (Int.toNat a2) tBlockZ)) fun r1 => bif decide ((List.length a8 + List.length [((r1.2.1, r1.2.2.1, r1.1.1.2.2.1, r1.1.1.2.2.2.1, r1.1.1.2.2.2.2.1, r1.1.1.2.2.2.2.2.1, ()) : tBlockD)]) * 80 ≤ 140737488355328) then (l0 a0 a1 (IntKind.wrap .i64 (a2 + 1)) a3 a4 a5 a6 a7 (a8 ++ [((r1.2.1, r1.2.2.1, r1.1.1.2.2.1, r1.1.1.2.2.2.1, r1.1.1.2.2.2.2.1, r1.1.1.2.2.2.2.2.1, ()) : tBlockD)])) else none) else none) else (some ((((), a6, (), ()), ()), (a7, a8, ())))
def impl_ownFunc.all : Nat → (impl_ownFunc.T0) × Unit
  | 0 => (fun _ _ _ _ _ _ _ _ _ => none, ())
  | k + 1 => (impl_ownFunc.l0_ k (impl_ownFunc.all k).1, ())
def impl_ownFunc.l0 (k : Nat) : impl_ownFunc.T0 := (impl_ownFunc.all k).1
def impl_ownFunc.f (k : Nat) (a0 : tFuncD) : Option impl_ownFunc.R := Option.bind (slices_Clone_int64_int64.f k a0.1) fun r1 => impl_ownFunc.l0 k a0.2.2.1 ((List.length a0.2.2.1 : Nat) : Int) 0 0 ([] : List Int) ([] : List tBlockD) a0.2.1 r1.2.1 ([] : List tBlockD)
def impl_ownFunc.s (k : Nat) : FS := ⟨[⟨true, [.lst (.int .i64), .int .i64, .lst tBlock]⟩], [], false, [⟨true, [.own 100, .int .i64, .own 101]⟩], [(100, .row true (.int .i64)), (101, .row true tBlock)], [], fun x => impl_ownFunc.f k x.1.1⟩
def impl_ownFunc.E (k : Nat) : Ents := [(⟨160, []⟩, slices_Clone_int64_int64.s k), (⟨161, []⟩, impl_ownBlock.s k)]
def impl_ownFunc.L0 (l : impl_ownFunc.T0) : LS impl_ownFunc.R := ⟨[], [(2, ⟨false, [.ptr 100000 0]⟩), (3, ⟨false, [.ptr 100003 0]⟩), (13, ⟨false, [.lst tBlock]⟩), (14, ⟨false, [.int .i64]⟩), (15, ⟨false, [.int .i64]⟩)], [(100000, .box [.own 100001, .int .i64, .own 100002]), (100001, .row true (.int .i64)), (100002, .row true tBlock), (100003, .box [.own 100004, .int .i64, .own 100005]), (100004, .row true (.int .i64)), (100005, .row true tBlock)], fun x => l x.1.2.2.1.1 x.1.2.2.2.1.1 x.1.2.2.2.2.1.1 x.2.1.2.1 x.2.2.1 x.2.2.2.1 x.2.2.2.2.1.2.1 x.2.2.2.2.2.1 x.2.2.2.2.2.2.1⟩
def impl_ownFunc.L (l0 : impl_ownFunc.T0) : List (LS impl_ownFunc.R) := [impl_ownFunc.L0 l0]
def impl_ownFunc.c : Code := Try.f124.body.getD .skip
theorem impl_ownFunc.eq (k : Nat) (x) : (impl_ownFunc.s k).pf x = execF tab (impl_ownFunc.E k) Try.f124 impl_ownFunc.c (impl_ownFunc.s k) (impl_ownFunc.L (impl_ownFunc.l0 k)) x := by kernel_rfl
theorem impl_ownFunc.r0 (l0 : impl_ownFunc.T0) (k : Nat) (x) : impl_ownFunc.l0_ k l0 x.1.2.2.1.1 x.1.2.2.2.1.1 x.1.2.2.2.2.1.1 x.2.1.2.1 x.2.2.1 x.2.2.2.1 x.2.2.2.2.1.2.1 x.2.2.2.2.2.1 x.2.2.2.2.2.2.1 = roundOf tab (impl_ownFunc.E k) (impl_ownFunc.L l0) impl_ownFunc.c (fin tab Try.f124 (impl_ownFunc.s k)) 0 (impl_ownFunc.L0 l0) x := by kernel_rfl
theorem impl_ownFunc.sound : ∀ k, Sound Try.prog 124 (impl_ownFunc.s k) := sound_of mixed tab_ok (f := 124) (fn := Try.f124) (c := impl_ownFunc.c) (by kernel_rfl) (by kernel_rfl) (by kernel_rfl) ⟨[⟨true, [.lst (.int .i64), .int .i64, .lst tBlock]⟩], [], false, [⟨true, [.own 100, .int .i64, .own 101]⟩], [(100, .row true (.int .i64)), (101, .row true tBlock)], []⟩ (by kernel_rfl) (by kernel_rfl) (fun k => (impl_ownFunc.s k).pf) impl_ownFunc.E (fun k => (EntsOK.cons (slices_Clone_int64_int64.sound k) (EntsOK.cons (impl_ownBlock.sound k) EntsOK.nil))) (fun k => impl_ownFunc.L (impl_ownFunc.l0 k)) (fun k => ⟨rfl, trivial⟩) ⟨fun _ => rfl, trivial⟩ (fun k => ⟨⟨(impl_ownFunc.L0 (impl_ownFunc.l0 (k + 1))).l, rfl, fun x => impl_ownFunc.r0 (impl_ownFunc.l0 k) k x⟩, trivial⟩) impl_ownFunc.eq
end
end Go.Proofs.Ytkfehogikjcgkaa.V
namespace Go.Proofs.Ytkfehogikjcgkaa.V
open Go
set_option linter.unusedVariables false
noncomputable section
/-! ### impl.Substituted$2: function 73 -/
abbrev impl_Substituted_2.R := (((Int × Unit) × Unit) × Unit)
def impl_Substituted_2.f (k : Nat) (a0 : Int) (a1 : List Int) : Option impl_Substituted_2.R := bif (decide (0 ≤ a0)) && (decide (a0 < ((List.length a1 : Nat) : Int))) then (some (((List.getD a1 (Int.toNat a0) 0, ()), ()), ())) else none
def impl_Substituted_2.s (k : Nat) : FS := ⟨[⟨false, [.int .i64]⟩, ⟨false, [.ptr 0 0]⟩], [(0, .cbox [.lst (.int .i64)])], false, [⟨false, [.int .i64]⟩], [], [], fun x => impl_Substituted_2.f k x.1.1.1 x.2.1.1⟩
def impl_Substituted_2.E (k : Nat) : Ents := []
def impl_Substituted_2.L : List (LS impl_Substituted_2.R) := []
def impl_Substituted_2.c : Code := Try.f73.body.getD .skip
theorem impl_Substituted_2.eq (k : Nat) (x) : (impl_Substituted_2.s k).pf x = execF tab (impl_Substituted_2.E k) Try.f73 impl_Substituted_2.c (impl_Substituted_2.s k) impl_Substituted_2.L x := by kernel_rfl
theorem impl_Substituted_2.sound : ∀ k, Sound Try.prog 73 (impl_Substituted_2.s k) := sound_of mixed tab_ok (f := 73) (fn := Try.f73) (c := impl_Substituted_2.c) (by kernel_rfl) (by kernel_rfl) (by kernel_rfl) ⟨[⟨false, [.int .i64]⟩, ⟨false, [.ptr 0 0]⟩], [(0, .cbox [.lst (.int .i64)])], false, [⟨false, [.int .i64]⟩], [], []⟩ (by kernel_rfl) (by kernel_rfl) (fun k => (impl_Substituted_2.s k).pf) impl_Substituted_2.E (fun k => EntsOK.nil) (fun k => impl_Substituted_2.L) (fun k => trivial) trivial (fun k => trivial) impl_Substituted_2.eq
end
end Go.Proofs.Ytkfehogikjcgkaa.V
namespace Go.Proofs.Ytkfehogikjcgkaa.V
open Go
set_option linter.unusedVariables false
noncomputable section
/-! ### impl.endNames: function 118 -/
abbrev impl_endNames.R := (((Unit × Unit) × Unit) × ((List Int) × Unit))
def impl_endNames.f (k : Nat) (a0 : tTermD) : Option impl_endNames.R := bif decide (a0.1 = 1) then (some ((((), ()), ()), ([a0.2.1], ()))) else (bif decide (a0.1 = 3) then (some ((((), ()), ()), ([a0.2.1], ()))) else (some ((((), ()), ()), (([] : List Int), ()))))
def impl_endNames.s (k : Nat) : FS := ⟨[⟨true, [.int .i64, .int .i64, .int .i64, .int .i64]⟩], [], false, [⟨false, [.own 100]⟩], [(100, .row true (.int .i64))], [], fun x => impl_endNames.f k x.1.1⟩
def impl_endNames.E (k : Nat) : Ents := []
def impl_endNames.L : List (LS impl_endNames.R) := []
def impl_endNames.c : Code := Try.f118.body.getD .skip
theorem impl_endNames.eq (k : Nat) (x) : (impl_endNames.s k).pf x = execF tab (impl_endNames.E k) Try.f118 impl_endNames.c (impl_endNames.s k) impl_endNames.L x := by kernel_rfl
theorem impl_endNames.sound : ∀ k, Sound Try.prog 118 (impl_endNames.s k) := sound_of mixed tab_ok (f := 118) (fn := Try.f118) (c := impl_endNames.c) (by kernel_rfl) (by kernel_rfl) (by kernel_rfl) ⟨[⟨true, [.int .i64, .int .i64, .int .i64, .int .i64]⟩], [], false, [⟨false, [.own 100]⟩], [(100, .row true (.int .i64))], []⟩ (by kernel_rfl) (by kernel_rfl) (fun k => (impl_endNames.s k).pf) impl_endNames.E (fun k => EntsOK.nil) (fun k => impl_endNames.L) (fun k => trivial) trivial (fun k => trivial) impl_endNames.eq
end
end Go.Proofs.Ytkfehogikjcgkaa.V
namespace Go.Proofs.Ytkfehogikjcgkaa.V
open Go
set_option linter.unusedVariables false
noncomputable section
/-! ### impl.endRenamed: function 126 -/
abbrev impl_endRenamed.R := (((Int × Int × Int × Int × Unit) × Unit) × Unit)
def impl_endRenamed.f (k : Nat) (a0 : tTermD) (a1 : List Int) : Option impl_endRenamed.R := Option.bind (impl_endNames.f k a0) fun r1 => bif decide (0 < ((List.length r1.2.1 : Nat) : Int)) then (Option.bind (impl_Substituted_2.f k a0.2.1 a1) fun r2 => some (((a0.1, r2.1.1.1, a0.2.2.1, a0.2.2.2.1, ()), ()), ())) else (some ((a0, ()), ()))
def impl_endRenamed.s (k : Nat) : FS := ⟨[⟨true, [.int .i64, .int .i64, .int .i64, .int .i64]⟩, ⟨false, [.fn 73 [(0, 0)]]⟩], [(0, .cbox [.lst (.int .i64)])], false, [⟨true, [.int .i64, .int .i64, .int .i64, .int .i64]⟩], [], [], fun x => impl_endRenamed.f k x.1.1 x.2.1.1⟩
def impl_endRenamed.E (k : Nat) : Ents := [(⟨118, []⟩, impl_endNames.s k), (⟨73, []⟩, impl_Substituted_2.s k)]
def impl_endRenamed.L : List (LS impl_endRenamed.R) := []
def impl_endRenamed.c : Code := Try.f126.body.getD .skip
theorem impl_endRenamed.eq (k : Nat) (x) : (impl_endRenamed.s k).pf x = execF tab (impl_endRenamed.E k) Try.f126 impl_endRenamed.c (impl_endRenamed.s k) impl_endRenamed.L x := by kernel_rfl
theorem impl_endRenamed.sound : ∀ k, Sound Try.prog 126 (impl_endRenamed.s k) := sound_of mixed tab_ok (f := 126) (fn := Try.f126) (c := impl_endRenamed.c) (by kernel_rfl) (by kernel_rfl) (by kernel_rfl) ⟨[⟨true, [.int .i64, .int .i64, .int .i64, .int .i64]⟩, ⟨false, [.fn 73 [(0, 0)]]⟩], [(0, .cbox [.lst (.int .i64)])], false, [⟨true, [.int .i64, .int .i64, .int .i64, .int .i64]⟩], [], []⟩ (by kernel_rfl) (by kernel_rfl) (fun k => (impl_endRenamed.s k).pf) impl_endRenamed.E (fun k => (EntsOK.cons (impl_endNames.sound k) (EntsOK.cons (impl_Substituted_2.sound k) EntsOK.nil))) (fun k => impl_endRenamed.L) (fun k => trivial) trivial (fun k => trivial) impl_endRenamed.eq
end
end Go.Proofs.Ytkfehogikjcgkaa.V
namespace Go.Proofs.Ytkfehogikjcgkaa.V
open Go
set_option linter.unusedVariables false
noncomputable section
/-! ### impl.renamed: function 125 -/
abbrev impl_renamed.R := (((Int × Int × Int × Int × Int × Int × Unit × Unit) × Unit) × ((List Int) × Unit))
abbrev impl_renamed.T0 : Type := (List Int) → Int → Int → (List Int) → Int → Int → Int → Int → Int → Int → (List Int) → Int → Int → Int → Int → Int → Int → (List Int) → Option impl_renamed.R
abbrev impl_renamed.T1 : Type := Int → Int → (List Int) → Int → Int → Int → Int → Int → Int → (List Int) → Int → Int → Int → Int → Int → Int → (List Int) → (List Int) → Option impl_renamed.R
def impl_renamed.l0_ (k : Nat) (l0 : impl_renamed.T0) (l1 : impl_renamed.T1) (a0 : List Int) (a1 : Int) (a2 : Int) (a3 : List Int) (a4 : Int) (a5 : Int) (a6 : Int) (a7 : Int) (a8 : Int) (a9 : Int) (a10 : List Int) (a11 : Int) (a12 : Int) (a13 : Int) (a14 : Int) (a15 : Int) (a16 : Int) (a17 : List Int) : Option impl_renamed.R := bif decide (a2 < a1) then (bif (decide (0 ≤ a2)) && (decide (a2 < ((List.length a0 : Nat) : Int))) then (Option.bind (impl_Substituted_2.f k (List.getD a0 (Int.toNat a2) 0) a3) fun r1 => bif (decide (0 ≤ a2)) && (decide (a2 < ((List.length a17 : Nat) : Int))) then (l0 a0 a1 (IntKind.wrap .i64 (a2 + 1)) a3 a4 a5 a6 a7 a8 a9 a10 a11 a12 a13 a14 a15 a16 (List.set a17 (Int.toNat a2) r1.1.1.1)) else none) else none) else (some (((a11, a12, a13, a14, a15, a16, (), ()), ()), (a17, ())))
def impl_renamed.l1_ (k : Nat) (l0 : impl_renamed.T0) (l1 : impl_renamed.T1) (a0 : Int) (a1 : Int) (a2 : List Int) (a3 : Int) (a4 : Int) (a5 : Int) (a6 : Int) (a7 : Int) (a8 : Int) (a9 : List Int) (a10 : Int) (a11 : Int) (a12 : Int) (a13 : Int) (a14 : Int) (a15 : Int) (a16 : List Int) (a17 : List Int) : Option impl_renamed.R := bif decide (a1 < a0) then (bif (decide (0 ≤ a1)) && (decide (a1 < ((List.length a17 : Nat) : Int))) then (bif (decide (0 ≤ a1)) && (decide (a1 < ((3 : Nat) : Int))) then (bif decide (Int.toNat a1 = 0) then (Option.bind (impl_Substituted_2.f k (List.getD a17 (Int.toNat a1) 0) a2) fun r1 => l1 a0 (IntKind.wrap .i64 (a1 + 1)) a2 a3 a4 a5 a6 a7 a8 a9 a10 a11 r1.1.1.1 a13 a14 a15 a16 a17) else (bif decide (Int.toNat a1 = 1) then (Option.bind (impl_Substituted_2.f k (List.getD a17 (Int.toNat a1) 0) a2) fun r2 => l1 a0 (IntKind.wrap .i64 (a1 + 1)) a2 a3 a4 a5 a6 a7 a8 a9 a10 a11 a12 r2.1.1.1 a14 a15 a16 a17) else (bif decide (Int.toNat a1 = 2) then (Option.bind (impl_Substituted_2.f k (List.getD a17 (Int.toNat a1) 0) a2) fun r3 => l1 a0 (IntKind.wrap .i64 (a1 + 1)) a2 a3 a4 a5 a6 a7 a8 a9 a10 a11 a12 a13 r3.1.1.1 a15 a16 a17) else none))) else none) else none) else (some (((a10, a11, a12, a13, a14, a15, (), ()), ()), (a16, ())))
def impl_renamed.all : Nat → (impl_renamed.T0) × (impl_renamed.T1) × Unit
  | 0 => (fun _ _ _ _ _ _ _ _ _ _ _ _ _ _ _ _ _ _ => none, fun _ _ _ _ _ _ _ _ _ _ _ _ _ _ _ _ _ _ => none, ())
  | k + 1 => (impl_renamed.l0_ k (impl_renamed.all k).1 (impl_renamed.all k).2.1, impl_renamed.l1_ k (impl_renamed.all k).1 (impl_renamed.all k).2.1, ())
def impl_renamed.l0 (k : Nat) : impl_renamed.T0 := (impl_renamed.all k).1
def impl_renamed.l1 (k : Nat) : impl_renamed.T1 := (impl_renamed.all k).2.1
def impl_renamed.f (k : Nat) (a0 : tInstD) (a1 : List Int) : Option impl_renamed.R := Option.bind (impl_ownInst.f k a0) fun r1 => bif decide (a0.1 = 26) then (impl_renamed.l0 k a0.2.2.2.2.2.2.1 ((List.length a0.2.2.2.2.2.2.1 : Nat) : Int) 0 a1 0 0 0 0 0 0 ([] : List Int) r1.1.1.1 r1.1.1.2.1 r1.1.1.2.2.1 r1.1.1.2.2.2.1 r1.1.1.2.2.2.2.1 r1.1.1.2.2.2.2.2.1 r1.2.1) else (Option.bind (impl_OperandsOf.f k a0) fun r2 => impl_renamed.l1 k ((List.length r2.2.1 : Nat) : Int) 0 a1 0 0 0 0 0 0 ([] : List Int) r1.1.1.1 r1.1.1.2.1 r1.1.1.2.2.1 r1.1.1.2.2.2.1 r1.1.1.2.2.2.2.1 r1.1.1.2.2.2.2.2.1 r1.2.1 r2.2.1)
def impl_renamed.s (k : Nat) : FS := ⟨[⟨true, [.int .i64, .int .i64, .int .i64, .int .i64, .int .i64, .int .i64, .lst (.int .i64)]⟩, ⟨false, [.fn 73 [(0, 0)]]⟩], [(0, .cbox [.lst (.int .i64)])], false, [⟨true, [.int .i64, .int .i64, .int .i64, .int .i64, .int .i64, .int .i64, .own 100]⟩], [(100, .row true (.int .i64))], [], fun x => impl_renamed.f k x.1.1 x.2.1.1⟩
def impl_renamed.E (k : Nat) : Ents := [(⟨162, []⟩, impl_ownInst.s k), (⟨142, []⟩, impl_OperandsOf.s k), (⟨73, []⟩, impl_Substituted_2.s k)]
def impl_renamed.L0 (l : impl_renamed.T0) : LS impl_renamed.R := ⟨[], [(1, ⟨false, [.fn 73 [(0, 0)]]⟩), (4, ⟨false, [.ptr 100001 0]⟩), (5, ⟨false, [.ptr 100003 0]⟩), (17, ⟨false, [.lst (.int .i64)]⟩), (18, ⟨false, [.int .i64]⟩), (19, ⟨false, [.int .i64]⟩)], [(0, .cbox [.lst (.int .i64)]), (100001, .box [.int .i64, .int .i64, .int .i64, .int .i64, .int .i64, .int .i64, .own 100002]), (100002, .row true (.int .i64)), (100003, .box [.int .i64, .int .i64, .int .i64, .int .i64, .int .i64, .int .i64, .own 100004]), (100004, .row true (.int .i64))], fun x => l x.1.2.2.2.1.1 x.1.2.2.2.2.1.1 x.1.2.2.2.2.2.1.1 x.2.1.1 x.2.2.1.1 x.2.2.1.2.1 x.2.2.1.2.2.1 x.2.2.1.2.2.2.1 x.2.2.1.2.2.2.2.1 x.2.2.1.2.2.2.2.2.1 x.2.2.2.1 x.2.2.2.2.1.1 x.2.2.2.2.1.2.1 x.2.2.2.2.1.2.2.1 x.2.2.2.2.1.2.2.2.1 x.2.2.2.2.1.2.2.2.2.1 x.2.2.2.2.1.2.2.2.2.2.1 x.2.2.2.2.2.1⟩
def impl_renamed.L1 (l : impl_renamed.T1) : LS impl_renamed.R := ⟨[], [(1, ⟨false, [.fn 73 [(0, 0)]]⟩), (4, ⟨false, [.ptr 100001 0]⟩), (5, ⟨false, [.ptr 100003 0]⟩), (8, ⟨false, [.prs [(100003, 2), (100003, 3), (100003, 4)]]⟩), (38, ⟨false, [.own 100005]⟩), (39, ⟨false, [.int .i64]⟩), (40, ⟨false, [.int .i64]⟩)], [(0, .cbox [.lst (.int .i64)]), (100001, .box [.int .i64, .int .i64, .int .i64, .int .i64, .int .i64, .int .i64, .own 100002]), (100002, .row true (.int .i64)), (100003, .box [.int .i64, .int .i64, .int .i64, .int .i64, .int .i64, .int .i64, .own 100004]), (100004, .row true (.int .i64)), (100005, .row true (.int .i64))], fun x => l x.1.2.2.2.2.2.1.1 x.1.2.2.2.2.2.2.1.1 x.2.1.1 x.2.2.1.1 x.2.2.1.2.1 x.2.2.1.2.2.1 x.2.2.1.2.2.2.1 x.2.2.1.2.2.2.2.1 x.2.2.1.2.2.2.2.2.1 x.2.2.2.1 x.2.2.2.2.1.1 x.2.2.2.2.1.2.1 x.2.2.2.2.1.2.2.1 x.2.2.2.2.1.2.2.2.1 x.2.2.2.2.1.2.2.2.2.1 x.2.2.2.2.1.2.2.2.2.2.1 x.2.2.2.2.2.1 x.2.2.2.2.2.2.1⟩
def impl_renamed.L (l0 : impl_renamed.T0) (l1 : impl_renamed.T1) : List (LS impl_renamed.R) := [impl_renamed.L0 l0, impl_renamed.L1 l1]
def impl_renamed.c : Code := Try.f125.body.getD .skip
theorem impl_renamed.eq (k : Nat) (x) : (impl_renamed.s k).pf x = execF tab (impl_renamed.E k) Try.f125 impl_renamed.c (impl_renamed.s k) (impl_renamed.L (impl_renamed.l0 k) (impl_renamed.l1 k)) x := by kernel_rfl
theorem impl_renamed.r0 (l0 : impl_renamed.T0) (l1 : impl_renamed.T1) (k : Nat) (x) : impl_renamed.l0_ k l0 l1 x.1.2.2.2.1.1 x.1.2.2.2.2.1.1 x.1.2.2.2.2.2.1.1 x.2.1.1 x.2.2.1.1 x.2.2.1.2.1 x.2.2.1.2.2.1 x.2.2.1.2.2.2.1 x.2.2.1.2.2.2.2.1 x.2.2.1.2.2.2.2.2.1 x.2.2.2.1 x.2.2.2.2.1.1 x.2.2.2.2.1.2.1 x.2.2.2.2.1.2.2.1 x.2.2.2.2.1.2.2.2.1 x.2.2.2.2.1.2.2.2.2.1 x.2.2.2.2.1.2.2.2.2.2.1 x.2.2.2.2.2.1 = roundOf tab (impl_renamed.E k) (impl_renamed.L l0 l1) impl_renamed.c (fin tab Try.f125 (impl_renamed.s k)) 0 (impl_renamed.L0 l0) x := by kernel_rfl
theorem impl_renamed.r1 (l0 : impl_renamed.T0) (l1 : impl_renamed.T1) (k : Nat) (x) : impl_renamed.l1_ k l0 l1 x.1.2.2.2.2.2.1.1 x.1.2.2.2.2.2.2.1.1 x.2.1.1 x.2.2.1.1 x.2.2.1.2.1 x.2.2.1.2.2.1 x.2.2.1.2.2.2.1 x.2.2.1.2.2.2.2.1 x.2.2.1.2.2.2.2.2.1 x.2.2.2.1 x.2.2.2.2.1.1 x.2.2.2.2.1.2.1 x.2.2.2.2.1.2.2.1 x.2.2.2.2.1.2.2.2.1 x.2.2.2.2.1.2.2.2.2.1 x.2.2.2.2.1.2.2.2.2.2.1 x.2.2.2.2.2.1 x.2.2.2.2.2.2.1 = roundOf tab (impl_renamed.E k) (impl_renamed.L l0 l1) impl_renamed.c (fin tab Try.f125 (impl_renamed.s k)) 1 (impl_renamed.L1 l1) x := by kernel_rfl
theorem impl_renamed.sound : ∀ k, Sound Try.prog 125 (impl_renamed.s k) := sound_of mixed tab_ok (f := 125) (fn := Try.f125) (c := impl_renamed.c) (by kernel_rfl) (by kernel_rfl) (by kernel_rfl) ⟨[⟨true, [.int .i64, .int .i64, .int .i64, .int .i64, .int .i64, .int .i64, .lst (.int .i64)]⟩, ⟨false, [.fn 73 [(0, 0)]]⟩], [(0, .cbox [.lst (.int .i64)])], false, [⟨true, [.int .i64, .int .i64, .int .i64, .int .i64, .int .i64, .int .i64, .own 100]⟩], [(100, .row true (.int .i64))], []⟩ (by kernel_rfl) (by kernel_rfl) (fun k => (impl_renamed.s k).pf) impl_renamed.E (fun k => (EntsOK.cons (impl_ownInst.sound k) (EntsOK.cons (impl_OperandsOf.sound k) (EntsOK.cons (impl_Substituted_2.sound k) EntsOK.nil)))) (fun k => impl_renamed.L (impl_renamed.l0 k) (impl_renamed.l1 k)) (fun k => ⟨rfl, rfl, trivial⟩) ⟨fun _ => rfl, fun _ => rfl, trivial⟩ (fun k => ⟨⟨(impl_renamed.L0 (impl_renamed.l0 (k + 1))).l, rfl, fun x => impl_renamed.r0 (impl_renamed.l0 k) (impl_renamed.l1 k) k x⟩, ⟨(impl_renamed.L1 (impl_renamed.l1 (k + 1))).l, rfl, fun x => impl_renamed.r1 (impl_renamed.l0 k) (impl_renamed.l1 k) k x⟩, trivial⟩) impl_renamed.eq
end
end Go.Proofs.Ytkfehogikjcgkaa.V
namespace Go.Proofs.Ytkfehogikjcgkaa.V
open Go
set_option linter.unusedVariables false
noncomputable section
/-! ### impl.substituted: function 72 -/
abbrev impl_substituted.R := (((Unit × Int × Unit × Unit) × Unit) × ((List Int) × (List tBlockD) × Unit))
abbrev impl_substituted.T0 : Type := Int → Int → (List Int) → Int → (List Int) → (List tBlockD) → Int → (List Int) → (List tBlockD) → Option impl_substituted.R
abbrev impl_substituted.T1 : Type := Int → Int → Int → Int → (List Int) → Int → (List Int) → (List tBlockD) → Int → (List Int) → (List tBlockD) → Nat → Int → Int → Int → Int → (List tPhiD) → (List tInstD) → Int → Int → Int → Int → Option impl_substituted.R
abbrev impl_substituted.T2 : Type := Int → Int → Int → Int → Int → Int → (List Int) → Int → (List Int) → (List tBlockD) → Int → (List Int) → (List tBlockD) → Nat → Int → Int → Int → Int → (List tPhiD) → Nat → Int → (List Int) → (List tInstD) → Int → Int → Int → Int → Int → Option impl_substituted.R
def impl_substituted.l0_ (k : Nat) (l0 : impl_substituted.T0) (l1 : impl_substituted.T1) (l2 : impl_substituted.T2) (l3 : impl_substituted.T1) (l4 : impl_substituted.T0) (a0 : Int) (a1 : Int) (a2 : List Int) (a3 : Int) (a4 : List Int) (a5 : List tBlockD) (a6 : Int) (a7 : List Int) (a8 : List tBlockD) : Option impl_substituted.R := bif decide (a1 < a0) then (bif (decide (0 ≤ a1)) && (decide (a1 < ((List.length a8 : Nat) : Int))) then (bif (decide (0 ≤ a1)) && (decide (a1 < ((List.length a8 : Nat) : Int))) then (bif decide (Int.toNat a1 = Int.toNat a1) then (l1 a0 a1 ((List.length ((List.getD a8 (Int.toNat a1) tBlockZ).1) : Nat) : Int) 0 a2 a3 a4 a5 a6 a7 a8 (Int.toNat a1) ((List.getD a8 (Int.toNat a1) tBlockZ).2.2.1) ((List.getD a8 (Int.toNat a1) tBlockZ).2.2.2.1) ((List.getD a8 (Int.toNat a1) tBlockZ).2.2.2.2.1) ((List.getD a8 (Int.toNat a1) tBlockZ).2.2.2.2.2.1) ((List.getD a8 (Int.toNat a1) tBlockZ).1) ((List.getD a8 (Int.toNat a1) tBlockZ).2.1) ((List.getD a8 (Int.toNat a1) tBlockZ).2.2.1) ((List.getD a8 (Int.toNat a1) tBlockZ).2.2.2.1) ((List.getD a8 (Int.toNat a1) tBlockZ).2.2.2.2.1) ((List.getD a8 (Int.toNat a1) tBlockZ).2.2.2.2.2.1)) else none) else none) else none) else (l4 ((List.length a8 : Nat) : Int) 0 a2 a3 a4 a5 a6 a7 a8)
def impl_substituted.l1_ (k : Nat) (l0 : impl_substituted.T0) (l1 : impl_substituted.T1) (l2 : impl_substituted.T2) (l3 : impl_substituted.T1) (l4 : impl_substituted.T0) (a0 : Int) (a1 : Int) (a2 : Int) (a3 : Int) (a4 : List Int) (a5 : Int) (a6 : List Int) (a7 : List tBlockD) (a8 : Int) (a9 : List Int) (a10 : List tBlockD) (a11 : Nat) (a12 : Int) (a13 : Int) (a14 : Int) (a15 : Int) (a16 : List tPhiD) (a17 : List tInstD) (a18 : Int) (a19 : Int) (a20 : Int) (a21 : Int) : Option impl_substituted.R := bif decide (a3 < a2) then (bif (decide (0 ≤ a3)) && (decide (a3 < ((List.length a16 : Nat) : Int))) then (bif (decide (0 ≤ a3)) && (decide (a3 < ((List.length a16 : Nat) : Int))) then (bif decide (Int.toNat a3 = Int.toNat a3) then (l2 a0 a1 a2 a3 ((List.length ((List.getD a16 (Int.toNat a3) tPhiZ).2.1) : Nat) : Int) 0 a4 a5 a6 a7 a8 a9 a10 a11 a12 a13 a14 a15 a16 (Int.toNat a3) ((List.getD a16 (Int.toNat a3) tPhiZ).1) ((List.getD a16 (Int.toNat a3) tPhiZ).2.1) a17 a18 a19 a20 a21 ((List.getD a16 (Int.toNat a3) tPhiZ).1)) else none) else none) else none) else (l3 a0 a1 ((List.length a17 : Nat) : Int) 0 a4 a5 a6 a7 a8 a9 a10 a11 a12 a13 a14 a15 a16 a17 a18 a19 a20 a21)
def impl_substituted.l2_ (k : Nat) (l0 : impl_substituted.T0) (l1 : impl_substituted.T1) (l2 : impl_substituted.T2) (l3 : impl_substituted.T1) (l4 : impl_substituted.T0) (a0 : Int) (a1 : Int) (a2 : Int) (a3 : Int) (a4 : Int) (a5 : Int) (a6 : List Int) (a7 : Int) (a8 : List Int) (a9 : List tBlockD) (a10 : Int) (a11 : List Int) (a12 : List tBlockD) (a13 : Nat) (a14 : Int) (a15 : Int) (a16 : Int) (a17 : Int) (a18 : List tPhiD) (a19 : Nat) (a20 : Int) (a21 : List Int) (a22 : List tInstD) (a23 : Int) (a24 : Int) (a25 : Int) (a26 : Int) (a27 : Int) : Option impl_substituted.R := bif decide (a5 < a4) then (bif (decide (0 ≤ a5)) && (decide (a5 < ((List.length a21 : Nat) : Int))) then (Option.bind (impl_Substituted_2.f k (List.getD a21 (Int.toNat a5) 0) a6) fun r1 => bif (decide (0 ≤ a5)) && (decide (a5 < ((List.length a21 : Nat) : Int))) then (l2 a0 a1 a2 a3 a4 (IntKind.wrap .i64 (a5 + 1)) a6 a7 a8 a9 a10 a11 a12 a13 a14 a15 a16 a17 a18 a19 a20 (List.set a21 (Int.toNat a5) r1.1.1.1) a22 a23 a24 a25 a26 a27) else none) else none) else (l1 a0 a1 a2 (IntKind.wrap .i64 (a3 + 1)) a6 a7 a8 a9 a10 a11 a12 a13 a14 a15 a16 a17 (List.set a18 a19 (a20, a21, ())) a22 a23 a24 a25 a26)
def impl_substituted.l3_ (k : Nat) (l0 : impl_substituted.T0) (l1 : impl_substituted.T1) (l2 : impl_substituted.T2) (l3 : impl_substituted.T1) (l4 : impl_substituted.T0) (a0 : Int) (a1 : Int) (a2 : Int) (a3 : Int) (a4 : List Int) (a5 : Int) (a6 : List Int) (a7 : List tBlockD) (a8 : Int) (a9 : List Int) (a10 : List tBlockD) (a11 : Nat) (a12 : Int) (a13 : Int) (a14 : Int) (a15 : Int) (a16 : List tPhiD) (a17 : List tInstD) (a18 : Int) (a19 : Int) (a20 : Int) (a21 : Int) : Option impl_substituted.R := bif decide (a3 < a2) then (bif (decide (0 ≤ a3)) && (decide (a3 < ((List.length a17 : Nat) : Int))) then (bif (decide (0 ≤ a3)) && (decide (a3 < ((List.length a17 : Nat) : Int))) then (bif decide (Int.toNat a3 = Int.toNat a3) then (Option.bind (impl_renamed.f k (List.getD a17 (Int.toNat a3) tInstZ) a4) fun r1 => bif (decide (0 ≤ a3)) && (decide (a3 < ((List.length a17 : Nat) : Int))) then (bif decide (Int.toNat a3 = Int.toNat a3) then (l3 a0 a1 a2 (IntKind.wrap .i64 (a3 + 1)) a4 a5 a6 a7 a8 a9 a10 a11 a12 a13 a14 a15 a16 (List.set a17 (Int.toNat a3) (r1.1.1.1, r1.1.1.2.1, r1.1.1.2.2.1, r1.1.1.2.2.2.1, r1.1.1.2.2.2.2.1, r1.1.1.2.2.2.2.2.1, r1.2.1, ())) a18 a19 a20 a21) else none) else none) else none) else none) else none) else (l0 a0 (IntKind.wrap .i64 (a1 + 1)) a4 a5 a6 a7 a8 a9 (List.set a10 a11 (a16, a17, a12, a13, a14, a15, ())))
def impl_substituted.l4_ (k : Nat) (l0 : impl_substituted.T0) (l1 : impl_substituted.T1) (l2 : impl_substituted.T2) (l3 : impl_substituted.T1) (l4 : impl_substituted.T0) (a0 : Int) (a1 : Int) (a2 : List Int) (a3 : Int) (a4 : List Int) (a5 : List tBlockD) (a6 : Int) (a7 : List Int) (a8 : List tBlockD) : Option impl_substituted.R := bif decide (a1 < a0) then (bif (decide (0 ≤ a1)) && (decide (a1 < ((List.length a8 : Nat) : Int))) then (bif (decide (0 ≤ a1)) && (decide (a1 < ((List.length a8 : Nat) : Int))) then (bif decide (Int.toNat a1 = Int.toNat a1) then (Option.bind (impl_endRenamed.f k ((List.getD a8 (Int.toNat a1) tBlockZ).2.2) a2) fun r1 => bif (decide (0 ≤ a1)) && (decide (a1 < ((List.length a8 : Nat) : Int))) then (bif decide (Int.toNat a1 = Int.toNat a1) then (l4 a0 (IntKind.wrap .i64 (a1 + 1)) a2 a3 a4 a5 a6 a7 (List.set a8 (Int.toNat a1) ((List.getD a8 (Int.toNat a1) tBlockZ).1, (List.getD a8 (Int.toNat a1) tBlockZ).2.1, r1.1.1.1, r1.1.1.2.1, r1.1.1.2.2.1, r1.1.1.2.2.2.1, ()))) else none) else none) else none) else none) else none) else (some ((((), a6, (), ()), ()), (a7, a8, ())))
def impl_substituted.all : Nat → (impl_substituted.T0) × (impl_substituted.T1) × (impl_substituted.T2) × (impl_substituted.T1) × (impl_substituted.T0) × Unit
  | 0 => (fun _ _ _ _ _ _ _ _ _ => none, fun _ _ _ _ _ _ _ _ _ _ _ _ _ _ _ _ _ _ _ _ _ _ => none, fun _ _ _ _ _ _ _ _ _ _ _ _ _ _ _ _ _ _ _ _ _ _ _ _ _ _ _ _ => none, fun _ _ _ _ _ _ _ _ _ _ _ _ _ _ _ _ _ _ _ _ _ _ => none, fun _ _ _ _ _ _ _ _ _ => none, ())
  | k + 1 => (impl_substituted.l0_ k (impl_substituted.all k).1 (impl_substituted.all k).2.1 (impl_substituted.all k).2.2.1 (impl_substituted.all k).2.2.2.1 (impl_substituted.all k).2.2.2.2.1, impl_substituted.l1_ k (impl_substituted.all k).1 (impl_substituted.all k).2.1 (impl_substituted.all k).2.2.1 (impl_substituted.all k).2.2.2.1 (impl_substituted.all k).2.2.2.2.1, impl_substituted.l2_ k (impl_substituted.all k).1 (impl_substituted.all k).2.1 (impl_substituted.all k).2.2.1 (impl_substituted.all k).2.2.2.1 (impl_substituted.all k).2.2.2.2.1, impl_substituted.l3_ k (impl_substituted.all k).1 (impl_substituted.all k).2.1 (impl_substituted.all k).2.2.1 (impl_substituted.all k).2.2.2.1 (impl_substituted.all k).2.2.2.2.1, impl_substituted.l4_ k (impl_substituted.all k).1 (impl_substituted.all k).2.1 (impl_substituted.all k).2.2.1 (impl_substituted.all k).2.2.2.1 (impl_substituted.all k).2.2.2.2.1, ())
def impl_substituted.l0 (k : Nat) : impl_substituted.T0 := (impl_substituted.all k).1
def impl_substituted.l1 (k : Nat) : impl_substituted.T1 := (impl_substituted.all k).2.1
def impl_substituted.l2 (k : Nat) : impl_substituted.T2 := (impl_substituted.all k).2.2.1
def impl_substituted.l3 (k : Nat) : impl_substituted.T1 := (impl_substituted.all k).2.2.2.1
def impl_substituted.l4 (k : Nat) : impl_substituted.T0 := (impl_substituted.all k).2.2.2.2.1
def impl_substituted.f (k : Nat) (a0 : tFuncD) (a1 : List Int) : Option impl_substituted.R := Option.bind (impl_ownFunc.f k a0) fun r1 => impl_substituted.l0 k ((List.length r1.2.2.1 : Nat) : Int) 0 a1 0 ([] : List Int) ([] : List tBlockD) r1.1.1.2.1 r1.2.1 r1.2.2.1
def impl_substituted.s (k : Nat) : FS := ⟨[⟨true, [.lst (.int .i64), .int .i64, .lst tBlock]⟩, ⟨false, [.fn 73 [(0, 0)]]⟩], [(0, .cbox [.lst (.int .i64)])], false, [⟨true, [.own 100, .int .i64, .own 101]⟩], [(100, .row true (.int .i64)), (101, .row true tBlock)], [], fun x => impl_substituted.f k x.1.1 x.2.1.1⟩
def impl_substituted.E (k : Nat) : Ents := [(⟨124, []⟩, impl_ownFunc.s k), (⟨126, [73]⟩, impl_endRenamed.s k), (⟨73, []⟩, impl_Substituted_2.s k), (⟨125, [73]⟩, impl_renamed.s k), (⟨124, [999998, 4, 1, 100006, 20, 2000000]⟩, impl_ownFunc.s k), (⟨124, [999998, 7, 1, 100007, 27, 2000100]⟩, impl_ownFunc.s k), (⟨124, [999998, 23, 1, 100006, 14, 2000300]⟩, impl_ownFunc.s k), (⟨124, [999998, 24, 2, 100006]⟩, impl_ownFunc.s k), (⟨124, [999998, 13, 2, 100007]⟩, impl_ownFunc.s k), (⟨124, [999998, 16, 1, 100008, 51, 2000200]⟩, impl_ownFunc.s k), (⟨124, [999998, 18, 2, 100008]⟩, impl_ownFunc.s k), (⟨124, [999998, 19, 2, 100006]⟩, impl_ownFunc.s k)]
def impl_substituted.L0 (l : impl_substituted.T0) : LS impl_substituted.R := ⟨[], [(1, ⟨false, [.fn 73 [(0, 0)]]⟩), (4, ⟨false, [.ptr 100001 0]⟩), (5, ⟨false, [.ptr 100004 0]⟩), (18, ⟨false, [.own 100006]⟩), (19, ⟨false, [.int .i64]⟩), (20, ⟨false, [.int .i64]⟩)], [(0, .cbox [.lst (.int .i64)]), (100001, .box [.own 100002, .int .i64, .own 100003]), (100002, .row true (.int .i64)), (100003, .row true tBlock), (100004, .box [.own 100005, .int .i64, .own 100006]), (100005, .row true (.int .i64)), (100006, .row true tBlock)], fun x => l x.1.2.2.2.2.1.1 x.1.2.2.2.2.2.1.1 x.2.1.1 x.2.2.1.2.1 x.2.2.2.1 x.2.2.2.2.1 x.2.2.2.2.2.1.2.1 x.2.2.2.2.2.2.1 x.2.2.2.2.2.2.2.1⟩
def impl_substituted.L1 (l : impl_substituted.T1) : LS impl_substituted.R := ⟨[], [(1, ⟨false, [.fn 73 [(0, 0)]]⟩), (4, ⟨false, [.ptr 100001 0]⟩), (5, ⟨false, [.ptr 100004 0]⟩), (7, ⟨false, [.ptr 100009 0]⟩), (18, ⟨false, [.own 100006]⟩), (19, ⟨false, [.int .i64]⟩), (20, ⟨false, [.int .i64]⟩), (25, ⟨false, [.own 100007]⟩), (26, ⟨false, [.int .i64]⟩), (27, ⟨false, [.int .i64]⟩)], [(0, .cbox [.lst (.int .i64)]), (100001, .box [.own 100002, .int .i64, .own 100003]), (100002, .row true (.int .i64)), (100003, .row true tBlock), (100004, .box [.own 100005, .int .i64, .own 100006]), (100005, .row true (.int .i64)), (100006, .orow tBlock [.own 100007, .own 100008, .int .i64, .int .i64, .int .i64, .int .i64]), (100007, .row true tPhi), (100008, .row true tInst), (100009, .box [.own 100007, .own 100008, .int .i64, .int .i64, .int .i64, .int .i64])], fun x => l x.1.2.2.2.2.2.1.1 x.1.2.2.2.2.2.2.1.1 x.1.2.2.2.2.2.2.2.2.1.1 x.1.2.2.2.2.2.2.2.2.2.1.1 x.2.1.1 x.2.2.1.2.1 x.2.2.2.1 x.2.2.2.2.1 x.2.2.2.2.2.1.2.1 x.2.2.2.2.2.2.1 x.2.2.2.2.2.2.2.1.1.1 x.2.2.2.2.2.2.2.1.1.2 x.2.2.2.2.2.2.2.1.2.2.2.1 x.2.2.2.2.2.2.2.1.2.2.2.2.1 x.2.2.2.2.2.2.2.1.2.2.2.2.2.1 x.2.2.2.2.2.2.2.1.2.2.2.2.2.2.1 x.2.2.2.2.2.2.2.2.1 x.2.2.2.2.2.2.2.2.2.1 x.2.2.2.2.2.2.2.2.2.2.1.2.2.1 x.2.2.2.2.2.2.2.2.2.2.1.2.2.2.1 x.2.2.2.2.2.2.2.2.2.2.1.2.2.2.2.1 x.2.2.2.2.2.2.2.2.2.2.1.2.2.2.2.2.1⟩
def impl_substituted.L2 (l : impl_substituted.T2) : LS impl_substituted.R := ⟨[], [(1, ⟨false, [.fn 73 [(0, 0)]]⟩), (4, ⟨false, [.ptr 100001 0]⟩), (5, ⟨false, [.ptr 100004 0]⟩), (7, ⟨false, [.ptr 100010 0]⟩), (9, ⟨false, [.ptr 100011 0]⟩), (18, ⟨false, [.own 100006]⟩), (19, ⟨false, [.int .i64]⟩), (20, ⟨false, [.int .i64]⟩), (25, ⟨false, [.own 100007]⟩), (26, ⟨false, [.int .i64]⟩), (27, ⟨false, [.int .i64]⟩), (32, ⟨false, [.own 100008]⟩), (33, ⟨false, [.int .i64]⟩), (34, ⟨false, [.int .i64]⟩)], [(0, .cbox [.lst (.int .i64)]), (100001, .box [.own 100002, .int .i64, .own 100003]), (100002, .row true (.int .i64)), (100003, .row true tBlock), (100004, .box [.own 100005, .int .i64, .own 100006]), (100005, .row true (.int .i64)), (100006, .orow tBlock [.own 100007, .own 100009, .int .i64, .int .i64, .int .i64, .int .i64]), (100007, .orow tPhi [.int .i64, .own 100008]), (100008, .row true (.int .i64)), (100009, .row true tInst), (100010, .box [.own 100007, .own 100009, .int .i64, .int .i64, .int .i64, .int .i64]), (100011, .box [.int .i64, .own 100008])], fun x => l x.1.2.2.2.2.2.2.1.1 x.1.2.2.2.2.2.2.2.1.1 x.1.2.2.2.2.2.2.2.2.2.1.1 x.1.2.2.2.2.2.2.2.2.2.2.1.1 x.1.2.2.2.2.2.2.2.2.2.2.2.2.1.1 x.1.2.2.2.2.2.2.2.2.2.2.2.2.2.1.1 x.2.1.1 x.2.2.1.2.1 x.2.2.2.1 x.2.2.2.2.1 x.2.2.2.2.2.1.2.1 x.2.2.2.2.2.2.1 x.2.2.2.2.2.2.2.1.1.1 x.2.2.2.2.2.2.2.1.1.2 x.2.2.2.2.2.2.2.1.2.2.2.1 x.2.2.2.2.2.2.2.1.2.2.2.2.1 x.2.2.2.2.2.2.2.1.2.2.2.2.2.1 x.2.2.2.2.2.2.2.1.2.2.2.2.2.2.1 x.2.2.2.2.2.2.2.2.1.1.1 x.2.2.2.2.2.2.2.2.1.1.2 x.2.2.2.2.2.2.2.2.1.2.1 x.2.2.2.2.2.2.2.2.2.1 x.2.2.2.2.2.2.2.2.2.2.1 x.2.2.2.2.2.2.2.2.2.2.2.1.2.2.1 x.2.2.2.2.2.2.2.2.2.2.2.1.2.2.2.1 x.2.2.2.2.2.2.2.2.2.2.2.1.2.2.2.2.1 x.2.2.2.2.2.2.2.2.2.2.2.1.2.2.2.2.2.1 x.2.2.2.2.2.2.2.2.2.2.2.2.1.1⟩
def impl_substituted.L3 (l : impl_substituted.T1) : LS impl_substituted.R := ⟨[], [(1, ⟨false, [.fn 73 [(0, 0)]]⟩), (4, ⟨false, [.ptr 100001 0]⟩), (5, ⟨false, [.ptr 100004 0]⟩), (7, ⟨false, [.ptr 100009 0]⟩), (18, ⟨false, [.own 100006]⟩), (19, ⟨false, [.int .i64]⟩), (20, ⟨false, [.int .i64]⟩), (49, ⟨false, [.own 100008]⟩), (50, ⟨false, [.int .i64]⟩), (51, ⟨false, [.int .i64]⟩)], [(0, .cbox [.lst (.int .i64)]), (100001, .box [.own 100002, .int .i64, .own 100003]), (100002, .row true (.int .i64)), (100003, .row true tBlock), (100004, .box [.own 100005, .int .i64, .own 100006]), (100005, .row true (.int .i64)), (100006, .orow tBlock [.own 100007, .own 100008, .int .i64, .int .i64, .int .i64, .int .i64]), (100007, .row true tPhi), (100008, .row true tInst), (100009, .box [.own 100007, .own 100008, .int .i64, .int .i64, .int .i64, .int .i64])], fun x => l x.1.2.2.2.2.2.1.1 x.1.2.2.2.2.2.2.1.1 x.1.2.2.2.2.2.2.2.2.1.1 x.1.2.2.2.2.2.2.2.2.2.1.1 x.2.1.1 x.2.2.1.2.1 x.2.2.2.1 x.2.2.2.2.1 x.2.2.2.2.2.1.2.1 x.2.2.2.2.2.2.1 x.2.2.2.2.2.2.2.1.1.1 x.2.2.2.2.2.2.2.1.1.2 x.2.2.2.2.2.2.2.1.2.2.2.1 x.2.2.2.2.2.2.2.1.2.2.2.2.1 x.2.2.2.2.2.2.2.1.2.2.2.2.2.1 x.2.2.2.2.2.2.2.1.2.2.2.2.2.2.1 x.2.2.2.2.2.2.2.2.1 x.2.2.2.2.2.2.2.2.2.1 x.2.2.2.2.2.2.2.2.2.2.1.2.2.1 x.2.2.2.2.2.2.2.2.2.2.1.2.2.2.1 x.2.2.2.2.2.2.2.2.2.2.1.2.2.2.2.1 x.2.2.2.2.2.2.2.2.2.2.1.2.2.2.2.2.1⟩
def impl_substituted.L4 (l : impl_substituted.T0) : LS impl_substituted.R := ⟨[], [(1, ⟨false, [.fn 73 [(0, 0)]]⟩), (4, ⟨false, [.ptr 100001 0]⟩), (5, ⟨false, [.ptr 100004 0]⟩), (67, ⟨false, [.int .i64]⟩), (68, ⟨false, [.int .i64]⟩)], [(0, .cbox [.lst (.int .i64)]), (100001, .box [.own 100002, .int .i64, .own 100003]), (100002, .row true (.int .i64)), (100003, .row true tBlock), (100004, .box [.own 100005, .int .i64, .own 100006]), (100005, .row true (.int .i64)), (100006, .row true tBlock)], fun x => l x.1.2.2.2.1.1 x.1.2.2.2.2.1.1 x.2.1.1 x.2.2.1.2.1 x.2.2.2.1 x.2.2.2.2.1 x.2.2.2.2.2.1.2.1 x.2.2.2.2.2.2.1 x.2.2.2.2.2.2.2.1⟩
def impl_substituted.L (l0 : impl_substituted.T0) (l1 : impl_substituted.T1) (l2 : impl_substituted.T2) (l3 : impl_substituted.T1) (l4 : impl_substituted.T0) : List (LS impl_substituted.R) := [impl_substituted.L0 l0, impl_substituted.L1 l1, impl_substituted.L2 l2, impl_substituted.L3 l3, impl_substituted.L4 l4]
def impl_substituted.c : Code := Try.f72.body.getD .skip
theorem impl_substituted.eq (k : Nat) (x) : (impl_substituted.s k).pf x = execF tab (impl_substituted.E k) Try.f72 impl_substituted.c (impl_substituted.s k) (impl_substituted.L (impl_substituted.l0 k) (impl_substituted.l1 k) (impl_substituted.l2 k) (impl_substituted.l3 k) (impl_substituted.l4 k)) x := by kernel_rfl
theorem impl_substituted.r0 (l0 : impl_substituted.T0) (l1 : impl_substituted.T1) (l2 : impl_substituted.T2) (l3 : impl_substituted.T1) (l4 : impl_substituted.T0) (k : Nat) (x) : impl_substituted.l0_ k l0 l1 l2 l3 l4 x.1.2.2.2.2.1.1 x.1.2.2.2.2.2.1.1 x.2.1.1 x.2.2.1.2.1 x.2.2.2.1 x.2.2.2.2.1 x.2.2.2.2.2.1.2.1 x.2.2.2.2.2.2.1 x.2.2.2.2.2.2.2.1 = roundOf tab (impl_substituted.E k) (impl_substituted.L l0 l1 l2 l3 l4) impl_substituted.c (fin tab Try.f72 (impl_substituted.s k)) 0 (impl_substituted.L0 l0) x := by kernel_rfl
theorem impl_substituted.r1 (l0 : impl_substituted.T0) (l1 : impl_substituted.T1) (l2 : impl_substituted.T2) (l3 : impl_substituted.T1) (l4 : impl_substituted.T0) (k : Nat) (x) : impl_substituted.l1_ k l0 l1 l2 l3 l4 x.1.2.2.2.2.2.1.1 x.1.2.2.2.2.2.2.1.1 x.1.2.2.2.2.2.2.2.2.1.1 x.1.2.2.2.2.2.2.2.2.2.1.1 x.2.1.1 x.2.2.1.2.1 x.2.2.2.1 x.2.2.2.2.1 x.2.2.2.2.2.1.2.1 x.2.2.2.2.2.2.1 x.2.2.2.2.2.2.2.1.1.1 x.2.2.2.2.2.2.2.1.1.2 x.2.2.2.2.2.2.2.1.2.2.2.1 x.2.2.2.2.2.2.2.1.2.2.2.2.1 x.2.2.2.2.2.2.2.1.2.2.2.2.2.1 x.2.2.2.2.2.2.2.1.2.2.2.2.2.2.1 x.2.2.2.2.2.2.2.2.1 x.2.2.2.2.2.2.2.2.2.1 x.2.2.2.2.2.2.2.2.2.2.1.2.2.1 x.2.2.2.2.2.2.2.2.2.2.1.2.2.2.1 x.2.2.2.2.2.2.2.2.2.2.1.2.2.2.2.1 x.2.2.2.2.2.2.2.2.2.2.1.2.2.2.2.2.1 = roundOf tab (impl_substituted.E k) (impl_substituted.L l0 l1 l2 l3 l4) impl_substituted.c (fin tab Try.f72 (impl_substituted.s k)) 1 (impl_substituted.L1 l1) x := by kernel_rfl
theorem impl_substituted.r2 (l0 : impl_substituted.T0) (l1 : impl_substituted.T1) (l2 : impl_substituted.T2) (l3 : impl_substituted.T1) (l4 : impl_substituted.T0) (k : Nat) (x) : impl_substituted.l2_ k l0 l1 l2 l3 l4 x.1.2.2.2.2.2.2.1.1 x.1.2.2.2.2.2.2.2.1.1 x.1.2.2.2.2.2.2.2.2.2.1.1 x.1.2.2.2.2.2.2.2.2.2.2.1.1 x.1.2.2.2.2.2.2.2.2.2.2.2.2.1.1 x.1.2.2.2.2.2.2.2.2.2.2.2.2.2.1.1 x.2.1.1 x.2.2.1.2.1 x.2.2.2.1 x.2.2.2.2.1 x.2.2.2.2.2.1.2.1 x.2.2.2.2.2.2.1 x.2.2.2.2.2.2.2.1.1.1 x.2.2.2.2.2.2.2.1.1.2 x.2.2.2.2.2.2.2.1.2.2.2.1 x.2.2.2.2.2.2.2.1.2.2.2.2.1 x.2.2.2.2.2.2.2.1.2.2.2.2.2.1 x.2.2.2.2.2.2.2.1.2.2.2.2.2.2.1 x.2.2.2.2.2.2.2.2.1.1.1 x.2.2.2.2.2.2.2.2.1.1.2 x.2.2.2.2.2.2.2.2.1.2.1 x.2.2.2.2.2.2.2.2.2.1 x.2.2.2.2.2.2.2.2.2.2.1 x.2.2.2.2.2.2.2.2.2.2.2.1.2.2.1 x.2.2.2.2.2.2.2.2.2.2.2.1.2.2.2.1 x.2.2.2.2.2.2.2.2.2.2.2.1.2.2.2.2.1 x.2.2.2.2.2.2.2.2.2.2.2.1.2.2.2.2.2.1 x.2.2.2.2.2.2.2.2.2.2.2.2.1.1 = roundOf tab (impl_substituted.E k) (impl_substituted.L l0 l1 l2 l3 l4) impl_substituted.c (fin tab Try.f72 (impl_substituted.s k)) 2 (impl_substituted.L2 l2) x := by kernel_rfl
theorem impl_substituted.r3 (l0 : impl_substituted.T0) (l1 : impl_substituted.T1) (l2 : impl_substituted.T2) (l3 : impl_substituted.T1) (l4 : impl_substituted.T0) (k : Nat) (x) : impl_substituted.l3_ k l0 l1 l2 l3 l4 x.1.2.2.2.2.2.1.1 x.1.2.2.2.2.2.2.1.1 x.1.2.2.2.2.2.2.2.2.1.1 x.1.2.2.2.2.2.2.2.2.2.1.1 x.2.1.1 x.2.2.1.2.1 x.2.2.2.1 x.2.2.2.2.1 x.2.2.2.2.2.1.2.1 x.2.2.2.2.2.2.1 x.2.2.2.2.2.2.2.1.1.1 x.2.2.2.2.2.2.2.1.1.2 x.2.2.2.2.2.2.2.1.2.2.2.1 x.2.2.2.2.2.2.2.1.2.2.2.2.1 x.2.2.2.2.2.2.2.1.2.2.2.2.2.1 x.2.2.2.2.2.2.2.1.2.2.2.2.2.2.1 x.2.2.2.2.2.2.2.2.1 x.2.2.2.2.2.2.2.2.2.1 x.2.2.2.2.2.2.2.2.2.2.1.2.2.1 x.2.2.2.2.2.2.2.2.2.2.1.2.2.2.1 x.2.2.2.2.2.2.2.2.2.2.1.2.2.2.2.1 x.2.2.2.2.2.2.2.2.2.2.1.2.2.2.2.2.1 = roundOf tab (impl_substituted.E k) (impl_substituted.L l0 l1 l2 l3 l4) impl_substituted.c (fin tab Try.f72 (impl_substituted.s k)) 3 (impl_substituted.L3 l3) x := by kernel_rfl
theorem impl_substituted.r4 (l0 : impl_substituted.T0) (l1 : impl_substituted.T1) (l2 : impl_substituted.T2) (l3 : impl_substituted.T1) (l4 : impl_substituted.T0) (k : Nat) (x) : impl_substituted.l4_ k l0 l1 l2 l3 l4 x.1.2.2.2.1.1 x.1.2.2.2.2.1.1 x.2.1.1 x.2.2.1.2.1 x.2.2.2.1 x.2.2.2.2.1 x.2.2.2.2.2.1.2.1 x.2.2.2.2.2.2.1 x.2.2.2.2.2.2.2.1 = roundOf tab (impl_substituted.E k) (impl_substituted.L l0 l1 l2 l3 l4) impl_substituted.c (fin tab Try.f72 (impl_substituted.s k)) 4 (impl_substituted.L4 l4) x := by kernel_rfl
theorem impl_substituted.sound : ∀ k, Sound Try.prog 72 (impl_substituted.s k) := sound_of mixed tab_ok (f := 72) (fn := Try.f72) (c := impl_substituted.c) (by kernel_rfl) (by kernel_rfl) (by kernel_rfl) ⟨[⟨true, [.lst (.int .i64), .int .i64, .lst tBlock]⟩, ⟨false, [.fn 73 [(0, 0)]]⟩], [(0, .cbox [.lst (.int .i64)])], false, [⟨true, [.own 100, .int .i64, .own 101]⟩], [(100, .row true (.int .i64)), (101, .row true tBlock)], []⟩ (by kernel_rfl) (by kernel_rfl) (fun k => (impl_substituted.s k).pf) impl_substituted.E (fun k => (EntsOK.cons (impl_ownFunc.sound k) (EntsOK.cons (impl_endRenamed.sound k) (EntsOK.cons (impl_Substituted_2.sound k) (EntsOK.cons (impl_renamed.sound k) (EntsOK.cons (impl_ownFunc.sound k) (EntsOK.cons (impl_ownFunc.sound k) (EntsOK.cons (impl_ownFunc.sound k) (EntsOK.cons (impl_ownFunc.sound k) (EntsOK.cons (impl_ownFunc.sound k) (EntsOK.cons (impl_ownFunc.sound k) (EntsOK.cons (impl_ownFunc.sound k) (EntsOK.cons (impl_ownFunc.sound k) EntsOK.nil))))))))))))) (fun k => impl_substituted.L (impl_substituted.l0 k) (impl_substituted.l1 k) (impl_substituted.l2 k) (impl_substituted.l3 k) (impl_substituted.l4 k)) (fun k => ⟨rfl, rfl, rfl, rfl, rfl, trivial⟩) ⟨fun _ => rfl, fun _ => rfl, fun _ => rfl, fun _ => rfl, fun _ => rfl, trivial⟩ (fun k => ⟨⟨(impl_substituted.L0 (impl_substituted.l0 (k + 1))).l, rfl, fun x => impl_substituted.r0 (impl_substituted.l0 k) (impl_substituted.l1 k) (impl_substituted.l2 k) (impl_substituted.l3 k) (impl_substituted.l4 k) k x⟩, ⟨(impl_substituted.L1 (impl_substituted.l1 (k + 1))).l, rfl, fun x => impl_substituted.r1 (impl_substituted.l0 k) (impl_substituted.l1 k) (impl_substituted.l2 k) (impl_substituted.l3 k) (impl_substituted.l4 k) k x⟩, ⟨(impl_substituted.L2 (impl_substituted.l2 (k + 1))).l, rfl, fun x => impl_substituted.r2 (impl_substituted.l0 k) (impl_substituted.l1 k) (impl_substituted.l2 k) (impl_substituted.l3 k) (impl_substituted.l4 k) k x⟩, ⟨(impl_substituted.L3 (impl_substituted.l3 (k + 1))).l, rfl, fun x => impl_substituted.r3 (impl_substituted.l0 k) (impl_substituted.l1 k) (impl_substituted.l2 k) (impl_substituted.l3 k) (impl_substituted.l4 k) k x⟩, ⟨(impl_substituted.L4 (impl_substituted.l4 (k + 1))).l, rfl, fun x => impl_substituted.r4 (impl_substituted.l0 k) (impl_substituted.l1 k) (impl_substituted.l2 k) (impl_substituted.l3 k) (impl_substituted.l4 k) k x⟩, trivial⟩) impl_substituted.eq
end
end Go.Proofs.Ytkfehogikjcgkaa.V
namespace Go.Proofs.Ytkfehogikjcgkaa.V
open Go
set_option linter.unusedVariables false
noncomputable section
/-! ### impl.Substituted: function 34 -/
abbrev impl_Substituted.R := (((Unit × Int × Unit × Unit) × (Bool × Unit) × Unit) × ((List Int) × (List tBlockD) × Unit))
def impl_Substituted.f (k : Nat) (a0 : tFuncD) (a1 : List Int) : Option impl_Substituted.R := Option.bind (impl_isFormed.f k a0) fun r1 => bif !r1.1.1.1 then (some ((((), 0, (), ()), (false, ()), ()), (([] : List Int), ([] : List tBlockD), ()))) else (Option.bind (impl_CountOf.f k a0) fun r2 => bif !decide (((List.length a1 : Nat) : Int) = r2.1.1.1) then (some ((((), 0, (), ()), (false, ()), ()), (([] : List Int), ([] : List tBlockD), ()))) else (Option.bind (slices_ContainsFunc_int64_int64_5.f k a1 a0) fun r3 => bif r3.1.1.1 then (some ((((), 0, (), ()), (false, ()), ()), (([] : List Int), ([] : List tBlockD), ()))) else (Option.bind (impl_substituted.f k a0 a1) fun r4 => some ((((), r4.1.1.2.1, (), ()), (true, ()), ()), (r4.2.1, r4.2.2.1, ())))))
def impl_Substituted.s (k : Nat) : FS := ⟨[⟨true, [.lst (.int .i64), .int .i64, .lst tBlock]⟩, ⟨false, [.lst (.int .i64)]⟩], [], true, [⟨true, [.own 100, .int .i64, .own 101]⟩, ⟨false, [.bool]⟩], [(100, .row true (.int .i64)), (101, .row true tBlock)], [], fun x => impl_Substituted.f k x.1.1 x.1.2.1.1⟩
def impl_Substituted.E (k : Nat) : Ents := [(⟨64, []⟩, impl_isFormed.s k), (⟨68, []⟩, impl_CountOf.s k), (⟨69, [70]⟩, slices_ContainsFunc_int64_int64_5.s k), (⟨72, [73]⟩, impl_substituted.s k)]
def impl_Substituted.L : List (LS impl_Substituted.R) := []
def impl_Substituted.c : Code := Try.f34.body.getD .skip
theorem impl_Substituted.eq (k : Nat) (x) : (impl_Substituted.s k).pf x = execF tab (impl_Substituted.E k) Try.f34 impl_Substituted.c (impl_Substituted.s k) impl_Substituted.L x := by kernel_rfl
theorem impl_Substituted.sound : ∀ k, Sound Try.prog 34 (impl_Substituted.s k) := sound_of mixed tab_ok (f := 34) (fn := Try.f34) (c := impl_Substituted.c) (by kernel_rfl) (by kernel_rfl) (by kernel_rfl) ⟨[⟨true, [.lst (.int .i64), .int .i64, .lst tBlock]⟩, ⟨false, [.lst (.int .i64)]⟩], [], true, [⟨true, [.own 100, .int .i64, .own 101]⟩, ⟨false, [.bool]⟩], [(100, .row true (.int .i64)), (101, .row true tBlock)], []⟩ (by kernel_rfl) (by kernel_rfl) (fun k => (impl_Substituted.s k).pf) impl_Substituted.E (fun k => (EntsOK.cons (impl_isFormed.sound k) (EntsOK.cons (impl_CountOf.sound k) (EntsOK.cons (slices_ContainsFunc_int64_int64_5.sound k) (EntsOK.cons (impl_substituted.sound k) EntsOK.nil))))) (fun k => impl_Substituted.L) (fun k => trivial) trivial (fun k => trivial) impl_Substituted.eq
end
end Go.Proofs.Ytkfehogikjcgkaa.V
namespace Go.Proofs.Ytkfehogikjcgkaa.V
open Go
set_option linter.unusedVariables false
noncomputable section
/-! ### laws.eqInt64S: function 14 -/
abbrev laws_eqInt64S.R := (((Bool × Unit) × Unit) × Unit)
abbrev laws_eqInt64S.T0 : Type := (List Int) → (List Int) → Int → Option laws_eqInt64S.R
def laws_eqInt64S.l0_ (k : Nat) (l0 : laws_eqInt64S.T0) (a0 : List Int) (a1 : List Int) (a2 : Int) : Option laws_eqInt64S.R := bif decide (a2 < ((List.length a0 : Nat) : Int)) then (bif (decide (0 ≤ a2)) && (decide (a2 < ((List.length a0 : Nat) : Int))) then (bif (decide (0 ≤ a2)) && (decide (a2 < ((List.length a1 : Nat) : Int))) then (bif !decide (List.getD a0 (Int.toNat a2) 0 = List.getD a1 (Int.toNat a2) 0) then (some (((false, ()), ()), ())) else (l0 a0 a1 (IntKind.wrap .i64 (a2 + 1)))) else none) else none) else (some (((true, ()), ()), ()))
def laws_eqInt64S.all : Nat → (laws_eqInt64S.T0) × Unit
  | 0 => (fun _ _ _ => none, ())
  | k + 1 => (laws_eqInt64S.l0_ k (laws_eqInt64S.all k).1, ())
def laws_eqInt64S.l0 (k : Nat) : laws_eqInt64S.T0 := (laws_eqInt64S.all k).1
def laws_eqInt64S.f (k : Nat) (a0 : List Int) (a1 : List Int) : Option laws_eqInt64S.R := bif !decide (((List.length a0 : Nat) : Int) = ((List.length a1 : Nat) : Int)) then (some (((false, ()), ()), ())) else (laws_eqInt64S.l0 k a0 a1 0)
def laws_eqInt64S.s (k : Nat) : FS := ⟨[⟨false, [.lst (.int .i64)]⟩, ⟨false, [.lst (.int .i64)]⟩], [], false, [⟨false, [.bool]⟩], [], [], fun x => laws_eqInt64S.f k x.1.1.1 x.1.2.1.1⟩
def laws_eqInt64S.E (k : Nat) : Ents := []
def laws_eqInt64S.L0 (l : laws_eqInt64S.T0) : LS laws_eqInt64S.R := ⟨[], [(0, ⟨false, [.lst (.int .i64)]⟩), (1, ⟨false, [.lst (.int .i64)]⟩), (5, ⟨false, [.int .i64]⟩)], [], fun x => l x.1.1.1 x.1.2.1.1 x.1.2.2.1.1⟩
def laws_eqInt64S.L (l0 : laws_eqInt64S.T0) : List (LS laws_eqInt64S.R) := [laws_eqInt64S.L0 l0]
def laws_eqInt64S.c : Code := Try.f14.body.getD .skip
theorem laws_eqInt64S.eq (k : Nat) (x) : (laws_eqInt64S.s k).pf x = execF tab (laws_eqInt64S.E k) Try.f14 laws_eqInt64S.c (laws_eqInt64S.s k) (laws_eqInt64S.L (laws_eqInt64S.l0 k)) x := by kernel_rfl
theorem laws_eqInt64S.r0 (l0 : laws_eqInt64S.T0) (k : Nat) (x) : laws_eqInt64S.l0_ k l0 x.1.1.1 x.1.2.1.1 x.1.2.2.1.1 = roundOf tab (laws_eqInt64S.E k) (laws_eqInt64S.L l0) laws_eqInt64S.c (fin tab Try.f14 (laws_eqInt64S.s k)) 0 (laws_eqInt64S.L0 l0) x := by kernel_rfl
theorem laws_eqInt64S.sound : ∀ k, Sound Try.prog 14 (laws_eqInt64S.s k) := sound_of mixed tab_ok (f := 14) (fn := Try.f14) (c := laws_eqInt64S.c) (by kernel_rfl) (by kernel_rfl) (by kernel_rfl) ⟨[⟨false, [.lst (.int .i64)]⟩, ⟨false, [.lst (.int .i64)]⟩], [], false, [⟨false, [.bool]⟩], [], []⟩ (by kernel_rfl) (by kernel_rfl) (fun k => (laws_eqInt64S.s k).pf) laws_eqInt64S.E (fun k => EntsOK.nil) (fun k => laws_eqInt64S.L (laws_eqInt64S.l0 k)) (fun k => ⟨rfl, trivial⟩) ⟨fun _ => rfl, trivial⟩ (fun k => ⟨⟨(laws_eqInt64S.L0 (laws_eqInt64S.l0 (k + 1))).l, rfl, fun x => laws_eqInt64S.r0 (laws_eqInt64S.l0 k) k x⟩, trivial⟩) laws_eqInt64S.eq
end
end Go.Proofs.Ytkfehogikjcgkaa.V
namespace Go.Proofs.Ytkfehogikjcgkaa.V
open Go
set_option linter.unusedVariables false
noncomputable section
/-! ### laws.eqPhi: function 167 -/
abbrev laws_eqPhi.R := (((Bool × Unit) × Unit) × Unit)
def laws_eqPhi.f (k : Nat) (a0 : tPhiD) (a1 : tPhiD) : Option laws_eqPhi.R := bif !decide (a0.1 = a1.1) then (some (((false, ()), ()), ())) else (Option.bind (laws_eqInt64S.f k a0.2.1 a1.2.1) fun r1 => bif !r1.1.1.1 then (some (((false, ()), ()), ())) else (some (((true, ()), ()), ())))
def laws_eqPhi.s (k : Nat) : FS := ⟨[⟨true, [.int .i64, .lst (.int .i64)]⟩, ⟨true, [.int .i64, .lst (.int .i64)]⟩], [], false, [⟨false, [.bool]⟩], [], [], fun x => laws_eqPhi.f k x.1.1 x.1.2.1⟩
def laws_eqPhi.E (k : Nat) : Ents := [(⟨14, []⟩, laws_eqInt64S.s k)]
def laws_eqPhi.L : List (LS laws_eqPhi.R) := []
def laws_eqPhi.c : Code := Try.f167.body.getD .skip
theorem laws_eqPhi.eq (k : Nat) (x) : (laws_eqPhi.s k).pf x = execF tab (laws_eqPhi.E k) Try.f167 laws_eqPhi.c (laws_eqPhi.s k) laws_eqPhi.L x := by kernel_rfl
theorem laws_eqPhi.sound : ∀ k, Sound Try.prog 167 (laws_eqPhi.s k) := sound_of mixed tab_ok (f := 167) (fn := Try.f167) (c := laws_eqPhi.c) (by kernel_rfl) (by kernel_rfl) (by kernel_rfl) ⟨[⟨true, [.int .i64, .lst (.int .i64)]⟩, ⟨true, [.int .i64, .lst (.int .i64)]⟩], [], false, [⟨false, [.bool]⟩], [], []⟩ (by kernel_rfl) (by kernel_rfl) (fun k => (laws_eqPhi.s k).pf) laws_eqPhi.E (fun k => (EntsOK.cons (laws_eqInt64S.sound k) EntsOK.nil)) (fun k => laws_eqPhi.L) (fun k => trivial) trivial (fun k => trivial) laws_eqPhi.eq
end
end Go.Proofs.Ytkfehogikjcgkaa.V
namespace Go.Proofs.Ytkfehogikjcgkaa.V
open Go
set_option linter.unusedVariables false
noncomputable section
/-! ### laws.eqPhiS: function 135 -/
abbrev laws_eqPhiS.R := (((Bool × Unit) × Unit) × Unit)
abbrev laws_eqPhiS.T0 : Type := (List tPhiD) → (List tPhiD) → Int → Option laws_eqPhiS.R
def laws_eqPhiS.l0_ (k : Nat) (l0 : laws_eqPhiS.T0) (a0 : List tPhiD) (a1 : List tPhiD) (a2 : Int) : Option laws_eqPhiS.R := bif decide (a2 < ((List.length a0 : Nat) : Int)) then (bif (decide (0 ≤ a2)) && (decide (a2 < ((List.length a0 : Nat) : Int))) then (bif (decide (0 ≤ a2)) && (decide (a2 < ((List.length a1 : Nat) : Int))) then (Option.bind (laws_eqPhi.f k (List.getD a0 (Int.toNat a2) tPhiZ) (List.getD a1 (Int.toNat a2) tPhiZ)) fun r1 => bif !r1.1.1.1 then (some (((false, ()), ()), ())) else (l0 a0 a1 (IntKind.wrap .i64 (a2 + 1)))) else none) else none) else (some (((true, ()), ()), ()))
def laws_eqPhiS.all : Nat → (laws_eqPhiS.T0) × Unit
  | 0 => (fun _ _ _ => none, ())
  | k + 1 => (laws_eqPhiS.l0_ k (laws_eqPhiS.all k).1, ())
def laws_eqPhiS.l0 (k : Nat) : laws_eqPhiS.T0 := (laws_eqPhiS.all k).1
def laws_eqPhiS.f (k : Nat) (a0 : List tPhiD) (a1 : List tPhiD) : Option laws_eqPhiS.R := bif !decide (((List.length a0 : Nat) : Int) = ((List.length a1 : Nat) : Int)) then (some (((false, ()), ()), ())) else (laws_eqPhiS.l0 k a0 a1 0)
def laws_eqPhiS.s (k : Nat) : FS := ⟨[⟨false, [.lst tPhi]⟩, ⟨false, [.lst tPhi]⟩], [], false, [⟨false, [.bool]⟩], [], [], fun x => laws_eqPhiS.f k x.1.1.1 x.1.2.1.1⟩
def laws_eqPhiS.E (k : Nat) : Ents := [(⟨167, []⟩, laws_eqPhi.s k)]
def laws_eqPhiS.L0 (l : laws_eqPhiS.T0) : LS laws_eqPhiS.R := ⟨[], [(0, ⟨false, [.lst tPhi]⟩), (1, ⟨false, [.lst tPhi]⟩), (5, ⟨false, [.int .i64]⟩)], [], fun x => l x.1.1.1 x.1.2.1.1 x.1.2.2.1.1⟩
def laws_eqPhiS.L (l0 : laws_eqPhiS.T0) : List (LS laws_eqPhiS.R) := [laws_eqPhiS.L0 l0]
def laws_eqPhiS.c : Code := Try.f135.body.getD .skip
theorem laws_eqPhiS.eq (k : Nat) (x) : (laws_eqPhiS.s k).pf x = execF tab (laws_eqPhiS.E k) Try.f135 laws_eqPhiS.c (laws_eqPhiS.s k) (laws_eqPhiS.L (laws_eqPhiS.l0 k)) x := by kernel_rfl
theorem laws_eqPhiS.r0 (l0 : laws_eqPhiS.T0) (k : Nat) (x) : laws_eqPhiS.l0_ k l0 x.1.1.1 x.1.2.1.1 x.1.2.2.1.1 = roundOf tab (laws_eqPhiS.E k) (laws_eqPhiS.L l0) laws_eqPhiS.c (fin tab Try.f135 (laws_eqPhiS.s k)) 0 (laws_eqPhiS.L0 l0) x := by kernel_rfl
theorem laws_eqPhiS.sound : ∀ k, Sound Try.prog 135 (laws_eqPhiS.s k) := sound_of mixed tab_ok (f := 135) (fn := Try.f135) (c := laws_eqPhiS.c) (by kernel_rfl) (by kernel_rfl) (by kernel_rfl) ⟨[⟨false, [.lst tPhi]⟩, ⟨false, [.lst tPhi]⟩], [], false, [⟨false, [.bool]⟩], [], []⟩ (by kernel_rfl) (by kernel_rfl) (fun k => (laws_eqPhiS.s k).pf) laws_eqPhiS.E (fun k => (EntsOK.cons (laws_eqPhi.sound k) EntsOK.nil)) (fun k => laws_eqPhiS.L (laws_eqPhiS.l0 k)) (fun k => ⟨rfl, trivial⟩) ⟨fun _ => rfl, trivial⟩ (fun k => ⟨⟨(laws_eqPhiS.L0 (laws_eqPhiS.l0 (k + 1))).l, rfl, fun x => laws_eqPhiS.r0 (laws_eqPhiS.l0 k) k x⟩, trivial⟩) laws_eqPhiS.eq
end
end Go.Proofs.Ytkfehogikjcgkaa.V
namespace Go.Proofs.Ytkfehogikjcgkaa.V
open Go
set_option linter.unusedVariables false
noncomputable section
/-! ### laws.eqInst: function 168 -/
abbrev laws_eqInst.R := (((Bool × Unit) × Unit) × Unit)
def laws_eqInst.f (k : Nat) (a0 : tInstD) (a1 : tInstD) : Option laws_eqInst.R := bif !decide (a0.1 = a1.1) then (some (((false, ()), ()), ())) else (bif !decide (a0.2.1 = a1.2.1) then (some (((false, ()), ()), ())) else (bif !decide (a0.2.2.1 = a1.2.2.1) then (some (((false, ()), ()), ())) else (bif !decide (a0.2.2.2.1 = a1.2.2.2.1) then (some (((false, ()), ()), ())) else (bif !decide (a0.2.2.2.2.1 = a1.2.2.2.2.1) then (some (((false, ()), ()), ())) else (bif !decide (a0.2.2.2.2.2.1 = a1.2.2.2.2.2.1) then (some (((false, ()), ()), ())) else (Option.bind (laws_eqInt64S.f k a0.2.2.2.2.2.2.1 a1.2.2.2.2.2.2.1) fun r1 => bif !r1.1.1.1 then (some (((false, ()), ()), ())) else (some (((true, ()), ()), ()))))))))
def laws_eqInst.s (k : Nat) : FS := ⟨[⟨true, [.int .i64, .int .i64, .int .i64, .int .i64, .int .i64, .int .i64, .lst (.int .i64)]⟩, ⟨true, [.int .i64, .int .i64, .int .i64, .int .i64, .int .i64, .int .i64, .lst (.int .i64)]⟩], [], false, [⟨false, [.bool]⟩], [], [], fun x => laws_eqInst.f k x.1.1 x.1.2.1⟩
def laws_eqInst.E (k : Nat) : Ents := [(⟨14, []⟩, laws_eqInt64S.s k)]
def laws_eqInst.L : List (LS laws_eqInst.R) := []
def laws_eqInst.c : Code := Try.f168.body.getD .skip
theorem laws_eqInst.eq (k : Nat) (x) : (laws_eqInst.s k).pf x = execF tab (laws_eqInst.E k) Try.f168 laws_eqInst.c (laws_eqInst.s k) laws_eqInst.L x := by kernel_rfl
theorem laws_eqInst.sound : ∀ k, Sound Try.prog 168 (laws_eqInst.s k) := sound_of mixed tab_ok (f := 168) (fn := Try.f168) (c := laws_eqInst.c) (by kernel_rfl) (by kernel_rfl) (by kernel_rfl) ⟨[⟨true, [.int .i64, .int .i64, .int .i64, .int .i64, .int .i64, .int .i64, .lst (.int .i64)]⟩, ⟨true, [.int .i64, .int .i64, .int .i64, .int .i64, .int .i64, .int .i64, .lst (.int .i64)]⟩], [], false, [⟨false, [.bool]⟩], [], []⟩ (by kernel_rfl) (by kernel_rfl) (fun k => (laws_eqInst.s k).pf) laws_eqInst.E (fun k => (EntsOK.cons (laws_eqInt64S.sound k) EntsOK.nil)) (fun k => laws_eqInst.L) (fun k => trivial) trivial (fun k => trivial) laws_eqInst.eq
end
end Go.Proofs.Ytkfehogikjcgkaa.V
namespace Go.Proofs.Ytkfehogikjcgkaa.V
open Go
set_option linter.unusedVariables false
noncomputable section
/-! ### laws.eqInstS: function 136 -/
abbrev laws_eqInstS.R := (((Bool × Unit) × Unit) × Unit)
abbrev laws_eqInstS.T0 : Type := (List tInstD) → (List tInstD) → Int → Option laws_eqInstS.R
def laws_eqInstS.l0_ (k : Nat) (l0 : laws_eqInstS.T0) (a0 : List tInstD) (a1 : List tInstD) (a2 : Int) : Option laws_eqInstS.R := bif decide (a2 < ((List.length a0 : Nat) : Int)) then (bif (decide (0 ≤ a2)) && (decide (a2 < ((List.length a0 : Nat) : Int))) then (bif (decide (0 ≤ a2)) && (decide (a2 < ((List.length a1 : Nat) : Int))) then (Option.bind (laws_eqInst.f k (List.getD a0 (Int.toNat a2) tInstZ) (List.getD a1 (Int.toNat a2) tInstZ)) fun r1 => bif !r1.1.1.1 then (some (((false, ()), ()), ())) else (l0 a0 a1 (IntKind.wrap .i64 (a2 + 1)))) else none) else none) else (some (((true, ()), ()), ()))
def laws_eqInstS.all : Nat → (laws_eqInstS.T0) × Unit
  | 0 => (fun _ _ _ => none, ())
  | k + 1 => (laws_eqInstS.l0_ k (laws_eqInstS.all k).1, ())
def laws_eqInstS.l0 (k : Nat) : laws_eqInstS.T0 := (laws_eqInstS.all k).1
def laws_eqInstS.f (k : Nat) (a0 : List tInstD) (a1 : List tInstD) : Option laws_eqInstS.R := bif !decide (((List.length a0 : Nat) : Int) = ((List.length a1 : Nat) : Int)) then (some (((false, ()), ()), ())) else (laws_eqInstS.l0 k a0 a1 0)
def laws_eqInstS.s (k : Nat) : FS := ⟨[⟨false, [.lst tInst]⟩, ⟨false, [.lst tInst]⟩], [], false, [⟨false, [.bool]⟩], [], [], fun x => laws_eqInstS.f k x.1.1.1 x.1.2.1.1⟩
def laws_eqInstS.E (k : Nat) : Ents := [(⟨168, []⟩, laws_eqInst.s k)]
def laws_eqInstS.L0 (l : laws_eqInstS.T0) : LS laws_eqInstS.R := ⟨[], [(0, ⟨false, [.lst tInst]⟩), (1, ⟨false, [.lst tInst]⟩), (5, ⟨false, [.int .i64]⟩)], [], fun x => l x.1.1.1 x.1.2.1.1 x.1.2.2.1.1⟩
def laws_eqInstS.L (l0 : laws_eqInstS.T0) : List (LS laws_eqInstS.R) := [laws_eqInstS.L0 l0]
def laws_eqInstS.c : Code := Try.f136.body.getD .skip
theorem laws_eqInstS.eq (k : Nat) (x) : (laws_eqInstS.s k).pf x = execF tab (laws_eqInstS.E k) Try.f136 laws_eqInstS.c (laws_eqInstS.s k) (laws_eqInstS.L (laws_eqInstS.l0 k)) x := by kernel_rfl
theorem laws_eqInstS.r0 (l0 : laws_eqInstS.T0) (k : Nat) (x) : laws_eqInstS.l0_ k l0 x.1.1.1 x.1.2.1.1 x.1.2.2.1.1 = roundOf tab (laws_eqInstS.E k) (laws_eqInstS.L l0) laws_eqInstS.c (fin tab Try.f136 (laws_eqInstS.s k)) 0 (laws_eqInstS.L0 l0) x := by kernel_rfl
theorem laws_eqInstS.sound : ∀ k, Sound Try.prog 136 (laws_eqInstS.s k) := sound_of mixed tab_ok (f := 136) (fn := Try.f136) (c := laws_eqInstS.c) (by kernel_rfl) (by kernel_rfl) (by kernel_rfl) ⟨[⟨false, [.lst tInst]⟩, ⟨false, [.lst tInst]⟩], [], false, [⟨false, [.bool]⟩], [], []⟩ (by kernel_rfl) (by kernel_rfl) (fun k => (laws_eqInstS.s k).pf) laws_eqInstS.E (fun k => (EntsOK.cons (laws_eqInst.sound k) EntsOK.nil)) (fun k => laws_eqInstS.L (laws_eqInstS.l0 k)) (fun k => ⟨rfl, trivial⟩) ⟨fun _ => rfl, trivial⟩ (fun k => ⟨⟨(laws_eqInstS.L0 (laws_eqInstS.l0 (k + 1))).l, rfl, fun x => laws_eqInstS.r0 (laws_eqInstS.l0 k) k x⟩, trivial⟩) laws_eqInstS.eq
end
end Go.Proofs.Ytkfehogikjcgkaa.V
namespace Go.Proofs.Ytkfehogikjcgkaa.V
open Go
set_option linter.unusedVariables false
noncomputable section
/-! ### laws.eqTerm: function 137 -/
abbrev laws_eqTerm.R := (((Bool × Unit) × Unit) × Unit)
def laws_eqTerm.f (k : Nat) (a0 : tTermD) (a1 : tTermD) : Option laws_eqTerm.R := bif !decide (a0.1 = a1.1) then (some (((false, ()), ()), ())) else (bif !decide (a0.2.1 = a1.2.1) then (some (((false, ()), ()), ())) else (bif !decide (a0.2.2.1 = a1.2.2.1) then (some (((false, ()), ()), ())) else (bif !decide (a0.2.2.2.1 = a1.2.2.2.1) then (some (((false, ()), ()), ())) else (some (((true, ()), ()), ())))))
def laws_eqTerm.s (k : Nat) : FS := ⟨[⟨true, [.int .i64, .int .i64, .int .i64, .int .i64]⟩, ⟨true, [.int .i64, .int .i64, .int .i64, .int .i64]⟩], [], false, [⟨false, [.bool]⟩], [], [], fun x => laws_eqTerm.f k x.1.1 x.1.2.1⟩
def laws_eqTerm.E (k : Nat) : Ents := []
def laws_eqTerm.L : List (LS laws_eqTerm.R) := []
def laws_eqTerm.c : Code := Try.f137.body.getD .skip
theorem laws_eqTerm.eq (k : Nat) (x) : (laws_eqTerm.s k).pf x = execF tab (laws_eqTerm.E k) Try.f137 laws_eqTerm.c (laws_eqTerm.s k) laws_eqTerm.L x := by kernel_rfl
theorem laws_eqTerm.sound : ∀ k, Sound Try.prog 137 (laws_eqTerm.s k) := sound_of mixed tab_ok (f := 137) (fn := Try.f137) (c := laws_eqTerm.c) (by kernel_rfl) (by kernel_rfl) (by kernel_rfl) ⟨[⟨true, [.int .i64, .int .i64, .int .i64, .int .i64]⟩, ⟨true, [.int .i64, .int .i64, .int .i64, .int .i64]⟩], [], false, [⟨false, [.bool]⟩], [], []⟩ (by kernel_rfl) (by kernel_rfl) (fun k => (laws_eqTerm.s k).pf) laws_eqTerm.E (fun k => EntsOK.nil) (fun k => laws_eqTerm.L) (fun k => trivial) trivial (fun k => trivial) laws_eqTerm.eq
end
end Go.Proofs.Ytkfehogikjcgkaa.V
namespace Go.Proofs.Ytkfehogikjcgkaa.V
open Go
set_option linter.unusedVariables false
noncomputable section
/-! ### laws.eqBlock: function 81 -/
abbrev laws_eqBlock.R := (((Bool × Unit) × Unit) × Unit)
def laws_eqBlock.f (k : Nat) (a0 : tBlockD) (a1 : tBlockD) : Option laws_eqBlock.R := Option.bind (laws_eqPhiS.f k a0.1 a1.1) fun r1 => bif !r1.1.1.1 then (some (((false, ()), ()), ())) else (Option.bind (laws_eqInstS.f k a0.2.1 a1.2.1) fun r2 => bif !r2.1.1.1 then (some (((false, ()), ()), ())) else (Option.bind (laws_eqTerm.f k a0.2.2 a1.2.2) fun r3 => bif !r3.1.1.1 then (some (((false, ()), ()), ())) else (some (((true, ()), ()), ()))))
def laws_eqBlock.s (k : Nat) : FS := ⟨[⟨true, [.lst tPhi, .lst tInst, .int .i64, .int .i64, .int .i64, .int .i64]⟩, ⟨true, [.lst tPhi, .lst tInst, .int .i64, .int .i64, .int .i64, .int .i64]⟩], [], false, [⟨false, [.bool]⟩], [], [], fun x => laws_eqBlock.f k x.1.1 x.1.2.1⟩
def laws_eqBlock.E (k : Nat) : Ents := [(⟨135, []⟩, laws_eqPhiS.s k), (⟨136, []⟩, laws_eqInstS.s k), (⟨137, []⟩, laws_eqTerm.s k)]
def laws_eqBlock.L : List (LS laws_eqBlock.R) := []
def laws_eqBlock.c : Code := Try.f81.body.getD .skip
theorem laws_eqBlock.eq (k : Nat) (x) : (laws_eqBlock.s k).pf x = execF tab (laws_eqBlock.E k) Try.f81 laws_eqBlock.c (laws_eqBlock.s k) laws_eqBlock.L x := by kernel_rfl
theorem laws_eqBlock.sound : ∀ k, Sound Try.prog 81 (laws_eqBlock.s k) := sound_of mixed tab_ok (f := 81) (fn := Try.f81) (c := laws_eqBlock.c) (by kernel_rfl) (by kernel_rfl) (by kernel_rfl) ⟨[⟨true, [.lst tPhi, .lst tInst, .int .i64, .int .i64, .int .i64, .int .i64]⟩, ⟨true, [.lst tPhi, .lst tInst, .int .i64, .int .i64, .int .i64, .int .i64]⟩], [], false, [⟨false, [.bool]⟩], [], []⟩ (by kernel_rfl) (by kernel_rfl) (fun k => (laws_eqBlock.s k).pf) laws_eqBlock.E (fun k => (EntsOK.cons (laws_eqPhiS.sound k) (EntsOK.cons (laws_eqInstS.sound k) (EntsOK.cons (laws_eqTerm.sound k) EntsOK.nil)))) (fun k => laws_eqBlock.L) (fun k => trivial) trivial (fun k => trivial) laws_eqBlock.eq
end
end Go.Proofs.Ytkfehogikjcgkaa.V
namespace Go.Proofs.Ytkfehogikjcgkaa.V
open Go
set_option linter.unusedVariables false
noncomputable section
/-! ### laws.eqBlockS: function 43 -/
abbrev laws_eqBlockS.R := (((Bool × Unit) × Unit) × Unit)
abbrev laws_eqBlockS.T0 : Type := (List tBlockD) → (List tBlockD) → Int → Option laws_eqBlockS.R
def laws_eqBlockS.l0_ (k : Nat) (l0 : laws_eqBlockS.T0) (a0 : List tBlockD) (a1 : List tBlockD) (a2 : Int) : Option laws_eqBlockS.R := bif decide (a2 < ((List.length a0 : Nat) : Int)) then (bif (decide (0 ≤ a2)) && (decide (a2 < ((List.length a0 : Nat) : Int))) then (bif (decide (0 ≤ a2)) && (decide (a2 < ((List.length a1 : Nat) : Int))) then (Option.bind (laws_eqBlock.f k (List.getD a0 (Int.toNat a2) tBlockZ) (List.getD a1 (Int.toNat a2) tBlockZ)) fun r1 => bif !r1.1.1.1 then (some (((false, ()), ()), ())) else (l0 a0 a1 (IntKind.wrap .i64 (a2 + 1)))) else none) else none) else (some (((true, ()), ()), ()))
def laws_eqBlockS.all : Nat → (laws_eqBlockS.T0) × Unit
  | 0 => (fun _ _ _ => none, ())
  | k + 1 => (laws_eqBlockS.l0_ k (laws_eqBlockS.all k).1, ())
def laws_eqBlockS.l0 (k : Nat) : laws_eqBlockS.T0 := (laws_eqBlockS.all k).1
def laws_eqBlockS.f (k : Nat) (a0 : List tBlockD) (a1 : List tBlockD) : Option laws_eqBlockS.R := bif !decide (((List.length a0 : Nat) : Int) = ((List.length a1 : Nat) : Int)) then (some (((false, ()), ()), ())) else (laws_eqBlockS.l0 k a0 a1 0)
def laws_eqBlockS.s (k : Nat) : FS := ⟨[⟨false, [.lst tBlock]⟩, ⟨false, [.lst tBlock]⟩], [], false, [⟨false, [.bool]⟩], [], [], fun x => laws_eqBlockS.f k x.1.1.1 x.1.2.1.1⟩
def laws_eqBlockS.E (k : Nat) : Ents := [(⟨81, []⟩, laws_eqBlock.s k)]
def laws_eqBlockS.L0 (l : laws_eqBlockS.T0) : LS laws_eqBlockS.R := ⟨[], [(0, ⟨false, [.lst tBlock]⟩), (1, ⟨false, [.lst tBlock]⟩), (5, ⟨false, [.int .i64]⟩)], [], fun x => l x.1.1.1 x.1.2.1.1 x.1.2.2.1.1⟩
def laws_eqBlockS.L (l0 : laws_eqBlockS.T0) : List (LS laws_eqBlockS.R) := [laws_eqBlockS.L0 l0]
def laws_eqBlockS.c : Code := Try.f43.body.getD .skip
theorem laws_eqBlockS.eq (k : Nat) (x) : (laws_eqBlockS.s k).pf x = execF tab (laws_eqBlockS.E k) Try.f43 laws_eqBlockS.c (laws_eqBlockS.s k) (laws_eqBlockS.L (laws_eqBlockS.l0 k)) x := by kernel_rfl
theorem laws_eqBlockS.r0 (l0 : laws_eqBlockS.T0) (k : Nat) (x) : laws_eqBlockS.l0_ k l0 x.1.1.1 x.1.2.1.1 x.1.2.2.1.1 = roundOf tab (laws_eqBlockS.E k) (laws_eqBlockS.L l0) laws_eqBlockS.c (fin tab Try.f43 (laws_eqBlockS.s k)) 0 (laws_eqBlockS.L0 l0) x := by kernel_rfl
theorem laws_eqBlockS.sound : ∀ k, Sound Try.prog 43 (laws_eqBlockS.s k) := sound_of mixed tab_ok (f := 43) (fn := Try.f43) (c := laws_eqBlockS.c) (by kernel_rfl) (by kernel_rfl) (by kernel_rfl) ⟨[⟨false, [.lst tBlock]⟩, ⟨false, [.lst tBlock]⟩], [], false, [⟨false, [.bool]⟩], [], []⟩ (by kernel_rfl) (by kernel_rfl) (fun k => (laws_eqBlockS.s k).pf) laws_eqBlockS.E (fun k => (EntsOK.cons (laws_eqBlock.sound k) EntsOK.nil)) (fun k => laws_eqBlockS.L (laws_eqBlockS.l0 k)) (fun k => ⟨rfl, trivial⟩) ⟨fun _ => rfl, trivial⟩ (fun k => ⟨⟨(laws_eqBlockS.L0 (laws_eqBlockS.l0 (k + 1))).l, rfl, fun x => laws_eqBlockS.r0 (laws_eqBlockS.l0 k) k x⟩, trivial⟩) laws_eqBlockS.eq
end
end Go.Proofs.Ytkfehogikjcgkaa.V
namespace Go.Proofs.Ytkfehogikjcgkaa.V
open Go
set_option linter.unusedVariables false
noncomputable section
/-! ### laws.eqFunc: function 15 -/
abbrev laws_eqFunc.R := (((Bool × Unit) × Unit) × Unit)
def laws_eqFunc.f (k : Nat) (a0 : tFuncD) (a1 : tFuncD) : Option laws_eqFunc.R := Option.bind (laws_eqInt64S.f k a0.1 a1.1) fun r1 => bif !r1.1.1.1 then (some (((false, ()), ()), ())) else (bif !decide (a0.2.1 = a1.2.1) then (some (((false, ()), ()), ())) else (Option.bind (laws_eqBlockS.f k a0.2.2.1 a1.2.2.1) fun r2 => bif !r2.1.1.1 then (some (((false, ()), ()), ())) else (some (((true, ()), ()), ()))))
def laws_eqFunc.s (k : Nat) : FS := ⟨[⟨true, [.lst (.int .i64), .int .i64, .lst tBlock]⟩, ⟨true, [.lst (.int .i64), .int .i64, .lst tBlock]⟩], [], false, [⟨false, [.bool]⟩], [], [], fun x => laws_eqFunc.f k x.1.1 x.1.2.1⟩
def laws_eqFunc.E (k : Nat) : Ents := [(⟨14, []⟩, laws_eqInt64S.s k), (⟨43, []⟩, laws_eqBlockS.s k)]
def laws_eqFunc.L : List (LS laws_eqFunc.R) := []
def laws_eqFunc.c : Code := Try.f15.body.getD .skip
theorem laws_eqFunc.eq (k : Nat) (x) : (laws_eqFunc.s k).pf x = execF tab (laws_eqFunc.E k) Try.f15 laws_eqFunc.c (laws_eqFunc.s k) laws_eqFunc.L x := by kernel_rfl
theorem laws_eqFunc.sound : ∀ k, Sound Try.prog 15 (laws_eqFunc.s k) := sound_of mixed tab_ok (f := 15) (fn := Try.f15) (c := laws_eqFunc.c) (by kernel_rfl) (by kernel_rfl) (by kernel_rfl) ⟨[⟨true, [.lst (.int .i64), .int .i64, .lst tBlock]⟩, ⟨true, [.lst (.int .i64), .int .i64, .lst tBlock]⟩], [], false, [⟨false, [.bool]⟩], [], []⟩ (by kernel_rfl) (by kernel_rfl) (fun k => (laws_eqFunc.s k).pf) laws_eqFunc.E (fun k => (EntsOK.cons (laws_eqInt64S.sound k) (EntsOK.cons (laws_eqBlockS.sound k) EntsOK.nil))) (fun k => laws_eqFunc.L) (fun k => trivial) trivial (fun k => trivial) laws_eqFunc.eq
end
end Go.Proofs.Ytkfehogikjcgkaa.V
namespace Go.Proofs.Ytkfehogikjcgkaa.V
open Go
set_option linter.unusedVariables false
noncomputable section
/-! ### laws.markInt64S: function 17 -/
abbrev laws_markInt64S.R := (((Int × Unit) × Unit) × ((List Int) × Unit))
abbrev laws_markInt64S.T0 : Type := Int → Int → (List Int) → Option laws_markInt64S.R
def laws_markInt64S.l0_ (k : Nat) (l0 : laws_markInt64S.T0) (a0 : Int) (a1 : Int) (a2 : List Int) : Option laws_markInt64S.R := bif decide (a1 < ((List.length a2 : Nat) : Int)) then (bif (decide (0 ≤ a1)) && (decide (a1 < ((List.length a2 : Nat) : Int))) then (l0 (IntKind.wrap .i64 (a0 + 1)) (IntKind.wrap .i64 (a1 + 1)) (List.set a2 (Int.toNat a1) a0)) else none) else (some (((a0, ()), ()), (a2, ())))
def laws_markInt64S.all : Nat → (laws_markInt64S.T0) × Unit
  | 0 => (fun _ _ _ => none, ())
  | k + 1 => (laws_markInt64S.l0_ k (laws_markInt64S.all k).1, ())
def laws_markInt64S.l0 (k : Nat) : laws_markInt64S.T0 := (laws_markInt64S.all k).1
def laws_markInt64S.f (k : Nat) (a0 : Int) (a1 : List Int) : Option laws_markInt64S.R := laws_markInt64S.l0 k a0 0 a1
def laws_markInt64S.s (k : Nat) : FS := ⟨[⟨false, [.own 0]⟩, ⟨false, [.int .i64]⟩], [(0, .row true (.int .i64))], false, [⟨false, [.int .i64]⟩], [(0, .row true (.int .i64))], [0], fun x => laws_markInt64S.f k x.1.2.1.1 x.2.1⟩
def laws_markInt64S.E (k : Nat) : Ents := []
def laws_markInt64S.L0 (l : laws_markInt64S.T0) : LS laws_markInt64S.R := ⟨[0], [(0, ⟨false, [.own 0]⟩), (1, ⟨false, [.int .i64]⟩), (5, ⟨false, [.int .i64]⟩)], [(0, .row true (.int .i64))], fun x => l x.1.2.1.1 x.1.2.2.1.1 x.2.1⟩
def laws_markInt64S.L (l0 : laws_markInt64S.T0) : List (LS laws_markInt64S.R) := [laws_markInt64S.L0 l0]
def laws_markInt64S.c : Code := Try.f17.body.getD .skip
theorem laws_markInt64S.eq (k : Nat) (x) : (laws_markInt64S.s k).pf x = execF tab (laws_markInt64S.E k) Try.f17 laws_markInt64S.c (laws_markInt64S.s k) (laws_markInt64S.L (laws_markInt64S.l0 k)) x := by kernel_rfl
theorem laws_markInt64S.r0 (l0 : laws_markInt64S.T0) (k : Nat) (x) : laws_markInt64S.l0_ k l0 x.1.2.1.1 x.1.2.2.1.1 x.2.1 = roundOf tab (laws_markInt64S.E k) (laws_markInt64S.L l0) laws_markInt64S.c (fin tab Try.f17 (laws_markInt64S.s k)) 0 (laws_markInt64S.L0 l0) x := by kernel_rfl
theorem laws_markInt64S.sound : ∀ k, Sound Try.prog 17 (laws_markInt64S.s k) := sound_of mixed tab_ok (f := 17) (fn := Try.f17) (c := laws_markInt64S.c) (by kernel_rfl) (by kernel_rfl) (by kernel_rfl) ⟨[⟨false, [.own 0]⟩, ⟨false, [.int .i64]⟩], [(0, .row true (.int .i64))], false, [⟨false, [.int .i64]⟩], [(0, .row true (.int .i64))], [0]⟩ (by kernel_rfl) (by kernel_rfl) (fun k => (laws_markInt64S.s k).pf) laws_markInt64S.E (fun k => EntsOK.nil) (fun k => laws_markInt64S.L (laws_markInt64S.l0 k)) (fun k => ⟨rfl, trivial⟩) ⟨fun _ => rfl, trivial⟩ (fun k => ⟨⟨(laws_markInt64S.L0 (laws_markInt64S.l0 (k + 1))).l, rfl, fun x => laws_markInt64S.r0 (laws_markInt64S.l0 k) k x⟩, trivial⟩) laws_markInt64S.eq
end
end Go.Proofs.Ytkfehogikjcgkaa.V
namespace Go.Proofs.Ytkfehogikjcgkaa.V
open Go
set_option linter.unusedVariables false
noncomputable section
/-! ### laws.markPhiS: function 82 -/
abbrev laws_markPhiS.R := (((Int × Unit) × Unit) × ((List tPhiD) × Unit))
abbrev laws_markPhiS.T0 : Type := Int → Int → (List tPhiD) → Option laws_markPhiS.R
def laws_markPhiS.l0_ (k : Nat) (l0 : laws_markPhiS.T0) (a0 : Int) (a1 : Int) (a2 : List tPhiD) : Option laws_markPhiS.R := bif decide (a1 < ((List.length a2 : Nat) : Int)) then (bif (decide (0 ≤ a1)) && (decide (a1 < ((List.length a2 : Nat) : Int))) then (bif (decide (0 ≤ a1)) && (decide (a1 < ((List.length (updAt tPhiZ a2 (Int.toNat a1) (fun q_ => (a0, q_.2))) : Nat) : Int))) then (Option.bind (laws_markInt64S.f k (IntKind.wrap .i64 (a0 + 1)) ((List.getD (updAt tPhiZ a2 (Int.toNat a1) (fun q_ => (a0, q_.2))) (Int.toNat a1) tPhiZ).2.1)) fun r1 => l0 r1.1.1.1 (IntKind.wrap .i64 (a1 + 1)) (updAt tPhiZ (updAt tPhiZ a2 (Int.toNat a1) (fun q_ => (a0, q_.2))) (Int.toNat a1) (fun q_ => (q_.1, r1.2.1, q_.2.2)))) else none) else none) else (some (((a0, ()), ()), (a2, ())))
def laws_markPhiS.all : Nat → (laws_markPhiS.T0) × Unit
  | 0 => (fun _ _ _ => none, ())
  | k + 1 => (laws_markPhiS.l0_ k (laws_markPhiS.all k).1, ())
def laws_markPhiS.l0 (k : Nat) : laws_markPhiS.T0 := (laws_markPhiS.all k).1
def laws_markPhiS.f (k : Nat) (a0 : Int) (a1 : List tPhiD) : Option laws_markPhiS.R := laws_markPhiS.l0 k a0 0 a1
def laws_markPhiS.s (k : Nat) : FS := ⟨[⟨false, [.own 0]⟩, ⟨false, [.int .i64]⟩], [(0, .row true tPhi)], false, [⟨false, [.int .i64]⟩], [(0, .row true tPhi)], [0], fun x => laws_markPhiS.f k x.1.2.1.1 x.2.1⟩
def laws_markPhiS.E (k : Nat) : Ents := [(⟨17, []⟩, laws_markInt64S.s k)]
def laws_markPhiS.L0 (l : laws_markPhiS.T0) : LS laws_markPhiS.R := ⟨[0], [(0, ⟨false, [.own 0]⟩), (1, ⟨false, [.int .i64]⟩), (5, ⟨false, [.int .i64]⟩)], [(0, .row true tPhi)], fun x => l x.1.2.1.1 x.1.2.2.1.1 x.2.1⟩
def laws_markPhiS.L (l0 : laws_markPhiS.T0) : List (LS laws_markPhiS.R) := [laws_markPhiS.L0 l0]
def laws_markPhiS.c : Code := Try.f82.body.getD .skip
theorem laws_markPhiS.eq (k : Nat) (x) : (laws_markPhiS.s k).pf x = execF tab (laws_markPhiS.E k) Try.f82 laws_markPhiS.c (laws_markPhiS.s k) (laws_markPhiS.L (laws_markPhiS.l0 k)) x := by kernel_rfl
theorem laws_markPhiS.r0 (l0 : laws_markPhiS.T0) (k : Nat) (x) : laws_markPhiS.l0_ k l0 x.1.2.1.1 x.1.2.2.1.1 x.2.1 = roundOf tab (laws_markPhiS.E k) (laws_markPhiS.L l0) laws_markPhiS.c (fin tab Try.f82 (laws_markPhiS.s k)) 0 (laws_markPhiS.L0 l0) x := by kernel_rfl
theorem laws_markPhiS.sound : ∀ k, Sound Try.prog 82 (laws_markPhiS.s k) := sound_of mixed tab_ok (f := 82) (fn := Try.f82) (c := laws_markPhiS.c) (by kernel_rfl) (by kernel_rfl) (by kernel_rfl) ⟨[⟨false, [.own 0]⟩, ⟨false, [.int .i64]⟩], [(0, .row true tPhi)], false, [⟨false, [.int .i64]⟩], [(0, .row true tPhi)], [0]⟩ (by kernel_rfl) (by kernel_rfl) (fun k => (laws_markPhiS.s k).pf) laws_markPhiS.E (fun k => (EntsOK.cons (laws_markInt64S.sound k) EntsOK.nil)) (fun k => laws_markPhiS.L (laws_markPhiS.l0 k)) (fun k => ⟨rfl, trivial⟩) ⟨fun _ => rfl, trivial⟩ (fun k => ⟨⟨(laws_markPhiS.L0 (laws_markPhiS.l0 (k + 1))).l, rfl, fun x => laws_markPhiS.r0 (laws_markPhiS.l0 k) k x⟩, trivial⟩) laws_markPhiS.eq
end
end Go.Proofs.Ytkfehogikjcgkaa.V
namespace Go.Proofs.Ytkfehogikjcgkaa.V
open Go
set_option linter.unusedVariables false
noncomputable section
/-! ### laws.markInstS: function 83 -/
abbrev laws_markInstS.R := (((Int × Unit) × Unit) × ((List tInstD) × Unit))
abbrev laws_markInstS.T0 : Type := Int → Int → (List tInstD) → Option laws_markInstS.R
def laws_markInstS.l0_ (k : Nat) (l0 : laws_markInstS.T0) (a0 : Int) (a1 : Int) (a2 : List tInstD) : Option laws_markInstS.R := bif decide (a1 < ((List.length a2 : Nat) : Int)) then (bif (decide (0 ≤ a1)) && (decide (a1 < ((List.length a2 : Nat) : Int))) then (bif (decide (0 ≤ a1)) && (decide (a1 < ((List.length (updAt tInstZ a2 (Int.toNat a1) (fun q_ => (a0, q_.2))) : Nat) : Int))) then (bif (decide (0 ≤ a1)) && (decide (a1 < ((List.length (updAt tInstZ (updAt tInstZ a2 (Int.toNat a1) (fun q_ => (a0, q_.2))) (Int.toNat a1) (fun q_ => (q_.1, IntKind.wrap .i64 (a0 + 1), q_.2.2))) : Nat) : Int))) then (bif (decide (0 ≤ a1)) && (decide (a1 < ((List.length (updAt tInstZ (updAt tInstZ (updAt tInstZ a2 (Int.toNat a1) (fun q_ => (a0, q_.2))) (Int.toNat a1) (fun q_ => (q_.1, IntKind.wrap .i64 (a0 + 1), q_.2.2))) (Int.toNat a1) (fun q_ => (q_.1, q_.2.1, IntKind.wrap .i64 ((IntKind.wrap .i64 (a0 + 1)) + 1), q_.2.2.2))) : Nat) : Int))) then (bif (decide (0 ≤ a1)) && (decide (a1 < ((List.length (updAt tInstZ (updAt tInstZ (updAt tInstZ (updAt tInstZ a2 (Int.toNat a1) (fun q_ => (a0, q_.2))) (Int.toNat a1) (fun q_ => (q_.1, IntKind.wrap .i64 (a0 + 1), q_.2.2))) (Int.toNat a1) (fun q_ => (q_.1, q_.2.1, IntKind.wrap .i64 ((IntKind.wrap .i64 (a0 + 1)) + 1), q_.2.2.2))) (Int.toNat a1) (fun q_ => (q_.1, q_.2.1, q_.2.2.1, IntKind.wrap .i64 ((IntKind.wrap .i64 ((IntKind.wrap .i64 (a0 + 1)) + 1)) + 1), q_.2.2.2.2))) : Nat) : Int))) then (bif (decide (0 ≤ a1)) && (decide (a1 < ((List.length (updAt tInstZ (updAt tInstZ (updAt tInstZ (updAt tInstZ (updAt tInstZ a2 (Int.toNat a1) (fun q_ => (a0, q_.2))) (Int.toNat a1) (fun q_ => (q_.1, IntKind.wrap .i64 (a0 + 1), q_.2.2))) (Int.toNat a1) (fun q_ => (q_.1, q_.2.1, IntKind.wrap .i64 ((IntKind.wrap .i64 (a0 + 1)) + 1), q_.2.2.2))) (Int.toNat a1) (fun q_ => (q_.1, q_.2.1, q_.2.2.1, IntKind.wrap .i64 ((IntKind.wrap .i64 ((IntKind.wrap .i64 (a0 + 1)) + 1)) + 1), q_.2.2.2.2))) (Int.toNat a1) (fun q_ => (q_.1, q_.2.1, q_.2.2.1, q_.2.2.2.1, IntKind.wrap .i64 ((IntKind.wrap .i64 ((IntKind.wrap .i64 ((IntKind.wrap .i64 (a0 + 1)) + 1)) + 1)) + 1), q_.2.2.2.2.2))) : Nat) : Int))) then (bif (decide (0 ≤ a1)) && (decide (a1 < ((List.length (updAt tInstZ (updAt tInstZ (updAt tInstZ (updAt tInstZ (updAt tInstZ (updAt tInstZ a2 (Int.toNat a1) (fun q_ => (a0, q_.2))) (Int.toNat a1) (fun q_ => (q_.1, IntKind.wrap .i64 (a0 + 1), q_.2.2))) (Int.toNat a1) (fun q_ => (q_.1, q_.2.1, IntKind.wrap .i64 ((IntKind.wrap .i64 (a0 + 1)) + 1), q_.2.2.2))) (Int.toNat a1) (fun q_ => (q_.1, q_.2.1, q_.2.2.1, IntKind.wrap .i64 ((IntKind.wrap .i64 ((IntKind.wrap .i64 (a0 + 1)) + 1)) + 1), q_.2.2.2.2))) (Int.toNat a1) (fun q_ => (q_.1, q_.2.1, q_.2.2.1, q_.2.2.2.1, IntKind.wrap .i64 ((IntKind.wrap .i64 ((IntKind.wrap .i64 ((IntKind.wrap .i64 (a0 + 1)) + 1)) + 1)) + 1), q_.2.2.2.2.2))) (Int.toNat a1) (fun q_ => (q_.1, q_.2.1, q_.2.2.1, q_.2.2.2.1, q_.2.2.2.2.1, IntKind.wrap .i64 ((IntKind.wrap .i64 ((IntKind.wrap .i64 ((IntKind.wrap .i64 ((IntKind.wrap .i64 (a0 + 1)) + 1)) + 1)) + 1)) + 1), q_.2.2.2.2.2.2))) : Nat) : Int))) then (Option.bind (laws_markInt64S.f k (IntKind.wrap .i64 ((IntKind.wrap .i64 ((IntKind.wrap .i64 ((IntKind.wrap .i64 ((IntKind.wrap .i64 ((IntKind.wrap .i64 (a0 + 1)) + 1)) + 1)) + 1)) + 1)) + 1)) ((List.getD (updAt tInstZ (updAt tInstZ (updAt tInstZ (updAt tInstZ (updAt tInstZ (updAt tInstZ a2 (Int.toNat a1) (fun q_ => (a0, q_.2))) (Int.toNat a1) (fun q_ => (q_.1, IntKind.wrap .i64 (a0 + 1), q_.2.2))) (Int.toNat a1) (fun q_ => (q_.1, q_.2.1, IntKind.wrap .i64 ((IntKind.wrap .i64 (a0 + 1)) + 1), q_.2.2.2))) (Int.toNat a1) (fun q_ => (q_.1, q_.2.1, q_.2.2.1, IntKind.wrap .i64 ((IntKind.wrap .i64 ((IntKind.wrap .i64 (a0 + 1)) + 1)) + 1), q_.2.2.2.2))) (Int.toNat a1) (fun q_ => (q_.1, q_.2.1, q_.2.2.1, q_.2.2.2.1, IntKind.wrap .i64 ((IntKind.wrap .i64 ((IntKind.wrap .i64 ((IntKind.wrap .i64 (a0 + 1)) + 1)) + 1)) + 1), q_.2.2.2.2.2))) (Int.toNat a1) (fun q_ => (q_.1, q_.2.1, q_.2.2.1, q_.2.2.2.1, q_.2.2.2.2.1, IntKind.wrap .i64 ((IntKind.wrap .i64 ((IntKind.wrap .i64 ((IntKind.wrap .i64 ((IntKind.wrap .i64 (a0 + 1)) + 1)) + 1)) + 1)) + 1), q_.2.2.2.2.2.2))) (Int.toNat a1) tInstZ).2.2.2.2.2.2.1)) fun r1 => l0 r1.1.1.1 (IntKind.wrap .i64 (a1 + 1)) (updAt tInstZ (updAt tInstZ (updAt tInstZ (updAt tInstZ (updAt tInstZ (updAt tInstZ (updAt tInstZ a2 (Int.toNat a1) (fun q_ => (a0, q_.2))) (Int.toNat a1) (fun q_ => (q_.1, IntKind.wrap .i64 (a0 + 1), q_.2.2))) (Int.toNat a1) (fun q_ => (q_.1, q_.2.1, IntKind.wrap .i64 ((IntKind.wrap .i64 (a0 + 1)) + 1), q_.2.2.2))) (Int.toNat a1) (fun q_ => (q_.1, q_.2.1, q_.2.2.1, IntKind.wrap .i64 ((IntKind.wrap .i64 ((IntKind.wrap .i64 (a0 + 1)) + 1)) + 1), q_.2.2.2.2))) (Int.toNat a1) (fun q_ => (q_.1, q_.2.1, q_.2.2.1, q_.2.2.2.1, IntKind.wrap .i64 ((IntKind.wrap .i64 ((IntKind.wrap .i64 ((IntKind.wrap .i64 (a0 + 1)) + 1)) + 1)) + 1), q_.2.2.2.2.2))) (Int.toNat a1) (fun q_ => (q_.1, q_.2.1, q_.2.2.1, q_.2.2.2.1, q_.2.2.2.2.1, IntKind.wrap .i64 ((IntKind.wrap .i64 ((IntKind.wrap .i64 ((IntKind.wrap .i64 ((IntKind.wrap .i64 (a0 + 1)) + 1)) + 1)) + 1)) + 1), q_.2.2.2.2.2.2))) (Int.toNat a1) (fun q_ => (q_.1, q_.2.1, q_.2.2.1, q_.2.2.2.1, q_.2.2.2.2.1, q_.2.2.2.2.2.1, r1.2.1, q_.2.2.2.2.2.2.2)))) else none) else none) else none) else none) else none) else none) else none) else (some (((a0, ()), ()), (a2, ())))
def laws_markInstS.all : Nat → (laws_markInstS.T0) × Unit
  | 0 => (fun _ _ _ => none, ())
  | k + 1 => (laws_markInstS.l0_ k (laws_markInstS.all k).1, ())
def laws_markInstS.l0 (k : Nat) : laws_markInstS.T0 := (laws_markInstS.all k).1
def laws_markInstS.f (k : Nat) (a0 : Int) (a1 : List tInstD) : Option laws_markInstS.R := laws_markInstS.l0 k a0 0 a1
def laws_markInstS.s (k : Nat) : FS := ⟨[⟨false, [.own 0]⟩, ⟨false, [.int .i64]⟩], [(0, .row true tInst)], false, [⟨false, [.int .i64]⟩], [(0, .row true tInst)], [0], fun x => laws_markInstS.f k x.1.2.1.1 x.2.1⟩
def laws_markInstS.E (k : Nat) : Ents := [(⟨17, []⟩, laws_markInt64S.s k)]
def laws_markInstS.L0 (l : laws_markInstS.T0) : LS laws_markInstS.R := ⟨[0], [(0, ⟨false, [.own 0]⟩), (1, ⟨false, [.int .i64]⟩), (5, ⟨false, [.int .i64]⟩)], [(0, .row true tInst)], fun x => l x.1.2.1.1 x.1.2.2.1.1 x.2.1⟩
def laws_markInstS.L (l0 : laws_markInstS.T0) : List (LS laws_markInstS.R) := [laws_markInstS.L0 l0]
def laws_markInstS.c : Code := Try.f83.body.getD .skip
theorem laws_markInstS.eq (k : Nat) (x) : (laws_markInstS.s k).pf x = execF tab (laws_markInstS.E k) Try.f83 laws_markInstS.c (laws_markInstS.s k) (laws_markInstS.L (laws_markInstS.l0 k)) x := by kernel_rfl
theorem laws_markInstS.r0 (l0 : laws_markInstS.T0) (k : Nat) (x) : laws_markInstS.l0_ k l0 x.1.2.1.1 x.1.2.2.1.1 x.2.1 = roundOf tab (laws_markInstS.E k) (laws_markInstS.L l0) laws_markInstS.c (fin tab Try.f83 (laws_markInstS.s k)) 0 (laws_markInstS.L0 l0) x := by kernel_rfl
theorem laws_markInstS.sound : ∀ k, Sound Try.prog 83 (laws_markInstS.s k) := sound_of mixed tab_ok (f := 83) (fn := Try.f83) (c := laws_markInstS.c) (by kernel_rfl) (by kernel_rfl) (by kernel_rfl) ⟨[⟨false, [.own 0]⟩, ⟨false, [.int .i64]⟩], [(0, .row true tInst)], false, [⟨false, [.int .i64]⟩], [(0, .row true tInst)], [0]⟩ (by kernel_rfl) (by kernel_rfl) (fun k => (laws_markInstS.s k).pf) laws_markInstS.E (fun k => (EntsOK.cons (laws_markInt64S.sound k) EntsOK.nil)) (fun k => laws_markInstS.L (laws_markInstS.l0 k)) (fun k => ⟨rfl, trivial⟩) ⟨fun _ => rfl, trivial⟩ (fun k => ⟨⟨(laws_markInstS.L0 (laws_markInstS.l0 (k + 1))).l, rfl, fun x => laws_markInstS.r0 (laws_markInstS.l0 k) k x⟩, trivial⟩) laws_markInstS.eq
end
end Go.Proofs.Ytkfehogikjcgkaa.V
namespace Go.Proofs.Ytkfehogikjcgkaa.V
open Go
set_option linter.unusedVariables false
noncomputable section
/-! ### laws.markBlockS: function 44 -/
abbrev laws_markBlockS.R := (((Int × Unit) × Unit) × ((List tBlockD) × Unit))
abbrev laws_markBlockS.T0 : Type := Int → Int → (List tBlockD) → Option laws_markBlockS.R
def laws_markBlockS.l0_ (k : Nat) (l0 : laws_markBlockS.T0) (a0 : Int) (a1 : Int) (a2 : List tBlockD) : Option laws_markBlockS.R := bif decide (a1 < ((List.length a2 : Nat) : Int)) then (bif (decide (0 ≤ a1)) && (decide (a1 < ((List.length a2 : Nat) : Int))) then (Option.bind (laws_markPhiS.f k a0 ((List.getD a2 (Int.toNat a1) tBlockZ).1)) fun r1 => bif (decide (0 ≤ a1)) && (decide (a1 < ((List.length (updAt tBlockZ a2 (Int.toNat a1) (fun q_ => (r1.2.1, q_.2))) : Nat) : Int))) then (Option.bind (laws_markInstS.f k r1.1.1.1 ((List.getD (updAt tBlockZ a2 (Int.toNat a1) (fun q_ => (r1.2.1, q_.2))) (Int.toNat a1) tBlockZ).2.1)) fun r2 => bif (decide (0 ≤ a1)) && (decide (a1 < ((List.length (updAt tBlockZ (updAt tBlockZ a2 (Int.toNat a1) (fun q_ => (r1.2.1, q_.2))) (Int.toNat a1) (fun q_ => (q_.1, r2.2.1, q_.2.2))) : Nat) : Int))) then (bif (decide (0 ≤ a1)) && (decide (a1 < ((List.length (updAt tBlockZ (updAt tBlockZ (updAt tBlockZ a2 (Int.toNat a1) (fun q_ => (r1.2.1, q_.2))) (Int.toNat a1) (fun q_ => (q_.1, r2.2.1, q_.2.2))) (Int.toNat a1) (fun q_ => (q_.1, q_.2.1, r2.1.1.1, q_.2.2.2))) : Nat) : Int))) then (bif (decide (0 ≤ a1)) && (decide (a1 < ((List.length (updAt tBlockZ (updAt tBlockZ (updAt tBlockZ (updAt tBlockZ a2 (Int.toNat a1) (fun q_ => (r1.2.1, q_.2))) (Int.toNat a1) (fun q_ => (q_.1, r2.2.1, q_.2.2))) (Int.toNat a1) (fun q_ => (q_.1, q_.2.1, r2.1.1.1, q_.2.2.2))) (Int.toNat a1) (fun q_ => (q_.1, q_.2.1, q_.2.2.1, IntKind.wrap .i64 (r2.1.1.1 + 1), q_.2.2.2.2))) : Nat) : Int))) then (bif (decide (0 ≤ a1)) && (decide (a1 < ((List.length (updAt tBlockZ (updAt tBlockZ (updAt tBlockZ (updAt tBlockZ (updAt tBlockZ a2 (Int.toNat a1) (fun q_ => (r1.2.1, q_.2))) (Int.toNat a1) (fun q_ => (q_.1, r2.2.1, q_.2.2))) (Int.toNat a1) (fun q_ => (q_.1, q_.2.1, r2.1.1.1, q_.2.2.2))) (Int.toNat a1) (fun q_ => (q_.1, q_.2.1, q_.2.2.1, IntKind.wrap .i64 (r2.1.1.1 + 1), q_.2.2.2.2))) (Int.toNat a1) (fun q_ => (q_.1, q_.2.1, q_.2.2.1, q_.2.2.2.1, IntKind.wrap .i64 ((IntKind.wrap .i64 (r2.1.1.1 + 1)) + 1), q_.2.2.2.2.2))) : Nat) : Int))) then (l0 (IntKind.wrap .i64 ((IntKind.wrap .i64 ((IntKind.wrap .i64 ((IntKind.wrap .i64 (r2.1.1.1 + 1)) + 1)) + 1)) + 1)) (IntKind.wrap .i64 (a1 + 1)) (updAt tBlockZ (updAt tBlockZ (updAt tBlockZ (updAt tBlockZ (updAt tBlockZ (updAt tBlockZ a2 (Int.toNat a1) (fun q_ => (r1.2.1, q_.2))) (Int.toNat a1) (fun q_ => (q_.1, r2.2.1, q_.2.2))) (Int.toNat a1) (fun q_ => (q_.1, q_.2.1, r2.1.1.1, q_.2.2.2))) (Int.toNat a1) (fun q_ => (q_.1, q_.2.1, q_.2.2.1, IntKind.wrap .i64 (r2.1.1.1 + 1), q_.2.2.2.2))) (Int.toNat a1) (fun q_ => (q_.1, q_.2.1, q_.2.2.1, q_.2.2.2.1, IntKind.wrap .i64 ((IntKind.wrap .i64 (r2.1.1.1 + 1)) + 1), q_.2.2.2.2.2))) (Int.toNat a1) (fun q_ => (q_.1, q_.2.1, q_.2.2.1, q_.2.2.2.1, q_.2.2.2.2.1, IntKind.wrap .i64 ((IntKind.wrap .i64 ((IntKind.wrap .i64 (r2.1.1.1 + 1)) + 1)) + 1), q_.2.2.2.2.2.2)))) else none) else none) else none) else none) else none) else none) else (some (((a0, ()), ()), (a2, ())))
def laws_markBlockS.all : Nat → (laws_markBlockS.T0) × Unit
  | 0 => (fun _ _ _ => none, ())
  | k + 1 => (laws_markBlockS.l0_ k (laws_markBlockS.all k).1, ())
def laws_markBlockS.l0 (k : Nat) : laws_markBlockS.T0 := (laws_markBlockS.all k).1
def laws_markBlockS.f (k : Nat) (a0 : Int) (a1 : List tBlockD) : Option laws_markBlockS.R := laws_markBlockS.l0 k a0 0 a1
def laws_markBlockS.s (k : Nat) : FS := ⟨[⟨false, [.own 0]⟩, ⟨false, [.int .i64]⟩], [(0, .row true tBlock)], false, [⟨false, [.int .i64]⟩], [(0, .row true tBlock)], [0], fun x => laws_markBlockS.f k x.1.2.1.1 x.2.1⟩
def laws_markBlockS.E (k : Nat) : Ents := [(⟨82, []⟩, laws_markPhiS.s k), (⟨83, []⟩, laws_markInstS.s k)]
def laws_markBlockS.L0 (l : laws_markBlockS.T0) : LS laws_markBlockS.R := ⟨[0], [(0, ⟨false, [.own 0]⟩), (1, ⟨false, [.int .i64]⟩), (5, ⟨false, [.int .i64]⟩)], [(0, .row true tBlock)], fun x => l x.1.2.1.1 x.1.2.2.1.1 x.2.1⟩
def laws_markBlockS.L (l0 : laws_markBlockS.T0) : List (LS laws_markBlockS.R) := [laws_markBlockS.L0 l0]
def laws_markBlockS.c : Code := Try.f44.body.getD .skip
theorem laws_markBlockS.eq (k : Nat) (x) : (laws_markBlockS.s k).pf x = execF tab (laws_markBlockS.E k) Try.f44 laws_markBlockS.c (laws_markBlockS.s k) (laws_markBlockS.L (laws_markBlockS.l0 k)) x := by kernel_rfl
theorem laws_markBlockS.r0 (l0 : laws_markBlockS.T0) (k : Nat) (x) : laws_markBlockS.l0_ k l0 x.1.2.1.1 x.1.2.2.1.1 x.2.1 = roundOf tab (laws_markBlockS.E k) (laws_markBlockS.L l0) laws_markBlockS.c (fin tab Try.f44 (laws_markBlockS.s k)) 0 (laws_markBlockS.L0 l0) x := by kernel_rfl
theorem laws_markBlockS.sound : ∀ k, Sound Try.prog 44 (laws_markBlockS.s k) := sound_of mixed tab_ok (f := 44) (fn := Try.f44) (c := laws_markBlockS.c) (by kernel_rfl) (by kernel_rfl) (by kernel_rfl) ⟨[⟨false, [.own 0]⟩, ⟨false, [.int .i64]⟩], [(0, .row true tBlock)], false, [⟨false, [.int .i64]⟩], [(0, .row true tBlock)], [0]⟩ (by kernel_rfl) (by kernel_rfl) (fun k => (laws_markBlockS.s k).pf) laws_markBlockS.E (fun k => (EntsOK.cons (laws_markPhiS.sound k) (EntsOK.cons (laws_markInstS.sound k) EntsOK.nil))) (fun k => laws_markBlockS.L (laws_markBlockS.l0 k)) (fun k => ⟨rfl, trivial⟩) ⟨fun _ => rfl, trivial⟩ (fun k => ⟨⟨(laws_markBlockS.L0 (laws_markBlockS.l0 (k + 1))).l, rfl, fun x => laws_markBlockS.r0 (laws_markBlockS.l0 k) k x⟩, trivial⟩) laws_markBlockS.eq
end
end Go.Proofs.Ytkfehogikjcgkaa.V
namespace Go.Proofs.Ytkfehogikjcgkaa.V
open Go
set_option linter.unusedVariables false
noncomputable section
/-! ### laws.markFunc: function 16 -/
abbrev laws_markFunc.R := (((Int × Unit) × Unit) × ((List Int) × (List tBlockD) × Unit))
def laws_markFunc.f (k : Nat) (a0 : Int) (a1 : Int) (a2 : List Int) (a3 : List tBlockD) : Option laws_markFunc.R := Option.bind (laws_markInt64S.f k a1 a2) fun r1 => Option.bind (laws_markBlockS.f k r1.1.1.1 a3) fun r2 => some (((r2.1.1.1, ()), ()), (r1.2.1, r2.2.1, ()))
def laws_markFunc.s (k : Nat) : FS := ⟨[⟨true, [.own 0, .int .i64, .own 1]⟩, ⟨false, [.int .i64]⟩], [(0, .row true (.int .i64)), (1, .row true tBlock)], false, [⟨false, [.int .i64]⟩], [(0, .row true (.int .i64)), (1, .row true tBlock)], [0, 1], fun x => laws_markFunc.f k x.1.1.2.1 x.1.2.1.1 x.2.1 x.2.2.1⟩
def laws_markFunc.E (k : Nat) : Ents := [(⟨17, []⟩, laws_markInt64S.s k), (⟨44, []⟩, laws_markBlockS.s k)]
def laws_markFunc.L : List (LS laws_markFunc.R) := []
def laws_markFunc.c : Code := Try.f16.body.getD .skip
theorem laws_markFunc.eq (k : Nat) (x) : (laws_markFunc.s k).pf x = execF tab (laws_markFunc.E k) Try.f16 laws_markFunc.c (laws_markFunc.s k) laws_markFunc.L x := by kernel_rfl
theorem laws_markFunc.sound : ∀ k, Sound Try.prog 16 (laws_markFunc.s k) := sound_of mixed tab_ok (f := 16) (fn := Try.f16) (c := laws_markFunc.c) (by kernel_rfl) (by kernel_rfl) (by kernel_rfl) ⟨[⟨true, [.own 0, .int .i64, .own 1]⟩, ⟨false, [.int .i64]⟩], [(0, .row true (.int .i64)), (1, .row true tBlock)], false, [⟨false, [.int .i64]⟩], [(0, .row true (.int .i64)), (1, .row true tBlock)], [0, 1]⟩ (by kernel_rfl) (by kernel_rfl) (fun k => (laws_markFunc.s k).pf) laws_markFunc.E (fun k => (EntsOK.cons (laws_markInt64S.sound k) (EntsOK.cons (laws_markBlockS.sound k) EntsOK.nil))) (fun k => laws_markFunc.L) (fun k => trivial) trivial (fun k => trivial) laws_markFunc.eq
end
end Go.Proofs.Ytkfehogikjcgkaa.V
namespace Go.Proofs.Ytkfehogikjcgkaa.V
open Go
set_option linter.unusedVariables false
noncomputable section
/-! ### laws.heldInt64S: function 18 -/
abbrev laws_heldInt64S.R := (((Int × Unit) × Unit) × Unit)
abbrev laws_heldInt64S.T0 : Type := (List Int) → Int → Int → Option laws_heldInt64S.R
def laws_heldInt64S.l0_ (k : Nat) (l0 : laws_heldInt64S.T0) (a0 : List Int) (a1 : Int) (a2 : Int) : Option laws_heldInt64S.R := bif decide (a2 < ((List.length a0 : Nat) : Int)) then (bif (decide (0 ≤ a2)) && (decide (a2 < ((List.length a0 : Nat) : Int))) then (bif !decide (List.getD a0 (Int.toNat a2) 0 = a1) then (some (((-1, ()), ()), ())) else (l0 a0 (IntKind.wrap .i64 (a1 + 1)) (IntKind.wrap .i64 (a2 + 1)))) else none) else (some (((a1, ()), ()), ()))
def laws_heldInt64S.all : Nat → (laws_heldInt64S.T0) × Unit
  | 0 => (fun _ _ _ => none, ())
  | k + 1 => (laws_heldInt64S.l0_ k (laws_heldInt64S.all k).1, ())
def laws_heldInt64S.l0 (k : Nat) : laws_heldInt64S.T0 := (laws_heldInt64S.all k).1
def laws_heldInt64S.f (k : Nat) (a0 : List Int) (a1 : Int) : Option laws_heldInt64S.R := laws_heldInt64S.l0 k a0 a1 0
def laws_heldInt64S.s (k : Nat) : FS := ⟨[⟨false, [.lst (.int .i64)]⟩, ⟨false, [.int .i64]⟩], [], false, [⟨false, [.int .i64]⟩], [], [], fun x => laws_heldInt64S.f k x.1.1.1 x.1.2.1.1⟩
def laws_heldInt64S.E (k : Nat) : Ents := []
def laws_heldInt64S.L0 (l : laws_heldInt64S.T0) : LS laws_heldInt64S.R := ⟨[], [(0, ⟨false, [.lst (.int .i64)]⟩), (1, ⟨false, [.int .i64]⟩), (5, ⟨false, [.int .i64]⟩)], [], fun x => l x.1.1.1 x.1.2.1.1 x.1.2.2.1.1⟩
def laws_heldInt64S.L (l0 : laws_heldInt64S.T0) : List (LS laws_heldInt64S.R) := [laws_heldInt64S.L0 l0]
def laws_heldInt64S.c : Code := Try.f18.body.getD .skip
theorem laws_heldInt64S.eq (k : Nat) (x) : (laws_heldInt64S.s k).pf x = execF tab (laws_heldInt64S.E k) Try.f18 laws_heldInt64S.c (laws_heldInt64S.s k) (laws_heldInt64S.L (laws_heldInt64S.l0 k)) x := by kernel_rfl
theorem laws_heldInt64S.r0 (l0 : laws_heldInt64S.T0) (k : Nat) (x) : laws_heldInt64S.l0_ k l0 x.1.1.1 x.1.2.1.1 x.1.2.2.1.1 = roundOf tab (laws_heldInt64S.E k) (laws_heldInt64S.L l0) laws_heldInt64S.c (fin tab Try.f18 (laws_heldInt64S.s k)) 0 (laws_heldInt64S.L0 l0) x := by kernel_rfl
theorem laws_heldInt64S.sound : ∀ k, Sound Try.prog 18 (laws_heldInt64S.s k) := sound_of mixed tab_ok (f := 18) (fn := Try.f18) (c := laws_heldInt64S.c) (by kernel_rfl) (by kernel_rfl) (by kernel_rfl) ⟨[⟨false, [.lst (.int .i64)]⟩, ⟨false, [.int .i64]⟩], [], false, [⟨false, [.int .i64]⟩], [], []⟩ (by kernel_rfl) (by kernel_rfl) (fun k => (laws_heldInt64S.s k).pf) laws_heldInt64S.E (fun k => EntsOK.nil) (fun k => laws_heldInt64S.L (laws_heldInt64S.l0 k)) (fun k => ⟨rfl, trivial⟩) ⟨fun _ => rfl, trivial⟩ (fun k => ⟨⟨(laws_heldInt64S.L0 (laws_heldInt64S.l0 (k + 1))).l, rfl, fun x => laws_heldInt64S.r0 (laws_heldInt64S.l0 k) k x⟩, trivial⟩) laws_heldInt64S.eq
end
end Go.Proofs.Ytkfehogikjcgkaa.V
namespace Go.Proofs.Ytkfehogikjcgkaa.V
open Go
set_option linter.unusedVariables false
noncomputable section
/-! ### laws.heldPhiS: function 127 -/
abbrev laws_heldPhiS.R := (((Int × Unit) × Unit) × Unit)
abbrev laws_heldPhiS.T0 : Type := (List tPhiD) → Int → Int → Option laws_heldPhiS.R
def laws_heldPhiS.l0_ (k : Nat) (l0 : laws_heldPhiS.T0) (a0 : List tPhiD) (a1 : Int) (a2 : Int) : Option laws_heldPhiS.R := bif decide (a2 < ((List.length a0 : Nat) : Int)) then (bif (decide (0 ≤ a2)) && (decide (a2 < ((List.length a0 : Nat) : Int))) then (bif !decide ((List.getD a0 (Int.toNat a2) tPhiZ).1 = a1) then (some (((-1, ()), ()), ())) else (bif (decide (0 ≤ a2)) && (decide (a2 < ((List.length a0 : Nat) : Int))) then (Option.bind (laws_heldInt64S.f k ((List.getD a0 (Int.toNat a2) tPhiZ).2.1) (IntKind.wrap .i64 (a1 + 1))) fun r1 => bif decide (r1.1.1.1 < 0) then (some (((-1, ()), ()), ())) else (l0 a0 r1.1.1.1 (IntKind.wrap .i64 (a2 + 1)))) else none)) else none) else (some (((a1, ()), ()), ()))
def laws_heldPhiS.all : Nat → (laws_heldPhiS.T0) × Unit
  | 0 => (fun _ _ _ => none, ())
  | k + 1 => (laws_heldPhiS.l0_ k (laws_heldPhiS.all k).1, ())
def laws_heldPhiS.l0 (k : Nat) : laws_heldPhiS.T0 := (laws_heldPhiS.all k).1
def laws_heldPhiS.f (k : Nat) (a0 : List tPhiD) (a1 : Int) : Option laws_heldPhiS.R := laws_heldPhiS.l0 k a0 a1 0
def laws_heldPhiS.s (k : Nat) : FS := ⟨[⟨false, [.lst tPhi]⟩, ⟨false, [.int .i64]⟩], [], false, [⟨false, [.int .i64]⟩], [], [], fun x => laws_heldPhiS.f k x.1.1.1 x.1.2.1.1⟩
def laws_heldPhiS.E (k : Nat) : Ents := [(⟨18, []⟩, laws_heldInt64S.s k)]
def laws_heldPhiS.L0 (l : laws_heldPhiS.T0) : LS laws_heldPhiS.R := ⟨[], [(0, ⟨false, [.lst tPhi]⟩), (1, ⟨false, [.int .i64]⟩), (5, ⟨false, [.int .i64]⟩)], [], fun x => l x.1.1.1 x.1.2.1.1 x.1.2.2.1.1⟩
def laws_heldPhiS.L (l0 : laws_heldPhiS.T0) : List (LS laws_heldPhiS.R) := [laws_heldPhiS.L0 l0]
def laws_heldPhiS.c : Code := Try.f127.body.getD .skip
theorem laws_heldPhiS.eq (k : Nat) (x) : (laws_heldPhiS.s k).pf x = execF tab (laws_heldPhiS.E k) Try.f127 laws_heldPhiS.c (laws_heldPhiS.s k) (laws_heldPhiS.L (laws_heldPhiS.l0 k)) x := by kernel_rfl
theorem laws_heldPhiS.r0 (l0 : laws_heldPhiS.T0) (k : Nat) (x) : laws_heldPhiS.l0_ k l0 x.1.1.1 x.1.2.1.1 x.1.2.2.1.1 = roundOf tab (laws_heldPhiS.E k) (laws_heldPhiS.L l0) laws_heldPhiS.c (fin tab Try.f127 (laws_heldPhiS.s k)) 0 (laws_heldPhiS.L0 l0) x := by kernel_rfl
theorem laws_heldPhiS.sound : ∀ k, Sound Try.prog 127 (laws_heldPhiS.s k) := sound_of mixed tab_ok (f := 127) (fn := Try.f127) (c := laws_heldPhiS.c) (by kernel_rfl) (by kernel_rfl) (by kernel_rfl) ⟨[⟨false, [.lst tPhi]⟩, ⟨false, [.int .i64]⟩], [], false, [⟨false, [.int .i64]⟩], [], []⟩ (by kernel_rfl) (by kernel_rfl) (fun k => (laws_heldPhiS.s k).pf) laws_heldPhiS.E (fun k => (EntsOK.cons (laws_heldInt64S.sound k) EntsOK.nil)) (fun k => laws_heldPhiS.L (laws_heldPhiS.l0 k)) (fun k => ⟨rfl, trivial⟩) ⟨fun _ => rfl, trivial⟩ (fun k => ⟨⟨(laws_heldPhiS.L0 (laws_heldPhiS.l0 (k + 1))).l, rfl, fun x => laws_heldPhiS.r0 (laws_heldPhiS.l0 k) k x⟩, trivial⟩) laws_heldPhiS.eq
end
end Go.Proofs.Ytkfehogikjcgkaa.V
namespace Go.Proofs.Ytkfehogikjcgkaa.V
open Go
set_option linter.unusedVariables false
noncomputable section
/-! ### laws.heldInstS: function 128 -/
abbrev laws_heldInstS.R := (((Int × Unit) × Unit) × Unit)
abbrev laws_heldInstS.T0 : Type := (List tInstD) → Int → Int → Option laws_heldInstS.R
def laws_heldInstS.l0_ (k : Nat) (l0 : laws_heldInstS.T0) (a0 : List tInstD) (a1 : Int) (a2 : Int) : Option laws_heldInstS.R := bif decide (a2 < ((List.length a0 : Nat) : Int)) then (bif (decide (0 ≤ a2)) && (decide (a2 < ((List.length a0 : Nat) : Int))) then (bif !decide ((List.getD a0 (Int.toNat a2) tInstZ).1 = a1) then (some (((-1, ()), ()), ())) else (bif (decide (0 ≤ a2)) && (decide (a2 < ((List.length a0 : Nat) : Int))) then (bif !decide ((List.getD a0 (Int.toNat a2) tInstZ).2.1 = IntKind.wrap .i64 (a1 + 1)) then (some (((-1, ()), ()), ())) else (bif (decide (0 ≤ a2)) && (decide (a2 < ((List.length a0 : Nat) : Int))) then (bif !decide ((List.getD a0 (Int.toNat a2) tInstZ).2.2.1 = IntKind.wrap .i64 ((IntKind.wrap .i64 (a1 + 1)) + 1)) then (some (((-1, ()), ()), ())) else (bif (decide (0 ≤ a2)) && (decide (a2 < ((List.length a0 : Nat) : Int))) then (bif !decide ((List.getD a0 (Int.toNat a2) tInstZ).2.2.2.1 = IntKind.wrap .i64 ((IntKind.wrap .i64 ((IntKind.wrap .i64 (a1 + 1)) + 1)) + 1)) then (some (((-1, ()), ()), ())) else (bif (decide (0 ≤ a2)) && (decide (a2 < ((List.length a0 : Nat) : Int))) then (bif !decide ((List.getD a0 (Int.toNat a2) tInstZ).2.2.2.2.1 = IntKind.wrap .i64 ((IntKind.wrap .i64 ((IntKind.wrap .i64 ((IntKind.wrap .i64 (a1 + 1)) + 1)) + 1)) + 1)) then (some (((-1, ()), ()), ())) else (bif (decide (0 ≤ a2)) && (decide (a2 < ((List.length a0 : Nat) : Int))) then (bif !decide ((List.getD a0 (Int.toNat a2) tInstZ).2.2.2.2.2.1 = IntKind.wrap .i64 ((IntKind.wrap .i64 ((IntKind.wrap .i64 ((IntKind.wrap .i64 ((IntKind.wrap .i64 (a1 + 1)) + 1)) + 1)) + 1)) + 1)) then (some (((-1, ()), ()), ())) else (bif (decide (0 ≤ a2)) && (decide (a2 < ((List.length a0 : Nat) : Int))) then (Option.bind (laws_heldInt64S.f k ((List.getD a0 (Int.toNat a2) tInstZ).2.2.2.2.2.2.1) (IntKind.wrap .i64 ((IntKind.wrap .i64 ((IntKind.wrap .i64 ((IntKind.wrap .i64 ((IntKind.wrap .i64 ((IntKind.wrap .i64 (a1 + 1)) + 1)) + 1)) + 1)) + 1)) + 1))) fun r1 => bif decide (r1.1.1.1 < 0) then (some (((-1, ()), ()), ())) else (l0 a0 r1.1.1.1 (IntKind.wrap .i64 (a2 + 1)))) else none)) else none)) else none)) else none)) else none)) else none)) else none) else (some (((a1, ()), ()), ()))
def laws_heldInstS.all : Nat → (laws_heldInstS.T0) × Unit
  | 0 => (fun _ _ _ => none, ())
  | k + 1 => (laws_heldInstS.l0_ k (laws_heldInstS.all k).1, ())
def laws_heldInstS.l0 (k : Nat) : laws_heldInstS.T0 := (laws_heldInstS.all k).1
def laws_heldInstS.f (k : Nat) (a0 : List tInstD) (a1 : Int) : Option laws_heldInstS.R := laws_heldInstS.l0 k a0 a1 0
def laws_heldInstS.s (k : Nat) : FS := ⟨[⟨false, [.lst tInst]⟩, ⟨false, [.int .i64]⟩], [], false, [⟨false, [.int .i64]⟩], [], [], fun x => laws_heldInstS.f k x.1.1.1 x.1.2.1.1⟩
def laws_heldInstS.E (k : Nat) : Ents := [(⟨18, []⟩, laws_heldInt64S.s k)]
def laws_heldInstS.L0 (l : laws_heldInstS.T0) : LS laws_heldInstS.R := ⟨[], [(0, ⟨false, [.lst tInst]⟩), (1, ⟨false, [.int .i64]⟩), (5, ⟨false, [.int .i64]⟩)], [], fun x => l x.1.1.1 x.1.2.1.1 x.1.2.2.1.1⟩
def laws_heldInstS.L (l0 : laws_heldInstS.T0) : List (LS laws_heldInstS.R) := [laws_heldInstS.L0 l0]
def laws_heldInstS.c : Code := Try.f128.body.getD .skip
theorem laws_heldInstS.eq (k : Nat) (x) : (laws_heldInstS.s k).pf x = execF tab (laws_heldInstS.E k) Try.f128 laws_heldInstS.c (laws_heldInstS.s k) (laws_heldInstS.L (laws_heldInstS.l0 k)) x := by kernel_rfl
theorem laws_heldInstS.r0 (l0 : laws_heldInstS.T0) (k : Nat) (x) : laws_heldInstS.l0_ k l0 x.1.1.1 x.1.2.1.1 x.1.2.2.1.1 = roundOf tab (laws_heldInstS.E k) (laws_heldInstS.L l0) laws_heldInstS.c (fin tab Try.f128 (laws_heldInstS.s k)) 0 (laws_heldInstS.L0 l0) x := by kernel_rfl
theorem laws_heldInstS.sound : ∀ k, Sound Try.prog 128 (laws_heldInstS.s k) := sound_of mixed tab_ok (f := 128) (fn := Try.f128) (c := laws_heldInstS.c) (by kernel_rfl) (by kernel_rfl) (by kernel_rfl) ⟨[⟨false, [.lst tInst]⟩, ⟨false, [.int .i64]⟩], [], false, [⟨false, [.int .i64]⟩], [], []⟩ (by kernel_rfl) (by kernel_rfl) (fun k => (laws_heldInstS.s k).pf) laws_heldInstS.E (fun k => (EntsOK.cons (laws_heldInt64S.sound k) EntsOK.nil)) (fun k => laws_heldInstS.L (laws_heldInstS.l0 k)) (fun k => ⟨rfl, trivial⟩) ⟨fun _ => rfl, trivial⟩ (fun k => ⟨⟨(laws_heldInstS.L0 (laws_heldInstS.l0 (k + 1))).l, rfl, fun x => laws_heldInstS.r0 (laws_heldInstS.l0 k) k x⟩, trivial⟩) laws_heldInstS.eq
end
end Go.Proofs.Ytkfehogikjcgkaa.V
namespace Go.Proofs.Ytkfehogikjcgkaa.V
open Go
set_option linter.unusedVariables false
noncomputable section
/-! ### laws.heldBlockS: function 74 -/
abbrev laws_heldBlockS.R := (((Int × Unit) × Unit) × Unit)
abbrev laws_heldBlockS.T0 : Type := (List tBlockD) → Int → Int → Option laws_heldBlockS.R
def laws_heldBlockS.l0_ (k : Nat) (l0 : laws_heldBlockS.T0) (a0 : List tBlockD) (a1 : Int) (a2 : Int) : Option laws_heldBlockS.R := bif decide (a2 < ((List.length a0 : Nat) : Int)) then (bif (decide (0 ≤ a2)) && (decide (a2 < ((List.length a0 : Nat) : Int))) then (Option.bind (laws_heldPhiS.f k ((List.getD a0 (Int.toNat a2) tBlockZ).1) a1) fun r1 => bif decide (r1.1.1.1 < 0) then (some (((-1, ()), ()), ())) else (bif (decide (0 ≤ a2)) && (decide (a2 < ((List.length a0 : Nat) : Int))) then (Option.bind (laws_heldInstS.f k ((List.getD a0 (Int.toNat a2) tBlockZ).2.1) r1.1.1.1) fun r2 => bif decide (r2.1.1.1 < 0) then (some (((-1, ()), ()), ())) else (bif (decide (0 ≤ a2)) && (decide (a2 < ((List.length a0 : Nat) : Int))) then (bif !decide ((List.getD a0 (Int.toNat a2) tBlockZ).2.2.1 = r2.1.1.1) then (some (((-1, ()), ()), ())) else (bif (decide (0 ≤ a2)) && (decide (a2 < ((List.length a0 : Nat) : Int))) then (bif !decide ((List.getD a0 (Int.toNat a2) tBlockZ).2.2.2.1 = IntKind.wrap .i64 (r2.1.1.1 + 1)) then (some (((-1, ()), ()), ())) else (bif (decide (0 ≤ a2)) && (decide (a2 < ((List.length a0 : Nat) : Int))) then (bif !decide ((List.getD a0 (Int.toNat a2) tBlockZ).2.2.2.2.1 = IntKind.wrap .i64 ((IntKind.wrap .i64 (r2.1.1.1 + 1)) + 1)) then (some (((-1, ()), ()), ())) else (bif (decide (0 ≤ a2)) && (decide (a2 < ((List.length a0 : Nat) : Int))) then (bif !decide ((List.getD a0 (Int.toNat a2) tBlockZ).2.2.2.2.2.1 = IntKind.wrap .i64 ((IntKind.wrap .i64 ((IntKind.wrap .i64 (r2.1.1.1 + 1)) + 1)) + 1)) then (some (((-1, ()), ()), ())) else (l0 a0 (IntKind.wrap .i64 ((IntKind.wrap .i64 ((IntKind.wrap .i64 ((IntKind.wrap .i64 (r2.1.1.1 + 1)) + 1)) + 1)) + 1)) (IntKind.wrap .i64 (a2 + 1)))) else none)) else none)) else none)) else none)) else none)) else none) else (some (((a1, ()), ()), ()))
def laws_heldBlockS.all : Nat → (laws_heldBlockS.T0) × Unit
  | 0 => (fun _ _ _ => none, ())
  | k + 1 => (laws_heldBlockS.l0_ k (laws_heldBlockS.all k).1, ())
def laws_heldBlockS.l0 (k : Nat) : laws_heldBlockS.T0 := (laws_heldBlockS.all k).1
def laws_heldBlockS.f (k : Nat) (a0 : List tBlockD) (a1 : Int) : Option laws_heldBlockS.R := laws_heldBlockS.l0 k a0 a1 0
def laws_heldBlockS.s (k : Nat) : FS := ⟨[⟨false, [.lst tBlock]⟩, ⟨false, [.int .i64]⟩], [], false, [⟨false, [.int .i64]⟩], [], [], fun x => laws_heldBlockS.f k x.1.1.1 x.1.2.1.1⟩
def laws_heldBlockS.E (k : Nat) : Ents := [(⟨127, []⟩, laws_heldPhiS.s k), (⟨128, []⟩, laws_heldInstS.s k)]
def laws_heldBlockS.L0 (l : laws_heldBlockS.T0) : LS laws_heldBlockS.R := ⟨[], [(0, ⟨false, [.lst tBlock]⟩), (1, ⟨false, [.int .i64]⟩), (5, ⟨false, [.int .i64]⟩)], [], fun x => l x.1.1.1 x.1.2.1.1 x.1.2.2.1.1⟩
def laws_heldBlockS.L (l0 : laws_heldBlockS.T0) : List (LS laws_heldBlockS.R) := [laws_heldBlockS.L0 l0]
def laws_heldBlockS.c : Code := Try.f74.body.getD .skip
theorem laws_heldBlockS.eq (k : Nat) (x) : (laws_heldBlockS.s k).pf x = execF tab (laws_heldBlockS.E k) Try.f74 laws_heldBlockS.c (laws_heldBlockS.s k) (laws_heldBlockS.L (laws_heldBlockS.l0 k)) x := by kernel_rfl
theorem laws_heldBlockS.r0 (l0 : laws_heldBlockS.T0) (k : Nat) (x) : laws_heldBlockS.l0_ k l0 x.1.1.1 x.1.2.1.1 x.1.2.2.1.1 = roundOf tab (laws_heldBlockS.E k) (laws_heldBlockS.L l0) laws_heldBlockS.c (fin tab Try.f74 (laws_heldBlockS.s k)) 0 (laws_heldBlockS.L0 l0) x := by kernel_rfl
theorem laws_heldBlockS.sound : ∀ k, Sound Try.prog 74 (laws_heldBlockS.s k) := sound_of mixed tab_ok (f := 74) (fn := Try.f74) (c := laws_heldBlockS.c) (by kernel_rfl) (by kernel_rfl) (by kernel_rfl) ⟨[⟨false, [.lst tBlock]⟩, ⟨false, [.int .i64]⟩], [], false, [⟨false, [.int .i64]⟩], [], []⟩ (by kernel_rfl) (by kernel_rfl) (fun k => (laws_heldBlockS.s k).pf) laws_heldBlockS.E (fun k => (EntsOK.cons (laws_heldPhiS.sound k) (EntsOK.cons (laws_heldInstS.sound k) EntsOK.nil))) (fun k => laws_heldBlockS.L (laws_heldBlockS.l0 k)) (fun k => ⟨rfl, trivial⟩) ⟨fun _ => rfl, trivial⟩ (fun k => ⟨⟨(laws_heldBlockS.L0 (laws_heldBlockS.l0 (k + 1))).l, rfl, fun x => laws_heldBlockS.r0 (laws_heldBlockS.l0 k) k x⟩, trivial⟩) laws_heldBlockS.eq
end
end Go.Proofs.Ytkfehogikjcgkaa.V
namespace Go.Proofs.Ytkfehogikjcgkaa.V
open Go
set_option linter.unusedVariables false
noncomputable section
/-! ### laws.heldFunc: function 35 -/
abbrev laws_heldFunc.R := (((Int × Unit) × Unit) × Unit)
def laws_heldFunc.f (k : Nat) (a0 : tFuncD) (a1 : Int) : Option laws_heldFunc.R := Option.bind (laws_heldInt64S.f k a0.1 a1) fun r1 => bif decide (r1.1.1.1 < 0) then (some (((-1, ()), ()), ())) else (Option.bind (laws_heldBlockS.f k a0.2.2.1 r1.1.1.1) fun r2 => bif decide (r2.1.1.1 < 0) then (some (((-1, ()), ()), ())) else (some (((r2.1.1.1, ()), ()), ())))
def laws_heldFunc.s (k : Nat) : FS := ⟨[⟨true, [.lst (.int .i64), .int .i64, .lst tBlock]⟩, ⟨false, [.int .i64]⟩], [], false, [⟨false, [.int .i64]⟩], [], [], fun x => laws_heldFunc.f k x.1.1 x.1.2.1.1⟩
def laws_heldFunc.E (k : Nat) : Ents := [(⟨18, []⟩, laws_heldInt64S.s k), (⟨74, []⟩, laws_heldBlockS.s k)]
def laws_heldFunc.L : List (LS laws_heldFunc.R) := []
def laws_heldFunc.c : Code := Try.f35.body.getD .skip
theorem laws_heldFunc.eq (k : Nat) (x) : (laws_heldFunc.s k).pf x = execF tab (laws_heldFunc.E k) Try.f35 laws_heldFunc.c (laws_heldFunc.s k) laws_heldFunc.L x := by kernel_rfl
theorem laws_heldFunc.sound : ∀ k, Sound Try.prog 35 (laws_heldFunc.s k) := sound_of mixed tab_ok (f := 35) (fn := Try.f35) (c := laws_heldFunc.c) (by kernel_rfl) (by kernel_rfl) (by kernel_rfl) ⟨[⟨true, [.lst (.int .i64), .int .i64, .lst tBlock]⟩, ⟨false, [.int .i64]⟩], [], false, [⟨false, [.int .i64]⟩], [], []⟩ (by kernel_rfl) (by kernel_rfl) (fun k => (laws_heldFunc.s k).pf) laws_heldFunc.E (fun k => (EntsOK.cons (laws_heldInt64S.sound k) (EntsOK.cons (laws_heldBlockS.sound k) EntsOK.nil))) (fun k => laws_heldFunc.L) (fun k => trivial) trivial (fun k => trivial) laws_heldFunc.eq
end
end Go.Proofs.Ytkfehogikjcgkaa.V
namespace Go.Proofs.Ytkfehogikjcgkaa.V
open Go
set_option linter.unusedVariables false
noncomputable section
/-! ### laws.FnExactSubstituted: function 9 -/
abbrev laws_FnExactSubstituted.R := (((Bool × Unit) × Unit) × Unit)
def laws_FnExactSubstituted.f (k : Nat) (a0 : tFuncD) (a1 : List Int) : Option laws_FnExactSubstituted.R := bif decide (1048576 < ((List.length a1 : Nat) : Int)) then (some (((true, ()), ()), ())) else (Option.bind (laws_szFunc.f k a0 1048576) fun r1 => bif decide (r1.1.1.1 < 0) then (some (((true, ()), ()), ())) else (Option.bind (laws_toFunc.f k a0) fun r2 => Option.bind (laws_toInt64S.f k a1) fun r3 => Option.bind (spec_Substituted.f k (r2.2.1, r2.1.1.2.1, r2.2.2.1, ()) r3.2.1) fun r4 => Option.bind (laws_toFunc.f k a0) fun r5 => Option.bind (laws_toInt64S.f k a1) fun r6 => Option.bind (impl_Substituted.f k (r5.2.1, r5.1.1.2.1, r5.2.2.1, ()) r6.2.1) fun r7 => Option.bind (laws_eqFunc.f k (r7.2.1, r7.1.1.2.1, r7.2.2.1, ()) (r4.2.1, r4.1.1.2.1, r4.2.2.1, ())) fun r8 => bif !r8.1.1.1 then (some (((false, ()), ()), ())) else (bif !(r7.1.2.1.1 == r4.1.2.1.1) then (some (((false, ()), ()), ())) else (Option.bind (laws_toFunc.f k a0) fun r9 => Option.bind (laws_eqFunc.f k (r5.2.1, r5.1.1.2.1, r5.2.2.1, ()) (r9.2.1, r9.1.1.2.1, r9.2.2.1, ())) fun r10 => bif !r10.1.1.1 then (some (((false, ()), ()), ())) else (Option.bind (laws_toInt64S.f k a1) fun r11 => Option.bind (laws_eqInt64S.f k r6.2.1 r11.2.1) fun r12 => bif !r12.1.1.1 then (some (((false, ()), ()), ())) else (Option.bind (laws_markFunc.f k r5.1.1.2.1 1 r5.2.1 r5.2.2.1) fun r13 => Option.bind (laws_markInt64S.f k r13.1.1.1 r6.2.1) fun r14 => bif decide (r14.1.1.1 < 0) then (some (((false, ()), ()), ())) else (Option.bind (laws_eqFunc.f k (r7.2.1, r7.1.1.2.1, r7.2.2.1, ()) (r4.2.1, r4.1.1.2.1, r4.2.2.1, ())) fun r15 => bif !r15.1.1.1 then (some (((false, ()), ()), ())) else (bif !(r7.1.2.1.1 == r4.1.2.1.1) then (some (((false, ()), ()), ())) else (Option.bind (laws_markFunc.f k r7.1.1.2.1 1 r7.2.1 r7.2.2.1) fun r16 => Option.bind (laws_heldFunc.f k (r16.2.1, r7.1.1.2.1, r16.2.2.1, ()) 1) fun r17 => bif decide (r17.1.1.1 < 0) then (some (((false, ()), ()), ())) else (bif !decide (r17.1.1.1 = r16.1.1.1) then (some (((false, ()), ()), ())) else (Option.bind (laws_toFunc.f k a0) fun r18 => Option.bind (laws_toInt64S.f k a1) fun r19 => Option.bind (impl_Substituted.f k (r18.2.1, r18.1.1.2.1, r18.2.2.1, ()) r19.2.1) fun r20 => Option.bind (laws_eqFunc.f k (r20.2.1, r20.1.1.2.1, r20.2.2.1, ()) (r4.2.1, r4.1.1.2.1, r4.2.2.1, ())) fun r21 => bif !r21.1.1.1 then (some (((false, ()), ()), ())) else (bif !(r20.1.2.1.1 == r4.1.2.1.1) then (some (((false, ()), ()), ())) else (Option.bind (laws_heldFunc.f k (r16.2.1, r7.1.1.2.1, r16.2.2.1, ()) 1) fun r22 => bif decide (r22.1.1.1 < 0) then (some (((false, ()), ()), ())) else (bif !decide (r22.1.1.1 = r16.1.1.1) then (some (((false, ()), ()), ())) else (some (((true, ()), ()), ()))))))))))))))))
def laws_FnExactSubstituted.s (k : Nat) : FS := ⟨[⟨true, [.lst (.int .i64), .int .i64, .lst tBlock]⟩, ⟨false, [.lst (.int .i64)]⟩], [], false, [⟨false, [.bool]⟩], [], [], fun x => laws_FnExactSubstituted.f k x.1.1 x.1.2.1.1⟩
def laws_FnExactSubstituted.E (k : Nat) : Ents := [(⟨10, []⟩, laws_szFunc.s k), (⟨12, []⟩, laws_toFunc.s k), (⟨33, []⟩, laws_toInt64S.s k), (⟨32, []⟩, spec_Substituted.s k), (⟨34, []⟩, impl_Substituted.s k), (⟨15, []⟩, laws_eqFunc.s k), (⟨14, []⟩, laws_eqInt64S.s k), (⟨16, []⟩, laws_markFunc.s k), (⟨17, []⟩, laws_markInt64S.s k), (⟨35, []⟩, laws_heldFunc.s k)]
def laws_FnExactSubstituted.L : List (LS laws_FnExactSubstituted.R) := []
def laws_FnExactSubstituted.c : Code := Try.f9.body.getD .skip
theorem laws_FnExactSubstituted.eq (k : Nat) (x) : (laws_FnExactSubstituted.s k).pf x = execF tab (laws_FnExactSubstituted.E k) Try.f9 laws_FnExactSubstituted.c (laws_FnExactSubstituted.s k) laws_FnExactSubstituted.L x := by kernel_rfl
theorem laws_FnExactSubstituted.sound : ∀ k, Sound Try.prog 9 (laws_FnExactSubstituted.s k) := sound_of mixed tab_ok (f := 9) (fn := Try.f9) (c := laws_FnExactSubstituted.c) (by kernel_rfl) (by kernel_rfl) (by kernel_rfl) ⟨[⟨true, [.lst (.int .i64), .int .i64, .lst tBlock]⟩, ⟨false, [.lst (.int .i64)]⟩], [], false, [⟨false, [.bool]⟩], [], []⟩ (by kernel_rfl) (by kernel_rfl) (fun k => (laws_FnExactSubstituted.s k).pf) laws_FnExactSubstituted.E (fun k => (EntsOK.cons (laws_szFunc.sound k) (EntsOK.cons (laws_toFunc.sound k) (EntsOK.cons (laws_toInt64S.sound k) (EntsOK.cons (spec_Substituted.sound k) (EntsOK.cons (impl_Substituted.sound k) (EntsOK.cons (laws_eqFunc.sound k) (EntsOK.cons (laws_eqInt64S.sound k) (EntsOK.cons (laws_markFunc.sound k) (EntsOK.cons (laws_markInt64S.sound k) (EntsOK.cons (laws_heldFunc.sound k) EntsOK.nil))))))))))) (fun k => laws_FnExactSubstituted.L) (fun k => trivial) trivial (fun k => trivial) laws_FnExactSubstituted.eq
end
end Go.Proofs.Ytkfehogikjcgkaa.V
namespace Go.Proofs.Ytkfehogikjcgkaa.V
open Go Go.Deep Go.RowKit
set_option linter.unusedVariables false
set_option linter.unusedSimpArgs false
/-- What is known of a datum that was read. -/
def Wf : (t : T) → t.Den → Prop
  | .int k, n => (Lit.int k n).wf = true
  | .bool, _ => True
  | .str, s => ByteArray.size s ≤ 9223372036854775807
  | .list t, xs => List.length (α := t.Den) xs ≤ 9223372036854775807 ∧ ∀ x : t.Den, List.Mem (α := t.Den) x xs → Wf t x
  | .pair a b, x => Wf a (Prod.fst (α := a.Den) (β := b.Den) x) ∧ Wf b (Prod.snd (α := a.Den) (β := b.Den) x)
  | .unit, _ => True
def OpensC (P : Program) (ty : TypeId) (t r : T) : Prop :=
  ∀ (H : Type) (enc : TypeId × Value → H) (w : World) (base : Nat) (spare : Nat → Bool) (held : Bool) (fuel : Nat) (cs : List Value) (x : DataW H × List MemPlace), DataW.trod enc P w base spare held fuel ty cs = some x →
    ∀ (y : r.Den) (us : List Value), Rd (fun b => b < w.heap.size) w r y us → Wf r y → ∃ a : t.Den, Rd (fun b => b < w.heap.size) w t a (cs ++ us) ∧ Wf t a
def Opens (P : Program) (ty : TypeId) (t : T) : Prop :=
  ∀ (H : Type) (enc : TypeId × Value → H) (w : World) (base : Nat) (spare : Nat → Bool) (held : Bool) (fuel : Nat) (cs : List Value) (x : DataW H × List MemPlace), DataW.trod enc P w base spare held fuel ty cs = some x →
    ∃ a : t.Den, Rd (fun b => b < w.heap.size) w t a cs ∧ Wf t a
theorem OpensC.whole {P : Program} {ty : TypeId} {t : T} (h : OpensC P ty t .unit) : Opens P ty t := by
  intro H enc w base spare held fuel cs x hx
  obtain ⟨a, h1, h2⟩ := h H enc w base spare held fuel cs x hx () [] rfl trivial
  rw [List.append_nil] at h1
  exact ⟨a, h1, h2⟩
theorem OpensC.one {P : Program} {ty : TypeId} {e : T} (h : OpensC P ty (.pair e .unit) .unit) : Opens P ty e := by
  intro H enc w base spare held fuel cs x hx
  obtain ⟨a, ⟨us, ws, h0, h1, h2⟩, h3⟩ := h H enc w base spare held fuel cs x hx () [] rfl trivial
  simp only [Rd] at h2
  subst h2
  simp only [List.append_nil] at h0
  subst h0
  exact ⟨_, h1, h3.1⟩
theorem OpensC.leaf {P : Program} {ty : TypeId} {e r : T} (h : Opens P ty e) : OpensC P ty (.pair e r) r := by
  intro H enc w base spare held fuel cs x hx y us hy hw
  obtain ⟨a, h1, h2⟩ := h H enc w base spare held fuel cs x hx
  exact ⟨(a, y), ⟨cs, us, rfl, h1, hy⟩, h2, hw⟩
theorem opens_list {P : Program} {ty el : TypeId} {e : T} (hu : P.underlying ty = some (.slice el)) (hc : P.cellsOf el = e.sz) (h1 : 1 ≤ e.sz) (h : Opens P el e) : Opens P ty (.list e) := by
  intro H enc w base spare held fuel cs x hx
  rcases open_slice hu hx with ⟨rfl, -⟩ | ⟨a, len, cap, m, n, D, Pl, rfl, hb, hl, hm, hmm, -, hel⟩
  · exact ⟨([] : List e.Den), ⟨none, 0, rfl, Nat.le_refl _, fun h => absurd rfl h⟩, Nat.zero_le _, fun _ h => (List.not_mem_nil h).elim⟩
  · have hlm : len ≤ m := by rw [hmm]; split <;> omega
    have hspot : len ≠ 0 → a.spot = none ∧ a.block < w.heap.size := by
      intro hn
      obtain ⟨cs', c1, c2⟩ := hel 0 (by omega)
      obtain ⟨-, l1, l2⟩ := World.cells?_some c1
      rw [hc] at l1 l2
      have h0 := l2 0 (by omega)
      simp only [Nat.zero_mul, Addr.add, if_true] at h0
      rw [List.getElem?_eq_getElem (by omega)] at h0
      unfold World.cell? at h0
      split at h0
      · rename_i hh
        refine ⟨?_, (Array.getElem?_eq_some_iff.1 hh).1⟩
        split at h0
        · cases h0
        · rename_i hs
          simpa using hs
      · cases h0
    have hadd : len ≠ 0 → ∀ n, a.add n = ⟨a.block, a.off + n, none⟩ := by
      intro hn n
      have hs := (hspot hn).1
      unfold Addr.add
      split
      · rename_i h0
        subst h0
        cases a
        simp only at hs
        subst hs
        rfl
      · rfl
    have each : ∀ n, n ≤ len → ∃ (xs : List e.Den) (us : List Value), xs.length = n ∧ (∀ x ∈ xs, Wf e x) ∧ At w a.block a.off us ∧ ELs (Rd (fun b => b < w.heap.size) w e) e.sz xs us := by
      intro n
      induction n with
      | zero => exact fun _ => ⟨[], [], rfl, fun _ h => (List.not_mem_nil h).elim, fun j v hj => by simp at hj, rfl⟩
      | succ n ih =>
        intro hn
        obtain ⟨xs, us, i1, i2, i4, i5⟩ := ih (by omega)
        obtain ⟨cs', c1, c2⟩ := hel n (by omega)
        obtain ⟨y, y1, y2⟩ := h H enc w base spare held _ cs' _ c2
        obtain ⟨-, l1, l2⟩ := World.cells?_some c1
        rw [hc] at l1 l2
        have hcell : ∀ j, j < e.sz → w.cell? ⟨a.block, a.off + (n * e.sz + j), none⟩ = cs'[j]? := by
          intro j hj
          have := l2 j hj
          rw [Deep.add_add, hadd (by omega)] at this
          exact this
        refine ⟨xs ++ [y], us ++ cs', by simp [i1], fun x hx => ?_, fun j v hj => ?_, ?_⟩
        · rcases List.mem_append.1 hx with hx | hx
          · exact i2 x hx
          · simp only [List.mem_singleton] at hx; subst hx; exact y2
        · have hul : us.length = n * e.sz := by have := i5.length; rw [i1] at this; exact this
          rcases Nat.lt_or_ge j us.length with hlt | hge
          · rw [List.getElem?_append_left hlt] at hj
            exact i4 j v hj
          · rw [List.getElem?_append_right hge] at hj
            have hlt := (List.getElem?_eq_some_iff.1 hj).1
            have := hcell (j - us.length) (by omega)
            rw [hj, show a.off + (n * e.sz + (j - us.length)) = a.off + j by omega] at this
            exact this
        · refine i5.app ⟨cs', [], by simp, l1, y1, rfl⟩
    obtain ⟨xs, us, i1, i2, i4, i5⟩ := each len (Nat.le_refl _)
    refine ⟨xs, ⟨some a, cap, by rw [i1], by omega, fun hne => ?_⟩, ?_, i2⟩
    · have hn : len ≠ 0 := fun h0 => hne (List.length_eq_zero_iff.1 (by omega))
      obtain ⟨s1, s2⟩ := hspot hn
      refine ⟨a.block, a.off, us, ?_, s2, i4, i5⟩
      cases a
      simp only at s1
      subst s1
      rfl
    · have : cap ≤ maxLen := hm
      unfold maxLen at this
      show xs.length ≤ _
      omega
theorem opens_int {P : Program} {t : TypeId} {k : IntKind} (hu : P.underlying t = some (.int k)) : Opens P t (.int k) := by
  intro H enc w base spare held fuel cs x h
  obtain ⟨n, rfl, -, hw⟩ := DataW.trod_int hu h
  exact ⟨n, rfl, hw⟩
/-- Fields from place o on, of m cells. -/
def OpensF (P : Program) (o m : Nat) (fs : List Field) (t r : T) : Prop :=
  ∀ (H : Type) (enc : TypeId × Value → H) (w : World) (base : Nat) (spare : Nat → Bool) (held : Bool) (fuel : Nat) (cs : List Value),
    (∀ f ∈ fs, ∃ x, DataW.trod enc P w base spare held fuel f.type ((cs.drop f.offset).take (P.cellsOf f.type)) = some x) → cs.length = o + m →
    ∀ (y : r.Den) (us : List Value), Rd (fun b => b < w.heap.size) w r y us → Wf r y → ∃ a : t.Den, Rd (fun b => b < w.heap.size) w t a (cs.drop o ++ us) ∧ Wf t a
theorem opensF_nil {P : Program} {o : Nat} {t : T} : OpensF P o 0 [] t t := by
  intro H enc w base spare held fuel cs h hl y us hy hw
  refine ⟨y, ?_, hw⟩
  rw [List.drop_eq_nil_of_le (by omega), List.nil_append]
  exact hy
theorem opensF_cons {P : Program} {o m n : Nat} {f : Field} {fs : List Field} {t t1 r : T} (ho : f.offset = o) (hc : P.cellsOf f.type = m) (hd : OpensC P f.type t t1) (hs : OpensF P (o + m) n fs t1 r) : OpensF P o (m + n) (f :: fs) t r := by
  intro H enc w base spare held fuel cs h hl y us hy hw
  obtain ⟨x, hx⟩ := h f (by simp)
  obtain ⟨a1, q1, q2⟩ := hs H enc w base spare held fuel cs (fun f hf => h f (by simp [hf])) (by omega) y us hy hw
  rw [ho, hc] at hx
  obtain ⟨a, q3, q4⟩ := hd H enc w base spare held fuel _ _ hx a1 _ q1 q2
  refine ⟨a, ?_, q4⟩
  rw [← List.append_assoc, ← List.drop_drop, List.take_append_drop] at q3
  exact q3
theorem opensC_struct {P : Program} {ty : TypeId} {fs : Array Field} {m : Nat} {t r : T} (hu : P.underlying ty = some (.struct fs)) (hc : P.cellsOf ty = m) (hd : OpensF P 0 m fs.toList t r) : OpensC P ty t r := by
  intro H enc w base spare held fuel cs x h y us hy hw
  obtain ⟨xs, n, -, -, hl, hxs, hf⟩ := DataW.trod_struct hu h
  have := hd H enc w base spare held n cs (fun f hm => by
    obtain ⟨i, hi, rfl⟩ := List.getElem_of_mem hm
    have hi' : i < fs.size := by simpa using hi
    have := hf i fs[i] (by simp [hi'])
    rw [List.getElem?_eq_getElem (by omega)] at this
    exact ⟨_, by simpa using this⟩) (by rw [hl, hc, Nat.zero_add]) y us hy hw
  simpa using this
/-! ### a law -/
def gh0 (W : World) : Gh := ⟨fun _ => none, fun _ => none, fun b => b < W.heap.size⟩
theorem rval_struct {W : World} {t : T} {a : t.Den} {cs : Array Value} (h : Rd (fun b => b < W.heap.size) W t a cs.toList) : RVal (gh0 W) [] W true (cellsOf t a) (.agg cs) :=
  ⟨cs, rfl, rcs_cells (g := gh0 W) h⟩
theorem rval_list {W : World} {t : T} {a : List t.Den} {v : Value} (h : Rd (fun b => b < W.heap.size) W (.list t) a [v]) : RVal (gh0 W) [] W false [.lst t a] v :=
  rcs_cells (g := gh0 W) (t := .list t) h
theorem law_calls {P : Program} {f : FuncId} {ins : List VS} {pf : DenV ins × DenO [] → Option (DenV [⟨false, [.bool]⟩] × DenO [])} (hs : Sound P f ⟨ins, [], false, [⟨false, [.bool]⟩], [], [], pf⟩) {x : DenV ins} (hx : pf (x, ()) = some (((true, ()), ()), ())) {W : World} {args : Array Value}
    (h : RVals (gh0 W) [] W (instV ins x) args.toList) : Calls P f args W fun e W' => e = .returned (.bool true) ∧ Below W.heap.size W W' := by
  have hG : RelG (gh0 W) [] W := ⟨fun o ob h => (by cases h), fun b o h => (by cases h), fun b h => h⟩
  refine (hs.2 (x, ()) (((true, ()), ()), ()) hx (gh0 W) W args hG h).mono fun e W' he => ?_
  cases e with
  | returned v =>
    obtain ⟨g', O⟩ := he
    have hv : RVal g' [] W' false [.bool true] v := O.val
    obtain ⟨u, us, e, h1, h2⟩ := hv
    obtain ⟨rfl, rfl⟩ : u = v ∧ us = [] := by simpa using e.symm
    have h3 : u = .bool true := h1.2
    refine ⟨by rw [h3], O.ext.os, O.ext.tape, O.ext.output, O.ext.size, fun k hk => O.ext.block k hk (by simp [gh0])⟩
  | panicked c => exact he.elim
  | outgrown => exact he.elim
end Go.Proofs.Ytkfehogikjcgkaa.V
namespace Go.Proofs.Ytkfehogikjcgkaa.V
open Go
set_option linter.unusedVariables false
theorem opensC165 (r : T) : OpensC Try.prog 165 (.pair (.int .i64) (.pair (.list (.int .i64)) r)) r := opensC_struct Try.underlying165 (by kernel_rfl) (opensF_cons (o := 0) (m := 1) (n := 1) rfl (by kernel_rfl) (OpensC.leaf (opens_int Try.underlying2)) (opensF_cons (o := 1) (m := 1) (n := 0) rfl (by kernel_rfl) (OpensC.leaf (opens_list Try.underlying22 (by kernel_rfl) (by decide) (opens_int Try.underlying2))) opensF_nil))
theorem opensC167 (r : T) : OpensC Try.prog 167 (.pair (.int .i64) (.pair (.int .i64) (.pair (.int .i64) (.pair (.int .i64) (.pair (.int .i64) (.pair (.int .i64) (.pair (.list (.int .i64)) r))))))) r := opensC_struct Try.underlying167 (by kernel_rfl) (opensF_cons (o := 0) (m := 1) (n := 6) rfl (by kernel_rfl) (OpensC.leaf (opens_int Try.underlying2)) (opensF_cons (o := 1) (m := 1) (n := 5) rfl (by kernel_rfl) (OpensC.leaf (opens_int Try.underlying2)) (opensF_cons (o := 2) (m := 1) (n := 4) rfl (by kernel_rfl) (OpensC.leaf (opens_int Try.underlying2)) (opensF_cons (o := 3) (m := 1) (n := 3) rfl (by kernel_rfl) (OpensC.leaf (opens_int Try.underlying2)) (opensF_cons (o := 4) (m := 1) (n := 2) rfl (by kernel_rfl) (OpensC.leaf (opens_int Try.underlying2)) (opensF_cons (o := 5) (m := 1) (n := 1) rfl (by kernel_rfl) (OpensC.leaf (opens_int Try.underlying2)) (opensF_cons (o := 6) (m := 1) (n := 0) rfl (by kernel_rfl) (OpensC.leaf (opens_list Try.underlying22 (by kernel_rfl) (by decide) (opens_int Try.underlying2))) opensF_nil)))))))
theorem opensC84 (r : T) : OpensC Try.prog 84 (.pair (.int .i64) (.pair (.int .i64) (.pair (.int .i64) (.pair (.int .i64) r)))) r := opensC_struct Try.underlying84 (by kernel_rfl) (opensF_cons (o := 0) (m := 1) (n := 3) rfl (by kernel_rfl) (OpensC.leaf (opens_int Try.underlying2)) (opensF_cons (o := 1) (m := 1) (n := 2) rfl (by kernel_rfl) (OpensC.leaf (opens_int Try.underlying2)) (opensF_cons (o := 2) (m := 1) (n := 1) rfl (by kernel_rfl) (OpensC.leaf (opens_int Try.underlying2)) (opensF_cons (o := 3) (m := 1) (n := 0) rfl (by kernel_rfl) (OpensC.leaf (opens_int Try.underlying2)) opensF_nil))))
theorem opensC86 (r : T) : OpensC Try.prog 86 (.pair (.list tPhi) (.pair (.list tInst) (.pair (.int .i64) (.pair (.int .i64) (.pair (.int .i64) (.pair (.int .i64) r)))))) r := opensC_struct Try.underlying86 (by kernel_rfl) (opensF_cons (o := 0) (m := 1) (n := 5) rfl (by kernel_rfl) (OpensC.leaf (opens_list Try.underlying81 (by kernel_rfl) (by decide) (OpensC.whole (opensC165 _)))) (opensF_cons (o := 1) (m := 1) (n := 4) rfl (by kernel_rfl) (OpensC.leaf (opens_list Try.underlying82 (by kernel_rfl) (by decide) (OpensC.whole (opensC167 _)))) (opensF_cons (o := 2) (m := 4) (n := 0) rfl (by kernel_rfl) (opensC84 _) opensF_nil)))
theorem opensC25 (r : T) : OpensC Try.prog 25 (.pair (.list (.int .i64)) (.pair (.int .i64) (.pair (.list tBlock) r))) r := opensC_struct Try.underlying25 (by kernel_rfl) (opensF_cons (o := 0) (m := 1) (n := 2) rfl (by kernel_rfl) (OpensC.leaf (opens_list Try.underlying22 (by kernel_rfl) (by decide) (opens_int Try.underlying2))) (opensF_cons (o := 1) (m := 1) (n := 1) rfl (by kernel_rfl) (OpensC.leaf (opens_int Try.underlying2)) (opensF_cons (o := 2) (m := 1) (n := 0) rfl (by kernel_rfl) (OpensC.leaf (opens_list Try.underlying23 (by kernel_rfl) (by decide) (OpensC.whole (opensC86 _)))) opensF_nil)))
end Go.Proofs.Ytkfehogikjcgkaa.V
namespace Go.Proofs.Ytkfehogikjcgkaa.V
open Go
set_option linter.unusedVariables false
set_option linter.unusedSimpArgs false
def Ev {R : Type} (g : Nat → Option R) (r : R) : Prop := ∃ n, ∀ k, n ≤ k → g k = some r
abbrev one {α : Type} (x : α) : ((α × Unit) × Unit) × Unit := (((x, ()), ()), ())
abbrev rowR {α : Type} (xs : α) : ((Unit × Unit) × Unit) × (α × Unit) := ((((), ()), ()), (xs, ()))
section
variable {R S : Type}
theorem Ev.cst {o : Option R} {r : R} (h : o = some r) : Ev (fun _ => o) r := ⟨0, fun _ _ => h⟩
theorem Ev.all {g : Nat → Option R} {r : R} (h : ∀ k, g k = some r) : Ev g r := ⟨0, fun k _ => h k⟩
theorem Ev.congr {g g' : Nat → Option R} {r : R} (h : Ev g' r) (e : ∀ k, g k = g' k) : Ev g r := by
  obtain ⟨n, h⟩ := h
  exact ⟨n, fun k hk => by rw [e, h k hk]⟩
theorem Ev.step {g g' : Nat → Option R} {r : R} (h : Ev g' r) (e : ∀ k, g (k + 1) = g' k) : Ev g r := by
  obtain ⟨n, h⟩ := h
  refine ⟨n + 1, fun k hk => ?_⟩
  obtain ⟨k, rfl⟩ : ∃ j, k = j + 1 := ⟨k - 1, by omega⟩
  rw [e, h k (by omega)]
theorem Ev.bind {g : Nat → Option S} {f : Nat → S → Option R} {a : S} {r : R} (h : Ev g a) (k : Ev (fun n => f n a) r) : Ev (fun n => Option.bind (g n) (f n)) r := by
  obtain ⟨n, h⟩ := h
  obtain ⟨m, k⟩ := k
  exact ⟨max n m, fun j hj => by show Option.bind (g j) (f j) = some r; rw [h j (by omega), Option.bind_some]; exact k j (by omega)⟩
theorem Ev.rw {g : Nat → Option R} {r s : R} (h : Ev g r) (e : r = s) : Ev g s := e ▸ h
theorem Ev.pos {c : Bool} {f g : Nat → Option R} {r : R} (hc : c = true) (h : Ev f r) : Ev (fun k => bif c then f k else g k) r := h.congr fun k => by rw [hc]; rfl
theorem Ev.neg {c : Bool} {f g : Nat → Option R} {r : R} (hc : c = false) (h : Ev g r) : Ev (fun k => bif c then f k else g k) r := h.congr fun k => by rw [hc]; rfl
theorem Ev.ex {g : Nat → Option R} {r : R} (h : Ev g r) : ∃ k, g k = some r := by
  obtain ⟨n, h⟩ := h
  exact ⟨n, h n (Nat.le_refl _)⟩
end
def W (x : Int) : Int := IntKind.wrap .i64 x
theorem wrap_id {x : Int} (h0 : -9223372036854775808 ≤ x) (h1 : x ≤ 9223372036854775807) : IntKind.wrap .i64 x = x := by
  have e : IntKind.wrap .i64 x = if (true && decide (x % 18446744073709551616 ≥ 9223372036854775808)) = true then x % 18446744073709551616 - 18446744073709551616 else x % 18446744073709551616 := rfl
  rw [e]
  simp only [Bool.true_and, decide_eq_true_eq]
  split <;> omega
theorem wrap_nat {i : Nat} (h : i < 9223372036854775807) : IntKind.wrap .i64 ((i : Int) + 1) = ((i + 1 : Nat) : Int) := by
  rw [wrap_id (by omega) (by omega)]; omega
theorem getD_at {α : Type} (l : List α) (z : α) (j : Nat) (h : j < l.length) : l.getD j z = l[j] := by simp [List.getD, List.getElem?_eq_getElem h]
theorem dpos {c : Prop} [Decidable c] (h : c) : decide c = true := by simp [h]
theorem dneg {c : Prop} [Decidable c] (h : ¬ c) : decide c = false := by simp [h]
theorem Ev.dp {R : Type} {p : Prop} [Decidable p] {f g : Nat → Option R} {r : R} (h : p) (e : Ev f r) : Ev (fun k => bif decide p then f k else g k) r := Ev.pos (dpos h) e
theorem Ev.dn {R : Type} {p : Prop} [Decidable p] {f g : Nat → Option R} {r : R} (h : ¬ p) (e : Ev g r) : Ev (fun k => bif decide p then f k else g k) r := Ev.neg (dneg h) e
theorem Ev.dd {R : Type} {p q : Prop} [Decidable p] [Decidable q] {f g : Nat → Option R} {r : R} (h : p) (h' : q) (e : Ev f r) : Ev (fun k => bif decide p && decide q then f k else g k) r := Ev.pos (by rw [dpos h, dpos h']; rfl) e
theorem Ev.succ {R : Type} {g : Nat → Option R} {r : R} (h : Ev (fun k => g (k + 1)) r) : Ev g r := Ev.step h fun _ => rfl
/-- A loop over places 0 .. n, backwards. -/
theorem Ev.down {R : Type} {G : Nat → Nat → Option R} {V : Nat → R} (n : Nat) (hend : Ev (G n) (V n)) (hstep : ∀ i, i < n → Ev (G (i + 1)) (V (i + 1)) → Ev (G i) (V i)) : ∀ i, i ≤ n → Ev (G i) (V i) := by
  intro i hi
  obtain ⟨d, rfl⟩ : ∃ d, i = n - d := ⟨n - i, by omega⟩
  clear hi
  induction d with
  | zero => exact hend
  | succ d ih =>
    by_cases h : d < n
    · have e : n - (d + 1) + 1 = n - d := by omega
      exact hstep (n - (d + 1)) (by omega) (by rw [e]; exact ih)
    · have e : n - (d + 1) = n - d := by omega
      rw [e]; exact ih
section
variable {α R : Type} {z : α} {l : List α}
/-- What a loop's head asks: is the place one of the list? -/
theorem head_in {i : Nat} (h : i < l.length) : (decide ((i : Int) < (l.length : Int))) = true := dpos (by omega)
theorem head_0 {i : Nat} : (decide (0 ≤ (i : Int))) = true := dpos (by omega)
theorem head_end : (decide ((l.length : Int) < (l.length : Int))) = false := dneg (by omega)
theorem get_in {i : Nat} (h : i < l.length) : l.getD (Int.toNat (i : Int)) z = l[i] := by rw [Int.toNat_natCast]; exact getD_at l z i h
/-- The loops that ask something of each element. -/
theorem each_ev {L : Nat → Int → Option R} {q : Nat → α → (Nat → Option R) → Option R} {tail : Nat → Option R} {V : List α → R} (hlen : l.length ≤ 9223372036854775807)
    (hL : ∀ k a, L (k + 1) a = bif decide (a < (l.length : Int)) then (bif decide (0 ≤ a) && decide (a < (l.length : Int)) then q k (l.getD a.toNat z) (fun j => L j (IntKind.wrap .i64 (a + 1))) else none) else tail k)
    (hend : Ev tail (V [])) (hstep : ∀ x m (g : Nat → Option R), x ∈ l → Ev g (V m) → Ev (fun k => q k x g) (V (x :: m))) : Ev (fun k => L k 0) (V l) := by
  have := Ev.down (G := fun i k => L k (i : Int)) (V := fun i => V (l.drop i)) l.length ?_ ?_ 0 (Nat.zero_le _)
  · exact this
  · rw [List.drop_length]
    refine hend.step fun k => ?_
    rw [hL, head_end]; rfl
  · intro i hi ih
    rw [List.drop_eq_getElem_cons hi]
    refine (hstep l[i] (l.drop (i + 1)) (fun j => L j (((i + 1 : Nat)) : Int)) (List.getElem_mem hi) ih).step fun k => ?_
    show L (k + 1) (i : Int) = _
    rw [hL]
    simp only [head_in hi, head_0, Bool.and_self, cond_true, get_in hi, wrap_nat (show i < 9223372036854775807 by omega)]
/-- slices.IndexFunc. -/
def ixF (p : α → Bool) : List α → Nat → Int
  | [], _ => -1
  | x :: l, i => bif p x then (i : Int) else ixF p l (i + 1)
theorem ixF_any (p : α → Bool) : ∀ (l : List α) (i : Nat), decide (0 ≤ ixF p l i) = l.any p
  | [], i => by simp [ixF]
  | x :: l, i => by
    have ih := ixF_any p l (i + 1)
    rw [List.any_cons]
    unfold ixF
    rcases Bool.eq_false_or_eq_true (p x) with h | h
    · simp only [h, cond_true, Bool.true_or]; exact dpos (by omega)
    · simp only [h, cond_false, Bool.false_or]; exact ih
theorem index_ev {p : α → Bool} {q : Nat → α → Option (((Bool × Unit) × Unit) × Unit)} {L : Nat → Int → Int → Option (((Int × Unit) × Unit) × Unit)} (hlen : l.length ≤ 9223372036854775807)
    (hL : ∀ k b a, L (k + 1) b a = bif decide (a < b) then (bif decide (0 ≤ a) && decide (a < (l.length : Int)) then (Option.bind (q k (l.getD a.toNat z)) fun r1 => bif r1.1.1.1 then some (((a, ()), ()), ()) else L k b (IntKind.wrap .i64 (a + 1))) else none) else some (((-1, ()), ()), ()))
    (hq : ∀ x ∈ l, Ev (fun k => q k x) (one (p x))) : Ev (fun k => Option.bind (L k (l.length : Int) 0) fun r1 => some (((decide (0 ≤ r1.1.1.1), ()), ()), ())) (one (l.any p)) := by
  have := Ev.down (G := fun i k => L k (l.length : Int) (i : Int)) (V := fun i => one (ixF p (l.drop i) i)) l.length ?_ ?_ 0 (Nat.zero_le _)
  · refine (Ev.bind (f := fun _ r1 => some (((decide (0 ≤ r1.1.1.1), ()), ()), ())) this (Ev.cst rfl)).rw ?_
    show one (decide (0 ≤ ixF p l 0)) = _
    rw [ixF_any]
  · rw [List.drop_length]
    refine Ev.step (g' := fun _ => some (((-1, ()), ()), ())) (Ev.cst rfl) fun k => ?_
    show L (k + 1) _ _ = _
    rw [hL, head_end]; rfl
  · intro i hi ih
    rw [List.drop_eq_getElem_cons hi]
    have h1 := hq l[i] (List.getElem_mem hi)
    refine Ev.step (g' := fun k => Option.bind (q k l[i]) fun r1 => bif r1.1.1.1 then some ((((i : Int), ()), ()), ()) else L k (l.length : Int) ((i + 1 : Nat) : Int)) ?_ fun k => ?_
    · refine Ev.bind h1 ?_
      simp only [ixF]
      cases p l[i] with
      | true => exact Ev.cst rfl
      | false => exact ih
    · show L (k + 1) _ _ = _
      rw [hL]
      simp only [head_in hi, head_0, Bool.and_self, cond_true, get_in hi, wrap_nat (show i < 9223372036854775807 by omega)]
end
end Go.Proofs.Ytkfehogikjcgkaa.V
namespace Go.Proofs.Ytkfehogikjcgkaa.V
open Go
set_option linter.unusedVariables false
set_option linter.unusedSimpArgs false
/-- All lists are short. -/
def Small : (t : T) → t.Den → Prop
  | .list t, xs => List.length (α := t.Den) xs ≤ 1048576 ∧ ∀ x : t.Den, List.Mem (α := t.Den) x xs → Small t x
  | .pair a b, x => Small a (Prod.fst (α := a.Den) (β := b.Den) x) ∧ Small b (Prod.snd (α := a.Den) (β := b.Den) x)
  | _, _ => True
abbrev IR := (((Int × Unit) × Unit) × Unit)
abbrev BR := (((Bool × Unit) × Unit) × Unit)
def SzP {α : Type} (wf small : α → Prop) (f : Nat → α → Int → Option IR) : Prop := ∀ (x : α), wf x → ∀ n : Int, 0 ≤ n → n ≤ 1048576 → ∃ s, Ev (fun k => f k x n) (one s) ∧ -1 ≤ s ∧ s ≤ n ∧ (0 ≤ s → small x)
abbrev SzOK (t : T) (f : Nat → t.Den → Int → Option IR) : Prop := SzP (Wf t) (Small t) f
theorem sz_list {α : Type} {wf small : α → Prop} {z : α} {f : Nat → α → Int → Option IR} (hf : SzP wf small f) {L : Nat → List α → Int → Int → Option IR} {F : Nat → List α → Int → Option IR}
    (hL : ∀ k l a1 a2, L (k + 1) l a1 a2 = bif decide (a2 < (l.length : Int)) then (bif decide (0 ≤ a2) && decide (a2 < (l.length : Int)) then (Option.bind (f k (l.getD a2.toNat z) a1) fun r1 => bif decide (r1.1.1.1 < 0) then some (((-1, ()), ()), ()) else L k l r1.1.1.1 (IntKind.wrap .i64 (a2 + 1))) else none) else some (((a1, ()), ()), ()))
    (hF : ∀ k l a, F k l a = bif decide (IntKind.wrap .i64 (a - (l.length : Int)) < 0) then some (((-1, ()), ()), ()) else L k l (IntKind.wrap .i64 (a - (l.length : Int))) 0) : SzP (fun l : List α => l.length ≤ 9223372036854775807 ∧ ∀ x ∈ l, wf x) (fun l : List α => l.length ≤ 1048576 ∧ ∀ x ∈ l, small x) F := by
  intro l hw n h0 h1
  obtain ⟨hlen, hel⟩ := hw
  have key : ∀ (d i : Nat) (n : Int), i + d = l.length → 0 ≤ n → n ≤ 1048576 → ∃ s, Ev (fun k => L k l n (i : Int)) (one s) ∧ -1 ≤ s ∧ s ≤ n ∧ (0 ≤ s → ∀ x ∈ l.drop i, small x) := by
    intro d
    induction d with
    | zero =>
      intro i n hi h0 h1
      have hi' : i = l.length := by omega
      subst hi'
      refine ⟨n, Ev.step (g' := fun _ => some (one n)) (Ev.cst rfl) fun k => ?_, by omega, Int.le_refl _, fun _ x hx => by rw [List.drop_length] at hx; cases hx⟩
      rw [hL, head_end]; rfl
    | succ d ih =>
      intro i n hi h0 h1
      have hi' : i < l.length := by omega
      have hmem : l[i] ∈ l := List.getElem_mem hi'
      obtain ⟨s, e1, e2, e3, e4⟩ := hf (l[i]) (hel _ hmem) n h0 h1
      have hstep : ∀ k, L (k + 1) l n (i : Int) = Option.bind (f k (l[i]) n) fun r1 => bif decide (r1.1.1.1 < 0) then some (((-1, ()), ()), ()) else L k l r1.1.1.1 ((i + 1 : Nat) : Int) := fun k => by
        rw [hL]
        simp only [head_in hi', head_0, Bool.and_self, cond_true, get_in hi', wrap_nat (show i < 9223372036854775807 by omega)]
      rcases Int.lt_or_le s 0 with hs | hs
      · refine ⟨-1, Ev.step (Ev.bind (f := fun k r1 => bif decide (r1.1.1.1 < 0) then some (((-1, ()), ()), ()) else L k l r1.1.1.1 ((i + 1 : Nat) : Int)) e1 ?_) hstep, by omega, by omega, fun h => by omega⟩
        exact Ev.pos (dpos hs) (Ev.cst rfl)
      · obtain ⟨s', q1, q2, q3, q4⟩ := ih (i + 1) s (by omega) hs (by omega)
        refine ⟨s', Ev.step (Ev.bind (f := fun k r1 => bif decide (r1.1.1.1 < 0) then some (((-1, ()), ()), ()) else L k l r1.1.1.1 ((i + 1 : Nat) : Int)) e1 (Ev.neg (dneg (show ¬ s < 0 by omega)) q1)) hstep, q2, by omega, fun h x hx => ?_⟩
        rw [List.drop_eq_getElem_cons hi'] at hx
        rcases List.mem_cons.1 hx with rfl | hx
        · exact e4 hs
        · exact q4 h x hx
  have hw : IntKind.wrap .i64 (n - (l.length : Int)) = n - (l.length : Int) := wrap_id (by omega) (by omega)
  rcases Int.lt_or_le (n - (l.length : Int)) 0 with hs | hs
  · refine ⟨-1, (Ev.cst rfl : Ev (fun _ => some (one (-1 : Int))) _).congr fun k => ?_, by omega, by omega, fun h => by omega⟩
    rw [hF, hw, dpos hs]; rfl
  · obtain ⟨s, q1, q2, q3, q4⟩ := key (l.length) 0 _ (by omega) hs (by omega)
    refine ⟨s, q1.congr fun k => ?_, q2, by omega, fun h => ⟨by omega, fun x hx => q4 h x (by simpa using hx)⟩⟩
    rw [hF, hw, dneg (by omega)]; rfl
/-- A copy, element by element. -/
theorem to_list {α R : Type} {z : α} {L : Nat → List α → Int → List α → Option (((Unit × Unit) × Unit) × (List α × Unit))} {q : Nat → α → (α → Option (((Unit × Unit) × Unit) × (List α × Unit))) → Option (((Unit × Unit) × Unit) × (List α × Unit))} {F : Nat → List α → Option (((Unit × Unit) × Unit) × (List α × Unit))} {b : Int}
    (hL : ∀ k l a1 a2, L (k + 1) l a1 a2 = bif decide (a1 < (l.length : Int)) then (bif decide (0 ≤ a1) && decide (a1 < (l.length : Int)) then q k (l.getD a1.toNat z) (fun y => bif decide (0 ≤ a1) && decide (a1 < (a2.length : Int)) then L k l (IntKind.wrap .i64 (a1 + 1)) (a2.set a1.toNat y) else none) else none) else some ((((), ()), ()), (a2, ())))
    (hF : ∀ k l, F k l = bif decide ((l.length : Int) = (l.length : Int)) && decide (0 ≤ (l.length : Int)) && decide ((l.length : Int) * b ≤ 281474976710656) then L k l 0 (List.replicate (Int.toNat (l.length : Int)) z) else none)
    {l : List α} (hlen : l.length ≤ 1048576) (hb0 : 0 ≤ b) (hb : b ≤ 1000) (hq : ∀ x ∈ l, ∀ (h : Nat → α → Option (((Unit × Unit) × Unit) × (List α × Unit))) r, Ev (fun k => h k x) r → Ev (fun k => q k x (h k)) r) : Ev (fun k => F k l) (rowR l) := by
  have h1 := Ev.down (G := fun i k => L k l (i : Int) (l.take i ++ List.replicate (l.length - i) z)) (V := fun _ => rowR l) l.length ?_ ?_ 0 (Nat.zero_le _)
  · refine h1.congr fun k => ?_
    have hsz : (l.length : Int) * b ≤ 281474976710656 := by
      have : (l.length : Int) * b ≤ 1048576 * 1000 := Int.mul_le_mul (by omega) hb hb0 (by omega)
      omega
    rw [hF, dpos rfl, dpos (show 0 ≤ (l.length : Int) by omega), dpos hsz]
    simp
  · refine Ev.step (g' := fun _ => some (rowR l)) (Ev.cst rfl) fun k => ?_
    show L (k + 1) l _ _ = _
    rw [hL, head_end]
    simp
  · intro i hi ih
    refine Ev.step (g' := fun k => q k l[i] (fun y => bif decide (0 ≤ (i : Int)) && decide ((i : Int) < (((l.take i ++ List.replicate (l.length - i) z).length : Nat) : Int)) then L k l ((i + 1 : Nat) : Int) ((l.take i ++ List.replicate (l.length - i) z).set i y) else none)) (hq _ (List.getElem_mem hi) (fun k y => bif decide (0 ≤ (i : Int)) && decide ((i : Int) < (((l.take i ++ List.replicate (l.length - i) z).length : Nat) : Int)) then L k l ((i + 1 : Nat) : Int) ((l.take i ++ List.replicate (l.length - i) z).set i y) else none) _ ?_) fun k => ?_
    · refine Ev.pos ?_ (ih.congr fun k => ?_)
      · rw [dpos (by omega), dpos (by simp; omega)]; rfl
      · congr 1
        rw [List.set_append_right _ _ (by simp; omega)]
        have e1 : i - (l.take i).length = 0 := by simp; omega
        have e2 : l.length - i = (l.length - (i + 1)) + 1 := by omega
        rw [e1, e2, List.replicate_succ, List.set_cons_zero, List.take_succ_eq_append_getElem hi, List.append_assoc]
        rfl
    · show L (k + 1) l _ _ = _
      rw [hL]
      simp only [head_in hi, head_0, Bool.and_self, cond_true, get_in hi, wrap_nat (show i < 9223372036854775807 by omega), Int.toNat_natCast]
      rw [getD_at l z i hi]
/-- A list compared with itself. -/
theorem eq_list {α : Type} {z : α} {L : Nat → List α → List α → Int → Option BR} {q : Nat → α → α → Option BR → Option BR} {F : Nat → List α → List α → Option BR}
    (hL : ∀ k l m a, L (k + 1) l m a = bif decide (a < (l.length : Int)) then (bif decide (0 ≤ a) && decide (a < (l.length : Int)) then (bif decide (0 ≤ a) && decide (a < (m.length : Int)) then q k (l.getD a.toNat z) (m.getD a.toNat z) (L k l m (IntKind.wrap .i64 (a + 1))) else none) else none) else some (((true, ()), ()), ()))
    (hF : ∀ k l m, F k l m = bif !decide ((l.length : Int) = (m.length : Int)) then some (((false, ()), ()), ()) else L k l m 0)
    {l : List α} (hlen : l.length ≤ 1048576) (hq : ∀ x ∈ l, ∀ (g : Nat → Option BR) r, Ev g r → Ev (fun k => q k x x (g k)) r) : Ev (fun k => F k l l) (one true) := by
  have h1 := Ev.down (G := fun i k => L k l l (i : Int)) (V := fun _ => one true) l.length ?_ ?_ 0 (Nat.zero_le _)
  · refine h1.congr fun k => ?_
    rw [hF, dpos rfl]; rfl
  · refine Ev.step (g' := fun _ => some (one true)) (Ev.cst rfl) fun k => ?_
    show L (k + 1) l l _ = _
    rw [hL, head_end]; rfl
  · intro i hi ih
    refine Ev.step (hq _ (List.getElem_mem hi) (fun k => L k l l ((i + 1 : Nat) : Int)) _ ih) fun k => ?_
    show L (k + 1) l l _ = _
    rw [hL]
    simp only [head_in hi, head_0, Bool.and_self, cond_true, get_in hi, wrap_nat (show i < 9223372036854775807 by omega)]
end Go.Proofs.Ytkfehogikjcgkaa.V
namespace Go.Proofs.Ytkfehogikjcgkaa.V
open Go
set_option linter.unusedVariables false
set_option linter.unusedSimpArgs false
/-! ### how much there is -/
theorem sz_then {n s : Int} {g : Nat → Option IR} (h : Ev g (one s)) : Ev (fun k => Option.bind (g k) fun r1 => bif decide (r1.1.1.1 < 0) then some (((-1, ()), ()), ()) else some (((r1.1.1.1, ()), ()), ())) (one (if s < 0 then -1 else s)) := by
  refine Ev.bind h ?_
  by_cases hs : s < 0
  · rw [if_pos hs]; exact Ev.pos (dpos hs) (Ev.cst rfl)
  · rw [if_neg hs]; exact Ev.neg (dneg hs) (Ev.cst rfl)
theorem szInts : SzOK (.list (.int .i64)) laws_szInt64S.f := by
  intro l hw n h0 h1
  have hlen : List.length (α := Int) l ≤ 9223372036854775807 := hw.1
  have hwr : IntKind.wrap .i64 (n - (List.length (α := Int) l : Int)) = n - (List.length (α := Int) l : Int) := wrap_id (by omega) (by omega)
  have he : ∀ k, laws_szInt64S.f k l n = bif decide (n - (List.length (α := Int) l : Int) < 0) then some (one (-1)) else some (one (n - (List.length (α := Int) l : Int))) := fun k => by
    show (bif decide (IntKind.wrap .i64 (n - (List.length (α := Int) l : Int)) < 0) then _ else _) = _
    rw [hwr]
  by_cases hs : n - (List.length (α := Int) l : Int) < 0
  · exact ⟨-1, Ev.all fun k => by rw [he, dpos hs]; rfl, by omega, by omega, fun h => by omega⟩
  · exact ⟨_, Ev.all fun k => by rw [he, dneg hs]; rfl, by omega, by omega, fun h => ⟨by show List.length (α := Int) l ≤ _; omega, fun _ _ => trivial⟩⟩
theorem szPhi : SzOK tPhi laws_szPhi.f := by
  intro x hw n h0 h1
  obtain ⟨s, e, a, b, c⟩ := szInts _ hw.2.1 n h0 h1
  exact ⟨_, sz_then (n := n) e, by split <;> omega, by split <;> omega, fun h => ⟨trivial, c (by split at h <;> omega), trivial⟩⟩
theorem szPhiS : SzOK (.list tPhi) laws_szPhiS.f := sz_list (z := tPhiZ) szPhi (L := laws_szPhiS.l0) (fun k l a b => rfl) fun k l a => rfl
theorem szInst : SzOK tInst laws_szInst.f := by
  intro x hw n h0 h1
  obtain ⟨s, e, a, b, c⟩ := szInts _ hw.2.2.2.2.2.2.1 n h0 h1
  exact ⟨_, sz_then (n := n) e, by split <;> omega, by split <;> omega, fun h => ⟨trivial, trivial, trivial, trivial, trivial, trivial, c (by split at h <;> omega), trivial⟩⟩
theorem szInstS : SzOK (.list tInst) laws_szInstS.f := sz_list (z := tInstZ) szInst (L := laws_szInstS.l0) (fun k l a b => rfl) fun k l a => rfl
theorem sz_two {n s : Int} {g : Nat → Option IR} {f : Nat → Int → Option IR} {r : Int} (h : Ev g (one s)) (h' : 0 ≤ s → Ev (fun k => f k s) (one r)) (hr : s < 0 → r = -1) : Ev (fun k => Option.bind (g k) fun r1 => bif decide (r1.1.1.1 < 0) then some (((-1, ()), ()), ()) else f k r1.1.1.1) (one r) := by
  refine Ev.bind h ?_
  by_cases hs : s < 0
  · rw [hr hs]; exact Ev.pos (dpos hs) (Ev.cst rfl)
  · exact Ev.neg (dneg hs) (h' (by omega))
theorem szBlock : SzOK tBlock laws_szBlock.f := by
  intro x hw n h0 h1
  obtain ⟨s, e, a, b, c⟩ := szPhiS _ hw.1 n h0 h1
  by_cases hs : s < 0
  · exact ⟨-1, sz_two (n := n) (f := fun k s => Option.bind (laws_szInstS.f k x.2.1 s) fun r1 => bif decide (r1.1.1.1 < 0) then some (((-1, ()), ()), ()) else some (((r1.1.1.1, ()), ()), ())) e (fun h => by omega) (fun _ => rfl), by omega, by omega, fun h => by omega⟩
  · obtain ⟨s', e', a', b', c'⟩ := szInstS _ hw.2.1 s (by omega) (by omega)
    exact ⟨_, sz_two (n := n) (f := fun k s => Option.bind (laws_szInstS.f k x.2.1 s) fun r1 => bif decide (r1.1.1.1 < 0) then some (((-1, ()), ()), ()) else some (((r1.1.1.1, ()), ()), ())) e (fun _ => sz_then (n := n) e') (fun h => by omega), by split <;> omega, by split <;> omega, fun h => ⟨c (by omega), c' (by split at h <;> omega), trivial, trivial, trivial, trivial, trivial⟩⟩
theorem szBlockS : SzOK (.list tBlock) laws_szBlockS.f := sz_list (z := tBlockZ) szBlock (L := laws_szBlockS.l0) (fun k l a b => rfl) fun k l a => rfl
theorem szFunc : SzOK tFunc laws_szFunc.f := by
  intro x hw n h0 h1
  obtain ⟨s, e, a, b, c⟩ := szInts _ hw.1 n h0 h1
  by_cases hs : s < 0
  · exact ⟨-1, sz_two (n := n) (f := fun k s => Option.bind (laws_szBlockS.f k x.2.2.1 s) fun r1 => bif decide (r1.1.1.1 < 0) then some (((-1, ()), ()), ()) else some (((r1.1.1.1, ()), ()), ())) e (fun h => by omega) (fun _ => rfl), by omega, by omega, fun h => by omega⟩
  · obtain ⟨s', e', a', b', c'⟩ := szBlockS _ hw.2.2.1 s (by omega) (by omega)
    exact ⟨_, sz_two (n := n) (f := fun k s => Option.bind (laws_szBlockS.f k x.2.2.1 s) fun r1 => bif decide (r1.1.1.1 < 0) then some (((-1, ()), ()), ()) else some (((r1.1.1.1, ()), ()), ())) e (fun _ => sz_then (n := n) e') (fun h => by omega), by split <;> omega, by split <;> omega, fun h => ⟨c (by omega), trivial, c' (by split at h <;> omega), trivial⟩⟩
/-! ### a copy -/
theorem toInts {l : List Int} (h : Small (.list (.int .i64)) l) : Ev (fun k => laws_toInt64S.f k l) (rowR l) :=
  to_list (z := 0) (L := laws_toInt64S.l0) (q := fun k x h => h x) (b := 8) (R := Unit) (fun k l a b => rfl) (fun k l => rfl) h.1 (by omega) (by omega) fun x _ h r hh => hh
theorem toPhi {x : tPhiD} (h : Small tPhi x) : Ev (fun k => laws_toPhi.f k x) (((x.1, (), ()), ()), (x.2.1, ())) := Ev.bind (toInts h.2.1) (Ev.cst rfl)
theorem toPhiS {l : List tPhiD} (h : Small (.list tPhi) l) : Ev (fun k => laws_toPhiS.f k l) (rowR l) :=
  to_list (z := tPhiZ) (L := laws_toPhiS.l0) (q := fun k x h => Option.bind (laws_toPhi.f k x) fun r1 => h (r1.1.1.1, r1.2.1, ())) (b := 32) (R := Unit) (fun k l a b => rfl) (fun k l => rfl) h.1 (by omega) (by omega) fun x hx g r hh => Ev.bind (toPhi (h.2 x hx)) hh
theorem toInst {x : tInstD} (h : Small tInst x) : Ev (fun k => laws_toInst.f k x) (((x.1, x.2.1, x.2.2.1, x.2.2.2.1, x.2.2.2.2.1, x.2.2.2.2.2.1, (), ()), ()), (x.2.2.2.2.2.2.1, ())) := Ev.bind (toInts h.2.2.2.2.2.2.1) (Ev.cst rfl)
theorem toInstS {l : List tInstD} (h : Small (.list tInst) l) : Ev (fun k => laws_toInstS.f k l) (rowR l) :=
  to_list (z := tInstZ) (L := laws_toInstS.l0) (q := fun k x h => Option.bind (laws_toInst.f k x) fun r1 => h (r1.1.1.1, r1.1.1.2.1, r1.1.1.2.2.1, r1.1.1.2.2.2.1, r1.1.1.2.2.2.2.1, r1.1.1.2.2.2.2.2.1, r1.2.1, ())) (b := 72) (R := Unit) (fun k l a b => rfl) (fun k l => rfl) h.1 (by omega) (by omega) fun x hx g r hh => Ev.bind (toInst (h.2 x hx)) hh
theorem toBlock {x : tBlockD} (h : Small tBlock x) : Ev (fun k => laws_toBlock.f k x) ((((), (), x.2.2.1, x.2.2.2.1, x.2.2.2.2.1, x.2.2.2.2.2.1, ()), ()), (x.1, x.2.1, ())) := Ev.bind (toPhiS h.1) (Ev.bind (toInstS h.2.1) (Ev.cst rfl))
theorem toBlockS {l : List tBlockD} (h : Small (.list tBlock) l) : Ev (fun k => laws_toBlockS.f k l) (rowR l) :=
  to_list (z := tBlockZ) (L := laws_toBlockS.l0) (q := fun k x h => Option.bind (laws_toBlock.f k x) fun r1 => h (r1.2.1, r1.2.2.1, r1.1.1.2.2.1, r1.1.1.2.2.2.1, r1.1.1.2.2.2.2.1, r1.1.1.2.2.2.2.2.1, ())) (b := 80) (R := Unit) (fun k l a b => rfl) (fun k l => rfl) h.1 (by omega) (by omega) fun x hx g r hh => Ev.bind (toBlock (h.2 x hx)) hh
theorem toFunc {x : tFuncD} (h : Small tFunc x) : Ev (fun k => laws_toFunc.f k x) ((((), x.2.1, (), ()), ()), (x.1, x.2.2.1, ())) := Ev.bind (toInts h.1) (Ev.bind (toBlockS h.2.2.1) (Ev.cst rfl))
/-! ### a thing compared with itself -/
theorem eqInts {l : List Int} (h : Small (.list (.int .i64)) l) : Ev (fun k => laws_eqInt64S.f k l l) (one true) :=
  eq_list (z := 0) (L := laws_eqInt64S.l0) (q := fun k x y g => bif !decide (x = y) then some (((false, ()), ()), ()) else g) (fun k l m a => rfl) (fun k l m => rfl) h.1 fun x _ g r hh => Ev.neg (by rw [dpos rfl]; rfl) hh
theorem Ev.skip {R : Type} {n : Int} {o : Option R} {g : Nat → Option R} {r : R} (h : Ev g r) : Ev (fun k => bif !decide (n = n) then o else g k) r := Ev.neg (by rw [dpos rfl]; rfl) h
theorem Ev.yes {g : Nat → Option BR} {f : Nat → Option BR} {o : Option BR} {r : BR} (h : Ev g (one true)) (hf : Ev f r) : Ev (fun k => Option.bind (g k) fun r1 => bif !r1.1.1.1 then o else f k) r := Ev.bind h (Ev.neg rfl hf)
theorem eqPhi {x : tPhiD} (h : Small tPhi x) : Ev (fun k => laws_eqPhi.f k x x) (one true) := Ev.skip (Ev.yes (eqInts h.2.1) (Ev.cst rfl))
theorem eqPhiS {l : List tPhiD} (h : Small (.list tPhi) l) : Ev (fun k => laws_eqPhiS.f k l l) (one true) :=
  eq_list (z := tPhiZ) (L := laws_eqPhiS.l0) (q := fun k x y g => Option.bind (laws_eqPhi.f k x y) fun r1 => bif !r1.1.1.1 then some (((false, ()), ()), ()) else g) (fun k l m a => rfl) (fun k l m => rfl) h.1 fun x hx g r hh => Ev.yes (eqPhi (h.2 x hx)) hh
theorem eqInst {x : tInstD} (h : Small tInst x) : Ev (fun k => laws_eqInst.f k x x) (one true) := Ev.skip (Ev.skip (Ev.skip (Ev.skip (Ev.skip (Ev.skip (Ev.yes (eqInts h.2.2.2.2.2.2.1) (Ev.cst rfl)))))))
theorem eqInstS {l : List tInstD} (h : Small (.list tInst) l) : Ev (fun k => laws_eqInstS.f k l l) (one true) :=
  eq_list (z := tInstZ) (L := laws_eqInstS.l0) (q := fun k x y g => Option.bind (laws_eqInst.f k x y) fun r1 => bif !r1.1.1.1 then some (((false, ()), ()), ()) else g) (fun k l m a => rfl) (fun k l m => rfl) h.1 fun x hx g r hh => Ev.yes (eqInst (h.2 x hx)) hh
theorem eqTerm {x : tTermD} : Ev (fun k => laws_eqTerm.f k x x) (one true) := Ev.skip (Ev.skip (Ev.skip (Ev.skip (Ev.cst rfl))))
theorem eqBlock {x : tBlockD} (h : Small tBlock x) : Ev (fun k => laws_eqBlock.f k x x) (one true) := Ev.yes (eqPhiS h.1) (Ev.yes (eqInstS h.2.1) (Ev.yes eqTerm (Ev.cst rfl)))
theorem eqBlockS {l : List tBlockD} (h : Small (.list tBlock) l) : Ev (fun k => laws_eqBlockS.f k l l) (one true) :=
  eq_list (z := tBlockZ) (L := laws_eqBlockS.l0) (q := fun k x y g => Option.bind (laws_eqBlock.f k x y) fun r1 => bif !r1.1.1.1 then some (((false, ()), ()), ()) else g) (fun k l m a => rfl) (fun k l m => rfl) h.1 fun x hx g r hh => Ev.yes (eqBlock (h.2 x hx)) hh
theorem eqFunc {x : tFuncD} (h : Small tFunc x) : Ev (fun k => laws_eqFunc.f k x x) (one true) := Ev.yes (eqInts h.1) (Ev.skip (Ev.yes (eqBlockS h.2.2.1) (Ev.cst rfl)))
end Go.Proofs.Ytkfehogikjcgkaa.V
namespace Go.Proofs.Ytkfehogikjcgkaa.V
open Go
set_option linter.unusedVariables false
set_option linter.unusedSimpArgs false
theorem Ev.sc {R : Type} {g : Nat → Option R} {r : R} (h : Ev (fun k => g (k + 1)) r) : Ev g r := Ev.step h fun _ => rfl
theorem updAt_length {α : Type} (z : α) (l : List α) (i : Nat) (f : α → α) : (updAt z l i f).length = l.length := by simp [updAt]
theorem updAt_at {α : Type} (z : α) (l : List α) (i : Nat) (f : α → α) (h : i < l.length) : (updAt z l i f).getD i z = f (l.getD i z) := by
  rw [getD_at _ _ _ (by rw [updAt_length]; exact h)]
  simp [updAt]
theorem updAt_twice {α : Type} {z : α} {l : List α} {i : Nat} (h : i < l.length) (f g : α → α) : updAt z (updAt z l i f) i g = updAt z l i (fun x => g (f x)) := by
  show (updAt z l i f).set i (g ((updAt z l i f).getD i z)) = _
  rw [updAt_at _ _ _ _ h]
  simp [updAt]
abbrev MkR (α : Type) := (((Int × Unit) × Unit) × (α × Unit))
abbrev mkr {α : Type} (n : Int) (l : α) : MkR α := (((n, ()), ()), (l, ()))
/-- The numbers n, n + 1, .. -/
def upFrom : Int → Nat → List Int
  | _, 0 => []
  | n, d + 1 => n :: upFrom (n + 1) d
theorem markInts_l : ∀ (d i : Nat) (pre : List Int) (l : List Int) (n : Int), pre.length = i → l.length = d → i + d ≤ 1048576 → 0 ≤ n → n + (d : Int) ≤ 9223372036854775807 → Ev (fun k => laws_markInt64S.l0 k n (i : Int) (pre ++ l)) (mkr (n + (d : Int)) (pre ++ upFrom n d)) := by
  intro d
  induction d with
  | zero =>
    intro i pre l n hi hl h1 h0 hM
    obtain rfl : l = [] := List.eq_nil_of_length_eq_zero hl
    subst hi
    refine Ev.step (g' := fun _ => some (mkr (n + 0) (pre ++ []))) (Ev.cst rfl) fun k => ?_
    show laws_markInt64S.l0_ k (laws_markInt64S.l0 k) n _ (pre ++ []) = _
    unfold laws_markInt64S.l0_
    simp
  | succ d ih =>
    intro i pre l n hi hl h1 h0 hM
    obtain ⟨x, l, rfl⟩ : ∃ x m, l = x :: m := by
      cases l with
      | nil => simp at hl
      | cons x m => exact ⟨x, m, rfl⟩
    subst hi
    have hlt : pre.length < (pre ++ x :: l).length := by simp
    refine Ev.sc ?_
    show Ev (fun k => laws_markInt64S.l0_ k (laws_markInt64S.l0 k) n _ (pre ++ x :: l)) _
    unfold laws_markInt64S.l0_
    simp only [head_in hlt, head_0, Bool.and_self, cond_true, Int.toNat_natCast, wrap_nat (show pre.length < 9223372036854775807 by omega), wrap_id (x := n + 1) (by omega) (by omega)]
    have e : (pre ++ x :: l).set pre.length n = (pre ++ [n]) ++ l := by simp
    rw [e]
    refine (ih (pre.length + 1) (pre ++ [n]) l (n + 1) (by simp) (by simpa using hl) (by omega) (by omega) (by omega)).rw ?_
    have e1 : n + 1 + (d : Int) = n + ((d + 1 : Nat) : Int) := by omega
    simp [upFrom, e1]
theorem markInts (l : List Int) (n : Int) (hl : l.length ≤ 1048576) (h0 : 0 ≤ n) (hM : n + (l.length : Int) ≤ 9223372036854775807) : Ev (fun k => laws_markInt64S.f k n l) (mkr (n + (l.length : Int)) (upFrom n l.length)) :=
  markInts_l l.length 0 [] l n rfl rfl (by omega) h0 hM
theorem heldInts_l : ∀ (d i : Nat) (pre : List Int) (n : Int), pre.length = i → i + d ≤ 1048576 → 0 ≤ n → n + (d : Int) ≤ 9223372036854775807 → Ev (fun k => laws_heldInt64S.l0 k (pre ++ upFrom n d) n (i : Int)) (one (n + (d : Int))) := by
  intro d
  induction d with
  | zero =>
    intro i pre n hi h1 h0 hM
    subst hi
    refine Ev.step (g' := fun _ => some (one (n + 0))) (Ev.cst rfl) fun k => ?_
    show laws_heldInt64S.l0_ k (laws_heldInt64S.l0 k) (pre ++ []) n _ = _
    unfold laws_heldInt64S.l0_
    simp
  | succ d ih =>
    intro i pre n hi h1 h0 hM
    subst hi
    have hlt : pre.length < (pre ++ n :: upFrom (n + 1) d).length := by simp
    refine Ev.sc ?_
    show Ev (fun k => laws_heldInt64S.l0_ k (laws_heldInt64S.l0 k) (pre ++ n :: upFrom (n + 1) d) n _) _
    unfold laws_heldInt64S.l0_
    simp only [head_in hlt, head_0, Bool.and_self, cond_true, get_in hlt, wrap_nat (show pre.length < 9223372036854775807 by omega), wrap_id (x := n + 1) (by omega) (by omega)]
    refine Ev.neg (by simp) ?_
    have e : pre ++ n :: upFrom (n + 1) d = (pre ++ [n]) ++ upFrom (n + 1) d := by simp
    rw [e]
    refine (ih (pre.length + 1) (pre ++ [n]) (n + 1) (by simp) (by omega) (by omega) (by omega)).rw ?_
    have e1 : n + 1 + (d : Int) = n + ((d + 1 : Nat) : Int) := by omega
    rw [e1]
theorem heldInts (n : Int) (d : Nat) (hl : d ≤ 1048576) (h0 : 0 ≤ n) (hM : n + (d : Int) ≤ 9223372036854775807) : Ev (fun k => laws_heldInt64S.f k (upFrom n d) n) (one (n + (d : Int))) :=
  heldInts_l d 0 [] n rfl (by omega) h0 hM
end Go.Proofs.Ytkfehogikjcgkaa.V
namespace Go.Proofs.Ytkfehogikjcgkaa.V
open Go
set_option linter.unusedVariables false
set_option linter.unusedSimpArgs false
/-- The elements that count from a number up to another one. -/
def Chain {α : Type} (P : Int → α → Int → Prop) : Int → List α → Int → Prop
  | n, [], n' => n = n'
  | n, x :: l, n' => ∃ n1, P n x n1 ∧ Chain P n1 l n'
theorem mark_ch {α : Type} {z : α} {B : Int} (hB : 0 ≤ B) {small : α → Prop} {P : Int → α → Int → Prop} {L : Nat → Int → Int → List α → Option (MkR (List α))} {M : Int}
    (hend : ∀ (l : List α) (n : Int) k, L (k + 1) n (l.length : Int) l = some (mkr n l))
    (hstep : ∀ (l : List α) (i : Nat) (n : Int), i < l.length → l.length ≤ 1048576 → small (l.getD i z) → 0 ≤ n → n + B ≤ M → ∃ n' x, n ≤ n' ∧ n' ≤ n + B ∧ P n x n' ∧ ∀ r, Ev (fun k => L k n' ((i + 1 : Nat) : Int) (l.set i x)) r → Ev (fun k => L k n (i : Int) l) r) :
    ∀ (d i : Nat) (l : List α) (n : Int), i + d = l.length → l.length ≤ 1048576 → (∀ j x, i ≤ j → l[j]? = some x → small x) → 0 ≤ n → n + (d : Int) * B ≤ M → ∃ n' m, Ev (fun k => L k n (i : Int) l) (mkr n' (l.take i ++ m)) ∧ Chain P n m n' ∧ n ≤ n' ∧ n' ≤ n + (d : Int) * B ∧ m.length = d := by
  intro d
  induction d with
  | zero =>
    intro i l n hi hl hs h0 hM
    obtain rfl : i = l.length := by omega
    exact ⟨n, [], (Ev.step (g' := fun _ => some (mkr n l)) (Ev.cst rfl) (hend l n)).rw (by rw [List.take_length, List.append_nil]), rfl, Int.le_refl _, by omega, rfl⟩
  | succ d ih =>
    intro i l n hi hl hs h0 hM
    have hlt : i < l.length := by omega
    have e : ((d + 1 : Nat) : Int) * B = (d : Int) * B + B := by rw [Int.natCast_add, Int.add_mul]; simp
    have hd : 0 ≤ (d : Int) * B := Int.mul_nonneg (by omega) hB
    rw [e] at hM ⊢
    obtain ⟨n1, x1, a1, a2, a3, a5⟩ := hstep l i n hlt hl (hs i _ (Nat.le_refl _) (by rw [getD_at _ _ _ hlt]; exact List.getElem?_eq_getElem hlt)) h0 (by omega)
    obtain ⟨n2, m2, b1, b2, b3, b4, b5⟩ := ih (i + 1) (l.set i x1) n1 (by rw [List.length_set]; omega) (by rw [List.length_set]; exact hl) (fun j x hj hx => hs j x (by omega) (by rw [List.getElem?_set_ne (by omega)] at hx; exact hx)) (by omega) (by omega)
    refine ⟨n2, x1 :: m2, (a5 _ b1).rw ?_, ⟨n1, a3, b2⟩, by omega, by omega, by rw [List.length_cons, b5]⟩
    have e2 : (l.set i x1).take (i + 1) = l.take i ++ [x1] := by
      rw [List.take_succ_eq_append_getElem (by rw [List.length_set]; exact hlt), List.getElem_set_self, List.take_set_of_le (Nat.le_refl i)]
    show mkr n2 ((l.set i x1).take (i + 1) ++ m2) = _
    rw [e2, List.append_assoc]; rfl
theorem mark_all2 {α : Type} {z : α} {B : Int} (hB : 0 ≤ B) {small : α → Prop} {P : Int → α → Int → Prop} {L : Nat → Int → Int → List α → Option (MkR (List α))} {M : Int}
    (hend : ∀ (l : List α) (n : Int) k, L (k + 1) n (l.length : Int) l = some (mkr n l))
    (hstep : ∀ (l : List α) (i : Nat) (n : Int), i < l.length → l.length ≤ 1048576 → small (l.getD i z) → 0 ≤ n → n + B ≤ M → ∃ n' x, n ≤ n' ∧ n' ≤ n + B ∧ P n x n' ∧ ∀ r, Ev (fun k => L k n' ((i + 1 : Nat) : Int) (l.set i x)) r → Ev (fun k => L k n (i : Int) l) r)
    (l : List α) (n : Int) (hl : l.length ≤ 1048576) (hs : ∀ x ∈ l, small x) (h0 : 0 ≤ n) (hM : n + 1048576 * B ≤ M) : ∃ n' m, Ev (fun k => L k n 0 l) (mkr n' m) ∧ Chain P n m n' ∧ n ≤ n' ∧ n' ≤ n + 1048576 * B ∧ m.length ≤ 1048576 := by
  have hle : (l.length : Int) * B ≤ 1048576 * B := Int.mul_le_mul_of_nonneg_right (by omega) hB
  obtain ⟨n', m, a, b, c, d, e⟩ := mark_ch (z := z) hB (small := small) (P := P) hend hstep l.length 0 l n (by omega) hl (fun j x _ hx => hs x (List.mem_of_getElem? hx)) h0 (by omega)
  exact ⟨n', m, a, b, c, by omega, by omega⟩
theorem held_ch {α : Type} {z : α} {P : Int → α → Int → Prop} {H : Nat → List α → Int → Int → Option IR}
    (hend : ∀ (l : List α) (n : Int) k, H (k + 1) l n (l.length : Int) = some (one n))
    (hstep : ∀ (l : List α) (i : Nat) (n n' : Int), i < l.length → l.length ≤ 1048576 → P n (l.getD i z) n' → ∀ r, Ev (fun k => H k l n' ((i + 1 : Nat) : Int)) r → Ev (fun k => H k l n (i : Int)) r) :
    ∀ (d i : Nat) (l : List α) (n n' : Int), i + d = l.length → l.length ≤ 1048576 → Chain P n (l.drop i) n' → Ev (fun k => H k l n (i : Int)) (one n') := by
  intro d
  induction d with
  | zero =>
    intro i l n n' hi hl hc
    obtain rfl : i = l.length := by omega
    rw [List.drop_length] at hc
    obtain rfl : n = n' := hc
    exact Ev.step (g' := fun _ => some (one n)) (Ev.cst rfl) (hend l n)
  | succ d ih =>
    intro i l n n' hi hl hc
    have hlt : i < l.length := by omega
    rw [List.drop_eq_getElem_cons hlt] at hc
    obtain ⟨n1, p, c⟩ := hc
    exact hstep l i n n1 hlt hl (by rw [getD_at _ _ _ hlt]; exact p) _ (ih (i + 1) l n1 n' (by omega) hl c)
theorem held_all {α : Type} {z : α} {P : Int → α → Int → Prop} {H : Nat → List α → Int → Int → Option IR}
    (hend : ∀ (l : List α) (n : Int) k, H (k + 1) l n (l.length : Int) = some (one n))
    (hstep : ∀ (l : List α) (i : Nat) (n n' : Int), i < l.length → l.length ≤ 1048576 → P n (l.getD i z) n' → ∀ r, Ev (fun k => H k l n' ((i + 1 : Nat) : Int)) r → Ev (fun k => H k l n (i : Int)) r)
    (l : List α) (n n' : Int) (hl : l.length ≤ 1048576) (hc : Chain P n l n') : Ev (fun k => H k l n 0) (one n') := held_ch hend hstep l.length 0 l n n' (by omega) hl hc
theorem Ev.sk {R : Type} {n m : Int} {o : Option R} {g : Nat → Option R} {r : R} (h : n = m) (e : Ev g r) : Ev (fun k => bif !decide (n = m) then o else g k) r := Ev.neg (by rw [dpos h]; rfl) e
def MP (n : Int) (x : tPhiD) (n' : Int) : Prop := ∃ d : Nat, d ≤ 1048576 ∧ 0 ≤ n ∧ n' = n + 1 + (d : Int) ∧ n' ≤ 9000000000000000000 ∧ x.1 = n ∧ x.2.1 = upFrom (n + 1) d
def MI (n : Int) (x : tInstD) (n' : Int) : Prop := ∃ d : Nat, d ≤ 1048576 ∧ 0 ≤ n ∧ n' = n + 1 + 1 + 1 + 1 + 1 + 1 + (d : Int) ∧ n' ≤ 9000000000000000000 ∧ x.1 = n ∧ x.2.1 = n + 1 ∧ x.2.2.1 = n + 1 + 1 ∧ x.2.2.2.1 = n + 1 + 1 + 1 ∧ x.2.2.2.2.1 = n + 1 + 1 + 1 + 1 ∧ x.2.2.2.2.2.1 = n + 1 + 1 + 1 + 1 + 1 ∧ x.2.2.2.2.2.2.1 = upFrom (n + 1 + 1 + 1 + 1 + 1 + 1) d
def MB (n : Int) (x : tBlockD) (n' : Int) : Prop := ∃ n1 n2, x.1.length ≤ 1048576 ∧ x.2.1.length ≤ 1048576 ∧ Chain MP n x.1 n1 ∧ Chain MI n1 x.2.1 n2 ∧ 0 ≤ n1 ∧ 0 ≤ n2 ∧ n' = n2 + 1 + 1 + 1 + 1 ∧ n' ≤ 9000000000000000000 ∧ x.2.2.1 = n2 ∧ x.2.2.2.1 = n2 + 1 ∧ x.2.2.2.2.1 = n2 + 1 + 1 ∧ x.2.2.2.2.2.1 = n2 + 1 + 1 + 1
theorem markPhis2 (l : List tPhiD) (hs : Small (.list tPhi) l) (n : Int) (h0 : 0 ≤ n) (hM : n ≤ 4611686018427387904) : ∃ n' m, Ev (fun k => laws_markPhiS.f k n l) (mkr n' m) ∧ Chain MP n m n' ∧ n ≤ n' ∧ n' ≤ n + 1048576 * 1048577 ∧ m.length ≤ 1048576 := by
  refine mark_all2 (z := tPhiZ) (B := 1048577) (by omega) (small := Small tPhi) (L := laws_markPhiS.l0) (M := 4611686018427387904 + 1048576 * 1048577) (fun l n k => ?_) (fun l i n hi hl hx h0 hM => ?_) l n hs.1 hs.2 h0 (by omega)
  · show laws_markPhiS.l0_ k (laws_markPhiS.l0 k) n _ l = _
    unfold laws_markPhiS.l0_
    rw [head_end]; rfl
  · have hlen : (l.getD i tPhiZ).2.1.length ≤ 1048576 := hx.2.1.1
    refine ⟨n + 1 + ((l.getD i tPhiZ).2.1.length : Int), (n, upFrom (n + 1) (l.getD i tPhiZ).2.1.length, (l.getD i tPhiZ).2.2), by omega, by omega, ⟨_, hlen, h0, rfl, by omega, rfl, rfl⟩, fun r hr => Ev.sc ?_⟩
    show Ev (fun k => laws_markPhiS.l0_ k (laws_markPhiS.l0 k) n _ l) _
    unfold laws_markPhiS.l0_
    simp only [updAt_length, head_in hi, head_0, Bool.and_self, cond_true, Int.toNat_natCast, wrap_nat (show i < 9223372036854775807 by omega), wrap_id (x := n + 1) (by omega) (by omega), updAt_twice hi, updAt_at _ _ _ _ hi]
    exact Ev.bind (markInts _ (n + 1) hlen (by omega) (by omega)) hr
theorem markInsts2 (l : List tInstD) (hs : Small (.list tInst) l) (n : Int) (h0 : 0 ≤ n) (hM : n ≤ 4611686018427387904) : ∃ n' m, Ev (fun k => laws_markInstS.f k n l) (mkr n' m) ∧ Chain MI n m n' ∧ n ≤ n' ∧ n' ≤ n + 1048576 * 1048582 ∧ m.length ≤ 1048576 := by
  refine mark_all2 (z := tInstZ) (B := 1048582) (by omega) (small := Small tInst) (L := laws_markInstS.l0) (M := 4611686018427387904 + 1048576 * 1048582) (fun l n k => ?_) (fun l i n hi hl hx h0 hM => ?_) l n hs.1 hs.2 h0 (by omega)
  · show laws_markInstS.l0_ k (laws_markInstS.l0 k) n _ l = _
    unfold laws_markInstS.l0_
    rw [head_end]; rfl
  · have hlen : (l.getD i tInstZ).2.2.2.2.2.2.1.length ≤ 1048576 := hx.2.2.2.2.2.2.1.1
    refine ⟨n + 1 + 1 + 1 + 1 + 1 + 1 + ((l.getD i tInstZ).2.2.2.2.2.2.1.length : Int), (n, n + 1, n + 1 + 1, n + 1 + 1 + 1, n + 1 + 1 + 1 + 1, n + 1 + 1 + 1 + 1 + 1, upFrom (n + 1 + 1 + 1 + 1 + 1 + 1) (l.getD i tInstZ).2.2.2.2.2.2.1.length, (l.getD i tInstZ).2.2.2.2.2.2.2), by omega, by omega, ⟨_, hlen, h0, rfl, by omega, rfl, rfl, rfl, rfl, rfl, rfl, rfl⟩, fun r hr => Ev.sc ?_⟩
    show Ev (fun k => laws_markInstS.l0_ k (laws_markInstS.l0 k) n _ l) _
    unfold laws_markInstS.l0_
    simp only [updAt_length, head_in hi, head_0, Bool.and_self, cond_true, Int.toNat_natCast, wrap_nat (show i < 9223372036854775807 by omega), wrap_id (x := n + 1) (by omega) (by omega), wrap_id (x := n + 1 + 1) (by omega) (by omega), wrap_id (x := n + 1 + 1 + 1) (by omega) (by omega), wrap_id (x := n + 1 + 1 + 1 + 1) (by omega) (by omega), wrap_id (x := n + 1 + 1 + 1 + 1 + 1) (by omega) (by omega), wrap_id (x := n + 1 + 1 + 1 + 1 + 1 + 1) (by omega) (by omega), updAt_twice hi, updAt_at _ _ _ _ hi]
    exact Ev.bind (markInts _ (n + 1 + 1 + 1 + 1 + 1 + 1) hlen (by omega) (by omega)) hr
theorem markBlocks2 (l : List tBlockD) (hs : Small (.list tBlock) l) (n : Int) (h0 : 0 ≤ n) (hM : n ≤ 1048577) : ∃ n' m, Ev (fun k => laws_markBlockS.f k n l) (mkr n' m) ∧ Chain MB n m n' ∧ n ≤ n' ∧ n' ≤ n + 1048576 * (1048576 * 1048577 + 1048576 * 1048582 + 4) ∧ m.length ≤ 1048576 := by
  refine mark_all2 (z := tBlockZ) (B := 1048576 * 1048577 + 1048576 * 1048582 + 4) (by omega) (small := Small tBlock) (L := laws_markBlockS.l0) (M := 4611686018427387904) (fun l n k => ?_) (fun l i n hi hl hx h0 hM => ?_) l n hs.1 hs.2 h0 (by omega)
  · show laws_markBlockS.l0_ k (laws_markBlockS.l0 k) n _ l = _
    unfold laws_markBlockS.l0_
    rw [head_end]; rfl
  · obtain ⟨n1, p1, e1, q1, a1, b1, c1⟩ := markPhis2 (l.getD i tBlockZ).1 hx.1 n h0 (by omega)
    obtain ⟨n2, p2, e2, q2, a2, b2, c2⟩ := markInsts2 (l.getD i tBlockZ).2.1 hx.2.1 n1 (by omega) (by omega)
    refine ⟨n2 + 1 + 1 + 1 + 1, (p1, p2, n2, n2 + 1, n2 + 1 + 1, n2 + 1 + 1 + 1, (l.getD i tBlockZ).2.2.2.2.2.2), by omega, by omega, ⟨n1, n2, c1, c2, q1, q2, by omega, by omega, rfl, by omega, rfl, rfl, rfl, rfl⟩, fun r hr => Ev.sc ?_⟩
    show Ev (fun k => laws_markBlockS.l0_ k (laws_markBlockS.l0 k) n _ l) _
    unfold laws_markBlockS.l0_
    simp only [updAt_length, head_in hi, head_0, Bool.and_self, cond_true, Int.toNat_natCast, wrap_nat (show i < 9223372036854775807 by omega), updAt_twice hi, updAt_at _ _ _ _ hi]
    refine Ev.bind e1 (Ev.bind e2 ?_)
    simp only [mkr, wrap_id (x := n2 + 1) (by omega) (by omega), wrap_id (x := n2 + 1 + 1) (by omega) (by omega), wrap_id (x := n2 + 1 + 1 + 1) (by omega) (by omega), wrap_id (x := n2 + 1 + 1 + 1 + 1) (by omega) (by omega)]
    exact hr
theorem heldPhis (l : List tPhiD) (n n' : Int) (hl : l.length ≤ 1048576) (hc : Chain MP n l n') : Ev (fun k => laws_heldPhiS.f k l n) (one n') := by
  refine held_all (z := tPhiZ) (P := MP) (H := laws_heldPhiS.l0) (fun l n k => ?_) (fun l i n n1 hi hl hp r hr => Ev.sc ?_) l n n' hl hc
  · show laws_heldPhiS.l0_ k (laws_heldPhiS.l0 k) l n _ = _
    unfold laws_heldPhiS.l0_
    rw [head_end]; rfl
  · obtain ⟨d, hd, h0, rfl, hM, e1, e2⟩ := hp
    show Ev (fun k => laws_heldPhiS.l0_ k (laws_heldPhiS.l0 k) l n _) _
    unfold laws_heldPhiS.l0_
    simp only [head_in hi, head_0, Bool.and_self, cond_true, Int.toNat_natCast, wrap_nat (show i < 9223372036854775807 by omega), wrap_id (x := n + 1) (by omega) (by omega), e2]
    exact Ev.sk e1 (Ev.bind (heldInts (n + 1) d hd (by omega) (by omega)) (Ev.dn (show ¬ n + 1 + (d : Int) < 0 by omega) hr))
theorem heldInsts (l : List tInstD) (n n' : Int) (hl : l.length ≤ 1048576) (hc : Chain MI n l n') : Ev (fun k => laws_heldInstS.f k l n) (one n') := by
  refine held_all (z := tInstZ) (P := MI) (H := laws_heldInstS.l0) (fun l n k => ?_) (fun l i n n1 hi hl hp r hr => Ev.sc ?_) l n n' hl hc
  · show laws_heldInstS.l0_ k (laws_heldInstS.l0 k) l n _ = _
    unfold laws_heldInstS.l0_
    rw [head_end]; rfl
  · obtain ⟨d, hd, h0, rfl, hM, e1, e2, e3, e4, e5, e6, e7⟩ := hp
    show Ev (fun k => laws_heldInstS.l0_ k (laws_heldInstS.l0 k) l n _) _
    unfold laws_heldInstS.l0_
    simp only [head_in hi, head_0, Bool.and_self, cond_true, Int.toNat_natCast, wrap_nat (show i < 9223372036854775807 by omega), wrap_id (x := n + 1) (by omega) (by omega), wrap_id (x := n + 1 + 1) (by omega) (by omega), wrap_id (x := n + 1 + 1 + 1) (by omega) (by omega), wrap_id (x := n + 1 + 1 + 1 + 1) (by omega) (by omega), wrap_id (x := n + 1 + 1 + 1 + 1 + 1) (by omega) (by omega), wrap_id (x := n + 1 + 1 + 1 + 1 + 1 + 1) (by omega) (by omega), e7]
    exact Ev.sk e1 (Ev.sk e2 (Ev.sk e3 (Ev.sk e4 (Ev.sk e5 (Ev.sk e6 (Ev.bind (heldInts (n + 1 + 1 + 1 + 1 + 1 + 1) d hd (by omega) (by omega)) (Ev.dn (show ¬ n + 1 + 1 + 1 + 1 + 1 + 1 + (d : Int) < 0 by omega) hr)))))))
theorem heldBlocks (l : List tBlockD) (n n' : Int) (hl : l.length ≤ 1048576) (hc : Chain MB n l n') : Ev (fun k => laws_heldBlockS.f k l n) (one n') := by
  refine held_all (z := tBlockZ) (P := MB) (H := laws_heldBlockS.l0) (fun l n k => ?_) (fun l i n n1 hi hl hp r hr => Ev.sc ?_) l n n' hl hc
  · show laws_heldBlockS.l0_ k (laws_heldBlockS.l0 k) l n _ = _
    unfold laws_heldBlockS.l0_
    rw [head_end]; rfl
  · obtain ⟨m1, m2, u1, u2, c1, c2, p1, p2, rfl, hM, e1, e2, e3, e4⟩ := hp
    show Ev (fun k => laws_heldBlockS.l0_ k (laws_heldBlockS.l0 k) l n _) _
    unfold laws_heldBlockS.l0_
    simp only [head_in hi, head_0, Bool.and_self, cond_true, Int.toNat_natCast, wrap_nat (show i < 9223372036854775807 by omega)]
    refine Ev.bind (heldPhis _ n m1 u1 c1) (Ev.dn (show ¬ m1 < 0 by omega) (Ev.bind (heldInsts _ m1 m2 u2 c2) (Ev.dn (show ¬ m2 < 0 by omega) ?_)))
    simp only [wrap_id (x := m2 + 1) (by omega) (by omega), wrap_id (x := m2 + 1 + 1) (by omega) (by omega), wrap_id (x := m2 + 1 + 1 + 1) (by omega) (by omega), wrap_id (x := m2 + 1 + 1 + 1 + 1) (by omega) (by omega)]
    exact Ev.sk e1 (Ev.sk e2 (Ev.sk e3 (Ev.sk e4 hr)))
/-- What is laid over a function is read back. -/
theorem markHeld (w : Int) {p : List Int} (hp : Small (.list (.int .i64)) p) {b : List tBlockD} (hb : Small (.list tBlock) b) : ∃ n' p' b', Ev (fun k => laws_markFunc.f k w 1 p b) (((n', ()), ()), (p', b', ())) ∧ 0 ≤ n' ∧ n' ≤ 4611686018427387904 ∧ Ev (fun k => laws_heldFunc.f k (p', w, b', ()) 1) (one n') := by
  have hp1 : p.length ≤ 1048576 := hp.1
  obtain ⟨n2, m, e2, q2, a2, b2, c2⟩ := markBlocks2 b hb (1 + (p.length : Int)) (by omega) (by omega)
  refine ⟨n2, _, _, Ev.bind (markInts p 1 hp1 (by omega) (by omega)) (Ev.bind e2 (Ev.cst rfl)), by omega, by omega, ?_⟩
  exact Ev.bind (heldInts 1 p.length hp1 (by omega) (by omega)) (Ev.dn (show ¬ (1 : Int) + (p.length : Int) < 0 by omega) (Ev.bind (heldBlocks m _ n2 c2 q2) (Ev.dn (show ¬ n2 < 0 by omega) (Ev.cst rfl))))
end Go.Proofs.Ytkfehogikjcgkaa.V
