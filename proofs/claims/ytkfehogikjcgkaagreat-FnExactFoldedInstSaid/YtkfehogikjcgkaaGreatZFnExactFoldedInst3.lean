/- PROVED HERE: what the functions that the law FnExactFoldedInst reaches do in memory, each as a plain Lean function, and what these tell: part 4 of 6 of the proof of that law; no condition beyond those written out at each theorem. -/
import Derived.Deep.Slices
import Derived.ProofKit
import Derived.Test.YtkfehogikjcgkaaGreatZFnExactFoldedInst0
import Derived.Test.YtkfehogikjcgkaaGreatZFnExactFoldedInst2
namespace Go.Proofs.YtkfehogikjcgkaaGreat.V
open Go
set_option linter.unusedVariables false
noncomputable section
/-! ### impl.isFunc: function 57 -/
abbrev impl_isFunc.R := (((Bool × Unit) × Unit) × Unit)
def impl_isFunc.l0_ (k : Nat) (l0 : (List tBlockD) → Int → Int → tFuncD → Int → Int → Option impl_isFunc.R) (a0 : List tBlockD) (a1 : Int) (a2 : Int) (a3 : tFuncD) (a4 : Int) (a5 : Int) : Option impl_isFunc.R := bif decide (a2 < a1) then (bif (decide (0 ≤ a2)) && (decide (a2 < ((List.length a0 : Nat) : Int))) then (Option.bind (slices_ContainsFunc_impl_Phi_impl_Phi.f k ((List.getD a0 (Int.toNat a2) tBlockZ).1) a5) fun r1 => bif r1.1.1.1 then (some (((false, ()), ()), ())) else (Option.bind (slices_ContainsFunc_impl_Inst_impl_Inst.f k ((List.getD a0 (Int.toNat a2) tBlockZ).2.1) a5 a4) fun r2 => bif r2.1.1.1 then (some (((false, ()), ()), ())) else (Option.bind (impl_isTerm.f k a3 ((List.getD a0 (Int.toNat a2) tBlockZ).2.2) a5) fun r3 => bif !r3.1.1.1 then (some (((false, ()), ()), ())) else (l0 a0 a1 (IntKind.wrap .i64 (a2 + 1)) a3 a4 a5)))) else none) else (some (((true, ()), ()), ()))
def impl_isFunc.all : Nat → ((List tBlockD) → Int → Int → tFuncD → Int → Int → Option impl_isFunc.R) × Unit
  | 0 => (fun _ _ _ _ _ _ => none, ())
  | k + 1 => (impl_isFunc.l0_ k (impl_isFunc.all k).1, ())
def impl_isFunc.l0 (k : Nat) : (List tBlockD) → Int → Int → tFuncD → Int → Int → Option impl_isFunc.R := (impl_isFunc.all k).1
def impl_isFunc.f (k : Nat) (a0 : tFuncD) (a1 : Int) : Option impl_isFunc.R := bif decide (4 < ((List.length a0.1 : Nat) : Int)) then (some (((false, ()), ()), ())) else (Option.bind (impl_WidthOk.f k a0.2.1) fun r1 => bif !r1.1.1.1 then (some (((false, ()), ()), ())) else (Option.bind (impl_within.f k ((List.length a0.2.2.1 : Nat) : Int) 1 10) fun r2 => bif !r2.1.1.1 then (some (((false, ()), ()), ())) else (Option.bind (slices_ContainsFunc_int64_int64.f k a0.1) fun r3 => bif r3.1.1.1 then (some (((false, ()), ()), ())) else (Option.bind (impl_CountOf.f k a0) fun r4 => bif decide (60 < r4.1.1.1) then (some (((false, ()), ()), ())) else (impl_isFunc.l0 k a0.2.2.1 ((List.length a0.2.2.1 : Nat) : Int) 0 a0 a1 r4.1.1.1)))))
def impl_isFunc.s (k : Nat) : FS := ⟨[⟨true, [.lst (.int .i64), .int .i64, .lst tBlock]⟩, ⟨false, [.int .i64]⟩], [], false, [⟨false, [.bool]⟩], [], [], fun x => impl_isFunc.f k x.1.1 x.1.2.1.1⟩
def impl_isFunc.E (k : Nat) : Ents := [(⟨100, []⟩, impl_WidthOk.s k), (⟨58, []⟩, impl_within.s k), (⟨35, [101]⟩, slices_ContainsFunc_int64_int64.s k), (⟨46, []⟩, impl_CountOf.s k), (⟨102, [103]⟩, slices_ContainsFunc_impl_Phi_impl_Phi.s k), (⟨105, [106]⟩, slices_ContainsFunc_impl_Inst_impl_Inst.s k), (⟨107, []⟩, impl_isTerm.s k)]
def impl_isFunc.L0 (l : (List tBlockD) → Int → Int → tFuncD → Int → Int → Option impl_isFunc.R) : LS impl_isFunc.R := ⟨[], [(2, ⟨false, [.ptr 100000 0]⟩), (3, ⟨false, [.ptr 100001 0]⟩), (5, ⟨false, [.ptr 100002 0]⟩), (35, ⟨false, [.lst tBlock]⟩), (36, ⟨false, [.int .i64]⟩), (37, ⟨false, [.int .i64]⟩)], [(100000, .box [.lst (.int .i64), .int .i64, .lst tBlock]), (100001, .box [.int .i64]), (100002, .box [.int .i64])], fun x => l x.1.2.2.2.1.1 x.1.2.2.2.2.1.1 x.1.2.2.2.2.2.1.1 x.2.1 x.2.2.1.1 x.2.2.2.1.1⟩
def impl_isFunc.L (l0 : (List tBlockD) → Int → Int → tFuncD → Int → Int → Option impl_isFunc.R) : List (LS impl_isFunc.R) := [impl_isFunc.L0 l0]
def impl_isFunc.c : Code := Tryz.f57.body.getD .skip
theorem impl_isFunc.eq (k : Nat) (x) : (impl_isFunc.s k).pf x = execF tab (impl_isFunc.E k) Tryz.f57 impl_isFunc.c (impl_isFunc.s k) (impl_isFunc.L (impl_isFunc.l0 k)) x := by kernel_rfl
theorem impl_isFunc.r0 (l0 : (List tBlockD) → Int → Int → tFuncD → Int → Int → Option impl_isFunc.R) (k : Nat) (x) : impl_isFunc.l0_ k l0 x.1.2.2.2.1.1 x.1.2.2.2.2.1.1 x.1.2.2.2.2.2.1.1 x.2.1 x.2.2.1.1 x.2.2.2.1.1 = roundOf tab (impl_isFunc.E k) (impl_isFunc.L l0) impl_isFunc.c (fin tab Tryz.f57 (impl_isFunc.s k)) 0 (impl_isFunc.L0 l0) x := by kernel_rfl
theorem impl_isFunc.sound : ∀ k, Sound Tryz.prog 57 (impl_isFunc.s k) := sound_of mixed tab_ok (f := 57) (fn := Tryz.f57) (c := impl_isFunc.c) (by kernel_rfl) (by kernel_rfl) (by kernel_rfl) ⟨[⟨true, [.lst (.int .i64), .int .i64, .lst tBlock]⟩, ⟨false, [.int .i64]⟩], [], false, [⟨false, [.bool]⟩], [], []⟩ (by kernel_rfl) (by kernel_rfl) (fun k => (impl_isFunc.s k).pf) impl_isFunc.E (fun k => (EntsOK.cons (impl_WidthOk.sound k) (EntsOK.cons (impl_within.sound k) (EntsOK.cons (slices_ContainsFunc_int64_int64.sound k) (EntsOK.cons (impl_CountOf.sound k) (EntsOK.cons (slices_ContainsFunc_impl_Phi_impl_Phi.sound k) (EntsOK.cons (slices_ContainsFunc_impl_Inst_impl_Inst.sound k) (EntsOK.cons (impl_isTerm.sound k) EntsOK.nil)))))))) (fun k => impl_isFunc.L (impl_isFunc.l0 k)) (fun k => ⟨rfl, trivial⟩) ⟨fun _ => rfl, trivial⟩ (fun k => ⟨⟨(impl_isFunc.L0 (impl_isFunc.l0 (k + 1))).l, rfl, fun x => impl_isFunc.r0 (impl_isFunc.l0 k) k x⟩, trivial⟩) impl_isFunc.eq
end
end Go.Proofs.YtkfehogikjcgkaaGreat.V
namespace Go.Proofs.YtkfehogikjcgkaaGreat.V
open Go
set_option linter.unusedVariables false
noncomputable section
/-! ### impl.isFormed: function 30 -/
abbrev impl_isFormed.R := (((Bool × Unit) × Unit) × Unit)
def impl_isFormed.f (k : Nat) (a0 : tFuncD) : Option impl_isFormed.R := Option.bind (impl_isFunc.f k a0 3) fun r1 => some (((r1.1.1.1, ()), ()), ())
def impl_isFormed.s (k : Nat) : FS := ⟨[⟨true, [.lst (.int .i64), .int .i64, .lst tBlock]⟩], [], false, [⟨false, [.bool]⟩], [], [], fun x => impl_isFormed.f k x.1.1⟩
def impl_isFormed.E (k : Nat) : Ents := [(⟨57, []⟩, impl_isFunc.s k)]
def impl_isFormed.L : List (LS impl_isFormed.R) := []
def impl_isFormed.c : Code := Tryz.f30.body.getD .skip
theorem impl_isFormed.eq (k : Nat) (x) : (impl_isFormed.s k).pf x = execF tab (impl_isFormed.E k) Tryz.f30 impl_isFormed.c (impl_isFormed.s k) impl_isFormed.L x := by kernel_rfl
theorem impl_isFormed.sound : ∀ k, Sound Tryz.prog 30 (impl_isFormed.s k) := sound_of mixed tab_ok (f := 30) (fn := Tryz.f30) (c := impl_isFormed.c) (by kernel_rfl) (by kernel_rfl) (by kernel_rfl) ⟨[⟨true, [.lst (.int .i64), .int .i64, .lst tBlock]⟩], [], false, [⟨false, [.bool]⟩], [], []⟩ (by kernel_rfl) (by kernel_rfl) (fun k => (impl_isFormed.s k).pf) impl_isFormed.E (fun k => (EntsOK.cons (impl_isFunc.sound k) EntsOK.nil)) (fun k => impl_isFormed.L) (fun k => trivial) trivial (fun k => trivial) impl_isFormed.eq
end
end Go.Proofs.YtkfehogikjcgkaaGreat.V
namespace Go.Proofs.YtkfehogikjcgkaaGreat.V
open Go
set_option linter.unusedVariables false
noncomputable section
/-! ### impl.isId: function 31 -/
abbrev impl_isId.R := (((Bool × Unit) × Unit) × Unit)
def impl_isId.f (k : Nat) (a0 : tFuncD) (a1 : Int) : Option impl_isId.R := Option.bind (impl_CountOf.f k a0) fun r1 => Option.bind (impl_within.f k a1 0 (IntKind.wrap .i64 (r1.1.1.1 - 1))) fun r2 => some (((r2.1.1.1, ()), ()), ())
def impl_isId.s (k : Nat) : FS := ⟨[⟨true, [.lst (.int .i64), .int .i64, .lst tBlock]⟩, ⟨false, [.int .i64]⟩], [], false, [⟨false, [.bool]⟩], [], [], fun x => impl_isId.f k x.1.1 x.1.2.1.1⟩
def impl_isId.E (k : Nat) : Ents := [(⟨46, []⟩, impl_CountOf.s k), (⟨58, []⟩, impl_within.s k)]
def impl_isId.L : List (LS impl_isId.R) := []
def impl_isId.c : Code := Tryz.f31.body.getD .skip
theorem impl_isId.eq (k : Nat) (x) : (impl_isId.s k).pf x = execF tab (impl_isId.E k) Tryz.f31 impl_isId.c (impl_isId.s k) impl_isId.L x := by kernel_rfl
theorem impl_isId.sound : ∀ k, Sound Tryz.prog 31 (impl_isId.s k) := sound_of mixed tab_ok (f := 31) (fn := Tryz.f31) (c := impl_isId.c) (by kernel_rfl) (by kernel_rfl) (by kernel_rfl) ⟨[⟨true, [.lst (.int .i64), .int .i64, .lst tBlock]⟩, ⟨false, [.int .i64]⟩], [], false, [⟨false, [.bool]⟩], [], []⟩ (by kernel_rfl) (by kernel_rfl) (fun k => (impl_isId.s k).pf) impl_isId.E (fun k => (EntsOK.cons (impl_CountOf.sound k) (EntsOK.cons (impl_within.sound k) EntsOK.nil))) (fun k => impl_isId.L) (fun k => trivial) trivial (fun k => trivial) impl_isId.eq
end
end Go.Proofs.YtkfehogikjcgkaaGreat.V
namespace Go.Proofs.YtkfehogikjcgkaaGreat.V
open Go
set_option linter.unusedVariables false
noncomputable section
/-! ### impl.PlaceOf: function 127 -/
abbrev impl_PlaceOf.R := (((Int × Unit) × (Int × Unit) × Unit) × Unit)
def impl_PlaceOf.l0_ (k : Nat) (l0 : Int → Int → (List tBlockD) → Int → Int → Option impl_PlaceOf.R) (a0 : Int) (a1 : Int) (a2 : List tBlockD) (a3 : Int) (a4 : Int) : Option impl_PlaceOf.R := bif decide (a4 < a3) then (bif (decide (0 ≤ a4)) && (decide (a4 < ((List.length a2 : Nat) : Int))) then (bif decide (a0 < IntKind.wrap .i64 (a1 + (IntKind.wrap .i64 (((List.length ((List.getD a2 (Int.toNat a4) tBlockZ).1) : Nat) : Int) + ((List.length ((List.getD a2 (Int.toNat a4) tBlockZ).2.1) : Nat) : Int))))) then (some (((a4, ()), (IntKind.wrap .i64 (a0 - a1), ()), ()), ())) else (l0 a0 (IntKind.wrap .i64 (a1 + (IntKind.wrap .i64 (((List.length ((List.getD a2 (Int.toNat a4) tBlockZ).1) : Nat) : Int) + ((List.length ((List.getD a2 (Int.toNat a4) tBlockZ).2.1) : Nat) : Int))))) a2 a3 (IntKind.wrap .i64 (a4 + 1)))) else none) else (some (((-2, ()), (0, ()), ()), ()))
def impl_PlaceOf.all : Nat → (Int → Int → (List tBlockD) → Int → Int → Option impl_PlaceOf.R) × Unit
  | 0 => (fun _ _ _ _ _ => none, ())
  | k + 1 => (impl_PlaceOf.l0_ k (impl_PlaceOf.all k).1, ())
def impl_PlaceOf.l0 (k : Nat) : Int → Int → (List tBlockD) → Int → Int → Option impl_PlaceOf.R := (impl_PlaceOf.all k).1
def impl_PlaceOf.f (k : Nat) (a0 : tFuncD) (a1 : Int) : Option impl_PlaceOf.R := Option.bind (impl_isId.f k a0 a1) fun r1 => bif !r1.1.1.1 then (some (((-2, ()), (0, ()), ()), ())) else (bif decide (a1 < ((List.length a0.1 : Nat) : Int)) then (some (((-1, ()), (a1, ()), ()), ())) else (impl_PlaceOf.l0 k a1 ((List.length a0.1 : Nat) : Int) a0.2.2.1 ((List.length a0.2.2.1 : Nat) : Int) 0))
def impl_PlaceOf.s (k : Nat) : FS := ⟨[⟨true, [.lst (.int .i64), .int .i64, .lst tBlock]⟩, ⟨false, [.int .i64]⟩], [], true, [⟨false, [.int .i64]⟩, ⟨false, [.int .i64]⟩], [], [], fun x => impl_PlaceOf.f k x.1.1 x.1.2.1.1⟩
def impl_PlaceOf.E (k : Nat) : Ents := [(⟨31, []⟩, impl_isId.s k)]
def impl_PlaceOf.L0 (l : Int → Int → (List tBlockD) → Int → Int → Option impl_PlaceOf.R) : LS impl_PlaceOf.R := ⟨[], [(1, ⟨false, [.int .i64]⟩), (6, ⟨false, [.int .i64]⟩), (22, ⟨false, [.lst tBlock]⟩), (23, ⟨false, [.int .i64]⟩), (24, ⟨false, [.int .i64]⟩)], [], fun x => l x.1.1.1 x.1.2.1.1 x.1.2.2.1.1 x.1.2.2.2.1.1 x.1.2.2.2.2.1.1⟩
def impl_PlaceOf.L (l0 : Int → Int → (List tBlockD) → Int → Int → Option impl_PlaceOf.R) : List (LS impl_PlaceOf.R) := [impl_PlaceOf.L0 l0]
def impl_PlaceOf.c : Code := Tryz.f127.body.getD .skip
theorem impl_PlaceOf.eq (k : Nat) (x) : (impl_PlaceOf.s k).pf x = execF tab (impl_PlaceOf.E k) Tryz.f127 impl_PlaceOf.c (impl_PlaceOf.s k) (impl_PlaceOf.L (impl_PlaceOf.l0 k)) x := by kernel_rfl
theorem impl_PlaceOf.r0 (l0 : Int → Int → (List tBlockD) → Int → Int → Option impl_PlaceOf.R) (k : Nat) (x) : impl_PlaceOf.l0_ k l0 x.1.1.1 x.1.2.1.1 x.1.2.2.1.1 x.1.2.2.2.1.1 x.1.2.2.2.2.1.1 = roundOf tab (impl_PlaceOf.E k) (impl_PlaceOf.L l0) impl_PlaceOf.c (fin tab Tryz.f127 (impl_PlaceOf.s k)) 0 (impl_PlaceOf.L0 l0) x := by kernel_rfl
theorem impl_PlaceOf.sound : ∀ k, Sound Tryz.prog 127 (impl_PlaceOf.s k) := sound_of mixed tab_ok (f := 127) (fn := Tryz.f127) (c := impl_PlaceOf.c) (by kernel_rfl) (by kernel_rfl) (by kernel_rfl) ⟨[⟨true, [.lst (.int .i64), .int .i64, .lst tBlock]⟩, ⟨false, [.int .i64]⟩], [], true, [⟨false, [.int .i64]⟩, ⟨false, [.int .i64]⟩], [], []⟩ (by kernel_rfl) (by kernel_rfl) (fun k => (impl_PlaceOf.s k).pf) impl_PlaceOf.E (fun k => (EntsOK.cons (impl_isId.sound k) EntsOK.nil)) (fun k => impl_PlaceOf.L (impl_PlaceOf.l0 k)) (fun k => ⟨rfl, trivial⟩) ⟨fun _ => rfl, trivial⟩ (fun k => ⟨⟨(impl_PlaceOf.L0 (impl_PlaceOf.l0 (k + 1))).l, rfl, fun x => impl_PlaceOf.r0 (impl_PlaceOf.l0 k) k x⟩, trivial⟩) impl_PlaceOf.eq
end
end Go.Proofs.YtkfehogikjcgkaaGreat.V
namespace Go.Proofs.YtkfehogikjcgkaaGreat.V
open Go
set_option linter.unusedVariables false
noncomputable section
/-! ### impl.instOf: function 122 -/
abbrev impl_instOf.R := (((Int × Int × Int × Int × Int × Int × (List Int) × Unit) × (Bool × Unit) × Unit) × Unit)
def impl_instOf.f (k : Nat) (a0 : tFuncD) (a1 : Int) : Option impl_instOf.R := Option.bind (impl_PlaceOf.f k a0 a1) fun r1 => bif decide (r1.1.1.1 < 0) then (some (((0, 0, 0, 0, 0, 0, ([] : List Int), ()), (false, ()), ()), ())) else (bif (decide (0 ≤ r1.1.1.1)) && (decide (r1.1.1.1 < ((List.length a0.2.2.1 : Nat) : Int))) then (bif decide (r1.1.2.1.1 < ((List.length ((List.getD a0.2.2.1 (Int.toNat r1.1.1.1) tBlockZ).1) : Nat) : Int)) then (some (((0, 0, 0, 0, 0, 0, ([] : List Int), ()), (false, ()), ()), ())) else (bif (decide (0 ≤ r1.1.1.1)) && (decide (r1.1.1.1 < ((List.length a0.2.2.1 : Nat) : Int))) then (bif (decide (0 ≤ r1.1.1.1)) && (decide (r1.1.1.1 < ((List.length a0.2.2.1 : Nat) : Int))) then (bif (decide (0 ≤ IntKind.wrap .i64 (r1.1.2.1.1 - ((List.length ((List.getD a0.2.2.1 (Int.toNat r1.1.1.1) tBlockZ).1) : Nat) : Int)))) && (decide (IntKind.wrap .i64 (r1.1.2.1.1 - ((List.length ((List.getD a0.2.2.1 (Int.toNat r1.1.1.1) tBlockZ).1) : Nat) : Int)) < ((List.length ((List.getD a0.2.2.1 (Int.toNat r1.1.1.1) tBlockZ).2.1) : Nat) : Int))) then (some (((List.getD ((List.getD a0.2.2.1 (Int.toNat r1.1.1.1) tBlockZ).2.1) (Int.toNat (IntKind.wrap .i64 (r1.1.2.1.1 - ((List.length ((List.getD a0.2.2.1 (Int.toNat r1.1.1.1) tBlockZ).1) : Nat) : Int)))) tInstZ), (true, ()), ()), ())) else none) else none) else none)) else none)
def impl_instOf.s (k : Nat) : FS := ⟨[⟨true, [.lst (.int .i64), .int .i64, .lst tBlock]⟩, ⟨false, [.int .i64]⟩], [], true, [⟨true, [.int .i64, .int .i64, .int .i64, .int .i64, .int .i64, .int .i64, .lst (.int .i64)]⟩, ⟨false, [.bool]⟩], [], [], fun x => impl_instOf.f k x.1.1 x.1.2.1.1⟩
def impl_instOf.E (k : Nat) : Ents := [(⟨127, []⟩, impl_PlaceOf.s k)]
def impl_instOf.L : List (LS impl_instOf.R) := []
def impl_instOf.c : Code := Tryz.f122.body.getD .skip
theorem impl_instOf.eq (k : Nat) (x) : (impl_instOf.s k).pf x = execF tab (impl_instOf.E k) Tryz.f122 impl_instOf.c (impl_instOf.s k) impl_instOf.L x := by kernel_rfl
theorem impl_instOf.sound : ∀ k, Sound Tryz.prog 122 (impl_instOf.s k) := sound_of mixed tab_ok (f := 122) (fn := Tryz.f122) (c := impl_instOf.c) (by kernel_rfl) (by kernel_rfl) (by kernel_rfl) ⟨[⟨true, [.lst (.int .i64), .int .i64, .lst tBlock]⟩, ⟨false, [.int .i64]⟩], [], true, [⟨true, [.int .i64, .int .i64, .int .i64, .int .i64, .int .i64, .int .i64, .lst (.int .i64)]⟩, ⟨false, [.bool]⟩], [], []⟩ (by kernel_rfl) (by kernel_rfl) (fun k => (impl_instOf.s k).pf) impl_instOf.E (fun k => (EntsOK.cons (impl_PlaceOf.sound k) EntsOK.nil)) (fun k => impl_instOf.L) (fun k => trivial) trivial (fun k => trivial) impl_instOf.eq
end
end Go.Proofs.YtkfehogikjcgkaaGreat.V
namespace Go.Proofs.YtkfehogikjcgkaaGreat.V
open Go
set_option linter.unusedVariables false
noncomputable section
/-! ### impl.ConstOf: function 85 -/
abbrev impl_ConstOf.R := (((Int × Unit) × (Bool × Unit) × Unit) × Unit)
def impl_ConstOf.f (k : Nat) (a0 : tFuncD) (a1 : Int) : Option impl_ConstOf.R := Option.bind (impl_instOf.f k a0 a1) fun r1 => bif !r1.1.2.1.1 then (some (((0, ()), (false, ()), ()), ())) else (bif !decide (r1.1.1.1 = 21) then (some (((0, ()), (false, ()), ()), ())) else (some (((r1.1.1.2.2.2.2.2.1, ()), (true, ()), ()), ())))
def impl_ConstOf.s (k : Nat) : FS := ⟨[⟨true, [.lst (.int .i64), .int .i64, .lst tBlock]⟩, ⟨false, [.int .i64]⟩], [], true, [⟨false, [.int .i64]⟩, ⟨false, [.bool]⟩], [], [], fun x => impl_ConstOf.f k x.1.1 x.1.2.1.1⟩
def impl_ConstOf.E (k : Nat) : Ents := [(⟨122, []⟩, impl_instOf.s k)]
def impl_ConstOf.L : List (LS impl_ConstOf.R) := []
def impl_ConstOf.c : Code := Tryz.f85.body.getD .skip
theorem impl_ConstOf.eq (k : Nat) (x) : (impl_ConstOf.s k).pf x = execF tab (impl_ConstOf.E k) Tryz.f85 impl_ConstOf.c (impl_ConstOf.s k) impl_ConstOf.L x := by kernel_rfl
theorem impl_ConstOf.sound : ∀ k, Sound Tryz.prog 85 (impl_ConstOf.s k) := sound_of mixed tab_ok (f := 85) (fn := Tryz.f85) (c := impl_ConstOf.c) (by kernel_rfl) (by kernel_rfl) (by kernel_rfl) ⟨[⟨true, [.lst (.int .i64), .int .i64, .lst tBlock]⟩, ⟨false, [.int .i64]⟩], [], true, [⟨false, [.int .i64]⟩, ⟨false, [.bool]⟩], [], []⟩ (by kernel_rfl) (by kernel_rfl) (fun k => (impl_ConstOf.s k).pf) impl_ConstOf.E (fun k => (EntsOK.cons (impl_instOf.sound k) EntsOK.nil)) (fun k => impl_ConstOf.L) (fun k => trivial) trivial (fun k => trivial) impl_ConstOf.eq
end
end Go.Proofs.YtkfehogikjcgkaaGreat.V
namespace Go.Proofs.YtkfehogikjcgkaaGreat.V
open Go
set_option linter.unusedVariables false
noncomputable section
/-! ### impl.ResultWidth: function 144 -/
abbrev impl_ResultWidth.R := (((Int × Unit) × Unit) × Unit)
def impl_ResultWidth.f (k : Nat) (a0 : Int) (a1 : Int) : Option impl_ResultWidth.R := Option.bind (impl_isBinary.f k a0) fun r1 => bif !r1.1.1.1 then (some (((0, ()), ()), ())) else (Option.bind (impl_WidthOk.f k a1) fun r2 => bif !r2.1.1.1 then (some (((0, ()), ()), ())) else (bif decide (14 ≤ a0) then (some (((1, ()), ()), ())) else (some (((a1, ()), ()), ()))))
def impl_ResultWidth.s (k : Nat) : FS := ⟨[⟨false, [.int .i64]⟩, ⟨false, [.int .i64]⟩], [], false, [⟨false, [.int .i64]⟩], [], [], fun x => impl_ResultWidth.f k x.1.1.1 x.1.2.1.1⟩
def impl_ResultWidth.E (k : Nat) : Ents := [(⟨61, []⟩, impl_isBinary.s k), (⟨100, []⟩, impl_WidthOk.s k)]
def impl_ResultWidth.L : List (LS impl_ResultWidth.R) := []
def impl_ResultWidth.c : Code := Tryz.f144.body.getD .skip
theorem impl_ResultWidth.eq (k : Nat) (x) : (impl_ResultWidth.s k).pf x = execF tab (impl_ResultWidth.E k) Tryz.f144 impl_ResultWidth.c (impl_ResultWidth.s k) impl_ResultWidth.L x := by kernel_rfl
theorem impl_ResultWidth.sound : ∀ k, Sound Tryz.prog 144 (impl_ResultWidth.s k) := sound_of mixed tab_ok (f := 144) (fn := Tryz.f144) (c := impl_ResultWidth.c) (by kernel_rfl) (by kernel_rfl) (by kernel_rfl) ⟨[⟨false, [.int .i64]⟩, ⟨false, [.int .i64]⟩], [], false, [⟨false, [.int .i64]⟩], [], []⟩ (by kernel_rfl) (by kernel_rfl) (fun k => (impl_ResultWidth.s k).pf) impl_ResultWidth.E (fun k => (EntsOK.cons (impl_isBinary.sound k) (EntsOK.cons (impl_WidthOk.sound k) EntsOK.nil))) (fun k => impl_ResultWidth.L) (fun k => trivial) trivial (fun k => trivial) impl_ResultWidth.eq
end
end Go.Proofs.YtkfehogikjcgkaaGreat.V
namespace Go.Proofs.YtkfehogikjcgkaaGreat.V
open Go
set_option linter.unusedVariables false
noncomputable section
/-! ### impl.widthOf: function 128 -/
abbrev impl_widthOf.R := (((Int × Unit) × Unit) × Unit)
def impl_widthOf.f (k : Nat) (a0 : tInstD) : Option impl_widthOf.R := Option.bind (impl_isBinary.f k a0.1) fun r1 => bif r1.1.1.1 then (Option.bind (impl_ResultWidth.f k a0.1 a0.2.1) fun r2 => some (((r2.1.1.1, ()), ()), ())) else (bif decide (a0.1 = 24) then (some (((0, ()), ()), ())) else (bif decide (a0.1 = 25) then (some (((0, ()), ()), ())) else (some (((a0.2.1, ()), ()), ()))))
def impl_widthOf.s (k : Nat) : FS := ⟨[⟨true, [.int .i64, .int .i64, .int .i64, .int .i64, .int .i64, .int .i64, .lst (.int .i64)]⟩], [], false, [⟨false, [.int .i64]⟩], [], [], fun x => impl_widthOf.f k x.1.1⟩
def impl_widthOf.E (k : Nat) : Ents := [(⟨61, []⟩, impl_isBinary.s k), (⟨144, []⟩, impl_ResultWidth.s k)]
def impl_widthOf.L : List (LS impl_widthOf.R) := []
def impl_widthOf.c : Code := Tryz.f128.body.getD .skip
theorem impl_widthOf.eq (k : Nat) (x) : (impl_widthOf.s k).pf x = execF tab (impl_widthOf.E k) Tryz.f128 impl_widthOf.c (impl_widthOf.s k) impl_widthOf.L x := by kernel_rfl
theorem impl_widthOf.sound : ∀ k, Sound Tryz.prog 128 (impl_widthOf.s k) := sound_of mixed tab_ok (f := 128) (fn := Tryz.f128) (c := impl_widthOf.c) (by kernel_rfl) (by kernel_rfl) (by kernel_rfl) ⟨[⟨true, [.int .i64, .int .i64, .int .i64, .int .i64, .int .i64, .int .i64, .lst (.int .i64)]⟩], [], false, [⟨false, [.int .i64]⟩], [], []⟩ (by kernel_rfl) (by kernel_rfl) (fun k => (impl_widthOf.s k).pf) impl_widthOf.E (fun k => (EntsOK.cons (impl_isBinary.sound k) (EntsOK.cons (impl_ResultWidth.sound k) EntsOK.nil))) (fun k => impl_widthOf.L) (fun k => trivial) trivial (fun k => trivial) impl_widthOf.eq
end
end Go.Proofs.YtkfehogikjcgkaaGreat.V
namespace Go.Proofs.YtkfehogikjcgkaaGreat.V
open Go
set_option linter.unusedVariables false
noncomputable section
/-! ### impl.constant: function 89 -/
abbrev impl_constant.R := (((Int × Int × Int × Int × Int × Int × Unit × Unit) × Unit) × ((List Int) × Unit))
def impl_constant.f (k : Nat) (a0 : tInstD) (a1 : Int) : Option impl_constant.R := Option.bind (impl_widthOf.f k a0) fun r1 => some (((21, r1.1.1.1, 0, 0, 0, a1, (), ()), ()), (([] : List Int), ()))
def impl_constant.s (k : Nat) : FS := ⟨[⟨true, [.int .i64, .int .i64, .int .i64, .int .i64, .int .i64, .int .i64, .lst (.int .i64)]⟩, ⟨false, [.int .i64]⟩], [], false, [⟨true, [.int .i64, .int .i64, .int .i64, .int .i64, .int .i64, .int .i64, .own 100]⟩], [(100, .row true (.int .i64))], [], fun x => impl_constant.f k x.1.1 x.1.2.1.1⟩
def impl_constant.E (k : Nat) : Ents := [(⟨128, []⟩, impl_widthOf.s k)]
def impl_constant.L : List (LS impl_constant.R) := []
def impl_constant.c : Code := Tryz.f89.body.getD .skip
theorem impl_constant.eq (k : Nat) (x) : (impl_constant.s k).pf x = execF tab (impl_constant.E k) Tryz.f89 impl_constant.c (impl_constant.s k) impl_constant.L x := by kernel_rfl
theorem impl_constant.sound : ∀ k, Sound Tryz.prog 89 (impl_constant.s k) := sound_of mixed tab_ok (f := 89) (fn := Tryz.f89) (c := impl_constant.c) (by kernel_rfl) (by kernel_rfl) (by kernel_rfl) ⟨[⟨true, [.int .i64, .int .i64, .int .i64, .int .i64, .int .i64, .int .i64, .lst (.int .i64)]⟩, ⟨false, [.int .i64]⟩], [], false, [⟨true, [.int .i64, .int .i64, .int .i64, .int .i64, .int .i64, .int .i64, .own 100]⟩], [(100, .row true (.int .i64))], []⟩ (by kernel_rfl) (by kernel_rfl) (fun k => (impl_constant.s k).pf) impl_constant.E (fun k => (EntsOK.cons (impl_widthOf.sound k) EntsOK.nil)) (fun k => impl_constant.L) (fun k => trivial) trivial (fun k => trivial) impl_constant.eq
end
end Go.Proofs.YtkfehogikjcgkaaGreat.V
namespace Go.Proofs.YtkfehogikjcgkaaGreat.V
open Go
set_option linter.unusedVariables false
noncomputable section
/-! ### impl.copied: function 90 -/
abbrev impl_copied.R := (((Int × Int × Int × Int × Int × Int × Unit × Unit) × Unit) × ((List Int) × Unit))
def impl_copied.f (k : Nat) (a0 : tInstD) (a1 : Int) : Option impl_copied.R := Option.bind (impl_widthOf.f k a0) fun r1 => some (((27, r1.1.1.1, a1, 0, 0, 0, (), ()), ()), (([] : List Int), ()))
def impl_copied.s (k : Nat) : FS := ⟨[⟨true, [.int .i64, .int .i64, .int .i64, .int .i64, .int .i64, .int .i64, .lst (.int .i64)]⟩, ⟨false, [.int .i64]⟩], [], false, [⟨true, [.int .i64, .int .i64, .int .i64, .int .i64, .int .i64, .int .i64, .own 100]⟩], [(100, .row true (.int .i64))], [], fun x => impl_copied.f k x.1.1 x.1.2.1.1⟩
def impl_copied.E (k : Nat) : Ents := [(⟨128, []⟩, impl_widthOf.s k)]
def impl_copied.L : List (LS impl_copied.R) := []
def impl_copied.c : Code := Tryz.f90.body.getD .skip
theorem impl_copied.eq (k : Nat) (x) : (impl_copied.s k).pf x = execF tab (impl_copied.E k) Tryz.f90 impl_copied.c (impl_copied.s k) impl_copied.L x := by kernel_rfl
theorem impl_copied.sound : ∀ k, Sound Tryz.prog 90 (impl_copied.s k) := sound_of mixed tab_ok (f := 90) (fn := Tryz.f90) (c := impl_copied.c) (by kernel_rfl) (by kernel_rfl) (by kernel_rfl) ⟨[⟨true, [.int .i64, .int .i64, .int .i64, .int .i64, .int .i64, .int .i64, .lst (.int .i64)]⟩, ⟨false, [.int .i64]⟩], [], false, [⟨true, [.int .i64, .int .i64, .int .i64, .int .i64, .int .i64, .int .i64, .own 100]⟩], [(100, .row true (.int .i64))], []⟩ (by kernel_rfl) (by kernel_rfl) (fun k => (impl_copied.s k).pf) impl_copied.E (fun k => (EntsOK.cons (impl_widthOf.sound k) EntsOK.nil)) (fun k => impl_copied.L) (fun k => trivial) trivial (fun k => trivial) impl_copied.eq
end
end Go.Proofs.YtkfehogikjcgkaaGreat.V
namespace Go.Proofs.YtkfehogikjcgkaaGreat.V
open Go
set_option linter.unusedVariables false
noncomputable section
/-! ### impl.isDivision: function 142 -/
abbrev impl_isDivision.R := (((Bool × Unit) × Unit) × Unit)
def impl_isDivision.f (k : Nat) (a0 : Int) : Option impl_isDivision.R := Option.bind (impl_within.f k a0 4 7) fun r1 => some (((r1.1.1.1, ()), ()), ())
def impl_isDivision.s (k : Nat) : FS := ⟨[⟨false, [.int .i64]⟩], [], false, [⟨false, [.bool]⟩], [], [], fun x => impl_isDivision.f k x.1.1.1⟩
def impl_isDivision.E (k : Nat) : Ents := [(⟨58, []⟩, impl_within.s k)]
def impl_isDivision.L : List (LS impl_isDivision.R) := []
def impl_isDivision.c : Code := Tryz.f142.body.getD .skip
theorem impl_isDivision.eq (k : Nat) (x) : (impl_isDivision.s k).pf x = execF tab (impl_isDivision.E k) Tryz.f142 impl_isDivision.c (impl_isDivision.s k) impl_isDivision.L x := by kernel_rfl
theorem impl_isDivision.sound : ∀ k, Sound Tryz.prog 142 (impl_isDivision.s k) := sound_of mixed tab_ok (f := 142) (fn := Tryz.f142) (c := impl_isDivision.c) (by kernel_rfl) (by kernel_rfl) (by kernel_rfl) ⟨[⟨false, [.int .i64]⟩], [], false, [⟨false, [.bool]⟩], [], []⟩ (by kernel_rfl) (by kernel_rfl) (fun k => (impl_isDivision.s k).pf) impl_isDivision.E (fun k => (EntsOK.cons (impl_within.sound k) EntsOK.nil)) (fun k => impl_isDivision.L) (fun k => trivial) trivial (fun k => trivial) impl_isDivision.eq
end
end Go.Proofs.YtkfehogikjcgkaaGreat.V
namespace Go.Proofs.YtkfehogikjcgkaaGreat.V
open Go
set_option linter.unusedVariables false
noncomputable section
/-! ### impl.signOf: function 126 -/
abbrev impl_signOf.R := (((Int × Unit) × Unit) × Unit)
def impl_signOf.f (k : Nat) (a0 : Int) (a1 : Int) : Option impl_signOf.R := bif decide (0 ≤ IntKind.wrap .i64 (a0 - 1)) then (bif decide (band .i64 (V.shr .i64 a1 (IntKind.wrap .i64 (a0 - 1))) 1 = 1) then (Option.bind (impl_mask.f k a0) fun r1 => some (((IntKind.wrap .i64 ((IntKind.wrap .i64 (a1 - r1.1.1.1)) - 1), ()), ()), ())) else (some (((a1, ()), ()), ()))) else none
def impl_signOf.s (k : Nat) : FS := ⟨[⟨false, [.int .i64]⟩, ⟨false, [.int .i64]⟩], [], false, [⟨false, [.int .i64]⟩], [], [], fun x => impl_signOf.f k x.1.1.1 x.1.2.1.1⟩
def impl_signOf.E (k : Nat) : Ents := [(⟨129, []⟩, impl_mask.s k)]
def impl_signOf.L : List (LS impl_signOf.R) := []
def impl_signOf.c : Code := Tryz.f126.body.getD .skip
theorem impl_signOf.eq (k : Nat) (x) : (impl_signOf.s k).pf x = execF tab (impl_signOf.E k) Tryz.f126 impl_signOf.c (impl_signOf.s k) impl_signOf.L x := by kernel_rfl
theorem impl_signOf.sound : ∀ k, Sound Tryz.prog 126 (impl_signOf.s k) := sound_of mixed tab_ok (f := 126) (fn := Tryz.f126) (c := impl_signOf.c) (by kernel_rfl) (by kernel_rfl) (by kernel_rfl) ⟨[⟨false, [.int .i64]⟩, ⟨false, [.int .i64]⟩], [], false, [⟨false, [.int .i64]⟩], [], []⟩ (by kernel_rfl) (by kernel_rfl) (fun k => (impl_signOf.s k).pf) impl_signOf.E (fun k => (EntsOK.cons (impl_mask.sound k) EntsOK.nil)) (fun k => impl_signOf.L) (fun k => trivial) trivial (fun k => trivial) impl_signOf.eq
end
end Go.Proofs.YtkfehogikjcgkaaGreat.V
namespace Go.Proofs.YtkfehogikjcgkaaGreat.V
open Go
set_option linter.unusedVariables false
noncomputable section
/-! ### impl.truth: function 145 -/
abbrev impl_truth.R := (((Int × Unit) × Unit) × Unit)
def impl_truth.f (k : Nat) (a0 : Bool) : Option impl_truth.R := bif a0 then (some (((1, ()), ()), ())) else (some (((0, ()), ()), ()))
def impl_truth.s (k : Nat) : FS := ⟨[⟨false, [.bool]⟩], [], false, [⟨false, [.int .i64]⟩], [], [], fun x => impl_truth.f k x.1.1.1⟩
def impl_truth.E (k : Nat) : Ents := []
def impl_truth.L : List (LS impl_truth.R) := []
def impl_truth.c : Code := Tryz.f145.body.getD .skip
theorem impl_truth.eq (k : Nat) (x) : (impl_truth.s k).pf x = execF tab (impl_truth.E k) Tryz.f145 impl_truth.c (impl_truth.s k) impl_truth.L x := by kernel_rfl
theorem impl_truth.sound : ∀ k, Sound Tryz.prog 145 (impl_truth.s k) := sound_of mixed tab_ok (f := 145) (fn := Tryz.f145) (c := impl_truth.c) (by kernel_rfl) (by kernel_rfl) (by kernel_rfl) ⟨[⟨false, [.bool]⟩], [], false, [⟨false, [.int .i64]⟩], [], []⟩ (by kernel_rfl) (by kernel_rfl) (fun k => (impl_truth.s k).pf) impl_truth.E (fun k => EntsOK.nil) (fun k => impl_truth.L) (fun k => trivial) trivial (fun k => trivial) impl_truth.eq
end
end Go.Proofs.YtkfehogikjcgkaaGreat.V
namespace Go.Proofs.YtkfehogikjcgkaaGreat.V
open Go
set_option linter.unusedVariables false
noncomputable section
/-! ### impl.shifted: function 146 -/
abbrev impl_shifted.R := (((Int × Unit) × Unit) × Unit)
def impl_shifted.f (k : Nat) (a0 : Int) (a1 : Int) (a2 : Int) (a3 : Int) : Option impl_shifted.R := bif decide (a0 = 13) then (Option.bind (impl_signOf.f k a1 a2) fun r1 => bif decide (0 ≤ bif decide (63 < a3) then 63 else a3) then (some (((V.shr .i64 r1.1.1.1 (bif decide (63 < a3) then 63 else a3), ()), ()), ())) else none) else (bif decide (a1 ≤ a3) then (some (((0, ()), ()), ())) else (bif decide (a0 = 11) then (bif decide (0 ≤ a3) then (some (((V.shl .i64 a2 a3, ()), ()), ())) else none) else (bif decide (0 ≤ a3) then (some (((V.shr .i64 a2 a3, ()), ()), ())) else none)))
def impl_shifted.s (k : Nat) : FS := ⟨[⟨false, [.int .i64]⟩, ⟨false, [.int .i64]⟩, ⟨false, [.int .i64]⟩, ⟨false, [.int .i64]⟩], [], false, [⟨false, [.int .i64]⟩], [], [], fun x => impl_shifted.f k x.1.1.1 x.1.2.1.1 x.1.2.2.1.1 x.1.2.2.2.1.1⟩
def impl_shifted.E (k : Nat) : Ents := [(⟨126, []⟩, impl_signOf.s k)]
def impl_shifted.L : List (LS impl_shifted.R) := []
def impl_shifted.c : Code := Tryz.f146.body.getD .skip
theorem impl_shifted.eq (k : Nat) (x) : (impl_shifted.s k).pf x = execF tab (impl_shifted.E k) Tryz.f146 impl_shifted.c (impl_shifted.s k) impl_shifted.L x := by kernel_rfl
theorem impl_shifted.sound : ∀ k, Sound Tryz.prog 146 (impl_shifted.s k) := sound_of mixed tab_ok (f := 146) (fn := Tryz.f146) (c := impl_shifted.c) (by kernel_rfl) (by kernel_rfl) (by kernel_rfl) ⟨[⟨false, [.int .i64]⟩, ⟨false, [.int .i64]⟩, ⟨false, [.int .i64]⟩, ⟨false, [.int .i64]⟩], [], false, [⟨false, [.int .i64]⟩], [], []⟩ (by kernel_rfl) (by kernel_rfl) (fun k => (impl_shifted.s k).pf) impl_shifted.E (fun k => (EntsOK.cons (impl_signOf.sound k) EntsOK.nil)) (fun k => impl_shifted.L) (fun k => trivial) trivial (fun k => trivial) impl_shifted.eq
end
end Go.Proofs.YtkfehogikjcgkaaGreat.V
namespace Go.Proofs.YtkfehogikjcgkaaGreat.V
open Go
set_option linter.unusedVariables false
noncomputable section
/-! ### impl.reckoned: function 143 -/
abbrev impl_reckoned.R := (((Int × Unit) × Unit) × Unit)
def impl_reckoned.f (k : Nat) (a0 : Int) (a1 : Int) (a2 : Int) (a3 : Int) : Option impl_reckoned.R := Option.bind (impl_signOf.f k a1 a2) fun r1 => Option.bind (impl_signOf.f k a1 a3) fun r2 => bif decide (a0 = 1) then (some (((IntKind.wrap .i64 (a2 + a3), ()), ()), ())) else (bif decide (a0 = 2) then (some (((IntKind.wrap .i64 (a2 - a3), ()), ()), ())) else (bif decide (a0 = 3) then (some (((IntKind.wrap .i64 (a2 * a3), ()), ()), ())) else (bif decide (a0 = 4) then (bif !decide (a3 = 0) then (some (((IntKind.wrap .i64 (Int.tdiv a2 a3), ()), ()), ())) else none) else (bif decide (a0 = 5) then (bif !decide (r2.1.1.1 = 0) then (some (((IntKind.wrap .i64 (Int.tdiv r1.1.1.1 r2.1.1.1), ()), ()), ())) else none) else (bif decide (a0 = 6) then (bif !decide (a3 = 0) then (some (((Int.tmod a2 a3, ()), ()), ())) else none) else (bif decide (a0 = 7) then (bif !decide (r2.1.1.1 = 0) then (some (((Int.tmod r1.1.1.1 r2.1.1.1, ()), ()), ())) else none) else (bif decide (a0 = 8) then (some (((band .i64 a2 a3, ()), ()), ())) else (bif decide (a0 = 9) then (some (((bor .i64 a2 a3, ()), ()), ())) else (bif decide (a0 = 10) then (some (((bxor .i64 a2 a3, ()), ()), ())) else (bif decide (a0 = 14) then (Option.bind (impl_truth.f k (decide (a2 = a3))) fun r3 => some (((r3.1.1.1, ()), ()), ())) else (bif decide (a0 = 15) then (Option.bind (impl_truth.f k (!decide (a2 = a3))) fun r4 => some (((r4.1.1.1, ()), ()), ())) else (bif decide (a0 = 16) then (Option.bind (impl_truth.f k (decide (a2 < a3))) fun r5 => some (((r5.1.1.1, ()), ()), ())) else (bif decide (a0 = 17) then (Option.bind (impl_truth.f k (decide (r1.1.1.1 < r2.1.1.1))) fun r6 => some (((r6.1.1.1, ()), ()), ())) else (Option.bind (impl_shifted.f k a0 a1 a2 a3) fun r7 => some (((r7.1.1.1, ()), ()), ())))))))))))))))
def impl_reckoned.s (k : Nat) : FS := ⟨[⟨false, [.int .i64]⟩, ⟨false, [.int .i64]⟩, ⟨false, [.int .i64]⟩, ⟨false, [.int .i64]⟩], [], false, [⟨false, [.int .i64]⟩], [], [], fun x => impl_reckoned.f k x.1.1.1 x.1.2.1.1 x.1.2.2.1.1 x.1.2.2.2.1.1⟩
def impl_reckoned.E (k : Nat) : Ents := [(⟨126, []⟩, impl_signOf.s k), (⟨145, []⟩, impl_truth.s k), (⟨146, []⟩, impl_shifted.s k)]
def impl_reckoned.L : List (LS impl_reckoned.R) := []
def impl_reckoned.c : Code := Tryz.f143.body.getD .skip
theorem impl_reckoned.eq (k : Nat) (x) : (impl_reckoned.s k).pf x = execF tab (impl_reckoned.E k) Tryz.f143 impl_reckoned.c (impl_reckoned.s k) impl_reckoned.L x := by kernel_rfl
theorem impl_reckoned.sound : ∀ k, Sound Tryz.prog 143 (impl_reckoned.s k) := sound_of mixed tab_ok (f := 143) (fn := Tryz.f143) (c := impl_reckoned.c) (by kernel_rfl) (by kernel_rfl) (by kernel_rfl) ⟨[⟨false, [.int .i64]⟩, ⟨false, [.int .i64]⟩, ⟨false, [.int .i64]⟩, ⟨false, [.int .i64]⟩], [], false, [⟨false, [.int .i64]⟩], [], []⟩ (by kernel_rfl) (by kernel_rfl) (fun k => (impl_reckoned.s k).pf) impl_reckoned.E (fun k => (EntsOK.cons (impl_signOf.sound k) (EntsOK.cons (impl_truth.sound k) (EntsOK.cons (impl_shifted.sound k) EntsOK.nil)))) (fun k => impl_reckoned.L) (fun k => trivial) trivial (fun k => trivial) impl_reckoned.eq
end
end Go.Proofs.YtkfehogikjcgkaaGreat.V
namespace Go.Proofs.YtkfehogikjcgkaaGreat.V
open Go
set_option linter.unusedVariables false
noncomputable section
/-! ### impl.Masked: function 125 -/
abbrev impl_Masked.R := (((Int × Unit) × Unit) × Unit)
def impl_Masked.f (k : Nat) (a0 : Int) (a1 : Int) : Option impl_Masked.R := Option.bind (impl_WidthOk.f k a0) fun r1 => bif !r1.1.1.1 then (some (((0, ()), ()), ())) else (Option.bind (impl_mask.f k a0) fun r2 => some (((band .i64 a1 r2.1.1.1, ()), ()), ()))
def impl_Masked.s (k : Nat) : FS := ⟨[⟨false, [.int .i64]⟩, ⟨false, [.int .i64]⟩], [], false, [⟨false, [.int .i64]⟩], [], [], fun x => impl_Masked.f k x.1.1.1 x.1.2.1.1⟩
def impl_Masked.E (k : Nat) : Ents := [(⟨100, []⟩, impl_WidthOk.s k), (⟨129, []⟩, impl_mask.s k)]
def impl_Masked.L : List (LS impl_Masked.R) := []
def impl_Masked.c : Code := Tryz.f125.body.getD .skip
theorem impl_Masked.eq (k : Nat) (x) : (impl_Masked.s k).pf x = execF tab (impl_Masked.E k) Tryz.f125 impl_Masked.c (impl_Masked.s k) impl_Masked.L x := by kernel_rfl
theorem impl_Masked.sound : ∀ k, Sound Tryz.prog 125 (impl_Masked.s k) := sound_of mixed tab_ok (f := 125) (fn := Tryz.f125) (c := impl_Masked.c) (by kernel_rfl) (by kernel_rfl) (by kernel_rfl) ⟨[⟨false, [.int .i64]⟩, ⟨false, [.int .i64]⟩], [], false, [⟨false, [.int .i64]⟩], [], []⟩ (by kernel_rfl) (by kernel_rfl) (fun k => (impl_Masked.s k).pf) impl_Masked.E (fun k => (EntsOK.cons (impl_WidthOk.sound k) (EntsOK.cons (impl_mask.sound k) EntsOK.nil))) (fun k => impl_Masked.L) (fun k => trivial) trivial (fun k => trivial) impl_Masked.eq
end
end Go.Proofs.YtkfehogikjcgkaaGreat.V
namespace Go.Proofs.YtkfehogikjcgkaaGreat.V
open Go
set_option linter.unusedVariables false
noncomputable section
/-! ### impl.Binary: function 123 -/
abbrev impl_Binary.R := (((Int × Unit) × (Int × Unit) × Unit) × Unit)
def impl_Binary.f (k : Nat) (a0 : Int) (a1 : Int) (a2 : Int) (a3 : Int) : Option impl_Binary.R := Option.bind (impl_isBinary.f k a0) fun r1 => bif !r1.1.1.1 then (some (((0, ()), (2, ()), ()), ())) else (Option.bind (impl_isValue.f k a1 a2) fun r2 => bif !r2.1.1.1 then (some (((0, ()), (2, ()), ()), ())) else (Option.bind (impl_isValue.f k a1 a3) fun r3 => bif !r3.1.1.1 then (some (((0, ()), (2, ()), ()), ())) else (Option.bind (impl_isDivision.f k a0) fun r4 => bif r4.1.1.1 then (bif decide (a3 = 0) then (some (((0, ()), (1, ()), ()), ())) else (Option.bind (impl_reckoned.f k a0 a1 a2 a3) fun r5 => Option.bind (impl_Masked.f k a1 r5.1.1.1) fun r6 => some (((r6.1.1.1, ()), (0, ()), ()), ()))) else (Option.bind (impl_reckoned.f k a0 a1 a2 a3) fun r7 => Option.bind (impl_Masked.f k a1 r7.1.1.1) fun r8 => some (((r8.1.1.1, ()), (0, ()), ()), ())))))
def impl_Binary.s (k : Nat) : FS := ⟨[⟨false, [.int .i64]⟩, ⟨false, [.int .i64]⟩, ⟨false, [.int .i64]⟩, ⟨false, [.int .i64]⟩], [], true, [⟨false, [.int .i64]⟩, ⟨false, [.int .i64]⟩], [], [], fun x => impl_Binary.f k x.1.1.1 x.1.2.1.1 x.1.2.2.1.1 x.1.2.2.2.1.1⟩
def impl_Binary.E (k : Nat) : Ents := [(⟨61, []⟩, impl_isBinary.s k), (⟨91, []⟩, impl_isValue.s k), (⟨142, []⟩, impl_isDivision.s k), (⟨143, []⟩, impl_reckoned.s k), (⟨125, []⟩, impl_Masked.s k)]
def impl_Binary.L : List (LS impl_Binary.R) := []
def impl_Binary.c : Code := Tryz.f123.body.getD .skip
theorem impl_Binary.eq (k : Nat) (x) : (impl_Binary.s k).pf x = execF tab (impl_Binary.E k) Tryz.f123 impl_Binary.c (impl_Binary.s k) impl_Binary.L x := by kernel_rfl
theorem impl_Binary.sound : ∀ k, Sound Tryz.prog 123 (impl_Binary.s k) := sound_of mixed tab_ok (f := 123) (fn := Tryz.f123) (c := impl_Binary.c) (by kernel_rfl) (by kernel_rfl) (by kernel_rfl) ⟨[⟨false, [.int .i64]⟩, ⟨false, [.int .i64]⟩, ⟨false, [.int .i64]⟩, ⟨false, [.int .i64]⟩], [], true, [⟨false, [.int .i64]⟩, ⟨false, [.int .i64]⟩], [], []⟩ (by kernel_rfl) (by kernel_rfl) (fun k => (impl_Binary.s k).pf) impl_Binary.E (fun k => (EntsOK.cons (impl_isBinary.sound k) (EntsOK.cons (impl_isValue.sound k) (EntsOK.cons (impl_isDivision.sound k) (EntsOK.cons (impl_reckoned.sound k) (EntsOK.cons (impl_Masked.sound k) EntsOK.nil)))))) (fun k => impl_Binary.L) (fun k => trivial) trivial (fun k => trivial) impl_Binary.eq
end
end Go.Proofs.YtkfehogikjcgkaaGreat.V
namespace Go.Proofs.YtkfehogikjcgkaaGreat.V
open Go
set_option linter.unusedVariables false
noncomputable section
/-! ### slices.Index[[]int64,int64]: function 59 -/
abbrev slices_Index_int64_int64.R := (((Int × Unit) × Unit) × Unit)
def slices_Index_int64_int64.l0_ (k : Nat) (l0 : (List Int) → Int → Int → Int → Option slices_Index_int64_int64.R) (a0 : List Int) (a1 : Int) (a2 : Int) (a3 : Int) : Option slices_Index_int64_int64.R := bif decide (a3 < a2) then (bif (decide (0 ≤ a3)) && (decide (a3 < ((List.length a0 : Nat) : Int))) then (bif decide (a1 = List.getD a0 (Int.toNat a3) 0) then (some (((a3, ()), ()), ())) else (l0 a0 a1 a2 (IntKind.wrap .i64 (a3 + 1)))) else none) else (some (((-1, ()), ()), ()))
def slices_Index_int64_int64.all : Nat → ((List Int) → Int → Int → Int → Option slices_Index_int64_int64.R) × Unit
  | 0 => (fun _ _ _ _ => none, ())
  | k + 1 => (slices_Index_int64_int64.l0_ k (slices_Index_int64_int64.all k).1, ())
def slices_Index_int64_int64.l0 (k : Nat) : (List Int) → Int → Int → Int → Option slices_Index_int64_int64.R := (slices_Index_int64_int64.all k).1
def slices_Index_int64_int64.f (k : Nat) (a0 : List Int) (a1 : Int) : Option slices_Index_int64_int64.R := slices_Index_int64_int64.l0 k a0 a1 ((List.length a0 : Nat) : Int) 0
def slices_Index_int64_int64.s (k : Nat) : FS := ⟨[⟨false, [.lst (.int .i64)]⟩, ⟨false, [.int .i64]⟩], [], false, [⟨false, [.int .i64]⟩], [], [], fun x => slices_Index_int64_int64.f k x.1.1.1 x.1.2.1.1⟩
def slices_Index_int64_int64.E (k : Nat) : Ents := []
def slices_Index_int64_int64.L0 (l : (List Int) → Int → Int → Int → Option slices_Index_int64_int64.R) : LS slices_Index_int64_int64.R := ⟨[], [(0, ⟨false, [.lst (.int .i64)]⟩), (1, ⟨false, [.int .i64]⟩), (7, ⟨false, [.int .i64]⟩), (8, ⟨false, [.int .i64]⟩)], [], fun x => l x.1.1.1 x.1.2.1.1 x.1.2.2.1.1 x.1.2.2.2.1.1⟩
def slices_Index_int64_int64.L (l0 : (List Int) → Int → Int → Int → Option slices_Index_int64_int64.R) : List (LS slices_Index_int64_int64.R) := [slices_Index_int64_int64.L0 l0]
def slices_Index_int64_int64.c : Code := Tryz.f59.body.getD .skip
theorem slices_Index_int64_int64.eq (k : Nat) (x) : (slices_Index_int64_int64.s k).pf x = execF tab (slices_Index_int64_int64.E k) Tryz.f59 slices_Index_int64_int64.c (slices_Index_int64_int64.s k) (slices_Index_int64_int64.L (slices_Index_int64_int64.l0 k)) x := by kernel_rfl
theorem slices_Index_int64_int64.r0 (l0 : (List Int) → Int → Int → Int → Option slices_Index_int64_int64.R) (k : Nat) (x) : slices_Index_int64_int64.l0_ k l0 x.1.1.1 x.1.2.1.1 x.1.2.2.1.1 x.1.2.2.2.1.1 = roundOf tab (slices_Index_int64_int64.E k) (slices_Index_int64_int64.L l0) slices_Index_int64_int64.c (fin tab Tryz.f59 (slices_Index_int64_int64.s k)) 0 (slices_Index_int64_int64.L0 l0) x := by kernel_rfl
theorem slices_Index_int64_int64.sound : ∀ k, Sound Tryz.prog 59 (slices_Index_int64_int64.s k) := sound_of mixed tab_ok (f := 59) (fn := Tryz.f59) (c := slices_Index_int64_int64.c) (by kernel_rfl) (by kernel_rfl) (by kernel_rfl) ⟨[⟨false, [.lst (.int .i64)]⟩, ⟨false, [.int .i64]⟩], [], false, [⟨false, [.int .i64]⟩], [], []⟩ (by kernel_rfl) (by kernel_rfl) (fun k => (slices_Index_int64_int64.s k).pf) slices_Index_int64_int64.E (fun k => EntsOK.nil) (fun k => slices_Index_int64_int64.L (slices_Index_int64_int64.l0 k)) (fun k => ⟨rfl, trivial⟩) ⟨fun _ => rfl, trivial⟩ (fun k => ⟨⟨(slices_Index_int64_int64.L0 (slices_Index_int64_int64.l0 (k + 1))).l, rfl, fun x => slices_Index_int64_int64.r0 (slices_Index_int64_int64.l0 k) k x⟩, trivial⟩) slices_Index_int64_int64.eq
end
end Go.Proofs.YtkfehogikjcgkaaGreat.V
namespace Go.Proofs.YtkfehogikjcgkaaGreat.V
open Go
set_option linter.unusedVariables false
noncomputable section
/-! ### slices.Contains[[]int64,int64]: function 33 -/
abbrev slices_Contains_int64_int64.R := (((Bool × Unit) × Unit) × Unit)
def slices_Contains_int64_int64.f (k : Nat) (a0 : List Int) (a1 : Int) : Option slices_Contains_int64_int64.R := Option.bind (slices_Index_int64_int64.f k a0 a1) fun r1 => some (((decide (0 ≤ r1.1.1.1), ()), ()), ())
def slices_Contains_int64_int64.s (k : Nat) : FS := ⟨[⟨false, [.lst (.int .i64)]⟩, ⟨false, [.int .i64]⟩], [], false, [⟨false, [.bool]⟩], [], [], fun x => slices_Contains_int64_int64.f k x.1.1.1 x.1.2.1.1⟩
def slices_Contains_int64_int64.E (k : Nat) : Ents := [(⟨59, []⟩, slices_Index_int64_int64.s k)]
def slices_Contains_int64_int64.L : List (LS slices_Contains_int64_int64.R) := []
def slices_Contains_int64_int64.c : Code := Tryz.f33.body.getD .skip
theorem slices_Contains_int64_int64.eq (k : Nat) (x) : (slices_Contains_int64_int64.s k).pf x = execF tab (slices_Contains_int64_int64.E k) Tryz.f33 slices_Contains_int64_int64.c (slices_Contains_int64_int64.s k) slices_Contains_int64_int64.L x := by kernel_rfl
theorem slices_Contains_int64_int64.sound : ∀ k, Sound Tryz.prog 33 (slices_Contains_int64_int64.s k) := sound_of mixed tab_ok (f := 33) (fn := Tryz.f33) (c := slices_Contains_int64_int64.c) (by kernel_rfl) (by kernel_rfl) (by kernel_rfl) ⟨[⟨false, [.lst (.int .i64)]⟩, ⟨false, [.int .i64]⟩], [], false, [⟨false, [.bool]⟩], [], []⟩ (by kernel_rfl) (by kernel_rfl) (fun k => (slices_Contains_int64_int64.s k).pf) slices_Contains_int64_int64.E (fun k => (EntsOK.cons (slices_Index_int64_int64.sound k) EntsOK.nil)) (fun k => slices_Contains_int64_int64.L) (fun k => trivial) trivial (fun k => trivial) slices_Contains_int64_int64.eq
end
end Go.Proofs.YtkfehogikjcgkaaGreat.V
namespace Go.Proofs.YtkfehogikjcgkaaGreat.V
open Go
set_option linter.unusedVariables false
noncomputable section
/-! ### impl.is: function 124 -/
abbrev impl_is.R := (((Bool × Unit) × Unit) × Unit)
def impl_is.f (k : Nat) (a0 : Int) (a1 : List Int) : Option impl_is.R := Option.bind (slices_Contains_int64_int64.f k a1 a0) fun r1 => some (((r1.1.1.1, ()), ()), ())
def impl_is.s (k : Nat) : FS := ⟨[⟨false, [.int .i64]⟩, ⟨false, [.lst (.int .i64)]⟩], [], false, [⟨false, [.bool]⟩], [], [], fun x => impl_is.f k x.1.1.1 x.1.2.1.1⟩
def impl_is.E (k : Nat) : Ents := [(⟨33, []⟩, slices_Contains_int64_int64.s k)]
def impl_is.L : List (LS impl_is.R) := []
def impl_is.c : Code := Tryz.f124.body.getD .skip
theorem impl_is.eq (k : Nat) (x) : (impl_is.s k).pf x = execF tab (impl_is.E k) Tryz.f124 impl_is.c (impl_is.s k) impl_is.L x := by kernel_rfl
theorem impl_is.sound : ∀ k, Sound Tryz.prog 124 (impl_is.s k) := sound_of mixed tab_ok (f := 124) (fn := Tryz.f124) (c := impl_is.c) (by kernel_rfl) (by kernel_rfl) (by kernel_rfl) ⟨[⟨false, [.int .i64]⟩, ⟨false, [.lst (.int .i64)]⟩], [], false, [⟨false, [.bool]⟩], [], []⟩ (by kernel_rfl) (by kernel_rfl) (fun k => (impl_is.s k).pf) impl_is.E (fun k => (EntsOK.cons (slices_Contains_int64_int64.sound k) EntsOK.nil)) (fun k => impl_is.L) (fun k => trivial) trivial (fun k => trivial) impl_is.eq
end
end Go.Proofs.YtkfehogikjcgkaaGreat.V
namespace Go.Proofs.YtkfehogikjcgkaaGreat.V
open Go
set_option linter.unusedVariables false
noncomputable section
/-! ### impl.foldedBinary: function 86 -/
abbrev impl_foldedBinary.R := (((Int × Int × Int × Int × Int × Int × (List Int) × Unit) × Unit) × Unit)
def impl_foldedBinary.f (k : Nat) (a0 : tFuncD) (a1 : tInstD) : Option impl_foldedBinary.R := Option.bind (impl_ConstOf.f k a0 a1.2.2.1) fun r1 => Option.bind (impl_ConstOf.f k a0 a1.2.2.2.1) fun r2 => bif r1.1.2.1.1 then (bif r2.1.2.1.1 then (Option.bind (impl_Binary.f k a1.1 a1.2.1 r1.1.1.1 r2.1.1.1) fun r3 => bif decide (r3.1.2.1.1 = 0) then (Option.bind (impl_constant.f k a1 r3.1.1.1) fun r4 => some (((r4.1.1.1, r4.1.1.2.1, r4.1.1.2.2.1, r4.1.1.2.2.2.1, r4.1.1.2.2.2.2.1, r4.1.1.2.2.2.2.2.1, r4.2.1, ()), ()), ())) else (some ((a1, ()), ()))) else (Option.bind (bif r2.1.2.1.1 then (bif decide (r2.1.1.1 = 0) then (Option.bind (impl_is.f k a1.1 [1, 2, 9, 10, 11, 12, 13]) fun r5 => some r5.1.1.1) else (some false)) else (some false)) fun r6 => bif r6 then (Option.bind (impl_copied.f k a1 a1.2.2.1) fun r7 => some (((r7.1.1.1, r7.1.1.2.1, r7.1.1.2.2.1, r7.1.1.2.2.2.1, r7.1.1.2.2.2.2.1, r7.1.1.2.2.2.2.2.1, r7.2.1, ()), ()), ())) else (Option.bind (bif r1.1.2.1.1 then (bif decide (r1.1.1.1 = 0) then (Option.bind (impl_is.f k a1.1 [1, 9, 10]) fun r8 => some r8.1.1.1) else (some false)) else (some false)) fun r9 => bif r9 then (Option.bind (impl_copied.f k a1 a1.2.2.2.1) fun r10 => some (((r10.1.1.1, r10.1.1.2.1, r10.1.1.2.2.1, r10.1.1.2.2.2.1, r10.1.1.2.2.2.2.1, r10.1.1.2.2.2.2.2.1, r10.2.1, ()), ()), ())) else (Option.bind (bif r2.1.2.1.1 then (bif decide (r2.1.1.1 = 1) then (Option.bind (impl_is.f k a1.1 [3, 4]) fun r11 => some r11.1.1.1) else (some false)) else (some false)) fun r12 => bif r12 then (Option.bind (impl_copied.f k a1 a1.2.2.1) fun r13 => some (((r13.1.1.1, r13.1.1.2.1, r13.1.1.2.2.1, r13.1.1.2.2.2.1, r13.1.1.2.2.2.2.1, r13.1.1.2.2.2.2.2.1, r13.2.1, ()), ()), ())) else (Option.bind (bif r1.1.2.1.1 then (bif decide (r1.1.1.1 = 1) then (some (decide (a1.1 = 3))) else (some false)) else (some false)) fun r14 => bif r14 then (Option.bind (impl_copied.f k a1 a1.2.2.2.1) fun r15 => some (((r15.1.1.1, r15.1.1.2.1, r15.1.1.2.2.1, r15.1.1.2.2.2.1, r15.1.1.2.2.2.2.1, r15.1.1.2.2.2.2.2.1, r15.2.1, ()), ()), ())) else (Option.bind (bif r1.1.2.1.1 then (bif decide (r1.1.1.1 = 0) then (Option.bind (impl_is.f k a1.1 [3, 8]) fun r16 => some r16.1.1.1) else (bif r2.1.2.1.1 then (bif decide (r2.1.1.1 = 0) then (Option.bind (impl_is.f k a1.1 [3, 8]) fun r17 => some r17.1.1.1) else (some false)) else (some false))) else (bif r2.1.2.1.1 then (bif decide (r2.1.1.1 = 0) then (Option.bind (impl_is.f k a1.1 [3, 8]) fun r18 => some r18.1.1.1) else (some false)) else (some false))) fun r19 => bif r19 then (Option.bind (impl_constant.f k a1 0) fun r20 => some (((r20.1.1.1, r20.1.1.2.1, r20.1.1.2.2.1, r20.1.1.2.2.2.1, r20.1.1.2.2.2.2.1, r20.1.1.2.2.2.2.2.1, r20.2.1, ()), ()), ())) else (bif !decide (a1.2.2.1 = a1.2.2.2.1) then (some ((a1, ()), ())) else (Option.bind (impl_is.f k a1.1 [2, 10, 15, 16, 17]) fun r21 => bif r21.1.1.1 then (Option.bind (impl_constant.f k a1 0) fun r22 => some (((r22.1.1.1, r22.1.1.2.1, r22.1.1.2.2.1, r22.1.1.2.2.2.1, r22.1.1.2.2.2.2.1, r22.1.1.2.2.2.2.2.1, r22.2.1, ()), ()), ())) else (bif decide (a1.1 = 14) then (Option.bind (impl_constant.f k a1 1) fun r23 => some (((r23.1.1.1, r23.1.1.2.1, r23.1.1.2.2.1, r23.1.1.2.2.2.1, r23.1.1.2.2.2.2.1, r23.1.1.2.2.2.2.2.1, r23.2.1, ()), ()), ())) else (Option.bind (impl_is.f k a1.1 [8, 9]) fun r24 => bif r24.1.1.1 then (Option.bind (impl_copied.f k a1 a1.2.2.1) fun r25 => some (((r25.1.1.1, r25.1.1.2.1, r25.1.1.2.2.1, r25.1.1.2.2.2.1, r25.1.1.2.2.2.2.1, r25.1.1.2.2.2.2.2.1, r25.2.1, ()), ()), ())) else (some ((a1, ()), ())))))))))))) else (Option.bind (bif r2.1.2.1.1 then (bif decide (r2.1.1.1 = 0) then (Option.bind (impl_is.f k a1.1 [1, 2, 9, 10, 11, 12, 13]) fun r26 => some r26.1.1.1) else (some false)) else (some false)) fun r27 => bif r27 then (Option.bind (impl_copied.f k a1 a1.2.2.1) fun r28 => some (((r28.1.1.1, r28.1.1.2.1, r28.1.1.2.2.1, r28.1.1.2.2.2.1, r28.1.1.2.2.2.2.1, r28.1.1.2.2.2.2.2.1, r28.2.1, ()), ()), ())) else (Option.bind (bif r1.1.2.1.1 then (bif decide (r1.1.1.1 = 0) then (Option.bind (impl_is.f k a1.1 [1, 9, 10]) fun r29 => some r29.1.1.1) else (some false)) else (some false)) fun r30 => bif r30 then (Option.bind (impl_copied.f k a1 a1.2.2.2.1) fun r31 => some (((r31.1.1.1, r31.1.1.2.1, r31.1.1.2.2.1, r31.1.1.2.2.2.1, r31.1.1.2.2.2.2.1, r31.1.1.2.2.2.2.2.1, r31.2.1, ()), ()), ())) else (Option.bind (bif r2.1.2.1.1 then (bif decide (r2.1.1.1 = 1) then (Option.bind (impl_is.f k a1.1 [3, 4]) fun r32 => some r32.1.1.1) else (some false)) else (some false)) fun r33 => bif r33 then (Option.bind (impl_copied.f k a1 a1.2.2.1) fun r34 => some (((r34.1.1.1, r34.1.1.2.1, r34.1.1.2.2.1, r34.1.1.2.2.2.1, r34.1.1.2.2.2.2.1, r34.1.1.2.2.2.2.2.1, r34.2.1, ()), ()), ())) else (Option.bind (bif r1.1.2.1.1 then (bif decide (r1.1.1.1 = 1) then (some (decide (a1.1 = 3))) else (some false)) else (some false)) fun r35 => bif r35 then (Option.bind (impl_copied.f k a1 a1.2.2.2.1) fun r36 => some (((r36.1.1.1, r36.1.1.2.1, r36.1.1.2.2.1, r36.1.1.2.2.2.1, r36.1.1.2.2.2.2.1, r36.1.1.2.2.2.2.2.1, r36.2.1, ()), ()), ())) else (Option.bind (bif r1.1.2.1.1 then (bif decide (r1.1.1.1 = 0) then (Option.bind (impl_is.f k a1.1 [3, 8]) fun r37 => some r37.1.1.1) else (bif r2.1.2.1.1 then (bif decide (r2.1.1.1 = 0) then (Option.bind (impl_is.f k a1.1 [3, 8]) fun r38 => some r38.1.1.1) else (some false)) else (some false))) else (bif r2.1.2.1.1 then (bif decide (r2.1.1.1 = 0) then (Option.bind (impl_is.f k a1.1 [3, 8]) fun r39 => some r39.1.1.1) else (some false)) else (some false))) fun r40 => bif r40 then (Option.bind (impl_constant.f k a1 0) fun r41 => some (((r41.1.1.1, r41.1.1.2.1, r41.1.1.2.2.1, r41.1.1.2.2.2.1, r41.1.1.2.2.2.2.1, r41.1.1.2.2.2.2.2.1, r41.2.1, ()), ()), ())) else (bif !decide (a1.2.2.1 = a1.2.2.2.1) then (some ((a1, ()), ())) else (Option.bind (impl_is.f k a1.1 [2, 10, 15, 16, 17]) fun r42 => bif r42.1.1.1 then (Option.bind (impl_constant.f k a1 0) fun r43 => some (((r43.1.1.1, r43.1.1.2.1, r43.1.1.2.2.1, r43.1.1.2.2.2.1, r43.1.1.2.2.2.2.1, r43.1.1.2.2.2.2.2.1, r43.2.1, ()), ()), ())) else (bif decide (a1.1 = 14) then (Option.bind (impl_constant.f k a1 1) fun r44 => some (((r44.1.1.1, r44.1.1.2.1, r44.1.1.2.2.1, r44.1.1.2.2.2.1, r44.1.1.2.2.2.2.1, r44.1.1.2.2.2.2.2.1, r44.2.1, ()), ()), ())) else (Option.bind (impl_is.f k a1.1 [8, 9]) fun r45 => bif r45.1.1.1 then (Option.bind (impl_copied.f k a1 a1.2.2.1) fun r46 => some (((r46.1.1.1, r46.1.1.2.1, r46.1.1.2.2.1, r46.1.1.2.2.2.1, r46.1.1.2.2.2.2.1, r46.1.1.2.2.2.2.2.1, r46.2.1, ()), ()), ())) else (some ((a1, ()), ())))))))))))
def impl_foldedBinary.s (k : Nat) : FS := ⟨[⟨true, [.lst (.int .i64), .int .i64, .lst tBlock]⟩, ⟨true, [.int .i64, .int .i64, .int .i64, .int .i64, .int .i64, .int .i64, .lst (.int .i64)]⟩], [], false, [⟨true, [.int .i64, .int .i64, .int .i64, .int .i64, .int .i64, .int .i64, .lst (.int .i64)]⟩], [], [], fun x => impl_foldedBinary.f k x.1.1 x.1.2.1⟩
def impl_foldedBinary.E (k : Nat) : Ents := [(⟨85, []⟩, impl_ConstOf.s k), (⟨123, []⟩, impl_Binary.s k), (⟨89, []⟩, impl_constant.s k), (⟨124, []⟩, impl_is.s k), (⟨90, []⟩, impl_copied.s k), (⟨85, [999999]⟩, impl_ConstOf.s k)]
def impl_foldedBinary.L : List (LS impl_foldedBinary.R) := []
def impl_foldedBinary.c : Code := Tryz.f86.body.getD .skip
theorem impl_foldedBinary.eq (k : Nat) (x) : (impl_foldedBinary.s k).pf x = execF tab (impl_foldedBinary.E k) Tryz.f86 impl_foldedBinary.c (impl_foldedBinary.s k) impl_foldedBinary.L x := by kernel_rfl
theorem impl_foldedBinary.sound : ∀ k, Sound Tryz.prog 86 (impl_foldedBinary.s k) := sound_of mixed tab_ok (f := 86) (fn := Tryz.f86) (c := impl_foldedBinary.c) (by kernel_rfl) (by kernel_rfl) (by kernel_rfl) ⟨[⟨true, [.lst (.int .i64), .int .i64, .lst tBlock]⟩, ⟨true, [.int .i64, .int .i64, .int .i64, .int .i64, .int .i64, .int .i64, .lst (.int .i64)]⟩], [], false, [⟨true, [.int .i64, .int .i64, .int .i64, .int .i64, .int .i64, .int .i64, .lst (.int .i64)]⟩], [], []⟩ (by kernel_rfl) (by kernel_rfl) (fun k => (impl_foldedBinary.s k).pf) impl_foldedBinary.E (fun k => (EntsOK.cons (impl_ConstOf.sound k) (EntsOK.cons (impl_Binary.sound k) (EntsOK.cons (impl_constant.sound k) (EntsOK.cons (impl_is.sound k) (EntsOK.cons (impl_copied.sound k) (EntsOK.cons (impl_ConstOf.sound k) EntsOK.nil))))))) (fun k => impl_foldedBinary.L) (fun k => trivial) trivial (fun k => trivial) impl_foldedBinary.eq
end
end Go.Proofs.YtkfehogikjcgkaaGreat.V
namespace Go.Proofs.YtkfehogikjcgkaaGreat.V
open Go
set_option linter.unusedVariables false
noncomputable section
/-! ### impl.TypeOf: function 88 -/
abbrev impl_TypeOf.R := (((Int × Unit) × Unit) × Unit)
def impl_TypeOf.f (k : Nat) (a0 : tFuncD) (a1 : Int) : Option impl_TypeOf.R := Option.bind (impl_PlaceOf.f k a0 a1) fun r1 => bif decide (r1.1.1.1 = -2) then (some (((-1, ()), ()), ())) else (bif decide (r1.1.1.1 = -1) then (bif (decide (0 ≤ r1.1.2.1.1)) && (decide (r1.1.2.1.1 < ((List.length a0.1 : Nat) : Int))) then (some (((List.getD a0.1 (Int.toNat r1.1.2.1.1) 0, ()), ()), ())) else none) else (bif (decide (0 ≤ r1.1.1.1)) && (decide (r1.1.1.1 < ((List.length a0.2.2.1 : Nat) : Int))) then (bif decide (r1.1.2.1.1 < ((List.length ((List.getD a0.2.2.1 (Int.toNat r1.1.1.1) tBlockZ).1) : Nat) : Int)) then (bif (decide (0 ≤ r1.1.1.1)) && (decide (r1.1.1.1 < ((List.length a0.2.2.1 : Nat) : Int))) then (bif (decide (0 ≤ r1.1.2.1.1)) && (decide (r1.1.2.1.1 < ((List.length ((List.getD a0.2.2.1 (Int.toNat r1.1.1.1) tBlockZ).1) : Nat) : Int))) then (some ((((List.getD ((List.getD a0.2.2.1 (Int.toNat r1.1.1.1) tBlockZ).1) (Int.toNat r1.1.2.1.1) tPhiZ).1, ()), ()), ())) else none) else none) else (Option.bind (impl_instOf.f k a0 a1) fun r2 => Option.bind (impl_widthOf.f k r2.1.1) fun r3 => some (((r3.1.1.1, ()), ()), ()))) else none))
def impl_TypeOf.s (k : Nat) : FS := ⟨[⟨true, [.lst (.int .i64), .int .i64, .lst tBlock]⟩, ⟨false, [.int .i64]⟩], [], false, [⟨false, [.int .i64]⟩], [], [], fun x => impl_TypeOf.f k x.1.1 x.1.2.1.1⟩
def impl_TypeOf.E (k : Nat) : Ents := [(⟨127, []⟩, impl_PlaceOf.s k), (⟨122, []⟩, impl_instOf.s k), (⟨128, []⟩, impl_widthOf.s k)]
def impl_TypeOf.L : List (LS impl_TypeOf.R) := []
def impl_TypeOf.c : Code := Tryz.f88.body.getD .skip
theorem impl_TypeOf.eq (k : Nat) (x) : (impl_TypeOf.s k).pf x = execF tab (impl_TypeOf.E k) Tryz.f88 impl_TypeOf.c (impl_TypeOf.s k) impl_TypeOf.L x := by kernel_rfl
theorem impl_TypeOf.sound : ∀ k, Sound Tryz.prog 88 (impl_TypeOf.s k) := sound_of mixed tab_ok (f := 88) (fn := Tryz.f88) (c := impl_TypeOf.c) (by kernel_rfl) (by kernel_rfl) (by kernel_rfl) ⟨[⟨true, [.lst (.int .i64), .int .i64, .lst tBlock]⟩, ⟨false, [.int .i64]⟩], [], false, [⟨false, [.int .i64]⟩], [], []⟩ (by kernel_rfl) (by kernel_rfl) (fun k => (impl_TypeOf.s k).pf) impl_TypeOf.E (fun k => (EntsOK.cons (impl_PlaceOf.sound k) (EntsOK.cons (impl_instOf.sound k) (EntsOK.cons (impl_widthOf.sound k) EntsOK.nil)))) (fun k => impl_TypeOf.L) (fun k => trivial) trivial (fun k => trivial) impl_TypeOf.eq
end
end Go.Proofs.YtkfehogikjcgkaaGreat.V
namespace Go.Proofs.YtkfehogikjcgkaaGreat.V
open Go
set_option linter.unusedVariables false
noncomputable section
/-! ### impl.Casted: function 87 -/
abbrev impl_Casted.R := (((Int × Unit) × (Bool × Unit) × Unit) × Unit)
def impl_Casted.f (k : Nat) (a0 : Int) (a1 : Int) (a2 : Int) (a3 : Int) : Option impl_Casted.R := Option.bind (impl_isValue.f k a1 a3) fun r1 => bif !r1.1.1.1 then (some (((0, ()), (false, ()), ()), ())) else (Option.bind (impl_WidthOk.f k a2) fun r2 => bif !r2.1.1.1 then (some (((0, ()), (false, ()), ()), ())) else (bif decide (a0 = 18) then (bif decide (a1 < a2) then (some (((a3, ()), (true, ()), ()), ())) else (bif decide (a0 = 19) then (bif decide (a1 < a2) then (Option.bind (impl_signOf.f k a1 a3) fun r3 => Option.bind (impl_Masked.f k a2 r3.1.1.1) fun r4 => some (((r4.1.1.1, ()), (true, ()), ()), ())) else (bif decide (a0 = 20) then (bif decide (a2 < a1) then (Option.bind (impl_Masked.f k a2 a3) fun r5 => some (((r5.1.1.1, ()), (true, ()), ()), ())) else (some (((0, ()), (false, ()), ()), ()))) else (some (((0, ()), (false, ()), ()), ())))) else (bif decide (a0 = 20) then (bif decide (a2 < a1) then (Option.bind (impl_Masked.f k a2 a3) fun r6 => some (((r6.1.1.1, ()), (true, ()), ()), ())) else (some (((0, ()), (false, ()), ()), ()))) else (some (((0, ()), (false, ()), ()), ()))))) else (bif decide (a0 = 19) then (bif decide (a1 < a2) then (Option.bind (impl_signOf.f k a1 a3) fun r7 => Option.bind (impl_Masked.f k a2 r7.1.1.1) fun r8 => some (((r8.1.1.1, ()), (true, ()), ()), ())) else (bif decide (a0 = 20) then (bif decide (a2 < a1) then (Option.bind (impl_Masked.f k a2 a3) fun r9 => some (((r9.1.1.1, ()), (true, ()), ()), ())) else (some (((0, ()), (false, ()), ()), ()))) else (some (((0, ()), (false, ()), ()), ())))) else (bif decide (a0 = 20) then (bif decide (a2 < a1) then (Option.bind (impl_Masked.f k a2 a3) fun r10 => some (((r10.1.1.1, ()), (true, ()), ()), ())) else (some (((0, ()), (false, ()), ()), ()))) else (some (((0, ()), (false, ()), ()), ()))))))
def impl_Casted.s (k : Nat) : FS := ⟨[⟨false, [.int .i64]⟩, ⟨false, [.int .i64]⟩, ⟨false, [.int .i64]⟩, ⟨false, [.int .i64]⟩], [], true, [⟨false, [.int .i64]⟩, ⟨false, [.bool]⟩], [], [], fun x => impl_Casted.f k x.1.1.1 x.1.2.1.1 x.1.2.2.1.1 x.1.2.2.2.1.1⟩
def impl_Casted.E (k : Nat) : Ents := [(⟨91, []⟩, impl_isValue.s k), (⟨100, []⟩, impl_WidthOk.s k), (⟨126, []⟩, impl_signOf.s k), (⟨125, []⟩, impl_Masked.s k)]
def impl_Casted.L : List (LS impl_Casted.R) := []
def impl_Casted.c : Code := Tryz.f87.body.getD .skip
theorem impl_Casted.eq (k : Nat) (x) : (impl_Casted.s k).pf x = execF tab (impl_Casted.E k) Tryz.f87 impl_Casted.c (impl_Casted.s k) impl_Casted.L x := by kernel_rfl
theorem impl_Casted.sound : ∀ k, Sound Tryz.prog 87 (impl_Casted.s k) := sound_of mixed tab_ok (f := 87) (fn := Tryz.f87) (c := impl_Casted.c) (by kernel_rfl) (by kernel_rfl) (by kernel_rfl) ⟨[⟨false, [.int .i64]⟩, ⟨false, [.int .i64]⟩, ⟨false, [.int .i64]⟩, ⟨false, [.int .i64]⟩], [], true, [⟨false, [.int .i64]⟩, ⟨false, [.bool]⟩], [], []⟩ (by kernel_rfl) (by kernel_rfl) (fun k => (impl_Casted.s k).pf) impl_Casted.E (fun k => (EntsOK.cons (impl_isValue.sound k) (EntsOK.cons (impl_WidthOk.sound k) (EntsOK.cons (impl_signOf.sound k) (EntsOK.cons (impl_Masked.sound k) EntsOK.nil))))) (fun k => impl_Casted.L) (fun k => trivial) trivial (fun k => trivial) impl_Casted.eq
end
end Go.Proofs.YtkfehogikjcgkaaGreat.V
namespace Go.Proofs.YtkfehogikjcgkaaGreat.V
open Go
set_option linter.unusedVariables false
noncomputable section
/-! ### impl.folded: function 48 -/
abbrev impl_folded.R := (((Int × Int × Int × Int × Int × Int × (List Int) × Unit) × Unit) × Unit)
def impl_folded.f (k : Nat) (a0 : tFuncD) (a1 : tInstD) : Option impl_folded.R := Option.bind (impl_ConstOf.f k a0 a1.2.2.1) fun r1 => Option.bind (impl_isBinary.f k a1.1) fun r2 => bif r2.1.1.1 then (Option.bind (impl_foldedBinary.f k a0 a1) fun r3 => some ((r3.1.1, ()), ())) else (Option.bind (Option.bind (impl_isCast.f k a1.1) fun r4 => bif r4.1.1.1 then (some r1.1.2.1.1) else (some false)) fun r5 => bif r5 then (Option.bind (impl_TypeOf.f k a0 a1.2.2.1) fun r6 => Option.bind (impl_Casted.f k a1.1 r6.1.1.1 a1.2.1 r1.1.1.1) fun r7 => bif r7.1.2.1.1 then (Option.bind (impl_constant.f k a1 r7.1.1.1) fun r8 => some (((r8.1.1.1, r8.1.1.2.1, r8.1.1.2.2.1, r8.1.1.2.2.2.1, r8.1.1.2.2.2.2.1, r8.1.1.2.2.2.2.2.1, r8.2.1, ()), ()), ())) else (some ((a1, ()), ()))) else (Option.bind (bif decide (a1.1 = 22) then (bif r1.1.2.1.1 then (bif decide (r1.1.1.1 = 1) then (some true) else (some (decide (a1.2.2.2.1 = a1.2.2.2.2.1)))) else (some (decide (a1.2.2.2.1 = a1.2.2.2.2.1)))) else (some false)) fun r9 => bif r9 then (Option.bind (impl_copied.f k a1 a1.2.2.2.1) fun r10 => some (((r10.1.1.1, r10.1.1.2.1, r10.1.1.2.2.1, r10.1.1.2.2.2.1, r10.1.1.2.2.2.2.1, r10.1.1.2.2.2.2.2.1, r10.2.1, ()), ()), ())) else (Option.bind (bif decide (a1.1 = 22) then (some r1.1.2.1.1) else (some false)) fun r11 => bif r11 then (Option.bind (impl_copied.f k a1 a1.2.2.2.2.1) fun r12 => some (((r12.1.1.1, r12.1.1.2.1, r12.1.1.2.2.1, r12.1.1.2.2.2.1, r12.1.1.2.2.2.2.1, r12.1.1.2.2.2.2.2.1, r12.2.1, ()), ()), ())) else (Option.bind (bif decide (a1.1 = 27) then (bif r1.1.2.1.1 then (Option.bind (impl_isValue.f k a1.2.1 r1.1.1.1) fun r13 => some r13.1.1.1) else (some false)) else (some false)) fun r14 => bif r14 then (Option.bind (impl_constant.f k a1 r1.1.1.1) fun r15 => some (((r15.1.1.1, r15.1.1.2.1, r15.1.1.2.2.1, r15.1.1.2.2.2.1, r15.1.1.2.2.2.2.1, r15.1.1.2.2.2.2.2.1, r15.2.1, ()), ()), ())) else (some ((a1, ()), ()))))))
def impl_folded.s (k : Nat) : FS := ⟨[⟨true, [.lst (.int .i64), .int .i64, .lst tBlock]⟩, ⟨true, [.int .i64, .int .i64, .int .i64, .int .i64, .int .i64, .int .i64, .lst (.int .i64)]⟩], [], false, [⟨true, [.int .i64, .int .i64, .int .i64, .int .i64, .int .i64, .int .i64, .lst (.int .i64)]⟩], [], [], fun x => impl_folded.f k x.1.1 x.1.2.1⟩
def impl_folded.E (k : Nat) : Ents := [(⟨85, []⟩, impl_ConstOf.s k), (⟨61, []⟩, impl_isBinary.s k), (⟨86, []⟩, impl_foldedBinary.s k), (⟨62, []⟩, impl_isCast.s k), (⟨88, []⟩, impl_TypeOf.s k), (⟨87, []⟩, impl_Casted.s k), (⟨89, []⟩, impl_constant.s k), (⟨90, []⟩, impl_copied.s k), (⟨91, []⟩, impl_isValue.s k), (⟨85, [999999]⟩, impl_ConstOf.s k)]
def impl_folded.L : List (LS impl_folded.R) := []
def impl_folded.c : Code := Tryz.f48.body.getD .skip
theorem impl_folded.eq (k : Nat) (x) : (impl_folded.s k).pf x = execF tab (impl_folded.E k) Tryz.f48 impl_folded.c (impl_folded.s k) impl_folded.L x := by kernel_rfl
theorem impl_folded.sound : ∀ k, Sound Tryz.prog 48 (impl_folded.s k) := sound_of mixed tab_ok (f := 48) (fn := Tryz.f48) (c := impl_folded.c) (by kernel_rfl) (by kernel_rfl) (by kernel_rfl) ⟨[⟨true, [.lst (.int .i64), .int .i64, .lst tBlock]⟩, ⟨true, [.int .i64, .int .i64, .int .i64, .int .i64, .int .i64, .int .i64, .lst (.int .i64)]⟩], [], false, [⟨true, [.int .i64, .int .i64, .int .i64, .int .i64, .int .i64, .int .i64, .lst (.int .i64)]⟩], [], []⟩ (by kernel_rfl) (by kernel_rfl) (fun k => (impl_folded.s k).pf) impl_folded.E (fun k => (EntsOK.cons (impl_ConstOf.sound k) (EntsOK.cons (impl_isBinary.sound k) (EntsOK.cons (impl_foldedBinary.sound k) (EntsOK.cons (impl_isCast.sound k) (EntsOK.cons (impl_TypeOf.sound k) (EntsOK.cons (impl_Casted.sound k) (EntsOK.cons (impl_constant.sound k) (EntsOK.cons (impl_copied.sound k) (EntsOK.cons (impl_isValue.sound k) (EntsOK.cons (impl_ConstOf.sound k) EntsOK.nil))))))))))) (fun k => impl_folded.L) (fun k => trivial) trivial (fun k => trivial) impl_folded.eq
end
end Go.Proofs.YtkfehogikjcgkaaGreat.V
namespace Go.Proofs.YtkfehogikjcgkaaGreat.V
open Go
set_option linter.unusedVariables false
noncomputable section
/-! ### impl.ownInst: function 47 -/
abbrev impl_ownInst.R := (((Int × Int × Int × Int × Int × Int × Unit × Unit) × Unit) × ((List Int) × Unit))
def impl_ownInst.f (k : Nat) (a0 : tInstD) : Option impl_ownInst.R := Option.bind (slices_Clone_int64_int64.f k a0.2.2.2.2.2.2.1) fun r1 => some (((a0.1, a0.2.1, a0.2.2.1, a0.2.2.2.1, a0.2.2.2.2.1, a0.2.2.2.2.2.1, (), ()), ()), (r1.2.1, ()))
def impl_ownInst.s (k : Nat) : FS := ⟨[⟨true, [.int .i64, .int .i64, .int .i64, .int .i64, .int .i64, .int .i64, .lst (.int .i64)]⟩], [], false, [⟨true, [.int .i64, .int .i64, .int .i64, .int .i64, .int .i64, .int .i64, .own 100]⟩], [(100, .row true (.int .i64))], [], fun x => impl_ownInst.f k x.1.1⟩
def impl_ownInst.E (k : Nat) : Ents := [(⟨63, []⟩, slices_Clone_int64_int64.s k)]
def impl_ownInst.L : List (LS impl_ownInst.R) := []
def impl_ownInst.c : Code := Tryz.f47.body.getD .skip
theorem impl_ownInst.eq (k : Nat) (x) : (impl_ownInst.s k).pf x = execF tab (impl_ownInst.E k) Tryz.f47 impl_ownInst.c (impl_ownInst.s k) impl_ownInst.L x := by kernel_rfl
theorem impl_ownInst.sound : ∀ k, Sound Tryz.prog 47 (impl_ownInst.s k) := sound_of mixed tab_ok (f := 47) (fn := Tryz.f47) (c := impl_ownInst.c) (by kernel_rfl) (by kernel_rfl) (by kernel_rfl) ⟨[⟨true, [.int .i64, .int .i64, .int .i64, .int .i64, .int .i64, .int .i64, .lst (.int .i64)]⟩], [], false, [⟨true, [.int .i64, .int .i64, .int .i64, .int .i64, .int .i64, .int .i64, .own 100]⟩], [(100, .row true (.int .i64))], []⟩ (by kernel_rfl) (by kernel_rfl) (fun k => (impl_ownInst.s k).pf) impl_ownInst.E (fun k => (EntsOK.cons (slices_Clone_int64_int64.sound k) EntsOK.nil)) (fun k => impl_ownInst.L) (fun k => trivial) trivial (fun k => trivial) impl_ownInst.eq
end
end Go.Proofs.YtkfehogikjcgkaaGreat.V
namespace Go.Proofs.YtkfehogikjcgkaaGreat.V
open Go
set_option linter.unusedVariables false
noncomputable section
/-! ### impl.FoldedInst: function 18 -/
abbrev impl_FoldedInst.R := (((Int × Int × Int × Int × Int × Int × Unit × Unit) × Unit) × ((List Int) × Unit))
def impl_FoldedInst.f (k : Nat) (a0 : tFuncD) (a1 : tInstD) : Option impl_FoldedInst.R := Option.bind (impl_isFormed.f k a0) fun r1 => bif !r1.1.1.1 then (some (((0, 0, 0, 0, 0, 0, (), ()), ()), (([] : List Int), ()))) else (Option.bind (impl_CountOf.f k a0) fun r2 => Option.bind (impl_isInst.f k a1 r2.1.1.1 3) fun r3 => bif !r3.1.1.1 then (some (((0, 0, 0, 0, 0, 0, (), ()), ()), (([] : List Int), ()))) else (Option.bind (impl_folded.f k a0 a1) fun r4 => Option.bind (impl_ownInst.f k r4.1.1) fun r5 => some (((r5.1.1.1, r5.1.1.2.1, r5.1.1.2.2.1, r5.1.1.2.2.2.1, r5.1.1.2.2.2.2.1, r5.1.1.2.2.2.2.2.1, (), ()), ()), (r5.2.1, ()))))
def impl_FoldedInst.s (k : Nat) : FS := ⟨[⟨true, [.lst (.int .i64), .int .i64, .lst tBlock]⟩, ⟨true, [.int .i64, .int .i64, .int .i64, .int .i64, .int .i64, .int .i64, .lst (.int .i64)]⟩], [], false, [⟨true, [.int .i64, .int .i64, .int .i64, .int .i64, .int .i64, .int .i64, .own 100]⟩], [(100, .row true (.int .i64))], [], fun x => impl_FoldedInst.f k x.1.1 x.1.2.1⟩
def impl_FoldedInst.E (k : Nat) : Ents := [(⟨30, []⟩, impl_isFormed.s k), (⟨46, []⟩, impl_CountOf.s k), (⟨45, []⟩, impl_isInst.s k), (⟨48, []⟩, impl_folded.s k), (⟨47, []⟩, impl_ownInst.s k)]
def impl_FoldedInst.L : List (LS impl_FoldedInst.R) := []
def impl_FoldedInst.c : Code := Tryz.f18.body.getD .skip
theorem impl_FoldedInst.eq (k : Nat) (x) : (impl_FoldedInst.s k).pf x = execF tab (impl_FoldedInst.E k) Tryz.f18 impl_FoldedInst.c (impl_FoldedInst.s k) impl_FoldedInst.L x := by kernel_rfl
theorem impl_FoldedInst.sound : ∀ k, Sound Tryz.prog 18 (impl_FoldedInst.s k) := sound_of mixed tab_ok (f := 18) (fn := Tryz.f18) (c := impl_FoldedInst.c) (by kernel_rfl) (by kernel_rfl) (by kernel_rfl) ⟨[⟨true, [.lst (.int .i64), .int .i64, .lst tBlock]⟩, ⟨true, [.int .i64, .int .i64, .int .i64, .int .i64, .int .i64, .int .i64, .lst (.int .i64)]⟩], [], false, [⟨true, [.int .i64, .int .i64, .int .i64, .int .i64, .int .i64, .int .i64, .own 100]⟩], [(100, .row true (.int .i64))], []⟩ (by kernel_rfl) (by kernel_rfl) (fun k => (impl_FoldedInst.s k).pf) impl_FoldedInst.E (fun k => (EntsOK.cons (impl_isFormed.sound k) (EntsOK.cons (impl_CountOf.sound k) (EntsOK.cons (impl_isInst.sound k) (EntsOK.cons (impl_folded.sound k) (EntsOK.cons (impl_ownInst.sound k) EntsOK.nil)))))) (fun k => impl_FoldedInst.L) (fun k => trivial) trivial (fun k => trivial) impl_FoldedInst.eq
end
end Go.Proofs.YtkfehogikjcgkaaGreat.V
namespace Go.Proofs.YtkfehogikjcgkaaGreat.V
open Go
set_option linter.unusedVariables false
noncomputable section
/-! ### laws.eqInt64S: function 11 -/
abbrev laws_eqInt64S.R := (((Bool × Unit) × Unit) × Unit)
def laws_eqInt64S.l0_ (k : Nat) (l0 : (List Int) → (List Int) → Int → Option laws_eqInt64S.R) (a0 : List Int) (a1 : List Int) (a2 : Int) : Option laws_eqInt64S.R := bif decide (a2 < ((List.length a0 : Nat) : Int)) then (bif (decide (0 ≤ a2)) && (decide (a2 < ((List.length a0 : Nat) : Int))) then (bif (decide (0 ≤ a2)) && (decide (a2 < ((List.length a1 : Nat) : Int))) then (bif !decide (List.getD a0 (Int.toNat a2) 0 = List.getD a1 (Int.toNat a2) 0) then (some (((false, ()), ()), ())) else (l0 a0 a1 (IntKind.wrap .i64 (a2 + 1)))) else none) else none) else (some (((true, ()), ()), ()))
def laws_eqInt64S.all : Nat → ((List Int) → (List Int) → Int → Option laws_eqInt64S.R) × Unit
  | 0 => (fun _ _ _ => none, ())
  | k + 1 => (laws_eqInt64S.l0_ k (laws_eqInt64S.all k).1, ())
def laws_eqInt64S.l0 (k : Nat) : (List Int) → (List Int) → Int → Option laws_eqInt64S.R := (laws_eqInt64S.all k).1
def laws_eqInt64S.f (k : Nat) (a0 : List Int) (a1 : List Int) : Option laws_eqInt64S.R := bif !decide (((List.length a0 : Nat) : Int) = ((List.length a1 : Nat) : Int)) then (some (((false, ()), ()), ())) else (laws_eqInt64S.l0 k a0 a1 0)
def laws_eqInt64S.s (k : Nat) : FS := ⟨[⟨false, [.lst (.int .i64)]⟩, ⟨false, [.lst (.int .i64)]⟩], [], false, [⟨false, [.bool]⟩], [], [], fun x => laws_eqInt64S.f k x.1.1.1 x.1.2.1.1⟩
def laws_eqInt64S.E (k : Nat) : Ents := []
def laws_eqInt64S.L0 (l : (List Int) → (List Int) → Int → Option laws_eqInt64S.R) : LS laws_eqInt64S.R := ⟨[], [(0, ⟨false, [.lst (.int .i64)]⟩), (1, ⟨false, [.lst (.int .i64)]⟩), (5, ⟨false, [.int .i64]⟩)], [], fun x => l x.1.1.1 x.1.2.1.1 x.1.2.2.1.1⟩
def laws_eqInt64S.L (l0 : (List Int) → (List Int) → Int → Option laws_eqInt64S.R) : List (LS laws_eqInt64S.R) := [laws_eqInt64S.L0 l0]
def laws_eqInt64S.c : Code := Tryz.f11.body.getD .skip
theorem laws_eqInt64S.eq (k : Nat) (x) : (laws_eqInt64S.s k).pf x = execF tab (laws_eqInt64S.E k) Tryz.f11 laws_eqInt64S.c (laws_eqInt64S.s k) (laws_eqInt64S.L (laws_eqInt64S.l0 k)) x := by kernel_rfl
theorem laws_eqInt64S.r0 (l0 : (List Int) → (List Int) → Int → Option laws_eqInt64S.R) (k : Nat) (x) : laws_eqInt64S.l0_ k l0 x.1.1.1 x.1.2.1.1 x.1.2.2.1.1 = roundOf tab (laws_eqInt64S.E k) (laws_eqInt64S.L l0) laws_eqInt64S.c (fin tab Tryz.f11 (laws_eqInt64S.s k)) 0 (laws_eqInt64S.L0 l0) x := by kernel_rfl
theorem laws_eqInt64S.sound : ∀ k, Sound Tryz.prog 11 (laws_eqInt64S.s k) := sound_of mixed tab_ok (f := 11) (fn := Tryz.f11) (c := laws_eqInt64S.c) (by kernel_rfl) (by kernel_rfl) (by kernel_rfl) ⟨[⟨false, [.lst (.int .i64)]⟩, ⟨false, [.lst (.int .i64)]⟩], [], false, [⟨false, [.bool]⟩], [], []⟩ (by kernel_rfl) (by kernel_rfl) (fun k => (laws_eqInt64S.s k).pf) laws_eqInt64S.E (fun k => EntsOK.nil) (fun k => laws_eqInt64S.L (laws_eqInt64S.l0 k)) (fun k => ⟨rfl, trivial⟩) ⟨fun _ => rfl, trivial⟩ (fun k => ⟨⟨(laws_eqInt64S.L0 (laws_eqInt64S.l0 (k + 1))).l, rfl, fun x => laws_eqInt64S.r0 (laws_eqInt64S.l0 k) k x⟩, trivial⟩) laws_eqInt64S.eq
end
end Go.Proofs.YtkfehogikjcgkaaGreat.V
namespace Go.Proofs.YtkfehogikjcgkaaGreat.V
open Go
set_option linter.unusedVariables false
noncomputable section
/-! ### laws.eqInst: function 19 -/
abbrev laws_eqInst.R := (((Bool × Unit) × Unit) × Unit)
def laws_eqInst.f (k : Nat) (a0 : tInstD) (a1 : tInstD) : Option laws_eqInst.R := bif !decide (a0.1 = a1.1) then (some (((false, ()), ()), ())) else (bif !decide (a0.2.1 = a1.2.1) then (some (((false, ()), ()), ())) else (bif !decide (a0.2.2.1 = a1.2.2.1) then (some (((false, ()), ()), ())) else (bif !decide (a0.2.2.2.1 = a1.2.2.2.1) then (some (((false, ()), ()), ())) else (bif !decide (a0.2.2.2.2.1 = a1.2.2.2.2.1) then (some (((false, ()), ()), ())) else (bif !decide (a0.2.2.2.2.2.1 = a1.2.2.2.2.2.1) then (some (((false, ()), ()), ())) else (Option.bind (laws_eqInt64S.f k a0.2.2.2.2.2.2.1 a1.2.2.2.2.2.2.1) fun r1 => bif !r1.1.1.1 then (some (((false, ()), ()), ())) else (some (((true, ()), ()), ()))))))))
def laws_eqInst.s (k : Nat) : FS := ⟨[⟨true, [.int .i64, .int .i64, .int .i64, .int .i64, .int .i64, .int .i64, .lst (.int .i64)]⟩, ⟨true, [.int .i64, .int .i64, .int .i64, .int .i64, .int .i64, .int .i64, .lst (.int .i64)]⟩], [], false, [⟨false, [.bool]⟩], [], [], fun x => laws_eqInst.f k x.1.1 x.1.2.1⟩
def laws_eqInst.E (k : Nat) : Ents := [(⟨11, []⟩, laws_eqInt64S.s k)]
def laws_eqInst.L : List (LS laws_eqInst.R) := []
def laws_eqInst.c : Code := Tryz.f19.body.getD .skip
theorem laws_eqInst.eq (k : Nat) (x) : (laws_eqInst.s k).pf x = execF tab (laws_eqInst.E k) Tryz.f19 laws_eqInst.c (laws_eqInst.s k) laws_eqInst.L x := by kernel_rfl
theorem laws_eqInst.sound : ∀ k, Sound Tryz.prog 19 (laws_eqInst.s k) := sound_of mixed tab_ok (f := 19) (fn := Tryz.f19) (c := laws_eqInst.c) (by kernel_rfl) (by kernel_rfl) (by kernel_rfl) ⟨[⟨true, [.int .i64, .int .i64, .int .i64, .int .i64, .int .i64, .int .i64, .lst (.int .i64)]⟩, ⟨true, [.int .i64, .int .i64, .int .i64, .int .i64, .int .i64, .int .i64, .lst (.int .i64)]⟩], [], false, [⟨false, [.bool]⟩], [], []⟩ (by kernel_rfl) (by kernel_rfl) (fun k => (laws_eqInst.s k).pf) laws_eqInst.E (fun k => (EntsOK.cons (laws_eqInt64S.sound k) EntsOK.nil)) (fun k => laws_eqInst.L) (fun k => trivial) trivial (fun k => trivial) laws_eqInst.eq
end
end Go.Proofs.YtkfehogikjcgkaaGreat.V
namespace Go.Proofs.YtkfehogikjcgkaaGreat.V
open Go
set_option linter.unusedVariables false
noncomputable section
/-! ### laws.eqPhi: function 139 -/
abbrev laws_eqPhi.R := (((Bool × Unit) × Unit) × Unit)
def laws_eqPhi.f (k : Nat) (a0 : tPhiD) (a1 : tPhiD) : Option laws_eqPhi.R := bif !decide (a0.1 = a1.1) then (some (((false, ()), ()), ())) else (Option.bind (laws_eqInt64S.f k a0.2.1 a1.2.1) fun r1 => bif !r1.1.1.1 then (some (((false, ()), ()), ())) else (some (((true, ()), ()), ())))
def laws_eqPhi.s (k : Nat) : FS := ⟨[⟨true, [.int .i64, .lst (.int .i64)]⟩, ⟨true, [.int .i64, .lst (.int .i64)]⟩], [], false, [⟨false, [.bool]⟩], [], [], fun x => laws_eqPhi.f k x.1.1 x.1.2.1⟩
def laws_eqPhi.E (k : Nat) : Ents := [(⟨11, []⟩, laws_eqInt64S.s k)]
def laws_eqPhi.L : List (LS laws_eqPhi.R) := []
def laws_eqPhi.c : Code := Tryz.f139.body.getD .skip
theorem laws_eqPhi.eq (k : Nat) (x) : (laws_eqPhi.s k).pf x = execF tab (laws_eqPhi.E k) Tryz.f139 laws_eqPhi.c (laws_eqPhi.s k) laws_eqPhi.L x := by kernel_rfl
theorem laws_eqPhi.sound : ∀ k, Sound Tryz.prog 139 (laws_eqPhi.s k) := sound_of mixed tab_ok (f := 139) (fn := Tryz.f139) (c := laws_eqPhi.c) (by kernel_rfl) (by kernel_rfl) (by kernel_rfl) ⟨[⟨true, [.int .i64, .lst (.int .i64)]⟩, ⟨true, [.int .i64, .lst (.int .i64)]⟩], [], false, [⟨false, [.bool]⟩], [], []⟩ (by kernel_rfl) (by kernel_rfl) (fun k => (laws_eqPhi.s k).pf) laws_eqPhi.E (fun k => (EntsOK.cons (laws_eqInt64S.sound k) EntsOK.nil)) (fun k => laws_eqPhi.L) (fun k => trivial) trivial (fun k => trivial) laws_eqPhi.eq
end
end Go.Proofs.YtkfehogikjcgkaaGreat.V
namespace Go.Proofs.YtkfehogikjcgkaaGreat.V
open Go
set_option linter.unusedVariables false
noncomputable section
/-! ### laws.eqPhiS: function 111 -/
abbrev laws_eqPhiS.R := (((Bool × Unit) × Unit) × Unit)
def laws_eqPhiS.l0_ (k : Nat) (l0 : (List tPhiD) → (List tPhiD) → Int → Option laws_eqPhiS.R) (a0 : List tPhiD) (a1 : List tPhiD) (a2 : Int) : Option laws_eqPhiS.R := bif decide (a2 < ((List.length a0 : Nat) : Int)) then (bif (decide (0 ≤ a2)) && (decide (a2 < ((List.length a0 : Nat) : Int))) then (bif (decide (0 ≤ a2)) && (decide (a2 < ((List.length a1 : Nat) : Int))) then (Option.bind (laws_eqPhi.f k (List.getD a0 (Int.toNat a2) tPhiZ) (List.getD a1 (Int.toNat a2) tPhiZ)) fun r1 => bif !r1.1.1.1 then (some (((false, ()), ()), ())) else (l0 a0 a1 (IntKind.wrap .i64 (a2 + 1)))) else none) else none) else (some (((true, ()), ()), ()))
def laws_eqPhiS.all : Nat → ((List tPhiD) → (List tPhiD) → Int → Option laws_eqPhiS.R) × Unit
  | 0 => (fun _ _ _ => none, ())
  | k + 1 => (laws_eqPhiS.l0_ k (laws_eqPhiS.all k).1, ())
def laws_eqPhiS.l0 (k : Nat) : (List tPhiD) → (List tPhiD) → Int → Option laws_eqPhiS.R := (laws_eqPhiS.all k).1
def laws_eqPhiS.f (k : Nat) (a0 : List tPhiD) (a1 : List tPhiD) : Option laws_eqPhiS.R := bif !decide (((List.length a0 : Nat) : Int) = ((List.length a1 : Nat) : Int)) then (some (((false, ()), ()), ())) else (laws_eqPhiS.l0 k a0 a1 0)
def laws_eqPhiS.s (k : Nat) : FS := ⟨[⟨false, [.lst tPhi]⟩, ⟨false, [.lst tPhi]⟩], [], false, [⟨false, [.bool]⟩], [], [], fun x => laws_eqPhiS.f k x.1.1.1 x.1.2.1.1⟩
def laws_eqPhiS.E (k : Nat) : Ents := [(⟨139, []⟩, laws_eqPhi.s k)]
def laws_eqPhiS.L0 (l : (List tPhiD) → (List tPhiD) → Int → Option laws_eqPhiS.R) : LS laws_eqPhiS.R := ⟨[], [(0, ⟨false, [.lst tPhi]⟩), (1, ⟨false, [.lst tPhi]⟩), (5, ⟨false, [.int .i64]⟩)], [], fun x => l x.1.1.1 x.1.2.1.1 x.1.2.2.1.1⟩
def laws_eqPhiS.L (l0 : (List tPhiD) → (List tPhiD) → Int → Option laws_eqPhiS.R) : List (LS laws_eqPhiS.R) := [laws_eqPhiS.L0 l0]
def laws_eqPhiS.c : Code := Tryz.f111.body.getD .skip
theorem laws_eqPhiS.eq (k : Nat) (x) : (laws_eqPhiS.s k).pf x = execF tab (laws_eqPhiS.E k) Tryz.f111 laws_eqPhiS.c (laws_eqPhiS.s k) (laws_eqPhiS.L (laws_eqPhiS.l0 k)) x := by kernel_rfl
theorem laws_eqPhiS.r0 (l0 : (List tPhiD) → (List tPhiD) → Int → Option laws_eqPhiS.R) (k : Nat) (x) : laws_eqPhiS.l0_ k l0 x.1.1.1 x.1.2.1.1 x.1.2.2.1.1 = roundOf tab (laws_eqPhiS.E k) (laws_eqPhiS.L l0) laws_eqPhiS.c (fin tab Tryz.f111 (laws_eqPhiS.s k)) 0 (laws_eqPhiS.L0 l0) x := by kernel_rfl
theorem laws_eqPhiS.sound : ∀ k, Sound Tryz.prog 111 (laws_eqPhiS.s k) := sound_of mixed tab_ok (f := 111) (fn := Tryz.f111) (c := laws_eqPhiS.c) (by kernel_rfl) (by kernel_rfl) (by kernel_rfl) ⟨[⟨false, [.lst tPhi]⟩, ⟨false, [.lst tPhi]⟩], [], false, [⟨false, [.bool]⟩], [], []⟩ (by kernel_rfl) (by kernel_rfl) (fun k => (laws_eqPhiS.s k).pf) laws_eqPhiS.E (fun k => (EntsOK.cons (laws_eqPhi.sound k) EntsOK.nil)) (fun k => laws_eqPhiS.L (laws_eqPhiS.l0 k)) (fun k => ⟨rfl, trivial⟩) ⟨fun _ => rfl, trivial⟩ (fun k => ⟨⟨(laws_eqPhiS.L0 (laws_eqPhiS.l0 (k + 1))).l, rfl, fun x => laws_eqPhiS.r0 (laws_eqPhiS.l0 k) k x⟩, trivial⟩) laws_eqPhiS.eq
end
end Go.Proofs.YtkfehogikjcgkaaGreat.V
namespace Go.Proofs.YtkfehogikjcgkaaGreat.V
open Go
set_option linter.unusedVariables false
noncomputable section
/-! ### laws.eqInstS: function 112 -/
abbrev laws_eqInstS.R := (((Bool × Unit) × Unit) × Unit)
def laws_eqInstS.l0_ (k : Nat) (l0 : (List tInstD) → (List tInstD) → Int → Option laws_eqInstS.R) (a0 : List tInstD) (a1 : List tInstD) (a2 : Int) : Option laws_eqInstS.R := bif decide (a2 < ((List.length a0 : Nat) : Int)) then (bif (decide (0 ≤ a2)) && (decide (a2 < ((List.length a0 : Nat) : Int))) then (bif (decide (0 ≤ a2)) && (decide (a2 < ((List.length a1 : Nat) : Int))) then (Option.bind (laws_eqInst.f k (List.getD a0 (Int.toNat a2) tInstZ) (List.getD a1 (Int.toNat a2) tInstZ)) fun r1 => bif !r1.1.1.1 then (some (((false, ()), ()), ())) else (l0 a0 a1 (IntKind.wrap .i64 (a2 + 1)))) else none) else none) else (some (((true, ()), ()), ()))
def laws_eqInstS.all : Nat → ((List tInstD) → (List tInstD) → Int → Option laws_eqInstS.R) × Unit
  | 0 => (fun _ _ _ => none, ())
  | k + 1 => (laws_eqInstS.l0_ k (laws_eqInstS.all k).1, ())
def laws_eqInstS.l0 (k : Nat) : (List tInstD) → (List tInstD) → Int → Option laws_eqInstS.R := (laws_eqInstS.all k).1
def laws_eqInstS.f (k : Nat) (a0 : List tInstD) (a1 : List tInstD) : Option laws_eqInstS.R := bif !decide (((List.length a0 : Nat) : Int) = ((List.length a1 : Nat) : Int)) then (some (((false, ()), ()), ())) else (laws_eqInstS.l0 k a0 a1 0)
def laws_eqInstS.s (k : Nat) : FS := ⟨[⟨false, [.lst tInst]⟩, ⟨false, [.lst tInst]⟩], [], false, [⟨false, [.bool]⟩], [], [], fun x => laws_eqInstS.f k x.1.1.1 x.1.2.1.1⟩
def laws_eqInstS.E (k : Nat) : Ents := [(⟨19, []⟩, laws_eqInst.s k)]
def laws_eqInstS.L0 (l : (List tInstD) → (List tInstD) → Int → Option laws_eqInstS.R) : LS laws_eqInstS.R := ⟨[], [(0, ⟨false, [.lst tInst]⟩), (1, ⟨false, [.lst tInst]⟩), (5, ⟨false, [.int .i64]⟩)], [], fun x => l x.1.1.1 x.1.2.1.1 x.1.2.2.1.1⟩
def laws_eqInstS.L (l0 : (List tInstD) → (List tInstD) → Int → Option laws_eqInstS.R) : List (LS laws_eqInstS.R) := [laws_eqInstS.L0 l0]
def laws_eqInstS.c : Code := Tryz.f112.body.getD .skip
theorem laws_eqInstS.eq (k : Nat) (x) : (laws_eqInstS.s k).pf x = execF tab (laws_eqInstS.E k) Tryz.f112 laws_eqInstS.c (laws_eqInstS.s k) (laws_eqInstS.L (laws_eqInstS.l0 k)) x := by kernel_rfl
theorem laws_eqInstS.r0 (l0 : (List tInstD) → (List tInstD) → Int → Option laws_eqInstS.R) (k : Nat) (x) : laws_eqInstS.l0_ k l0 x.1.1.1 x.1.2.1.1 x.1.2.2.1.1 = roundOf tab (laws_eqInstS.E k) (laws_eqInstS.L l0) laws_eqInstS.c (fin tab Tryz.f112 (laws_eqInstS.s k)) 0 (laws_eqInstS.L0 l0) x := by kernel_rfl
theorem laws_eqInstS.sound : ∀ k, Sound Tryz.prog 112 (laws_eqInstS.s k) := sound_of mixed tab_ok (f := 112) (fn := Tryz.f112) (c := laws_eqInstS.c) (by kernel_rfl) (by kernel_rfl) (by kernel_rfl) ⟨[⟨false, [.lst tInst]⟩, ⟨false, [.lst tInst]⟩], [], false, [⟨false, [.bool]⟩], [], []⟩ (by kernel_rfl) (by kernel_rfl) (fun k => (laws_eqInstS.s k).pf) laws_eqInstS.E (fun k => (EntsOK.cons (laws_eqInst.sound k) EntsOK.nil)) (fun k => laws_eqInstS.L (laws_eqInstS.l0 k)) (fun k => ⟨rfl, trivial⟩) ⟨fun _ => rfl, trivial⟩ (fun k => ⟨⟨(laws_eqInstS.L0 (laws_eqInstS.l0 (k + 1))).l, rfl, fun x => laws_eqInstS.r0 (laws_eqInstS.l0 k) k x⟩, trivial⟩) laws_eqInstS.eq
end
end Go.Proofs.YtkfehogikjcgkaaGreat.V
namespace Go.Proofs.YtkfehogikjcgkaaGreat.V
open Go
set_option linter.unusedVariables false
noncomputable section
/-! ### laws.eqTerm: function 113 -/
abbrev laws_eqTerm.R := (((Bool × Unit) × Unit) × Unit)
def laws_eqTerm.f (k : Nat) (a0 : tTermD) (a1 : tTermD) : Option laws_eqTerm.R := bif !decide (a0.1 = a1.1) then (some (((false, ()), ()), ())) else (bif !decide (a0.2.1 = a1.2.1) then (some (((false, ()), ()), ())) else (bif !decide (a0.2.2.1 = a1.2.2.1) then (some (((false, ()), ()), ())) else (bif !decide (a0.2.2.2.1 = a1.2.2.2.1) then (some (((false, ()), ()), ())) else (some (((true, ()), ()), ())))))
def laws_eqTerm.s (k : Nat) : FS := ⟨[⟨true, [.int .i64, .int .i64, .int .i64, .int .i64]⟩, ⟨true, [.int .i64, .int .i64, .int .i64, .int .i64]⟩], [], false, [⟨false, [.bool]⟩], [], [], fun x => laws_eqTerm.f k x.1.1 x.1.2.1⟩
def laws_eqTerm.E (k : Nat) : Ents := []
def laws_eqTerm.L : List (LS laws_eqTerm.R) := []
def laws_eqTerm.c : Code := Tryz.f113.body.getD .skip
theorem laws_eqTerm.eq (k : Nat) (x) : (laws_eqTerm.s k).pf x = execF tab (laws_eqTerm.E k) Tryz.f113 laws_eqTerm.c (laws_eqTerm.s k) laws_eqTerm.L x := by kernel_rfl
theorem laws_eqTerm.sound : ∀ k, Sound Tryz.prog 113 (laws_eqTerm.s k) := sound_of mixed tab_ok (f := 113) (fn := Tryz.f113) (c := laws_eqTerm.c) (by kernel_rfl) (by kernel_rfl) (by kernel_rfl) ⟨[⟨true, [.int .i64, .int .i64, .int .i64, .int .i64]⟩, ⟨true, [.int .i64, .int .i64, .int .i64, .int .i64]⟩], [], false, [⟨false, [.bool]⟩], [], []⟩ (by kernel_rfl) (by kernel_rfl) (fun k => (laws_eqTerm.s k).pf) laws_eqTerm.E (fun k => EntsOK.nil) (fun k => laws_eqTerm.L) (fun k => trivial) trivial (fun k => trivial) laws_eqTerm.eq
end
end Go.Proofs.YtkfehogikjcgkaaGreat.V
namespace Go.Proofs.YtkfehogikjcgkaaGreat.V
open Go
set_option linter.unusedVariables false
noncomputable section
/-! ### laws.eqBlock: function 66 -/
abbrev laws_eqBlock.R := (((Bool × Unit) × Unit) × Unit)
def laws_eqBlock.f (k : Nat) (a0 : tBlockD) (a1 : tBlockD) : Option laws_eqBlock.R := Option.bind (laws_eqPhiS.f k a0.1 a1.1) fun r1 => bif !r1.1.1.1 then (some (((false, ()), ()), ())) else (Option.bind (laws_eqInstS.f k a0.2.1 a1.2.1) fun r2 => bif !r2.1.1.1 then (some (((false, ()), ()), ())) else (Option.bind (laws_eqTerm.f k a0.2.2 a1.2.2) fun r3 => bif !r3.1.1.1 then (some (((false, ()), ()), ())) else (some (((true, ()), ()), ()))))
def laws_eqBlock.s (k : Nat) : FS := ⟨[⟨true, [.lst tPhi, .lst tInst, .int .i64, .int .i64, .int .i64, .int .i64]⟩, ⟨true, [.lst tPhi, .lst tInst, .int .i64, .int .i64, .int .i64, .int .i64]⟩], [], false, [⟨false, [.bool]⟩], [], [], fun x => laws_eqBlock.f k x.1.1 x.1.2.1⟩
def laws_eqBlock.E (k : Nat) : Ents := [(⟨111, []⟩, laws_eqPhiS.s k), (⟨112, []⟩, laws_eqInstS.s k), (⟨113, []⟩, laws_eqTerm.s k)]
def laws_eqBlock.L : List (LS laws_eqBlock.R) := []
def laws_eqBlock.c : Code := Tryz.f66.body.getD .skip
theorem laws_eqBlock.eq (k : Nat) (x) : (laws_eqBlock.s k).pf x = execF tab (laws_eqBlock.E k) Tryz.f66 laws_eqBlock.c (laws_eqBlock.s k) laws_eqBlock.L x := by kernel_rfl
theorem laws_eqBlock.sound : ∀ k, Sound Tryz.prog 66 (laws_eqBlock.s k) := sound_of mixed tab_ok (f := 66) (fn := Tryz.f66) (c := laws_eqBlock.c) (by kernel_rfl) (by kernel_rfl) (by kernel_rfl) ⟨[⟨true, [.lst tPhi, .lst tInst, .int .i64, .int .i64, .int .i64, .int .i64]⟩, ⟨true, [.lst tPhi, .lst tInst, .int .i64, .int .i64, .int .i64, .int .i64]⟩], [], false, [⟨false, [.bool]⟩], [], []⟩ (by kernel_rfl) (by kernel_rfl) (fun k => (laws_eqBlock.s k).pf) laws_eqBlock.E (fun k => (EntsOK.cons (laws_eqPhiS.sound k) (EntsOK.cons (laws_eqInstS.sound k) (EntsOK.cons (laws_eqTerm.sound k) EntsOK.nil)))) (fun k => laws_eqBlock.L) (fun k => trivial) trivial (fun k => trivial) laws_eqBlock.eq
end
end Go.Proofs.YtkfehogikjcgkaaGreat.V
namespace Go.Proofs.YtkfehogikjcgkaaGreat.V
open Go
set_option linter.unusedVariables false
noncomputable section
/-! ### laws.eqBlockS: function 39 -/
abbrev laws_eqBlockS.R := (((Bool × Unit) × Unit) × Unit)
def laws_eqBlockS.l0_ (k : Nat) (l0 : (List tBlockD) → (List tBlockD) → Int → Option laws_eqBlockS.R) (a0 : List tBlockD) (a1 : List tBlockD) (a2 : Int) : Option laws_eqBlockS.R := bif decide (a2 < ((List.length a0 : Nat) : Int)) then (bif (decide (0 ≤ a2)) && (decide (a2 < ((List.length a0 : Nat) : Int))) then (bif (decide (0 ≤ a2)) && (decide (a2 < ((List.length a1 : Nat) : Int))) then (Option.bind (laws_eqBlock.f k (List.getD a0 (Int.toNat a2) tBlockZ) (List.getD a1 (Int.toNat a2) tBlockZ)) fun r1 => bif !r1.1.1.1 then (some (((false, ()), ()), ())) else (l0 a0 a1 (IntKind.wrap .i64 (a2 + 1)))) else none) else none) else (some (((true, ()), ()), ()))
def laws_eqBlockS.all : Nat → ((List tBlockD) → (List tBlockD) → Int → Option laws_eqBlockS.R) × Unit
  | 0 => (fun _ _ _ => none, ())
  | k + 1 => (laws_eqBlockS.l0_ k (laws_eqBlockS.all k).1, ())
def laws_eqBlockS.l0 (k : Nat) : (List tBlockD) → (List tBlockD) → Int → Option laws_eqBlockS.R := (laws_eqBlockS.all k).1
def laws_eqBlockS.f (k : Nat) (a0 : List tBlockD) (a1 : List tBlockD) : Option laws_eqBlockS.R := bif !decide (((List.length a0 : Nat) : Int) = ((List.length a1 : Nat) : Int)) then (some (((false, ()), ()), ())) else (laws_eqBlockS.l0 k a0 a1 0)
def laws_eqBlockS.s (k : Nat) : FS := ⟨[⟨false, [.lst tBlock]⟩, ⟨false, [.lst tBlock]⟩], [], false, [⟨false, [.bool]⟩], [], [], fun x => laws_eqBlockS.f k x.1.1.1 x.1.2.1.1⟩
def laws_eqBlockS.E (k : Nat) : Ents := [(⟨66, []⟩, laws_eqBlock.s k)]
def laws_eqBlockS.L0 (l : (List tBlockD) → (List tBlockD) → Int → Option laws_eqBlockS.R) : LS laws_eqBlockS.R := ⟨[], [(0, ⟨false, [.lst tBlock]⟩), (1, ⟨false, [.lst tBlock]⟩), (5, ⟨false, [.int .i64]⟩)], [], fun x => l x.1.1.1 x.1.2.1.1 x.1.2.2.1.1⟩
def laws_eqBlockS.L (l0 : (List tBlockD) → (List tBlockD) → Int → Option laws_eqBlockS.R) : List (LS laws_eqBlockS.R) := [laws_eqBlockS.L0 l0]
def laws_eqBlockS.c : Code := Tryz.f39.body.getD .skip
theorem laws_eqBlockS.eq (k : Nat) (x) : (laws_eqBlockS.s k).pf x = execF tab (laws_eqBlockS.E k) Tryz.f39 laws_eqBlockS.c (laws_eqBlockS.s k) (laws_eqBlockS.L (laws_eqBlockS.l0 k)) x := by kernel_rfl
theorem laws_eqBlockS.r0 (l0 : (List tBlockD) → (List tBlockD) → Int → Option laws_eqBlockS.R) (k : Nat) (x) : laws_eqBlockS.l0_ k l0 x.1.1.1 x.1.2.1.1 x.1.2.2.1.1 = roundOf tab (laws_eqBlockS.E k) (laws_eqBlockS.L l0) laws_eqBlockS.c (fin tab Tryz.f39 (laws_eqBlockS.s k)) 0 (laws_eqBlockS.L0 l0) x := by kernel_rfl
theorem laws_eqBlockS.sound : ∀ k, Sound Tryz.prog 39 (laws_eqBlockS.s k) := sound_of mixed tab_ok (f := 39) (fn := Tryz.f39) (c := laws_eqBlockS.c) (by kernel_rfl) (by kernel_rfl) (by kernel_rfl) ⟨[⟨false, [.lst tBlock]⟩, ⟨false, [.lst tBlock]⟩], [], false, [⟨false, [.bool]⟩], [], []⟩ (by kernel_rfl) (by kernel_rfl) (fun k => (laws_eqBlockS.s k).pf) laws_eqBlockS.E (fun k => (EntsOK.cons (laws_eqBlock.sound k) EntsOK.nil)) (fun k => laws_eqBlockS.L (laws_eqBlockS.l0 k)) (fun k => ⟨rfl, trivial⟩) ⟨fun _ => rfl, trivial⟩ (fun k => ⟨⟨(laws_eqBlockS.L0 (laws_eqBlockS.l0 (k + 1))).l, rfl, fun x => laws_eqBlockS.r0 (laws_eqBlockS.l0 k) k x⟩, trivial⟩) laws_eqBlockS.eq
end
end Go.Proofs.YtkfehogikjcgkaaGreat.V
namespace Go.Proofs.YtkfehogikjcgkaaGreat.V
open Go
set_option linter.unusedVariables false
noncomputable section
/-! ### laws.eqFunc: function 10 -/
abbrev laws_eqFunc.R := (((Bool × Unit) × Unit) × Unit)
def laws_eqFunc.f (k : Nat) (a0 : tFuncD) (a1 : tFuncD) : Option laws_eqFunc.R := Option.bind (laws_eqInt64S.f k a0.1 a1.1) fun r1 => bif !r1.1.1.1 then (some (((false, ()), ()), ())) else (bif !decide (a0.2.1 = a1.2.1) then (some (((false, ()), ()), ())) else (Option.bind (laws_eqBlockS.f k a0.2.2.1 a1.2.2.1) fun r2 => bif !r2.1.1.1 then (some (((false, ()), ()), ())) else (some (((true, ()), ()), ()))))
def laws_eqFunc.s (k : Nat) : FS := ⟨[⟨true, [.lst (.int .i64), .int .i64, .lst tBlock]⟩, ⟨true, [.lst (.int .i64), .int .i64, .lst tBlock]⟩], [], false, [⟨false, [.bool]⟩], [], [], fun x => laws_eqFunc.f k x.1.1 x.1.2.1⟩
def laws_eqFunc.E (k : Nat) : Ents := [(⟨11, []⟩, laws_eqInt64S.s k), (⟨39, []⟩, laws_eqBlockS.s k)]
def laws_eqFunc.L : List (LS laws_eqFunc.R) := []
def laws_eqFunc.c : Code := Tryz.f10.body.getD .skip
theorem laws_eqFunc.eq (k : Nat) (x) : (laws_eqFunc.s k).pf x = execF tab (laws_eqFunc.E k) Tryz.f10 laws_eqFunc.c (laws_eqFunc.s k) laws_eqFunc.L x := by kernel_rfl
theorem laws_eqFunc.sound : ∀ k, Sound Tryz.prog 10 (laws_eqFunc.s k) := sound_of mixed tab_ok (f := 10) (fn := Tryz.f10) (c := laws_eqFunc.c) (by kernel_rfl) (by kernel_rfl) (by kernel_rfl) ⟨[⟨true, [.lst (.int .i64), .int .i64, .lst tBlock]⟩, ⟨true, [.lst (.int .i64), .int .i64, .lst tBlock]⟩], [], false, [⟨false, [.bool]⟩], [], []⟩ (by kernel_rfl) (by kernel_rfl) (fun k => (laws_eqFunc.s k).pf) laws_eqFunc.E (fun k => (EntsOK.cons (laws_eqInt64S.sound k) (EntsOK.cons (laws_eqBlockS.sound k) EntsOK.nil))) (fun k => laws_eqFunc.L) (fun k => trivial) trivial (fun k => trivial) laws_eqFunc.eq
end
end Go.Proofs.YtkfehogikjcgkaaGreat.V
namespace Go.Proofs.YtkfehogikjcgkaaGreat.V
open Go
set_option linter.unusedVariables false
noncomputable section
/-! ### laws.markInt64S: function 13 -/
abbrev laws_markInt64S.R := (((Int × Unit) × Unit) × ((List Int) × Unit))
def laws_markInt64S.l0_ (k : Nat) (l0 : Int → Int → (List Int) → Option laws_markInt64S.R) (a0 : Int) (a1 : Int) (a2 : List Int) : Option laws_markInt64S.R := bif decide (a1 < ((List.length a2 : Nat) : Int)) then (bif (decide (0 ≤ a1)) && (decide (a1 < ((List.length a2 : Nat) : Int))) then (l0 (IntKind.wrap .i64 (a0 + 1)) (IntKind.wrap .i64 (a1 + 1)) (List.set a2 (Int.toNat a1) a0)) else none) else (some (((a0, ()), ()), (a2, ())))
def laws_markInt64S.all : Nat → (Int → Int → (List Int) → Option laws_markInt64S.R) × Unit
  | 0 => (fun _ _ _ => none, ())
  | k + 1 => (laws_markInt64S.l0_ k (laws_markInt64S.all k).1, ())
def laws_markInt64S.l0 (k : Nat) : Int → Int → (List Int) → Option laws_markInt64S.R := (laws_markInt64S.all k).1
def laws_markInt64S.f (k : Nat) (a0 : Int) (a1 : List Int) : Option laws_markInt64S.R := laws_markInt64S.l0 k a0 0 a1
def laws_markInt64S.s (k : Nat) : FS := ⟨[⟨false, [.own 0]⟩, ⟨false, [.int .i64]⟩], [(0, .row true (.int .i64))], false, [⟨false, [.int .i64]⟩], [(0, .row true (.int .i64))], [0], fun x => laws_markInt64S.f k x.1.2.1.1 x.2.1⟩
def laws_markInt64S.E (k : Nat) : Ents := []
def laws_markInt64S.L0 (l : Int → Int → (List Int) → Option laws_markInt64S.R) : LS laws_markInt64S.R := ⟨[0], [(0, ⟨false, [.own 0]⟩), (1, ⟨false, [.int .i64]⟩), (5, ⟨false, [.int .i64]⟩)], [(0, .row true (.int .i64))], fun x => l x.1.2.1.1 x.1.2.2.1.1 x.2.1⟩
def laws_markInt64S.L (l0 : Int → Int → (List Int) → Option laws_markInt64S.R) : List (LS laws_markInt64S.R) := [laws_markInt64S.L0 l0]
def laws_markInt64S.c : Code := Tryz.f13.body.getD .skip
theorem laws_markInt64S.eq (k : Nat) (x) : (laws_markInt64S.s k).pf x = execF tab (laws_markInt64S.E k) Tryz.f13 laws_markInt64S.c (laws_markInt64S.s k) (laws_markInt64S.L (laws_markInt64S.l0 k)) x := by kernel_rfl
theorem laws_markInt64S.r0 (l0 : Int → Int → (List Int) → Option laws_markInt64S.R) (k : Nat) (x) : laws_markInt64S.l0_ k l0 x.1.2.1.1 x.1.2.2.1.1 x.2.1 = roundOf tab (laws_markInt64S.E k) (laws_markInt64S.L l0) laws_markInt64S.c (fin tab Tryz.f13 (laws_markInt64S.s k)) 0 (laws_markInt64S.L0 l0) x := by kernel_rfl
theorem laws_markInt64S.sound : ∀ k, Sound Tryz.prog 13 (laws_markInt64S.s k) := sound_of mixed tab_ok (f := 13) (fn := Tryz.f13) (c := laws_markInt64S.c) (by kernel_rfl) (by kernel_rfl) (by kernel_rfl) ⟨[⟨false, [.own 0]⟩, ⟨false, [.int .i64]⟩], [(0, .row true (.int .i64))], false, [⟨false, [.int .i64]⟩], [(0, .row true (.int .i64))], [0]⟩ (by kernel_rfl) (by kernel_rfl) (fun k => (laws_markInt64S.s k).pf) laws_markInt64S.E (fun k => EntsOK.nil) (fun k => laws_markInt64S.L (laws_markInt64S.l0 k)) (fun k => ⟨rfl, trivial⟩) ⟨fun _ => rfl, trivial⟩ (fun k => ⟨⟨(laws_markInt64S.L0 (laws_markInt64S.l0 (k + 1))).l, rfl, fun x => laws_markInt64S.r0 (laws_markInt64S.l0 k) k x⟩, trivial⟩) laws_markInt64S.eq
end
end Go.Proofs.YtkfehogikjcgkaaGreat.V
namespace Go.Proofs.YtkfehogikjcgkaaGreat.V
open Go
set_option linter.unusedVariables false
noncomputable section
/-! ### laws.markPhiS: function 67 -/
abbrev laws_markPhiS.R := (((Int × Unit) × Unit) × ((List tPhiD) × Unit))
def laws_markPhiS.l0_ (k : Nat) (l0 : Int → Int → (List tPhiD) → Option laws_markPhiS.R) (a0 : Int) (a1 : Int) (a2 : List tPhiD) : Option laws_markPhiS.R := bif decide (a1 < ((List.length a2 : Nat) : Int)) then (bif (decide (0 ≤ a1)) && (decide (a1 < ((List.length a2 : Nat) : Int))) then (bif (decide (0 ≤ a1)) && (decide (a1 < ((List.length (updAt tPhiZ a2 (Int.toNat a1) (fun q_ => (a0, q_.2))) : Nat) : Int))) then (Option.bind (laws_markInt64S.f k (IntKind.wrap .i64 (a0 + 1)) ((List.getD (updAt tPhiZ a2 (Int.toNat a1) (fun q_ => (a0, q_.2))) (Int.toNat a1) tPhiZ).2.1)) fun r1 => l0 r1.1.1.1 (IntKind.wrap .i64 (a1 + 1)) (updAt tPhiZ (updAt tPhiZ a2 (Int.toNat a1) (fun q_ => (a0, q_.2))) (Int.toNat a1) (fun q_ => (q_.1, r1.2.1, q_.2.2)))) else none) else none) else (some (((a0, ()), ()), (a2, ())))
def laws_markPhiS.all : Nat → (Int → Int → (List tPhiD) → Option laws_markPhiS.R) × Unit
  | 0 => (fun _ _ _ => none, ())
  | k + 1 => (laws_markPhiS.l0_ k (laws_markPhiS.all k).1, ())
def laws_markPhiS.l0 (k : Nat) : Int → Int → (List tPhiD) → Option laws_markPhiS.R := (laws_markPhiS.all k).1
def laws_markPhiS.f (k : Nat) (a0 : Int) (a1 : List tPhiD) : Option laws_markPhiS.R := laws_markPhiS.l0 k a0 0 a1
def laws_markPhiS.s (k : Nat) : FS := ⟨[⟨false, [.own 0]⟩, ⟨false, [.int .i64]⟩], [(0, .row true tPhi)], false, [⟨false, [.int .i64]⟩], [(0, .row true tPhi)], [0], fun x => laws_markPhiS.f k x.1.2.1.1 x.2.1⟩
def laws_markPhiS.E (k : Nat) : Ents := [(⟨13, []⟩, laws_markInt64S.s k)]
def laws_markPhiS.L0 (l : Int → Int → (List tPhiD) → Option laws_markPhiS.R) : LS laws_markPhiS.R := ⟨[0], [(0, ⟨false, [.own 0]⟩), (1, ⟨false, [.int .i64]⟩), (5, ⟨false, [.int .i64]⟩)], [(0, .row true tPhi)], fun x => l x.1.2.1.1 x.1.2.2.1.1 x.2.1⟩
def laws_markPhiS.L (l0 : Int → Int → (List tPhiD) → Option laws_markPhiS.R) : List (LS laws_markPhiS.R) := [laws_markPhiS.L0 l0]
def laws_markPhiS.c : Code := Tryz.f67.body.getD .skip
theorem laws_markPhiS.eq (k : Nat) (x) : (laws_markPhiS.s k).pf x = execF tab (laws_markPhiS.E k) Tryz.f67 laws_markPhiS.c (laws_markPhiS.s k) (laws_markPhiS.L (laws_markPhiS.l0 k)) x := by kernel_rfl
theorem laws_markPhiS.r0 (l0 : Int → Int → (List tPhiD) → Option laws_markPhiS.R) (k : Nat) (x) : laws_markPhiS.l0_ k l0 x.1.2.1.1 x.1.2.2.1.1 x.2.1 = roundOf tab (laws_markPhiS.E k) (laws_markPhiS.L l0) laws_markPhiS.c (fin tab Tryz.f67 (laws_markPhiS.s k)) 0 (laws_markPhiS.L0 l0) x := by kernel_rfl
theorem laws_markPhiS.sound : ∀ k, Sound Tryz.prog 67 (laws_markPhiS.s k) := sound_of mixed tab_ok (f := 67) (fn := Tryz.f67) (c := laws_markPhiS.c) (by kernel_rfl) (by kernel_rfl) (by kernel_rfl) ⟨[⟨false, [.own 0]⟩, ⟨false, [.int .i64]⟩], [(0, .row true tPhi)], false, [⟨false, [.int .i64]⟩], [(0, .row true tPhi)], [0]⟩ (by kernel_rfl) (by kernel_rfl) (fun k => (laws_markPhiS.s k).pf) laws_markPhiS.E (fun k => (EntsOK.cons (laws_markInt64S.sound k) EntsOK.nil)) (fun k => laws_markPhiS.L (laws_markPhiS.l0 k)) (fun k => ⟨rfl, trivial⟩) ⟨fun _ => rfl, trivial⟩ (fun k => ⟨⟨(laws_markPhiS.L0 (laws_markPhiS.l0 (k + 1))).l, rfl, fun x => laws_markPhiS.r0 (laws_markPhiS.l0 k) k x⟩, trivial⟩) laws_markPhiS.eq
end
end Go.Proofs.YtkfehogikjcgkaaGreat.V
namespace Go.Proofs.YtkfehogikjcgkaaGreat.V
open Go
set_option linter.unusedVariables false
noncomputable section
/-! ### laws.markInstS: function 68 -/
abbrev laws_markInstS.R := (((Int × Unit) × Unit) × ((List tInstD) × Unit))
def laws_markInstS.l0_ (k : Nat) (l0 : Int → Int → (List tInstD) → Option laws_markInstS.R) (a0 : Int) (a1 : Int) (a2 : List tInstD) : Option laws_markInstS.R := bif decide (a1 < ((List.length a2 : Nat) : Int)) then (bif (decide (0 ≤ a1)) && (decide (a1 < ((List.length a2 : Nat) : Int))) then (bif (decide (0 ≤ a1)) && (decide (a1 < ((List.length (updAt tInstZ a2 (Int.toNat a1) (fun q_ => (a0, q_.2))) : Nat) : Int))) then (bif (decide (0 ≤ a1)) && (decide (a1 < ((List.length (updAt tInstZ (updAt tInstZ a2 (Int.toNat a1) (fun q_ => (a0, q_.2))) (Int.toNat a1) (fun q_ => (q_.1, IntKind.wrap .i64 (a0 + 1), q_.2.2))) : Nat) : Int))) then (bif (decide (0 ≤ a1)) && (decide (a1 < ((List.length (updAt tInstZ (updAt tInstZ (updAt tInstZ a2 (Int.toNat a1) (fun q_ => (a0, q_.2))) (Int.toNat a1) (fun q_ => (q_.1, IntKind.wrap .i64 (a0 + 1), q_.2.2))) (Int.toNat a1) (fun q_ => (q_.1, q_.2.1, IntKind.wrap .i64 ((IntKind.wrap .i64 (a0 + 1)) + 1), q_.2.2.2))) : Nat) : Int))) then (bif (decide (0 ≤ a1)) && (decide (a1 < ((List.length (updAt tInstZ (updAt tInstZ (updAt tInstZ (updAt tInstZ a2 (Int.toNat a1) (fun q_ => (a0, q_.2))) (Int.toNat a1) (fun q_ => (q_.1, IntKind.wrap .i64 (a0 + 1), q_.2.2))) (Int.toNat a1) (fun q_ => (q_.1, q_.2.1, IntKind.wrap .i64 ((IntKind.wrap .i64 (a0 + 1)) + 1), q_.2.2.2))) (Int.toNat a1) (fun q_ => (q_.1, q_.2.1, q_.2.2.1, IntKind.wrap .i64 ((IntKind.wrap .i64 ((IntKind.wrap .i64 (a0 + 1)) + 1)) + 1), q_.2.2.2.2))) : Nat) : Int))) then (bif (decide (0 ≤ a1)) && (decide (a1 < ((List.length (updAt tInstZ (updAt tInstZ (updAt tInstZ (updAt tInstZ (updAt tInstZ a2 (Int.toNat a1) (fun q_ => (a0, q_.2))) (Int.toNat a1) (fun q_ => (q_.1, IntKind.wrap .i64 (a0 + 1), q_.2.2))) (Int.toNat a1) (fun q_ => (q_.1, q_.2.1, IntKind.wrap .i64 ((IntKind.wrap .i64 (a0 + 1)) + 1), q_.2.2.2))) (Int.toNat a1) (fun q_ => (q_.1, q_.2.1, q_.2.2.1, IntKind.wrap .i64 ((IntKind.wrap .i64 ((IntKind.wrap .i64 (a0 + 1)) + 1)) + 1), q_.2.2.2.2))) (Int.toNat a1) (fun q_ => (q_.1, q_.2.1, q_.2.2.1, q_.2.2.2.1, IntKind.wrap .i64 ((IntKind.wrap .i64 ((IntKind.wrap .i64 ((IntKind.wrap .i64 (a0 + 1)) + 1)) + 1)) + 1), q_.2.2.2.2.2))) : Nat) : Int))) then (bif (decide (0 ≤ a1)) && (decide (a1 < ((List.length (updAt tInstZ (updAt tInstZ (updAt tInstZ (updAt tInstZ (updAt tInstZ (updAt tInstZ a2 (Int.toNat a1) (fun q_ => (a0, q_.2))) (Int.toNat a1) (fun q_ => (q_.1, IntKind.wrap .i64 (a0 + 1), q_.2.2))) (Int.toNat a1) (fun q_ => (q_.1, q_.2.1, IntKind.wrap .i64 ((IntKind.wrap .i64 (a0 + 1)) + 1), q_.2.2.2))) (Int.toNat a1) (fun q_ => (q_.1, q_.2.1, q_.2.2.1, IntKind.wrap .i64 ((IntKind.wrap .i64 ((IntKind.wrap .i64 (a0 + 1)) + 1)) + 1), q_.2.2.2.2))) (Int.toNat a1) (fun q_ => (q_.1, q_.2.1, q_.2.2.1, q_.2.2.2.1, IntKind.wrap .i64 ((IntKind.wrap .i64 ((IntKind.wrap .i64 ((IntKind.wrap .i64 (a0 + 1)) + 1)) + 1)) + 1), q_.2.2.2.2.2))) (Int.toNat a1) (fun q_ => (q_.1, q_.2.1, q_.2.2.1, q_.2.2.2.1, q_.2.2.2.2.1, IntKind.wrap .i64 ((IntKind.wrap .i64 ((IntKind.wrap .i64 ((IntKind.wrap .i64 ((IntKind.wrap .i64 (a0 + 1)) + 1)) + 1)) + 1)) + 1), q_.2.2.2.2.2.2))) : Nat) : Int))) then (Option.bind (laws_markInt64S.f k (IntKind.wrap .i64 ((IntKind.wrap .i64 ((IntKind.wrap .i64 ((IntKind.wrap .i64 ((IntKind.wrap .i64 ((IntKind.wrap .i64 (a0 + 1)) + 1)) + 1)) + 1)) + 1)) + 1)) ((List.getD (updAt tInstZ (updAt tInstZ (updAt tInstZ (updAt tInstZ (updAt tInstZ (updAt tInstZ a2 (Int.toNat a1) (fun q_ => (a0, q_.2))) (Int.toNat a1) (fun q_ => (q_.1, IntKind.wrap .i64 (a0 + 1), q_.2.2))) (Int.toNat a1) (fun q_ => (q_.1, q_.2.1, IntKind.wrap .i64 ((IntKind.wrap .i64 (a0 + 1)) + 1), q_.2.2.2))) (Int.toNat a1) (fun q_ => (q_.1, q_.2.1, q_.2.2.1, IntKind.wrap .i64 ((IntKind.wrap .i64 ((IntKind.wrap .i64 (a0 + 1)) + 1)) + 1), q_.2.2.2.2))) (Int.toNat a1) (fun q_ => (q_.1, q_.2.1, q_.2.2.1, q_.2.2.2.1, IntKind.wrap .i64 ((IntKind.wrap .i64 ((IntKind.wrap .i64 ((IntKind.wrap .i64 (a0 + 1)) + 1)) + 1)) + 1), q_.2.2.2.2.2))) (Int.toNat a1) (fun q_ => (q_.1, q_.2.1, q_.2.2.1, q_.2.2.2.1, q_.2.2.2.2.1, IntKind.wrap .i64 ((IntKind.wrap .i64 ((IntKind.wrap .i64 ((IntKind.wrap .i64 ((IntKind.wrap .i64 (a0 + 1)) + 1)) + 1)) + 1)) + 1), q_.2.2.2.2.2.2))) (Int.toNat a1) tInstZ).2.2.2.2.2.2.1)) fun r1 => l0 r1.1.1.1 (IntKind.wrap .i64 (a1 + 1)) (updAt tInstZ (updAt tInstZ (updAt tInstZ (updAt tInstZ (updAt tInstZ (updAt tInstZ (updAt tInstZ a2 (Int.toNat a1) (fun q_ => (a0, q_.2))) (Int.toNat a1) (fun q_ => (q_.1, IntKind.wrap .i64 (a0 + 1), q_.2.2))) (Int.toNat a1) (fun q_ => (q_.1, q_.2.1, IntKind.wrap .i64 ((IntKind.wrap .i64 (a0 + 1)) + 1), q_.2.2.2))) (Int.toNat a1) (fun q_ => (q_.1, q_.2.1, q_.2.2.1, IntKind.wrap .i64 ((IntKind.wrap .i64 ((IntKind.wrap .i64 (a0 + 1)) + 1)) + 1), q_.2.2.2.2))) (Int.toNat a1) (fun q_ => (q_.1, q_.2.1, q_.2.2.1, q_.2.2.2.1, IntKind.wrap .i64 ((IntKind.wrap .i64 ((IntKind.wrap .i64 ((IntKind.wrap .i64 (a0 + 1)) + 1)) + 1)) + 1), q_.2.2.2.2.2))) (Int.toNat a1) (fun q_ => (q_.1, q_.2.1, q_.2.2.1, q_.2.2.2.1, q_.2.2.2.2.1, IntKind.wrap .i64 ((IntKind.wrap .i64 ((IntKind.wrap .i64 ((IntKind.wrap .i64 ((IntKind.wrap .i64 (a0 + 1)) + 1)) + 1)) + 1)) + 1), q_.2.2.2.2.2.2))) (Int.toNat a1) (fun q_ => (q_.1, q_.2.1, q_.2.2.1, q_.2.2.2.1, q_.2.2.2.2.1, q_.2.2.2.2.2.1, r1.2.1, q_.2.2.2.2.2.2.2)))) else none) else none) else none) else none) else none) else none) else none) else (some (((a0, ()), ()), (a2, ())))
def laws_markInstS.all : Nat → (Int → Int → (List tInstD) → Option laws_markInstS.R) × Unit
  | 0 => (fun _ _ _ => none, ())
  | k + 1 => (laws_markInstS.l0_ k (laws_markInstS.all k).1, ())
def laws_markInstS.l0 (k : Nat) : Int → Int → (List tInstD) → Option laws_markInstS.R := (laws_markInstS.all k).1
def laws_markInstS.f (k : Nat) (a0 : Int) (a1 : List tInstD) : Option laws_markInstS.R := laws_markInstS.l0 k a0 0 a1
def laws_markInstS.s (k : Nat) : FS := ⟨[⟨false, [.own 0]⟩, ⟨false, [.int .i64]⟩], [(0, .row true tInst)], false, [⟨false, [.int .i64]⟩], [(0, .row true tInst)], [0], fun x => laws_markInstS.f k x.1.2.1.1 x.2.1⟩
def laws_markInstS.E (k : Nat) : Ents := [(⟨13, []⟩, laws_markInt64S.s k)]
def laws_markInstS.L0 (l : Int → Int → (List tInstD) → Option laws_markInstS.R) : LS laws_markInstS.R := ⟨[0], [(0, ⟨false, [.own 0]⟩), (1, ⟨false, [.int .i64]⟩), (5, ⟨false, [.int .i64]⟩)], [(0, .row true tInst)], fun x => l x.1.2.1.1 x.1.2.2.1.1 x.2.1⟩
def laws_markInstS.L (l0 : Int → Int → (List tInstD) → Option laws_markInstS.R) : List (LS laws_markInstS.R) := [laws_markInstS.L0 l0]
def laws_markInstS.c : Code := Tryz.f68.body.getD .skip
theorem laws_markInstS.eq (k : Nat) (x) : (laws_markInstS.s k).pf x = execF tab (laws_markInstS.E k) Tryz.f68 laws_markInstS.c (laws_markInstS.s k) (laws_markInstS.L (laws_markInstS.l0 k)) x := by kernel_rfl
theorem laws_markInstS.r0 (l0 : Int → Int → (List tInstD) → Option laws_markInstS.R) (k : Nat) (x) : laws_markInstS.l0_ k l0 x.1.2.1.1 x.1.2.2.1.1 x.2.1 = roundOf tab (laws_markInstS.E k) (laws_markInstS.L l0) laws_markInstS.c (fin tab Tryz.f68 (laws_markInstS.s k)) 0 (laws_markInstS.L0 l0) x := by kernel_rfl
theorem laws_markInstS.sound : ∀ k, Sound Tryz.prog 68 (laws_markInstS.s k) := sound_of mixed tab_ok (f := 68) (fn := Tryz.f68) (c := laws_markInstS.c) (by kernel_rfl) (by kernel_rfl) (by kernel_rfl) ⟨[⟨false, [.own 0]⟩, ⟨false, [.int .i64]⟩], [(0, .row true tInst)], false, [⟨false, [.int .i64]⟩], [(0, .row true tInst)], [0]⟩ (by kernel_rfl) (by kernel_rfl) (fun k => (laws_markInstS.s k).pf) laws_markInstS.E (fun k => (EntsOK.cons (laws_markInt64S.sound k) EntsOK.nil)) (fun k => laws_markInstS.L (laws_markInstS.l0 k)) (fun k => ⟨rfl, trivial⟩) ⟨fun _ => rfl, trivial⟩ (fun k => ⟨⟨(laws_markInstS.L0 (laws_markInstS.l0 (k + 1))).l, rfl, fun x => laws_markInstS.r0 (laws_markInstS.l0 k) k x⟩, trivial⟩) laws_markInstS.eq
end
end Go.Proofs.YtkfehogikjcgkaaGreat.V
namespace Go.Proofs.YtkfehogikjcgkaaGreat.V
open Go
set_option linter.unusedVariables false
noncomputable section
/-! ### laws.markBlockS: function 40 -/
abbrev laws_markBlockS.R := (((Int × Unit) × Unit) × ((List tBlockD) × Unit))
def laws_markBlockS.l0_ (k : Nat) (l0 : Int → Int → (List tBlockD) → Option laws_markBlockS.R) (a0 : Int) (a1 : Int) (a2 : List tBlockD) : Option laws_markBlockS.R := bif decide (a1 < ((List.length a2 : Nat) : Int)) then (bif (decide (0 ≤ a1)) && (decide (a1 < ((List.length a2 : Nat) : Int))) then (Option.bind (laws_markPhiS.f k a0 ((List.getD a2 (Int.toNat a1) tBlockZ).1)) fun r1 => bif (decide (0 ≤ a1)) && (decide (a1 < ((List.length (updAt tBlockZ a2 (Int.toNat a1) (fun q_ => (r1.2.1, q_.2))) : Nat) : Int))) then (Option.bind (laws_markInstS.f k r1.1.1.1 ((List.getD (updAt tBlockZ a2 (Int.toNat a1) (fun q_ => (r1.2.1, q_.2))) (Int.toNat a1) tBlockZ).2.1)) fun r2 => bif (decide (0 ≤ a1)) && (decide (a1 < ((List.length (updAt tBlockZ (updAt tBlockZ a2 (Int.toNat a1) (fun q_ => (r1.2.1, q_.2))) (Int.toNat a1) (fun q_ => (q_.1, r2.2.1, q_.2.2))) : Nat) : Int))) then (bif (decide (0 ≤ a1)) && (decide (a1 < ((List.length (updAt tBlockZ (updAt tBlockZ (updAt tBlockZ a2 (Int.toNat a1) (fun q_ => (r1.2.1, q_.2))) (Int.toNat a1) (fun q_ => (q_.1, r2.2.1, q_.2.2))) (Int.toNat a1) (fun q_ => (q_.1, q_.2.1, r2.1.1.1, q_.2.2.2))) : Nat) : Int))) then (bif (decide (0 ≤ a1)) && (decide (a1 < ((List.length (updAt tBlockZ (updAt tBlockZ (updAt tBlockZ (updAt tBlockZ a2 (Int.toNat a1) (fun q_ => (r1.2.1, q_.2))) (Int.toNat a1) (fun q_ => (q_.1, r2.2.1, q_.2.2))) (Int.toNat a1) (fun q_ => (q_.1, q_.2.1, r2.1.1.1, q_.2.2.2))) (Int.toNat a1) (fun q_ => (q_.1, q_.2.1, q_.2.2.1, IntKind.wrap .i64 (r2.1.1.1 + 1), q_.2.2.2.2))) : Nat) : Int))) then (bif (decide (0 ≤ a1)) && (decide (a1 < ((List.length (updAt tBlockZ (updAt tBlockZ (updAt tBlockZ (updAt tBlockZ (updAt tBlockZ a2 (Int.toNat a1) (fun q_ => (r1.2.1, q_.2))) (Int.toNat a1) (fun q_ => (q_.1, r2.2.1, q_.2.2))) (Int.toNat a1) (fun q_ => (q_.1, q_.2.1, r2.1.1.1, q_.2.2.2))) (Int.toNat a1) (fun q_ => (q_.1, q_.2.1, q_.2.2.1, IntKind.wrap .i64 (r2.1.1.1 + 1), q_.2.2.2.2))) (Int.toNat a1) (fun q_ => (q_.1, q_.2.1, q_.2.2.1, q_.2.2.2.1, IntKind.wrap .i64 ((IntKind.wrap .i64 (r2.1.1.1 + 1)) + 1), q_.2.2.2.2.2))) : Nat) : Int))) then (l0 (IntKind.wrap .i64 ((IntKind.wrap .i64 ((IntKind.wrap .i64 ((IntKind.wrap .i64 (r2.1.1.1 + 1)) + 1)) + 1)) + 1)) (IntKind.wrap .i64 (a1 + 1)) (updAt tBlockZ (updAt tBlockZ (updAt tBlockZ (updAt tBlockZ (updAt tBlockZ (updAt tBlockZ a2 (Int.toNat a1) (fun q_ => (r1.2.1, q_.2))) (Int.toNat a1) (fun q_ => (q_.1, r2.2.1, q_.2.2))) (Int.toNat a1) (fun q_ => (q_.1, q_.2.1, r2.1.1.1, q_.2.2.2))) (Int.toNat a1) (fun q_ => (q_.1, q_.2.1, q_.2.2.1, IntKind.wrap .i64 (r2.1.1.1 + 1), q_.2.2.2.2))) (Int.toNat a1) (fun q_ => (q_.1, q_.2.1, q_.2.2.1, q_.2.2.2.1, IntKind.wrap .i64 ((IntKind.wrap .i64 (r2.1.1.1 + 1)) + 1), q_.2.2.2.2.2))) (Int.toNat a1) (fun q_ => (q_.1, q_.2.1, q_.2.2.1, q_.2.2.2.1, q_.2.2.2.2.1, IntKind.wrap .i64 ((IntKind.wrap .i64 ((IntKind.wrap .i64 (r2.1.1.1 + 1)) + 1)) + 1), q_.2.2.2.2.2.2)))) else none) else none) else none) else none) else none) else none) else (some (((a0, ()), ()), (a2, ())))
def laws_markBlockS.all : Nat → (Int → Int → (List tBlockD) → Option laws_markBlockS.R) × Unit
  | 0 => (fun _ _ _ => none, ())
  | k + 1 => (laws_markBlockS.l0_ k (laws_markBlockS.all k).1, ())
def laws_markBlockS.l0 (k : Nat) : Int → Int → (List tBlockD) → Option laws_markBlockS.R := (laws_markBlockS.all k).1
def laws_markBlockS.f (k : Nat) (a0 : Int) (a1 : List tBlockD) : Option laws_markBlockS.R := laws_markBlockS.l0 k a0 0 a1
def laws_markBlockS.s (k : Nat) : FS := ⟨[⟨false, [.own 0]⟩, ⟨false, [.int .i64]⟩], [(0, .row true tBlock)], false, [⟨false, [.int .i64]⟩], [(0, .row true tBlock)], [0], fun x => laws_markBlockS.f k x.1.2.1.1 x.2.1⟩
def laws_markBlockS.E (k : Nat) : Ents := [(⟨67, []⟩, laws_markPhiS.s k), (⟨68, []⟩, laws_markInstS.s k)]
def laws_markBlockS.L0 (l : Int → Int → (List tBlockD) → Option laws_markBlockS.R) : LS laws_markBlockS.R := ⟨[0], [(0, ⟨false, [.own 0]⟩), (1, ⟨false, [.int .i64]⟩), (5, ⟨false, [.int .i64]⟩)], [(0, .row true tBlock)], fun x => l x.1.2.1.1 x.1.2.2.1.1 x.2.1⟩
def laws_markBlockS.L (l0 : Int → Int → (List tBlockD) → Option laws_markBlockS.R) : List (LS laws_markBlockS.R) := [laws_markBlockS.L0 l0]
def laws_markBlockS.c : Code := Tryz.f40.body.getD .skip
theorem laws_markBlockS.eq (k : Nat) (x) : (laws_markBlockS.s k).pf x = execF tab (laws_markBlockS.E k) Tryz.f40 laws_markBlockS.c (laws_markBlockS.s k) (laws_markBlockS.L (laws_markBlockS.l0 k)) x := by kernel_rfl
theorem laws_markBlockS.r0 (l0 : Int → Int → (List tBlockD) → Option laws_markBlockS.R) (k : Nat) (x) : laws_markBlockS.l0_ k l0 x.1.2.1.1 x.1.2.2.1.1 x.2.1 = roundOf tab (laws_markBlockS.E k) (laws_markBlockS.L l0) laws_markBlockS.c (fin tab Tryz.f40 (laws_markBlockS.s k)) 0 (laws_markBlockS.L0 l0) x := by kernel_rfl
theorem laws_markBlockS.sound : ∀ k, Sound Tryz.prog 40 (laws_markBlockS.s k) := sound_of mixed tab_ok (f := 40) (fn := Tryz.f40) (c := laws_markBlockS.c) (by kernel_rfl) (by kernel_rfl) (by kernel_rfl) ⟨[⟨false, [.own 0]⟩, ⟨false, [.int .i64]⟩], [(0, .row true tBlock)], false, [⟨false, [.int .i64]⟩], [(0, .row true tBlock)], [0]⟩ (by kernel_rfl) (by kernel_rfl) (fun k => (laws_markBlockS.s k).pf) laws_markBlockS.E (fun k => (EntsOK.cons (laws_markPhiS.sound k) (EntsOK.cons (laws_markInstS.sound k) EntsOK.nil))) (fun k => laws_markBlockS.L (laws_markBlockS.l0 k)) (fun k => ⟨rfl, trivial⟩) ⟨fun _ => rfl, trivial⟩ (fun k => ⟨⟨(laws_markBlockS.L0 (laws_markBlockS.l0 (k + 1))).l, rfl, fun x => laws_markBlockS.r0 (laws_markBlockS.l0 k) k x⟩, trivial⟩) laws_markBlockS.eq
end
end Go.Proofs.YtkfehogikjcgkaaGreat.V
namespace Go.Proofs.YtkfehogikjcgkaaGreat.V
open Go
set_option linter.unusedVariables false
noncomputable section
/-! ### laws.markFunc: function 12 -/
abbrev laws_markFunc.R := (((Int × Unit) × Unit) × ((List Int) × (List tBlockD) × Unit))
def laws_markFunc.f (k : Nat) (a0 : Int) (a1 : Int) (a2 : List Int) (a3 : List tBlockD) : Option laws_markFunc.R := Option.bind (laws_markInt64S.f k a1 a2) fun r1 => Option.bind (laws_markBlockS.f k r1.1.1.1 a3) fun r2 => some (((r2.1.1.1, ()), ()), (r1.2.1, r2.2.1, ()))
def laws_markFunc.s (k : Nat) : FS := ⟨[⟨true, [.own 0, .int .i64, .own 1]⟩, ⟨false, [.int .i64]⟩], [(0, .row true (.int .i64)), (1, .row true tBlock)], false, [⟨false, [.int .i64]⟩], [(0, .row true (.int .i64)), (1, .row true tBlock)], [0, 1], fun x => laws_markFunc.f k x.1.1.2.1 x.1.2.1.1 x.2.1 x.2.2.1⟩
def laws_markFunc.E (k : Nat) : Ents := [(⟨13, []⟩, laws_markInt64S.s k), (⟨40, []⟩, laws_markBlockS.s k)]
def laws_markFunc.L : List (LS laws_markFunc.R) := []
def laws_markFunc.c : Code := Tryz.f12.body.getD .skip
theorem laws_markFunc.eq (k : Nat) (x) : (laws_markFunc.s k).pf x = execF tab (laws_markFunc.E k) Tryz.f12 laws_markFunc.c (laws_markFunc.s k) laws_markFunc.L x := by kernel_rfl
theorem laws_markFunc.sound : ∀ k, Sound Tryz.prog 12 (laws_markFunc.s k) := sound_of mixed tab_ok (f := 12) (fn := Tryz.f12) (c := laws_markFunc.c) (by kernel_rfl) (by kernel_rfl) (by kernel_rfl) ⟨[⟨true, [.own 0, .int .i64, .own 1]⟩, ⟨false, [.int .i64]⟩], [(0, .row true (.int .i64)), (1, .row true tBlock)], false, [⟨false, [.int .i64]⟩], [(0, .row true (.int .i64)), (1, .row true tBlock)], [0, 1]⟩ (by kernel_rfl) (by kernel_rfl) (fun k => (laws_markFunc.s k).pf) laws_markFunc.E (fun k => (EntsOK.cons (laws_markInt64S.sound k) (EntsOK.cons (laws_markBlockS.sound k) EntsOK.nil))) (fun k => laws_markFunc.L) (fun k => trivial) trivial (fun k => trivial) laws_markFunc.eq
end
end Go.Proofs.YtkfehogikjcgkaaGreat.V
namespace Go.Proofs.YtkfehogikjcgkaaGreat.V
open Go
set_option linter.unusedVariables false
noncomputable section
/-! ### laws.markInst: function 20 -/
abbrev laws_markInst.R := (((Int × Unit) × Unit) × ((List Int) × Unit))
def laws_markInst.f (k : Nat) (a0 : Int) (a1 : Int) (a2 : Int) (a3 : Int) (a4 : Int) (a5 : Int) (a6 : Int) (a7 : List Int) : Option laws_markInst.R := Option.bind (laws_markInt64S.f k a6 a7) fun r1 => some (((r1.1.1.1, ()), ()), (r1.2.1, ()))
def laws_markInst.s (k : Nat) : FS := ⟨[⟨true, [.int .i64, .int .i64, .int .i64, .int .i64, .int .i64, .int .i64, .own 0]⟩, ⟨false, [.int .i64]⟩], [(0, .row true (.int .i64))], false, [⟨false, [.int .i64]⟩], [(0, .row true (.int .i64))], [0], fun x => laws_markInst.f k x.1.1.1 x.1.1.2.1 x.1.1.2.2.1 x.1.1.2.2.2.1 x.1.1.2.2.2.2.1 x.1.1.2.2.2.2.2.1 x.1.2.1.1 x.2.1⟩
def laws_markInst.E (k : Nat) : Ents := [(⟨13, []⟩, laws_markInt64S.s k)]
def laws_markInst.L : List (LS laws_markInst.R) := []
def laws_markInst.c : Code := Tryz.f20.body.getD .skip
theorem laws_markInst.eq (k : Nat) (x) : (laws_markInst.s k).pf x = execF tab (laws_markInst.E k) Tryz.f20 laws_markInst.c (laws_markInst.s k) laws_markInst.L x := by kernel_rfl
theorem laws_markInst.sound : ∀ k, Sound Tryz.prog 20 (laws_markInst.s k) := sound_of mixed tab_ok (f := 20) (fn := Tryz.f20) (c := laws_markInst.c) (by kernel_rfl) (by kernel_rfl) (by kernel_rfl) ⟨[⟨true, [.int .i64, .int .i64, .int .i64, .int .i64, .int .i64, .int .i64, .own 0]⟩, ⟨false, [.int .i64]⟩], [(0, .row true (.int .i64))], false, [⟨false, [.int .i64]⟩], [(0, .row true (.int .i64))], [0]⟩ (by kernel_rfl) (by kernel_rfl) (fun k => (laws_markInst.s k).pf) laws_markInst.E (fun k => (EntsOK.cons (laws_markInt64S.sound k) EntsOK.nil)) (fun k => laws_markInst.L) (fun k => trivial) trivial (fun k => trivial) laws_markInst.eq
end
end Go.Proofs.YtkfehogikjcgkaaGreat.V
namespace Go.Proofs.YtkfehogikjcgkaaGreat.V
open Go
set_option linter.unusedVariables false
noncomputable section
/-! ### laws.heldInt64S: function 41 -/
abbrev laws_heldInt64S.R := (((Int × Unit) × Unit) × Unit)
def laws_heldInt64S.l0_ (k : Nat) (l0 : (List Int) → Int → Int → Option laws_heldInt64S.R) (a0 : List Int) (a1 : Int) (a2 : Int) : Option laws_heldInt64S.R := bif decide (a2 < ((List.length a0 : Nat) : Int)) then (bif (decide (0 ≤ a2)) && (decide (a2 < ((List.length a0 : Nat) : Int))) then (bif !decide (List.getD a0 (Int.toNat a2) 0 = a1) then (some (((-1, ()), ()), ())) else (l0 a0 (IntKind.wrap .i64 (a1 + 1)) (IntKind.wrap .i64 (a2 + 1)))) else none) else (some (((a1, ()), ()), ()))
def laws_heldInt64S.all : Nat → ((List Int) → Int → Int → Option laws_heldInt64S.R) × Unit
  | 0 => (fun _ _ _ => none, ())
  | k + 1 => (laws_heldInt64S.l0_ k (laws_heldInt64S.all k).1, ())
def laws_heldInt64S.l0 (k : Nat) : (List Int) → Int → Int → Option laws_heldInt64S.R := (laws_heldInt64S.all k).1
def laws_heldInt64S.f (k : Nat) (a0 : List Int) (a1 : Int) : Option laws_heldInt64S.R := laws_heldInt64S.l0 k a0 a1 0
def laws_heldInt64S.s (k : Nat) : FS := ⟨[⟨false, [.lst (.int .i64)]⟩, ⟨false, [.int .i64]⟩], [], false, [⟨false, [.int .i64]⟩], [], [], fun x => laws_heldInt64S.f k x.1.1.1 x.1.2.1.1⟩
def laws_heldInt64S.E (k : Nat) : Ents := []
def laws_heldInt64S.L0 (l : (List Int) → Int → Int → Option laws_heldInt64S.R) : LS laws_heldInt64S.R := ⟨[], [(0, ⟨false, [.lst (.int .i64)]⟩), (1, ⟨false, [.int .i64]⟩), (5, ⟨false, [.int .i64]⟩)], [], fun x => l x.1.1.1 x.1.2.1.1 x.1.2.2.1.1⟩
def laws_heldInt64S.L (l0 : (List Int) → Int → Int → Option laws_heldInt64S.R) : List (LS laws_heldInt64S.R) := [laws_heldInt64S.L0 l0]
def laws_heldInt64S.c : Code := Tryz.f41.body.getD .skip
theorem laws_heldInt64S.eq (k : Nat) (x) : (laws_heldInt64S.s k).pf x = execF tab (laws_heldInt64S.E k) Tryz.f41 laws_heldInt64S.c (laws_heldInt64S.s k) (laws_heldInt64S.L (laws_heldInt64S.l0 k)) x := by kernel_rfl
theorem laws_heldInt64S.r0 (l0 : (List Int) → Int → Int → Option laws_heldInt64S.R) (k : Nat) (x) : laws_heldInt64S.l0_ k l0 x.1.1.1 x.1.2.1.1 x.1.2.2.1.1 = roundOf tab (laws_heldInt64S.E k) (laws_heldInt64S.L l0) laws_heldInt64S.c (fin tab Tryz.f41 (laws_heldInt64S.s k)) 0 (laws_heldInt64S.L0 l0) x := by kernel_rfl
theorem laws_heldInt64S.sound : ∀ k, Sound Tryz.prog 41 (laws_heldInt64S.s k) := sound_of mixed tab_ok (f := 41) (fn := Tryz.f41) (c := laws_heldInt64S.c) (by kernel_rfl) (by kernel_rfl) (by kernel_rfl) ⟨[⟨false, [.lst (.int .i64)]⟩, ⟨false, [.int .i64]⟩], [], false, [⟨false, [.int .i64]⟩], [], []⟩ (by kernel_rfl) (by kernel_rfl) (fun k => (laws_heldInt64S.s k).pf) laws_heldInt64S.E (fun k => EntsOK.nil) (fun k => laws_heldInt64S.L (laws_heldInt64S.l0 k)) (fun k => ⟨rfl, trivial⟩) ⟨fun _ => rfl, trivial⟩ (fun k => ⟨⟨(laws_heldInt64S.L0 (laws_heldInt64S.l0 (k + 1))).l, rfl, fun x => laws_heldInt64S.r0 (laws_heldInt64S.l0 k) k x⟩, trivial⟩) laws_heldInt64S.eq
end
end Go.Proofs.YtkfehogikjcgkaaGreat.V
namespace Go.Proofs.YtkfehogikjcgkaaGreat.V
open Go
set_option linter.unusedVariables false
noncomputable section
/-! ### laws.heldInst: function 21 -/
abbrev laws_heldInst.R := (((Int × Unit) × Unit) × Unit)
def laws_heldInst.f (k : Nat) (a0 : tInstD) (a1 : Int) : Option laws_heldInst.R := Option.bind (laws_heldInt64S.f k a0.2.2.2.2.2.2.1 a1) fun r1 => bif decide (r1.1.1.1 < 0) then (some (((-1, ()), ()), ())) else (some (((r1.1.1.1, ()), ()), ()))
def laws_heldInst.s (k : Nat) : FS := ⟨[⟨true, [.int .i64, .int .i64, .int .i64, .int .i64, .int .i64, .int .i64, .lst (.int .i64)]⟩, ⟨false, [.int .i64]⟩], [], false, [⟨false, [.int .i64]⟩], [], [], fun x => laws_heldInst.f k x.1.1 x.1.2.1.1⟩
def laws_heldInst.E (k : Nat) : Ents := [(⟨41, []⟩, laws_heldInt64S.s k)]
def laws_heldInst.L : List (LS laws_heldInst.R) := []
def laws_heldInst.c : Code := Tryz.f21.body.getD .skip
theorem laws_heldInst.eq (k : Nat) (x) : (laws_heldInst.s k).pf x = execF tab (laws_heldInst.E k) Tryz.f21 laws_heldInst.c (laws_heldInst.s k) laws_heldInst.L x := by kernel_rfl
theorem laws_heldInst.sound : ∀ k, Sound Tryz.prog 21 (laws_heldInst.s k) := sound_of mixed tab_ok (f := 21) (fn := Tryz.f21) (c := laws_heldInst.c) (by kernel_rfl) (by kernel_rfl) (by kernel_rfl) ⟨[⟨true, [.int .i64, .int .i64, .int .i64, .int .i64, .int .i64, .int .i64, .lst (.int .i64)]⟩, ⟨false, [.int .i64]⟩], [], false, [⟨false, [.int .i64]⟩], [], []⟩ (by kernel_rfl) (by kernel_rfl) (fun k => (laws_heldInst.s k).pf) laws_heldInst.E (fun k => (EntsOK.cons (laws_heldInt64S.sound k) EntsOK.nil)) (fun k => laws_heldInst.L) (fun k => trivial) trivial (fun k => trivial) laws_heldInst.eq
end
end Go.Proofs.YtkfehogikjcgkaaGreat.V
namespace Go.Proofs.YtkfehogikjcgkaaGreat.V
open Go
set_option linter.unusedVariables false
noncomputable section
/-! ### laws.FnExactFoldedInst: function 4 -/
abbrev laws_FnExactFoldedInst.R := (((Bool × Unit) × Unit) × Unit)
def laws_FnExactFoldedInst.f (k : Nat) (a0 : tFuncD) (a1 : tInstD) : Option laws_FnExactFoldedInst.R := Option.bind (laws_szFunc.f k a0 1048576) fun r1 => bif decide (r1.1.1.1 < 0) then (some (((true, ()), ()), ())) else (Option.bind (laws_szInst.f k a1 r1.1.1.1) fun r2 => bif decide (r2.1.1.1 < 0) then (some (((true, ()), ()), ())) else (Option.bind (laws_toFunc.f k a0) fun r3 => Option.bind (laws_toInst.f k a1) fun r4 => Option.bind (spec_FoldedInst.f k (r3.2.1, r3.1.1.2.1, r3.2.2.1, ()) (r4.1.1.1, r4.1.1.2.1, r4.1.1.2.2.1, r4.1.1.2.2.2.1, r4.1.1.2.2.2.2.1, r4.1.1.2.2.2.2.2.1, r4.2.1, ())) fun r5 => Option.bind (laws_toFunc.f k a0) fun r6 => Option.bind (laws_toInst.f k a1) fun r7 => Option.bind (impl_FoldedInst.f k (r6.2.1, r6.1.1.2.1, r6.2.2.1, ()) (r7.1.1.1, r7.1.1.2.1, r7.1.1.2.2.1, r7.1.1.2.2.2.1, r7.1.1.2.2.2.2.1, r7.1.1.2.2.2.2.2.1, r7.2.1, ())) fun r8 => Option.bind (laws_eqInst.f k (r8.1.1.1, r8.1.1.2.1, r8.1.1.2.2.1, r8.1.1.2.2.2.1, r8.1.1.2.2.2.2.1, r8.1.1.2.2.2.2.2.1, r8.2.1, ()) (r5.1.1.1, r5.1.1.2.1, r5.1.1.2.2.1, r5.1.1.2.2.2.1, r5.1.1.2.2.2.2.1, r5.1.1.2.2.2.2.2.1, r5.2.1, ())) fun r9 => bif !r9.1.1.1 then (some (((false, ()), ()), ())) else (Option.bind (laws_toFunc.f k a0) fun r10 => Option.bind (laws_eqFunc.f k (r6.2.1, r6.1.1.2.1, r6.2.2.1, ()) (r10.2.1, r10.1.1.2.1, r10.2.2.1, ())) fun r11 => bif !r11.1.1.1 then (some (((false, ()), ()), ())) else (Option.bind (laws_toInst.f k a1) fun r12 => Option.bind (laws_eqInst.f k (r7.1.1.1, r7.1.1.2.1, r7.1.1.2.2.1, r7.1.1.2.2.2.1, r7.1.1.2.2.2.2.1, r7.1.1.2.2.2.2.2.1, r7.2.1, ()) (r12.1.1.1, r12.1.1.2.1, r12.1.1.2.2.1, r12.1.1.2.2.2.1, r12.1.1.2.2.2.2.1, r12.1.1.2.2.2.2.2.1, r12.2.1, ())) fun r13 => bif !r13.1.1.1 then (some (((false, ()), ()), ())) else (Option.bind (laws_markFunc.f k r6.1.1.2.1 1 r6.2.1 r6.2.2.1) fun r14 => Option.bind (laws_markInst.f k r7.1.1.1 r7.1.1.2.1 r7.1.1.2.2.1 r7.1.1.2.2.2.1 r7.1.1.2.2.2.2.1 r7.1.1.2.2.2.2.2.1 r14.1.1.1 r7.2.1) fun r15 => bif decide (r15.1.1.1 < 0) then (some (((false, ()), ()), ())) else (Option.bind (laws_eqInst.f k (r8.1.1.1, r8.1.1.2.1, r8.1.1.2.2.1, r8.1.1.2.2.2.1, r8.1.1.2.2.2.2.1, r8.1.1.2.2.2.2.2.1, r8.2.1, ()) (r5.1.1.1, r5.1.1.2.1, r5.1.1.2.2.1, r5.1.1.2.2.2.1, r5.1.1.2.2.2.2.1, r5.1.1.2.2.2.2.2.1, r5.2.1, ())) fun r16 => bif !r16.1.1.1 then (some (((false, ()), ()), ())) else (Option.bind (laws_markInst.f k r8.1.1.1 r8.1.1.2.1 r8.1.1.2.2.1 r8.1.1.2.2.2.1 r8.1.1.2.2.2.2.1 r8.1.1.2.2.2.2.2.1 1 r8.2.1) fun r17 => Option.bind (laws_heldInst.f k (r8.1.1.1, r8.1.1.2.1, r8.1.1.2.2.1, r8.1.1.2.2.2.1, r8.1.1.2.2.2.2.1, r8.1.1.2.2.2.2.2.1, r17.2.1, ()) 1) fun r18 => bif decide (r18.1.1.1 < 0) then (some (((false, ()), ()), ())) else (bif !decide (r18.1.1.1 = r17.1.1.1) then (some (((false, ()), ()), ())) else (Option.bind (laws_toFunc.f k a0) fun r19 => Option.bind (laws_toInst.f k a1) fun r20 => Option.bind (impl_FoldedInst.f k (r19.2.1, r19.1.1.2.1, r19.2.2.1, ()) (r20.1.1.1, r20.1.1.2.1, r20.1.1.2.2.1, r20.1.1.2.2.2.1, r20.1.1.2.2.2.2.1, r20.1.1.2.2.2.2.2.1, r20.2.1, ())) fun r21 => Option.bind (laws_eqInst.f k (r21.1.1.1, r21.1.1.2.1, r21.1.1.2.2.1, r21.1.1.2.2.2.1, r21.1.1.2.2.2.2.1, r21.1.1.2.2.2.2.2.1, r21.2.1, ()) (r5.1.1.1, r5.1.1.2.1, r5.1.1.2.2.1, r5.1.1.2.2.2.1, r5.1.1.2.2.2.2.1, r5.1.1.2.2.2.2.2.1, r5.2.1, ())) fun r22 => bif !r22.1.1.1 then (some (((false, ()), ()), ())) else (Option.bind (laws_heldInst.f k (r8.1.1.1, r8.1.1.2.1, r8.1.1.2.2.1, r8.1.1.2.2.2.1, r8.1.1.2.2.2.2.1, r8.1.1.2.2.2.2.2.1, r17.2.1, ()) 1) fun r23 => bif decide (r23.1.1.1 < 0) then (some (((false, ()), ()), ())) else (bif !decide (r23.1.1.1 = r17.1.1.1) then (some (((false, ()), ()), ())) else (some (((true, ()), ()), ())))))))))))))
def laws_FnExactFoldedInst.s (k : Nat) : FS := ⟨[⟨true, [.lst (.int .i64), .int .i64, .lst tBlock]⟩, ⟨true, [.int .i64, .int .i64, .int .i64, .int .i64, .int .i64, .int .i64, .lst (.int .i64)]⟩], [], false, [⟨false, [.bool]⟩], [], [], fun x => laws_FnExactFoldedInst.f k x.1.1 x.1.2.1⟩
def laws_FnExactFoldedInst.E (k : Nat) : Ents := [(⟨5, []⟩, laws_szFunc.s k), (⟨15, []⟩, laws_szInst.s k), (⟨7, []⟩, laws_toFunc.s k), (⟨17, []⟩, laws_toInst.s k), (⟨16, []⟩, spec_FoldedInst.s k), (⟨18, []⟩, impl_FoldedInst.s k), (⟨19, []⟩, laws_eqInst.s k), (⟨10, []⟩, laws_eqFunc.s k), (⟨12, []⟩, laws_markFunc.s k), (⟨20, []⟩, laws_markInst.s k), (⟨21, []⟩, laws_heldInst.s k)]
def laws_FnExactFoldedInst.L : List (LS laws_FnExactFoldedInst.R) := []
def laws_FnExactFoldedInst.c : Code := Tryz.f4.body.getD .skip
theorem laws_FnExactFoldedInst.eq (k : Nat) (x) : (laws_FnExactFoldedInst.s k).pf x = execF tab (laws_FnExactFoldedInst.E k) Tryz.f4 laws_FnExactFoldedInst.c (laws_FnExactFoldedInst.s k) laws_FnExactFoldedInst.L x := by kernel_rfl
theorem laws_FnExactFoldedInst.sound : ∀ k, Sound Tryz.prog 4 (laws_FnExactFoldedInst.s k) := sound_of mixed tab_ok (f := 4) (fn := Tryz.f4) (c := laws_FnExactFoldedInst.c) (by kernel_rfl) (by kernel_rfl) (by kernel_rfl) ⟨[⟨true, [.lst (.int .i64), .int .i64, .lst tBlock]⟩, ⟨true, [.int .i64, .int .i64, .int .i64, .int .i64, .int .i64, .int .i64, .lst (.int .i64)]⟩], [], false, [⟨false, [.bool]⟩], [], []⟩ (by kernel_rfl) (by kernel_rfl) (fun k => (laws_FnExactFoldedInst.s k).pf) laws_FnExactFoldedInst.E (fun k => (EntsOK.cons (laws_szFunc.sound k) (EntsOK.cons (laws_szInst.sound k) (EntsOK.cons (laws_toFunc.sound k) (EntsOK.cons (laws_toInst.sound k) (EntsOK.cons (spec_FoldedInst.sound k) (EntsOK.cons (impl_FoldedInst.sound k) (EntsOK.cons (laws_eqInst.sound k) (EntsOK.cons (laws_eqFunc.sound k) (EntsOK.cons (laws_markFunc.sound k) (EntsOK.cons (laws_markInst.sound k) (EntsOK.cons (laws_heldInst.sound k) EntsOK.nil)))))))))))) (fun k => laws_FnExactFoldedInst.L) (fun k => trivial) trivial (fun k => trivial) laws_FnExactFoldedInst.eq
end
end Go.Proofs.YtkfehogikjcgkaaGreat.V
namespace Go.Proofs.YtkfehogikjcgkaaGreat.V
open Go Go.Deep Go.RowKit
set_option linter.unusedVariables false
set_option linter.unusedSimpArgs false
/-- What is known of a datum that was read. -/
def Wf : (t : T) → t.Den → Prop
  | .int k, n => (Lit.int k n).wf = true
  | .bool, _ => True
  | .str, s => ByteArray.size s ≤ 9223372036854775807
  | .list t, xs => List.length (α := t.Den) xs ≤ 9223372036854775807 ∧ ∀ x : t.Den, List.Mem (α := t.Den) x xs → Wf t x
  | .pair a b, x => Wf a (Prod.fst (α := a.Den) (β := b.Den) x) ∧ Wf b (Prod.snd (α := a.Den) (β := b.Den) x)
  | .unit, _ => True
def OpensC (P : Program) (ty : TypeId) (t r : T) : Prop :=
  ∀ (H : Type) (enc : TypeId × Value → H) (w : World) (base : Nat) (spare : Nat → Bool) (held : Bool) (fuel : Nat) (cs : List Value) (x : DataW H × List MemPlace), DataW.trod enc P w base spare held fuel ty cs = some x →
    ∀ (y : r.Den) (us : List Value), Rd (fun b => b < w.heap.size) w r y us → Wf r y → ∃ a : t.Den, Rd (fun b => b < w.heap.size) w t a (cs ++ us) ∧ Wf t a
def Opens (P : Program) (ty : TypeId) (t : T) : Prop :=
  ∀ (H : Type) (enc : TypeId × Value → H) (w : World) (base : Nat) (spare : Nat → Bool) (held : Bool) (fuel : Nat) (cs : List Value) (x : DataW H × List MemPlace), DataW.trod enc P w base spare held fuel ty cs = some x →
    ∃ a : t.Den, Rd (fun b => b < w.heap.size) w t a cs ∧ Wf t a
theorem OpensC.whole {P : Program} {ty : TypeId} {t : T} (h : OpensC P ty t .unit) : Opens P ty t := by
  intro H enc w base spare held fuel cs x hx
  obtain ⟨a, h1, h2⟩ := h H enc w base spare held fuel cs x hx () [] rfl trivial
  rw [List.append_nil] at h1
  exact ⟨a, h1, h2⟩
theorem OpensC.one {P : Program} {ty : TypeId} {e : T} (h : OpensC P ty (.pair e .unit) .unit) : Opens P ty e := by
  intro H enc w base spare held fuel cs x hx
  obtain ⟨a, ⟨us, ws, h0, h1, h2⟩, h3⟩ := h H enc w base spare held fuel cs x hx () [] rfl trivial
  simp only [Rd] at h2
  subst h2
  simp only [List.append_nil] at h0
  subst h0
  exact ⟨_, h1, h3.1⟩
theorem OpensC.leaf {P : Program} {ty : TypeId} {e r : T} (h : Opens P ty e) : OpensC P ty (.pair e r) r := by
  intro H enc w base spare held fuel cs x hx y us hy hw
  obtain ⟨a, h1, h2⟩ := h H enc w base spare held fuel cs x hx
  exact ⟨(a, y), ⟨cs, us, rfl, h1, hy⟩, h2, hw⟩
theorem opens_list {P : Program} {ty el : TypeId} {e : T} (hu : P.underlying ty = some (.slice el)) (hc : P.cellsOf el = e.sz) (h1 : 1 ≤ e.sz) (h : Opens P el e) : Opens P ty (.list e) := by
  intro H enc w base spare held fuel cs x hx
  rcases open_slice hu hx with ⟨rfl, -⟩ | ⟨a, len, cap, m, n, D, Pl, rfl, hb, hl, hm, hmm, -, hel⟩
  · exact ⟨([] : List e.Den), ⟨none, 0, rfl, Nat.le_refl _, fun h => absurd rfl h⟩, Nat.zero_le _, fun _ h => (List.not_mem_nil h).elim⟩
  · have hlm : len ≤ m := by rw [hmm]; split <;> omega
    have hspot : len ≠ 0 → a.spot = none ∧ a.block < w.heap.size := by
      intro hn
      obtain ⟨cs', c1, c2⟩ := hel 0 (by omega)
      obtain ⟨-, l1, l2⟩ := World.cells?_some c1
      rw [hc] at l1 l2
      have h0 := l2 0 (by omega)
      simp only [Nat.zero_mul, Addr.add, if_true] at h0
      rw [List.getElem?_eq_getElem (by omega)] at h0
      unfold World.cell? at h0
      split at h0
      · rename_i hh
        refine ⟨?_, (Array.getElem?_eq_some_iff.1 hh).1⟩
        split at h0
        · cases h0
        · rename_i hs
          simpa using hs
      · cases h0
    have hadd : len ≠ 0 → ∀ n, a.add n = ⟨a.block, a.off + n, none⟩ := by
      intro hn n
      have hs := (hspot hn).1
      unfold Addr.add
      split
      · rename_i h0
        subst h0
        cases a
        simp only at hs
        subst hs
        rfl
      · rfl
    have each : ∀ n, n ≤ len → ∃ (xs : List e.Den) (us : List Value), xs.length = n ∧ (∀ x ∈ xs, Wf e x) ∧ At w a.block a.off us ∧ ELs (Rd (fun b => b < w.heap.size) w e) e.sz xs us := by
      intro n
      induction n with
      | zero => exact fun _ => ⟨[], [], rfl, fun _ h => (List.not_mem_nil h).elim, fun j v hj => by simp at hj, rfl⟩
      | succ n ih =>
        intro hn
        obtain ⟨xs, us, i1, i2, i4, i5⟩ := ih (by omega)
        obtain ⟨cs', c1, c2⟩ := hel n (by omega)
        obtain ⟨y, y1, y2⟩ := h H enc w base spare held _ cs' _ c2
        obtain ⟨-, l1, l2⟩ := World.cells?_some c1
        rw [hc] at l1 l2
        have hcell : ∀ j, j < e.sz → w.cell? ⟨a.block, a.off + (n * e.sz + j), none⟩ = cs'[j]? := by
          intro j hj
          have := l2 j hj
          rw [Deep.add_add, hadd (by omega)] at this
          exact this
        refine ⟨xs ++ [y], us ++ cs', by simp [i1], fun x hx => ?_, fun j v hj => ?_, ?_⟩
        · rcases List.mem_append.1 hx with hx | hx
          · exact i2 x hx
          · simp only [List.mem_singleton] at hx; subst hx; exact y2
        · have hul : us.length = n * e.sz := by have := i5.length; rw [i1] at this; exact this
          rcases Nat.lt_or_ge j us.length with hlt | hge
          · rw [List.getElem?_append_left hlt] at hj
            exact i4 j v hj
          · rw [List.getElem?_append_right hge] at hj
            have hlt := (List.getElem?_eq_some_iff.1 hj).1
            have := hcell (j - us.length) (by omega)
            rw [hj, show a.off + (n * e.sz + (j - us.length)) = a.off + j by omega] at this
            exact this
        · refine i5.app ⟨cs', [], by simp, l1, y1, rfl⟩
    obtain ⟨xs, us, i1, i2, i4, i5⟩ := each len (Nat.le_refl _)
    refine ⟨xs, ⟨some a, cap, by rw [i1], by omega, fun hne => ?_⟩, ?_, i2⟩
    · have hn : len ≠ 0 := fun h0 => hne (List.length_eq_zero_iff.1 (by omega))
      obtain ⟨s1, s2⟩ := hspot hn
      refine ⟨a.block, a.off, us, ?_, s2, i4, i5⟩
      cases a
      simp only at s1
      subst s1
      rfl
    · have : cap ≤ maxLen := hm
      unfold maxLen at this
      show xs.length ≤ _
      omega
theorem opens_int {P : Program} {t : TypeId} {k : IntKind} (hu : P.underlying t = some (.int k)) : Opens P t (.int k) := by
  intro H enc w base spare held fuel cs x h
  obtain ⟨n, rfl, -, hw⟩ := DataW.trod_int hu h
  exact ⟨n, rfl, hw⟩
/-- Fields from place o on, of m cells. -/
def OpensF (P : Program) (o m : Nat) (fs : List Field) (t r : T) : Prop :=
  ∀ (H : Type) (enc : TypeId × Value → H) (w : World) (base : Nat) (spare : Nat → Bool) (held : Bool) (fuel : Nat) (cs : List Value),
    (∀ f ∈ fs, ∃ x, DataW.trod enc P w base spare held fuel f.type ((cs.drop f.offset).take (P.cellsOf f.type)) = some x) → cs.length = o + m →
    ∀ (y : r.Den) (us : List Value), Rd (fun b => b < w.heap.size) w r y us → Wf r y → ∃ a : t.Den, Rd (fun b => b < w.heap.size) w t a (cs.drop o ++ us) ∧ Wf t a
theorem opensF_nil {P : Program} {o : Nat} {t : T} : OpensF P o 0 [] t t := by
  intro H enc w base spare held fuel cs h hl y us hy hw
  refine ⟨y, ?_, hw⟩
  rw [List.drop_eq_nil_of_le (by omega), List.nil_append]
  exact hy
theorem opensF_cons {P : Program} {o m n : Nat} {f : Field} {fs : List Field} {t t1 r : T} (ho : f.offset = o) (hc : P.cellsOf f.type = m) (hd : OpensC P f.type t t1) (hs : OpensF P (o + m) n fs t1 r) : OpensF P o (m + n) (f :: fs) t r := by
  intro H enc w base spare held fuel cs h hl y us hy hw
  obtain ⟨x, hx⟩ := h f (by simp)
  obtain ⟨a1, q1, q2⟩ := hs H enc w base spare held fuel cs (fun f hf => h f (by simp [hf])) (by omega) y us hy hw
  rw [ho, hc] at hx
  obtain ⟨a, q3, q4⟩ := hd H enc w base spare held fuel _ _ hx a1 _ q1 q2
  refine ⟨a, ?_, q4⟩
  rw [← List.append_assoc, ← List.drop_drop, List.take_append_drop] at q3
  exact q3
theorem opensC_struct {P : Program} {ty : TypeId} {fs : Array Field} {m : Nat} {t r : T} (hu : P.underlying ty = some (.struct fs)) (hc : P.cellsOf ty = m) (hd : OpensF P 0 m fs.toList t r) : OpensC P ty t r := by
  intro H enc w base spare held fuel cs x h y us hy hw
  obtain ⟨xs, n, -, -, hl, hxs, hf⟩ := DataW.trod_struct hu h
  have := hd H enc w base spare held n cs (fun f hm => by
    obtain ⟨i, hi, rfl⟩ := List.getElem_of_mem hm
    have hi' : i < fs.size := by simpa using hi
    have := hf i fs[i] (by simp [hi'])
    rw [List.getElem?_eq_getElem (by omega)] at this
    exact ⟨_, by simpa using this⟩) (by rw [hl, hc, Nat.zero_add]) y us hy hw
  simpa using this
/-! ### a law -/
def gh0 (W : World) : Gh := ⟨fun _ => none, fun _ => none, fun b => b < W.heap.size⟩
theorem rval_struct {W : World} {t : T} {a : t.Den} {cs : Array Value} (h : Rd (fun b => b < W.heap.size) W t a cs.toList) : RVal (gh0 W) [] W true (cellsOf t a) (.agg cs) :=
  ⟨cs, rfl, rcs_cells (g := gh0 W) h⟩
theorem law_calls {P : Program} {f : FuncId} {ins : List VS} {pf : DenV ins × DenO [] → Option (DenV [⟨false, [.bool]⟩] × DenO [])} (hs : Sound P f ⟨ins, [], false, [⟨false, [.bool]⟩], [], [], pf⟩) {x : DenV ins} (hx : pf (x, ()) = some (((true, ()), ()), ())) {W : World} {args : Array Value}
    (h : RVals (gh0 W) [] W (instV ins x) args.toList) : Calls P f args W fun e W' => e = .returned (.bool true) ∧ Below W.heap.size W W' := by
  have hG : RelG (gh0 W) [] W := ⟨fun o ob h => (by cases h), fun b o h => (by cases h), fun b h => h⟩
  refine (hs.2 (x, ()) (((true, ()), ()), ()) hx (gh0 W) W args hG h).mono fun e W' he => ?_
  cases e with
  | returned v =>
    obtain ⟨g', O⟩ := he
    have hv : RVal g' [] W' false [.bool true] v := O.val
    obtain ⟨u, us, e, h1, h2⟩ := hv
    obtain ⟨rfl, rfl⟩ : u = v ∧ us = [] := by simpa using e.symm
    have h3 : u = .bool true := h1.2
    refine ⟨by rw [h3], O.ext.os, O.ext.tape, O.ext.output, O.ext.size, fun k hk => O.ext.block k hk (by simp [gh0])⟩
  | panicked c => exact he.elim
  | outgrown => exact he.elim
end Go.Proofs.YtkfehogikjcgkaaGreat.V
namespace Go.Proofs.YtkfehogikjcgkaaGreat.V
open Go
set_option linter.unusedVariables false
theorem opensC136 (r : T) : OpensC Tryz.prog 136 (.pair (.int .i64) (.pair (.list (.int .i64)) r)) r := opensC_struct Tryz.underlying136 (by kernel_rfl) (opensF_cons (o := 0) (m := 1) (n := 1) rfl (by kernel_rfl) (OpensC.leaf (opens_int Tryz.underlying2)) (opensF_cons (o := 1) (m := 1) (n := 0) rfl (by kernel_rfl) (OpensC.leaf (opens_list Tryz.underlying22 (by kernel_rfl) (by decide) (opens_int Tryz.underlying2))) opensF_nil))
theorem opensC40 (r : T) : OpensC Tryz.prog 40 (.pair (.int .i64) (.pair (.int .i64) (.pair (.int .i64) (.pair (.int .i64) (.pair (.int .i64) (.pair (.int .i64) (.pair (.list (.int .i64)) r))))))) r := opensC_struct Tryz.underlying40 (by kernel_rfl) (opensF_cons (o := 0) (m := 1) (n := 6) rfl (by kernel_rfl) (OpensC.leaf (opens_int Tryz.underlying2)) (opensF_cons (o := 1) (m := 1) (n := 5) rfl (by kernel_rfl) (OpensC.leaf (opens_int Tryz.underlying2)) (opensF_cons (o := 2) (m := 1) (n := 4) rfl (by kernel_rfl) (OpensC.leaf (opens_int Tryz.underlying2)) (opensF_cons (o := 3) (m := 1) (n := 3) rfl (by kernel_rfl) (OpensC.leaf (opens_int Tryz.underlying2)) (opensF_cons (o := 4) (m := 1) (n := 2) rfl (by kernel_rfl) (OpensC.leaf (opens_int Tryz.underlying2)) (opensF_cons (o := 5) (m := 1) (n := 1) rfl (by kernel_rfl) (OpensC.leaf (opens_int Tryz.underlying2)) (opensF_cons (o := 6) (m := 1) (n := 0) rfl (by kernel_rfl) (OpensC.leaf (opens_list Tryz.underlying22 (by kernel_rfl) (by decide) (opens_int Tryz.underlying2))) opensF_nil)))))))
theorem opensC78 (r : T) : OpensC Tryz.prog 78 (.pair (.int .i64) (.pair (.int .i64) (.pair (.int .i64) (.pair (.int .i64) r)))) r := opensC_struct Tryz.underlying78 (by kernel_rfl) (opensF_cons (o := 0) (m := 1) (n := 3) rfl (by kernel_rfl) (OpensC.leaf (opens_int Tryz.underlying2)) (opensF_cons (o := 1) (m := 1) (n := 2) rfl (by kernel_rfl) (OpensC.leaf (opens_int Tryz.underlying2)) (opensF_cons (o := 2) (m := 1) (n := 1) rfl (by kernel_rfl) (OpensC.leaf (opens_int Tryz.underlying2)) (opensF_cons (o := 3) (m := 1) (n := 0) rfl (by kernel_rfl) (OpensC.leaf (opens_int Tryz.underlying2)) opensF_nil))))
theorem opensC80 (r : T) : OpensC Tryz.prog 80 (.pair (.list tPhi) (.pair (.list tInst) (.pair (.int .i64) (.pair (.int .i64) (.pair (.int .i64) (.pair (.int .i64) r)))))) r := opensC_struct Tryz.underlying80 (by kernel_rfl) (opensF_cons (o := 0) (m := 1) (n := 5) rfl (by kernel_rfl) (OpensC.leaf (opens_list Tryz.underlying76 (by kernel_rfl) (by decide) (OpensC.whole (opensC136 _)))) (opensF_cons (o := 1) (m := 1) (n := 4) rfl (by kernel_rfl) (OpensC.leaf (opens_list Tryz.underlying77 (by kernel_rfl) (by decide) (OpensC.whole (opensC40 _)))) (opensF_cons (o := 2) (m := 4) (n := 0) rfl (by kernel_rfl) (opensC78 _) opensF_nil)))
theorem opensC25 (r : T) : OpensC Tryz.prog 25 (.pair (.list (.int .i64)) (.pair (.int .i64) (.pair (.list tBlock) r))) r := opensC_struct Tryz.underlying25 (by kernel_rfl) (opensF_cons (o := 0) (m := 1) (n := 2) rfl (by kernel_rfl) (OpensC.leaf (opens_list Tryz.underlying22 (by kernel_rfl) (by decide) (opens_int Tryz.underlying2))) (opensF_cons (o := 1) (m := 1) (n := 1) rfl (by kernel_rfl) (OpensC.leaf (opens_int Tryz.underlying2)) (opensF_cons (o := 2) (m := 1) (n := 0) rfl (by kernel_rfl) (OpensC.leaf (opens_list Tryz.underlying23 (by kernel_rfl) (by decide) (OpensC.whole (opensC80 _)))) opensF_nil)))
end Go.Proofs.YtkfehogikjcgkaaGreat.V
namespace Go.Proofs.YtkfehogikjcgkaaGreat.V
open Go
set_option linter.unusedVariables false
set_option linter.unusedSimpArgs false
def Ev {R : Type} (g : Nat → Option R) (r : R) : Prop := ∃ n, ∀ k, n ≤ k → g k = some r
abbrev one {α : Type} (x : α) : ((α × Unit) × Unit) × Unit := (((x, ()), ()), ())
abbrev rowR {α : Type} (xs : α) : ((Unit × Unit) × Unit) × (α × Unit) := ((((), ()), ()), (xs, ()))
section
variable {R S : Type}
theorem Ev.cst {o : Option R} {r : R} (h : o = some r) : Ev (fun _ => o) r := ⟨0, fun _ _ => h⟩
theorem Ev.all {g : Nat → Option R} {r : R} (h : ∀ k, g k = some r) : Ev g r := ⟨0, fun k _ => h k⟩
theorem Ev.congr {g g' : Nat → Option R} {r : R} (h : Ev g' r) (e : ∀ k, g k = g' k) : Ev g r := by
  obtain ⟨n, h⟩ := h
  exact ⟨n, fun k hk => by rw [e, h k hk]⟩
theorem Ev.step {g g' : Nat → Option R} {r : R} (h : Ev g' r) (e : ∀ k, g (k + 1) = g' k) : Ev g r := by
  obtain ⟨n, h⟩ := h
  refine ⟨n + 1, fun k hk => ?_⟩
  obtain ⟨k, rfl⟩ : ∃ j, k = j + 1 := ⟨k - 1, by omega⟩
  rw [e, h k (by omega)]
theorem Ev.bind {g : Nat → Option S} {f : Nat → S → Option R} {a : S} {r : R} (h : Ev g a) (k : Ev (fun n => f n a) r) : Ev (fun n => Option.bind (g n) (f n)) r := by
  obtain ⟨n, h⟩ := h
  obtain ⟨m, k⟩ := k
  exact ⟨max n m, fun j hj => by show Option.bind (g j) (f j) = some r; rw [h j (by omega), Option.bind_some]; exact k j (by omega)⟩
theorem Ev.rw {g : Nat → Option R} {r s : R} (h : Ev g r) (e : r = s) : Ev g s := e ▸ h
theorem Ev.pos {c : Bool} {f g : Nat → Option R} {r : R} (hc : c = true) (h : Ev f r) : Ev (fun k => bif c then f k else g k) r := h.congr fun k => by rw [hc]; rfl
theorem Ev.neg {c : Bool} {f g : Nat → Option R} {r : R} (hc : c = false) (h : Ev g r) : Ev (fun k => bif c then f k else g k) r := h.congr fun k => by rw [hc]; rfl
theorem Ev.ex {g : Nat → Option R} {r : R} (h : Ev g r) : ∃ k, g k = some r := by
  obtain ⟨n, h⟩ := h
  exact ⟨n, h n (Nat.le_refl _)⟩
end
def W (x : Int) : Int := IntKind.wrap .i64 x
theorem wrap_id {x : Int} (h0 : -9223372036854775808 ≤ x) (h1 : x ≤ 9223372036854775807) : IntKind.wrap .i64 x = x := by
  have e : IntKind.wrap .i64 x = if (true && decide (x % 18446744073709551616 ≥ 9223372036854775808)) = true then x % 18446744073709551616 - 18446744073709551616 else x % 18446744073709551616 := rfl
  rw [e]
  simp only [Bool.true_and, decide_eq_true_eq]
  split <;> omega
theorem wrap_nat {i : Nat} (h : i < 9223372036854775807) : IntKind.wrap .i64 ((i : Int) + 1) = ((i + 1 : Nat) : Int) := by
  rw [wrap_id (by omega) (by omega)]; omega
theorem getD_at {α : Type} (l : List α) (z : α) (j : Nat) (h : j < l.length) : l.getD j z = l[j] := by simp [List.getD, List.getElem?_eq_getElem h]
theorem dpos {c : Prop} [Decidable c] (h : c) : decide c = true := by simp [h]
theorem dneg {c : Prop} [Decidable c] (h : ¬ c) : decide c = false := by simp [h]
theorem Ev.dp {R : Type} {p : Prop} [Decidable p] {f g : Nat → Option R} {r : R} (h : p) (e : Ev f r) : Ev (fun k => bif decide p then f k else g k) r := Ev.pos (dpos h) e
theorem Ev.dn {R : Type} {p : Prop} [Decidable p] {f g : Nat → Option R} {r : R} (h : ¬ p) (e : Ev g r) : Ev (fun k => bif decide p then f k else g k) r := Ev.neg (dneg h) e
theorem Ev.dd {R : Type} {p q : Prop} [Decidable p] [Decidable q] {f g : Nat → Option R} {r : R} (h : p) (h' : q) (e : Ev f r) : Ev (fun k => bif decide p && decide q then f k else g k) r := Ev.pos (by rw [dpos h, dpos h']; rfl) e
theorem Ev.succ {R : Type} {g : Nat → Option R} {r : R} (h : Ev (fun k => g (k + 1)) r) : Ev g r := Ev.step h fun _ => rfl
/-- A loop over places 0 .. n, backwards. -/
theorem Ev.down {R : Type} {G : Nat → Nat → Option R} {V : Nat → R} (n : Nat) (hend : Ev (G n) (V n)) (hstep : ∀ i, i < n → Ev (G (i + 1)) (V (i + 1)) → Ev (G i) (V i)) : ∀ i, i ≤ n → Ev (G i) (V i) := by
  intro i hi
  obtain ⟨d, rfl⟩ : ∃ d, i = n - d := ⟨n - i, by omega⟩
  clear hi
  induction d with
  | zero => exact hend
  | succ d ih =>
    by_cases h : d < n
    · have e : n - (d + 1) + 1 = n - d := by omega
      exact hstep (n - (d + 1)) (by omega) (by rw [e]; exact ih)
    · have e : n - (d + 1) = n - d := by omega
      rw [e]; exact ih
section
variable {α R : Type} {z : α} {l : List α}
/-- What a loop's head asks: is the place one of the list? -/
theorem head_in {i : Nat} (h : i < l.length) : (decide ((i : Int) < (l.length : Int))) = true := dpos (by omega)
theorem head_0 {i : Nat} : (decide (0 ≤ (i : Int))) = true := dpos (by omega)
theorem head_end : (decide ((l.length : Int) < (l.length : Int))) = false := dneg (by omega)
theorem get_in {i : Nat} (h : i < l.length) : l.getD (Int.toNat (i : Int)) z = l[i] := by rw [Int.toNat_natCast]; exact getD_at l z i h
/-- The loops that ask something of each element. -/
theorem each_ev {L : Nat → Int → Option R} {q : Nat → α → (Nat → Option R) → Option R} {tail : Nat → Option R} {V : List α → R} (hlen : l.length ≤ 9223372036854775807)
    (hL : ∀ k a, L (k + 1) a = bif decide (a < (l.length : Int)) then (bif decide (0 ≤ a) && decide (a < (l.length : Int)) then q k (l.getD a.toNat z) (fun j => L j (IntKind.wrap .i64 (a + 1))) else none) else tail k)
    (hend : Ev tail (V [])) (hstep : ∀ x m (g : Nat → Option R), x ∈ l → Ev g (V m) → Ev (fun k => q k x g) (V (x :: m))) : Ev (fun k => L k 0) (V l) := by
  have := Ev.down (G := fun i k => L k (i : Int)) (V := fun i => V (l.drop i)) l.length ?_ ?_ 0 (Nat.zero_le _)
  · exact this
  · rw [List.drop_length]
    refine hend.step fun k => ?_
    rw [hL, head_end]; rfl
  · intro i hi ih
    rw [List.drop_eq_getElem_cons hi]
    refine (hstep l[i] (l.drop (i + 1)) (fun j => L j (((i + 1 : Nat)) : Int)) (List.getElem_mem hi) ih).step fun k => ?_
    show L (k + 1) (i : Int) = _
    rw [hL]
    simp only [head_in hi, head_0, Bool.and_self, cond_true, get_in hi, wrap_nat (show i < 9223372036854775807 by omega)]
/-- slices.IndexFunc. -/
def ixF (p : α → Bool) : List α → Nat → Int
  | [], _ => -1
  | x :: l, i => bif p x then (i : Int) else ixF p l (i + 1)
theorem ixF_any (p : α → Bool) : ∀ (l : List α) (i : Nat), decide (0 ≤ ixF p l i) = l.any p
  | [], i => by simp [ixF]
  | x :: l, i => by
    have ih := ixF_any p l (i + 1)
    rw [List.any_cons]
    unfold ixF
    rcases Bool.eq_false_or_eq_true (p x) with h | h
    · simp only [h, cond_true, Bool.true_or]; exact dpos (by omega)
    · simp only [h, cond_false, Bool.false_or]; exact ih
theorem index_ev {p : α → Bool} {q : Nat → α → Option (((Bool × Unit) × Unit) × Unit)} {L : Nat → Int → Int → Option (((Int × Unit) × Unit) × Unit)} (hlen : l.length ≤ 9223372036854775807)
    (hL : ∀ k b a, L (k + 1) b a = bif decide (a < b) then (bif decide (0 ≤ a) && decide (a < (l.length : Int)) then (Option.bind (q k (l.getD a.toNat z)) fun r1 => bif r1.1.1.1 then some (((a, ()), ()), ()) else L k b (IntKind.wrap .i64 (a + 1))) else none) else some (((-1, ()), ()), ()))
    (hq : ∀ x ∈ l, Ev (fun k => q k x) (one (p x))) : Ev (fun k => Option.bind (L k (l.length : Int) 0) fun r1 => some (((decide (0 ≤ r1.1.1.1), ()), ()), ())) (one (l.any p)) := by
  have := Ev.down (G := fun i k => L k (l.length : Int) (i : Int)) (V := fun i => one (ixF p (l.drop i) i)) l.length ?_ ?_ 0 (Nat.zero_le _)
  · refine (Ev.bind (f := fun _ r1 => some (((decide (0 ≤ r1.1.1.1), ()), ()), ())) this (Ev.cst rfl)).rw ?_
    show one (decide (0 ≤ ixF p l 0)) = _
    rw [ixF_any]
  · rw [List.drop_length]
    refine Ev.step (g' := fun _ => some (((-1, ()), ()), ())) (Ev.cst rfl) fun k => ?_
    show L (k + 1) _ _ = _
    rw [hL, head_end]; rfl
  · intro i hi ih
    rw [List.drop_eq_getElem_cons hi]
    have h1 := hq l[i] (List.getElem_mem hi)
    refine Ev.step (g' := fun k => Option.bind (q k l[i]) fun r1 => bif r1.1.1.1 then some ((((i : Int), ()), ()), ()) else L k (l.length : Int) ((i + 1 : Nat) : Int)) ?_ fun k => ?_
    · refine Ev.bind h1 ?_
      simp only [ixF]
      cases p l[i] with
      | true => exact Ev.cst rfl
      | false => exact ih
    · show L (k + 1) _ _ = _
      rw [hL]
      simp only [head_in hi, head_0, Bool.and_self, cond_true, get_in hi, wrap_nat (show i < 9223372036854775807 by omega)]
end
end Go.Proofs.YtkfehogikjcgkaaGreat.V
namespace Go.Proofs.YtkfehogikjcgkaaGreat.V
open Go
set_option linter.unusedVariables false
set_option linter.unusedSimpArgs false
/-- All lists are short. -/
def Small : (t : T) → t.Den → Prop
  | .list t, xs => List.length (α := t.Den) xs ≤ 1048576 ∧ ∀ x : t.Den, List.Mem (α := t.Den) x xs → Small t x
  | .pair a b, x => Small a (Prod.fst (α := a.Den) (β := b.Den) x) ∧ Small b (Prod.snd (α := a.Den) (β := b.Den) x)
  | _, _ => True
abbrev IR := (((Int × Unit) × Unit) × Unit)
abbrev BR := (((Bool × Unit) × Unit) × Unit)
def SzP {α : Type} (wf small : α → Prop) (f : Nat → α → Int → Option IR) : Prop := ∀ (x : α), wf x → ∀ n : Int, 0 ≤ n → n ≤ 1048576 → ∃ s, Ev (fun k => f k x n) (one s) ∧ -1 ≤ s ∧ s ≤ n ∧ (0 ≤ s → small x)
abbrev SzOK (t : T) (f : Nat → t.Den → Int → Option IR) : Prop := SzP (Wf t) (Small t) f
theorem sz_list {α : Type} {wf small : α → Prop} {z : α} {f : Nat → α → Int → Option IR} (hf : SzP wf small f) {L : Nat → List α → Int → Int → Option IR} {F : Nat → List α → Int → Option IR}
    (hL : ∀ k l a1 a2, L (k + 1) l a1 a2 = bif decide (a2 < (l.length : Int)) then (bif decide (0 ≤ a2) && decide (a2 < (l.length : Int)) then (Option.bind (f k (l.getD a2.toNat z) a1) fun r1 => bif decide (r1.1.1.1 < 0) then some (((-1, ()), ()), ()) else L k l r1.1.1.1 (IntKind.wrap .i64 (a2 + 1))) else none) else some (((a1, ()), ()), ()))
    (hF : ∀ k l a, F k l a = bif decide (IntKind.wrap .i64 (a - (l.length : Int)) < 0) then some (((-1, ()), ()), ()) else L k l (IntKind.wrap .i64 (a - (l.length : Int))) 0) : SzP (fun l : List α => l.length ≤ 9223372036854775807 ∧ ∀ x ∈ l, wf x) (fun l : List α => l.length ≤ 1048576 ∧ ∀ x ∈ l, small x) F := by
  intro l hw n h0 h1
  obtain ⟨hlen, hel⟩ := hw
  have key : ∀ (d i : Nat) (n : Int), i + d = l.length → 0 ≤ n → n ≤ 1048576 → ∃ s, Ev (fun k => L k l n (i : Int)) (one s) ∧ -1 ≤ s ∧ s ≤ n ∧ (0 ≤ s → ∀ x ∈ l.drop i, small x) := by
    intro d
    induction d with
    | zero =>
      intro i n hi h0 h1
      have hi' : i = l.length := by omega
      subst hi'
      refine ⟨n, Ev.step (g' := fun _ => some (one n)) (Ev.cst rfl) fun k => ?_, by omega, Int.le_refl _, fun _ x hx => by rw [List.drop_length] at hx; cases hx⟩
      rw [hL, head_end]; rfl
    | succ d ih =>
      intro i n hi h0 h1
      have hi' : i < l.length := by omega
      have hmem : l[i] ∈ l := List.getElem_mem hi'
      obtain ⟨s, e1, e2, e3, e4⟩ := hf (l[i]) (hel _ hmem) n h0 h1
      have hstep : ∀ k, L (k + 1) l n (i : Int) = Option.bind (f k (l[i]) n) fun r1 => bif decide (r1.1.1.1 < 0) then some (((-1, ()), ()), ()) else L k l r1.1.1.1 ((i + 1 : Nat) : Int) := fun k => by
        rw [hL]
        simp only [head_in hi', head_0, Bool.and_self, cond_true, get_in hi', wrap_nat (show i < 9223372036854775807 by omega)]
      rcases Int.lt_or_le s 0 with hs | hs
      · refine ⟨-1, Ev.step (Ev.bind (f := fun k r1 => bif decide (r1.1.1.1 < 0) then some (((-1, ()), ()), ()) else L k l r1.1.1.1 ((i + 1 : Nat) : Int)) e1 ?_) hstep, by omega, by omega, fun h => by omega⟩
        exact Ev.pos (dpos hs) (Ev.cst rfl)
      · obtain ⟨s', q1, q2, q3, q4⟩ := ih (i + 1) s (by omega) hs (by omega)
        refine ⟨s', Ev.step (Ev.bind (f := fun k r1 => bif decide (r1.1.1.1 < 0) then some (((-1, ()), ()), ()) else L k l r1.1.1.1 ((i + 1 : Nat) : Int)) e1 (Ev.neg (dneg (show ¬ s < 0 by omega)) q1)) hstep, q2, by omega, fun h x hx => ?_⟩
        rw [List.drop_eq_getElem_cons hi'] at hx
        rcases List.mem_cons.1 hx with rfl | hx
        · exact e4 hs
        · exact q4 h x hx
  have hw : IntKind.wrap .i64 (n - (l.length : Int)) = n - (l.length : Int) := wrap_id (by omega) (by omega)
  rcases Int.lt_or_le (n - (l.length : Int)) 0 with hs | hs
  · refine ⟨-1, (Ev.cst rfl : Ev (fun _ => some (one (-1 : Int))) _).congr fun k => ?_, by omega, by omega, fun h => by omega⟩
    rw [hF, hw, dpos hs]; rfl
  · obtain ⟨s, q1, q2, q3, q4⟩ := key (l.length) 0 _ (by omega) hs (by omega)
    refine ⟨s, q1.congr fun k => ?_, q2, by omega, fun h => ⟨by omega, fun x hx => q4 h x (by simpa using hx)⟩⟩
    rw [hF, hw, dneg (by omega)]; rfl
/-- A copy, element by element. -/
theorem to_list {α R : Type} {z : α} {L : Nat → List α → Int → List α → Option (((Unit × Unit) × Unit) × (List α × Unit))} {q : Nat → α → (α → Option (((Unit × Unit) × Unit) × (List α × Unit))) → Option (((Unit × Unit) × Unit) × (List α × Unit))} {F : Nat → List α → Option (((Unit × Unit) × Unit) × (List α × Unit))} {b : Int}
    (hL : ∀ k l a1 a2, L (k + 1) l a1 a2 = bif decide (a1 < (l.length : Int)) then (bif decide (0 ≤ a1) && decide (a1 < (l.length : Int)) then q k (l.getD a1.toNat z) (fun y => bif decide (0 ≤ a1) && decide (a1 < (a2.length : Int)) then L k l (IntKind.wrap .i64 (a1 + 1)) (a2.set a1.toNat y) else none) else none) else some ((((), ()), ()), (a2, ())))
    (hF : ∀ k l, F k l = bif decide ((l.length : Int) = (l.length : Int)) && decide (0 ≤ (l.length : Int)) && decide ((l.length : Int) * b ≤ 281474976710656) then L k l 0 (List.replicate (Int.toNat (l.length : Int)) z) else none)
    {l : List α} (hlen : l.length ≤ 1048576) (hb0 : 0 ≤ b) (hb : b ≤ 1000) (hq : ∀ x ∈ l, ∀ (h : Nat → α → Option (((Unit × Unit) × Unit) × (List α × Unit))) r, Ev (fun k => h k x) r → Ev (fun k => q k x (h k)) r) : Ev (fun k => F k l) (rowR l) := by
  have h1 := Ev.down (G := fun i k => L k l (i : Int) (l.take i ++ List.replicate (l.length - i) z)) (V := fun _ => rowR l) l.length ?_ ?_ 0 (Nat.zero_le _)
  · refine h1.congr fun k => ?_
    have hsz : (l.length : Int) * b ≤ 281474976710656 := by
      have : (l.length : Int) * b ≤ 1048576 * 1000 := Int.mul_le_mul (by omega) hb hb0 (by omega)
      omega
    rw [hF, dpos rfl, dpos (show 0 ≤ (l.length : Int) by omega), dpos hsz]
    simp
  · refine Ev.step (g' := fun _ => some (rowR l)) (Ev.cst rfl) fun k => ?_
    show L (k + 1) l _ _ = _
    rw [hL, head_end]
    simp
  · intro i hi ih
    refine Ev.step (g' := fun k => q k l[i] (fun y => bif decide (0 ≤ (i : Int)) && decide ((i : Int) < (((l.take i ++ List.replicate (l.length - i) z).length : Nat) : Int)) then L k l ((i + 1 : Nat) : Int) ((l.take i ++ List.replicate (l.length - i) z).set i y) else none)) (hq _ (List.getElem_mem hi) (fun k y => bif decide (0 ≤ (i : Int)) && decide ((i : Int) < (((l.take i ++ List.replicate (l.length - i) z).length : Nat) : Int)) then L k l ((i + 1 : Nat) : Int) ((l.take i ++ List.replicate (l.length - i) z).set i y) else none) _ ?_) fun k => ?_
    · refine Ev.pos ?_ (ih.congr fun k => ?_)
      · rw [dpos (by omega), dpos (by simp; omega)]; rfl
      · congr 1
        rw [List.set_append_right _ _ (by simp; omega)]
        have e1 : i - (l.take i).length = 0 := by simp; omega
        have e2 : l.length - i = (l.length - (i + 1)) + 1 := by omega
        rw [e1, e2, List.replicate_succ, List.set_cons_zero, List.take_succ_eq_append_getElem hi, List.append_assoc]
        rfl
    · show L (k + 1) l _ _ = _
      rw [hL]
      simp only [head_in hi, head_0, Bool.and_self, cond_true, get_in hi, wrap_nat (show i < 9223372036854775807 by omega), Int.toNat_natCast]
      rw [getD_at l z i hi]
/-- A list compared with itself. -/
theorem eq_list {α : Type} {z : α} {L : Nat → List α → List α → Int → Option BR} {q : Nat → α → α → Option BR → Option BR} {F : Nat → List α → List α → Option BR}
    (hL : ∀ k l m a, L (k + 1) l m a = bif decide (a < (l.length : Int)) then (bif decide (0 ≤ a) && decide (a < (l.length : Int)) then (bif decide (0 ≤ a) && decide (a < (m.length : Int)) then q k (l.getD a.toNat z) (m.getD a.toNat z) (L k l m (IntKind.wrap .i64 (a + 1))) else none) else none) else some (((true, ()), ()), ()))
    (hF : ∀ k l m, F k l m = bif !decide ((l.length : Int) = (m.length : Int)) then some (((false, ()), ()), ()) else L k l m 0)
    {l : List α} (hlen : l.length ≤ 1048576) (hq : ∀ x ∈ l, ∀ (g : Nat → Option BR) r, Ev g r → Ev (fun k => q k x x (g k)) r) : Ev (fun k => F k l l) (one true) := by
  have h1 := Ev.down (G := fun i k => L k l l (i : Int)) (V := fun _ => one true) l.length ?_ ?_ 0 (Nat.zero_le _)
  · refine h1.congr fun k => ?_
    rw [hF, dpos rfl]; rfl
  · refine Ev.step (g' := fun _ => some (one true)) (Ev.cst rfl) fun k => ?_
    show L (k + 1) l l _ = _
    rw [hL, head_end]; rfl
  · intro i hi ih
    refine Ev.step (hq _ (List.getElem_mem hi) (fun k => L k l l ((i + 1 : Nat) : Int)) _ ih) fun k => ?_
    show L (k + 1) l l _ = _
    rw [hL]
    simp only [head_in hi, head_0, Bool.and_self, cond_true, get_in hi, wrap_nat (show i < 9223372036854775807 by omega)]
end Go.Proofs.YtkfehogikjcgkaaGreat.V
namespace Go.Proofs.YtkfehogikjcgkaaGreat.V
open Go
set_option linter.unusedVariables false
set_option linter.unusedSimpArgs false
/-! ### how much there is -/
theorem sz_then {n s : Int} {g : Nat → Option IR} (h : Ev g (one s)) : Ev (fun k => Option.bind (g k) fun r1 => bif decide (r1.1.1.1 < 0) then some (((-1, ()), ()), ()) else some (((r1.1.1.1, ()), ()), ())) (one (if s < 0 then -1 else s)) := by
  refine Ev.bind h ?_
  by_cases hs : s < 0
  · rw [if_pos hs]; exact Ev.pos (dpos hs) (Ev.cst rfl)
  · rw [if_neg hs]; exact Ev.neg (dneg hs) (Ev.cst rfl)
theorem szInts : SzOK (.list (.int .i64)) laws_szInt64S.f := by
  intro l hw n h0 h1
  have hlen : List.length (α := Int) l ≤ 9223372036854775807 := hw.1
  have hwr : IntKind.wrap .i64 (n - (List.length (α := Int) l : Int)) = n - (List.length (α := Int) l : Int) := wrap_id (by omega) (by omega)
  have he : ∀ k, laws_szInt64S.f k l n = bif decide (n - (List.length (α := Int) l : Int) < 0) then some (one (-1)) else some (one (n - (List.length (α := Int) l : Int))) := fun k => by
    show (bif decide (IntKind.wrap .i64 (n - (List.length (α := Int) l : Int)) < 0) then _ else _) = _
    rw [hwr]
  by_cases hs : n - (List.length (α := Int) l : Int) < 0
  · exact ⟨-1, Ev.all fun k => by rw [he, dpos hs]; rfl, by omega, by omega, fun h => by omega⟩
  · exact ⟨_, Ev.all fun k => by rw [he, dneg hs]; rfl, by omega, by omega, fun h => ⟨by show List.length (α := Int) l ≤ _; omega, fun _ _ => trivial⟩⟩
theorem szPhi : SzOK tPhi laws_szPhi.f := by
  intro x hw n h0 h1
  obtain ⟨s, e, a, b, c⟩ := szInts _ hw.2.1 n h0 h1
  exact ⟨_, sz_then (n := n) e, by split <;> omega, by split <;> omega, fun h => ⟨trivial, c (by split at h <;> omega), trivial⟩⟩
theorem szPhiS : SzOK (.list tPhi) laws_szPhiS.f := sz_list (z := tPhiZ) szPhi (L := laws_szPhiS.l0) (fun k l a b => rfl) fun k l a => rfl
theorem szInst : SzOK tInst laws_szInst.f := by
  intro x hw n h0 h1
  obtain ⟨s, e, a, b, c⟩ := szInts _ hw.2.2.2.2.2.2.1 n h0 h1
  exact ⟨_, sz_then (n := n) e, by split <;> omega, by split <;> omega, fun h => ⟨trivial, trivial, trivial, trivial, trivial, trivial, c (by split at h <;> omega), trivial⟩⟩
theorem szInstS : SzOK (.list tInst) laws_szInstS.f := sz_list (z := tInstZ) szInst (L := laws_szInstS.l0) (fun k l a b => rfl) fun k l a => rfl
theorem sz_two {n s : Int} {g : Nat → Option IR} {f : Nat → Int → Option IR} {r : Int} (h : Ev g (one s)) (h' : 0 ≤ s → Ev (fun k => f k s) (one r)) (hr : s < 0 → r = -1) : Ev (fun k => Option.bind (g k) fun r1 => bif decide (r1.1.1.1 < 0) then some (((-1, ()), ()), ()) else f k r1.1.1.1) (one r) := by
  refine Ev.bind h ?_
  by_cases hs : s < 0
  · rw [hr hs]; exact Ev.pos (dpos hs) (Ev.cst rfl)
  · exact Ev.neg (dneg hs) (h' (by omega))
theorem szBlock : SzOK tBlock laws_szBlock.f := by
  intro x hw n h0 h1
  obtain ⟨s, e, a, b, c⟩ := szPhiS _ hw.1 n h0 h1
  by_cases hs : s < 0
  · exact ⟨-1, sz_two (n := n) (f := fun k s => Option.bind (laws_szInstS.f k x.2.1 s) fun r1 => bif decide (r1.1.1.1 < 0) then some (((-1, ()), ()), ()) else some (((r1.1.1.1, ()), ()), ())) e (fun h => by omega) (fun _ => rfl), by omega, by omega, fun h => by omega⟩
  · obtain ⟨s', e', a', b', c'⟩ := szInstS _ hw.2.1 s (by omega) (by omega)
    exact ⟨_, sz_two (n := n) (f := fun k s => Option.bind (laws_szInstS.f k x.2.1 s) fun r1 => bif decide (r1.1.1.1 < 0) then some (((-1, ()), ()), ()) else some (((r1.1.1.1, ()), ()), ())) e (fun _ => sz_then (n := n) e') (fun h => by omega), by split <;> omega, by split <;> omega, fun h => ⟨c (by omega), c' (by split at h <;> omega), trivial, trivial, trivial, trivial, trivial⟩⟩
theorem szBlockS : SzOK (.list tBlock) laws_szBlockS.f := sz_list (z := tBlockZ) szBlock (L := laws_szBlockS.l0) (fun k l a b => rfl) fun k l a => rfl
theorem szFunc : SzOK tFunc laws_szFunc.f := by
  intro x hw n h0 h1
  obtain ⟨s, e, a, b, c⟩ := szInts _ hw.1 n h0 h1
  by_cases hs : s < 0
  · exact ⟨-1, sz_two (n := n) (f := fun k s => Option.bind (laws_szBlockS.f k x.2.2.1 s) fun r1 => bif decide (r1.1.1.1 < 0) then some (((-1, ()), ()), ()) else some (((r1.1.1.1, ()), ()), ())) e (fun h => by omega) (fun _ => rfl), by omega, by omega, fun h => by omega⟩
  · obtain ⟨s', e', a', b', c'⟩ := szBlockS _ hw.2.2.1 s (by omega) (by omega)
    exact ⟨_, sz_two (n := n) (f := fun k s => Option.bind (laws_szBlockS.f k x.2.2.1 s) fun r1 => bif decide (r1.1.1.1 < 0) then some (((-1, ()), ()), ()) else some (((r1.1.1.1, ()), ()), ())) e (fun _ => sz_then (n := n) e') (fun h => by omega), by split <;> omega, by split <;> omega, fun h => ⟨c (by omega), trivial, c' (by split at h <;> omega), trivial⟩⟩
/-! ### a copy -/
theorem toInts {l : List Int} (h : Small (.list (.int .i64)) l) : Ev (fun k => laws_toInt64S.f k l) (rowR l) :=
  to_list (z := 0) (L := laws_toInt64S.l0) (q := fun k x h => h x) (b := 8) (R := Unit) (fun k l a b => rfl) (fun k l => rfl) h.1 (by omega) (by omega) fun x _ h r hh => hh
theorem toPhi {x : tPhiD} (h : Small tPhi x) : Ev (fun k => laws_toPhi.f k x) (((x.1, (), ()), ()), (x.2.1, ())) := Ev.bind (toInts h.2.1) (Ev.cst rfl)
theorem toPhiS {l : List tPhiD} (h : Small (.list tPhi) l) : Ev (fun k => laws_toPhiS.f k l) (rowR l) :=
  to_list (z := tPhiZ) (L := laws_toPhiS.l0) (q := fun k x h => Option.bind (laws_toPhi.f k x) fun r1 => h (r1.1.1.1, r1.2.1, ())) (b := 32) (R := Unit) (fun k l a b => rfl) (fun k l => rfl) h.1 (by omega) (by omega) fun x hx g r hh => Ev.bind (toPhi (h.2 x hx)) hh
theorem toInst {x : tInstD} (h : Small tInst x) : Ev (fun k => laws_toInst.f k x) (((x.1, x.2.1, x.2.2.1, x.2.2.2.1, x.2.2.2.2.1, x.2.2.2.2.2.1, (), ()), ()), (x.2.2.2.2.2.2.1, ())) := Ev.bind (toInts h.2.2.2.2.2.2.1) (Ev.cst rfl)
theorem toInstS {l : List tInstD} (h : Small (.list tInst) l) : Ev (fun k => laws_toInstS.f k l) (rowR l) :=
  to_list (z := tInstZ) (L := laws_toInstS.l0) (q := fun k x h => Option.bind (laws_toInst.f k x) fun r1 => h (r1.1.1.1, r1.1.1.2.1, r1.1.1.2.2.1, r1.1.1.2.2.2.1, r1.1.1.2.2.2.2.1, r1.1.1.2.2.2.2.2.1, r1.2.1, ())) (b := 72) (R := Unit) (fun k l a b => rfl) (fun k l => rfl) h.1 (by omega) (by omega) fun x hx g r hh => Ev.bind (toInst (h.2 x hx)) hh
theorem toBlock {x : tBlockD} (h : Small tBlock x) : Ev (fun k => laws_toBlock.f k x) ((((), (), x.2.2.1, x.2.2.2.1, x.2.2.2.2.1, x.2.2.2.2.2.1, ()), ()), (x.1, x.2.1, ())) := Ev.bind (toPhiS h.1) (Ev.bind (toInstS h.2.1) (Ev.cst rfl))
theorem toBlockS {l : List tBlockD} (h : Small (.list tBlock) l) : Ev (fun k => laws_toBlockS.f k l) (rowR l) :=
  to_list (z := tBlockZ) (L := laws_toBlockS.l0) (q := fun k x h => Option.bind (laws_toBlock.f k x) fun r1 => h (r1.2.1, r1.2.2.1, r1.1.1.2.2.1, r1.1.1.2.2.2.1, r1.1.1.2.2.2.2.1, r1.1.1.2.2.2.2.2.1, ())) (b := 80) (R := Unit) (fun k l a b => rfl) (fun k l => rfl) h.1 (by omega) (by omega) fun x hx g r hh => Ev.bind (toBlock (h.2 x hx)) hh
theorem toFunc {x : tFuncD} (h : Small tFunc x) : Ev (fun k => laws_toFunc.f k x) ((((), x.2.1, (), ()), ()), (x.1, x.2.2.1, ())) := Ev.bind (toInts h.1) (Ev.bind (toBlockS h.2.2.1) (Ev.cst rfl))
/-! ### a thing compared with itself -/
theorem eqInts {l : List Int} (h : Small (.list (.int .i64)) l) : Ev (fun k => laws_eqInt64S.f k l l) (one true) :=
  eq_list (z := 0) (L := laws_eqInt64S.l0) (q := fun k x y g => bif !decide (x = y) then some (((false, ()), ()), ()) else g) (fun k l m a => rfl) (fun k l m => rfl) h.1 fun x _ g r hh => Ev.neg (by rw [dpos rfl]; rfl) hh
theorem Ev.skip {R : Type} {n : Int} {o : Option R} {g : Nat → Option R} {r : R} (h : Ev g r) : Ev (fun k => bif !decide (n = n) then o else g k) r := Ev.neg (by rw [dpos rfl]; rfl) h
theorem Ev.yes {g : Nat → Option BR} {f : Nat → Option BR} {o : Option BR} {r : BR} (h : Ev g (one true)) (hf : Ev f r) : Ev (fun k => Option.bind (g k) fun r1 => bif !r1.1.1.1 then o else f k) r := Ev.bind h (Ev.neg rfl hf)
theorem eqPhi {x : tPhiD} (h : Small tPhi x) : Ev (fun k => laws_eqPhi.f k x x) (one true) := Ev.skip (Ev.yes (eqInts h.2.1) (Ev.cst rfl))
theorem eqPhiS {l : List tPhiD} (h : Small (.list tPhi) l) : Ev (fun k => laws_eqPhiS.f k l l) (one true) :=
  eq_list (z := tPhiZ) (L := laws_eqPhiS.l0) (q := fun k x y g => Option.bind (laws_eqPhi.f k x y) fun r1 => bif !r1.1.1.1 then some (((false, ()), ()), ()) else g) (fun k l m a => rfl) (fun k l m => rfl) h.1 fun x hx g r hh => Ev.yes (eqPhi (h.2 x hx)) hh
theorem eqInst {x : tInstD} (h : Small tInst x) : Ev (fun k => laws_eqInst.f k x x) (one true) := Ev.skip (Ev.skip (Ev.skip (Ev.skip (Ev.skip (Ev.skip (Ev.yes (eqInts h.2.2.2.2.2.2.1) (Ev.cst rfl)))))))
theorem eqInstS {l : List tInstD} (h : Small (.list tInst) l) : Ev (fun k => laws_eqInstS.f k l l) (one true) :=
  eq_list (z := tInstZ) (L := laws_eqInstS.l0) (q := fun k x y g => Option.bind (laws_eqInst.f k x y) fun r1 => bif !r1.1.1.1 then some (((false, ()), ()), ()) else g) (fun k l m a => rfl) (fun k l m => rfl) h.1 fun x hx g r hh => Ev.yes (eqInst (h.2 x hx)) hh
theorem eqTerm {x : tTermD} : Ev (fun k => laws_eqTerm.f k x x) (one true) := Ev.skip (Ev.skip (Ev.skip (Ev.skip (Ev.cst rfl))))
theorem eqBlock {x : tBlockD} (h : Small tBlock x) : Ev (fun k => laws_eqBlock.f k x x) (one true) := Ev.yes (eqPhiS h.1) (Ev.yes (eqInstS h.2.1) (Ev.yes eqTerm (Ev.cst rfl)))
theorem eqBlockS {l : List tBlockD} (h : Small (.list tBlock) l) : Ev (fun k => laws_eqBlockS.f k l l) (one true) :=
  eq_list (z := tBlockZ) (L := laws_eqBlockS.l0) (q := fun k x y g => Option.bind (laws_eqBlock.f k x y) fun r1 => bif !r1.1.1.1 then some (((false, ()), ()), ()) else g) (fun k l m a => rfl) (fun k l m => rfl) h.1 fun x hx g r hh => Ev.yes (eqBlock (h.2 x hx)) hh
theorem eqFunc {x : tFuncD} (h : Small tFunc x) : Ev (fun k => laws_eqFunc.f k x x) (one true) := Ev.yes (eqInts h.1) (Ev.skip (Ev.yes (eqBlockS h.2.2.1) (Ev.cst rfl)))
end Go.Proofs.YtkfehogikjcgkaaGreat.V
namespace Go.Proofs.YtkfehogikjcgkaaGreat.V
open Go
set_option linter.unusedVariables false
set_option linter.unusedSimpArgs false
theorem Ev.sc {R : Type} {g : Nat → Option R} {r : R} (h : Ev (fun k => g (k + 1)) r) : Ev g r := Ev.step h fun _ => rfl
theorem updAt_length {α : Type} (z : α) (l : List α) (i : Nat) (f : α → α) : (updAt z l i f).length = l.length := by simp [updAt]
theorem updAt_at {α : Type} (z : α) (l : List α) (i : Nat) (f : α → α) (h : i < l.length) : (updAt z l i f).getD i z = f (l.getD i z) := by
  rw [getD_at _ _ _ (by rw [updAt_length]; exact h)]
  simp [updAt]
theorem updAt_ne {α : Type} (z : α) (l : List α) (i j : Nat) (f : α → α) (h : i ≠ j) : (updAt z l i f)[j]? = l[j]? := by
  simp [updAt, List.getElem?_set_ne h]
theorem updAt_twice {α : Type} {z : α} {l : List α} {i : Nat} (h : i < l.length) (f g : α → α) : updAt z (updAt z l i f) i g = updAt z l i (fun x => g (f x)) := by
  show (updAt z l i f).set i (g ((updAt z l i f).getD i z)) = _
  rw [updAt_at _ _ _ _ h]
  simp [updAt]
abbrev MkR (α : Type) := (((Int × Unit) × Unit) × (α × Unit))
abbrev mkr {α : Type} (n : Int) (l : α) : MkR α := (((n, ()), ()), (l, ()))
/-- A loop over a list whose elements are changed in place. -/
theorem mark_list {α : Type} {z : α} {B : Int} (hB : 0 ≤ B) {small : α → Prop} {L : Nat → Int → Int → List α → Option (MkR (List α))} {M : Int}
    (hend : ∀ (l : List α) (n : Int) k, L (k + 1) n (l.length : Int) l = some (mkr n l))
    (hstep : ∀ (l : List α) (i : Nat) (n : Int), i < l.length → l.length ≤ 1048576 → small (l.getD i z) → 0 ≤ n → n + B ≤ M → ∃ n' l', n ≤ n' ∧ n' ≤ n + B ∧ l'.length = l.length ∧ (∀ j, i < j → l'[j]? = l[j]?) ∧ ∀ r, Ev (fun k => L k n' ((i + 1 : Nat) : Int) l') r → Ev (fun k => L k n (i : Int) l) r) :
    ∀ (d i : Nat) (l : List α) (n : Int), i + d = l.length → l.length ≤ 1048576 → (∀ j x, i ≤ j → l[j]? = some x → small x) → 0 ≤ n → n + (d : Int) * B ≤ M → ∃ n' l', Ev (fun k => L k n (i : Int) l) (mkr n' l') ∧ n ≤ n' ∧ n' ≤ n + (d : Int) * B ∧ l'.length = l.length := by
  intro d
  induction d with
  | zero =>
    intro i l n hi hl hs h0 hM
    obtain rfl : i = l.length := by omega
    exact ⟨n, l, Ev.step (g' := fun _ => some (mkr n l)) (Ev.cst rfl) (hend l n), Int.le_refl _, by omega, rfl⟩
  | succ d ih =>
    intro i l n hi hl hs h0 hM
    have hlt : i < l.length := by omega
    have e : ((d + 1 : Nat) : Int) * B = (d : Int) * B + B := by rw [Int.natCast_add, Int.add_mul]; simp
    have hd : 0 ≤ (d : Int) * B := Int.mul_nonneg (by omega) hB
    rw [e] at hM ⊢
    obtain ⟨n1, l1, a1, a2, a3, a4, a5⟩ := hstep l i n hlt hl (hs i _ (Nat.le_refl _) (by rw [getD_at _ _ _ hlt]; exact List.getElem?_eq_getElem hlt)) h0 (by omega)
    obtain ⟨n2, l2, b1, b2, b3, b4⟩ := ih (i + 1) l1 n1 (by omega) (by omega) (fun j x hj hx => hs j x (by omega) (by rw [← a4 j (by omega)]; exact hx)) (by omega) (by omega)
    exact ⟨n2, l2, a5 _ b1, by omega, by omega, by omega⟩
theorem mark_all {α : Type} {z : α} {B : Int} (hB : 0 ≤ B) {small : α → Prop} {L : Nat → Int → Int → List α → Option (MkR (List α))} {M : Int}
    (hend : ∀ (l : List α) (n : Int) k, L (k + 1) n (l.length : Int) l = some (mkr n l))
    (hstep : ∀ (l : List α) (i : Nat) (n : Int), i < l.length → l.length ≤ 1048576 → small (l.getD i z) → 0 ≤ n → n + B ≤ M → ∃ n' l', n ≤ n' ∧ n' ≤ n + B ∧ l'.length = l.length ∧ (∀ j, i < j → l'[j]? = l[j]?) ∧ ∀ r, Ev (fun k => L k n' ((i + 1 : Nat) : Int) l') r → Ev (fun k => L k n (i : Int) l) r)
    (l : List α) (n : Int) (hl : l.length ≤ 1048576) (hs : ∀ x ∈ l, small x) (h0 : 0 ≤ n) (hM : n + 1048576 * B ≤ M) : ∃ n' l', Ev (fun k => L k n 0 l) (mkr n' l') ∧ n ≤ n' ∧ n' ≤ n + 1048576 * B ∧ l'.length = l.length := by
  have hle : (l.length : Int) * B ≤ 1048576 * B := Int.mul_le_mul_of_nonneg_right (by omega) hB
  obtain ⟨n', l', a, b, c, d⟩ := mark_list (z := z) hB (small := small) hend hstep l.length 0 l n (by omega) hl (fun j x _ hx => hs x (List.mem_of_getElem? hx)) h0 (by omega)
  exact ⟨n', l', a, b, by omega, d⟩
/-- The numbers n, n + 1, .. -/
def upFrom : Int → Nat → List Int
  | _, 0 => []
  | n, d + 1 => n :: upFrom (n + 1) d
theorem markInts_l : ∀ (d i : Nat) (pre : List Int) (l : List Int) (n : Int), pre.length = i → l.length = d → i + d ≤ 1048576 → 0 ≤ n → n + (d : Int) ≤ 9223372036854775807 → Ev (fun k => laws_markInt64S.l0 k n (i : Int) (pre ++ l)) (mkr (n + (d : Int)) (pre ++ upFrom n d)) := by
  intro d
  induction d with
  | zero =>
    intro i pre l n hi hl h1 h0 hM
    obtain rfl : l = [] := List.eq_nil_of_length_eq_zero hl
    subst hi
    refine Ev.step (g' := fun _ => some (mkr (n + 0) (pre ++ []))) (Ev.cst rfl) fun k => ?_
    show laws_markInt64S.l0_ k (laws_markInt64S.l0 k) n _ (pre ++ []) = _
    unfold laws_markInt64S.l0_
    simp
  | succ d ih =>
    intro i pre l n hi hl h1 h0 hM
    obtain ⟨x, l, rfl⟩ : ∃ x m, l = x :: m := by
      cases l with
      | nil => simp at hl
      | cons x m => exact ⟨x, m, rfl⟩
    subst hi
    have hlt : pre.length < (pre ++ x :: l).length := by simp
    refine Ev.sc ?_
    show Ev (fun k => laws_markInt64S.l0_ k (laws_markInt64S.l0 k) n _ (pre ++ x :: l)) _
    unfold laws_markInt64S.l0_
    simp only [head_in hlt, head_0, Bool.and_self, cond_true, Int.toNat_natCast, wrap_nat (show pre.length < 9223372036854775807 by omega), wrap_id (x := n + 1) (by omega) (by omega)]
    have e : (pre ++ x :: l).set pre.length n = (pre ++ [n]) ++ l := by simp
    rw [e]
    refine (ih (pre.length + 1) (pre ++ [n]) l (n + 1) (by simp) (by simpa using hl) (by omega) (by omega) (by omega)).rw ?_
    have e1 : n + 1 + (d : Int) = n + ((d + 1 : Nat) : Int) := by omega
    simp [upFrom, e1]
theorem markInts (l : List Int) (n : Int) (hl : l.length ≤ 1048576) (h0 : 0 ≤ n) (hM : n + (l.length : Int) ≤ 9223372036854775807) : Ev (fun k => laws_markInt64S.f k n l) (mkr (n + (l.length : Int)) (upFrom n l.length)) :=
  markInts_l l.length 0 [] l n rfl rfl (by omega) h0 hM
theorem heldInts_l : ∀ (d i : Nat) (pre : List Int) (n : Int), pre.length = i → i + d ≤ 1048576 → 0 ≤ n → n + (d : Int) ≤ 9223372036854775807 → Ev (fun k => laws_heldInt64S.l0 k (pre ++ upFrom n d) n (i : Int)) (one (n + (d : Int))) := by
  intro d
  induction d with
  | zero =>
    intro i pre n hi h1 h0 hM
    subst hi
    refine Ev.step (g' := fun _ => some (one (n + 0))) (Ev.cst rfl) fun k => ?_
    show laws_heldInt64S.l0_ k (laws_heldInt64S.l0 k) (pre ++ []) n _ = _
    unfold laws_heldInt64S.l0_
    simp
  | succ d ih =>
    intro i pre n hi h1 h0 hM
    subst hi
    have hlt : pre.length < (pre ++ n :: upFrom (n + 1) d).length := by simp
    refine Ev.sc ?_
    show Ev (fun k => laws_heldInt64S.l0_ k (laws_heldInt64S.l0 k) (pre ++ n :: upFrom (n + 1) d) n _) _
    unfold laws_heldInt64S.l0_
    simp only [head_in hlt, head_0, Bool.and_self, cond_true, get_in hlt, wrap_nat (show pre.length < 9223372036854775807 by omega), wrap_id (x := n + 1) (by omega) (by omega)]
    refine Ev.neg (by simp) ?_
    have e : pre ++ n :: upFrom (n + 1) d = (pre ++ [n]) ++ upFrom (n + 1) d := by simp
    rw [e]
    refine (ih (pre.length + 1) (pre ++ [n]) (n + 1) (by simp) (by omega) (by omega) (by omega)).rw ?_
    have e1 : n + 1 + (d : Int) = n + ((d + 1 : Nat) : Int) := by omega
    rw [e1]
theorem heldInts (n : Int) (d : Nat) (hl : d ≤ 1048576) (h0 : 0 ≤ n) (hM : n + (d : Int) ≤ 9223372036854775807) : Ev (fun k => laws_heldInt64S.f k (upFrom n d) n) (one (n + (d : Int))) :=
  heldInts_l d 0 [] n rfl (by omega) h0 hM
end Go.Proofs.YtkfehogikjcgkaaGreat.V
namespace Go.Proofs.YtkfehogikjcgkaaGreat.V
open Go
set_option linter.unusedVariables false
set_option linter.unusedSimpArgs false
theorem markPhis (l : List tPhiD) (hs : Small (.list tPhi) l) (n : Int) (h0 : 0 ≤ n) (hM : n ≤ 4611686018427387904) : ∃ n' l', Ev (fun k => laws_markPhiS.f k n l) (mkr n' l') ∧ n ≤ n' ∧ n' ≤ n + 1048576 * 1048577 ∧ l'.length = l.length := by
  refine mark_all (z := tPhiZ) (B := 1048577) (by omega) (small := Small tPhi) (L := laws_markPhiS.l0) (M := 4611686018427387904 + 1048576 * 1048577) (fun l n k => ?_) (fun l i n hi hl hx h0 hM => ?_) l n hs.1 hs.2 h0 (by omega)
  · show laws_markPhiS.l0_ k (laws_markPhiS.l0 k) n _ l = _
    unfold laws_markPhiS.l0_
    rw [head_end]; rfl
  · have hlen : (l.getD i tPhiZ).2.1.length ≤ 1048576 := hx.2.1.1
    refine ⟨n + 1 + ((l.getD i tPhiZ).2.1.length : Int), updAt tPhiZ l i (fun q_ => (n, upFrom (n + 1) (l.getD i tPhiZ).2.1.length, q_.2.2)), by omega, by omega, updAt_length _ _ _ _, fun j hj => updAt_ne _ _ _ _ _ (by omega), fun r hr => Ev.sc ?_⟩
    show Ev (fun k => laws_markPhiS.l0_ k (laws_markPhiS.l0 k) n _ l) _
    unfold laws_markPhiS.l0_
    simp only [updAt_length, head_in hi, head_0, Bool.and_self, cond_true, Int.toNat_natCast, wrap_nat (show i < 9223372036854775807 by omega), wrap_id (x := n + 1) (by omega) (by omega), updAt_twice hi, updAt_at _ _ _ _ hi]
    exact Ev.bind (markInts _ (n + 1) hlen (by omega) (by omega)) hr
theorem markInsts (l : List tInstD) (hs : Small (.list tInst) l) (n : Int) (h0 : 0 ≤ n) (hM : n ≤ 4611686018427387904) : ∃ n' l', Ev (fun k => laws_markInstS.f k n l) (mkr n' l') ∧ n ≤ n' ∧ n' ≤ n + 1048576 * 1048582 ∧ l'.length = l.length := by
  refine mark_all (z := tInstZ) (B := 1048582) (by omega) (small := Small tInst) (L := laws_markInstS.l0) (M := 4611686018427387904 + 1048576 * 1048582) (fun l n k => ?_) (fun l i n hi hl hx h0 hM => ?_) l n hs.1 hs.2 h0 (by omega)
  · show laws_markInstS.l0_ k (laws_markInstS.l0 k) n _ l = _
    unfold laws_markInstS.l0_
    rw [head_end]; rfl
  · have hlen : (l.getD i tInstZ).2.2.2.2.2.2.1.length ≤ 1048576 := hx.2.2.2.2.2.2.1.1
    refine ⟨n + 1 + 1 + 1 + 1 + 1 + 1 + ((l.getD i tInstZ).2.2.2.2.2.2.1.length : Int), updAt tInstZ l i (fun q_ => (n, n + 1, n + 1 + 1, n + 1 + 1 + 1, n + 1 + 1 + 1 + 1, n + 1 + 1 + 1 + 1 + 1, upFrom (n + 1 + 1 + 1 + 1 + 1 + 1) (l.getD i tInstZ).2.2.2.2.2.2.1.length, q_.2.2.2.2.2.2.2)), by omega, by omega, updAt_length _ _ _ _, fun j hj => updAt_ne _ _ _ _ _ (by omega), fun r hr => Ev.sc ?_⟩
    show Ev (fun k => laws_markInstS.l0_ k (laws_markInstS.l0 k) n _ l) _
    unfold laws_markInstS.l0_
    simp only [updAt_length, head_in hi, head_0, Bool.and_self, cond_true, Int.toNat_natCast, wrap_nat (show i < 9223372036854775807 by omega), wrap_id (x := n + 1) (by omega) (by omega), wrap_id (x := n + 1 + 1) (by omega) (by omega), wrap_id (x := n + 1 + 1 + 1) (by omega) (by omega), wrap_id (x := n + 1 + 1 + 1 + 1) (by omega) (by omega), wrap_id (x := n + 1 + 1 + 1 + 1 + 1) (by omega) (by omega), wrap_id (x := n + 1 + 1 + 1 + 1 + 1 + 1) (by omega) (by omega), updAt_twice hi, updAt_at _ _ _ _ hi]
    exact Ev.bind (markInts _ (n + 1 + 1 + 1 + 1 + 1 + 1) hlen (by omega) (by omega)) hr
theorem markBlocks (l : List tBlockD) (hs : Small (.list tBlock) l) (n : Int) (h0 : 0 ≤ n) (hM : n ≤ 1048577) : ∃ n' l', Ev (fun k => laws_markBlockS.f k n l) (mkr n' l') ∧ n ≤ n' ∧ n' ≤ n + 1048576 * (1048576 * 1048577 + 1048576 * 1048582 + 4) ∧ l'.length = l.length := by
  refine mark_all (z := tBlockZ) (B := 1048576 * 1048577 + 1048576 * 1048582 + 4) (by omega) (small := Small tBlock) (L := laws_markBlockS.l0) (M := 4611686018427387904) (fun l n k => ?_) (fun l i n hi hl hx h0 hM => ?_) l n hs.1 hs.2 h0 (by omega)
  · show laws_markBlockS.l0_ k (laws_markBlockS.l0 k) n _ l = _
    unfold laws_markBlockS.l0_
    rw [head_end]; rfl
  · obtain ⟨n1, p1, e1, a1, b1, c1⟩ := markPhis (l.getD i tBlockZ).1 hx.1 n h0 (by omega)
    obtain ⟨n2, p2, e2, a2, b2, c2⟩ := markInsts (l.getD i tBlockZ).2.1 hx.2.1 n1 (by omega) (by omega)
    refine ⟨n2 + 1 + 1 + 1 + 1, updAt tBlockZ l i (fun q_ => (p1, p2, n2, n2 + 1, n2 + 1 + 1, n2 + 1 + 1 + 1, q_.2.2.2.2.2.2)), by omega, by omega, updAt_length _ _ _ _, fun j hj => updAt_ne _ _ _ _ _ (by omega), fun r hr => Ev.sc ?_⟩
    show Ev (fun k => laws_markBlockS.l0_ k (laws_markBlockS.l0 k) n _ l) _
    unfold laws_markBlockS.l0_
    simp only [updAt_length, head_in hi, head_0, Bool.and_self, cond_true, Int.toNat_natCast, wrap_nat (show i < 9223372036854775807 by omega), updAt_twice hi, updAt_at _ _ _ _ hi]
    refine Ev.bind e1 (Ev.bind e2 ?_)
    simp only [mkr, wrap_id (x := n2 + 1) (by omega) (by omega), wrap_id (x := n2 + 1 + 1) (by omega) (by omega), wrap_id (x := n2 + 1 + 1 + 1) (by omega) (by omega), wrap_id (x := n2 + 1 + 1 + 1 + 1) (by omega) (by omega)]
    exact hr
theorem markFunc (w : Int) {p : List Int} (hp : Small (.list (.int .i64)) p) {b : List tBlockD} (hb : Small (.list tBlock) b) : ∃ n' p' b', Ev (fun k => laws_markFunc.f k w 1 p b) (((n', ()), ()), (p', b', ())) ∧ 0 ≤ n' ∧ n' ≤ 4611686018427387904 := by
  have hp1 : p.length ≤ 1048576 := hp.1
  obtain ⟨n2, p2, e2, a2, b2, c2⟩ := markBlocks b hb (1 + (p.length : Int)) (by omega) (by omega)
  exact ⟨n2, _, _, Ev.bind (markInts p 1 hp1 (by omega) (by omega)) (Ev.bind e2 (Ev.cst rfl)), by omega, by omega⟩
end Go.Proofs.YtkfehogikjcgkaaGreat.V
namespace Go.Proofs.YtkfehogikjcgkaaGreat.V
open Go
set_option linter.unusedVariables false
set_option linter.unusedSimpArgs false
def inB (lo hi x : Int) : Bool := decide (lo ≤ x) && decide (x ≤ hi)
def wOk (w : Int) : Bool := decide (w = 1) || decide (w = 8) || decide (w = 16) || decide (w = 32)
def opsB (i : tInstD) : List Int :=
  bif inB 1 17 i.1 then [i.2.2.1, i.2.2.2.1] else bif decide (i.1 = 24) then [i.2.2.1, i.2.2.2.1] else bif inB 18 20 i.1 then [i.2.2.1] else bif decide (i.1 = 23) then [i.2.2.1] else bif decide (i.1 = 25) then [i.2.2.1] else bif decide (i.1 = 27) then [i.2.2.1] else
  bif decide (i.1 = 22) then [i.2.2.1, i.2.2.2.1, i.2.2.2.2.1] else bif decide (i.1 = 26) then i.2.2.2.2.2.2.1 else []
theorem specIn (k : Nat) (a lo hi : Int) : spec_l1In.f k a lo hi = some (one (inB lo hi a)) := by
  unfold spec_l1In.f inB
  cases decide (lo ≤ a) <;> rfl
theorem implIn (k : Nat) (a lo hi : Int) : impl_within.f k a lo hi = some (one (inB lo hi a)) := by
  unfold impl_within.f inB
  cases decide (lo ≤ a) <;> rfl
theorem specW (k : Nat) (a : Int) : spec_WidthOk.f k a = some (one (wOk a)) := by
  unfold spec_WidthOk.f wOk
  cases decide (a = 1) <;> cases decide (a = 8) <;> cases decide (a = 16) <;> rfl
theorem implW (k : Nat) (a : Int) : impl_WidthOk.f k a = some (one (wOk a)) := by
  unfold impl_WidthOk.f wOk
  cases decide (a = 1) <;> cases decide (a = 8) <;> cases decide (a = 16) <;> rfl
theorem specCopy (k : Nat) {l : List Int} (h : l.length ≤ 1048576) : spec_l1Copy.f k l = some (rowR l) := by
  unfold spec_l1Copy.f
  rw [dpos (by simp; omega)]; rfl
theorem implClone (k : Nat) {l : List Int} (h : l.length ≤ 1048576) : slices_Clone_int64_int64.f k l = some (rowR l) := by
  unfold slices_Clone_int64_int64.f cloneF
  rw [dpos (by omega)]; rfl
theorem specOps (k : Nat) {i : tInstD} (h : i.2.2.2.2.2.2.1.length ≤ 1048576) : spec_l2Operands.f k i = some (rowR (opsB i)) := by
  unfold spec_l2Operands.f opsB
  simp only [specIn, specCopy k h, Option.bind_some]
  cases inB 1 17 i.1
  · cases decide (i.1 = 24)
    · cases inB 18 20 i.1
      · cases decide (i.1 = 23)
        · cases decide (i.1 = 25)
          · cases decide (i.1 = 27)
            · cases decide (i.1 = 22)
              · cases decide (i.1 = 26) <;> rfl
              · rfl
            · rfl
          · rfl
        · rfl
      · rfl
    · rfl
  · rfl
theorem implBin (k : Nat) (a : Int) : impl_isBinary.f k a = some (one (inB 1 17 a)) := by
  unfold impl_isBinary.f
  rw [implIn]; rfl
theorem implCast (k : Nat) (a : Int) : impl_isCast.f k a = some (one (inB 18 20 a)) := by
  unfold impl_isCast.f
  rw [implIn]; rfl
theorem implOps (k : Nat) {i : tInstD} (h : i.2.2.2.2.2.2.1.length ≤ 1048576) : impl_OperandsOf.f k i = some (rowR (opsB i)) := by
  unfold impl_OperandsOf.f opsB
  simp only [implBin, implCast, implClone k h, Option.bind_some]
  cases inB 1 17 i.1
  · cases decide (i.1 = 24)
    · cases inB 18 20 i.1
      · cases decide (i.1 = 23)
        · cases decide (i.1 = 25)
          · cases decide (i.1 = 27)
            · cases decide (i.1 = 22)
              · cases decide (i.1 = 26) <;> rfl
              · rfl
            · rfl
          · rfl
        · rfl
      · rfl
    · rfl
  · rfl
/-! ### instructions -/
def topOf (w : Int) : Int := bif decide (w = 1) then 1 else bif decide (w = 8) then 255 else bif decide (w = 16) then 65535 else 4294967295
def valB (w x : Int) : Bool := wOk w && inB 0 (topOf w) x
theorem wOk_cases {w : Int} (h : wOk w = true) : w = 1 ∨ w = 8 ∨ w = 16 ∨ w = 32 := by
  simp only [wOk, Bool.or_eq_true, decide_eq_true_eq] at h
  omega
theorem specVal (k : Nat) (w x : Int) : spec_l1Value.f k w x = some (one (valB w x)) := by
  unfold spec_l1Value.f valB
  simp only [specW, Option.bind_some]
  cases h : wOk w with
  | false => rfl
  | true => rcases wOk_cases h with rfl | rfl | rfl | rfl <;> (unfold spec_l1Top.f; simp only [specIn]; rfl)
theorem implVal (k : Nat) (w x : Int) : impl_isValue.f k w x = some (one (valB w x)) := by
  unfold impl_isValue.f valB
  simp only [implW, Option.bind_some]
  cases h : wOk w with
  | false => rfl
  | true => rcases wOk_cases h with rfl | rfl | rfl | rfl <;> (unfold impl_mask.f; simp only [implIn]; rfl)
def widB (i : tInstD) : Bool := bif decide (i.1 = 24) || decide (i.1 = 25) then decide (i.2.1 = 0) else bif decide (i.1 = 23) then decide (i.2.1 = 8) else wOk i.2.1
def immB (i : tInstD) (funcs : Int) : Bool := bif decide (i.1 = 21) then valB i.2.1 i.2.2.2.2.2.1 else bif decide (i.1 = 26) then inB 0 (funcs - 1) i.2.2.2.2.2.1 else decide (i.2.2.2.2.2.1 = 0)
def named (i : tInstD) : Nat := bif decide (i.1 = 26) then 0 else (opsB i).length
def zerosB (i : tInstD) : Bool := ([i.2.2.1, i.2.2.2.1, i.2.2.2.2.1].drop (named i)).all fun n => decide (n = 0)
def instB (count funcs : Int) (i : tInstD) : Bool :=
  inB 1 27 i.1 && decide (i.2.2.2.2.2.2.1.length ≤ 4) && (decide (i.2.2.2.2.2.2.1.length = 0) || decide (i.1 = 26)) && (opsB i).all (inB 0 (count - 1)) && zerosB i && widB i && immB i funcs
theorem implWid (k : Nat) (i : tInstD) : impl_isWidth.f k i = some (one (widB i)) := by
  unfold impl_isWidth.f widB
  simp only [implW, Option.bind_some]
  by_cases h : i.1 = 24
  · simp [h]
  · by_cases h2 : i.1 = 25
    · simp [h2]
    · simp only [dneg h, dneg h2, cond_false, Bool.or_self]
      cases decide (i.1 = 23) <;> rfl
theorem implImm (k : Nat) (i : tInstD) {funcs : Int} (h0 : 0 ≤ funcs) (h1 : funcs ≤ 9223372036854775807) : impl_isImm.f k i funcs = some (one (immB i funcs)) := by
  unfold impl_isImm.f immB
  simp only [implVal, implIn, Option.bind_some, wrap_id (show -9223372036854775808 ≤ funcs - 1 by omega) (show funcs - 1 ≤ 9223372036854775807 by omega)]
  cases decide (i.1 = 21) <;> cases decide (i.1 = 26) <;> rfl
/-! ### ends -/
def termB (count blocks : Int) (t : tTermD) : Bool :=
  bif decide (t.1 = 1) then inB 0 (count - 1) t.2.1 && decide (t.2.2.1 = 0) && decide (t.2.2.2.1 = 0) else
  bif decide (t.1 = 2) then decide (t.2.1 = 0) && inB 0 (blocks - 1) t.2.2.1 && decide (t.2.2.2.1 = 0) else
  bif decide (t.1 = 3) then inB 0 (count - 1) t.2.1 && inB 0 (blocks - 1) t.2.2.1 && inB 0 (blocks - 1) t.2.2.2.1 && !decide (t.2.2.1 = t.2.2.2.1) else
  decide (t.1 = 4) && decide (t.2.1 = 0) && decide (t.2.2.1 = 0) && decide (t.2.2.2.1 = 0)
theorem specTerm (k : Nat) (t : tTermD) {count blocks : Int} (h0 : 0 ≤ count) (h1 : count ≤ 9223372036854775807) (h2 : 0 ≤ blocks) (h3 : blocks ≤ 9223372036854775807) : spec_l2Term.f k t count blocks = some (one (termB count blocks t)) := by
  unfold spec_l2Term.f termB
  simp only [specIn, Option.bind_some, wrap_id (show -9223372036854775808 ≤ count - 1 by omega) (show count - 1 ≤ 9223372036854775807 by omega), wrap_id (show -9223372036854775808 ≤ blocks - 1 by omega) (show blocks - 1 ≤ 9223372036854775807 by omega)]
  cases decide (t.1 = 1)
  · cases decide (t.1 = 2)
    · cases decide (t.1 = 3)
      · cases decide (t.1 = 4) <;> cases decide (t.2.1 = 0) <;> cases decide (t.2.2.1 = 0) <;> rfl
      · cases inB 0 (count - 1) t.2.1 <;> cases inB 0 (blocks - 1) t.2.2.1 <;> cases inB 0 (blocks - 1) t.2.2.2.1 <;> rfl
    · cases decide (t.2.1 = 0) <;> cases inB 0 (blocks - 1) t.2.2.1 <;> rfl
  · cases inB 0 (count - 1) t.2.1 <;> cases decide (t.2.2.1 = 0) <;> rfl
theorem implTerm1 (k : Nat) (a : Int) {f : tFuncD} (h : f.2.2.1.length ≤ 1048576) : impl_isTerm_1.f k a f = some (one (inB 0 ((f.2.2.1.length : Int) - 1) a)) := by
  unfold impl_isTerm_1.f
  rw [implIn, wrap_id (by omega) (by omega)]; rfl
theorem implTerm (k : Nat) (t : tTermD) {f : tFuncD} (h : f.2.2.1.length ≤ 1048576) {count : Int} (h0 : 0 ≤ count) (h1 : count ≤ 9223372036854775807) : impl_isTerm.f k f t count = some (one (termB count (f.2.2.1.length : Int) t)) := by
  unfold impl_isTerm.f termB
  simp only [implIn, implTerm1 k _ h, Option.bind_some, wrap_id (show -9223372036854775808 ≤ count - 1 by omega) (show count - 1 ≤ 9223372036854775807 by omega)]
  generalize (f.2.2.1.length : Int) = blocks
  cases decide (t.1 = 1)
  · cases decide (t.1 = 2)
    · cases decide (t.1 = 3)
      · cases decide (t.1 = 4) <;> cases decide (t.2.1 = 0) <;> cases decide (t.2.2.1 = 0) <;> rfl
      · cases inB 0 (count - 1) t.2.1 <;> cases inB 0 (blocks - 1) t.2.2.1 <;> cases inB 0 (blocks - 1) t.2.2.2.1 <;> rfl
    · cases decide (t.2.1 = 0) <;> cases inB 0 (blocks - 1) t.2.2.1 <;> rfl
  · cases inB 0 (count - 1) t.2.1 <;> cases decide (t.2.2.1 = 0) <;> rfl
end Go.Proofs.YtkfehogikjcgkaaGreat.V
namespace Go.Proofs.YtkfehogikjcgkaaGreat.V
open Go
set_option linter.unusedVariables false
set_option linter.unusedSimpArgs false
theorem any_not {α : Type} {p : α → Bool} : ∀ {l : List α}, (l.any fun x => !p x) = !l.all p
  | [] => rfl
  | x :: l => by simp only [List.any_cons, List.all_cons, any_not (l := l), Bool.not_and]
theorem implIn1 {l : List Int} (h : l.length ≤ 1048576) {count : Int} (h0 : 0 ≤ count) (h1 : count ≤ 9223372036854775807) : Ev (fun k => slices_ContainsFunc_int64_int64_3.f k l count) (one (!l.all (inB 0 (count - 1)))) := by
  rw [← any_not]
  exact index_ev (z := 0) (L := fun k b a => slices_IndexFunc_int64_int64_3.l0 k l b a count) (q := fun k x => impl_isInst_1.f k x count) (by omega) (fun k b a => rfl) fun x _ => Ev.all fun k => by
    unfold impl_isInst_1.f
    rw [implIn, wrap_id (by omega) (by omega)]; rfl
theorem implZero {l : List Int} (h : l.length ≤ 1048576) : Ev (fun k => slices_ContainsFunc_int64_int64_4.f k l) (one (!l.all fun n => decide (n = 0))) := by
  rw [← any_not]
  exact index_ev (z := 0) (L := fun k b a => slices_IndexFunc_int64_int64_4.l0 k l b a) (q := fun k x => impl_isInst_2.f k x) (by omega) (fun k b a => rfl) fun x _ => Ev.all fun k => rfl
theorem opsB_len {i : tInstD} (h : i.2.2.2.2.2.2.1.length ≤ 1048576) : (opsB i).length ≤ 1048576 := by
  unfold opsB
  cases inB 1 17 i.1 <;> cases decide (i.1 = 24) <;> cases inB 18 20 i.1 <;> cases decide (i.1 = 23) <;> cases decide (i.1 = 25) <;> cases decide (i.1 = 27) <;> cases decide (i.1 = 22) <;> cases decide (i.1 = 26) <;> simp only [cond_true, cond_false, List.length_cons, List.length_nil] <;> omega
theorem opsB_few {i : tInstD} (h : i.1 ≠ 26) : (opsB i).length ≤ 3 := by
  unfold opsB
  rw [dneg h]
  cases inB 1 17 i.1 <;> cases decide (i.1 = 24) <;> cases inB 18 20 i.1 <;> cases decide (i.1 = 23) <;> cases decide (i.1 = 25) <;> cases decide (i.1 = 27) <;> cases decide (i.1 = 22) <;> simp
theorem ev_and {g : Nat → Option BR} {b c : Bool} (h : Ev g (one c)) : Ev (fun k => bif !b then some (one false) else g k) (one (b && c)) := by
  cases b with
  | true => exact Ev.neg rfl h
  | false => exact Ev.pos rfl (Ev.cst rfl)
theorem ev_and' {g : Nat → Option BR} {b c : Bool} (h : Ev g (one c)) : Ev (fun k => bif b then some (one false) else g k) (one (!b && c)) := by
  cases b with
  | true => exact Ev.pos rfl (Ev.cst rfl)
  | false => exact Ev.neg rfl h
/-- What comes behind the operands, in the program. -/
theorem implTail {i : tInstD} {l : List Int} (hl : l.length ≤ 1048576) {funcs : Int} (h0 : 0 ≤ funcs) (h1 : funcs ≤ 9223372036854775807) : Ev (fun k => Option.bind (slices_ContainsFunc_int64_int64_4.f k l) fun r4 => bif r4.1.1.1 then some (((false, ()), ()), ()) else Option.bind (impl_isWidth.f k i) fun r5 => bif r5.1.1.1 then Option.bind (impl_isImm.f k i funcs) fun r6 => some (((r6.1.1.1, ()), ()), ()) else some (((false, ()), ()), ())) (one ((l.all fun n => decide (n = 0)) && widB i && immB i funcs)) := by
  refine Ev.bind (implZero hl) ?_
  cases l.all fun n => decide (n = 0) with
  | false => exact Ev.cst rfl
  | true =>
    refine Ev.all fun k => ?_
    simp only [implWid, implImm k i h0 h1, Option.bind_some]
    cases widB i <;> cases immB i funcs <;> rfl
theorem implInst {i : tInstD} (hs : i.2.2.2.2.2.2.1.length ≤ 1048576) {count funcs : Int} (h0 : 0 ≤ count) (h1 : count ≤ 9223372036854775807) (h2 : 0 ≤ funcs) (h3 : funcs ≤ 9223372036854775807) : Ev (fun k => impl_isInst.f k i count funcs) (one (instB count funcs i)) := by
  have rest : i.1 = 26 ∨ i.1 ≠ 26 → Ev (fun k => Option.bind (impl_OperandsOf.f k i) fun r2 => Option.bind (slices_ContainsFunc_int64_int64_3.f k r2.2.1 count) fun r3 => bif r3.1.1.1 then some (((false, ()), ()), ()) else
      bif decide (i.1 = 26) then (bif (decide ((0 : Int) ≤ 0)) && (decide ((0 : Int) ≤ ((List.length [i.2.2.1, i.2.2.2.1, i.2.2.2.2.1] : Nat) : Int))) then (Option.bind (slices_ContainsFunc_int64_int64_4.f k [i.2.2.1, i.2.2.2.1, i.2.2.2.2.1]) fun r4 => bif r4.1.1.1 then some (((false, ()), ()), ()) else Option.bind (impl_isWidth.f k i) fun r5 => bif r5.1.1.1 then Option.bind (impl_isImm.f k i funcs) fun r6 => some (((r6.1.1.1, ()), ()), ()) else some (((false, ()), ()), ())) else none)
      else (bif (decide (0 ≤ ((List.length r2.2.1 : Nat) : Int))) && (decide (((List.length r2.2.1 : Nat) : Int) ≤ ((List.length [i.2.2.1, i.2.2.2.1, i.2.2.2.2.1] : Nat) : Int))) then (Option.bind (slices_ContainsFunc_int64_int64_4.f k (List.drop (Int.toNat ((List.length r2.2.1 : Nat) : Int)) [i.2.2.1, i.2.2.2.1, i.2.2.2.2.1])) fun r4 => bif r4.1.1.1 then some (((false, ()), ()), ()) else Option.bind (impl_isWidth.f k i) fun r5 => bif r5.1.1.1 then Option.bind (impl_isImm.f k i funcs) fun r6 => some (((r6.1.1.1, ()), ()), ()) else some (((false, ()), ()), ())) else none))
      (one ((opsB i).all (inB 0 (count - 1)) && (zerosB i && widB i && immB i funcs))) := by
    intro hd
    refine Ev.bind (Ev.all fun k => implOps k hs) (Ev.bind (implIn1 (opsB_len hs) h0 h1) ?_)
    cases (opsB i).all (inB 0 (count - 1)) with
    | false => exact Ev.cst rfl
    | true =>
      rcases hd with hd | hd
      · refine Ev.neg rfl (Ev.pos (dpos hd) (Ev.pos rfl ?_))
        have := implTail (i := i) (l := [i.2.2.1, i.2.2.2.1, i.2.2.2.2.1]) (by simp) h2 h3
        refine this.rw ?_
        unfold zerosB named
        rw [dpos hd]; rfl
      · refine Ev.neg rfl (Ev.neg (dneg hd) (Ev.pos ?_ ?_))
        · have := opsB_few hd
          show (decide (0 ≤ ((opsB i).length : Int)) && decide (((opsB i).length : Int) ≤ 3)) = true
          rw [dpos (by omega), dpos (by omega)]; rfl
        · have := implTail (i := i) (l := List.drop (opsB i).length [i.2.2.1, i.2.2.2.1, i.2.2.2.2.1]) (by simp; omega) h2 h3
          refine this.rw ?_
          unfold zerosB named
          rw [dneg hd]; rfl
  have rest := rest (Decidable.em _)
  unfold impl_isInst.f
  refine Ev.bind (Ev.all fun k => implIn k _ _ _) ?_
  unfold instB
  generalize hz : ((opsB i).all (inB 0 (count - 1)) && (zerosB i && widB i && immB i funcs)) = zz at rest
  have hzz : ∀ b c d : Bool, (b && c && d && (opsB i).all (inB 0 (count - 1)) && zerosB i && widB i && immB i funcs) = (b && c && d && zz) := fun b c d => by rw [← hz]; simp only [Bool.and_assoc]
  rw [hzz]
  cases inB 1 27 i.1 with
  | false => exact Ev.pos rfl (Ev.cst rfl)
  | true =>
    refine Ev.neg rfl ?_
    by_cases h4 : 4 < ((i.2.2.2.2.2.2.1.length : Nat) : Int)
    · refine Ev.pos (dpos h4) (Ev.cst ?_)
      rw [dneg (show ¬ i.2.2.2.2.2.2.1.length ≤ 4 by omega)]; rfl
    · refine Ev.neg (dneg h4) ?_
      rw [dpos (show i.2.2.2.2.2.2.1.length ≤ 4 by omega)]
      by_cases h5 : 0 < ((i.2.2.2.2.2.2.1.length : Nat) : Int)
      · refine Ev.pos (dpos h5) ?_
        rw [dneg (show ¬ i.2.2.2.2.2.2.1.length = 0 by omega)]
        by_cases h6 : i.1 = 26
        · exact Ev.neg (by rw [dpos h6]; rfl) (rest.rw (by rw [dpos h6]; rfl))
        · exact Ev.pos (by rw [dneg h6]; rfl) (Ev.cst (by rw [dneg h6]; rfl))
      · refine Ev.neg (dneg h5) (rest.rw ?_)
        rw [dpos (show i.2.2.2.2.2.2.1.length = 0 by omega)]; rfl
/-! ### the specification's -/
theorem zeros_at {a b c : Int} : ∀ n : Nat, ([a, b, c].drop n).all (fun n => decide (n = 0)) = ((bif decide ((n : Int) < 1) then decide (a = 0) else true) && (bif decide ((n : Int) < 2) then decide (b = 0) else true) && (bif decide ((n : Int) < 3) then decide (c = 0) else true))
  | 0 => by simp [Bool.and_assoc]
  | 1 => by simp
  | 2 => by simp
  | n + 3 => by
    rw [dneg (show ¬ (((n + 3 : Nat) : Int) < 1) by omega), dneg (show ¬ (((n + 3 : Nat) : Int) < 2) by omega), dneg (show ¬ (((n + 3 : Nat) : Int) < 3) by omega)]
    simp
set_option synthInstance.maxHeartbeats 400000 in
set_option synthInstance.maxSize 100000 in
theorem specInst0 {i : tInstD} {ids : List Int} (hl : ids.length ≤ 1048576) {count funcs : Int} (h0 : 0 ≤ count) (h1 : count ≤ 9223372036854775807) (h2 : 0 ≤ funcs) (h3 : funcs ≤ 9223372036854775807) (hn : named i = bif decide (i.1 = 26) then 0 else ids.length) :
    Ev (fun k => spec_l2Inst.l0 k count funcs 0 i ids) (one (ids.all (inB 0 (count - 1)) && (decide (i.2.2.2.2.2.2.1.length ≤ 4) && zerosB i && widB i && immB i funcs))) := by
  refine each_ev (z := 0) (L := fun k a => spec_l2Inst.l0 k count funcs a i ids) (V := fun m => one (m.all (inB 0 (count - 1)) && (decide (i.2.2.2.2.2.2.1.length ≤ 4) && zerosB i && widB i && immB i funcs))) (q := fun k x g => Option.bind (spec_l1In.f k x 0 (IntKind.wrap .i64 (count - 1))) fun r1 => bif !r1.1.1.1 then some (((false, ()), ()), ()) else g k) (by omega) (fun k a => rfl) ?_ ?_
  · refine Ev.all fun k => ?_
    have hz : zerosB i = ((bif decide (((named i : Nat) : Int) < 1) then decide (i.2.2.1 = 0) else true) && (bif decide (((named i : Nat) : Int) < 2) then decide (i.2.2.2.1 = 0) else true) && (bif decide (((named i : Nat) : Int) < 3) then decide (i.2.2.2.2.1 = 0) else true)) := zeros_at _
    rw [hz, hn]
    simp only [specVal, specIn, specW, Option.bind_some, wrap_id (show -9223372036854775808 ≤ funcs - 1 by omega) (show funcs - 1 ≤ 9223372036854775807 by omega), List.all_nil, Bool.true_and]
    have h4 : decide (i.2.2.2.2.2.2.1.length ≤ 4) = !decide (4 < ((List.length i.2.2.2.2.2.2.1 : Nat) : Int)) := by
      by_cases h : 4 < ((List.length i.2.2.2.2.2.2.1 : Nat) : Int)
      · rw [dpos h, dneg (by omega)]; rfl
      · rw [dneg h, dpos (by omega)]; rfl
    rw [h4]
    unfold widB immB
    have fin : ∀ (o24 o25 o26 o21 o23 w0 w8 wk : Bool), decide (i.1 = 24) = o24 → decide (i.1 = 25) = o25 → decide (i.1 = 26) = o26 → decide (i.1 = 21) = o21 → decide (i.1 = 23) = o23 → decide (i.2.1 = 0) = w0 → decide (i.2.1 = 8) = w8 → wOk i.2.1 = wk →
        (o24 = true ∧ o25 = false ∧ o26 = false ∧ o21 = false ∧ o23 = false ∨ o24 = false ∧ o25 = true ∧ o26 = false ∧ o21 = false ∧ o23 = false ∨ o24 = false ∧ o25 = false ∧ o26 = true ∧ o21 = false ∧ o23 = false ∨ o24 = false ∧ o25 = false ∧ o26 = false ∧ o21 = true ∧ o23 = false ∨ o24 = false ∧ o25 = false ∧ o26 = false ∧ o21 = false ∧ o23 = true ∨ o24 = false ∧ o25 = false ∧ o26 = false ∧ o21 = false ∧ o23 = false) ∧
        (w0 = true ∧ w8 = false ∧ wk = false ∨ w0 = false ∧ w8 = true ∧ wk = true ∨ w0 = false ∧ w8 = false) := by
      rintro _ _ _ _ _ _ _ _ rfl rfl rfl rfl rfl rfl rfl rfl
      simp only [decide_eq_true_eq, decide_eq_false_iff_not]
      refine ⟨by omega, ?_⟩
      by_cases h : i.2.1 = 0
      · exact .inl ⟨h, by omega, by rw [h]; rfl⟩
      · by_cases h' : i.2.1 = 8
        · exact .inr (.inl ⟨h, h', by rw [h']; rfl⟩)
        · exact .inr (.inr ⟨h, h'⟩)
    have fin := fin _ _ _ _ _ _ _ _ rfl rfl rfl rfl rfl rfl rfl rfl
    clear hz h4 hn
    generalize decide (i.1 = 24) = o24 at fin ⊢
    generalize decide (i.1 = 25) = o25 at fin ⊢
    generalize decide (i.1 = 26) = o26 at fin ⊢
    generalize decide (i.1 = 21) = o21 at fin ⊢
    generalize decide (i.1 = 23) = o23 at fin ⊢
    generalize decide (i.2.1 = 0) = w0 at fin ⊢
    generalize decide (i.2.1 = 8) = w8 at fin ⊢
    generalize wOk i.2.1 = wk at fin ⊢
    have z1 : decide (((0 : Nat) : Int) < 1) = true := rfl
    have z2 : decide (((0 : Nat) : Int) < 2) = true := rfl
    have z3 : decide (((0 : Nat) : Int) < 3) = true := rfl
    have y1 : decide ((0 : Int) < 1) = true := rfl
    have y2 : decide ((0 : Int) < 2) = true := rfl
    have y3 : decide ((0 : Int) < 3) = true := rfl
    obtain ⟨f1, f2⟩ := fin
    rcases f1 with ⟨rfl, rfl, rfl, rfl, rfl⟩ | ⟨rfl, rfl, rfl, rfl, rfl⟩ | ⟨rfl, rfl, rfl, rfl, rfl⟩ | ⟨rfl, rfl, rfl, rfl, rfl⟩ | ⟨rfl, rfl, rfl, rfl, rfl⟩ | ⟨rfl, rfl, rfl, rfl, rfl⟩ <;> rcases f2 with ⟨rfl, rfl, rfl⟩ | ⟨rfl, rfl, rfl⟩ | ⟨rfl, rfl⟩ <;>
      simp only [cond_true, cond_false, z1, z2, z3, y1, y2, y3, beq_self_eq_true, Bool.not_true, Bool.not_false, Bool.or_true, Bool.or_false, Bool.and_false, Bool.false_and, Bool.true_and, Bool.and_true, show (true == false) = false from rfl, show (false == true) = false from rfl, Int.reduceLT, decide_true, decide_false] <;>
      generalize decide (4 < ((List.length i.2.2.2.2.2.2.1 : Nat) : Int)) = l4 <;>
      generalize decide (((ids.length : Nat) : Int) < 1) = n1 <;> generalize decide (((ids.length : Nat) : Int) < 2) = n2 <;> generalize decide (((ids.length : Nat) : Int) < 3) = n3 <;>
      generalize decide (i.2.2.1 = 0) = a <;> generalize decide (i.2.2.2.1 = 0) = b <;> generalize decide (i.2.2.2.2.1 = 0) = c <;> generalize decide (i.2.2.2.2.2.1 = 0) = m <;>
      generalize valB i.2.1 i.2.2.2.2.2.1 = va <;> generalize inB 0 (funcs - 1) i.2.2.2.2.2.1 = vb <;> revert l4 n1 n2 n3 a b c m va vb <;> (try revert wk) <;> decide +kernel
  · intro x m g hx hg
    refine Ev.bind (Ev.all fun k => specIn k _ _ _) ?_
    rw [wrap_id (by omega) (by omega), List.all_cons, Bool.and_assoc]
    exact ev_and hg
end Go.Proofs.YtkfehogikjcgkaaGreat.V
namespace Go.Proofs.YtkfehogikjcgkaaGreat.V
open Go
set_option linter.unusedVariables false
set_option linter.unusedSimpArgs false
theorem specInst {i : tInstD} (hs : i.2.2.2.2.2.2.1.length ≤ 1048576) {count funcs : Int} (h0 : 0 ≤ count) (h1 : count ≤ 9223372036854775807) (h2 : 0 ≤ funcs) (h3 : funcs ≤ 9223372036854775807) : Ev (fun k => spec_l2Inst.f k i count funcs) (one (instB count funcs i)) := by
  have hn : named i = bif decide (i.1 = 26) then 0 else (opsB i).length := rfl
  have l0 := specInst0 (opsB_len hs) h0 h1 h2 h3 hn
  unfold spec_l2Inst.f
  refine Ev.bind (Ev.all fun k => specIn k _ _ _) ?_
  unfold instB
  generalize hz : ((opsB i).all (inB 0 (count - 1))) = za at l0 ⊢
  cases inB 1 27 i.1 with
  | false => exact Ev.pos rfl (Ev.cst rfl)
  | true =>
    refine Ev.neg rfl ?_
    have done : ∀ b : Bool, b = true → Ev (fun k => Option.bind (spec_l2Operands.f k i) fun r3 => spec_l2Inst.l0 k count funcs 0 i r3.2.1) (one (true && decide (i.2.2.2.2.2.2.1.length ≤ 4) && b && za && zerosB i && widB i && immB i funcs)) := by
      rintro _ rfl
      refine (Ev.bind (f := fun k r3 => spec_l2Inst.l0 k count funcs 0 i r3.2.1) (Ev.all fun k => specOps k hs) l0).rw ?_
      generalize decide (i.2.2.2.2.2.2.1.length ≤ 4) = z4
      generalize zerosB i = z5
      generalize widB i = z6
      generalize immB i funcs = z7
      clear l0 hz
      revert za z4 z5 z6 z7
      decide
    by_cases h6 : i.1 = 26
    · exact Ev.neg (by rw [dpos h6]; rfl) (done _ (by rw [dpos h6, Bool.or_true]))
    · refine Ev.pos (by rw [dneg h6]; rfl) ?_
      by_cases h5 : 0 < ((i.2.2.2.2.2.2.1.length : Nat) : Int)
      · refine Ev.pos (dpos h5) (Ev.cst ?_)
        rw [dneg (show ¬ i.2.2.2.2.2.2.1.length = 0 by omega), dneg h6]
        simp
      · exact Ev.neg (dneg h5) (done _ (by rw [dpos (show i.2.2.2.2.2.2.1.length = 0 by omega), Bool.true_or]))
/-! ### how many ids -/
def sumB {α : Type} (w : α → Int) : List α → Int
  | [] => 0
  | x :: l => w x + sumB w l
theorem sumB_le {α : Type} {w : α → Int} {m : Int} : ∀ {l : List α}, (∀ x ∈ l, 0 ≤ w x ∧ w x ≤ m) → 0 ≤ sumB w l ∧ sumB w l ≤ l.length * m
  | [], _ => by simp [sumB]
  | x :: l, h => by
    obtain ⟨a, b⟩ := sumB_le (l := l) fun y hy => h y (by simp [hy])
    obtain ⟨c, d⟩ := h x (by simp)
    simp only [sumB, List.length_cons]
    have : ((l.length + 1 : Nat) : Int) * m = l.length * m + m := by
      rw [Int.natCast_add, Int.add_mul]; simp
    omega
theorem acc_ev {α : Type} {l : List α} {w : α → Int} {L : Nat → Int → Int → Option IR} (hw : ∀ x ∈ l, 0 ≤ w x ∧ w x ≤ 2097152) (hlen : l.length ≤ 1048576)
    (h1 : ∀ k a (i : Nat) (h : i < l.length), L (k + 1) a (i : Int) = L k (IntKind.wrap .i64 (a + IntKind.wrap .i64 (w l[i]))) ((i + 1 : Nat) : Int)) (h2 : ∀ k a, L (k + 1) a (l.length : Int) = some (one a)) {a : Int} (ha : 0 ≤ a) (ha' : a ≤ 1048576) : Ev (fun k => L k a 0) (one (a + sumB w l)) := by
  have key : ∀ (d i : Nat) (a : Int), i + d = l.length → 0 ≤ a → a ≤ 1048576 + i * 2097152 → Ev (fun k => L k a (i : Int)) (one (a + sumB w (l.drop i))) := by
    intro d
    induction d with
    | zero =>
      intro i a hi h0 h3
      have hi' : i = l.length := by omega
      subst hi'
      rw [List.drop_length]
      exact Ev.step (g' := fun _ => some (one a)) (Ev.cst (by simp [sumB])) fun k => h2 k a
    | succ d ih =>
      intro i a hi h0 h3
      have hi' : i < l.length := by omega
      obtain ⟨w0, w1⟩ := hw l[i] (List.getElem_mem hi')
      have := ih (i + 1) (a + w l[i]) (by omega) (by omega) (by omega)
      refine (Ev.step this fun k => ?_).rw ?_
      · show L (k + 1) a (i : Int) = _
        rw [h1 k a i hi', wrap_id (x := w l[i]) (by omega) (by omega), wrap_id (by omega) (by omega)]
      · rw [List.drop_eq_getElem_cons hi']
        simp only [sumB]
        rw [Int.add_assoc]
  have := key l.length 0 a (by omega) ha (by omega)
  simpa using this
def cntB (f : tFuncD) : Int := (f.1.length : Int) + sumB (fun x : tBlockD => ((x.1.length : Nat) : Int) + ((x.2.1.length : Nat) : Int)) f.2.2.1
theorem blk_small {f : tFuncD} (h : Small tFunc f) : ∀ x ∈ f.2.2.1, x.1.length ≤ 1048576 ∧ x.2.1.length ≤ 1048576 := fun x hx => by
  have := h.2.2.1.2 x hx
  exact ⟨this.1.1, this.2.1.1⟩
theorem cntB_le {f : tFuncD} (h : Small tFunc f) : 0 ≤ cntB f ∧ cntB f ≤ 1048576 + 1048576 * 2097152 := by
  have h1 : f.1.length ≤ 1048576 := h.1.1
  have h2 : f.2.2.1.length ≤ 1048576 := h.2.2.1.1
  have := sumB_le (w := fun x : tBlockD => ((x.1.length : Nat) : Int) + ((x.2.1.length : Nat) : Int)) (m := 2097152) (l := f.2.2.1) fun x hx => by
    have := blk_small h x hx
    omega
  unfold cntB
  omega
theorem specCount {f : tFuncD} (h : Small tFunc f) : Ev (fun k => spec_CountOf.f k f) (one (cntB f)) := by
  have h1 : f.1.length ≤ 1048576 := h.1.1
  exact acc_ev (L := fun k a i => spec_CountOf.l0 k a i f) (l := f.2.2.1) (w := fun x : tBlockD => ((x.1.length : Nat) : Int) + ((x.2.1.length : Nat) : Int)) (fun x hx => by have := blk_small h x hx; omega) h.2.2.1.1 (fun k a i hi => by
      show spec_CountOf.l0_ k (spec_CountOf.l0 k) a i f = _
      unfold spec_CountOf.l0_
      have hlen : f.2.2.1.length ≤ 1048576 := h.2.2.1.1
      simp only [head_in hi, head_0, Bool.and_self, cond_true, get_in hi, wrap_nat (show i < 9223372036854775807 by omega)]) (fun k a => by
      show spec_CountOf.l0_ k (spec_CountOf.l0 k) a _ f = _
      unfold spec_CountOf.l0_
      simp only [head_end, cond_false]) (by omega) (by omega)
theorem implCount {f : tFuncD} (h : Small tFunc f) : Ev (fun k => impl_CountOf.f k f) (one (cntB f)) := by
  have h1 : f.1.length ≤ 1048576 := h.1.1
  exact acc_ev (L := fun k a i => impl_CountOf.l0 k a f.2.2.1 ((List.length f.2.2.1 : Nat) : Int) i) (l := f.2.2.1) (w := fun x : tBlockD => ((x.1.length : Nat) : Int) + ((x.2.1.length : Nat) : Int)) (fun x hx => by have := blk_small h x hx; omega) h.2.2.1.1 (fun k a i hi => by
      show impl_CountOf.l0_ k (impl_CountOf.l0 k) a f.2.2.1 _ i = _
      unfold impl_CountOf.l0_
      have hlen : f.2.2.1.length ≤ 1048576 := h.2.2.1.1
      simp only [head_in hi, head_0, Bool.and_self, cond_true, get_in hi, wrap_nat (show i < 9223372036854775807 by omega)]) (fun k a => by
      show impl_CountOf.l0_ k (impl_CountOf.l0 k) a f.2.2.1 _ _ = _
      unfold impl_CountOf.l0_
      simp only [head_end, cond_false]) (by omega) (by omega)
/-! ### functions -/
def phiB (count : Int) (p : tPhiD) : Bool := wOk p.1 && decide (p.2.1.length ≤ 10) && p.2.1.all (inB 0 (count - 1))
def blockB (count funcs blocks : Int) (b : tBlockD) : Bool := b.1.all (phiB count) && b.2.1.all (instB count funcs) && termB count blocks b.2.2
def funcB (funcs : Int) (f : tFuncD) : Bool :=
  decide (f.1.length ≤ 4) && wOk f.2.1 && inB 1 10 (f.2.2.1.length : Int) && decide (cntB f ≤ 60) && f.1.all wOk && f.2.2.1.all (blockB (cntB f) funcs (f.2.2.1.length : Int))
section
variable {f : tFuncD} {funcs count blocks : Int}
theorem specFunc4 {x : tBlockD} (hx : Small tBlock x) (h0 : 0 ≤ count) (h1 : count ≤ 9223372036854775807) (h2 : 0 ≤ funcs) (h3 : funcs ≤ 9223372036854775807) (h4 : 0 ≤ blocks) (h5 : blocks ≤ 9223372036854775807) {j : Nat} (hj : j < 9223372036854775807) {r : Bool}
    (hr : Ev (fun k => spec_l2Func.l1 k funcs count blocks ((j + 1 : Nat) : Int) f) (one r)) : Ev (fun k => spec_l2Func.l4 k funcs count blocks j 0 f x) (one (x.2.1.all (instB count funcs) && (termB count blocks x.2.2 && r))) := by
  have hs := hx.2.1
  refine each_ev (z := tInstZ) (l := x.2.1) (L := fun k a => spec_l2Func.l4 k funcs count blocks j a f x) (V := fun m => one (m.all (instB count funcs) && (termB count blocks x.2.2 && r))) (q := fun k y g => Option.bind (spec_l2Inst.f k y count funcs) fun r1 => bif !r1.1.1.1 then some (((false, ()), ()), ()) else g k)
    (by have := hs.1; show List.length (α := tInstD) x.2.1 ≤ _; have : List.length (α := tInstD) x.2.1 ≤ 1048576 := this; omega) (fun k a => rfl) ?_ ?_
  · refine Ev.bind (Ev.all fun k => specTerm k x.2.2 h0 h1 h4 h5) ?_
    rw [wrap_nat hj, List.all_nil, Bool.true_and]
    exact ev_and hr
  · intro y m g hy hg
    refine Ev.bind (specInst (i := y) ((hs.2 y hy).2.2.2.2.2.2.1.1) h0 h1 h2 h3) ?_
    rw [List.all_cons, Bool.and_assoc]
    exact ev_and hg
theorem specFunc2 {x : tBlockD} (hx : Small tBlock x) (h0 : 0 ≤ count) (h1 : count ≤ 9223372036854775807) (h2 : 0 ≤ funcs) (h3 : funcs ≤ 9223372036854775807) (h4 : 0 ≤ blocks) (h5 : blocks ≤ 9223372036854775807) {j : Nat} (hj : j < 9223372036854775807) {r : Bool}
    (hr : Ev (fun k => spec_l2Func.l1 k funcs count blocks ((j + 1 : Nat) : Int) f) (one r)) : Ev (fun k => spec_l2Func.l2 k funcs count blocks j 0 f x) (one (blockB count funcs blocks x && r)) := by
  have hs := hx.1
  have hlen : x.1.length ≤ 1048576 := hs.1
  have tail := specFunc4 (f := f) hx h0 h1 h2 h3 h4 h5 hj hr
  have key := Ev.down (G := fun i k => spec_l2Func.l2 k funcs count blocks j (i : Int) f x) (V := fun i => one ((x.1.drop i).all (phiB count) && (x.2.1.all (instB count funcs) && (termB count blocks x.2.2 && r)))) x.1.length ?_ ?_ 0 (Nat.zero_le _)
  · refine key.rw ?_
    unfold blockB
    rw [List.drop_zero, Bool.and_assoc, Bool.and_assoc]
  · rw [List.drop_length]
    refine tail.step fun k => ?_
    show spec_l2Func.l2_ k (spec_l2Func.l0 k) (spec_l2Func.l1 k) (spec_l2Func.l2 k) (spec_l2Func.l3 k) (spec_l2Func.l4 k) funcs count blocks j _ f x = _
    unfold spec_l2Func.l2_
    simp only [head_end, cond_false]
  · intro i hi ih
    have hp := hs.2 x.1[i] (List.getElem_mem hi)
    have hpl : x.1[i].2.1.length ≤ 1048576 := hp.2.1.1
    -- the inner loop
    have inner := Ev.down (G := fun q k => spec_l2Func.l3 k funcs count blocks j i (q : Int) f x) (V := fun q => one ((x.1[i].2.1.drop q).all (inB 0 (count - 1)) && ((x.1.drop (i + 1)).all (phiB count) && (x.2.1.all (instB count funcs) && (termB count blocks x.2.2 && r))))) x.1[i].2.1.length ?_ ?_ 0 (Nat.zero_le _)
    · rw [List.drop_eq_getElem_cons hi, List.all_cons]
      refine Ev.step (g' := fun k => Option.bind (spec_WidthOk.f k x.1[i].1) fun r1 => bif !r1.1.1.1 then some (((false, ()), ()), ()) else bif decide (10 < ((List.length x.1[i].2.1 : Nat) : Int)) then some (((false, ()), ()), ()) else spec_l2Func.l3 k funcs count blocks j i 0 f x) ?_ fun k => ?_
      · refine Ev.bind (Ev.all fun k => specW k _) ?_
        have e1 : ∀ R, (phiB count x.1[i] && R) = (wOk x.1[i].1 && (!decide (10 < ((List.length x.1[i].2.1 : Nat) : Int)) && (x.1[i].2.1.all (inB 0 (count - 1)) && R))) := fun R => by
          have e : decide (x.1[i].2.1.length ≤ 10) = !decide (10 < ((List.length x.1[i].2.1 : Nat) : Int)) := by
            by_cases h : 10 < ((List.length x.1[i].2.1 : Nat) : Int)
            · rw [dpos h, dneg (by omega)]; rfl
            · rw [dneg h, dpos (by omega)]; rfl
          unfold phiB
          rw [e, Bool.and_assoc, Bool.and_assoc]
        rw [Bool.and_assoc, e1]
        refine ev_and ?_
        exact ev_and' inner
      · show spec_l2Func.l2_ k (spec_l2Func.l0 k) (spec_l2Func.l1 k) (spec_l2Func.l2 k) (spec_l2Func.l3 k) (spec_l2Func.l4 k) funcs count blocks j _ f x = _
        unfold spec_l2Func.l2_
        simp only [head_in hi, head_0, Bool.and_self, cond_true, get_in hi]
    · rw [List.drop_length, List.all_nil, Bool.true_and]
      refine ih.step fun k => ?_
      show spec_l2Func.l3_ k (spec_l2Func.l0 k) (spec_l2Func.l1 k) (spec_l2Func.l2 k) (spec_l2Func.l3 k) (spec_l2Func.l4 k) funcs count blocks j _ _ f x = _
      unfold spec_l2Func.l3_
      simp only [head_in hi, head_0, Bool.and_self, cond_true, get_in hi, head_end, cond_false, wrap_nat (show i < 9223372036854775807 by omega)]
    · intro q hq ihq
      rw [List.drop_eq_getElem_cons hq, List.all_cons, Bool.and_assoc]
      refine Ev.step (g' := fun k => Option.bind (spec_l1In.f k x.1[i].2.1[q] 0 (IntKind.wrap .i64 (count - 1))) fun r1 => bif !r1.1.1.1 then some (((false, ()), ()), ()) else spec_l2Func.l3 k funcs count blocks j i ((q + 1 : Nat) : Int) f x) ?_ fun k => ?_
      · rw [wrap_id (by omega) (by omega)]
        exact Ev.bind (Ev.all fun k => specIn k _ _ _) (ev_and ihq)
      · show spec_l2Func.l3_ k (spec_l2Func.l0 k) (spec_l2Func.l1 k) (spec_l2Func.l2 k) (spec_l2Func.l3 k) (spec_l2Func.l4 k) funcs count blocks j _ _ f x = _
        unfold spec_l2Func.l3_
        simp only [head_in hi, head_0, Bool.and_self, cond_true, get_in hi, head_in hq, get_in hq, wrap_nat (show q < 9223372036854775807 by omega)]
theorem specFunc1 (hf : Small tFunc f) (h0 : 0 ≤ count) (h1 : count ≤ 9223372036854775807) (h2 : 0 ≤ funcs) (h3 : funcs ≤ 9223372036854775807) (h4 : 0 ≤ blocks) (h5 : blocks ≤ 9223372036854775807) : Ev (fun k => spec_l2Func.l1 k funcs count blocks 0 f) (one (f.2.2.1.all (blockB count funcs blocks))) := by
  have hs := hf.2.2.1
  have hlen : f.2.2.1.length ≤ 1048576 := hs.1
  have key := Ev.down (G := fun i k => spec_l2Func.l1 k funcs count blocks (i : Int) f) (V := fun i => one ((f.2.2.1.drop i).all (blockB count funcs blocks))) f.2.2.1.length ?_ ?_ 0 (Nat.zero_le _)
  · exact key
  · rw [List.drop_length]
    refine Ev.step (g' := fun _ => some (one true)) (Ev.cst rfl) fun k => ?_
    show spec_l2Func.l1_ k (spec_l2Func.l0 k) (spec_l2Func.l1 k) (spec_l2Func.l2 k) (spec_l2Func.l3 k) (spec_l2Func.l4 k) funcs count blocks _ f = _
    unfold spec_l2Func.l1_
    simp only [head_end, cond_false]
  · intro i hi ih
    rw [List.drop_eq_getElem_cons hi, List.all_cons]
    refine (specFunc2 (f := f) (x := f.2.2.1[i]) (hs.2 _ (List.getElem_mem hi)) h0 h1 h2 h3 h4 h5 (show i < 9223372036854775807 by omega) ih).step fun k => ?_
    show spec_l2Func.l1_ k (spec_l2Func.l0 k) (spec_l2Func.l1 k) (spec_l2Func.l2 k) (spec_l2Func.l3 k) (spec_l2Func.l4 k) funcs count blocks _ f = _
    unfold spec_l2Func.l1_
    simp only [head_in hi, head_0, Bool.and_self, cond_true, get_in hi]
theorem le_not {a b : Int} : decide (a ≤ b) = !decide (b < a) := by
  by_cases h : b < a
  · rw [dpos h, dneg (by omega)]; rfl
  · rw [dneg h, dpos (by omega)]; rfl
theorem len_not {n m : Nat} : decide (n ≤ m) = !decide ((m : Int) < (n : Int)) := by
  by_cases h : (m : Int) < (n : Int)
  · rw [dpos h, dneg (by omega)]; rfl
  · rw [dneg h, dpos (by omega)]; rfl
theorem specFunc (hf : Small tFunc f) (h2 : 0 ≤ funcs) (h3 : funcs ≤ 9223372036854775807) : Ev (fun k => spec_l2Func.f k f funcs) (one (funcB funcs f)) := by
  have hs := hf.2.2.1
  have hlen : f.2.2.1.length ≤ 1048576 := hs.1
  have hpl : f.1.length ≤ 1048576 := hf.1.1
  obtain ⟨c0, c1⟩ := cntB_le hf
  unfold spec_l2Func.f funcB
  simp only [Bool.and_assoc]
  refine Ev.bind (specCount hf) ?_
  rw [len_not]
  refine ev_and' (Ev.bind (Ev.all fun k => specW k _) (ev_and (Ev.bind (Ev.all fun k => specIn k _ _ _) (ev_and ?_))))
  rw [le_not]
  refine ev_and' ?_
  exact each_ev (z := 0) (l := f.1) (L := fun k a => spec_l2Func.l0 k funcs (cntB f) (f.2.2.1.length : Int) a f) (V := fun m => one (m.all wOk && f.2.2.1.all (blockB (cntB f) funcs (f.2.2.1.length : Int)))) (q := fun k y g => Option.bind (spec_WidthOk.f k y) fun r1 => bif !r1.1.1.1 then some (((false, ()), ()), ()) else g k)
    (by omega) (fun k a => rfl) (specFunc1 hf c0 (by omega) h2 h3 (by omega) (by omega)) fun y m g hy hg => by
      refine Ev.bind (Ev.all fun k => specW k _) ?_
      rw [List.all_cons, Bool.and_assoc]
      exact ev_and hg
end
end Go.Proofs.YtkfehogikjcgkaaGreat.V
namespace Go.Proofs.YtkfehogikjcgkaaGreat.V
open Go
set_option linter.unusedVariables false
set_option linter.unusedSimpArgs false
theorem implWs {l : List Int} (h : l.length ≤ 1048576) : Ev (fun k => slices_ContainsFunc_int64_int64.f k l) (one (!l.all wOk)) := by
  rw [← any_not]
  exact index_ev (z := 0) (L := fun k b a => slices_IndexFunc_int64_int64.l0 k l b a) (q := fun k x => impl_isFunc_1.f k x) (by omega) (fun k b a => rfl) fun x _ => Ev.all fun k => by
    unfold impl_isFunc_1.f
    rw [implW]; rfl
theorem implIds {l : List Int} (h : l.length ≤ 1048576) {count : Int} (h0 : 0 ≤ count) (h1 : count ≤ 9223372036854775807) : Ev (fun k => slices_ContainsFunc_int64_int64_2.f k l count) (one (!l.all (inB 0 (count - 1)))) := by
  rw [← any_not]
  exact index_ev (z := 0) (L := fun k b a => slices_IndexFunc_int64_int64_2.l0 k l b a count) (q := fun k x => impl_isFunc_2_1.f k x count) (by omega) (fun k b a => rfl) fun x _ => Ev.all fun k => by
    unfold impl_isFunc_2_1.f
    rw [implIn, wrap_id (by omega) (by omega)]; rfl
theorem ev_nt {g : Nat → Option BR} {b c : Bool} (h : Ev g (one (!c))) : Ev (fun k => bif !b then some (one true) else g k) (one (!(b && c))) := by
  cases b with
  | true => exact Ev.neg rfl h
  | false => exact Ev.pos rfl (Ev.cst rfl)
theorem ev_nt' {g : Nat → Option BR} {b c : Bool} (h : Ev g (one (!c))) : Ev (fun k => bif b then some (one true) else g k) (one (!(!b && c))) := by
  cases b with
  | true => exact Ev.pos rfl (Ev.cst rfl)
  | false => exact Ev.neg rfl h
theorem implPhi {p : tPhiD} (hp : Small tPhi p) {count : Int} (h0 : 0 ≤ count) (h1 : count ≤ 9223372036854775807) : Ev (fun k => impl_isFunc_2.f k p count) (one (!phiB count p)) := by
  have hl : p.2.1.length ≤ 1048576 := hp.2.1.1
  unfold impl_isFunc_2.f phiB
  rw [Bool.and_assoc, len_not]
  exact Ev.bind (Ev.all fun k => implW k _) (ev_nt (ev_nt' (Ev.bind (implIds hl h0 h1) (Ev.cst rfl))))
theorem implPhis {l : List tPhiD} (hs : Small (.list tPhi) l) {count : Int} (h0 : 0 ≤ count) (h1 : count ≤ 9223372036854775807) : Ev (fun k => slices_ContainsFunc_impl_Phi_impl_Phi.f k l count) (one (!l.all (phiB count))) := by
  have hl : l.length ≤ 1048576 := hs.1
  rw [← any_not]
  exact index_ev (z := tPhiZ) (L := fun k b a => slices_IndexFunc_impl_Phi_impl_Phi.l0 k l b a count) (q := fun k x => impl_isFunc_2.f k x count) (by omega) (fun k b a => rfl) fun x hx => implPhi (hs.2 x hx) h0 h1
theorem implInsts {l : List tInstD} (hs : Small (.list tInst) l) {count funcs : Int} (h0 : 0 ≤ count) (h1 : count ≤ 9223372036854775807) (h2 : 0 ≤ funcs) (h3 : funcs ≤ 9223372036854775807) : Ev (fun k => slices_ContainsFunc_impl_Inst_impl_Inst.f k l count funcs) (one (!l.all (instB count funcs))) := by
  have hl : l.length ≤ 1048576 := hs.1
  rw [← any_not]
  refine index_ev (z := tInstZ) (L := fun k b a => slices_IndexFunc_impl_Inst_impl_Inst.l0 k l b a count funcs) (q := fun k x => impl_isFunc_3.f k x count funcs) (by omega) (fun k b a => rfl) fun x hx => ?_
  exact Ev.bind (implInst (i := x) ((hs.2 x hx).2.2.2.2.2.2.1.1) h0 h1 h2 h3) (Ev.cst rfl)
theorem implFunc {f : tFuncD} (hf : Small tFunc f) {funcs : Int} (h2 : 0 ≤ funcs) (h3 : funcs ≤ 9223372036854775807) : Ev (fun k => impl_isFunc.f k f funcs) (one (funcB funcs f)) := by
  have hs := hf.2.2.1
  have hlen : f.2.2.1.length ≤ 1048576 := hs.1
  have hpl : f.1.length ≤ 1048576 := hf.1.1
  obtain ⟨c0, c1⟩ := cntB_le hf
  have c1 : cntB f ≤ 9223372036854775807 := by omega
  have hord : funcB funcs f = (!decide (((4 : Nat) : Int) < ((f.1.length : Nat) : Int)) && (wOk f.2.1 && (inB 1 10 (f.2.2.1.length : Int) && (f.1.all wOk && (!decide (60 < cntB f) && f.2.2.1.all (blockB (cntB f) funcs (f.2.2.1.length : Int))))))) := by
    unfold funcB
    rw [len_not, le_not]
    generalize decide (((4 : Nat) : Int) < ((f.1.length : Nat) : Int)) = a
    generalize decide (60 < cntB f) = b
    generalize f.1.all wOk = c
    cases a <;> cases b <;> cases c <;> simp [Bool.and_assoc]
  rw [hord]
  unfold impl_isFunc.f
  refine ev_and' (Ev.bind (Ev.all fun k => implW k _) (ev_and (Ev.bind (Ev.all fun k => implIn k _ _ _) (ev_and (Ev.bind (implWs hpl) ?_)))))
  have inner : Ev (fun k => Option.bind (impl_CountOf.f k f) fun r4 => bif decide (60 < r4.1.1.1) then some (((false, ()), ()), ()) else impl_isFunc.l0 k f.2.2.1 ((List.length f.2.2.1 : Nat) : Int) 0 f funcs r4.1.1.1) (one (!decide (60 < cntB f) && f.2.2.1.all (blockB (cntB f) funcs (f.2.2.1.length : Int)))) := by
    refine Ev.bind (implCount hf) (ev_and' ?_)
    refine each_ev (z := tBlockZ) (l := f.2.2.1) (L := fun k a => impl_isFunc.l0 k f.2.2.1 ((List.length f.2.2.1 : Nat) : Int) a f funcs (cntB f)) (V := fun m => one (m.all (blockB (cntB f) funcs (f.2.2.1.length : Int))))
      (q := fun k x g => Option.bind (slices_ContainsFunc_impl_Phi_impl_Phi.f k x.1 (cntB f)) fun r1 => bif r1.1.1.1 then some (((false, ()), ()), ()) else Option.bind (slices_ContainsFunc_impl_Inst_impl_Inst.f k x.2.1 (cntB f) funcs) fun r2 => bif r2.1.1.1 then some (((false, ()), ()), ()) else Option.bind (impl_isTerm.f k f x.2.2 (cntB f)) fun r3 => bif !r3.1.1.1 then some (((false, ()), ()), ()) else g k)
      (by omega) (fun k a => rfl) (Ev.cst rfl) fun x m g hx hg => ?_
    have hx' := hs.2 x hx
    have hb : (blockB (cntB f) funcs (f.2.2.1.length : Int) x && m.all (blockB (cntB f) funcs (f.2.2.1.length : Int))) = (!(!x.1.all (phiB (cntB f))) && (!(!x.2.1.all (instB (cntB f) funcs)) && (termB (cntB f) (f.2.2.1.length : Int) x.2.2 && m.all (blockB (cntB f) funcs (f.2.2.1.length : Int))))) := by
      have e : blockB (cntB f) funcs (f.2.2.1.length : Int) x = (x.1.all (phiB (cntB f)) && x.2.1.all (instB (cntB f) funcs) && termB (cntB f) (f.2.2.1.length : Int) x.2.2) := rfl
      rw [e, Bool.not_not, Bool.not_not, Bool.and_assoc, Bool.and_assoc]
    rw [List.all_cons, hb]
    exact Ev.bind (implPhis hx'.1 c0 c1) (ev_and' (Ev.bind (implInsts hx'.2.1 c0 c1 h2 h3) (ev_and' (Ev.bind (Ev.all fun k => implTerm k x.2.2 hlen c0 c1) (ev_and hg)))))
  have := ev_and' (b := !f.1.all wOk) inner
  rw [Bool.not_not] at this
  exact this
end Go.Proofs.YtkfehogikjcgkaaGreat.V
namespace Go.Proofs.YtkfehogikjcgkaaGreat.V
open Go
set_option linter.unusedVariables false
set_option linter.unusedSimpArgs false
abbrev IIR := (((Int × Unit) × (Int × Unit) × Unit) × Unit)
abbrev two (p : Int × Int) : IIR := (((p.1, ()), (p.2, ()), ()), ())
structure Fm (funcs : Int) (f : tFuncD) : Prop where
  p4 : f.1.length ≤ 4
  b1 : 1 ≤ f.2.2.1.length
  b10 : f.2.2.1.length ≤ 10
  cnt : cntB f ≤ 60
  pw : ∀ w ∈ f.1, wOk w = true
  ph : ∀ x ∈ f.2.2.1, ∀ p ∈ x.1, phiB (cntB f) p = true
  ins : ∀ x ∈ f.2.2.1, ∀ i ∈ x.2.1, instB (cntB f) funcs i = true
  tm : ∀ x ∈ f.2.2.1, termB (cntB f) (f.2.2.1.length : Int) x.2.2 = true
theorem inB_iff {lo hi x : Int} : inB lo hi x = true ↔ lo ≤ x ∧ x ≤ hi := by simp [inB]
theorem Fm.of {funcs : Int} {f : tFuncD} (h : funcB funcs f = true) : Fm funcs f := by
  simp only [funcB, Bool.and_eq_true, decide_eq_true_eq, List.all_eq_true, inB_iff, blockB] at h
  obtain ⟨⟨⟨⟨⟨h1, h2⟩, h3⟩, h4⟩, h5⟩, h6⟩ := h
  exact ⟨h1, by omega, by omega, h4, h5, fun x hx => (h6 x hx).1.1, fun x hx => (h6 x hx).1.2, fun x hx => (h6 x hx).2⟩
/-- How many ids a block gives. -/
def wB (x : tBlockD) : Int := ((x.1.length : Nat) : Int) + ((x.2.1.length : Nat) : Int)
theorem wB_nonneg (x : tBlockD) : 0 ≤ wB x := by unfold wB; omega
theorem cntB_eq (f : tFuncD) : cntB f = (f.1.length : Int) + sumB wB f.2.2.1 := rfl
theorem sumB_nonneg {α : Type} {w : α → Int} : ∀ {l : List α}, (∀ x ∈ l, 0 ≤ w x) → 0 ≤ sumB w l
  | [], _ => Int.le_refl _
  | x :: l, h => by
    have := h x (by simp)
    have := sumB_nonneg (l := l) fun y hy => h y (by simp [hy])
    simp only [sumB]; omega
theorem le_sumB {α : Type} {w : α → Int} {l : List α} (h : ∀ x ∈ l, 0 ≤ w x) {x : α} (hx : x ∈ l) : w x ≤ sumB w l := by
  induction l with
  | nil => cases hx
  | cons y l ih =>
    have hn := sumB_nonneg (l := l) fun z hz => h z (by simp [hz])
    simp only [sumB]
    rcases List.mem_cons.1 hx with rfl | hx
    · omega
    · have := ih (fun z hz => h z (by simp [hz])) hx
      have := h y (by simp)
      omega
theorem Fm.w60 {funcs : Int} {f : tFuncD} (h : Fm funcs f) {x : tBlockD} (hx : x ∈ f.2.2.1) : wB x ≤ 60 := by
  have := le_sumB (w := wB) (fun y _ => wB_nonneg y) hx
  have := h.cnt
  rw [cntB_eq] at this
  omega
theorem Fm.phis {funcs : Int} {f : tFuncD} (h : Fm funcs f) {x : tBlockD} (hx : x ∈ f.2.2.1) : x.1.length ≤ 60 ∧ x.2.1.length ≤ 60 := by
  have := h.w60 hx
  unfold wB at this
  omega
/-- The place of an id that is counted from block b on. -/
def placeL : List tBlockD → Nat → Int → Int × Int
  | [], _, _ => (-2, 0)
  | x :: l, b, id => if id < wB x then ((b : Int), id) else placeL l (b + 1) (id - wB x)
def placeOf (f : tFuncD) (id : Int) : Int × Int := if id < (f.1.length : Int) then (-1, id) else placeL f.2.2.1 0 (id - (f.1.length : Int))
theorem placeL_in : ∀ (l : List tBlockD) (b : Nat) (id : Int), 0 ≤ id → id < sumB wB l → ∃ j : Nat, ∃ h : j < l.length, placeL l b id = (((b + j : Nat) : Int), id - sumB wB (l.take j)) ∧ 0 ≤ id - sumB wB (l.take j) ∧ id - sumB wB (l.take j) < wB l[j]
  | [], _, id, h0, h => by simp [sumB] at h; omega
  | x :: l, b, id, h0, h => by
    simp only [sumB] at h
    unfold placeL
    by_cases c : id < wB x
    · exact ⟨0, by simp, by rw [if_pos c]; simp [sumB], by simpa [sumB] using h0, by simpa [sumB] using c⟩
    · obtain ⟨j, hj, e, a, b'⟩ := placeL_in l (b + 1) (id - wB x) (by omega) (by omega)
      refine ⟨j + 1, by simpa using hj, ?_, ?_, ?_⟩
      · rw [if_neg c, e]
        simp only [List.take_succ_cons, sumB]
        refine Prod.ext ?_ ?_
        · show ((b + 1 + j : Nat) : Int) = ((b + (j + 1) : Nat) : Int); omega
        · show _ = _; omega
      · simp only [List.take_succ_cons, sumB]; omega
      · simp only [List.take_succ_cons, sumB, List.getElem_cons_succ]; omega
section
variable {funcs : Int} {f : tFuncD}
/-- Where an id stands. -/
theorem place_cases (id : Int) (h0 : 0 ≤ id) (h1 : id < cntB f) : (id < (f.1.length : Int) ∧ placeOf f id = (-1, id)) ∨ ((f.1.length : Int) ≤ id ∧ ∃ j : Nat, ∃ hj : j < f.2.2.1.length, placeOf f id = ((j : Int), id - (f.1.length : Int) - sumB wB (f.2.2.1.take j)) ∧ 0 ≤ id - (f.1.length : Int) - sumB wB (f.2.2.1.take j) ∧ id - (f.1.length : Int) - sumB wB (f.2.2.1.take j) < wB f.2.2.1[j]) := by
  rw [cntB_eq] at h1
  unfold placeOf
  by_cases c : id < (f.1.length : Int)
  · exact .inl ⟨c, if_pos c⟩
  · obtain ⟨j, hj, e, a, b⟩ := placeL_in f.2.2.1 0 (id - (f.1.length : Int)) (by omega) (by omega)
    refine .inr ⟨by omega, j, hj, ?_, a, b⟩
    rw [if_neg c, e, Nat.zero_add]
theorem blk_wrap {x : tBlockD} (h : wB x ≤ 60) : IntKind.wrap .i64 (((List.length x.1 : Nat) : Int) + ((List.length x.2.1 : Nat) : Int)) = wB x := wrap_id (by omega) (by unfold wB at h; omega)
theorem specPlace_l (hf : Fm funcs f) : ∀ (d i : Nat) (id : Int), i + d = f.2.2.1.length → 0 ≤ id → id ≤ 100 → Ev (fun k => spec_l2Place.l0 k id i f) (two (placeL (f.2.2.1.drop i) i id)) := by
  intro d
  induction d with
  | zero =>
    intro i id hi h0 h1
    obtain rfl : i = f.2.2.1.length := by omega
    rw [List.drop_length]
    refine Ev.step (g' := fun _ => some (two (-2, 0))) (Ev.cst rfl) fun k => ?_
    show spec_l2Place.l0_ k (spec_l2Place.l0 k) id _ f = _
    unfold spec_l2Place.l0_
    simp only [head_end, cond_false]
  | succ d ih =>
    intro i id hi h0 h1
    have hlt : i < f.2.2.1.length := by omega
    have hb := hf.w60 (List.getElem_mem hlt)
    have hc := wB_nonneg f.2.2.1[i]
    have h10 := hf.b10
    rw [List.drop_eq_getElem_cons hlt]
    refine Ev.succ ?_
    show Ev (fun k => spec_l2Place.l0_ k (spec_l2Place.l0 k) id _ f) _
    unfold spec_l2Place.l0_ placeL
    simp only [head_in hlt, head_0, Bool.and_self, cond_true, get_in hlt, blk_wrap hb, wrap_nat (show i < 9223372036854775807 by omega)]
    by_cases c : id < wB f.2.2.1[i]
    · rw [if_pos c]
      exact Ev.dp c (Ev.cst rfl)
    · rw [if_neg c]
      refine Ev.dn c ?_
      rw [wrap_id (x := id - wB f.2.2.1[i]) (by omega) (by omega)]
      exact ih (i + 1) _ (by omega) (by omega) (by omega)
theorem specPlace (hf : Fm funcs f) {id : Int} (h0 : 0 ≤ id) (h1 : id < cntB f) : Ev (fun k => spec_l2Place.f k f id) (two (placeOf f id)) := by
  have h60 := hf.cnt
  have h4 := hf.p4
  unfold spec_l2Place.f placeOf
  refine Ev.dn (by omega) ?_
  by_cases c : id < (f.1.length : Int)
  · rw [if_pos c]; exact Ev.dp c (Ev.cst rfl)
  · rw [if_neg c]
    refine Ev.dn c ?_
    rw [wrap_id (by omega) (by omega)]
    exact specPlace_l hf f.2.2.1.length 0 _ (by omega) (by omega) (by omega)
theorem implPlace_l (hf : Fm funcs f) (id : Int) (h1 : id ≤ 100) : ∀ (d i : Nat) (n : Int), i + d = f.2.2.1.length → 0 ≤ n → n ≤ id → Ev (fun k => impl_PlaceOf.l0 k id n f.2.2.1 ((List.length f.2.2.1 : Nat) : Int) i) (two (placeL (f.2.2.1.drop i) i (id - n))) := by
  intro d
  induction d with
  | zero =>
    intro i n hi h0 hn
    obtain rfl : i = f.2.2.1.length := by omega
    rw [List.drop_length]
    refine Ev.step (g' := fun _ => some (two (-2, 0))) (Ev.cst rfl) fun k => ?_
    show impl_PlaceOf.l0_ k (impl_PlaceOf.l0 k) id n _ _ _ = _
    unfold impl_PlaceOf.l0_
    simp only [head_end, cond_false]
  | succ d ih =>
    intro i n hi h0 hn
    have hlt : i < f.2.2.1.length := by omega
    have hb := hf.w60 (List.getElem_mem hlt)
    have hc := wB_nonneg f.2.2.1[i]
    have h10 := hf.b10
    rw [List.drop_eq_getElem_cons hlt]
    refine Ev.succ ?_
    show Ev (fun k => impl_PlaceOf.l0_ k (impl_PlaceOf.l0 k) id n _ _ _) _
    unfold impl_PlaceOf.l0_ placeL
    simp only [head_in hlt, head_0, Bool.and_self, cond_true, get_in hlt, blk_wrap hb, wrap_nat (show i < 9223372036854775807 by omega), wrap_id (x := n + wB f.2.2.1[i]) (by omega) (by omega), wrap_id (x := id - n) (by omega) (by omega)]
    by_cases c : id < n + wB f.2.2.1[i]
    · rw [if_pos (show id - n < wB f.2.2.1[i] by omega)]
      exact Ev.dp c (Ev.cst rfl)
    · rw [if_neg (show ¬ id - n < wB f.2.2.1[i] by omega)]
      refine Ev.dn c ?_
      rw [show id - n - wB f.2.2.1[i] = id - (n + wB f.2.2.1[i]) by omega]
      exact ih (i + 1) _ (by omega) (by omega) (by omega)
theorem implIsId (hs : Small tFunc f) {id : Int} (h0 : 0 ≤ id) (h1 : id < cntB f) : Ev (fun k => impl_isId.f k f id) (one true) := by
  obtain ⟨c0, c1⟩ := cntB_le hs
  refine Ev.bind (implCount hs) (Ev.bind (Ev.all fun k => implIn k _ _ _) (Ev.cst ?_))
  rw [show IntKind.wrap .i64 ((one (cntB f)).1.1.1 - 1) = cntB f - 1 from wrap_id (by show -9223372036854775808 ≤ cntB f - 1; omega) (by show cntB f - 1 ≤ _; omega)]
  rw [show inB 0 (cntB f - 1) id = true from inB_iff.2 ⟨h0, by omega⟩]
theorem implPlace (hs : Small tFunc f) (hf : Fm funcs f) {id : Int} (h0 : 0 ≤ id) (h1 : id < cntB f) : Ev (fun k => impl_PlaceOf.f k f id) (two (placeOf f id)) := by
  have h60 := hf.cnt
  have h4 := hf.p4
  unfold impl_PlaceOf.f placeOf
  refine Ev.bind (implIsId hs h0 h1) (Ev.neg rfl ?_)
  by_cases c : id < (f.1.length : Int)
  · rw [if_pos c]; exact Ev.dp c (Ev.cst rfl)
  · rw [if_neg c]
    exact Ev.dn c (implPlace_l hf id (by omega) f.2.2.1.length 0 _ (by omega) (by omega) (by omega))
end
end Go.Proofs.YtkfehogikjcgkaaGreat.V
namespace Go.Proofs.YtkfehogikjcgkaaGreat.V
open Go
set_option linter.unusedVariables false
set_option linter.unusedSimpArgs false
section
variable {funcs : Int} {f : tFuncD}
def vid (f : tFuncD) (id : Int) : Prop := 0 ≤ id ∧ id < cntB f
theorem vid_of {id : Int} (h : inB 0 (cntB f - 1) id = true) : vid f id := by
  have := inB_iff.1 h
  exact ⟨this.1, by omega⟩
end
end Go.Proofs.YtkfehogikjcgkaaGreat.V
namespace Go.Proofs.YtkfehogikjcgkaaGreat.V
open Go
set_option linter.unusedVariables false
set_option linter.unusedSimpArgs false
def resW (op w : Int) : Int := bif !wOk w then 0 else bif decide (14 ≤ op) then 1 else w
def widthI (i : tInstD) : Int := bif inB 1 17 i.1 then resW i.1 i.2.1 else i.2.1
theorem specWidth (k : Nat) (i : tInstD) : spec_l2Width.f k i = some (one (widthI i)) := by
  unfold spec_l2Width.f widthI spec_ResultWidth.f resW
  simp only [specIn, specW, Option.bind_some]
  cases inB 1 17 i.1 <;> cases wOk i.2.1 <;> cases decide (14 ≤ i.1) <;> rfl
theorem implWidth (k : Nat) {i : tInstD} (h : i.1 = 24 ∨ i.1 = 25 → i.2.1 = 0) : impl_widthOf.f k i = some (one (widthI i)) := by
  unfold impl_widthOf.f widthI impl_ResultWidth.f resW
  simp only [implBin, implW, Option.bind_some]
  cases hb : inB 1 17 i.1
  · by_cases h4 : i.1 = 24
    · rw [dpos h4, h (.inl h4)]; rfl
    · by_cases h5 : i.1 = 25
      · rw [dneg h4, dpos h5, h (.inr h5)]; rfl
      · rw [dneg h4, dneg h5]; rfl
  · cases wOk i.2.1 <;> cases decide (14 ≤ i.1) <;> rfl
def typeOf (f : tFuncD) (id : Int) : Int :=
  if (placeOf f id).1 = -1 then f.1.getD (placeOf f id).2.toNat 0 else
    if (placeOf f id).2 < ((f.2.2.1.getD (placeOf f id).1.toNat tBlockZ).1.length : Int) then ((f.2.2.1.getD (placeOf f id).1.toNat tBlockZ).1.getD (placeOf f id).2.toNat tPhiZ).1
    else widthI ((f.2.2.1.getD (placeOf f id).1.toNat tBlockZ).2.1.getD ((placeOf f id).2 - ((f.2.2.1.getD (placeOf f id).1.toNat tBlockZ).1.length : Int)).toNat tInstZ)
section
variable {funcs : Int} {f : tFuncD}
theorem instB_void {count funcs : Int} {i : tInstD} (h : instB count funcs i = true) : (i.1 = 24 ∨ i.1 = 25 → i.2.1 = 0) := by
  intro ho
  simp only [instB, Bool.and_eq_true, widB] at h
  have h1 := h.1.2
  have : (decide (i.1 = 24) || decide (i.1 = 25)) = true := by simpa using ho
  rw [this] at h1
  simpa using h1
theorem specType (hf : Fm funcs f) {id : Int} (h0 : 0 ≤ id) (h1 : id < cntB f) : Ev (fun k => spec_TypeOf.f k f id) (one (typeOf f id)) := by
  have h10 := hf.b10
  unfold spec_TypeOf.f typeOf
  refine Ev.bind (specPlace hf h0 h1) ?_
  rcases place_cases id h0 h1 with ⟨hl, hp⟩ | ⟨hl, j, hj, hp, ha, hb⟩
  · rw [hp, if_pos rfl]
    exact Ev.dn (show ¬ ((-1 : Int) = -2) by decide) (Ev.dp rfl (Ev.dd h0 hl (Ev.cst rfl)))
  · rw [hp]
    generalize id - (f.1.length : Int) - sumB wB (f.2.2.1.take j) = at' at ha hb
    have hx := hf.w60 (List.getElem_mem hj)
    have hxl := hf.phis (List.getElem_mem hj)
    rw [if_neg (by show ¬ ((j : Int) = -1); omega)]
    show Ev (fun k => bif decide ((j : Int) = -2) then _ else _) _
    refine Ev.dn (by omega) (Ev.dn (by show ¬ ((j : Int) = -1); omega) (Ev.dd (show 0 ≤ (j : Int) by omega) (show (j : Int) < (f.2.2.1.length : Int) by omega) ?_))
    show Ev (fun k => bif decide (at' < ((List.length (f.2.2.1.getD (Int.toNat (j : Int)) tBlockZ).1 : Nat) : Int)) then _ else _) _
    rw [get_in hj]
    unfold wB at hb hx
    by_cases c : at' < ((List.length f.2.2.1[j].1 : Nat) : Int)
    · rw [if_pos c]
      exact Ev.dp c (Ev.dd ha c (Ev.cst rfl))
    · rw [if_neg c]
      refine Ev.dn c ?_
      have hw : IntKind.wrap .i64 (at' - ((List.length f.2.2.1[j].1 : Nat) : Int)) = at' - ((List.length f.2.2.1[j].1 : Nat) : Int) := wrap_id (by omega) (by omega)
      show Ev (fun k => bif decide (0 ≤ IntKind.wrap .i64 (at' - ((List.length f.2.2.1[j].1 : Nat) : Int))) && decide (IntKind.wrap .i64 (at' - ((List.length f.2.2.1[j].1 : Nat) : Int)) < ((List.length f.2.2.1[j].2.1 : Nat) : Int)) then Option.bind (spec_l2Width.f k (f.2.2.1[j].2.1.getD (Int.toNat (IntKind.wrap .i64 (at' - ((List.length f.2.2.1[j].1 : Nat) : Int)))) tInstZ)) _ else none) _
      rw [hw]
      exact Ev.dd (by omega) (by omega) (Ev.bind (Ev.all fun k => specWidth k _) (Ev.cst rfl))
theorem implType (hs : Small tFunc f) (hf : Fm funcs f) {id : Int} (h0 : 0 ≤ id) (h1 : id < cntB f) : Ev (fun k => impl_TypeOf.f k f id) (one (typeOf f id)) := by
  have h10 := hf.b10
  unfold impl_TypeOf.f typeOf
  refine Ev.bind (implPlace hs hf h0 h1) ?_
  have hpl := implPlace hs hf h0 h1
  rcases place_cases id h0 h1 with ⟨hl, hp⟩ | ⟨hl, j, hj, hp, ha, hb⟩
  · rw [hp, if_pos rfl]
    exact Ev.dn (show ¬ ((-1 : Int) = -2) by decide) (Ev.dp rfl (Ev.dd h0 hl (Ev.cst rfl)))
  · rw [hp] at hpl ⊢
    generalize id - (f.1.length : Int) - sumB wB (f.2.2.1.take j) = at' at ha hb hpl
    have hx := hf.w60 (List.getElem_mem hj)
    have hxl := hf.phis (List.getElem_mem hj)
    rw [if_neg (by show ¬ ((j : Int) = -1); omega)]
    show Ev (fun k => bif decide ((j : Int) = -2) then _ else _) _
    refine Ev.dn (by omega) (Ev.dn (by show ¬ ((j : Int) = -1); omega) (Ev.dd (show 0 ≤ (j : Int) by omega) (show (j : Int) < (f.2.2.1.length : Int) by omega) ?_))
    show Ev (fun k => bif decide (at' < ((List.length (f.2.2.1.getD (Int.toNat (j : Int)) tBlockZ).1 : Nat) : Int)) then _ else _) _
    rw [get_in hj]
    unfold wB at hb hx
    by_cases c : at' < ((List.length f.2.2.1[j].1 : Nat) : Int)
    · rw [if_pos c]
      exact Ev.dp c (Ev.dd (show 0 ≤ (j : Int) by omega) (show (j : Int) < (f.2.2.1.length : Int) by omega) (Ev.dd ha c (Ev.cst rfl)))
    · rw [if_neg c]
      refine Ev.dn c ?_
      have hw : IntKind.wrap .i64 (at' - ((List.length f.2.2.1[j].1 : Nat) : Int)) = at' - ((List.length f.2.2.1[j].1 : Nat) : Int) := wrap_id (by omega) (by omega)
      have hlt : (at' - ((List.length f.2.2.1[j].1 : Nat) : Int)).toNat < f.2.2.1[j].2.1.length := by omega
      have hi : Ev (fun k => impl_instOf.f k f id) (((f.2.2.1[j].2.1.getD (at' - ((List.length f.2.2.1[j].1 : Nat) : Int)).toNat tInstZ, (true, ()), ()), ())) := by
        unfold impl_instOf.f
        refine Ev.bind hpl (Ev.dn (show ¬ ((j : Int) < 0) by omega) (Ev.dd (show 0 ≤ (j : Int) by omega) (show (j : Int) < (f.2.2.1.length : Int) by omega) ?_))
        show Ev (fun k => bif decide (at' < ((List.length (f.2.2.1.getD (Int.toNat (j : Int)) tBlockZ).1 : Nat) : Int)) then _ else (bif decide (0 ≤ (j : Int)) && decide ((j : Int) < (f.2.2.1.length : Int)) then (bif decide (0 ≤ (j : Int)) && decide ((j : Int) < (f.2.2.1.length : Int)) then (bif decide (0 ≤ IntKind.wrap .i64 (at' - ((List.length (f.2.2.1.getD (Int.toNat (j : Int)) tBlockZ).1 : Nat) : Int))) && decide (IntKind.wrap .i64 (at' - ((List.length (f.2.2.1.getD (Int.toNat (j : Int)) tBlockZ).1 : Nat) : Int)) < ((List.length (f.2.2.1.getD (Int.toNat (j : Int)) tBlockZ).2.1 : Nat) : Int)) then some ((((f.2.2.1.getD (Int.toNat (j : Int)) tBlockZ).2.1.getD (Int.toNat (IntKind.wrap .i64 (at' - ((List.length (f.2.2.1.getD (Int.toNat (j : Int)) tBlockZ).1 : Nat) : Int)))) tInstZ, (true, ()), ()), ())) else none) else none) else none)) _
        rw [get_in hj, hw]
        exact Ev.dn c (Ev.dd (by omega) (by omega) (Ev.dd (by omega) (by omega) (Ev.dd (by omega) (by omega) (Ev.cst rfl))))
      refine Ev.bind hi (Ev.bind (Ev.all fun k => implWidth k (i := f.2.2.1[j].2.1.getD (at' - ((List.length f.2.2.1[j].1 : Nat) : Int)).toNat tInstZ) ?_) (Ev.cst rfl))
      rw [getD_at _ _ _ hlt]
      exact instB_void (hf.ins _ (List.getElem_mem hj) _ (List.getElem_mem hlt))
end
end Go.Proofs.YtkfehogikjcgkaaGreat.V
namespace Go.Proofs.YtkfehogikjcgkaaGreat.V
open Go
set_option linter.unusedVariables false
set_option linter.unusedSimpArgs false
section
variable {funcs : Int} {f : tFuncD}
abbrev InstR := (((tInstD) × (Bool × Unit) × Unit) × Unit)
def instP (f : tFuncD) (id : Int) : tInstD × Bool :=
  if (placeOf f id).1 = -1 then (tInstZ, false) else
    if (placeOf f id).2 < ((f.2.2.1.getD (placeOf f id).1.toNat tBlockZ).1.length : Int) then (tInstZ, false)
    else ((f.2.2.1.getD (placeOf f id).1.toNat tBlockZ).2.1.getD ((placeOf f id).2 - ((f.2.2.1.getD (placeOf f id).1.toNat tBlockZ).1.length : Int)).toNat tInstZ, true)
def instQ (f : tFuncD) (id : Int) : InstR := (((instP f id).1, ((instP f id).2, ()), ()), ())
theorem implInstOf (hs : Small tFunc f) (hf : Fm funcs f) {id : Int} (v : vid f id) : Ev (fun k => impl_instOf.f k f id) (instQ f id) := by
  have h10 := hf.b10
  unfold impl_instOf.f instQ instP
  refine Ev.bind (implPlace hs hf v.1 v.2) ?_
  rcases place_cases id v.1 v.2 with ⟨hl, hp⟩ | ⟨hl, j, hj, hp, ha, hb⟩
  · rw [hp, if_pos rfl]
    exact Ev.dp (show (-1 : Int) < 0 by decide) (Ev.cst rfl)
  · rw [hp]
    generalize id - (f.1.length : Int) - sumB wB (f.2.2.1.take j) = at' at ha hb
    have hx := hf.w60 (List.getElem_mem hj)
    rw [if_neg (by show ¬ ((j : Int) = -1); omega)]
    refine Ev.dn (show ¬ ((j : Int) < 0) by omega) (Ev.dd (show 0 ≤ (j : Int) by omega) (show (j : Int) < (f.2.2.1.length : Int) by omega) ?_)
    show Ev (fun k => bif decide (at' < ((List.length (f.2.2.1.getD (Int.toNat (j : Int)) tBlockZ).1 : Nat) : Int)) then _ else (bif decide (0 ≤ (j : Int)) && decide ((j : Int) < (f.2.2.1.length : Int)) then (bif decide (0 ≤ (j : Int)) && decide ((j : Int) < (f.2.2.1.length : Int)) then (bif decide (0 ≤ IntKind.wrap .i64 (at' - ((List.length (f.2.2.1.getD (Int.toNat (j : Int)) tBlockZ).1 : Nat) : Int))) && decide (IntKind.wrap .i64 (at' - ((List.length (f.2.2.1.getD (Int.toNat (j : Int)) tBlockZ).1 : Nat) : Int)) < ((List.length (f.2.2.1.getD (Int.toNat (j : Int)) tBlockZ).2.1 : Nat) : Int)) then some ((((f.2.2.1.getD (Int.toNat (j : Int)) tBlockZ).2.1.getD (Int.toNat (IntKind.wrap .i64 (at' - ((List.length (f.2.2.1.getD (Int.toNat (j : Int)) tBlockZ).1 : Nat) : Int)))) tInstZ, (true, ()), ()), ())) else none) else none) else none)) _
    rw [get_in hj]
    unfold wB at hb hx
    by_cases c : at' < ((List.length f.2.2.1[j].1 : Nat) : Int)
    · rw [if_pos c]
      exact Ev.dp c (Ev.cst rfl)
    · have hw : IntKind.wrap .i64 (at' - ((List.length f.2.2.1[j].1 : Nat) : Int)) = at' - ((List.length f.2.2.1[j].1 : Nat) : Int) := wrap_id (by omega) (by omega)
      rw [if_neg c, hw]
      exact Ev.dn c (Ev.dd (by omega) (by omega) (Ev.dd (by omega) (by omega) (Ev.dd (by omega) (by omega) (Ev.cst rfl))))
theorem specInstOf (hf : Fm funcs f) {id : Int} (v : vid f id) : Ev (fun k => spec_l9Inst.f k f id) (instQ f id) := by
  have h10 := hf.b10
  unfold spec_l9Inst.f instQ instP
  refine Ev.bind (specPlace hf v.1 v.2) ?_
  rcases place_cases id v.1 v.2 with ⟨hl, hp⟩ | ⟨hl, j, hj, hp, ha, hb⟩
  · rw [hp, if_pos rfl]
    exact Ev.dp (show (-1 : Int) < 0 by decide) (Ev.cst rfl)
  · rw [hp]
    generalize id - (f.1.length : Int) - sumB wB (f.2.2.1.take j) = at' at ha hb
    have hx := hf.w60 (List.getElem_mem hj)
    rw [if_neg (by show ¬ ((j : Int) = -1); omega)]
    refine Ev.dn (show ¬ ((j : Int) < 0) by omega) (Ev.dd (show 0 ≤ (j : Int) by omega) (show (j : Int) < (f.2.2.1.length : Int) by omega) ?_)
    show Ev (fun k => bif decide (at' < ((List.length (f.2.2.1.getD (Int.toNat (j : Int)) tBlockZ).1 : Nat) : Int)) then _ else (bif decide (0 ≤ (j : Int)) && decide ((j : Int) < (f.2.2.1.length : Int)) then (bif decide (0 ≤ IntKind.wrap .i64 (at' - ((List.length (f.2.2.1.getD (Int.toNat (j : Int)) tBlockZ).1 : Nat) : Int))) && decide (IntKind.wrap .i64 (at' - ((List.length (f.2.2.1.getD (Int.toNat (j : Int)) tBlockZ).1 : Nat) : Int)) < ((List.length (f.2.2.1.getD (Int.toNat (j : Int)) tBlockZ).2.1 : Nat) : Int)) then some ((((f.2.2.1.getD (Int.toNat (j : Int)) tBlockZ).2.1.getD (Int.toNat (IntKind.wrap .i64 (at' - ((List.length (f.2.2.1.getD (Int.toNat (j : Int)) tBlockZ).1 : Nat) : Int)))) tInstZ, (true, ()), ()), ())) else none) else none)) _
    rw [get_in hj]
    unfold wB at hb hx
    by_cases c : at' < ((List.length f.2.2.1[j].1 : Nat) : Int)
    · rw [if_pos c]
      exact Ev.dp c (Ev.cst rfl)
    · have hw : IntKind.wrap .i64 (at' - ((List.length f.2.2.1[j].1 : Nat) : Int)) = at' - ((List.length f.2.2.1[j].1 : Nat) : Int) := wrap_id (by omega) (by omega)
      rw [if_neg c, hw]
      exact Ev.dn c (Ev.dd (by omega) (by omega) (Ev.dd (by omega) (by omega) (Ev.cst rfl)))
/-! ### constants -/
def constP (f : tFuncD) (id : Int) : Int × Bool := if id < cntB f then (bif (instP f id).2 && decide ((instP f id).1.1 = 21) then (instP f id).1.2.2.2.2.2.1 else 0, (instP f id).2 && decide ((instP f id).1.1 = 21)) else (0, false)
abbrev CR := ((Int × Unit) × (Bool × Unit) × Unit) × Unit
def constQ (p : Int × Bool) : CR := (((p.1, ()), (p.2, ()), ()), ())
theorem placeL_out : ∀ (l : List tBlockD) (b : Nat) (id : Int), sumB wB l ≤ id → placeL l b id = (-2, 0)
  | [], _, _, _ => rfl
  | x :: l, b, id, h => by
    have hn := sumB_nonneg (w := wB) (l := l) fun y _ => wB_nonneg y
    simp only [sumB] at h
    unfold placeL
    rw [if_neg (by omega)]
    exact placeL_out l (b + 1) (id - wB x) (by omega)
theorem specPlace_out (hf : Fm funcs f) {id : Int} (h0 : 0 ≤ id) (h1 : cntB f ≤ id) (h2 : id ≤ 100) : Ev (fun k => spec_l2Place.f k f id) (two (-2, 0)) := by
  have hc := cntB_eq f
  have hn := sumB_nonneg (w := wB) (l := f.2.2.1) fun y _ => wB_nonneg y
  unfold spec_l2Place.f
  refine Ev.dn (by omega) (Ev.dn (by omega) ?_)
  rw [wrap_id (by omega) (by omega)]
  have := specPlace_l hf f.2.2.1.length 0 (id - (f.1.length : Int)) (by omega) (by omega) (by omega)
  rw [List.drop_zero, placeL_out _ _ _ (by omega)] at this
  exact this
theorem implPlace_out (hs : Small tFunc f) {id : Int} (h0 : 0 ≤ id) (h1 : cntB f ≤ id) : Ev (fun k => impl_PlaceOf.f k f id) (two (-2, 0)) := by
  obtain ⟨c0, c1⟩ := cntB_le hs
  unfold impl_PlaceOf.f
  refine Ev.bind (a := one false) (Ev.bind (implCount hs) (Ev.bind (Ev.all fun k => implIn k _ _ _) (Ev.cst ?_))) (Ev.pos rfl (Ev.cst rfl))
  rw [show IntKind.wrap .i64 ((one (cntB f)).1.1.1 - 1) = cntB f - 1 from wrap_id (by show -9223372036854775808 ≤ cntB f - 1; omega) (by show cntB f - 1 ≤ _; omega)]
  rw [show inB 0 (cntB f - 1) id = false from by unfold inB; rw [dneg (show ¬ id ≤ cntB f - 1 by omega), Bool.and_false]]
theorem implConst (hs : Small tFunc f) (hf : Fm funcs f) {id : Int} (h0 : 0 ≤ id) (h1 : id ≤ 100) : Ev (fun k => impl_ConstOf.f k f id) (constQ (constP f id)) := by
  unfold impl_ConstOf.f constP
  by_cases c : id < cntB f
  · rw [if_pos c]
    refine Ev.bind (implInstOf hs hf ⟨h0, c⟩) ?_
    show Ev (fun k => bif !(instP f id).2 then _ else bif !decide ((instP f id).1.1 = 21) then _ else some ((((instP f id).1.2.2.2.2.2.1, ()), (true, ()), ()), ())) _
    cases (instP f id).2 <;> cases decide ((instP f id).1.1 = 21) <;> exact Ev.cst rfl
  · rw [if_neg c]
    refine Ev.bind (a := ((tInstZ, (false, ()), ()), ())) ?_ (Ev.pos rfl (Ev.cst rfl))
    unfold impl_instOf.f
    exact Ev.bind (implPlace_out hs h0 (by omega)) (Ev.dp (show (-2 : Int) < 0 by decide) (Ev.cst rfl))
theorem specConst (hf : Fm funcs f) {id : Int} (h0 : 0 ≤ id) (h1 : id ≤ 100) : Ev (fun k => spec_ConstOf.f k f id) (constQ (constP f id)) := by
  unfold spec_ConstOf.f constP
  by_cases c : id < cntB f
  · rw [if_pos c]
    refine Ev.bind (specInstOf hf ⟨h0, c⟩) ?_
    show Ev (fun k => bif !(instP f id).2 then _ else bif !decide ((instP f id).1.1 = 21) then _ else some ((((instP f id).1.2.2.2.2.2.1, ()), (true, ()), ()), ())) _
    cases (instP f id).2 <;> cases decide ((instP f id).1.1 = 21) <;> exact Ev.cst rfl
  · rw [if_neg c]
    refine Ev.bind (a := ((tInstZ, (false, ()), ()), ())) ?_ (Ev.pos rfl (Ev.cst rfl))
    unfold spec_l9Inst.f
    exact Ev.bind (specPlace_out hf h0 (by omega) h1) (Ev.dp (show (-2 : Int) < 0 by decide) (Ev.cst rfl))
end
end Go.Proofs.YtkfehogikjcgkaaGreat.V
namespace Go.Proofs.YtkfehogikjcgkaaGreat.V
open Go
set_option linter.unusedVariables false
set_option linter.unusedSimpArgs false
theorem specTop (k : Nat) {w : Int} (h : wOk w = true) : spec_l1Top.f k w = some (one (topOf w + 1)) := by
  rcases wOk_cases h with rfl | rfl | rfl | rfl <;> (unfold spec_l1Top.f; rfl)
theorem implMaskT (k : Nat) {w : Int} (h : wOk w = true) : impl_mask.f k w = some (one (topOf w)) := by
  rcases wOk_cases h with rfl | rfl | rfl | rfl <;> (unfold impl_mask.f; rfl)
def maskI (w n : Int) : Int := bif wOk w then band .i64 n (topOf w) else 0
theorem specMask (k : Nat) (w n : Int) : spec_Masked.f k w n = some (one (maskI w n)) := by
  unfold spec_Masked.f maskI
  rw [specW, Option.bind_some]
  cases h : wOk w with
  | false => rfl
  | true =>
    show Option.bind (spec_l1Top.f k w) _ = _
    rw [specTop k h, Option.bind_some]
    rcases wOk_cases h with rfl | rfl | rfl | rfl <;> rfl
theorem implMask (k : Nat) (w n : Int) : impl_Masked.f k w n = some (one (maskI w n)) := by
  unfold impl_Masked.f maskI
  rw [implW, Option.bind_some]
  cases h : wOk w with
  | false => rfl
  | true =>
    show Option.bind (impl_mask.f k w) _ = _
    rw [implMaskT k h]; rfl
def sgnI (w v : Int) : Int := if (topOf w + 1) / 2 ≤ v then v - (topOf w + 1) else v
theorem valB_of {w v : Int} (h : valB w v = true) : wOk w = true ∧ 0 ≤ v ∧ v ≤ topOf w := by
  simp only [valB, Bool.and_eq_true, inB, decide_eq_true_eq] at h
  exact h
theorem topOf_cases {w : Int} (h : wOk w = true) : (w = 1 ∧ topOf w = 1) ∨ (w = 8 ∧ topOf w = 255) ∨ (w = 16 ∧ topOf w = 65535) ∨ (w = 32 ∧ topOf w = 4294967295) := by
  rcases wOk_cases h with rfl | rfl | rfl | rfl
  · exact .inl ⟨rfl, rfl⟩
  · exact .inr (.inl ⟨rfl, rfl⟩)
  · exact .inr (.inr (.inl ⟨rfl, rfl⟩))
  · exact .inr (.inr (.inr ⟨rfl, rfl⟩))
theorem specSign (k : Nat) {w v : Int} (h : valB w v = true) : spec_l1Sign.f k w v = some (one (sgnI w v)) := by
  obtain ⟨hw, h0, h1⟩ := valB_of h
  unfold spec_l1Sign.f sgnI
  rw [specTop k hw, Option.bind_some]
  have e : IntKind.wrap .i64 (Int.tdiv (topOf w + 1) 2) = (topOf w + 1) / 2 := by
    rcases wOk_cases hw with rfl | rfl | rfl | rfl <;> decide +kernel
  show (bif decide (IntKind.wrap .i64 (Int.tdiv (topOf w + 1) 2) ≤ v) then (Option.bind (some (one (topOf w + 1))) fun r2 => some (((IntKind.wrap .i64 (v - r2.1.1.1), ()), ()), ())) else some (one v)) = _
  rw [e]
  have e2 : IntKind.wrap .i64 (v - (topOf w + 1)) = v - (topOf w + 1) := wrap_id (by rcases topOf_cases hw with h | h | h | h <;> omega) (by rcases topOf_cases hw with h | h | h | h <;> omega)
  by_cases c : (topOf w + 1) / 2 ≤ v
  · rw [dpos c, if_pos c]
    show some (((IntKind.wrap .i64 (v - (topOf w + 1)), ()), ()), ()) = _
    rw [e2]
  · rw [dneg c, if_neg c]; rfl
theorem band01 {x : Int} (h : x = 0 ∨ x = 1) : band .i64 x 1 = x := by
  rcases h with rfl | rfl <;> decide +kernel
theorem shr_div (x y : Int) : V.shr .i64 x y = x / 2 ^ (min y.toNat 64) := by
  show Int.fdiv x (2 ^ (min y.toNat 64)) = _
  rw [Int.fdiv_eq_ediv_of_nonneg]
  exact Int.le_of_lt (Int.pow_pos (by decide))
theorem implSign (k : Nat) {w v : Int} (h : valB w v = true) : impl_signOf.f k w v = some (one (sgnI w v)) := by
  obtain ⟨hw, h0, h1⟩ := valB_of h
  unfold impl_signOf.f sgnI
  have hp : (2 : Int) ^ min (IntKind.wrap .i64 (w - 1)).toNat 64 = (topOf w + 1) / 2 := by
    rcases wOk_cases hw with rfl | rfl | rfl | rfl <;> decide +kernel
  have h3 : 0 ≤ IntKind.wrap .i64 (w - 1) := by
    rcases wOk_cases hw with rfl | rfl | rfl | rfl <;> decide +kernel
  have h2 : (v / ((topOf w + 1) / 2) = 0 ∧ ¬ (topOf w + 1) / 2 ≤ v) ∨ (v / ((topOf w + 1) / 2) = 1 ∧ (topOf w + 1) / 2 ≤ v) := by
    rcases topOf_cases hw with h | h | h | h <;> rw [h.2] at h1 ⊢ <;> omega
  have e2 : IntKind.wrap .i64 (IntKind.wrap .i64 (v - topOf w) - 1) = v - (topOf w + 1) := by
    rw [wrap_id (x := v - topOf w) (by rcases topOf_cases hw with h | h | h | h <;> omega) (by rcases topOf_cases hw with h | h | h | h <;> omega), wrap_id (by rcases topOf_cases hw with h | h | h | h <;> omega) (by rcases topOf_cases hw with h | h | h | h <;> omega)]
    omega
  rw [dpos h3, shr_div, hp, implMaskT k hw, Option.bind_some]
  show (bif decide (band .i64 (v / ((topOf w + 1) / 2)) 1 = 1) then some (((IntKind.wrap .i64 (IntKind.wrap .i64 (v - topOf w) - 1), ()), ()), ()) else some (one v)) = _
  rw [e2]
  rcases h2 with ⟨a, b⟩ | ⟨a, b⟩
  · rw [a, band01 (.inl rfl), if_neg b]; rfl
  · rw [a, band01 (.inr rfl), if_pos b]; rfl
theorem wrap_emod (x : Int) : IntKind.wrap .i64 x % 18446744073709551616 = x % 18446744073709551616 := by
  have e : IntKind.wrap .i64 x = if (true && decide (x % 18446744073709551616 ≥ 9223372036854775808)) = true then x % 18446744073709551616 - 18446744073709551616 else x % 18446744073709551616 := rfl
  rw [e]
  split <;> omega
theorem and_top {w : Int} (hw : wOk w = true) (x : Int) : band .i64 (IntKind.wrap .i64 x) (topOf w) = x % (topOf w + 1) := by
  have key : ∀ i : Nat, i ≤ 32 → band .i64 (IntKind.wrap .i64 x) (2 ^ i - 1) = x % 2 ^ i := by
    intro i hi
    have hp : (2 : Nat) ^ i ≤ 2 ^ 32 := Nat.pow_le_pow_right (by decide) hi
    have h0 : 0 < 2 ^ i := Nat.two_pow_pos i
    have hm : ((2 : Int) ^ i - 1) = ((2 ^ i - 1 : Nat) : Int) := by rw [Int.natCast_sub h0]; simp
    have hx : (BitVec.ofInt 64 (IntKind.wrap .i64 x)).toNat = (x % 18446744073709551616).toNat := by
      rw [BitVec.toNat_ofInt]
      congr 1
      exact wrap_emod x
    show IntKind.i64.wrap ((BitVec.ofInt 64 (IntKind.wrap .i64 x) &&& BitVec.ofInt 64 (2 ^ i - 1)).toNat : Int) = _
    rw [BitVec.toNat_and, hx, hm, BitVec.ofInt_natCast, BitVec.toNat_ofNat, Nat.mod_eq_of_lt (show 2 ^ i - 1 < 2 ^ 64 by omega), Nat.and_two_pow_sub_one_eq_mod]
    obtain ⟨y, hy⟩ : ∃ y : Nat, x % 18446744073709551616 = (y : Int) := Int.eq_ofNat_of_zero_le (by omega)
    rw [hy]
    have e1 : x % 2 ^ i = ((y % 2 ^ i : Nat) : Int) := by
      have hd : ((2 : Int) ^ i) ∣ 18446744073709551616 := by
        have : ((2 : Int) ^ i) ∣ 2 ^ 64 := ⟨2 ^ (64 - i), by rw [← Int.pow_add, show i + (64 - i) = 64 by omega]⟩
        simpa using this
      rw [Int.natCast_emod, ← hy, Int.natCast_pow]
      exact (Int.emod_emod_of_dvd x hd).symm
    rw [e1]
    have hlt : y % 2 ^ i < 2 ^ i := Nat.mod_lt _ h0
    rw [show ((y : Int)).toNat = y from rfl]
    exact wrap_id (by omega) (by omega)
  rcases wOk_cases hw with rfl | rfl | rfl | rfl
  · exact key 1 (by decide)
  · exact key 8 (by decide)
  · exact key 16 (by decide)
  · exact key 32 (by decide)
theorem sgn_range {w v : Int} (h : valB w v = true) : -(topOf w + 1) ≤ 2 * sgnI w v ∧ 2 * sgnI w v < topOf w + 1 ∧ (sgnI w v - v) % (topOf w + 1) = 0 := by
  obtain ⟨hw, h0, h1⟩ := valB_of h
  unfold sgnI
  rcases topOf_cases hw with h | h | h | h <;> rw [h.2] at h1 ⊢ <;> split <;> omega
theorem mask_mul {w a b : Int} (ha : valB w a = true) (hb : valB w b = true) : maskI w (IntKind.wrap .i64 (sgnI w a * sgnI w b)) = maskI w (IntKind.wrap .i64 (a * b)) := by
  obtain ⟨hw, _, _⟩ := valB_of ha
  unfold maskI
  rw [hw, cond_true, cond_true, and_top hw, and_top hw]
  obtain ⟨p, hp⟩ := Int.dvd_of_emod_eq_zero (sgn_range ha).2.2
  obtain ⟨q, hq⟩ := Int.dvd_of_emod_eq_zero (sgn_range hb).2.2
  generalize topOf w + 1 = t at hp hq
  have e : sgnI w a * sgnI w b = a * b + t * (a * q + p * b + p * (t * q)) := by
    rw [show sgnI w a = a + t * p by omega, show sgnI w b = b + t * q by omega]
    simp only [Int.add_mul, Int.mul_add, Int.mul_assoc, Int.mul_left_comm, Int.mul_comm]
    omega
  rw [e, Int.add_mul_emod_self_left]
theorem shr_far {w s : Int} (hw : wOk w = true) (h0 : -(topOf w + 1) ≤ 2 * s) (h1 : 2 * s < topOf w + 1) (n : Nat) (hn : w.toNat - 1 ≤ n) : s / 2 ^ n = if s < 0 then -1 else 0 := by
  have hp : topOf w + 1 ≤ 2 * 2 ^ n := by
    have e : topOf w + 1 = 2 * 2 ^ (w.toNat - 1) := by rcases wOk_cases hw with rfl | rfl | rfl | rfl <;> decide
    have : (2 : Int) ^ (w.toNat - 1) ≤ 2 ^ n := by
      have := Nat.pow_le_pow_right (show 0 < 2 by decide) hn
      exact_mod_cast this
    omega
  have hpos : (0 : Int) < 2 ^ n := Int.pow_pos (by decide)
  by_cases c : s < 0
  · rw [if_pos c]
    have : -1 ≤ s / 2 ^ n := Int.le_ediv_of_mul_le hpos (by omega)
    have : s / 2 ^ n < 0 := Int.ediv_neg_of_neg_of_pos c hpos
    omega
  · rw [if_neg c]
    exact Int.ediv_eq_zero_of_lt (by omega) (by omega)
theorem u64_small {x : Int} (h0 : 0 ≤ x) (h1 : x ≤ 9223372036854775807) : IntKind.wrap .u64 x = x := by
  have e : IntKind.wrap .u64 x = if (false && decide (x % 18446744073709551616 ≥ 9223372036854775808)) = true then x % 18446744073709551616 - 18446744073709551616 else x % 18446744073709551616 := rfl
  rw [e, Bool.false_and, if_neg (by decide)]; omega
theorem two_one {op w a b : Int} (h1 : 1 ≤ op) (h2 : op ≤ 17) (ha : valB w a = true) (hb : valB w b = true) (hd : 4 ≤ op → op ≤ 7 → b ≠ 0) (k : Nat) :
    ∃ x y, spec_l1Two.f k op w a b = some (one x) ∧ impl_reckoned.f k op w a b = some (one y) ∧ maskI w x = maskI w y := by
  obtain ⟨hw, hb0, hb1⟩ := valB_of hb
  have hsb : b ≠ 0 → sgnI w b ≠ 0 := by
    intro hne
    unfold sgnI
    rcases topOf_cases hw with h | h | h | h <;> rw [h.2] at hb1 ⊢ <;> split <;> omega
  have hwr : 1 ≤ w ∧ w ≤ 32 := by rcases wOk_cases hw with rfl | rfl | rfl | rfl <;> decide
  have hbs : b ≤ 4294967295 := by
    refine Int.le_trans hb1 ?_
    rcases topOf_cases hw with h | h | h | h <;> rw [h.2] <;> decide
  have hop : op = 1 ∨ op = 2 ∨ op = 3 ∨ op = 4 ∨ op = 5 ∨ op = 6 ∨ op = 7 ∨ op = 8 ∨ op = 9 ∨ op = 10 ∨ op = 11 ∨ op = 12 ∨ op = 13 ∨ op = 14 ∨ op = 15 ∨ op = 16 ∨ op = 17 := by omega
  have ub : IntKind.wrap .u64 b = b := u64_small hb0 (by omega)
  have uw : IntKind.wrap .u64 (IntKind.wrap .i64 (w - 1)) = w - 1 := by rw [wrap_id (by omega) (by omega)]; exact u64_small (by omega) (by omega)
  unfold impl_reckoned.f spec_l1Two.f
  rw [implSign k ha, implSign k hb, Option.bind_some, Option.bind_some]
  simp only [specSign k ha, specSign k hb, Option.bind_some]
  rcases hop with rfl | rfl | rfl | rfl | rfl | rfl | rfl | rfl | rfl | rfl | rfl | rfl | rfl | rfl | rfl | rfl | rfl
  · exact ⟨_, _, rfl, rfl, rfl⟩
  · exact ⟨_, _, rfl, rfl, rfl⟩
  · exact ⟨_, _, rfl, rfl, mask_mul ha hb⟩
  · have := hd (by decide) (by decide)
    simp [this]
  · have := hsb (hd (by decide) (by decide))
    simp [this]
  · have := hd (by decide) (by decide)
    simp [this]
  · have := hsb (hd (by decide) (by decide))
    simp [this]
  · exact ⟨_, _, rfl, rfl, rfl⟩
  · exact ⟨_, _, rfl, rfl, rfl⟩
  · exact ⟨_, _, rfl, rfl, rfl⟩
  · by_cases c : w ≤ b
    · simp [spec_l1Shift.f, impl_shifted.f, c]
    · simp [spec_l1Shift.f, impl_shifted.f, c, ub, hb0]
  · by_cases c : w ≤ b
    · simp [spec_l1Shift.f, impl_shifted.f, c]
    · simp [spec_l1Shift.f, impl_shifted.f, c, ub, hb0]
  · obtain ⟨s0, s1, -⟩ := sgn_range ha
    have hmn : 0 ≤ bif decide (63 < b) then 63 else b := by by_cases c : 63 < b <;> simp [c, hb0]
    by_cases c : w ≤ b
    · refine ⟨V.shr .i64 (sgnI w a) (w - 1), V.shr .i64 (sgnI w a) (bif decide (63 < b) then 63 else b), ?_, ?_, ?_⟩
      · have h0 : 0 ≤ w - 1 := by omega
        show Option.bind (spec_l1Shift.f k 13 w a b) _ = _
        unfold spec_l1Shift.f
        rw [specSign k ha, Option.bind_some, uw, dpos c, dpos h0]; rfl
      · show Option.bind (impl_shifted.f k 13 w a b) _ = _
        unfold impl_shifted.f
        rw [implSign k ha, Option.bind_some, dpos hmn]; rfl
      · congr 1
        rw [shr_div, shr_div, shr_far hw s0 s1 _ (by omega), shr_far hw s0 s1 _ (by
          by_cases c : 63 < b
          · rw [dpos c, cond_true]; omega
          · rw [dneg c, cond_false]; omega)]
    · refine ⟨V.shr .i64 (sgnI w a) b, V.shr .i64 (sgnI w a) (bif decide (63 < b) then 63 else b), ?_, ?_, ?_⟩
      · simp [spec_l1Shift.f, c, specSign k ha, ub, hb0]
      · show Option.bind (impl_shifted.f k 13 w a b) _ = _
        unfold impl_shifted.f
        rw [implSign k ha, Option.bind_some, dpos hmn]; rfl
      · rw [dneg (show ¬ 63 < b by omega)]; rfl
  · by_cases c : a = b <;> simp [spec_l1Bit.f, impl_truth.f, c]
  · by_cases c : a = b <;> simp [spec_l1Bit.f, impl_truth.f, c]
  · by_cases c : a < b <;> simp [spec_l1Bit.f, impl_truth.f, c]
  · by_cases c : sgnI w a < sgnI w b <;> simp [spec_l1Bit.f, impl_truth.f, c]
abbrev IIQ (p : Int × Int) : (((Int × Unit) × (Int × Unit) × Unit) × Unit) := (((p.1, ()), (p.2, ()), ()), ())
/-- What Binary tells. -/
theorem binary_one (op w a b : Int) (k : Nat) : ∃ r, spec_Binary.f k op w a b = some (IIQ r) ∧ impl_Binary.f k op w a b = some (IIQ r) := by
  unfold spec_Binary.f impl_Binary.f impl_isDivision.f spec_l1Divides.f
  simp only [specIn, implBin, specVal, implVal, implIn, Option.bind_some]
  cases h1 : inB 1 17 op with
  | false => exact ⟨(0, 2), rfl, rfl⟩
  | true =>
    have hop : 1 ≤ op ∧ op ≤ 17 := by simpa [inB] using h1
    cases ha : valB w a with
    | false => exact ⟨(0, 2), rfl, rfl⟩
    | true =>
      cases hb : valB w b with
      | false => exact ⟨(0, 2), rfl, rfl⟩
      | true =>
        simp only [Bool.not_true, cond_false]
        cases hdv : inB 4 7 op with
        | true =>
          by_cases hz : b = 0
          · subst hz; exact ⟨(0, 1), rfl, rfl⟩
          · obtain ⟨x, y, e1, e2, e3⟩ := two_one hop.1 hop.2 ha hb (fun _ _ => hz) k
            simp only [cond_true, dneg hz, cond_false, e1, e2, Option.bind_some, specMask, implMask, e3]
            exact ⟨(_, _), rfl, rfl⟩
        | false =>
          obtain ⟨x, y, e1, e2, e3⟩ := two_one hop.1 hop.2 ha hb (fun u v => by
            have : inB 4 7 op = true := by simp [inB, u, v]
            rw [this] at hdv; cases hdv) k
          simp only [cond_false, e1, e2, Option.bind_some, specMask, implMask, e3]
          exact ⟨(_, _), rfl, rfl⟩
abbrev IBQ (p : Int × Bool) : (((Int × Unit) × (Bool × Unit) × Unit) × Unit) := (((p.1, ()), (p.2, ()), ()), ())
theorem casted_one (op t w v : Int) (k : Nat) : ∃ r, spec_Casted.f k op t w v = some (IBQ r) ∧ impl_Casted.f k op t w v = some (IBQ r) := by
  unfold spec_Casted.f impl_Casted.f
  simp only [specVal, implVal, specW, implW, specMask, implMask, Option.bind_some]
  cases hv : valB t v with
  | false => exact ⟨(0, false), rfl, rfl⟩
  | true =>
    simp only [specSign k hv, implSign k hv, Option.bind_some]
    exact ⟨((bif !wOk w then (0, false) else bif decide (op = 18) then (bif decide (t < w) then (v, true) else bif decide (op = 19) then (bif decide (t < w) then (maskI w (sgnI t v), true) else bif decide (op = 20) then (bif decide (w < t) then (maskI w v, true) else (0, false)) else (0, false)) else (bif decide (op = 20) then (bif decide (w < t) then (maskI w v, true) else (0, false)) else (0, false)))
      else bif decide (op = 19) then (bif decide (t < w) then (maskI w (sgnI t v), true) else bif decide (op = 20) then (bif decide (w < t) then (maskI w v, true) else (0, false)) else (0, false)) else (bif decide (op = 20) then (bif decide (w < t) then (maskI w v, true) else (0, false)) else (0, false)) : Int × Bool)),
      by cases wOk w <;> cases decide (op = 18) <;> cases decide (op = 19) <;> cases decide (op = 20) <;> cases decide (t < w) <;> cases decide (w < t) <;> rfl,
      by cases wOk w <;> cases decide (op = 18) <;> cases decide (op = 19) <;> cases decide (op = 20) <;> cases decide (t < w) <;> cases decide (w < t) <;> rfl⟩
end Go.Proofs.YtkfehogikjcgkaaGreat.V
